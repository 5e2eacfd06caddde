/-
 The program's functions as plain functions: by a tool; each follows the interpreter.
-/
import Derived.Test.YtdmgdjnadbakfaaT2
import Derived.KernelRfl
namespace Go.Proofs.Ytdmgdjnadbakfaa
open Go.Proofs.Try (prog)
set_option linter.unusedVariables false
set_option linter.unusedSimpArgs false
set_option maxHeartbeats 4000000
set_option maxRecDepth 100000
variable (C:Nat->List A->Option A) (n:Nat) {ρ γ:Type} {φ:ρ->γ->Prop} {kL:R->Option ρ} (kx kg:Nat->St->Option R) (kr:St->Option R) (kp:A->St->Option R)
def hU (n:Nat) (v1:(List (List UInt8))) (d:aj):Nat->Int->Int->Int->(List (List UInt8))->Option ((List (List UInt8)))
 | 0,_,_,_,_=>none
 | m+1,v2,h,v4,v6=>bif (decide (v4<((d.Order.length:Int)))) then ((bw d.Order v4).bind fun u=>bif u then ((bw d.Leases v2).bind fun p=>(Ip ([1,p.No,p.Holder,p.Until])).bind fun y=>(G4 y).bind fun ab=>(cQ 24 v6 ([ab.1])).bind fun ad=>hU n v1 d m (wr .i64 (v2+1)) h (wr .i64 (v4+1)) ad) else ((bw d.Calls h).bind fun q=>(Ip ([2,q.Bar,q.Program])).bind fun an=>(G4 an).bind fun ao=>(cQ 24 v6 ([ao.1])).bind fun bm=>hU n v1 d m v2 (wr .i64 (h+1)) (wr .i64 (v4+1)) bm)) else (some v6)
theorem Cv (ca:Cb C) (cb:Cc C) (v1:(List (List UInt8))) (d:aj) {K:((List (List UInt8)))->Option γ} (x0:∀ (o0:(List (List UInt8))) (s1:A) (s2:A) (s4:A) (s5:A) (s6:A),J φ (kx 0 (St.mk [(1,s1),(2,s2),(3,(aX 1 0 o0.length false)),(4,s4),(5,s5),(6,s6)] [bx (aa d),aA.row false 1 (List.map (cL c8) o0)])) kL (K o0) some) :
  ∀ (m:Nat) (v2:Int) (v3:Int) (v4:Int) (v6:(List (List UInt8))),J φ (aH (cx C) (ec C n 8) (ey C n 8) (n+8) 31 0 0 2 kx kg kr kp m (St.mk [(1,(pt 0 0)),(2,(im (List.map (cL c8) v1) true)),(3,(aX 1 0 v6.length false)),(4,(iA v2)),(5,(iA v3)),(6,(iA v4))] [bx (aa d),aA.row false 1 (List.map (cL c8) v6)])) kL (hU n v1 d m v2 v3 v4 v6) K:=by
 intro m
 induction m with
 | zero=>intros; exact .nn
 | succ m ih =>
  intro v2 v3 v4 v6
  refine .lp (Ju ..) ?_
  unfold hU
  refine .s (pt 0 3) (.s (im (d.Order.map cB) false) (.st (dQ (e:=4)) (.st (aS ..) (.aP (fun cv=>?_) (fun cv=>?_)))))
  ·refine .s (ag [(iA 0),(iA 0),se,(im [] true)]) (.sq (pt 2 0) (.s [bx (aa d),aA.row false 1 (List.map (cL c8) v6),fm] (.s (pt 0 3) (.s (im (d.Order.map cB) false) (.bd (fJ (e:=4) (es:=1)) fun y8=>.s (bA y8) (.aP (fun dd=>?_) (fun dd=>?_)))))))
   ·refine .s (pt 0 1) (.s (im (d.Leases.map ae) false) (.bd (fJ (e:=59) (es:=3)) fun u=>.s (ag (ae u)) (.sq (pt 3 0) (.s [bx (aa d),aA.row false 1 (List.map (cL c8) v6),fm,bx (ae u)] (.s (pt 3 0) (.s (iA u.No) (.s (pt 3 1) (.s (iA u.Holder) (.s (pt 3 2) (.s (iA u.Until) (.s (im [[(iA 1)],[(iA u.No)],[(iA u.Holder)],[(iA u.Until)]] true) (.bd (g:=fun (y:ai)=>(ag [(iA y.Kind),(iA y.N),(sA y.S),(im (y.L.map af) false)])) (by show C 57 [snap _ (im [[(iA 1)],[(iA u.No)],[(iA u.Holder)],[(iA u.Until)]] true)]=_; simp only[cR,dS,di (H:=[bx (aa d),aA.row false 1 (List.map (cL c8) v6),fm,bx (ae u)]) (b:=1) (es:=1) (l:=v6) (eN dc) rfl]; exact ca ([1,u.No,u.Holder,u.Until])) fun h=>.s [bx (aa d),aA.row false 1 (List.map (cL c8) v6),bx [(iA h.Kind),(iA h.N),(sA h.S),(im (h.L.map af) false)],bx (ae u)] (.st (aD ..) (.s (ag [(iA h.Kind),(iA h.N),(sA h.S),(im (h.L.map af) false)]) (.bd (g:=fun (y:((List UInt8)×Int))=>(tp [(im (y.1.map c8) false),(iA y.2)])) (by show C 58 [snap _ (ag [(iA h.Kind),(iA h.N),(sA h.S),(im (h.L.map af) false)])]=_; simp only[cR,dS,di (H:=[bx (aa d),aA.row false 1 (List.map (cL c8) v6),bx [(iA h.Kind),(iA h.N),(sA h.S),(im (h.L.map af) false)],bx (ae u)]) (b:=1) (es:=1) (l:=v6) (eN dc) rfl]; exact cb h) fun ab=>.s (im (ab.1.map c8) false) (.s (iA ab.2) (.s (im [[(im (ab.1.map c8) false)]] true) (.bd (g:=fun (y:List (List UInt8))=>((aX 1 0 y.length false),[bx (aa d),aA.row false 1 (List.map (cL c8) y),bx [(iA h.Kind),(iA h.N),(sA h.S),(im (h.L.map af) false)],bx (ae u)])) (bV nE (l:=v6) (l2:=[ab.1]) (b:=1) rfl (by decide) (aY (f:=(cL c8)) ([ab.1]:List (List UInt8)) _ _)) fun bm=>.st (aD ..) ?_))))))))))))))))))
    refine .st (v:=[bx (aa d),aA.row false 1 (List.map (cL c8) bm)]) ((by kernel_rfl:_=(bif ((((au 2 (d.Leases.map ae))&&((au 2 (d.Calls.map ah))&&((au 2 (d.Order.map cB))&&true))))&&((au 2 (List.map (cL c8) bm))&&true)) then some [bx (aa d),aA.row false 1 (List.map (cL c8) bm)] else none)).trans (by simp only[iC,iD])) (.cT ((by kernel_rfl:_=(bif au 2 (List.map (cL c8) v1) then true else false)).trans (by simp only[iC,iD])) ?_)
    exact ih _ _ _ _
   refine .s (pt 0 2) (.s (im (d.Calls.map ah) false) (.bd (fJ (e:=62) (es:=2)) fun q=>.s (ag [(iA q.Bar),(iA q.Program)]) (.sq (pt 3 0) (.s [bx (aa d),aA.row false 1 (List.map (cL c8) v6),fm,bx [(iA q.Bar),(iA q.Program)]] (.s (pt 3 0) (.s (iA q.Bar) (.s (pt 3 1) (.s (iA q.Program) (.s (im [[(iA 2)],[(iA q.Bar)],[(iA q.Program)]] true) (.bd (g:=fun (y:ai)=>(ag [(iA y.Kind),(iA y.N),(sA y.S),(im (y.L.map af) false)])) (by show C 57 [snap _ (im [[(iA 2)],[(iA q.Bar)],[(iA q.Program)]] true)]=_; simp only[cR,dS,di (H:=[bx (aa d),aA.row false 1 (List.map (cL c8) v6),fm,bx [(iA q.Bar),(iA q.Program)]]) (b:=1) (es:=1) (l:=v6) (eN dc) rfl]; exact ca ([2,q.Bar,q.Program])) fun p=>.s [bx (aa d),aA.row false 1 (List.map (cL c8) v6),bx [(iA p.Kind),(iA p.N),(sA p.S),(im (p.L.map af) false)],bx [(iA q.Bar),(iA q.Program)]] (.st (aD ..) (.s (ag [(iA p.Kind),(iA p.N),(sA p.S),(im (p.L.map af) false)]) (.bd (g:=fun (y:((List UInt8)×Int))=>(tp [(im (y.1.map c8) false),(iA y.2)])) (by show C 58 [snap _ (ag [(iA p.Kind),(iA p.N),(sA p.S),(im (p.L.map af) false)])]=_; simp only[cR,dS,di (H:=[bx (aa d),aA.row false 1 (List.map (cL c8) v6),bx [(iA p.Kind),(iA p.N),(sA p.S),(im (p.L.map af) false)],bx [(iA q.Bar),(iA q.Program)]]) (b:=1) (es:=1) (l:=v6) (eN dc) rfl]; exact cb p) fun ad=>.s (im (ad.1.map c8) false) (.s (iA ad.2) (.s (im [[(im (ad.1.map c8) false)]] true) (.bd (g:=fun (y:List (List UInt8))=>((aX 1 0 y.length false),[bx (aa d),aA.row false 1 (List.map (cL c8) y),bx [(iA p.Kind),(iA p.N),(sA p.S),(im (p.L.map af) false)],bx [(iA q.Bar),(iA q.Program)]])) (bV nE (l:=v6) (l2:=[ad.1]) (b:=1) rfl (by decide) (aY (f:=(cL c8)) ([ad.1]:List (List UInt8)) _ _)) fun bs=>.st (aD ..) ?_))))))))))))))))
   refine .st (v:=[bx (aa d),aA.row false 1 (List.map (cL c8) bs)]) ((by kernel_rfl:_=(bif ((((au 2 (d.Leases.map ae))&&((au 2 (d.Calls.map ah))&&((au 2 (d.Order.map cB))&&true))))&&((au 2 (List.map (cL c8) bs))&&true)) then some [bx (aa d),aA.row false 1 (List.map (cL c8) bs)] else none)).trans (by simp only[iC,iD])) (.cT ((by kernel_rfl:_=(bif au 2 (List.map (cL c8) v1) then true else false)).trans (by simp only[iC,iD])) ?_)
   exact ih _ _ _ _
  exact .ex (x0 _ _ _ _ _ _)
def Lj (n:Nat) (d:aj):Option (List (List UInt8)) :=
 (hU n ([]) d (n+8) 0 0 0 (([]:List (List UInt8)))).bind fun h=>match h with | p=>some p
theorem Qy (C:OT) (n:Nat) (p:Cb C) (q:Cc C) (d:aj):J (fun (o:R) y=>∃ v,o.1=.ret v/\aE o.2 v=(im (List.map (cL c8) y) false)) (av (cx C) (ec C n 8) (ey C n 8) (n+8) 31 [(ag (aa d))] [] 0) some (Lj n d) some:=by
 refine .lp (Re ..) ?_
 unfold Lj
 refine .s ((pt 0 0),[bx (aa d)]) (.as (Cv C n _ _ _ _ p q ([]) d ?_ _ 0 0 0 (([]:List (List UInt8)))))
 ·intro h u ab ad an ao
  exact .un rfl (.cT (by kernel_rfl) (.lv (by show aE [bx (aa d),aA.row false 1 (List.map (cL c8) h)] (aX 1 0 h.length false)=_; first | (simp only[cR,dS,aE,aV (H:=[bx (aa d),aA.row false 1 (List.map (cL c8) h)]) (b:=1) (es:=1) (wr:=false) (l:=h) (eN dc) rfl]; done) | (simp only[cR,jL,aE,aV (H:=[bx (aa d),aA.row false 1 (List.map (cL c8) h)]) (b:=1) (es:=1) (wr:=false) (l:=h) (eN dc) rfl]; first | done | rfl))))
def LF (d:aj):Option (List (List UInt8)):=Lj aC d
def F0 (C:OT):Prop:=∀ (d:aj),C 31 [(ag (aa d))]=(LF d).map fun y=>(im (List.map (cL c8) y) false)
def IE (n:Nat) (d:aj):Option ((List (List UInt8))×Int) :=
 (IU d).bind fun h=>bif (h != 0) then (some (([],h))) else ((LF d).bind fun p=>some ((p,0)))
theorem Qk (C:OT) (n:Nat) (h:FZ C) (p:F0 C) (d:aj):J (fun (o:R) y=>∃ v,o.1=.ret v/\aE o.2 v=(tp [(im (List.map (cL c8) y.1) false),(iA y.2)])) (av (cx C) (ec C n 8) (ey C n 8) (n+8) 10 [(ag (aa d))] [] 0) some (IE n d) some:=by
 refine .lp (Q1 ..) ?_
 unfold IE
 refine .s ((pt 0 0),[bx (aa d)]) (.s (ag (aa d)) (.bd (g:=fun (y:Int)=>(iA y)) (by show C 30 [snap _ (ag (aa d))]=_; simp only[cR,dS]; exact h d) fun q=>.st (ba ..) (.aP (fun u=>?_) (fun u=>?_))))
 ·exact .lv (by show aE _ (tp [(im [] true),(iA q)])=_; simp only[cR,jL,aE]; first | done | rfl)
 exact .s (ag (aa d)) (.bd (g:=fun (y:(List (List UInt8)))=>(im (List.map (cL c8) y) false)) (by show C 31 [snap _ (ag (aa d))]=_; simp only[cR,dS]; exact p d) fun y3=>.lv (by show aE _ (tp [(im (List.map (cL c8) y3) false),(iA 0)])=_; simp only[cR,jL,aE]; first | done | rfl))
def FR (d:aj):Option ((List (List UInt8))×Int):=IE aC d
def B1 (C:OT):Prop:=∀ (d:aj),C 10 [(ag (aa d))]=(FR d).map fun y=>(tp [(im (List.map (cL c8) y.1) false),(iA y.2)])
def aq:aA:=bx [(iA 0),(iA 0),se,(im [] true)]
def nJ (d:Int) (h:Int) (p:ByteArray) (q:(List ai)):aA:=bx [(iA d),(iA h),(sA p),(im (q.map af) true)]
def nK (d:Int) (h:Int) (p:ByteArray) (q:(List ai)):aA:=bx [(iA d),(iA h),(sA p),(im (q.map af) true)]
def nL (d:Int) (h:Int) (p:ByteArray) (q:(List ai)):aA:=bx [(iA d),(iA h),(sA p),(im (q.map af) true)]
def nM (d:Int) (h:Int) (p:ByteArray) (q:(List ai)):aA:=bx [(iA d),(iA h),(sA p),(im (q.map af) true)]
def nN (d:Int) (h:Int) (p:ByteArray) (q:(List ai)):aA:=bx [(iA d),(iA h),(sA p),(im (q.map af) true)]
def nO (d:Int) (h:Int) (p:ByteArray) (q:(List ai)):aA:=bx [(iA d),(iA h),(sA p),(im (q.map af) true)]
def iX (d:Int) (h:Int) (p:ByteArray):aA:=bx [(iA d),(iA h),(sA p),(im [] true)]
def iY (v10:Int) (v11:Int) (d:ByteArray):aA:=bx [(iA v10),(iA v11),(sA d),(im [] true)]
def gw (d:Int) (h:Int) (p:ByteArray):aA:=bx [(iA d),(iA h),(sA p),(im [] true)]
def kR (d:(List UInt8)) (h:Int) (p:Int) (q:Bool):aA:=bx [(im (d.map c8) false),(iA (wr .i64 (h+(wr .i64 (p))))),(bA q)]
def kS (d:(List ai)):aA:=bx [(iA 3),(iA 0),se,(aX 4 0 d.length false)]
def kT (d:(List ai)):aA:=bx [(iA 3),(iA 0),se,(aX 4 0 d.length false)]
def kU (d:(List ai)):aA:=bx [(iA 3),(iA 0),se,(aX 4 0 d.length false)]
def kV (d:(List ai)):aA:=bx [(iA 3),(iA 0),se,(aX 4 0 d.length false)]
def kW (d:(List ai)):aA:=bx [(iA 3),(iA 0),se,(aX 4 0 d.length false)]
def kX (d:(List ai)):aA:=bx [(iA 3),(iA 0),se,(aX 4 0 d.length false)]
def kY (d:(List UInt8)) (h:Int) (p:Int) (q:Bool):aA:=bx [(im (d.map c8) false),(iA (wr .i64 (h+(wr .i64 (p))))),(bA q)]
def q7 (C:OT) (N:Nat) (self:(List UInt8)->Int->Bool->Int->Option (ai×Int×Bool)):Prop:=∀ (d:(List UInt8)) (h:Int) (p:Bool) (q:Int) (X:ay),J (fun (o:R) (y:(ai×Int×Bool))=>o=(Out.ret (ag [(iA y.1.Kind),(iA y.1.N),(sA y.1.S),(im (y.1.L.map af) false)]),[aq,bx [(im (d.map c8) false),(iA y.2.1),(bA y.2.2)]]++X)) (br (cx C) N 84 [(pt 1 0),(iA q)] ([aq,bx [(im (d.map c8) false),(iA h),(bA p)]]++X) 0) some (self d h p q) some
def jq (self:(List UInt8)->Int->Bool->Int->Option (ai×Int×Bool)) (n:Nat) (v4:Int) (p:(List UInt8)) (u:Bool) (v10:Int) (v11:Int) (y:ByteArray):Nat->Int->Int->Int->Option ((Int×Int×Bool)⊕((Int×Int)⊕(Int)))
 | 0,_,_,_=>none
 | m+1,q,v6,d=>bif (!u) then (bif (decide (((p.length:Int))<=d)) then ((bif (v6==9) then (some false) else (some false)).bind fun ab=>(bif ab then (some true) else ((bif (decide (0<v6)) then (some true) else (some false)).bind fun ad=>some ad)).bind fun an=>bif an then (some ((Sum.inl ((0,d,true))))) else (bif decide (0<=(wr .i64 (7*v6))) then (some ((Sum.inl ((wr .u64 (q+(gQ .u64 (wr .u64 (Int.tmod 0 128)) (wr .i64 (7*v6)))),d,true))))) else none)) else ((bw p (wr .i64 ((wr .i64 (d+1)) - 1))).bind fun h=>(bif (v6==9) then (some (decide (1<((h.toNat:Int))))) else (some false)).bind fun ao=>(bif ao then (some true) else ((bif (decide (0<v6)) then (some (((h.toNat:Int))==0)) else (some false)).bind fun bm=>some bm)).bind fun bs=>bif bs then (some ((Sum.inl ((0,wr .i64 (d+1),true))))) else (bif decide (0<=(wr .i64 (7*v6))) then (bif (decide (((h.toNat:Int))<128)) then (some ((Sum.inr ((Sum.inl ((wr .u64 (q+(gQ .u64 (wr .u64 (Int.tmod ((h.toNat:Int)) 128)) (wr .i64 (7*v6)))),wr .i64 (d+1)))))))) else (jq self n v4 p u v10 v11 y m (wr .u64 (q+(gQ .u64 (wr .u64 (Int.tmod ((h.toNat:Int)) 128)) (wr .i64 (7*v6))))) (wr .i64 (v6+1)) (wr .i64 (d+1)))) else none))) else (some ((Sum.inr ((Sum.inr d)))))
theorem yc (self:(List UInt8)->Int->Bool->Int->Option (ai×Int×Bool)) (hS:q7 C (n+8) self) (v4:Int) (d:(List UInt8)) (q:Bool) (v10:Int) (v11:Int) (p:ByteArray) {K:((Int×Int×Bool)⊕((Int×Int)⊕(Int)))->Option γ} (x0:∀ (u:Int) (o1:Int) (o2:Bool) (s0:A) (s3:A) (s4:A),J φ (kr (St.mk [(0,s0),(2,(A.v (.int .u64 u))),(3,s3),(4,s4)] [aq,bx [(im (d.map c8) false),(iA o1),(bA o2)],(iY v10 v11 p)])) kL (K (Sum.inl ((u,o1,o2)))) some) (x1:∀ (u:Int) (o1:Int) (s0:A) (s3:A) (s4:A),J φ (kr (St.mk [(0,s0),(2,(A.v (.int .u64 u))),(3,s3),(4,s4)] [aq,bx [(im (d.map c8) false),(iA o1),(bA q)],(iY v10 v11 p)])) kL (K (Sum.inr ((Sum.inl ((u,o1)))))) some) (x2:∀ (u:Int) (s0:A) (s2:A) (s3:A) (s4:A),J φ (kx 0 (St.mk [(0,s0),(2,s2),(3,s3),(4,s4)] [aq,bx [(im (d.map c8) false),(iA u),(bA q)],(iY v10 v11 p)])) kL (K (Sum.inr ((Sum.inr u)))) some) :
  ∀ (m:Nat) (v5:Int) (v6:Int) (h:Int),J φ (aH (cx C) (ec C n 7) (ey C n 7) (n+7) 106 0 0 3 kx kg kr kp m (St.mk [(0,(pt 1 0)),(2,(A.v (.int .u64 v4))),(3,(A.v (.int .u64 v5))),(4,(iA v6))] [aq,bx [(im (d.map c8) false),(iA h),(bA q)],(iY v10 v11 p)])) kL (jq self n v4 d q v10 v11 p m v5 v6 h) K:=by
 intro m
 induction m with
 | zero=>intros; exact .nn
 | succ m ih =>
  intro v5 v6 h
  refine .lp (yI ..) ?_
  unfold jq
  refine .s (pt 1 0) (.s (pt 1 2) (.s (bA q) (.s (bA (!q)) (.aP (fun hp=>?_) (fun hp=>?_)))))
  ·refine .cl ((aK vB).trans (EI C (br (cx C) (n+6)) (aI (cx C) (n+6)) (n+6) _ _ _)) (.s (pt 1 0) (.s (pt 1 1) (.s (iA h) (.s (pt 1 0) (.s (pt 1 0) (.s (im (d.map c8) false) (.st (dQ (e:=5)) (.st (dB ..) (.aP (fun hq=>?_) (fun hq=>?_))))))))))
   ·refine .s (pt 1 0) (.s (pt 1 2) (.s [aq,bx [(im (d.map c8) false),(iA h),(bA true)],(iY v10 v11 p)] (.cr (.ok (.st (aN ..) (.bg (fun t (y:Bool)=>∃ cb cc:A,t=[(bA y),cb,cc]) ?_ ?_))))))
    ·refine .dg (fun hr=>?_) (fun hr=>?_)
     ·exact .s (bA false) (.lg ⟨_,_,rfl⟩)
     exact .lg ⟨_,_,rfl⟩
    rintro _ kk ⟨cb,cc,rfl⟩
    refine .uc (.uc (.uc (.bg (fun t (y:Bool)=>∃ ch ck cm cv cy dd:A,t=[(bA y),ch,ck,cm,cv,cy,dd]) ?_ ?_)))
    ·refine .dg (fun ht=>?_) (fun ht=>?_)
     ·exact .lg ⟨_,_,_,_,_,_,rfl⟩
     refine .st (bQ ..) (.bg (fun t (y:Bool)=>∃ ds ea:A,t=[(bA y),ds,ea]) ?_ ?_)
     ·refine .dg (fun hv=>?_) (fun hv=>?_)
      ·exact .s (bA true) (.lg ⟨_,_,rfl⟩)
      exact .lg ⟨_,_,rfl⟩
     rintro _ kn ⟨ds,ea,rfl⟩
     exact .uc (.uc (.uc (.lg ⟨_,_,_,_,_,_,rfl⟩)))
    rintro _ ko ⟨ch,ck,cm,cv,cy,dd,rfl⟩
    refine .u4 (.uc (.uc (.uc (.aP (fun hx=>?_) (fun hx=>?_)))))
    ·exact .s (pt 1 0) (.s (pt 1 2) (.s [aq,bx [(im (d.map c8) false),(iA h),(bA true)],(iY v10 v11 p)] (.ex (x0 _ _ _ _ _ _))))
    exact .st (fF (hb:=by decide) ..) (.st (v:=(A.v (.int .u64 (wr .u64 (Int.tmod 0 128))))) (az (hs:=by kernel_rfl) (hd:=by kernel_rfl) ..) (.st (fg ..) (.gd fun hg=>.st (fG (hb:=of_decide_eq_true hg) ..) (.st (aD ..) (.s (bA true) (.CP (.ex (x0 _ _ _ _ _ _))))))))
   refine .s (pt 1 0) (.s (pt 1 1) (.s (iA h) (.st (aD ..) (.s (pt 1 0) (.s (pt 1 1) (.s [aq,bx [(im (d.map c8) false),(iA (wr .i64 (h+1))),(bA q)],(iY v10 v11 p)] (.s (pt 1 0) (.s (pt 1 0) (.s (im (d.map c8) false) (.s (pt 1 0) (.s (pt 1 1) (.s (iA (wr .i64 (h+1))) (.st (cX ..) (.bd (fJ (e:=5) (es:=1)) fun eg=>.s (uA ((eg.toNat:Int))) (.cr (.ok (.st (aN ..) (.bg (fun t (y:Bool)=>∃ ei ej:A,t=[(bA y),ei,ej]) ?_ ?_))))))))))))))))))
   ·refine .dg (fun hy=>?_) (fun hy=>?_)
    ·exact .st (bQ ..) (.lg ⟨_,_,rfl⟩)
    exact .lg ⟨_,_,rfl⟩
   rintro _ kt ⟨ei,ej,rfl⟩
   refine .uc (.uc (.uc (.bg (fun t (y:Bool)=>∃ fs fv gf ha hf hh:A,t=[(bA y),fs,fv,gf,ha,hf,hh]) ?_ ?_)))
   ·refine .dg (fun ie=>?_) (fun ie=>?_)
    ·exact .lg ⟨_,_,_,_,_,_,rfl⟩
    refine .st (bQ ..) (.bg (fun t (y:Bool)=>∃ hi hj:A,t=[(bA y),hi,hj]) ?_ ?_)
    ·refine .dg (fun ik=>?_) (fun ik=>?_)
     ·exact .st (aN ..) (.lg ⟨_,_,rfl⟩)
     exact .lg ⟨_,_,rfl⟩
    rintro _ la ⟨hi,hj,rfl⟩
    exact .uc (.uc (.uc (.lg ⟨_,_,_,_,_,_,rfl⟩)))
   rintro _ lb ⟨fs,fv,gf,ha,hf,hh,rfl⟩
   refine .u4 (.uc (.uc (.uc (.aP (fun js=>?_) (fun js=>?_)))))
   ·exact .s (pt 1 0) (.s (pt 1 2) (.s [aq,bx [(im (d.map c8) false),(iA (wr .i64 (h+1))),(bA true)],(iY v10 v11 p)] (.ex (x0 _ _ _ _ _ _))))
   refine .st (fF (hb:=by decide) ..) (.st (v:=(A.v (.int .u64 (wr .u64 (Int.tmod ((eg.toNat:Int)) 128))))) (az (hs:=by kernel_rfl) (hd:=by kernel_rfl) ..) (.st (fg ..) (.gd fun hg=>.st (fG (hb:=of_decide_eq_true hg) ..) (.st (aD ..) (.st (aS ..) (.aP (fun kc=>?_) (fun kc=>?_)))))))
   ·exact .ex (x1 _ _ _ _ _)
   refine .st (aD ..) (.s [aq,bx [(im (d.map c8) false),(iA (wr .i64 (h+1))),(bA q)],(iY v10 v11 p)] (.cT (by kernel_rfl) ?_))
   exact ih _ _ _
  exact .ex (x2 _ _ _ _ _)
def ig (self:(List UInt8)->Int->Bool->Int->Option (ai×Int×Bool)) (n:Nat) (ab:Int) (q:(List UInt8)) (y:Bool) (ad:Int) (an:Int) (ao:ByteArray):Nat->Int->Int->Int->Option ((Int×Int×Bool)⊕((Int×Int)⊕(Int)))
 | 0,_,_,_=>none
 | m+1,u,d,h=>bif (!y) then (bif (decide (((q.length:Int))<=h)) then ((bif (d==9) then (some false) else (some false)).bind fun bm=>(bif bm then (some true) else ((bif (decide (0<d)) then (some true) else (some false)).bind fun bs=>some bs)).bind fun ca=>bif ca then (some ((Sum.inl ((0,h,true))))) else (bif decide (0<=(wr .i64 (7*d))) then (some ((Sum.inl ((wr .u64 (u+(gQ .u64 (wr .u64 (Int.tmod 0 128)) (wr .i64 (7*d)))),h,true))))) else none)) else ((bw q (wr .i64 ((wr .i64 (h+1)) - 1))).bind fun p=>(bif (d==9) then (some (decide (1<((p.toNat:Int))))) else (some false)).bind fun cb=>(bif cb then (some true) else ((bif (decide (0<d)) then (some (((p.toNat:Int))==0)) else (some false)).bind fun cc=>some cc)).bind fun ch=>bif ch then (some ((Sum.inl ((0,wr .i64 (h+1),true))))) else (bif decide (0<=(wr .i64 (7*d))) then (bif (decide (((p.toNat:Int))<128)) then (some ((Sum.inr ((Sum.inl ((wr .u64 (u+(gQ .u64 (wr .u64 (Int.tmod ((p.toNat:Int)) 128)) (wr .i64 (7*d)))),wr .i64 (h+1)))))))) else (ig self n ab q y ad an ao m (wr .u64 (u+(gQ .u64 (wr .u64 (Int.tmod ((p.toNat:Int)) 128)) (wr .i64 (7*d))))) (wr .i64 (d+1)) (wr .i64 (h+1)))) else none))) else (some ((Sum.inr ((Sum.inr h)))))
theorem vZ (self:(List UInt8)->Int->Bool->Int->Option (ai×Int×Bool)) (hS:q7 C (n+8) self) (ch:Int) (d:(List UInt8)) (ab:Bool) (p:Int) (q:Int) (u:ByteArray) {K:((Int×Int×Bool)⊕((Int×Int)⊕(Int)))->Option γ} (x0:∀ (o0:Int) (o1:Int) (o2:Bool) (s0:A) (s3:A) (s4:A),J φ (kr (St.mk [(0,s0),(2,(A.v (.int .u64 o0))),(3,s3),(4,s4)] [aq,bx [(im (d.map c8) false),(iA o1),(bA o2)],(gw p q u)])) kL (K (Sum.inl ((o0,o1,o2)))) some) (x1:∀ (o0:Int) (o1:Int) (s0:A) (s3:A) (s4:A),J φ (kr (St.mk [(0,s0),(2,(A.v (.int .u64 o0))),(3,s3),(4,s4)] [aq,bx [(im (d.map c8) false),(iA o1),(bA ab)],(gw p q u)])) kL (K (Sum.inr ((Sum.inl ((o0,o1)))))) some) (x2:∀ (o0:Int) (s0:A) (s2:A) (s3:A) (s4:A),J φ (kx 0 (St.mk [(0,s0),(2,s2),(3,s3),(4,s4)] [aq,bx [(im (d.map c8) false),(iA o0),(bA ab)],(gw p q u)])) kL (K (Sum.inr ((Sum.inr o0)))) some) :
  ∀ (m:Nat) (cb:Int) (cc:Int) (h:Int),J φ (aH (cx C) (ec C n 7) (ey C n 7) (n+7) 106 0 0 3 kx kg kr kp m (St.mk [(0,(pt 1 0)),(2,(A.v (.int .u64 ch))),(3,(A.v (.int .u64 cb))),(4,(iA cc))] [aq,bx [(im (d.map c8) false),(iA h),(bA ab)],(gw p q u)])) kL (ig self n ch d ab p q u m cb cc h) K:=by
 intro m
 induction m with
 | zero=>intros; exact .nn
 | succ m ih =>
  intro cb cc h
  refine .lp (yI ..) ?_
  unfold ig
  refine .s (pt 1 0) (.s (pt 1 2) (.s (bA ab) (.s (bA (!ab)) (.aP (fun hv=>?_) (fun hv=>?_)))))
  ·refine .cl ((aK vB).trans (EI C (br (cx C) (n+6)) (aI (cx C) (n+6)) (n+6) _ _ _)) (.s (pt 1 0) (.s (pt 1 1) (.s (iA h) (.s (pt 1 0) (.s (pt 1 0) (.s (im (d.map c8) false) (.st (dQ (e:=5)) (.st (dB ..) (.aP (fun hx=>?_) (fun hx=>?_))))))))))
   ·refine .s (pt 1 0) (.s (pt 1 2) (.s [aq,bx [(im (d.map c8) false),(iA h),(bA true)],(gw p q u)] (.cr (.ok (.st (aN ..) (.bg (fun t (y:Bool)=>∃ cm cv:A,t=[(bA y),cm,cv]) ?_ ?_))))))
    ·refine .dg (fun hy=>?_) (fun hy=>?_)
     ·exact .s (bA false) (.lg ⟨_,_,rfl⟩)
     exact .lg ⟨_,_,rfl⟩
    rintro _ la ⟨cm,cv,rfl⟩
    refine .uc (.uc (.uc (.bg (fun t (y:Bool)=>∃ cy dd ds ea eg ei:A,t=[(bA y),cy,dd,ds,ea,eg,ei]) ?_ ?_)))
    ·refine .dg (fun ie=>?_) (fun ie=>?_)
     ·exact .lg ⟨_,_,_,_,_,_,rfl⟩
     refine .st (bQ ..) (.bg (fun t (y:Bool)=>∃ ej fs:A,t=[(bA y),ej,fs]) ?_ ?_)
     ·refine .dg (fun ik=>?_) (fun ik=>?_)
      ·exact .s (bA true) (.lg ⟨_,_,rfl⟩)
      exact .lg ⟨_,_,rfl⟩
     rintro _ lb ⟨ej,fs,rfl⟩
     exact .uc (.uc (.uc (.lg ⟨_,_,_,_,_,_,rfl⟩)))
    rintro _ lx ⟨cy,dd,ds,ea,eg,ei,rfl⟩
    refine .u4 (.uc (.uc (.uc (.aP (fun js=>?_) (fun js=>?_)))))
    ·exact .s (pt 1 0) (.s (pt 1 2) (.s [aq,bx [(im (d.map c8) false),(iA h),(bA true)],(gw p q u)] (.ex (x0 _ _ _ _ _ _))))
    exact .st (fF (hb:=by decide) ..) (.st (v:=(A.v (.int .u64 (wr .u64 (Int.tmod 0 128))))) (az (hs:=by kernel_rfl) (hd:=by kernel_rfl) ..) (.st (fg ..) (.gd fun hg=>.st (fG (hb:=of_decide_eq_true hg) ..) (.st (aD ..) (.s (bA true) (.CP (.ex (x0 _ _ _ _ _ _))))))))
   refine .s (pt 1 0) (.s (pt 1 1) (.s (iA h) (.st (aD ..) (.s (pt 1 0) (.s (pt 1 1) (.s [aq,bx [(im (d.map c8) false),(iA (wr .i64 (h+1))),(bA ab)],(gw p q u)] (.s (pt 1 0) (.s (pt 1 0) (.s (im (d.map c8) false) (.s (pt 1 0) (.s (pt 1 1) (.s (iA (wr .i64 (h+1))) (.st (cX ..) (.bd (fJ (e:=5) (es:=1)) fun fv=>.s (uA ((fv.toNat:Int))) (.cr (.ok (.st (aN ..) (.bg (fun t (y:Bool)=>∃ gf ha:A,t=[(bA y),gf,ha]) ?_ ?_))))))))))))))))))
   ·refine .dg (fun kc=>?_) (fun kc=>?_)
    ·exact .st (bQ ..) (.lg ⟨_,_,rfl⟩)
    exact .lg ⟨_,_,rfl⟩
   rintro _ ly ⟨gf,ha,rfl⟩
   refine .uc (.uc (.uc (.bg (fun t (y:Bool)=>∃ hf hh hi hj hk ho:A,t=[(bA y),hf,hh,hi,hj,hk,ho]) ?_ ?_)))
   ·refine .dg (fun kk=>?_) (fun kk=>?_)
    ·exact .lg ⟨_,_,_,_,_,_,rfl⟩
    refine .st (bQ ..) (.bg (fun t (y:Bool)=>∃ hp hq:A,t=[(bA y),hp,hq]) ?_ ?_)
    ·refine .dg (fun kn=>?_) (fun kn=>?_)
     ·exact .st (aN ..) (.lg ⟨_,_,rfl⟩)
     exact .lg ⟨_,_,rfl⟩
    rintro _ mn ⟨hp,hq,rfl⟩
    exact .uc (.uc (.uc (.lg ⟨_,_,_,_,_,_,rfl⟩)))
   rintro _ mx ⟨hf,hh,hi,hj,hk,ho,rfl⟩
   refine .u4 (.uc (.uc (.uc (.aP (fun ko=>?_) (fun ko=>?_)))))
   ·exact .s (pt 1 0) (.s (pt 1 2) (.s [aq,bx [(im (d.map c8) false),(iA (wr .i64 (h+1))),(bA true)],(gw p q u)] (.ex (x0 _ _ _ _ _ _))))
   refine .st (fF (hb:=by decide) ..) (.st (v:=(A.v (.int .u64 (wr .u64 (Int.tmod ((fv.toNat:Int)) 128))))) (az (hs:=by kernel_rfl) (hd:=by kernel_rfl) ..) (.st (fg ..) (.gd fun hg=>.st (fG (hb:=of_decide_eq_true hg) ..) (.st (aD ..) (.st (aS ..) (.aP (fun kt=>?_) (fun kt=>?_)))))))
   ·exact .ex (x1 _ _ _ _ _)
   refine .st (aD ..) (.s [aq,bx [(im (d.map c8) false),(iA (wr .i64 (h+1))),(bA ab)],(gw p q u)] (.cT (by kernel_rfl) ?_))
   exact ih _ _ _
  exact .ex (x2 _ _ _ _ _)
def ij (self:(List UInt8)->Int->Bool->Int->Option (ai×Int×Bool)) (n:Nat) (ab:Int) (q:(List UInt8)) (y:Bool) (ad:Int) (an:Int) (ao:ByteArray):Nat->Int->Int->Int->Option ((Int×Int×Bool)⊕((Int×Int)⊕(Int)))
 | 0,_,_,_=>none
 | m+1,u,d,h=>bif (!y) then (bif (decide (((q.length:Int))<=h)) then ((bif (d==9) then (some false) else (some false)).bind fun bm=>(bif bm then (some true) else ((bif (decide (0<d)) then (some true) else (some false)).bind fun bs=>some bs)).bind fun ca=>bif ca then (some ((Sum.inl ((0,h,true))))) else (bif decide (0<=(wr .i64 (7*d))) then (some ((Sum.inl ((wr .u64 (u+(gQ .u64 (wr .u64 (Int.tmod 0 128)) (wr .i64 (7*d)))),h,true))))) else none)) else ((bw q (wr .i64 ((wr .i64 (h+1)) - 1))).bind fun p=>(bif (d==9) then (some (decide (1<((p.toNat:Int))))) else (some false)).bind fun cb=>(bif cb then (some true) else ((bif (decide (0<d)) then (some (((p.toNat:Int))==0)) else (some false)).bind fun cc=>some cc)).bind fun ch=>bif ch then (some ((Sum.inl ((0,wr .i64 (h+1),true))))) else (bif decide (0<=(wr .i64 (7*d))) then (bif (decide (((p.toNat:Int))<128)) then (some ((Sum.inr ((Sum.inl ((wr .u64 (u+(gQ .u64 (wr .u64 (Int.tmod ((p.toNat:Int)) 128)) (wr .i64 (7*d)))),wr .i64 (h+1)))))))) else (ij self n ab q y ad an ao m (wr .u64 (u+(gQ .u64 (wr .u64 (Int.tmod ((p.toNat:Int)) 128)) (wr .i64 (7*d))))) (wr .i64 (d+1)) (wr .i64 (h+1)))) else none))) else (some ((Sum.inr ((Sum.inr h)))))
theorem wa (self:(List UInt8)->Int->Bool->Int->Option (ai×Int×Bool)) (hS:q7 C (n+8) self) (ch:Int) (d:(List UInt8)) (ab:Bool) (p:Int) (q:Int) (u:ByteArray) {K:((Int×Int×Bool)⊕((Int×Int)⊕(Int)))->Option γ} (x0:∀ (o0:Int) (o1:Int) (o2:Bool) (s0:A) (s3:A) (s4:A),J φ (kr (St.mk [(0,s0),(2,(A.v (.int .u64 o0))),(3,s3),(4,s4)] [aq,bx [(im (d.map c8) false),(iA o1),(bA o2)],(iX p q u)])) kL (K (Sum.inl ((o0,o1,o2)))) some) (x1:∀ (o0:Int) (o1:Int) (s0:A) (s3:A) (s4:A),J φ (kr (St.mk [(0,s0),(2,(A.v (.int .u64 o0))),(3,s3),(4,s4)] [aq,bx [(im (d.map c8) false),(iA o1),(bA ab)],(iX p q u)])) kL (K (Sum.inr ((Sum.inl ((o0,o1)))))) some) (x2:∀ (o0:Int) (s0:A) (s2:A) (s3:A) (s4:A),J φ (kx 0 (St.mk [(0,s0),(2,s2),(3,s3),(4,s4)] [aq,bx [(im (d.map c8) false),(iA o0),(bA ab)],(iX p q u)])) kL (K (Sum.inr ((Sum.inr o0)))) some) :
  ∀ (m:Nat) (cb:Int) (cc:Int) (h:Int),J φ (aH (cx C) (ec C n 7) (ey C n 7) (n+7) 106 0 0 3 kx kg kr kp m (St.mk [(0,(pt 1 0)),(2,(A.v (.int .u64 ch))),(3,(A.v (.int .u64 cb))),(4,(iA cc))] [aq,bx [(im (d.map c8) false),(iA h),(bA ab)],(iX p q u)])) kL (ij self n ch d ab p q u m cb cc h) K:=by
 intro m
 induction m with
 | zero=>intros; exact .nn
 | succ m ih =>
  intro cb cc h
  refine .lp (yI ..) ?_
  unfold ij
  refine .s (pt 1 0) (.s (pt 1 2) (.s (bA ab) (.s (bA (!ab)) (.aP (fun hv=>?_) (fun hv=>?_)))))
  ·refine .cl ((aK vB).trans (EI C (br (cx C) (n+6)) (aI (cx C) (n+6)) (n+6) _ _ _)) (.s (pt 1 0) (.s (pt 1 1) (.s (iA h) (.s (pt 1 0) (.s (pt 1 0) (.s (im (d.map c8) false) (.st (dQ (e:=5)) (.st (dB ..) (.aP (fun hx=>?_) (fun hx=>?_))))))))))
   ·refine .s (pt 1 0) (.s (pt 1 2) (.s [aq,bx [(im (d.map c8) false),(iA h),(bA true)],(iX p q u)] (.cr (.ok (.st (aN ..) (.bg (fun t (y:Bool)=>∃ cm cv:A,t=[(bA y),cm,cv]) ?_ ?_))))))
    ·refine .dg (fun hy=>?_) (fun hy=>?_)
     ·exact .s (bA false) (.lg ⟨_,_,rfl⟩)
     exact .lg ⟨_,_,rfl⟩
    rintro _ la ⟨cm,cv,rfl⟩
    refine .uc (.uc (.uc (.bg (fun t (y:Bool)=>∃ cy dd ds ea eg ei:A,t=[(bA y),cy,dd,ds,ea,eg,ei]) ?_ ?_)))
    ·refine .dg (fun ie=>?_) (fun ie=>?_)
     ·exact .lg ⟨_,_,_,_,_,_,rfl⟩
     refine .st (bQ ..) (.bg (fun t (y:Bool)=>∃ ej fs:A,t=[(bA y),ej,fs]) ?_ ?_)
     ·refine .dg (fun ik=>?_) (fun ik=>?_)
      ·exact .s (bA true) (.lg ⟨_,_,rfl⟩)
      exact .lg ⟨_,_,rfl⟩
     rintro _ lb ⟨ej,fs,rfl⟩
     exact .uc (.uc (.uc (.lg ⟨_,_,_,_,_,_,rfl⟩)))
    rintro _ lx ⟨cy,dd,ds,ea,eg,ei,rfl⟩
    refine .u4 (.uc (.uc (.uc (.aP (fun js=>?_) (fun js=>?_)))))
    ·exact .s (pt 1 0) (.s (pt 1 2) (.s [aq,bx [(im (d.map c8) false),(iA h),(bA true)],(iX p q u)] (.ex (x0 _ _ _ _ _ _))))
    exact .st (fF (hb:=by decide) ..) (.st (v:=(A.v (.int .u64 (wr .u64 (Int.tmod 0 128))))) (az (hs:=by kernel_rfl) (hd:=by kernel_rfl) ..) (.st (fg ..) (.gd fun hg=>.st (fG (hb:=of_decide_eq_true hg) ..) (.st (aD ..) (.s (bA true) (.CP (.ex (x0 _ _ _ _ _ _))))))))
   refine .s (pt 1 0) (.s (pt 1 1) (.s (iA h) (.st (aD ..) (.s (pt 1 0) (.s (pt 1 1) (.s [aq,bx [(im (d.map c8) false),(iA (wr .i64 (h+1))),(bA ab)],(iX p q u)] (.s (pt 1 0) (.s (pt 1 0) (.s (im (d.map c8) false) (.s (pt 1 0) (.s (pt 1 1) (.s (iA (wr .i64 (h+1))) (.st (cX ..) (.bd (fJ (e:=5) (es:=1)) fun fv=>.s (uA ((fv.toNat:Int))) (.cr (.ok (.st (aN ..) (.bg (fun t (y:Bool)=>∃ gf ha:A,t=[(bA y),gf,ha]) ?_ ?_))))))))))))))))))
   ·refine .dg (fun kc=>?_) (fun kc=>?_)
    ·exact .st (bQ ..) (.lg ⟨_,_,rfl⟩)
    exact .lg ⟨_,_,rfl⟩
   rintro _ ly ⟨gf,ha,rfl⟩
   refine .uc (.uc (.uc (.bg (fun t (y:Bool)=>∃ hf hh hi hj hk ho:A,t=[(bA y),hf,hh,hi,hj,hk,ho]) ?_ ?_)))
   ·refine .dg (fun kk=>?_) (fun kk=>?_)
    ·exact .lg ⟨_,_,_,_,_,_,rfl⟩
    refine .st (bQ ..) (.bg (fun t (y:Bool)=>∃ hp hq:A,t=[(bA y),hp,hq]) ?_ ?_)
    ·refine .dg (fun kn=>?_) (fun kn=>?_)
     ·exact .st (aN ..) (.lg ⟨_,_,rfl⟩)
     exact .lg ⟨_,_,rfl⟩
    rintro _ mn ⟨hp,hq,rfl⟩
    exact .uc (.uc (.uc (.lg ⟨_,_,_,_,_,_,rfl⟩)))
   rintro _ mx ⟨hf,hh,hi,hj,hk,ho,rfl⟩
   refine .u4 (.uc (.uc (.uc (.aP (fun ko=>?_) (fun ko=>?_)))))
   ·exact .s (pt 1 0) (.s (pt 1 2) (.s [aq,bx [(im (d.map c8) false),(iA (wr .i64 (h+1))),(bA true)],(iX p q u)] (.ex (x0 _ _ _ _ _ _))))
   refine .st (fF (hb:=by decide) ..) (.st (v:=(A.v (.int .u64 (wr .u64 (Int.tmod ((fv.toNat:Int)) 128))))) (az (hs:=by kernel_rfl) (hd:=by kernel_rfl) ..) (.st (fg ..) (.gd fun hg=>.st (fG (hb:=of_decide_eq_true hg) ..) (.st (aD ..) (.st (aS ..) (.aP (fun kt=>?_) (fun kt=>?_)))))))
   ·exact .ex (x1 _ _ _ _ _)
   refine .st (aD ..) (.s [aq,bx [(im (d.map c8) false),(iA (wr .i64 (h+1))),(bA ab)],(iX p q u)] (.cT (by kernel_rfl) ?_))
   exact ih _ _ _
  exact .ex (x2 _ _ _ _ _)
def nC (self:(List UInt8)->Int->Bool->Int->Option (ai×Int×Bool)) (n:Nat) (p:Int) (q:Int) (u:(List UInt8)) (an:Int) (ao:Int) (bm:ByteArray) (bs:(List ai)) (ca:Int) (cb:Int) (cc:ByteArray):Nat->Int->Int->Bool->(List ai)->Option (Int×Bool×(List ai))
 | 0,_,_,_,_=>none
 | m+1,y,ab,d,ad=>(bif (decide (y<q)) then (some (!d)) else (some false)).bind fun ch=>bif ch then ((self u ab d (wr .i64 (p+1))).bind fun h=>(cQ 56 ad ([h.1])).bind fun ck=>nC self n p q u an ao bm bs ca cb cc m (wr .u64 (y+1)) h.2.1 h.2.2 ck) else (some ((ab,d,ad)))
theorem A7 (self:(List UInt8)->Int->Bool->Int->Option (ai×Int×Bool)) (hS:q7 C (n+8) self) (cb:Int) (ck:Int) (p:(List UInt8)) (q:Int) (u:Int) (ab:ByteArray) (ad:(List ai)) (an:Int) (ao:Int) (bm:ByteArray) {K:(Int×Bool×(List ai))->Option γ} (x0:∀ (o0:Int) (o1:Bool) (o2:(List ai)) (s1:A) (s7:A) (s9:A),J φ (kx 1 (St.mk [(0,(pt 1 0)),(1,s1),(4,(pt 2 0)),(7,s7),(8,(pt 3 0)),(9,s9)] [aq,bx [(im (p.map c8) false),(iA o0),(bA o1)],(nJ q u ab ad),bx [(iA an),(iA ao),(sA bm),(aX 4 0 o2.length false)],aA.row false 4 (o2.map af)])) kL (K (o0,o1,o2)) some) :
  ∀ (m:Nat) (ch:Int) (ca:Int) (bs:Bool) (d:(List ai)),J φ (aH (cx C) (ec C n 8) (ey C n 8) (n+8) 84 0 0 5 kx kg kr kp m (St.mk [(0,(pt 1 0)),(1,(iA cb)),(4,(pt 2 0)),(7,(A.v (.int .u64 ck))),(8,(pt 3 0)),(9,(A.v (.int .u64 ch)))] [aq,bx [(im (p.map c8) false),(iA ca),(bA bs)],(nJ q u ab ad),bx [(iA an),(iA ao),(sA bm),(aX 4 0 d.length false)],aA.row false 4 (d.map af)])) kL (nC self n cb ck p q u ab ad an ao bm m ch ca bs d) K:=by
 intro m
 induction m with
 | zero=>intros; exact .nn
 | succ m ih =>
  intro ch ca bs d
  refine .lp (tN ..) ?_
  unfold nC
  refine .st (aS ..) (.bg (fun t (y:Bool)=>∃ cy dd ds ea eg:A,t=[(bA y),cy,dd,ds,ea,eg]) ?_ ?_)
  ·refine .dg (fun gf=>?_) (fun gf=>?_)
   ·exact .s (pt 1 0) (.s (pt 1 2) (.s (bA bs) (.s (bA (!bs)) (.lg ⟨_,_,_,_,_,rfl⟩))))
   exact .lg ⟨_,_,_,_,_,rfl⟩
  rintro _ hd ⟨cy,dd,ds,ea,eg,rfl⟩
  refine .u4 (.uc (.uc (.aP (fun ha=>?_) (fun ha=>?_))))
  ·refine .s (pt 3 3) (.s (aX 4 0 d.length false) (.st (aD ..) (.cT (by kernel_rfl) (.bg (fun (t:R) (y:(ai×Int×Bool))=>t=(Out.ret (ag [(iA y.1.Kind),(iA y.1.N),(sA y.1.S),(im (y.1.L.map af) false)]),[aq,bx [(im (p.map c8) false),(iA y.2.1),(bA y.2.2)],(nJ q u ab ad),bx [(iA an),(iA ao),(sA bm),(aX 4 0 d.length false)],aA.row false 4 (d.map af)])) (hS p ca bs (wr .i64 (cb+1)) [(nJ q u ab ad),bx [(iA an),(iA ao),(sA bm),(aX 4 0 d.length false)],aA.row false 4 (d.map af)]) ?_))))
   rintro _ h rfl
   refine .ok (.s (im [[(iA h.1.Kind),(iA h.1.N),(sA h.1.S),(im (h.1.L.map af) false)]] true) (.bd (g:=fun (y:List ai)=>((aX 4 0 y.length false),[aq,bx [(im (p.map c8) false),(iA h.2.1),(bA h.2.2)],(nJ q u ab ad),bx [(iA an),(iA ao),(sA bm),(aX 4 0 d.length false)],aA.row false 4 (y.map af)])) (bV iT (l:=d) (l2:=[h.1]) (b:=4) rfl (by decide) (iU (f:=af) (l:=([h.1]:List ai)) (by simp only[List.map_cons,List.map_nil,dU]))) fun ei=>.s (pt 3 3) (.sh (.st (aD ..) (.s [aq,bx [(im (p.map c8) false),(iA h.2.1),(bA h.2.2)],(nJ q u ab ad),bx [(iA an),(iA ao),(sA bm),(aX 4 0 ei.length false)],aA.row false 4 (ei.map af)] (.cT (by kernel_rfl) ?_))))))
   exact ih _ _ _ _
  exact .ex (x0 _ _ _ _ _ _)
def lG (self:(List UInt8)->Int->Bool->Int->Option (ai×Int×Bool)) (n:Nat) (p:Int) (q:Int) (u:(List UInt8)) (an:Int) (ao:Int) (bm:ByteArray) (bs:(List ai)) (ca:Int) (cb:Int) (cc:ByteArray):Nat->Int->Int->Bool->(List ai)->Option (Int×Bool×(List ai))
 | 0,_,_,_,_=>none
 | m+1,y,ab,d,ad=>(bif (decide (y<q)) then (some (!d)) else (some false)).bind fun ch=>bif ch then ((self u ab d (wr .i64 (p+1))).bind fun h=>(cQ 56 ad ([h.1])).bind fun ck=>lG self n p q u an ao bm bs ca cb cc m (wr .u64 (y+1)) h.2.1 h.2.2 ck) else (some ((ab,d,ad)))
theorem yd (self:(List UInt8)->Int->Bool->Int->Option (ai×Int×Bool)) (hS:q7 C (n+8) self) (cb:Int) (ck:Int) (p:(List UInt8)) (q:Int) (u:Int) (ab:ByteArray) (ad:(List ai)) (an:Int) (ao:Int) (bm:ByteArray) {K:(Int×Bool×(List ai))->Option γ} (x0:∀ (o0:Int) (o1:Bool) (o2:(List ai)) (s1:A) (s7:A) (s9:A),J φ (kx 1 (St.mk [(0,(pt 1 0)),(1,s1),(4,(pt 2 0)),(7,s7),(8,(pt 3 0)),(9,s9)] [aq,bx [(im (p.map c8) false),(iA o0),(bA o1)],(nK q u ab ad),bx [(iA an),(iA ao),(sA bm),(aX 4 0 o2.length false)],aA.row false 4 (o2.map af)])) kL (K (o0,o1,o2)) some) :
  ∀ (m:Nat) (ch:Int) (ca:Int) (bs:Bool) (d:(List ai)),J φ (aH (cx C) (ec C n 8) (ey C n 8) (n+8) 84 0 0 5 kx kg kr kp m (St.mk [(0,(pt 1 0)),(1,(iA cb)),(4,(pt 2 0)),(7,(A.v (.int .u64 ck))),(8,(pt 3 0)),(9,(A.v (.int .u64 ch)))] [aq,bx [(im (p.map c8) false),(iA ca),(bA bs)],(nK q u ab ad),bx [(iA an),(iA ao),(sA bm),(aX 4 0 d.length false)],aA.row false 4 (d.map af)])) kL (lG self n cb ck p q u ab ad an ao bm m ch ca bs d) K:=by
 intro m
 induction m with
 | zero=>intros; exact .nn
 | succ m ih =>
  intro ch ca bs d
  refine .lp (tN ..) ?_
  unfold lG
  refine .st (aS ..) (.bg (fun t (y:Bool)=>∃ cy dd ds ea eg:A,t=[(bA y),cy,dd,ds,ea,eg]) ?_ ?_)
  ·refine .dg (fun gf=>?_) (fun gf=>?_)
   ·exact .s (pt 1 0) (.s (pt 1 2) (.s (bA bs) (.s (bA (!bs)) (.lg ⟨_,_,_,_,_,rfl⟩))))
   exact .lg ⟨_,_,_,_,_,rfl⟩
  rintro _ hd ⟨cy,dd,ds,ea,eg,rfl⟩
  refine .u4 (.uc (.uc (.aP (fun ha=>?_) (fun ha=>?_))))
  ·refine .s (pt 3 3) (.s (aX 4 0 d.length false) (.st (aD ..) (.cT (by kernel_rfl) (.bg (fun (t:R) (y:(ai×Int×Bool))=>t=(Out.ret (ag [(iA y.1.Kind),(iA y.1.N),(sA y.1.S),(im (y.1.L.map af) false)]),[aq,bx [(im (p.map c8) false),(iA y.2.1),(bA y.2.2)],(nK q u ab ad),bx [(iA an),(iA ao),(sA bm),(aX 4 0 d.length false)],aA.row false 4 (d.map af)])) (hS p ca bs (wr .i64 (cb+1)) [(nK q u ab ad),bx [(iA an),(iA ao),(sA bm),(aX 4 0 d.length false)],aA.row false 4 (d.map af)]) ?_))))
   rintro _ h rfl
   refine .ok (.s (im [[(iA h.1.Kind),(iA h.1.N),(sA h.1.S),(im (h.1.L.map af) false)]] true) (.bd (g:=fun (y:List ai)=>((aX 4 0 y.length false),[aq,bx [(im (p.map c8) false),(iA h.2.1),(bA h.2.2)],(nK q u ab ad),bx [(iA an),(iA ao),(sA bm),(aX 4 0 d.length false)],aA.row false 4 (y.map af)])) (bV iT (l:=d) (l2:=[h.1]) (b:=4) rfl (by decide) (iU (f:=af) (l:=([h.1]:List ai)) (by simp only[List.map_cons,List.map_nil,dU]))) fun ei=>.s (pt 3 3) (.sh (.st (aD ..) (.s [aq,bx [(im (p.map c8) false),(iA h.2.1),(bA h.2.2)],(nK q u ab ad),bx [(iA an),(iA ao),(sA bm),(aX 4 0 ei.length false)],aA.row false 4 (ei.map af)] (.cT (by kernel_rfl) ?_))))))
   exact ih _ _ _ _
  exact .ex (x0 _ _ _ _ _ _)
def eQ (self:(List UInt8)->Int->Bool->Int->Option (ai×Int×Bool)) (n:Nat) (p:Int) (q:Int) (u:(List UInt8)) (an:Int) (ao:Int) (bm:ByteArray) (bs:(List ai)) (ca:Int) (cb:Int) (cc:ByteArray):Nat->Int->Int->Bool->(List ai)->Option (Int×Bool×(List ai))
 | 0,_,_,_,_=>none
 | m+1,y,ab,d,ad=>(bif (decide (y<q)) then (some (!d)) else (some false)).bind fun ch=>bif ch then ((self u ab d (wr .i64 (p+1))).bind fun h=>(cQ 56 ad ([h.1])).bind fun ck=>eQ self n p q u an ao bm bs ca cb cc m (wr .u64 (y+1)) h.2.1 h.2.2 ck) else (some ((ab,d,ad)))
theorem ye (self:(List UInt8)->Int->Bool->Int->Option (ai×Int×Bool)) (hS:q7 C (n+8) self) (cb:Int) (ck:Int) (p:(List UInt8)) (q:Int) (u:Int) (ab:ByteArray) (ad:(List ai)) (an:Int) (ao:Int) (bm:ByteArray) {K:(Int×Bool×(List ai))->Option γ} (x0:∀ (o0:Int) (o1:Bool) (o2:(List ai)) (s1:A) (s7:A) (s9:A),J φ (kx 1 (St.mk [(0,(pt 1 0)),(1,s1),(4,(pt 2 0)),(7,s7),(8,(pt 3 0)),(9,s9)] [aq,bx [(im (p.map c8) false),(iA o0),(bA o1)],(nL q u ab ad),bx [(iA an),(iA ao),(sA bm),(aX 4 0 o2.length false)],aA.row false 4 (o2.map af)])) kL (K (o0,o1,o2)) some) :
  ∀ (m:Nat) (ch:Int) (ca:Int) (bs:Bool) (d:(List ai)),J φ (aH (cx C) (ec C n 8) (ey C n 8) (n+8) 84 0 0 5 kx kg kr kp m (St.mk [(0,(pt 1 0)),(1,(iA cb)),(4,(pt 2 0)),(7,(A.v (.int .u64 ck))),(8,(pt 3 0)),(9,(A.v (.int .u64 ch)))] [aq,bx [(im (p.map c8) false),(iA ca),(bA bs)],(nL q u ab ad),bx [(iA an),(iA ao),(sA bm),(aX 4 0 d.length false)],aA.row false 4 (d.map af)])) kL (eQ self n cb ck p q u ab ad an ao bm m ch ca bs d) K:=by
 intro m
 induction m with
 | zero=>intros; exact .nn
 | succ m ih =>
  intro ch ca bs d
  refine .lp (tN ..) ?_
  unfold eQ
  refine .st (aS ..) (.bg (fun t (y:Bool)=>∃ cy dd ds ea eg:A,t=[(bA y),cy,dd,ds,ea,eg]) ?_ ?_)
  ·refine .dg (fun gf=>?_) (fun gf=>?_)
   ·exact .s (pt 1 0) (.s (pt 1 2) (.s (bA bs) (.s (bA (!bs)) (.lg ⟨_,_,_,_,_,rfl⟩))))
   exact .lg ⟨_,_,_,_,_,rfl⟩
  rintro _ hd ⟨cy,dd,ds,ea,eg,rfl⟩
  refine .u4 (.uc (.uc (.aP (fun ha=>?_) (fun ha=>?_))))
  ·refine .s (pt 3 3) (.s (aX 4 0 d.length false) (.st (aD ..) (.cT (by kernel_rfl) (.bg (fun (t:R) (y:(ai×Int×Bool))=>t=(Out.ret (ag [(iA y.1.Kind),(iA y.1.N),(sA y.1.S),(im (y.1.L.map af) false)]),[aq,bx [(im (p.map c8) false),(iA y.2.1),(bA y.2.2)],(nL q u ab ad),bx [(iA an),(iA ao),(sA bm),(aX 4 0 d.length false)],aA.row false 4 (d.map af)])) (hS p ca bs (wr .i64 (cb+1)) [(nL q u ab ad),bx [(iA an),(iA ao),(sA bm),(aX 4 0 d.length false)],aA.row false 4 (d.map af)]) ?_))))
   rintro _ h rfl
   refine .ok (.s (im [[(iA h.1.Kind),(iA h.1.N),(sA h.1.S),(im (h.1.L.map af) false)]] true) (.bd (g:=fun (y:List ai)=>((aX 4 0 y.length false),[aq,bx [(im (p.map c8) false),(iA h.2.1),(bA h.2.2)],(nL q u ab ad),bx [(iA an),(iA ao),(sA bm),(aX 4 0 d.length false)],aA.row false 4 (y.map af)])) (bV iT (l:=d) (l2:=[h.1]) (b:=4) rfl (by decide) (iU (f:=af) (l:=([h.1]:List ai)) (by simp only[List.map_cons,List.map_nil,dU]))) fun ei=>.s (pt 3 3) (.sh (.st (aD ..) (.s [aq,bx [(im (p.map c8) false),(iA h.2.1),(bA h.2.2)],(nL q u ab ad),bx [(iA an),(iA ao),(sA bm),(aX 4 0 ei.length false)],aA.row false 4 (ei.map af)] (.cT (by kernel_rfl) ?_))))))
   exact ih _ _ _ _
  exact .ex (x0 _ _ _ _ _ _)
def lH (self:(List UInt8)->Int->Bool->Int->Option (ai×Int×Bool)) (n:Nat) (p:Int) (q:Int) (u:(List UInt8)) (an:Int) (ao:Int) (bm:ByteArray) (bs:(List ai)) (ca:Int) (cb:Int) (cc:ByteArray):Nat->Int->Int->Bool->(List ai)->Option (Int×Bool×(List ai))
 | 0,_,_,_,_=>none
 | m+1,y,ab,d,ad=>(bif (decide (y<q)) then (some (!d)) else (some false)).bind fun ch=>bif ch then ((self u ab d (wr .i64 (p+1))).bind fun h=>(cQ 56 ad ([h.1])).bind fun ck=>lH self n p q u an ao bm bs ca cb cc m (wr .u64 (y+1)) h.2.1 h.2.2 ck) else (some ((ab,d,ad)))
theorem yf (self:(List UInt8)->Int->Bool->Int->Option (ai×Int×Bool)) (hS:q7 C (n+8) self) (cb:Int) (ck:Int) (p:(List UInt8)) (q:Int) (u:Int) (ab:ByteArray) (ad:(List ai)) (an:Int) (ao:Int) (bm:ByteArray) {K:(Int×Bool×(List ai))->Option γ} (x0:∀ (o0:Int) (o1:Bool) (o2:(List ai)) (s1:A) (s7:A) (s9:A),J φ (kx 1 (St.mk [(0,(pt 1 0)),(1,s1),(4,(pt 2 0)),(7,s7),(8,(pt 3 0)),(9,s9)] [aq,bx [(im (p.map c8) false),(iA o0),(bA o1)],(nM q u ab ad),bx [(iA an),(iA ao),(sA bm),(aX 4 0 o2.length false)],aA.row false 4 (o2.map af)])) kL (K (o0,o1,o2)) some) :
  ∀ (m:Nat) (ch:Int) (ca:Int) (bs:Bool) (d:(List ai)),J φ (aH (cx C) (ec C n 8) (ey C n 8) (n+8) 84 0 0 5 kx kg kr kp m (St.mk [(0,(pt 1 0)),(1,(iA cb)),(4,(pt 2 0)),(7,(A.v (.int .u64 ck))),(8,(pt 3 0)),(9,(A.v (.int .u64 ch)))] [aq,bx [(im (p.map c8) false),(iA ca),(bA bs)],(nM q u ab ad),bx [(iA an),(iA ao),(sA bm),(aX 4 0 d.length false)],aA.row false 4 (d.map af)])) kL (lH self n cb ck p q u ab ad an ao bm m ch ca bs d) K:=by
 intro m
 induction m with
 | zero=>intros; exact .nn
 | succ m ih =>
  intro ch ca bs d
  refine .lp (tN ..) ?_
  unfold lH
  refine .st (aS ..) (.bg (fun t (y:Bool)=>∃ cy dd ds ea eg:A,t=[(bA y),cy,dd,ds,ea,eg]) ?_ ?_)
  ·refine .dg (fun gf=>?_) (fun gf=>?_)
   ·exact .s (pt 1 0) (.s (pt 1 2) (.s (bA bs) (.s (bA (!bs)) (.lg ⟨_,_,_,_,_,rfl⟩))))
   exact .lg ⟨_,_,_,_,_,rfl⟩
  rintro _ hd ⟨cy,dd,ds,ea,eg,rfl⟩
  refine .u4 (.uc (.uc (.aP (fun ha=>?_) (fun ha=>?_))))
  ·refine .s (pt 3 3) (.s (aX 4 0 d.length false) (.st (aD ..) (.cT (by kernel_rfl) (.bg (fun (t:R) (y:(ai×Int×Bool))=>t=(Out.ret (ag [(iA y.1.Kind),(iA y.1.N),(sA y.1.S),(im (y.1.L.map af) false)]),[aq,bx [(im (p.map c8) false),(iA y.2.1),(bA y.2.2)],(nM q u ab ad),bx [(iA an),(iA ao),(sA bm),(aX 4 0 d.length false)],aA.row false 4 (d.map af)])) (hS p ca bs (wr .i64 (cb+1)) [(nM q u ab ad),bx [(iA an),(iA ao),(sA bm),(aX 4 0 d.length false)],aA.row false 4 (d.map af)]) ?_))))
   rintro _ h rfl
   refine .ok (.s (im [[(iA h.1.Kind),(iA h.1.N),(sA h.1.S),(im (h.1.L.map af) false)]] true) (.bd (g:=fun (y:List ai)=>((aX 4 0 y.length false),[aq,bx [(im (p.map c8) false),(iA h.2.1),(bA h.2.2)],(nM q u ab ad),bx [(iA an),(iA ao),(sA bm),(aX 4 0 d.length false)],aA.row false 4 (y.map af)])) (bV iT (l:=d) (l2:=[h.1]) (b:=4) rfl (by decide) (iU (f:=af) (l:=([h.1]:List ai)) (by simp only[List.map_cons,List.map_nil,dU]))) fun ei=>.s (pt 3 3) (.sh (.st (aD ..) (.s [aq,bx [(im (p.map c8) false),(iA h.2.1),(bA h.2.2)],(nM q u ab ad),bx [(iA an),(iA ao),(sA bm),(aX 4 0 ei.length false)],aA.row false 4 (ei.map af)] (.cT (by kernel_rfl) ?_))))))
   exact ih _ _ _ _
  exact .ex (x0 _ _ _ _ _ _)
def lI (self:(List UInt8)->Int->Bool->Int->Option (ai×Int×Bool)) (n:Nat) (p:Int) (q:Int) (u:(List UInt8)) (an:Int) (ao:Int) (bm:ByteArray) (bs:(List ai)) (ca:Int) (cb:Int) (cc:ByteArray):Nat->Int->Int->Bool->(List ai)->Option (Int×Bool×(List ai))
 | 0,_,_,_,_=>none
 | m+1,y,ab,d,ad=>(bif (decide (y<q)) then (some (!d)) else (some false)).bind fun ch=>bif ch then ((self u ab d (wr .i64 (p+1))).bind fun h=>(cQ 56 ad ([h.1])).bind fun ck=>lI self n p q u an ao bm bs ca cb cc m (wr .u64 (y+1)) h.2.1 h.2.2 ck) else (some ((ab,d,ad)))
theorem yg (self:(List UInt8)->Int->Bool->Int->Option (ai×Int×Bool)) (hS:q7 C (n+8) self) (cb:Int) (ck:Int) (p:(List UInt8)) (q:Int) (u:Int) (ab:ByteArray) (ad:(List ai)) (an:Int) (ao:Int) (bm:ByteArray) {K:(Int×Bool×(List ai))->Option γ} (x0:∀ (o0:Int) (o1:Bool) (o2:(List ai)) (s1:A) (s7:A) (s9:A),J φ (kx 1 (St.mk [(0,(pt 1 0)),(1,s1),(4,(pt 2 0)),(7,s7),(8,(pt 3 0)),(9,s9)] [aq,bx [(im (p.map c8) false),(iA o0),(bA o1)],(nN q u ab ad),bx [(iA an),(iA ao),(sA bm),(aX 4 0 o2.length false)],aA.row false 4 (o2.map af)])) kL (K (o0,o1,o2)) some) :
  ∀ (m:Nat) (ch:Int) (ca:Int) (bs:Bool) (d:(List ai)),J φ (aH (cx C) (ec C n 8) (ey C n 8) (n+8) 84 0 0 5 kx kg kr kp m (St.mk [(0,(pt 1 0)),(1,(iA cb)),(4,(pt 2 0)),(7,(A.v (.int .u64 ck))),(8,(pt 3 0)),(9,(A.v (.int .u64 ch)))] [aq,bx [(im (p.map c8) false),(iA ca),(bA bs)],(nN q u ab ad),bx [(iA an),(iA ao),(sA bm),(aX 4 0 d.length false)],aA.row false 4 (d.map af)])) kL (lI self n cb ck p q u ab ad an ao bm m ch ca bs d) K:=by
 intro m
 induction m with
 | zero=>intros; exact .nn
 | succ m ih =>
  intro ch ca bs d
  refine .lp (tN ..) ?_
  unfold lI
  refine .st (aS ..) (.bg (fun t (y:Bool)=>∃ cy dd ds ea eg:A,t=[(bA y),cy,dd,ds,ea,eg]) ?_ ?_)
  ·refine .dg (fun gf=>?_) (fun gf=>?_)
   ·exact .s (pt 1 0) (.s (pt 1 2) (.s (bA bs) (.s (bA (!bs)) (.lg ⟨_,_,_,_,_,rfl⟩))))
   exact .lg ⟨_,_,_,_,_,rfl⟩
  rintro _ hd ⟨cy,dd,ds,ea,eg,rfl⟩
  refine .u4 (.uc (.uc (.aP (fun ha=>?_) (fun ha=>?_))))
  ·refine .s (pt 3 3) (.s (aX 4 0 d.length false) (.st (aD ..) (.cT (by kernel_rfl) (.bg (fun (t:R) (y:(ai×Int×Bool))=>t=(Out.ret (ag [(iA y.1.Kind),(iA y.1.N),(sA y.1.S),(im (y.1.L.map af) false)]),[aq,bx [(im (p.map c8) false),(iA y.2.1),(bA y.2.2)],(nN q u ab ad),bx [(iA an),(iA ao),(sA bm),(aX 4 0 d.length false)],aA.row false 4 (d.map af)])) (hS p ca bs (wr .i64 (cb+1)) [(nN q u ab ad),bx [(iA an),(iA ao),(sA bm),(aX 4 0 d.length false)],aA.row false 4 (d.map af)]) ?_))))
   rintro _ h rfl
   refine .ok (.s (im [[(iA h.1.Kind),(iA h.1.N),(sA h.1.S),(im (h.1.L.map af) false)]] true) (.bd (g:=fun (y:List ai)=>((aX 4 0 y.length false),[aq,bx [(im (p.map c8) false),(iA h.2.1),(bA h.2.2)],(nN q u ab ad),bx [(iA an),(iA ao),(sA bm),(aX 4 0 d.length false)],aA.row false 4 (y.map af)])) (bV iT (l:=d) (l2:=[h.1]) (b:=4) rfl (by decide) (iU (f:=af) (l:=([h.1]:List ai)) (by simp only[List.map_cons,List.map_nil,dU]))) fun ei=>.s (pt 3 3) (.sh (.st (aD ..) (.s [aq,bx [(im (p.map c8) false),(iA h.2.1),(bA h.2.2)],(nN q u ab ad),bx [(iA an),(iA ao),(sA bm),(aX 4 0 ei.length false)],aA.row false 4 (ei.map af)] (.cT (by kernel_rfl) ?_))))))
   exact ih _ _ _ _
  exact .ex (x0 _ _ _ _ _ _)
def lJ (self:(List UInt8)->Int->Bool->Int->Option (ai×Int×Bool)) (n:Nat) (p:Int) (q:Int) (u:(List UInt8)) (an:Int) (ao:Int) (bm:ByteArray) (bs:(List ai)) (ca:Int) (cb:Int) (cc:ByteArray):Nat->Int->Int->Bool->(List ai)->Option (Int×Bool×(List ai))
 | 0,_,_,_,_=>none
 | m+1,y,ab,d,ad=>(bif (decide (y<q)) then (some (!d)) else (some false)).bind fun ch=>bif ch then ((self u ab d (wr .i64 (p+1))).bind fun h=>(cQ 56 ad ([h.1])).bind fun ck=>lJ self n p q u an ao bm bs ca cb cc m (wr .u64 (y+1)) h.2.1 h.2.2 ck) else (some ((ab,d,ad)))
theorem yh (self:(List UInt8)->Int->Bool->Int->Option (ai×Int×Bool)) (hS:q7 C (n+8) self) (cb:Int) (ck:Int) (p:(List UInt8)) (q:Int) (u:Int) (ab:ByteArray) (ad:(List ai)) (an:Int) (ao:Int) (bm:ByteArray) {K:(Int×Bool×(List ai))->Option γ} (x0:∀ (o0:Int) (o1:Bool) (o2:(List ai)) (s1:A) (s7:A) (s9:A),J φ (kx 1 (St.mk [(0,(pt 1 0)),(1,s1),(4,(pt 2 0)),(7,s7),(8,(pt 3 0)),(9,s9)] [aq,bx [(im (p.map c8) false),(iA o0),(bA o1)],(nO q u ab ad),bx [(iA an),(iA ao),(sA bm),(aX 4 0 o2.length false)],aA.row false 4 (o2.map af)])) kL (K (o0,o1,o2)) some) :
  ∀ (m:Nat) (ch:Int) (ca:Int) (bs:Bool) (d:(List ai)),J φ (aH (cx C) (ec C n 8) (ey C n 8) (n+8) 84 0 0 5 kx kg kr kp m (St.mk [(0,(pt 1 0)),(1,(iA cb)),(4,(pt 2 0)),(7,(A.v (.int .u64 ck))),(8,(pt 3 0)),(9,(A.v (.int .u64 ch)))] [aq,bx [(im (p.map c8) false),(iA ca),(bA bs)],(nO q u ab ad),bx [(iA an),(iA ao),(sA bm),(aX 4 0 d.length false)],aA.row false 4 (d.map af)])) kL (lJ self n cb ck p q u ab ad an ao bm m ch ca bs d) K:=by
 intro m
 induction m with
 | zero=>intros; exact .nn
 | succ m ih =>
  intro ch ca bs d
  refine .lp (tN ..) ?_
  unfold lJ
  refine .st (aS ..) (.bg (fun t (y:Bool)=>∃ cy dd ds ea eg:A,t=[(bA y),cy,dd,ds,ea,eg]) ?_ ?_)
  ·refine .dg (fun gf=>?_) (fun gf=>?_)
   ·exact .s (pt 1 0) (.s (pt 1 2) (.s (bA bs) (.s (bA (!bs)) (.lg ⟨_,_,_,_,_,rfl⟩))))
   exact .lg ⟨_,_,_,_,_,rfl⟩
  rintro _ hd ⟨cy,dd,ds,ea,eg,rfl⟩
  refine .u4 (.uc (.uc (.aP (fun ha=>?_) (fun ha=>?_))))
  ·refine .s (pt 3 3) (.s (aX 4 0 d.length false) (.st (aD ..) (.cT (by kernel_rfl) (.bg (fun (t:R) (y:(ai×Int×Bool))=>t=(Out.ret (ag [(iA y.1.Kind),(iA y.1.N),(sA y.1.S),(im (y.1.L.map af) false)]),[aq,bx [(im (p.map c8) false),(iA y.2.1),(bA y.2.2)],(nO q u ab ad),bx [(iA an),(iA ao),(sA bm),(aX 4 0 d.length false)],aA.row false 4 (d.map af)])) (hS p ca bs (wr .i64 (cb+1)) [(nO q u ab ad),bx [(iA an),(iA ao),(sA bm),(aX 4 0 d.length false)],aA.row false 4 (d.map af)]) ?_))))
   rintro _ h rfl
   refine .ok (.s (im [[(iA h.1.Kind),(iA h.1.N),(sA h.1.S),(im (h.1.L.map af) false)]] true) (.bd (g:=fun (y:List ai)=>((aX 4 0 y.length false),[aq,bx [(im (p.map c8) false),(iA h.2.1),(bA h.2.2)],(nO q u ab ad),bx [(iA an),(iA ao),(sA bm),(aX 4 0 d.length false)],aA.row false 4 (y.map af)])) (bV iT (l:=d) (l2:=[h.1]) (b:=4) rfl (by decide) (iU (f:=af) (l:=([h.1]:List ai)) (by simp only[List.map_cons,List.map_nil,dU]))) fun ei=>.s (pt 3 3) (.sh (.st (aD ..) (.s [aq,bx [(im (p.map c8) false),(iA h.2.1),(bA h.2.2)],(nO q u ab ad),bx [(iA an),(iA ao),(sA bm),(aX 4 0 ei.length false)],aA.row false 4 (ei.map af)] (.cT (by kernel_rfl) ?_))))))
   exact ih _ _ _ _
  exact .ex (x0 _ _ _ _ _ _)
def vS (self:(List UInt8)->Int->Bool->Int->Option (ai×Int×Bool)) (n:Nat) (d:(List UInt8)) (a2:Int) (h:Bool) (p:Int):Option (ai×Int×Bool) :=
 bif (decide (((d.length:Int))<=a2)) then (some (((ai.mk 0 0 eH ([])),a2,true))) else ((bw d (wr .i64 ((wr .i64 (a2+1)) - 1))).bind fun y2=>bif (((y2.toNat:Int))==1) then ((jq self n 0 d h 0 0 eH (n+7) 0 0 (wr .i64 (a2+1))).bind fun LP=>match LP with | (Sum.inl ((cb,cy,dd)))=>bif ((Int.tmod cb 2)==1) then (some (((ai.mk 1 (wr .i64 ((wr .i64 (0 - (wr .i64 (wr .u64 (Int.tdiv cb 2))))) - 1)) eH ([])),cy,dd))) else (some (((ai.mk 1 (wr .i64 (wr .u64 (Int.tdiv cb 2))) eH ([])),cy,dd))) | (Sum.inr ((Sum.inl ((cc,ds)))))=>bif ((Int.tmod cc 2)==1) then (some (((ai.mk 1 (wr .i64 ((wr .i64 (0 - (wr .i64 (wr .u64 (Int.tdiv cc 2))))) - 1)) eH ([])),ds,h))) else (some (((ai.mk 1 (wr .i64 (wr .u64 (Int.tdiv cc 2))) eH ([])),ds,h))) | (Sum.inr ((Sum.inr ea)))=>bif ((Int.tmod 0 2)==1) then (some (((ai.mk 1 (wr .i64 ((wr .i64 (0 - (wr .i64 (wr .u64 (Int.tdiv 0 2))))) - 1)) eH ([])),ea,h))) else (some (((ai.mk 1 (wr .i64 (wr .u64 (Int.tdiv 0 2))) eH ([])),ea,h)))) else (bif (((y2.toNat:Int))==2) then ((ig self n 0 d h 0 0 eH (n+7) 0 0 (wr .i64 (a2+1))).bind fun eg=>match eg with | (Sum.inl ((q,u,ch)))=>bif ch then ((some true).bind fun ei=>bif ei then (some (((ai.mk 0 0 eH ([])),u,true))) else ((er d (wr .i64 ((wr .i64 (u+(wr .i64 (q)))) - (wr .i64 (q)))) (wr .i64 (u+(wr .i64 (q))))).bind fun ej=>some (((ai.mk 2 0 (cU ej) ([])),wr .i64 (u+(wr .i64 (q))),ch)))) else ((some (decide ((wr .u64 (wr .i64 (((d.length:Int)) - u)))<q))).bind fun fs=>bif fs then (some (((ai.mk 0 0 eH ([])),u,true))) else ((er d (wr .i64 ((wr .i64 (u+(wr .i64 (q)))) - (wr .i64 (q)))) (wr .i64 (u+(wr .i64 (q))))).bind fun fv=>some (((ai.mk 2 0 (cU fv) ([])),wr .i64 (u+(wr .i64 (q))),ch)))) | (Sum.inr ((Sum.inl ((y,ab)))))=>bif h then ((some true).bind fun gf=>bif gf then (some (((ai.mk 0 0 eH ([])),ab,true))) else ((er d (wr .i64 ((wr .i64 (ab+(wr .i64 (y)))) - (wr .i64 (y)))) (wr .i64 (ab+(wr .i64 (y))))).bind fun ha=>some (((ai.mk 2 0 (cU ha) ([])),wr .i64 (ab+(wr .i64 (y))),h)))) else ((some (decide ((wr .u64 (wr .i64 (((d.length:Int)) - ab)))<y))).bind fun hd=>bif hd then (some (((ai.mk 0 0 eH ([])),ab,true))) else ((er d (wr .i64 ((wr .i64 (ab+(wr .i64 (y)))) - (wr .i64 (y)))) (wr .i64 (ab+(wr .i64 (y))))).bind fun hf=>some (((ai.mk 2 0 (cU hf) ([])),wr .i64 (ab+(wr .i64 (y))),h)))) | (Sum.inr ((Sum.inr ad)))=>bif h then ((some true).bind fun hg=>bif hg then (some (((ai.mk 0 0 eH ([])),ad,true))) else ((er d (wr .i64 ((wr .i64 (ad+0)) - 0)) (wr .i64 (ad+0))).bind fun hh=>some (((ai.mk 2 0 (cU hh) ([])),wr .i64 (ad+0),h)))) else ((some (decide ((wr .u64 (wr .i64 (((d.length:Int)) - ad)))<0))).bind fun hi=>bif hi then (some (((ai.mk 0 0 eH ([])),ad,true))) else ((er d (wr .i64 ((wr .i64 (ad+0)) - 0)) (wr .i64 (ad+0))).bind fun hj=>some (((ai.mk 2 0 (cU hj) ([])),wr .i64 (ad+0),h))))) else (bif (((y2.toNat:Int))==3) then ((ij self n 0 d h 0 0 eH (n+7) 0 0 (wr .i64 (a2+1))).bind fun hk=>match hk with | (Sum.inl ((ck,ao,cm)))=>bif cm then ((some true).bind fun ho=>(bif ho then (some true) else (some (p==16))).bind fun hp=>bif hp then (some (((ai.mk 0 0 eH ([])),ao,true))) else ((lG self n p ck d 0 0 eH ([]) 3 0 eH (n+8) 0 ao cm (([]:List ai))).bind fun hq=>match hq with | (hr,hs,ht)=>some (((ai.mk 3 0 eH ht),hr,hs)))) else ((some (decide ((wr .u64 (wr .i64 (((d.length:Int)) - ao)))<ck))).bind fun hv=>(bif hv then (some true) else (some (p==16))).bind fun hx=>bif hx then (some (((ai.mk 0 0 eH ([])),ao,true))) else ((nC self n p ck d 0 0 eH ([]) 3 0 eH (n+8) 0 ao cm (([]:List ai))).bind fun hy=>match hy with | (ie,ih,ik)=>some (((ai.mk 3 0 eH ik),ie,ih)))) | (Sum.inr ((Sum.inl ((cv,bm)))))=>bif h then ((some true).bind fun js=>(bif js then (some true) else (some (p==16))).bind fun kc=>bif kc then (some (((ai.mk 0 0 eH ([])),bm,true))) else ((lH self n p cv d 0 0 eH ([]) 3 0 eH (n+8) 0 bm h (([]:List ai))).bind fun kk=>match kk with | (kn,ko,kt)=>some (((ai.mk 3 0 eH kt),kn,ko)))) else ((some (decide ((wr .u64 (wr .i64 (((d.length:Int)) - bm)))<cv))).bind fun la=>(bif la then (some true) else (some (p==16))).bind fun lb=>bif lb then (some (((ai.mk 0 0 eH ([])),bm,true))) else ((eQ self n p cv d 0 0 eH ([]) 3 0 eH (n+8) 0 bm h (([]:List ai))).bind fun lx=>match lx with | (ly,mn,mx)=>some (((ai.mk 3 0 eH mx),ly,mn)))) | (Sum.inr ((Sum.inr bs)))=>bif h then ((some true).bind fun nb=>(bif nb then (some true) else (some (p==16))).bind fun nf=>bif nf then (some (((ai.mk 0 0 eH ([])),bs,true))) else ((lJ self n p 0 d 0 0 eH ([]) 3 0 eH (n+8) 0 bs h (([]:List ai))).bind fun ni=>match ni with | (ns,nt,oa)=>some (((ai.mk 3 0 eH oa),ns,nt)))) else ((some (decide ((wr .u64 (wr .i64 (((d.length:Int)) - bs)))<0))).bind fun oc=>(bif oc then (some true) else (some (p==16))).bind fun oi=>bif oi then (some (((ai.mk 0 0 eH ([])),bs,true))) else ((lI self n p 0 d 0 0 eH ([]) 3 0 eH (n+8) 0 bs h (([]:List ai))).bind fun oj=>match oj with | (oo,oq,pc)=>some (((ai.mk 3 0 eH pc),oo,oq))))) else (some (((ai.mk 0 0 eH ([])),wr .i64 (a2+1),true))))))
theorem MR (C:OT) (n:Nat) (self:(List UInt8)->Int->Bool->Int->Option (ai×Int×Bool)) (hS:q7 C (n+8) self) (d:(List UInt8)) (a2:Int) (h:Bool) (a4:Int):J (fun (o:R) (y:(ai×Int×Bool))=>∃ Z,o=(Out.ret (ag [(iA y.1.Kind),(iA y.1.N),(sA y.1.S),(im (y.1.L.map af) false)]),[aq,bx [(im (d.map c8) false),(iA y.2.1),(bA y.2.2)]]++Z)) (av (cx C) (ec C n 8) (ey C n 8) (n+8) 84 [(pt 1 0),(iA a4)] [aq,bx [(im (d.map c8) false),(iA a2),(bA h)]] 0) some (vS self n d a2 h a4) some:=by
 refine .lp (RJ ..) ?_
 unfold vS
 refine .s ((pt 2 0),[aq,bx [(im (d.map c8) false),(iA a2),(bA h)],aq]) (.cl ((aK vB).trans (EI C (ec C n 7) (ey C n 7) (n+7) _ _ _)) (.s (pt 1 0) (.s (pt 1 1) (.s (iA a2) (.s (pt 1 0) (.s (pt 1 0) (.s (im (d.map c8) false) (.st (dQ (e:=5)) (.st (dB ..) (.aP (fun so=>?_) (fun so=>?_)))))))))))
 ·exact .s (pt 1 0) (.s (pt 1 2) (.sh (.cr (.ok (.s (bA false) (.BP (.s (bA false) (.BP (.s (bA false) (.BP (.s (pt 1 0) (.s (pt 1 2) (.sh (.s (ag [(iA 0),(iA 0),se,(im [] true)]) (.s [aq,bx [(im (d.map c8) false),(iA a2),(bA true)],aq] (.s (ag [(iA 0),(iA 0),se,(im [] false)]) (.lf rfl rfl (bH (o:=Out.ret (ag [(iA 0),(iA 0),se,(im [] false)])) (lo:=0) (off:=3) (b:=2) (p:=0) (H2:=[aq,bx [(im (d.map c8) false),(iA a2),(bA true)]]) (X:=[aq]) (Nat.le_of_ble_eq_true rfl)))))))))))))))))))
 refine .s (pt 1 0) (.s (pt 1 1) (.s (iA a2) (.st (aD ..) (.s (pt 1 0) (.s (pt 1 1) (.s [aq,bx [(im (d.map c8) false),(iA (wr .i64 (a2+1))),(bA h)],aq] (.s (pt 1 0) (.s (pt 1 0) (.s (im (d.map c8) false) (.s (pt 1 0) (.s (pt 1 1) (.s (iA (wr .i64 (a2+1))) (.st (cX ..) (.bd (fJ (e:=5) (es:=1)) fun y2=>.s (uA ((y2.toNat:Int))) (.cr (.ok (.st (aN ..) (.aP (fun tk=>?_) (fun tk=>?_)))))))))))))))))))
 ·refine .cl ((aK zh).trans (Hn C (ec C n 7) (ey C n 7) (n+7) _ _ _)) (.as (yc C n _ _ _ _  self hS 0 d h 0 0 eH ?_ ?_ ?_ _ 0 0 (wr .i64 (a2+1))))
  ·intro bm hf hg j55 j56 j57
   refine .un rfl (.cr (.ok (.st (fF (hb:=by decide) ..) (.st (aN ..) (.aP (fun tm=>?_) (fun tm=>?_))))))
   ·exact .st (jy (hb:=by decide) ..) (.st (v:=(iA (wr .i64 (wr .u64 (Int.tdiv bm 2))))) (az (hs:=by kernel_rfl) (hd:=by kernel_rfl) ..) (.s (iA (wr .i64 (0 - (wr .i64 (wr .u64 (Int.tdiv bm 2)))))) (.st (cX ..) (.s (ag [(iA 1),(iA (wr .i64 ((wr .i64 (0 - (wr .i64 (wr .u64 (Int.tdiv bm 2))))) - 1))),se,(im [] true)]) (.s [aq,bx [(im (d.map c8) false),(iA hf),(bA hg)],bx [(iA 1),(iA (wr .i64 ((wr .i64 (0 - (wr .i64 (wr .u64 (Int.tdiv bm 2))))) - 1))),se,(im [] true)]] (.s (ag [(iA 1),(iA (wr .i64 ((wr .i64 (0 - (wr .i64 (wr .u64 (Int.tdiv bm 2))))) - 1))),se,(im [] false)]) (.lf rfl rfl (bH (o:=Out.ret (ag [(iA 1),(iA (wr .i64 ((wr .i64 (0 - (wr .i64 (wr .u64 (Int.tdiv bm 2))))) - 1))),se,(im [] false)])) (lo:=0) (off:=3) (b:=2) (p:=0) (H2:=[aq,bx [(im (d.map c8) false),(iA hf),(bA hg)]]) (X:=[bx [(iA 1),(iA (wr .i64 ((wr .i64 (0 - (wr .i64 (wr .u64 (Int.tdiv bm 2))))) - 1))),se,(im [] true)]]) (Nat.le_of_ble_eq_true rfl)))))))))
   exact .st (jy (hb:=by decide) ..) (.st (v:=(iA (wr .i64 (wr .u64 (Int.tdiv bm 2))))) (az (hs:=by kernel_rfl) (hd:=by kernel_rfl) ..) (.s (ag [(iA 1),(iA (wr .i64 (wr .u64 (Int.tdiv bm 2)))),se,(im [] true)]) (.s [aq,bx [(im (d.map c8) false),(iA hf),(bA hg)],bx [(iA 1),(iA (wr .i64 (wr .u64 (Int.tdiv bm 2)))),se,(im [] true)]] (.s (ag [(iA 1),(iA (wr .i64 (wr .u64 (Int.tdiv bm 2)))),se,(im [] false)]) (.lf rfl rfl (bH (o:=Out.ret (ag [(iA 1),(iA (wr .i64 (wr .u64 (Int.tdiv bm 2)))),se,(im [] false)])) (lo:=0) (off:=3) (b:=2) (p:=0) (H2:=[aq,bx [(im (d.map c8) false),(iA hf),(bA hg)]]) (X:=[bx [(iA 1),(iA (wr .i64 (wr .u64 (Int.tdiv bm 2)))),se,(im [] true)]]) (Nat.le_of_ble_eq_true rfl)))))))
  ·intro bs hh j61 j62 j63
   refine .un rfl (.cr (.ok (.st (fF (hb:=by decide) ..) (.st (aN ..) (.aP (fun ts=>?_) (fun ts=>?_))))))
   ·exact .st (jy (hb:=by decide) ..) (.st (v:=(iA (wr .i64 (wr .u64 (Int.tdiv bs 2))))) (az (hs:=by kernel_rfl) (hd:=by kernel_rfl) ..) (.s (iA (wr .i64 (0 - (wr .i64 (wr .u64 (Int.tdiv bs 2)))))) (.st (cX ..) (.s (ag [(iA 1),(iA (wr .i64 ((wr .i64 (0 - (wr .i64 (wr .u64 (Int.tdiv bs 2))))) - 1))),se,(im [] true)]) (.s [aq,bx [(im (d.map c8) false),(iA hh),(bA h)],bx [(iA 1),(iA (wr .i64 ((wr .i64 (0 - (wr .i64 (wr .u64 (Int.tdiv bs 2))))) - 1))),se,(im [] true)]] (.s (ag [(iA 1),(iA (wr .i64 ((wr .i64 (0 - (wr .i64 (wr .u64 (Int.tdiv bs 2))))) - 1))),se,(im [] false)]) (.lf rfl rfl (bH (o:=Out.ret (ag [(iA 1),(iA (wr .i64 ((wr .i64 (0 - (wr .i64 (wr .u64 (Int.tdiv bs 2))))) - 1))),se,(im [] false)])) (lo:=0) (off:=3) (b:=2) (p:=0) (H2:=[aq,bx [(im (d.map c8) false),(iA hh),(bA h)]]) (X:=[bx [(iA 1),(iA (wr .i64 ((wr .i64 (0 - (wr .i64 (wr .u64 (Int.tdiv bs 2))))) - 1))),se,(im [] true)]]) (Nat.le_of_ble_eq_true rfl)))))))))
   exact .st (jy (hb:=by decide) ..) (.st (v:=(iA (wr .i64 (wr .u64 (Int.tdiv bs 2))))) (az (hs:=by kernel_rfl) (hd:=by kernel_rfl) ..) (.s (ag [(iA 1),(iA (wr .i64 (wr .u64 (Int.tdiv bs 2)))),se,(im [] true)]) (.s [aq,bx [(im (d.map c8) false),(iA hh),(bA h)],bx [(iA 1),(iA (wr .i64 (wr .u64 (Int.tdiv bs 2)))),se,(im [] true)]] (.s (ag [(iA 1),(iA (wr .i64 (wr .u64 (Int.tdiv bs 2)))),se,(im [] false)]) (.lf rfl rfl (bH (o:=Out.ret (ag [(iA 1),(iA (wr .i64 (wr .u64 (Int.tdiv bs 2)))),se,(im [] false)])) (lo:=0) (off:=3) (b:=2) (p:=0) (H2:=[aq,bx [(im (d.map c8) false),(iA hh),(bA h)]]) (X:=[bx [(iA 1),(iA (wr .i64 (wr .u64 (Int.tdiv bs 2)))),se,(im [] true)]]) (Nat.le_of_ble_eq_true rfl)))))))
  ·intro hi j66 j67 j68 j69
   refine .un rfl (.cT (by kernel_rfl) (.cr (.ok (.st (fF (hb:=by decide) ..) (.st (aN ..) (.aP (fun tw=>?_) (fun tw=>?_)))))))
   ·exact .st (jy (hb:=by decide) ..) (.st (v:=(iA (wr .i64 (wr .u64 (Int.tdiv 0 2))))) (az (hs:=by kernel_rfl) (hd:=by kernel_rfl) ..) (.s (iA (wr .i64 (0 - (wr .i64 (wr .u64 (Int.tdiv 0 2)))))) (.st (cX ..) (.s (ag [(iA 1),(iA (wr .i64 ((wr .i64 (0 - (wr .i64 (wr .u64 (Int.tdiv 0 2))))) - 1))),se,(im [] true)]) (.s [aq,bx [(im (d.map c8) false),(iA hi),(bA h)],bx [(iA 1),(iA (wr .i64 ((wr .i64 (0 - (wr .i64 (wr .u64 (Int.tdiv 0 2))))) - 1))),se,(im [] true)]] (.s (ag [(iA 1),(iA (wr .i64 ((wr .i64 (0 - (wr .i64 (wr .u64 (Int.tdiv 0 2))))) - 1))),se,(im [] false)]) (.lf rfl rfl (bH (o:=Out.ret (ag [(iA 1),(iA (wr .i64 ((wr .i64 (0 - (wr .i64 (wr .u64 (Int.tdiv 0 2))))) - 1))),se,(im [] false)])) (lo:=0) (off:=3) (b:=2) (p:=0) (H2:=[aq,bx [(im (d.map c8) false),(iA hi),(bA h)]]) (X:=[bx [(iA 1),(iA (wr .i64 ((wr .i64 (0 - (wr .i64 (wr .u64 (Int.tdiv 0 2))))) - 1))),se,(im [] true)]]) (Nat.le_of_ble_eq_true rfl)))))))))
   exact .st (jy (hb:=by decide) ..) (.st (v:=(iA (wr .i64 (wr .u64 (Int.tdiv 0 2))))) (az (hs:=by kernel_rfl) (hd:=by kernel_rfl) ..) (.s (ag [(iA 1),(iA (wr .i64 (wr .u64 (Int.tdiv 0 2)))),se,(im [] true)]) (.s [aq,bx [(im (d.map c8) false),(iA hi),(bA h)],bx [(iA 1),(iA (wr .i64 (wr .u64 (Int.tdiv 0 2)))),se,(im [] true)]] (.s (ag [(iA 1),(iA (wr .i64 (wr .u64 (Int.tdiv 0 2)))),se,(im [] false)]) (.lf rfl rfl (bH (o:=Out.ret (ag [(iA 1),(iA (wr .i64 (wr .u64 (Int.tdiv 0 2)))),se,(im [] false)])) (lo:=0) (off:=3) (b:=2) (p:=0) (H2:=[aq,bx [(im (d.map c8) false),(iA hi),(bA h)]]) (X:=[bx [(iA 1),(iA (wr .i64 (wr .u64 (Int.tdiv 0 2)))),se,(im [] true)]]) (Nat.le_of_ble_eq_true rfl)))))))
 refine .st (aN ..) (.aP (fun vr=>?_) (fun vr=>?_))
 ·refine .cl ((aK zh).trans (Hn C (ec C n 7) (ey C n 7) (n+7) _ _ _)) (.as (vZ C n _ _ _ _  self hS 0 d h 0 0 eH ?_ ?_ ?_ _ 0 0 (wr .i64 (a2+1))))
  ·intro ad q ea j123 j124 j125
   refine .un rfl (.cr (.ok (.s (pt 1 0) (.s (pt 1 2) (.s (bA ea) (.BR (fun hj=>?_) (fun hj=>?_)))))))
   ·refine .bb (.s (pt 1 0) (.s (pt 1 0) (.s (im (d.map c8) false) (.st (dQ (e:=5)) (.s (pt 1 0) (.s (pt 1 1) (.s (iA q) (.st (cX ..) (.st (v:=(A.v (.int .u64 (wr .u64 (wr .i64 (((d.length:Int)) - q)))))) (az (hs:=by kernel_rfl) (hd:=by kernel_rfl) ..) (.cr (.u4 (.u4 (.u4 (.bg (fun t (y:Bool)=>∃ kt:A,t=[(bA y),kt]) ?_ ?_))))))))))))))
    ·exact .wo hj (.st (bQ ..) (.lg ⟨_,rfl⟩))
    rintro _ y127 ⟨kt,rfl⟩
    refine .uc (.uc (.aP (fun vt=>?_) (fun vt=>?_)))
    ·exact .s (pt 1 0) (.s (pt 1 2) (.sh (.s (ag [(iA 0),(iA 0),se,(im [] true)]) (.s [aq,bx [(im (d.map c8) false),(iA q),(bA true)],aq] (.s (ag [(iA 0),(iA 0),se,(im [] false)]) (.lf rfl rfl (bH (o:=Out.ret (ag [(iA 0),(iA 0),se,(im [] false)])) (lo:=0) (off:=3) (b:=2) (p:=0) (H2:=[aq,bx [(im (d.map c8) false),(iA q),(bA true)]]) (X:=[aq]) (Nat.le_of_ble_eq_true rfl))))))))
    refine .s (pt 1 0) (.s (pt 1 1) (.s (iA q) (.st (v:=(iA (wr .i64 (ad)))) (az (hs:=by kernel_rfl) (hd:=by kernel_rfl) ..) (.st (aD ..) (.s (pt 1 0) (.s (pt 1 1) (.s [aq,(kR d q ad ea),aq] (.s (pt 1 0) (.s (pt 1 0) (.s (im (d.map c8) false) (.s (pt 1 0) (.s (pt 1 1) (.s (iA (wr .i64 (q+(wr .i64 (ad))))) (.st (v:=(iA (wr .i64 (ad)))) (az (hs:=by kernel_rfl) (hd:=by kernel_rfl) ..) (.st (cX ..) (.s (pt 1 0) (.s (pt 1 1) (.s (iA (wr .i64 (q+(wr .i64 (ad))))) (.bd (eS (e:=5) (es:=1) (f:=c8) (l:=d) (a:=wr .i64 ((wr .i64 (q+(wr .i64 (ad)))) - (wr .i64 (ad)))) (b:=wr .i64 (q+(wr .i64 (ad)))) (by kernel_rfl) (by kernel_rfl) (fun _=>rfl) (.inr ⟨_,rfl⟩) (.inr ⟨_,rfl⟩)) fun eg=>.st (v:=(A.v (Value.string (cU eg)))) (gq (e:=5) (l:=eg) (by kernel_rfl) (by kernel_rfl) (by kernel_rfl) (by kernel_rfl) (aY ..) rfl) (.s (ag [(iA 2),(iA 0),(A.v (Value.string (cU eg))),(im [] true)]) (.s [aq,(kR d q ad ea),bx [(iA 2),(iA 0),(A.v (Value.string (cU eg))),(im [] true)]] (.s (ag [(iA 2),(iA 0),(A.v (Value.string (cU eg))),(im [] false)]) ?_))))))))))))))))))))))
    exact .lf rfl rfl (bH (o:=Out.ret (ag [(iA 2),(iA 0),(A.v (Value.string (cU eg))),(im [] false)])) (lo:=0) (off:=3) (b:=2) (p:=0) (H2:=[aq,(kR d q ad ea)]) (X:=[bx [(iA 2),(iA 0),(A.v (Value.string (cU eg))),(im [] true)]]) (Nat.le_of_ble_eq_true rfl))
   refine .bb (.cr (.u4 (.u4 (.u4 (.bg (fun t (y:Bool)=>∃ la:A,t=[(bA y),la]) ?_ ?_)))))
   ·exact .vN hj (.lg ⟨_,rfl⟩)
   rintro _ y131 ⟨la,rfl⟩
   refine .uc (.uc (.aP (fun wu=>?_) (fun wu=>?_)))
   ·exact .s (pt 1 0) (.s (pt 1 2) (.sh (.s (ag [(iA 0),(iA 0),se,(im [] true)]) (.s [aq,bx [(im (d.map c8) false),(iA q),(bA true)],aq] (.s (ag [(iA 0),(iA 0),se,(im [] false)]) (.lf rfl rfl (bH (o:=Out.ret (ag [(iA 0),(iA 0),se,(im [] false)])) (lo:=0) (off:=3) (b:=2) (p:=0) (H2:=[aq,bx [(im (d.map c8) false),(iA q),(bA true)]]) (X:=[aq]) (Nat.le_of_ble_eq_true rfl))))))))
   refine .s (pt 1 0) (.s (pt 1 1) (.s (iA q) (.st (v:=(iA (wr .i64 (ad)))) (az (hs:=by kernel_rfl) (hd:=by kernel_rfl) ..) (.st (aD ..) (.s (pt 1 0) (.s (pt 1 1) (.s [aq,(kR d q ad ea),aq] (.s (pt 1 0) (.s (pt 1 0) (.s (im (d.map c8) false) (.s (pt 1 0) (.s (pt 1 1) (.s (iA (wr .i64 (q+(wr .i64 (ad))))) (.st (v:=(iA (wr .i64 (ad)))) (az (hs:=by kernel_rfl) (hd:=by kernel_rfl) ..) (.st (cX ..) (.s (pt 1 0) (.s (pt 1 1) (.s (iA (wr .i64 (q+(wr .i64 (ad))))) (.bd (eS (e:=5) (es:=1) (f:=c8) (l:=d) (a:=wr .i64 ((wr .i64 (q+(wr .i64 (ad)))) - (wr .i64 (ad)))) (b:=wr .i64 (q+(wr .i64 (ad)))) (by kernel_rfl) (by kernel_rfl) (fun _=>rfl) (.inr ⟨_,rfl⟩) (.inr ⟨_,rfl⟩)) fun ei=>.st (v:=(A.v (Value.string (cU ei)))) (gq (e:=5) (l:=ei) (by kernel_rfl) (by kernel_rfl) (by kernel_rfl) (by kernel_rfl) (aY ..) rfl) (.s (ag [(iA 2),(iA 0),(A.v (Value.string (cU ei))),(im [] true)]) (.s [aq,(kR d q ad ea),bx [(iA 2),(iA 0),(A.v (Value.string (cU ei))),(im [] true)]] (.s (ag [(iA 2),(iA 0),(A.v (Value.string (cU ei))),(im [] false)]) ?_))))))))))))))))))))))
   exact .lf rfl rfl (bH (o:=Out.ret (ag [(iA 2),(iA 0),(A.v (Value.string (cU ei))),(im [] false)])) (lo:=0) (off:=3) (b:=2) (p:=0) (H2:=[aq,(kR d q ad ea)]) (X:=[bx [(iA 2),(iA 0),(A.v (Value.string (cU ei))),(im [] true)]]) (Nat.le_of_ble_eq_true rfl))
  ·intro an u j137 j138 j139
   refine .un rfl (.cr (.ok (.s (pt 1 0) (.s (pt 1 2) (.s (bA h) (.BR (fun hk=>?_) (fun hk=>?_)))))))
   ·refine .bb (.s (pt 1 0) (.s (pt 1 0) (.s (im (d.map c8) false) (.st (dQ (e:=5)) (.s (pt 1 0) (.s (pt 1 1) (.s (iA u) (.st (cX ..) (.st (v:=(A.v (.int .u64 (wr .u64 (wr .i64 (((d.length:Int)) - u)))))) (az (hs:=by kernel_rfl) (hd:=by kernel_rfl) ..) (.cr (.u4 (.u4 (.u4 (.bg (fun t (y:Bool)=>∃ lb:A,t=[(bA y),lb]) ?_ ?_))))))))))))))
    ·exact .wo hk (.st (bQ ..) (.lg ⟨_,rfl⟩))
    rintro _ y141 ⟨lb,rfl⟩
    refine .uc (.uc (.aP (fun xt=>?_) (fun xt=>?_)))
    ·exact .s (pt 1 0) (.s (pt 1 2) (.sh (.s (ag [(iA 0),(iA 0),se,(im [] true)]) (.s [aq,bx [(im (d.map c8) false),(iA u),(bA true)],aq] (.s (ag [(iA 0),(iA 0),se,(im [] false)]) (.lf rfl rfl (bH (o:=Out.ret (ag [(iA 0),(iA 0),se,(im [] false)])) (lo:=0) (off:=3) (b:=2) (p:=0) (H2:=[aq,bx [(im (d.map c8) false),(iA u),(bA true)]]) (X:=[aq]) (Nat.le_of_ble_eq_true rfl))))))))
    refine .s (pt 1 0) (.s (pt 1 1) (.s (iA u) (.st (v:=(iA (wr .i64 (an)))) (az (hs:=by kernel_rfl) (hd:=by kernel_rfl) ..) (.st (aD ..) (.s (pt 1 0) (.s (pt 1 1) (.s [aq,(kY d u an h),aq] (.s (pt 1 0) (.s (pt 1 0) (.s (im (d.map c8) false) (.s (pt 1 0) (.s (pt 1 1) (.s (iA (wr .i64 (u+(wr .i64 (an))))) (.st (v:=(iA (wr .i64 (an)))) (az (hs:=by kernel_rfl) (hd:=by kernel_rfl) ..) (.st (cX ..) (.s (pt 1 0) (.s (pt 1 1) (.s (iA (wr .i64 (u+(wr .i64 (an))))) (.bd (eS (e:=5) (es:=1) (f:=c8) (l:=d) (a:=wr .i64 ((wr .i64 (u+(wr .i64 (an)))) - (wr .i64 (an)))) (b:=wr .i64 (u+(wr .i64 (an)))) (by kernel_rfl) (by kernel_rfl) (fun _=>rfl) (.inr ⟨_,rfl⟩) (.inr ⟨_,rfl⟩)) fun ej=>.st (v:=(A.v (Value.string (cU ej)))) (gq (e:=5) (l:=ej) (by kernel_rfl) (by kernel_rfl) (by kernel_rfl) (by kernel_rfl) (aY ..) rfl) (.s (ag [(iA 2),(iA 0),(A.v (Value.string (cU ej))),(im [] true)]) (.s [aq,(kY d u an h),bx [(iA 2),(iA 0),(A.v (Value.string (cU ej))),(im [] true)]] (.s (ag [(iA 2),(iA 0),(A.v (Value.string (cU ej))),(im [] false)]) ?_))))))))))))))))))))))
    exact .lf rfl rfl (bH (o:=Out.ret (ag [(iA 2),(iA 0),(A.v (Value.string (cU ej))),(im [] false)])) (lo:=0) (off:=3) (b:=2) (p:=0) (H2:=[aq,(kY d u an h)]) (X:=[bx [(iA 2),(iA 0),(A.v (Value.string (cU ej))),(im [] true)]]) (Nat.le_of_ble_eq_true rfl))
   refine .bb (.cr (.u4 (.u4 (.u4 (.bg (fun t (y:Bool)=>∃ lx:A,t=[(bA y),lx]) ?_ ?_)))))
   ·exact .vN hk (.lg ⟨_,rfl⟩)
   rintro _ y145 ⟨lx,rfl⟩
   refine .uc (.uc (.aP (fun ys=>?_) (fun ys=>?_)))
   ·exact .s (pt 1 0) (.s (pt 1 2) (.sh (.s (ag [(iA 0),(iA 0),se,(im [] true)]) (.s [aq,bx [(im (d.map c8) false),(iA u),(bA true)],aq] (.s (ag [(iA 0),(iA 0),se,(im [] false)]) (.lf rfl rfl (bH (o:=Out.ret (ag [(iA 0),(iA 0),se,(im [] false)])) (lo:=0) (off:=3) (b:=2) (p:=0) (H2:=[aq,bx [(im (d.map c8) false),(iA u),(bA true)]]) (X:=[aq]) (Nat.le_of_ble_eq_true rfl))))))))
   refine .s (pt 1 0) (.s (pt 1 1) (.s (iA u) (.st (v:=(iA (wr .i64 (an)))) (az (hs:=by kernel_rfl) (hd:=by kernel_rfl) ..) (.st (aD ..) (.s (pt 1 0) (.s (pt 1 1) (.s [aq,(kY d u an h),aq] (.s (pt 1 0) (.s (pt 1 0) (.s (im (d.map c8) false) (.s (pt 1 0) (.s (pt 1 1) (.s (iA (wr .i64 (u+(wr .i64 (an))))) (.st (v:=(iA (wr .i64 (an)))) (az (hs:=by kernel_rfl) (hd:=by kernel_rfl) ..) (.st (cX ..) (.s (pt 1 0) (.s (pt 1 1) (.s (iA (wr .i64 (u+(wr .i64 (an))))) (.bd (eS (e:=5) (es:=1) (f:=c8) (l:=d) (a:=wr .i64 ((wr .i64 (u+(wr .i64 (an)))) - (wr .i64 (an)))) (b:=wr .i64 (u+(wr .i64 (an)))) (by kernel_rfl) (by kernel_rfl) (fun _=>rfl) (.inr ⟨_,rfl⟩) (.inr ⟨_,rfl⟩)) fun fs=>.st (v:=(A.v (Value.string (cU fs)))) (gq (e:=5) (l:=fs) (by kernel_rfl) (by kernel_rfl) (by kernel_rfl) (by kernel_rfl) (aY ..) rfl) (.s (ag [(iA 2),(iA 0),(A.v (Value.string (cU fs))),(im [] true)]) (.s [aq,(kY d u an h),bx [(iA 2),(iA 0),(A.v (Value.string (cU fs))),(im [] true)]] (.s (ag [(iA 2),(iA 0),(A.v (Value.string (cU fs))),(im [] false)]) ?_))))))))))))))))))))))
   exact .lf rfl rfl (bH (o:=Out.ret (ag [(iA 2),(iA 0),(A.v (Value.string (cU fs))),(im [] false)])) (lo:=0) (off:=3) (b:=2) (p:=0) (H2:=[aq,(kY d u an h)]) (X:=[bx [(iA 2),(iA 0),(A.v (Value.string (cU fs))),(im [] true)]]) (Nat.le_of_ble_eq_true rfl))
  ·intro ab j150 j151 j152 j153
   refine .un rfl (.cT (by kernel_rfl) (.cr (.ok (.s (pt 1 0) (.s (pt 1 2) (.s (bA h) (.BR (fun ho=>?_) (fun ho=>?_))))))))
   ·refine .bb (.s (pt 1 0) (.s (pt 1 0) (.s (im (d.map c8) false) (.st (dQ (e:=5)) (.s (pt 1 0) (.s (pt 1 1) (.s (iA ab) (.st (cX ..) (.st (v:=(A.v (.int .u64 (wr .u64 (wr .i64 (((d.length:Int)) - ab)))))) (az (hs:=by kernel_rfl) (hd:=by kernel_rfl) ..) (.cr (.u4 (.u4 (.u4 (.bg (fun t (y:Bool)=>∃ ly:A,t=[(bA y),ly]) ?_ ?_))))))))))))))
    ·exact .wo ho (.st (bQ ..) (.lg ⟨_,rfl⟩))
    rintro _ y155 ⟨ly,rfl⟩
    refine .uc (.uc (.aP (fun zc=>?_) (fun zc=>?_)))
    ·exact .s (pt 1 0) (.s (pt 1 2) (.sh (.s (ag [(iA 0),(iA 0),se,(im [] true)]) (.s [aq,bx [(im (d.map c8) false),(iA ab),(bA true)],aq] (.s (ag [(iA 0),(iA 0),se,(im [] false)]) (.lf rfl rfl (bH (o:=Out.ret (ag [(iA 0),(iA 0),se,(im [] false)])) (lo:=0) (off:=3) (b:=2) (p:=0) (H2:=[aq,bx [(im (d.map c8) false),(iA ab),(bA true)]]) (X:=[aq]) (Nat.le_of_ble_eq_true rfl))))))))
    refine .s (pt 1 0) (.s (pt 1 1) (.s (iA ab) (.s (iA 0) (.st (aD ..) (.s (pt 1 0) (.s (pt 1 1) (.s [aq,bx [(im (d.map c8) false),(iA (wr .i64 (ab+0))),(bA h)],aq] (.s (pt 1 0) (.s (pt 1 0) (.s (im (d.map c8) false) (.s (pt 1 0) (.s (pt 1 1) (.s (iA (wr .i64 (ab+0))) (.s (iA 0) (.st (cX ..) (.s (pt 1 0) (.s (pt 1 1) (.s (iA (wr .i64 (ab+0))) (.bd (eS (e:=5) (es:=1) (f:=c8) (l:=d) (a:=wr .i64 ((wr .i64 (ab+0)) - 0)) (b:=wr .i64 (ab+0)) (by kernel_rfl) (by kernel_rfl) (fun _=>rfl) (.inr ⟨_,rfl⟩) (.inr ⟨_,rfl⟩)) fun fv=>.st (v:=(A.v (Value.string (cU fv)))) (gq (e:=5) (l:=fv) (by kernel_rfl) (by kernel_rfl) (by kernel_rfl) (by kernel_rfl) (aY ..) rfl) (.s (ag [(iA 2),(iA 0),(A.v (Value.string (cU fv))),(im [] true)]) (.s [aq,bx [(im (d.map c8) false),(iA (wr .i64 (ab+0))),(bA h)],bx [(iA 2),(iA 0),(A.v (Value.string (cU fv))),(im [] true)]] (.s (ag [(iA 2),(iA 0),(A.v (Value.string (cU fv))),(im [] false)]) ?_))))))))))))))))))))))
    exact .lf rfl rfl (bH (o:=Out.ret (ag [(iA 2),(iA 0),(A.v (Value.string (cU fv))),(im [] false)])) (lo:=0) (off:=3) (b:=2) (p:=0) (H2:=[aq,bx [(im (d.map c8) false),(iA (wr .i64 (ab+0))),(bA h)]]) (X:=[bx [(iA 2),(iA 0),(A.v (Value.string (cU fv))),(im [] true)]]) (Nat.le_of_ble_eq_true rfl))
   refine .bb (.cr (.u4 (.u4 (.u4 (.bg (fun t (y:Bool)=>∃ mn:A,t=[(bA y),mn]) ?_ ?_)))))
   ·exact .vN ho (.lg ⟨_,rfl⟩)
   rintro _ y159 ⟨mn,rfl⟩
   refine .uc (.uc (.aP (fun zm=>?_) (fun zm=>?_)))
   ·exact .s (pt 1 0) (.s (pt 1 2) (.sh (.s (ag [(iA 0),(iA 0),se,(im [] true)]) (.s [aq,bx [(im (d.map c8) false),(iA ab),(bA true)],aq] (.s (ag [(iA 0),(iA 0),se,(im [] false)]) (.lf rfl rfl (bH (o:=Out.ret (ag [(iA 0),(iA 0),se,(im [] false)])) (lo:=0) (off:=3) (b:=2) (p:=0) (H2:=[aq,bx [(im (d.map c8) false),(iA ab),(bA true)]]) (X:=[aq]) (Nat.le_of_ble_eq_true rfl))))))))
   refine .s (pt 1 0) (.s (pt 1 1) (.s (iA ab) (.s (iA 0) (.st (aD ..) (.s (pt 1 0) (.s (pt 1 1) (.s [aq,bx [(im (d.map c8) false),(iA (wr .i64 (ab+0))),(bA h)],aq] (.s (pt 1 0) (.s (pt 1 0) (.s (im (d.map c8) false) (.s (pt 1 0) (.s (pt 1 1) (.s (iA (wr .i64 (ab+0))) (.s (iA 0) (.st (cX ..) (.s (pt 1 0) (.s (pt 1 1) (.s (iA (wr .i64 (ab+0))) (.bd (eS (e:=5) (es:=1) (f:=c8) (l:=d) (a:=wr .i64 ((wr .i64 (ab+0)) - 0)) (b:=wr .i64 (ab+0)) (by kernel_rfl) (by kernel_rfl) (fun _=>rfl) (.inr ⟨_,rfl⟩) (.inr ⟨_,rfl⟩)) fun gf=>.st (v:=(A.v (Value.string (cU gf)))) (gq (e:=5) (l:=gf) (by kernel_rfl) (by kernel_rfl) (by kernel_rfl) (by kernel_rfl) (aY ..) rfl) (.s (ag [(iA 2),(iA 0),(A.v (Value.string (cU gf))),(im [] true)]) (.s [aq,bx [(im (d.map c8) false),(iA (wr .i64 (ab+0))),(bA h)],bx [(iA 2),(iA 0),(A.v (Value.string (cU gf))),(im [] true)]] (.s (ag [(iA 2),(iA 0),(A.v (Value.string (cU gf))),(im [] false)]) ?_))))))))))))))))))))))
   exact .lf rfl rfl (bH (o:=Out.ret (ag [(iA 2),(iA 0),(A.v (Value.string (cU gf))),(im [] false)])) (lo:=0) (off:=3) (b:=2) (p:=0) (H2:=[aq,bx [(im (d.map c8) false),(iA (wr .i64 (ab+0))),(bA h)]]) (X:=[bx [(iA 2),(iA 0),(A.v (Value.string (cU gf))),(im [] true)]]) (Nat.le_of_ble_eq_true rfl))
 refine .st (aN ..) (.aP (fun zn=>?_) (fun zn=>?_))
 ·refine .cl ((aK zh).trans (Hn C (ec C n 7) (ey C n 7) (n+7) _ _ _)) (.as (wa C n _ _ _ _  self hS 0 d h 0 0 eH ?_ ?_ ?_ _ 0 0 (wr .i64 (a2+1))))
  ·intro mx cv ha j215 j216 j217
   refine .un rfl (.cr (.ok (.s (pt 1 0) (.s (pt 1 2) (.s (bA ha) (.BR (fun hp=>?_) (fun hp=>?_)))))))
   ·refine .bb (.s (pt 1 0) (.s (pt 1 0) (.s (im (d.map c8) false) (.st (dQ (e:=5)) (.s (pt 1 0) (.s (pt 1 1) (.s (iA cv) (.st (cX ..) (.st (v:=(A.v (.int .u64 (wr .u64 (wr .i64 (((d.length:Int)) - cv)))))) (az (hs:=by kernel_rfl) (hd:=by kernel_rfl) ..) (.cr (.u4 (.u4 (.u4 (.bg (fun t (y:Bool)=>∃ nb:A,t=[(bA y),nb]) ?_ ?_))))))))))))))
    ·exact .wo hp (.st (bQ ..) (.lg ⟨_,rfl⟩))
    rintro _ y219 ⟨nb,rfl⟩
    refine .uc (.uc (.bg (fun t (y:Bool)=>∃ nf ni:A,t=[(bA y),nf,ni]) ?_ ?_))
    ·refine .dg (fun zz=>?_) (fun zz=>?_)
     ·exact .lg ⟨_,_,rfl⟩
     exact .st (aN ..) (.lg ⟨_,_,rfl⟩)
    rintro _ y222 ⟨nf,ni,rfl⟩
    refine .uc (.uc (.uc (.aP (fun hk225=>?_) (fun hk225=>?_))))
    ·exact .s (pt 1 0) (.s (pt 1 2) (.sh (.s (ag [(iA 0),(iA 0),se,(im [] true)]) (.s [aq,bx [(im (d.map c8) false),(iA cv),(bA true)],aq] (.s (ag [(iA 0),(iA 0),se,(im [] false)]) (.lf rfl rfl (bH (o:=Out.ret (ag [(iA 0),(iA 0),se,(im [] false)])) (lo:=0) (off:=3) (b:=2) (p:=0) (H2:=[aq,bx [(im (d.map c8) false),(iA cv),(bA true)]]) (X:=[aq]) (Nat.le_of_ble_eq_true rfl))))))))
    refine .s (ag [(iA 3),(iA 0),se,(im [] true)]) (.sq (pt 3 0) (.s [aq,bx [(im (d.map c8) false),(iA cv),(bA ha)],aq,bx [(iA 3),(iA 0),se,(im [] true)]] (.as (A7 C n _ _ _ _  self hS a4 mx d 0 0 eH ([]) 3 0 eH ?_ _ 0 cv ha (([]:List ai))))))
    ·intro hq hr ca j254 j255 j256
     exact .un rfl (.cT (by kernel_rfl) (.s (ag [(iA 3),(iA 0),se,(aX 4 0 ca.length false)]) (.s [aq,bx [(im (d.map c8) false),(iA hq),(bA hr)],(kS ca),(kS ca),aA.row false 4 (ca.map af)] (.st (v:=(ag [(iA 3),(iA 0),se,(im (ca.map af) false)])) ((congrArg (fun z=>iJ prog 98 (pt 2 0) z) (jA (H:=[aq,bx [(im (d.map c8) false),(iA hq),(bA hr)],(kS ca),(kS ca),aA.row false 4 (ca.map af)]) (lo:=0) (off:=3) (b:=2) (o:=0) (b':=4) (es:=4) (l:=ca) bM rfl rfl rfl (Nat.le_of_ble_eq_true rfl))).trans (by kernel_rfl)) (.lf rfl rfl (bH (o:=Out.ret (ag [(iA 3),(iA 0),se,(im (ca.map af) false)])) (lo:=0) (off:=3) (b:=2) (p:=0) (H2:=[aq,bx [(im (d.map c8) false),(iA hq),(bA hr)]]) (X:=[(kS ca),(kS ca),aA.row false 4 (ca.map af)]) (Nat.le_of_ble_eq_true rfl)))))))
   refine .bb (.cr (.u4 (.u4 (.u4 (.bg (fun t (y:Bool)=>∃ ns:A,t=[(bA y),ns]) ?_ ?_)))))
   ·exact .vN hp (.lg ⟨_,rfl⟩)
   rintro _ y257 ⟨ns,rfl⟩
   refine .uc (.uc (.bg (fun t (y:Bool)=>∃ nt oa:A,t=[(bA y),nt,oa]) ?_ ?_))
   ·refine .dg (fun hk259=>?_) (fun hk259=>?_)
    ·exact .lg ⟨_,_,rfl⟩
    exact .st (aN ..) (.lg ⟨_,_,rfl⟩)
   rintro _ y260 ⟨nt,oa,rfl⟩
   refine .uc (.uc (.uc (.aP (fun hk263=>?_) (fun hk263=>?_))))
   ·exact .s (pt 1 0) (.s (pt 1 2) (.sh (.s (ag [(iA 0),(iA 0),se,(im [] true)]) (.s [aq,bx [(im (d.map c8) false),(iA cv),(bA true)],aq] (.s (ag [(iA 0),(iA 0),se,(im [] false)]) (.lf rfl rfl (bH (o:=Out.ret (ag [(iA 0),(iA 0),se,(im [] false)])) (lo:=0) (off:=3) (b:=2) (p:=0) (H2:=[aq,bx [(im (d.map c8) false),(iA cv),(bA true)]]) (X:=[aq]) (Nat.le_of_ble_eq_true rfl))))))))
   refine .s (ag [(iA 3),(iA 0),se,(im [] true)]) (.sq (pt 3 0) (.s [aq,bx [(im (d.map c8) false),(iA cv),(bA ha)],aq,bx [(iA 3),(iA 0),se,(im [] true)]] (.as (yd C n _ _ _ _  self hS a4 mx d 0 0 eH ([]) 3 0 eH ?_ _ 0 cv ha (([]:List ai))))))
   ·intro ht hv cb j292 j293 j294
    exact .un rfl (.cT (by kernel_rfl) (.s (ag [(iA 3),(iA 0),se,(aX 4 0 cb.length false)]) (.s [aq,bx [(im (d.map c8) false),(iA ht),(bA hv)],(kT cb),(kT cb),aA.row false 4 (cb.map af)] (.st (v:=(ag [(iA 3),(iA 0),se,(im (cb.map af) false)])) ((congrArg (fun z=>iJ prog 98 (pt 2 0) z) (jA (H:=[aq,bx [(im (d.map c8) false),(iA ht),(bA hv)],(kT cb),(kT cb),aA.row false 4 (cb.map af)]) (lo:=0) (off:=3) (b:=2) (o:=0) (b':=4) (es:=4) (l:=cb) bM rfl rfl rfl (Nat.le_of_ble_eq_true rfl))).trans (by kernel_rfl)) (.lf rfl rfl (bH (o:=Out.ret (ag [(iA 3),(iA 0),se,(im (cb.map af) false)])) (lo:=0) (off:=3) (b:=2) (p:=0) (H2:=[aq,bx [(im (d.map c8) false),(iA ht),(bA hv)]]) (X:=[(kT cb),(kT cb),aA.row false 4 (cb.map af)]) (Nat.le_of_ble_eq_true rfl)))))))
  ·intro oc cy j297 j298 j299
   refine .un rfl (.cr (.ok (.s (pt 1 0) (.s (pt 1 2) (.s (bA h) (.BR (fun hx=>?_) (fun hx=>?_)))))))
   ·refine .bb (.s (pt 1 0) (.s (pt 1 0) (.s (im (d.map c8) false) (.st (dQ (e:=5)) (.s (pt 1 0) (.s (pt 1 1) (.s (iA cy) (.st (cX ..) (.st (v:=(A.v (.int .u64 (wr .u64 (wr .i64 (((d.length:Int)) - cy)))))) (az (hs:=by kernel_rfl) (hd:=by kernel_rfl) ..) (.cr (.u4 (.u4 (.u4 (.bg (fun t (y:Bool)=>∃ oi:A,t=[(bA y),oi]) ?_ ?_))))))))))))))
    ·exact .wo hx (.st (bQ ..) (.lg ⟨_,rfl⟩))
    rintro _ y301 ⟨oi,rfl⟩
    refine .uc (.uc (.bg (fun t (y:Bool)=>∃ oj oo:A,t=[(bA y),oj,oo]) ?_ ?_))
    ·refine .dg (fun hk303=>?_) (fun hk303=>?_)
     ·exact .lg ⟨_,_,rfl⟩
     exact .st (aN ..) (.lg ⟨_,_,rfl⟩)
    rintro _ y304 ⟨oj,oo,rfl⟩
    refine .uc (.uc (.uc (.aP (fun hk307=>?_) (fun hk307=>?_))))
    ·exact .s (pt 1 0) (.s (pt 1 2) (.sh (.s (ag [(iA 0),(iA 0),se,(im [] true)]) (.s [aq,bx [(im (d.map c8) false),(iA cy),(bA true)],aq] (.s (ag [(iA 0),(iA 0),se,(im [] false)]) (.lf rfl rfl (bH (o:=Out.ret (ag [(iA 0),(iA 0),se,(im [] false)])) (lo:=0) (off:=3) (b:=2) (p:=0) (H2:=[aq,bx [(im (d.map c8) false),(iA cy),(bA true)]]) (X:=[aq]) (Nat.le_of_ble_eq_true rfl))))))))
    refine .s (ag [(iA 3),(iA 0),se,(im [] true)]) (.sq (pt 3 0) (.s [aq,bx [(im (d.map c8) false),(iA cy),(bA h)],aq,bx [(iA 3),(iA 0),se,(im [] true)]] (.as (ye C n _ _ _ _  self hS a4 oc d 0 0 eH ([]) 3 0 eH ?_ _ 0 cy h (([]:List ai))))))
    ·intro hy ie cc j336 j337 j338
     exact .un rfl (.cT (by kernel_rfl) (.s (ag [(iA 3),(iA 0),se,(aX 4 0 cc.length false)]) (.s [aq,bx [(im (d.map c8) false),(iA hy),(bA ie)],(kU cc),(kU cc),aA.row false 4 (cc.map af)] (.st (v:=(ag [(iA 3),(iA 0),se,(im (cc.map af) false)])) ((congrArg (fun z=>iJ prog 98 (pt 2 0) z) (jA (H:=[aq,bx [(im (d.map c8) false),(iA hy),(bA ie)],(kU cc),(kU cc),aA.row false 4 (cc.map af)]) (lo:=0) (off:=3) (b:=2) (o:=0) (b':=4) (es:=4) (l:=cc) bM rfl rfl rfl (Nat.le_of_ble_eq_true rfl))).trans (by kernel_rfl)) (.lf rfl rfl (bH (o:=Out.ret (ag [(iA 3),(iA 0),se,(im (cc.map af) false)])) (lo:=0) (off:=3) (b:=2) (p:=0) (H2:=[aq,bx [(im (d.map c8) false),(iA hy),(bA ie)]]) (X:=[(kU cc),(kU cc),aA.row false 4 (cc.map af)]) (Nat.le_of_ble_eq_true rfl)))))))
   refine .bb (.cr (.u4 (.u4 (.u4 (.bg (fun t (y:Bool)=>∃ oq:A,t=[(bA y),oq]) ?_ ?_)))))
   ·exact .vN hx (.lg ⟨_,rfl⟩)
   rintro _ y339 ⟨oq,rfl⟩
   refine .uc (.uc (.bg (fun t (y:Bool)=>∃ pc ps:A,t=[(bA y),pc,ps]) ?_ ?_))
   ·refine .dg (fun hk341=>?_) (fun hk341=>?_)
    ·exact .lg ⟨_,_,rfl⟩
    exact .st (aN ..) (.lg ⟨_,_,rfl⟩)
   rintro _ y342 ⟨pc,ps,rfl⟩
   refine .uc (.uc (.uc (.aP (fun hk345=>?_) (fun hk345=>?_))))
   ·exact .s (pt 1 0) (.s (pt 1 2) (.sh (.s (ag [(iA 0),(iA 0),se,(im [] true)]) (.s [aq,bx [(im (d.map c8) false),(iA cy),(bA true)],aq] (.s (ag [(iA 0),(iA 0),se,(im [] false)]) (.lf rfl rfl (bH (o:=Out.ret (ag [(iA 0),(iA 0),se,(im [] false)])) (lo:=0) (off:=3) (b:=2) (p:=0) (H2:=[aq,bx [(im (d.map c8) false),(iA cy),(bA true)]]) (X:=[aq]) (Nat.le_of_ble_eq_true rfl))))))))
   refine .s (ag [(iA 3),(iA 0),se,(im [] true)]) (.sq (pt 3 0) (.s [aq,bx [(im (d.map c8) false),(iA cy),(bA h)],aq,bx [(iA 3),(iA 0),se,(im [] true)]] (.as (yf C n _ _ _ _  self hS a4 oc d 0 0 eH ([]) 3 0 eH ?_ _ 0 cy h (([]:List ai))))))
   ·intro ih ik ch j374 j375 j376
    exact .un rfl (.cT (by kernel_rfl) (.s (ag [(iA 3),(iA 0),se,(aX 4 0 ch.length false)]) (.s [aq,bx [(im (d.map c8) false),(iA ih),(bA ik)],(kV ch),(kV ch),aA.row false 4 (ch.map af)] (.st (v:=(ag [(iA 3),(iA 0),se,(im (ch.map af) false)])) ((congrArg (fun z=>iJ prog 98 (pt 2 0) z) (jA (H:=[aq,bx [(im (d.map c8) false),(iA ih),(bA ik)],(kV ch),(kV ch),aA.row false 4 (ch.map af)]) (lo:=0) (off:=3) (b:=2) (o:=0) (b':=4) (es:=4) (l:=ch) bM rfl rfl rfl (Nat.le_of_ble_eq_true rfl))).trans (by kernel_rfl)) (.lf rfl rfl (bH (o:=Out.ret (ag [(iA 3),(iA 0),se,(im (ch.map af) false)])) (lo:=0) (off:=3) (b:=2) (p:=0) (H2:=[aq,bx [(im (d.map c8) false),(iA ih),(bA ik)]]) (X:=[(kV ch),(kV ch),aA.row false 4 (ch.map af)]) (Nat.le_of_ble_eq_true rfl)))))))
  ·intro dd j378 j379 j380 j381
   refine .un rfl (.cT (by kernel_rfl) (.cr (.ok (.s (pt 1 0) (.s (pt 1 2) (.s (bA h) (.BR (fun js=>?_) (fun js=>?_))))))))
   ·refine .bb (.s (pt 1 0) (.s (pt 1 0) (.s (im (d.map c8) false) (.st (dQ (e:=5)) (.s (pt 1 0) (.s (pt 1 1) (.s (iA dd) (.st (cX ..) (.st (v:=(A.v (.int .u64 (wr .u64 (wr .i64 (((d.length:Int)) - dd)))))) (az (hs:=by kernel_rfl) (hd:=by kernel_rfl) ..) (.cr (.u4 (.u4 (.u4 (.bg (fun t (y:Bool)=>∃ qi:A,t=[(bA y),qi]) ?_ ?_))))))))))))))
    ·exact .wo js (.st (bQ ..) (.lg ⟨_,rfl⟩))
    rintro _ y383 ⟨qi,rfl⟩
    refine .uc (.uc (.bg (fun t (y:Bool)=>∃ qv sa:A,t=[(bA y),qv,sa]) ?_ ?_))
    ·refine .dg (fun hk385=>?_) (fun hk385=>?_)
     ·exact .lg ⟨_,_,rfl⟩
     exact .st (aN ..) (.lg ⟨_,_,rfl⟩)
    rintro _ y386 ⟨qv,sa,rfl⟩
    refine .uc (.uc (.uc (.aP (fun hk389=>?_) (fun hk389=>?_))))
    ·exact .s (pt 1 0) (.s (pt 1 2) (.sh (.s (ag [(iA 0),(iA 0),se,(im [] true)]) (.s [aq,bx [(im (d.map c8) false),(iA dd),(bA true)],aq] (.s (ag [(iA 0),(iA 0),se,(im [] false)]) (.lf rfl rfl (bH (o:=Out.ret (ag [(iA 0),(iA 0),se,(im [] false)])) (lo:=0) (off:=3) (b:=2) (p:=0) (H2:=[aq,bx [(im (d.map c8) false),(iA dd),(bA true)]]) (X:=[aq]) (Nat.le_of_ble_eq_true rfl))))))))
    refine .s (ag [(iA 3),(iA 0),se,(im [] true)]) (.sq (pt 3 0) (.s [aq,bx [(im (d.map c8) false),(iA dd),(bA h)],aq,bx [(iA 3),(iA 0),se,(im [] true)]] (.as (yg C n _ _ _ _  self hS a4 0 d 0 0 eH ([]) 3 0 eH ?_ _ 0 dd h (([]:List ai))))))
    ·intro kc kk ck j418 j419 j420
     exact .un rfl (.cT (by kernel_rfl) (.s (ag [(iA 3),(iA 0),se,(aX 4 0 ck.length false)]) (.s [aq,bx [(im (d.map c8) false),(iA kc),(bA kk)],(kW ck),(kW ck),aA.row false 4 (ck.map af)] (.st (v:=(ag [(iA 3),(iA 0),se,(im (ck.map af) false)])) ((congrArg (fun z=>iJ prog 98 (pt 2 0) z) (jA (H:=[aq,bx [(im (d.map c8) false),(iA kc),(bA kk)],(kW ck),(kW ck),aA.row false 4 (ck.map af)]) (lo:=0) (off:=3) (b:=2) (o:=0) (b':=4) (es:=4) (l:=ck) bM rfl rfl rfl (Nat.le_of_ble_eq_true rfl))).trans (by kernel_rfl)) (.lf rfl rfl (bH (o:=Out.ret (ag [(iA 3),(iA 0),se,(im (ck.map af) false)])) (lo:=0) (off:=3) (b:=2) (p:=0) (H2:=[aq,bx [(im (d.map c8) false),(iA kc),(bA kk)]]) (X:=[(kW ck),(kW ck),aA.row false 4 (ck.map af)]) (Nat.le_of_ble_eq_true rfl)))))))
   refine .bb (.cr (.u4 (.u4 (.u4 (.bg (fun t (y:Bool)=>∃ sb:A,t=[(bA y),sb]) ?_ ?_)))))
   ·exact .vN js (.lg ⟨_,rfl⟩)
   rintro _ y421 ⟨sb,rfl⟩
   refine .uc (.uc (.bg (fun t (y:Bool)=>∃ si sk:A,t=[(bA y),si,sk]) ?_ ?_))
   ·refine .dg (fun hk423=>?_) (fun hk423=>?_)
    ·exact .lg ⟨_,_,rfl⟩
    exact .st (aN ..) (.lg ⟨_,_,rfl⟩)
   rintro _ y424 ⟨si,sk,rfl⟩
   refine .uc (.uc (.uc (.aP (fun hk427=>?_) (fun hk427=>?_))))
   ·exact .s (pt 1 0) (.s (pt 1 2) (.sh (.s (ag [(iA 0),(iA 0),se,(im [] true)]) (.s [aq,bx [(im (d.map c8) false),(iA dd),(bA true)],aq] (.s (ag [(iA 0),(iA 0),se,(im [] false)]) (.lf rfl rfl (bH (o:=Out.ret (ag [(iA 0),(iA 0),se,(im [] false)])) (lo:=0) (off:=3) (b:=2) (p:=0) (H2:=[aq,bx [(im (d.map c8) false),(iA dd),(bA true)]]) (X:=[aq]) (Nat.le_of_ble_eq_true rfl))))))))
   refine .s (ag [(iA 3),(iA 0),se,(im [] true)]) (.sq (pt 3 0) (.s [aq,bx [(im (d.map c8) false),(iA dd),(bA h)],aq,bx [(iA 3),(iA 0),se,(im [] true)]] (.as (yh C n _ _ _ _  self hS a4 0 d 0 0 eH ([]) 3 0 eH ?_ _ 0 dd h (([]:List ai))))))
   ·intro kn ko cm j456 j457 j458
    exact .un rfl (.cT (by kernel_rfl) (.s (ag [(iA 3),(iA 0),se,(aX 4 0 cm.length false)]) (.s [aq,bx [(im (d.map c8) false),(iA kn),(bA ko)],(kX cm),(kX cm),aA.row false 4 (cm.map af)] (.st (v:=(ag [(iA 3),(iA 0),se,(im (cm.map af) false)])) ((congrArg (fun z=>iJ prog 98 (pt 2 0) z) (jA (H:=[aq,bx [(im (d.map c8) false),(iA kn),(bA ko)],(kX cm),(kX cm),aA.row false 4 (cm.map af)]) (lo:=0) (off:=3) (b:=2) (o:=0) (b':=4) (es:=4) (l:=cm) bM rfl rfl rfl (Nat.le_of_ble_eq_true rfl))).trans (by kernel_rfl)) (.lf rfl rfl (bH (o:=Out.ret (ag [(iA 3),(iA 0),se,(im (cm.map af) false)])) (lo:=0) (off:=3) (b:=2) (p:=0) (H2:=[aq,bx [(im (d.map c8) false),(iA kn),(bA ko)]]) (X:=[(kX cm),(kX cm),aA.row false 4 (cm.map af)]) (Nat.le_of_ble_eq_true rfl)))))))
 exact .s (pt 1 0) (.s (pt 1 2) (.sh (.s (ag [(iA 0),(iA 0),se,(im [] true)]) (.s [aq,bx [(im (d.map c8) false),(iA (wr .i64 (a2+1))),(bA true)],aq] (.s (ag [(iA 0),(iA 0),se,(im [] false)]) (.lf rfl rfl (bH (o:=Out.ret (ag [(iA 0),(iA 0),se,(im [] false)])) (lo:=0) (off:=3) (b:=2) (p:=0) (H2:=[aq,bx [(im (d.map c8) false),(iA (wr .i64 (a2+1))),(bA true)]]) (X:=[aq]) (Nat.le_of_ble_eq_true rfl))))))))
def zU:Nat->(List UInt8)->Int->Bool->Int->Option (ai×Int×Bool)
 | 0=>fun _ _ _ _=>none
 | N+1=>fun a1 a2 a3 a4=>bif Nat.ble 8 N then vS (zU N) (N - 8) a1 a2 a3 a4 else none
theorem I4 (C:OT):∀ N,q7 C N (zU N)
 | 0=>fun _ _ _ _ X r h=>by cases h
 | N+1=>fun d p q u X=>by
  show J _ _ _ (bif Nat.ble 8 N then vS (zU N) (N - 8) d p q u else none) _
  cases h:Nat.ble 8 N with
  | false=>exact fun r h=>by cases h
  | true =>
   obtain ⟨n,rfl⟩:∃ n,N=n+8:=⟨N - 8,by have:=Nat.le_of_ble_eq_true h; omega⟩
   rw[Nat.add_sub_cancel]
   exact CU (m:=2) (by kernel_rfl) (by kernel_rfl) (by decide) rfl (by kernel_rfl) ((by kernel_rfl:_=((((au 2 (d.map c8))&&true))&&true)).trans (by simp only[iC,iD])) (fun _=>rfl) (fun y=>((by kernel_rfl:_=((au 2 (y.1.L.map af))&&true)).trans (by simp only[iC,iD]))) (fun y=>((by kernel_rfl:_=((((au 2 (d.map c8))&&true))&&true)).trans (by simp only[iC,iD]))) (MR C n  (zU (n+8)) (I4 C  (n+8)) d p q u)
def oN (d:(ai×Int×Bool)):aA:=bx [(iA d.1.Kind),(iA d.1.N),(sA d.1.S),(im (d.1.L.map af) false)]
def Lt (n:Nat) (h:(List UInt8)):Option (ai×Int) :=
 (zU (n+8) h 0 false 0).bind fun d=>(bif d.2.2 then (some true) else (some (d.2.1 != ((h.length:Int))))).bind fun p=>(bif p then (some true) else ((Ir d.1).bind fun q=>some (q != 0))).bind fun u=>bif u then ((some true).bind fun y=>bif y then (some (((ai.mk 0 0 eH ([])),10))) else (some ((d.1,0)))) else ((I2 d.1).bind fun ab=>(some (!iQ (cU ab) (cU h))).bind fun ad=>bif ad then (some (((ai.mk 0 0 eH ([])),10))) else (some ((d.1,0))))
theorem QK (C:OT) (n:Nat) (cm:Cg C) (cv:Ch C) (h:(List UInt8)):J (fun (o:R) y=>∃ v,o.1=.ret v/\aE o.2 v=(tp [(ag [(iA y.1.Kind),(iA y.1.N),(sA y.1.S),(im (y.1.L.map af) false)]),(iA y.2)])) (av (cx C) (ec C n 8) (ey C n 8) (n+8) 63 [(im (h.map c8) false)] [] 0) some (Lt n h) some:=by
 refine .lp (Rv ..) ?_
 unfold Lt
 refine .s ((pt 0 0),[fm]) (.s (ag [(im (h.map c8) false),(iA 0),(bA false)]) (.s ((pt 1 0),[fm,bx [(im (h.map c8) false),(iA 0),(bA false)]]) (.bg (fun (t:R) (y:(ai×Int×Bool))=>t=(Out.ret (ag [(iA y.1.Kind),(iA y.1.N),(sA y.1.S),(im (y.1.L.map af) false)]),[fm,bx [(im (h.map c8) false),(iA y.2.1),(bA y.2.2)]])) (I4 C (n+8) h 0 false 0 []) ?_)))
 rintro _ d rfl
 refine .ok (.sq (pt 2 0) (.s [fm,bx [(im (h.map c8) false),(iA d.2.1),(bA d.2.2)],(oN d)] (.s (pt 1 0) (.s (pt 1 2) (.s (bA d.2.2) (.bg (fun t (y:Bool)=>∃ q u j6 j7 j8 j9 bm:A,t=[(bA y),q,u,j6,j7,j8,j9,bm]) ?_ ?_))))))
 ·refine .dg (fun cy=>?_) (fun cy=>?_)
  ·exact .lg ⟨_,_,_,_,_,_,_,rfl⟩
  exact .s (pt 1 0) (.s (pt 1 1) (.s (iA d.2.1) (.st (dQ (e:=5)) (.st (ba ..) (.lg ⟨_,_,_,_,_,_,_,rfl⟩)))))
 rintro _ y3 ⟨q,u,j6,j7,j8,j9,bm,rfl⟩
 refine .u4 (.u4 (.bg (fun t (y:Bool)=>∃ bs ca cb:A,t=[(bA y),bs,ca,cb]) ?_ ?_))
 ·refine .dg (fun dd=>?_) (fun dd=>?_)
  ·exact .lg ⟨_,_,_,rfl⟩
  exact .s (ag [(iA d.1.Kind),(iA d.1.N),(sA d.1.S),(im (d.1.L.map af) false)]) (.bd (g:=fun (y:Int)=>(iA y)) (by show C 79 [snap _ (ag [(iA d.1.Kind),(iA d.1.N),(sA d.1.S),(im (d.1.L.map af) false)])]=_; simp only[cR,dS]; exact cm d.1) fun ei=>.st (ba ..) (.lg ⟨_,_,_,rfl⟩))
 rintro _ ej ⟨bs,ca,cb,rfl⟩
 refine .u4 (.BR (fun p=>?_) (fun p=>?_))
 ·refine .bb (.s (ag [(iA d.1.Kind),(iA d.1.N),(sA d.1.S),(im (d.1.L.map af) false)]) (.bd (g:=fun (y:(List UInt8))=>(im (y.map c8) false)) (by show C 80 [snap _ (ag [(iA d.1.Kind),(iA d.1.N),(sA d.1.S),(im (d.1.L.map af) false)])]=_; simp only[cR,dS]; exact cv d.1) fun cc=>.st (v:=(A.v (Value.string (cU cc)))) (gq (e:=5) (l:=cc) (by kernel_rfl) (by kernel_rfl) (by kernel_rfl) (by kernel_rfl) (aY ..) rfl) (.st (v:=(A.v (Value.string (cU h)))) (gq (e:=5) (l:=h) (by kernel_rfl) (by kernel_rfl) (by kernel_rfl) (by kernel_rfl) (aY ..) rfl) (.cr (.u4 (.uc (.bg (fun t (y:Bool)=>∃ ch:A,t=[(bA y),ch]) ?_ ?_)))))))
  ·exact .wo p (.st (re ..) (.lg ⟨_,rfl⟩))
  rintro _ fs ⟨ch,rfl⟩
  refine .uc (.uc (.aP (fun ds=>?_) (fun ds=>?_)))
  ·exact .s (ag [(iA 0),(iA 0),se,(im [] true)]) (.s [fm,bx [(im (h.map c8) false),(iA d.2.1),(bA d.2.2)],(oN d)] (.s (ag [(iA 0),(iA 0),se,(im [] true)]) (.lv (by show aE _ (tp [(ag [(iA 0),(iA 0),se,(im [] true)]),(iA 10)])=_; simp only[cR,jL,aE]; first | done | rfl))))
  exact .s (ag [(iA d.1.Kind),(iA d.1.N),(sA d.1.S),(im (d.1.L.map af) false)]) (.s [(oN d),bx [(im (h.map c8) false),(iA d.2.1),(bA d.2.2)],(oN d)] (.s (ag [(iA d.1.Kind),(iA d.1.N),(sA d.1.S),(im (d.1.L.map af) false)]) (.lv (by show aE _ (tp [(ag [(iA d.1.Kind),(iA d.1.N),(sA d.1.S),(im (d.1.L.map af) false)]),(iA 0)])=_; simp only[cR,jL,aE]; first | done | rfl))))
 refine .bb (.cr (.u4 (.uc (.bg (fun t (y:Bool)=>∃ ck:A,t=[(bA y),ck]) ?_ ?_))))
 ·exact .vN p (.lg ⟨_,rfl⟩)
 rintro _ fv ⟨ck,rfl⟩
 refine .uc (.uc (.aP (fun ea=>?_) (fun ea=>?_)))
 ·exact .s (ag [(iA 0),(iA 0),se,(im [] true)]) (.s [fm,bx [(im (h.map c8) false),(iA d.2.1),(bA d.2.2)],(oN d)] (.s (ag [(iA 0),(iA 0),se,(im [] true)]) (.lv (by show aE _ (tp [(ag [(iA 0),(iA 0),se,(im [] true)]),(iA 10)])=_; simp only[cR,jL,aE]; first | done | rfl))))
 exact .s (ag [(iA d.1.Kind),(iA d.1.N),(sA d.1.S),(im (d.1.L.map af) false)]) (.s [(oN d),bx [(im (h.map c8) false),(iA d.2.1),(bA d.2.2)],(oN d)] (.s (ag [(iA d.1.Kind),(iA d.1.N),(sA d.1.S),(im (d.1.L.map af) false)]) (.lv (by show aE _ (tp [(ag [(iA d.1.Kind),(iA d.1.N),(sA d.1.S),(im (d.1.L.map af) false)]),(iA 0)])=_; simp only[cR,jL,aE]; first | done | rfl))))
def IX (d:(List UInt8)):Option (ai×Int):=Lt aC d
def Ce (C:OT):Prop:=∀ (d:(List UInt8)),C 63 [(im (d.map c8) false)]=(IX d).map fun y=>(tp [(ag [(iA y.1.Kind),(iA y.1.N),(sA y.1.S),(im (y.1.L.map af) false)]),(iA y.2)])
def gj (n:Nat) (h:(List Int)) (v10:ai):Nat->Int->(List Int)->Option (((List Int))⊕((List Int)))
 | 0,_,_=>none
 | m+1,d,v11=>bif (decide (d<((v10.L.length:Int)))) then ((bw v10.L d).bind fun p=>bif (p.Kind != 1) then (some ((Sum.inl v11))) else ((bw v10.L d).bind fun q=>(cQ 8 v11 ([q.N])).bind fun u=>gj n h v10 m (wr .i64 (d+1)) u)) else (some ((Sum.inr v11)))
theorem Cy (cc:Ce C) (v8:(List Int)) (v10:ai) {K:(((List Int))⊕((List Int)))->Option γ} (x0:∀ (h:(List Int)) (q:A) (s5:A) (u:A),J φ (kr (St.mk [(2,(im [] true)),(3,q),(5,s5),(6,u)] [(bt v10),aA.row false 1 (h.map (cI .i64))])) kL (K (Sum.inl h)) some) (x1:∀ (h:(List Int)) (s2:A) (q:A) (u:A),J φ (kx 0 (St.mk [(2,s2),(3,q),(5,(aX 1 0 h.length false)),(6,u)] [(bt v10),aA.row false 1 (h.map (cI .i64))])) kL (K (Sum.inr h)) some) :
  ∀ (m:Nat) (v9:Int) (v11:(List Int)),J φ (aH (cx C) (ec C n 8) (ey C n 8) (n+8) 34 0 0 2 kx kg kr kp m (St.mk [(2,(im (v8.map (cI .i64)) true)),(3,(pt 0 0)),(5,(aX 1 0 v11.length false)),(6,(iA v9))] [(bt v10),aA.row false 1 (v11.map (cI .i64))])) kL (gj n v8 v10 m v9 v11) K:=by
 intro m
 induction m with
 | zero=>intros; exact .nn
 | succ m ih =>
  intro v9 v11
  refine .lp (Jw ..) ?_
  unfold gj
  refine .s (pt 0 3) (.s (im (v10.L.map af) false) (.st (dQ (e:=98)) (.st (aS ..) (.aP (fun bs=>?_) (fun bs=>?_)))))
  ·refine .s (pt 0 3) (.s (im (v10.L.map af) false) (.bd ((fJ (e:=98) (es:=4)).trans (eR _)) fun p=>.s (A.ip [(iA p.Kind),(iA p.N),(sA p.S),(im (p.L.map af) false)]) (.s (iA p.Kind) (.st (ba ..) (.aP (fun ca=>?_) (fun ca=>?_))))))
   ·exact .ex (x0 _ _ _ _)
   refine .s (pt 0 3) (.s (im (v10.L.map af) false) (.bd ((fJ (e:=98) (es:=4)).trans (eR _)) fun d=>.s (A.ip [(iA d.N),(sA d.S),(im (d.L.map af) false)]) (.s (iA d.N) (.s (im [[(iA d.N)]] true) (.bd (g:=fun (y:List Int)=>((aX 1 0 y.length false),[(bt v10),aA.row false 1 (y.map (cI .i64))])) (bV Aa (l:=v11) (l2:=[d.N]) (b:=1) rfl (by decide) (aY (f:=(cI .i64)) ([d.N]:List Int) _ _)) fun cb=>.st (aD ..) (.s [(bt v10),aA.row false 1 (cb.map (cI .i64))] (.cT (by kernel_rfl) ?_)))))))
   exact ih _ _
  exact .ex (x1 _ _ _ _)
def Lk (n:Nat) (h:(List UInt8)):Option (List Int) :=
 (IX h).bind fun d=>(bif (d.2 != 0) then (some true) else (some (d.1.Kind != 3))).bind fun p=>bif p then (some ([])) else ((gj n ([]) d.1 (n+8) 0 (([]:List Int))).bind fun DP=>match DP with | (Sum.inl u)=>some ([]) | (Sum.inr q)=>some q)
theorem QB (C:OT) (n:Nat) (q:Ce C) (p:(List UInt8)):J (fun (o:R) y=>∃ v,o.1=.ret v/\aE o.2 v=(im (y.map (cI .i64)) false)) (av (cx C) (ec C n 8) (ey C n 8) (n+8) 34 [(im (p.map c8) false)] [] 0) some (Lk n p) some:=by
 refine .lp (Rh ..) ?_
 unfold Lk
 refine .bd (g:=fun (y:(ai×Int))=>(tp [(ag [(iA y.1.Kind),(iA y.1.N),(sA y.1.S),(im (y.1.L.map af) false)]),(iA y.2)])) (by show C 63 [snap _ (im (p.map c8) false)]=_; simp only[cR,dS]; exact q p) fun d=>.s (ag [(iA d.1.Kind),(iA d.1.N),(sA d.1.S),(im (d.1.L.map af) false)]) (.s (iA d.2) (.sq (pt 0 0) (.s [bx [(iA d.1.Kind),(iA d.1.N),(sA d.1.S),(im (d.1.L.map af) false)]] (.st (ba ..) (.bg (fun t (y:Bool)=>∃ u j5 j6:A,t=[(bA y),u,j5,j6]) ?_ ?_)))))
 ·refine .dg (fun an=>?_) (fun an=>?_)
  ·exact .lg ⟨_,_,_,rfl⟩
  exact .s (pt 0 0) (.s (iA d.1.Kind) (.st (ba ..) (.lg ⟨_,_,_,rfl⟩)))
 rintro _ y3 ⟨u,j5,j6,rfl⟩
 refine .u4 (.aP (fun ao=>?_) (fun ao=>?_))
 ·exact .lv (by show aE _ (im [] true)=_; simp only[cR,jL,aE]; first | done | rfl)
 refine .as (Cy C n _ _ _ _ q ([]) d.1 ?_ ?_ _ 0 (([]:List Int)))
 ·intro bs ca cb cc
  exact .un rfl (.lv (by show aE _ (im [] true)=_; simp only[cR,jL,aE]; first | done | rfl))
 ·intro h ch ck cm
  exact .un rfl (.cT (by kernel_rfl) (.lv (by show aE [bx [(iA d.1.Kind),(iA d.1.N),(sA d.1.S),(im (d.1.L.map af) false)],aA.row false 1 (h.map (cI .i64))] (aX 1 0 h.length false)=_; first | (simp only[cR,dS,aE,aV (H:=[bx [(iA d.1.Kind),(iA d.1.N),(sA d.1.S),(im (d.1.L.map af) false)],aA.row false 1 (h.map (cI .i64))]) (b:=1) (es:=1) (wr:=false) (l:=h) (jF _) rfl]; done) | (simp only[cR,jL,aE,aV (H:=[bx [(iA d.1.Kind),(iA d.1.N),(sA d.1.S),(im (d.1.L.map af) false)],aA.row false 1 (h.map (cI .i64))]) (b:=1) (es:=1) (wr:=false) (l:=h) (jF _) rfl]; first | done | rfl))))
def IV (d:(List UInt8)):Option (List Int):=Lk aC d
def B8 (C:OT):Prop:=∀ (d:(List UInt8)),C 34 [(im (d.map c8) false)]=(IV d).map fun y=>(im (y.map (cI .i64)) false)
def eD (d:Int) (h:(List ak)) (p:(List ar)) (q:(List Bool)):aA:=bx [(iA d),(aX 2 0 h.length false),(aX 3 0 p.length false),(aX 4 0 q.length false)]
def gO (v4:Int) (d:(List ak)) (v6:(List ar)) (h:(List Bool)):aA:=bx [(iA v4),(im (d.map ae) true),(im (v6.map ah) true),(im (h.map cB) true)]
def oK (d:Int) (h:(List ak)) (v10:(List ar)) (v11:(List Bool)):aA:=bx [(iA d),(aX 2 0 h.length false),(aX 3 0 v10.length false),(aX 4 0 v11.length false)]
def fE (n:Nat) (v1:(List (List UInt8))) (v2:Int) (v4:Int) (q:(List ak)) (v6:(List ar)) (u:(List Bool)) (y:Int):Nat->Int->(List ak)->(List ar)->(List Bool)->Option ((Int×Int×(List ak)×(List ar)×(List Bool))⊕((List ak)×(List ar)×(List Bool)))
 | 0,_,_,_,_=>none
 | m+1,h,p,v10,v11=>bif (decide (h<((v1.length:Int)))) then ((bw v1 h).bind fun ab=>(IV ab).bind fun d=>(bif (((d.length:Int))==4) then ((bw d 0).bind fun ad=>some (ad==1)) else (some false)).bind fun an=>bif an then ((bw d 1).bind fun ao=>(bw d 2).bind fun bm=>(bw d 3).bind fun bs=>(cQ 24 p ([(ak.mk ao bm bs)])).bind fun ca=>(cQ 1 v11 ([true])).bind fun cb=>fE n v1 v2 v4 q v6 u y m (wr .i64 (h+1)) ca v10 cb) else ((bif (((d.length:Int))==3) then ((bw d 0).bind fun cc=>some (cc==2)) else (some false)).bind fun ch=>bif ch then ((bw d 1).bind fun ck=>(bw d 2).bind fun cm=>(cQ 16 v10 ([(ar.mk ck cm)])).bind fun cv=>(cQ 1 v11 ([false])).bind fun cy=>fE n v1 v2 v4 q v6 u y m (wr .i64 (h+1)) p cv cy) else (some ((Sum.inl ((530,0,p,v10,v11))))))) else (some ((Sum.inr ((p,v10,v11)))))
theorem Cl (ha:B8 C) (hs:zN C) (v1:(List (List UInt8))) (v2:Int) (v4:Int) (p:(List ak)) (v6:(List ar)) (q:(List Bool)) (h:Int) {K:((Int×Int×(List ak)×(List ar)×(List Bool))⊕((List ak)×(List ar)×(List Bool)))->Option γ} (x0:∀ (o0:Int) (o1:Int) (u:(List ak)) (o3:(List ar)) (o4:(List Bool)) (s1:A) (s6:A) (s7:A),J φ (kr (St.mk [(1,s1),(4,(pt 0 0)),(5,(iA o0)),(6,s6),(7,s7)] [bx [(iA o1),(im [] true),(im [] true),(im [] true)],bx [(iA h),(aX 2 0 u.length false),(aX 3 0 o3.length false),(aX 4 0 o4.length false)],aA.row false 3 (u.map ae),aA.row false 2 (o3.map ah),aA.row false 1 (o4.map cB)])) kL (K (Sum.inl ((o0,o1,u,o3,o4)))) some) (x1:∀ (o0:(List ak)) (o1:(List ar)) (u:(List Bool)) (s1:A) (s5:A) (s7:A),J φ (kx 0 (St.mk [(1,s1),(4,(pt 0 0)),(5,s5),(6,(pt 1 0)),(7,s7)] [(gO v4 p v6 q),bx [(iA h),(aX 2 0 o0.length false),(aX 3 0 o1.length false),(aX 4 0 u.length false)],aA.row false 3 (o0.map ae),aA.row false 2 (o1.map ah),aA.row false 1 (u.map cB)])) kL (K (Sum.inr ((o0,o1,u)))) some) :
  ∀ (m:Nat) (v3:Int) (d:(List ak)) (v10:(List ar)) (v11:(List Bool)),J φ (aH (cx C) (ec C n 8) (ey C n 8) (n+8) 12 0 0 5 kx kg kr kp m (St.mk [(1,(im (List.map (cL c8) v1) false)),(4,(pt 0 0)),(5,(iA v2)),(6,(pt 1 0)),(7,(iA v3))] [(gO v4 p v6 q),(oK h d v10 v11),aA.row false 3 (d.map ae),aA.row false 2 (v10.map ah),aA.row false 1 (v11.map cB)])) kL (fE n v1 v2 v4 p v6 q h m v3 d v10 v11) K:=by
 intro m
 induction m with
 | zero=>intros; exact .nn
 | succ m ih =>
  intro v3 d v10 v11
  refine .lp (Jm ..) ?_
  unfold fE
  refine .st (dQ (e:=30)) (.st (aS ..) (.aP (fun hi=>?_) (fun hi=>?_)))
  ·refine .bd (fJ (e:=30) (es:=1)) fun cv=>.s (im (cv.map c8) false) (.bd (g:=fun (y:(List Int))=>(im (y.map (cI .i64)) false)) (by show C 34 [snap _ (im (cv.map c8) false)]=_; simp only[cR,dS,di (H:=[(gO v4 p v6 q),(oK h d v10 v11),aA.row false 3 (d.map ae),aA.row false 2 (v10.map ah),aA.row false 1 (v11.map cB)]) (b:=2) (es:=3) (l:=d) cz rfl,di (H:=[(gO v4 p v6 q),(oK h d v10 v11),aA.row false 3 (d.map ae),aA.row false 2 (v10.map ah),aA.row false 1 (v11.map cB)]) (b:=3) (es:=2) (l:=v10) c9 rfl,di (H:=[(gO v4 p v6 q),(oK h d v10 v11),aA.row false 3 (d.map ae),aA.row false 2 (v10.map ah),aA.row false 1 (v11.map cB)]) (b:=4) (es:=1) (l:=v11) fI rfl]; exact ha cv) fun ht=>.st (dQ (e:=3)) (.st (aN ..) (.bg (fun t (y:Bool)=>∃ cy dd ds ea:A,t=[(bA y),cy,dd,ds,ea]) ?_ ?_)))
   ·refine .dg (fun hj=>?_) (fun hj=>?_)
    ·exact .bd (fJ (e:=3) (es:=1)) fun hk=>.s (iA hk) (.st (aN ..) (.lg ⟨_,_,_,_,rfl⟩))
    exact .lg ⟨_,_,_,_,rfl⟩
   rintro _ hv ⟨cy,dd,ds,ea,rfl⟩
   refine .u4 (.uc (.aP (fun ho=>?_) (fun ho=>?_)))
   ·refine .s (pt 1 1) (.s (aX 2 0 d.length false) (.bd (fJ (e:=3) (es:=1)) fun bm=>.s (iA bm) (.bd (fJ (e:=3) (es:=1)) fun bs=>.s (iA bs) (.bd (fJ (e:=3) (es:=1)) fun ca=>.s (iA ca) (.s (ag [(iA bm),(iA bs),(iA ca)]) (.s (im [[(iA bm),(iA bs),(iA ca)]] true) (.bd (g:=fun (y:List ak)=>((aX 2 0 y.length false),[(gO v4 p v6 q),(oK h d v10 v11),aA.row false 3 (y.map ae),aA.row false 2 (v10.map ah),aA.row false 1 (v11.map cB)])) (bV zY (l:=d) (l2:=[(ak.mk bm bs ca)]) (b:=2) rfl (by decide) (aY (f:=ae) ([(ak.mk bm bs ca)]:List ak) _ _)) fun an=>.s (pt 1 1) (.s [(gO v4 p v6 q),bx [(iA h),(aX 2 0 an.length false),(aX 3 0 v10.length false),(aX 4 0 v11.length false)],aA.row false 3 (an.map ae),aA.row false 2 (v10.map ah),aA.row false 1 (v11.map cB)] (.s (pt 1 3) (.s (aX 4 0 v11.length false) (.s (im [[(bA true)]] true) (.bd (g:=fun (y:List Bool)=>((aX 4 0 y.length false),[(gO v4 p v6 q),bx [(iA h),(aX 2 0 an.length false),(aX 3 0 v10.length false),(aX 4 0 v11.length false)],aA.row false 3 (an.map ae),aA.row false 2 (v10.map ah),aA.row false 1 (y.map cB)])) (bV qQ (l:=v11) (l2:=[true]) (b:=4) rfl (by decide) (aY (f:=cB) ([true]:List Bool) _ _)) fun eg=>.s (pt 1 3) (.sh (.st (aD ..) (.s [(gO v4 p v6 q),bx [(iA h),(aX 2 0 an.length false),(aX 3 0 v10.length false),(aX 4 0 eg.length false)],aA.row false 3 (an.map ae),aA.row false 2 (v10.map ah),aA.row false 1 (eg.map cB)] (.cT (by kernel_rfl) ?_))))))))))))))))
    exact ih _ _ _ _
   refine .st (dQ (e:=3)) (.st (aN ..) (.bg (fun t (y:Bool)=>∃ ei ej fs fv:A,t=[(bA y),ei,ej,fs,fv]) ?_ ?_))
   ·refine .dg (fun hp=>?_) (fun hp=>?_)
    ·exact .bd (fJ (e:=3) (es:=1)) fun hq=>.s (iA hq) (.st (aN ..) (.lg ⟨_,_,_,_,rfl⟩))
    exact .lg ⟨_,_,_,_,rfl⟩
   rintro _ hx ⟨ei,ej,fs,fv,rfl⟩
   refine .u4 (.uc (.aP (fun hr=>?_) (fun hr=>?_)))
   ·refine .s (pt 1 2) (.s (aX 3 0 v10.length false) (.bd (fJ (e:=3) (es:=1)) fun cb=>.s (iA cb) (.bd (fJ (e:=3) (es:=1)) fun cc=>.s (iA cc) (.s (ag [(iA cb),(iA cc)]) (.s (im [[(iA cb),(iA cc)]] true) (.bd (g:=fun (y:List ar)=>((aX 3 0 y.length false),[(gO v4 p v6 q),(oK h d v10 v11),aA.row false 3 (d.map ae),aA.row false 2 (y.map ah),aA.row false 1 (v11.map cB)])) (bV zZ (l:=v10) (l2:=[(ar.mk cb cc)]) (b:=3) rfl (by decide) (aY (f:=ah) ([(ar.mk cb cc)]:List ar) _ _)) fun ao=>.s (pt 1 2) (.s [(gO v4 p v6 q),bx [(iA h),(aX 2 0 d.length false),(aX 3 0 ao.length false),(aX 4 0 v11.length false)],aA.row false 3 (d.map ae),aA.row false 2 (ao.map ah),aA.row false 1 (v11.map cB)] (.s (pt 1 3) (.s (aX 4 0 v11.length false) (.s (im [[(bA false)]] true) (.bd (g:=fun (y:List Bool)=>((aX 4 0 y.length false),[(gO v4 p v6 q),bx [(iA h),(aX 2 0 d.length false),(aX 3 0 ao.length false),(aX 4 0 v11.length false)],aA.row false 3 (d.map ae),aA.row false 2 (ao.map ah),aA.row false 1 (y.map cB)])) (bV qQ (l:=v11) (l2:=[false]) (b:=4) rfl (by decide) (aY (f:=cB) ([false]:List Bool) _ _)) fun gf=>.s (pt 1 3) (.sh (.st (aD ..) (.s [(gO v4 p v6 q),bx [(iA h),(aX 2 0 d.length false),(aX 3 0 ao.length false),(aX 4 0 gf.length false)],aA.row false 3 (d.map ae),aA.row false 2 (ao.map ah),aA.row false 1 (gf.map cB)] (.cT (by kernel_rfl) ?_)))))))))))))))
    exact ih _ _ _ _
   exact .s (ag [(iA 0),(im [] true),(im [] true),(im [] true)]) (.s [bx [(iA 0),(im [] true),(im [] true),(im [] true)],(oK h d v10 v11),aA.row false 3 (d.map ae),aA.row false 2 (v10.map ah),aA.row false 1 (v11.map cB)] (.ex (x0 _ _ _ _ _ _ _ _)))
  exact .ex (x1 _ _ _ _ _ _)
def Lb (n:Nat) (d:Int) (u:(List (List UInt8))):Option (aj×Int) :=
 (fE n u 0 0 ([]) ([]) ([]) d (n+8) 0 (([]:List ak)) (([]:List ar)) (([]:List Bool))).bind fun y=>match y with | (Sum.inl ((ab,ad,ao,bm,bs)))=>some (((aj.mk ad ([]) ([]) ([])),ab)) | (Sum.inr ((h,p,q)))=>(Ik ((aj.mk d h p q))).bind fun an=>bif (!an) then (some (((aj.mk 0 ([]) ([]) ([])),530))) else (some (((aj.mk d h p q),0)))
theorem Qm (C:OT) (n:Nat) (an:B8 C) (ab:zN C) (q:Int) (u:(List (List UInt8))):J (fun (o:R) y=>∃ v,o.1=.ret v/\aE o.2 v=(tp [(ag [(iA y.1.Self),(im (y.1.Leases.map ae) false),(im (y.1.Calls.map ah) false),(im (y.1.Order.map cB) false)]),(iA y.2)])) (av (cx C) (ec C n 8) (ey C n 8) (n+8) 12 [(iA q),(im (List.map (cL c8) u) false)] [] 0) some (Lb n q u) some:=by
 refine .lp (Q3 ..) ?_
 unfold Lb
 refine .sq (pt 0 0) (.s (ag [(iA q),(im [] true),(im [] true),(im [] true)]) (.sq (pt 1 0) (.s [bx [(iA 0),(im [] true),(im [] true),(im [] true)],bx [(iA q),(im [] true),(im [] true),(im [] true)]] (.as (Cl C n _ _ _ _ an ab u 0 0 ([]) ([]) ([]) q ?_ ?_ _ 0 (([]:List ak)) (([]:List ar)) (([]:List Bool)))))))
 ·intro ao ad ca cb cc ch ck cm
  exact .un rfl (.s (ag [(iA ad),(im [] true),(im [] true),(im [] true)]) (.lv (by show aE _ (tp [(ag [(iA ad),(im [] true),(im [] true),(im [] true)]),(iA ao)])=_; simp only[cR,jL,aE]; first | done | rfl)))
 ·intro d h p cv cy dd
  refine .un rfl (.cT (by kernel_rfl) (.s (ag [(iA q),(aX 2 0 d.length false),(aX 3 0 h.length false),(aX 4 0 p.length false)]) (.bd (g:=fun (y:Bool)=>(bA y)) (by show C 35 [snap [bx [(iA 0),(im [] true),(im [] true),(im [] true)],(eD q d h p),aA.row false 3 (d.map ae),aA.row false 2 (h.map ah),aA.row false 1 (p.map cB)] (ag [(iA q),(aX 2 0 d.length false),(aX 3 0 h.length false),(aX 4 0 p.length false)])]=_; simp only[cR,dS,di (H:=[bx [(iA 0),(im [] true),(im [] true),(im [] true)],(eD q d h p),aA.row false 3 (d.map ae),aA.row false 2 (h.map ah),aA.row false 1 (p.map cB)]) (b:=2) (es:=3) (l:=d) cz rfl,di (H:=[bx [(iA 0),(im [] true),(im [] true),(im [] true)],(eD q d h p),aA.row false 3 (d.map ae),aA.row false 2 (h.map ah),aA.row false 1 (p.map cB)]) (b:=3) (es:=2) (l:=h) c9 rfl,di (H:=[bx [(iA 0),(im [] true),(im [] true),(im [] true)],(eD q d h p),aA.row false 3 (d.map ae),aA.row false 2 (h.map ah),aA.row false 1 (p.map cB)]) (b:=4) (es:=1) (l:=p) fI rfl]; exact ab ((aj.mk q d h p))) fun bm=>.s (bA (!bm)) (.aP (fun bs=>?_) (fun bs=>?_)))))
  ·exact .s (ag [(iA 0),(im [] true),(im [] true),(im [] true)]) (.s [bx [(iA 0),(im [] true),(im [] true),(im [] true)],(eD q d h p),aA.row false 3 (d.map ae),aA.row false 2 (h.map ah),aA.row false 1 (p.map cB)] (.s (ag [(iA 0),(im [] true),(im [] true),(im [] true)]) (.lv (by show aE _ (tp [(ag [(iA 0),(im [] true),(im [] true),(im [] true)]),(iA 530)])=_; simp only[cR,jL,aE]; first | done | rfl))))
  exact .s (ag [(iA q),(aX 2 0 d.length false),(aX 3 0 h.length false),(aX 4 0 p.length false)]) (.s [(eD q d h p),(eD q d h p),aA.row false 3 (d.map ae),aA.row false 2 (h.map ah),aA.row false 1 (p.map cB)] (.s (ag [(iA q),(aX 2 0 d.length false),(aX 3 0 h.length false),(aX 4 0 p.length false)]) (.lv (by show aE [(eD q d h p),(eD q d h p),aA.row false 3 (d.map ae),aA.row false 2 (h.map ah),aA.row false 1 (p.map cB)] (tp [(ag [(iA q),(aX 2 0 d.length false),(aX 3 0 h.length false),(aX 4 0 p.length false)]),(iA 0)])=_; first | (simp only[cR,dS,aE,aV (H:=[(eD q d h p),(eD q d h p),aA.row false 3 (d.map ae),aA.row false 2 (h.map ah),aA.row false 1 (p.map cB)]) (b:=2) (es:=3) (wr:=false) (l:=d) cz rfl,aV (H:=[(eD q d h p),(eD q d h p),aA.row false 3 (d.map ae),aA.row false 2 (h.map ah),aA.row false 1 (p.map cB)]) (b:=3) (es:=2) (wr:=false) (l:=h) c9 rfl,aV (H:=[(eD q d h p),(eD q d h p),aA.row false 3 (d.map ae),aA.row false 2 (h.map ah),aA.row false 1 (p.map cB)]) (b:=4) (es:=1) (wr:=false) (l:=p) fI rfl]; done) | (simp only[cR,jL,aE,aV (H:=[(eD q d h p),(eD q d h p),aA.row false 3 (d.map ae),aA.row false 2 (h.map ah),aA.row false 1 (p.map cB)]) (b:=2) (es:=3) (wr:=false) (l:=d) cz rfl,aV (H:=[(eD q d h p),(eD q d h p),aA.row false 3 (d.map ae),aA.row false 2 (h.map ah),aA.row false 1 (p.map cB)]) (b:=3) (es:=2) (wr:=false) (l:=h) c9 rfl,aV (H:=[(eD q d h p),(eD q d h p),aA.row false 3 (d.map ae),aA.row false 2 (h.map ah),aA.row false 1 (p.map cB)]) (b:=4) (es:=1) (wr:=false) (l:=p) fI rfl]; first | done | rfl)))))
def IP (d:Int) (h:(List (List UInt8))):Option (aj×Int):=Lb aC d h
def B4 (C:OT):Prop:=∀ (d:Int) (h:(List (List UInt8))),C 12 [(iA d),(im (List.map (cL c8) h) false)]=(IP d h).map fun y=>(tp [(ag [(iA y.1.Self),(im (y.1.Leases.map ae) false),(im (y.1.Calls.map ah) false),(im (y.1.Order.map cB) false)]),(iA y.2)])
def ki (n:Nat) (v2:(List (List UInt8))) (h:(List (List UInt8))) (v4:Bool):Nat->Int->Option ((Bool)⊕(Unit))
 | 0,_=>none
 | m+1,d=>bif (decide (d<((v2.length:Int)))) then ((bw v2 d).bind fun p=>(bw h d).bind fun q=>bif (!iQ (cU p) (cU q)) then (some ((Sum.inl false))) else (ki n v2 h v4 m (wr .i64 (d+1)))) else (some ((Sum.inr (()))))
theorem Cm (v2:(List (List UInt8))) (y:(List (List UInt8))) (v4:Bool) {K:((Bool)⊕(Unit))->Option γ} (x0:∀ (o0:Bool) (d:A) (s1:A) (h:A),J φ (kr (St.mk [(0,d),(1,s1),(4,(bA o0)),(5,h)] [])) kL (K (Sum.inl o0)) some) (x1:∀ (d:A) (s1:A) (s4:A) (h:A),J φ (kx 0 (St.mk [(0,d),(1,s1),(4,s4),(5,h)] [])) kL (K (Sum.inr (()))) some) :
  ∀ (m:Nat) (p:Int),J φ (aH (cx C) (ec C n 8) (ey C n 8) (n+8) 13 0 0 0 kx kg kr kp m (St.mk [(0,(im (List.map (cL c8) v2) false)),(1,(im (List.map (cL c8) y) false)),(4,(bA v4)),(5,(iA p))] [])) kL (ki n v2 y v4 m p) K:=by
 intro m
 induction m with
 | zero=>intros; exact .nn
 | succ m ih =>
  intro p
  refine .lp (Jn ..) ?_
  unfold ki
  refine .st (dQ (e:=30)) (.st (aS ..) (.aP (fun bm=>?_) (fun bm=>?_)))
  ·refine .bd (fJ (e:=30) (es:=1)) fun q=>.s (im (q.map c8) false) (.st (v:=(A.v (Value.string (cU q)))) (gq (e:=5) (l:=q) (by kernel_rfl) (by kernel_rfl) (by kernel_rfl) (by kernel_rfl) (aY ..) rfl) (.bd (fJ (e:=30) (es:=1)) fun u=>.s (im (u.map c8) false) (.st (v:=(A.v (Value.string (cU u)))) (gq (e:=5) (l:=u) (by kernel_rfl) (by kernel_rfl) (by kernel_rfl) (by kernel_rfl) (aY ..) rfl) (.st (re ..) (.aP (fun bs=>?_) (fun bs=>?_))))))
   ·exact .ex (x0 _ _ _ _)
   refine .st (aD ..) (.s [] (.cT (by kernel_rfl) ?_))
   exact ih _
  exact .ex (x1 _ _ _ _)
def Lc (n:Nat) (d:(List (List UInt8))) (h:(List (List UInt8))):Option Bool :=
 bif (((d.length:Int)) != ((h.length:Int))) then (some false) else ((ki n d h false (n+8) 0).bind fun qW=>match qW with | (Sum.inl p)=>some p | (Sum.inr _)=>some true)
theorem Qn (C:OT) (n:Nat) (d:(List (List UInt8))) (h:(List (List UInt8))):J (fun (o:R) y=>∃ v,o.1=.ret v/\aE o.2 v=(bA y)) (av (cx C) (ec C n 8) (ey C n 8) (n+8) 13 [(im (List.map (cL c8) d) false),(im (List.map (cL c8) h) false)] [] 0) some (Lc n d h) some:=by
 refine .lp (Q4 ..) ?_
 unfold Lc
 refine .st (dQ (e:=30)) (.st (dQ (e:=30)) (.st (ba ..) (.aP (fun p=>?_) (fun p=>?_))))
 ·exact .lv rfl
 refine .as (Cm C n _ _ _ _  d h false ?_ ?_ _ 0)
 ·intro q u ab ad
  exact .un rfl (.lv rfl)
 ·intro an ao bm bs
  exact .un rfl (.cT (by kernel_rfl) (.lv rfl))
def IQ (d:(List (List UInt8))) (h:(List (List UInt8))):Option Bool:=Lc aC d h
def B5 (C:OT):Prop:=∀ (d:(List (List UInt8))) (h:(List (List UInt8))),C 13 [(im (List.map (cL c8) d) false),(im (List.map (cL c8) h) false)]=(IQ d h).map fun y=>(bA y)
def mM (n:Nat) (v10:Int) (v11:(List (List UInt8))) (q:Bool) (h:(List (List UInt8))) (p:Int) (u:aj):Nat->Int->Option ((Bool)⊕(Unit))
 | 0,_=>none
 | m+1,d=>bif (decide (d<p)) then ((bw h d).bind fun y=>bif (decide (200<((y.length:Int)))) then (some ((Sum.inl true))) else (mM n v10 v11 q h p u m (wr .i64 (d+1)))) else (some ((Sum.inr (()))))
theorem Hc (ck:B1 C) (cm:zH C) (cv:B4 C) (cy:B5 C) (dd:zI C) (h7:Ha C) (h8:Hb C) (h9:Ex C) (v10:Int) (v11:(List (List UInt8))) (y:Bool) (ab:(List (List UInt8))) (ad:Int) (d:aj) {K:((Bool)⊕(Unit))->Option γ} (x0:∀ (o0:Bool) (s1:A) (s2:A) (s3:A) (h:A) (p:A) (q:A),J φ (kr (St.mk [(1,s1),(2,s2),(3,s3),(6,(bA o0)),(27,h),(28,p),(29,q)] [bx (aa d)])) kL (K (Sum.inl o0)) some) (x1:∀ (s6:A) (h:A) (p:A) (q:A),J φ (kx 0 (St.mk [(1,(iA v10)),(2,(im (List.map (cL c8) v11) false)),(3,(pt 0 0)),(6,s6),(27,h),(28,p),(29,q)] [bx (aa d)])) kL (K (Sum.inr (()))) some) :
  ∀ (m:Nat) (u:Int),J φ (aH (cx C) (ec C n 8) (ey C n 8) (n+8) 3 0 0 1 kx kg kr kp m (St.mk [(1,(iA v10)),(2,(im (List.map (cL c8) v11) false)),(3,(pt 0 0)),(6,(bA y)),(27,(im (List.map (cL c8) ab) false)),(28,(iA ad)),(29,(iA u))] [bx (aa d)])) kL (mM n v10 v11 y ab ad d m u) K:=by
 intro m
 induction m with
 | zero=>intros; exact .nn
 | succ m ih =>
  intro u
  refine .lp (M5 ..) ?_
  unfold mM
  refine .st (aS ..) (.aP (fun cb=>?_) (fun cb=>?_))
  ·refine .bd (fJ (e:=30) (es:=1)) fun cc=>.s (im (cc.map c8) false) (.st (dQ (e:=5)) (.st (bQ ..) (.aP (fun ch=>?_) (fun ch=>?_))))
   ·exact .ex (x0 _ _ _ _ _ _ _)
   refine .st (aD ..) (.s [bx (aa d)] (.cT (by kernel_rfl) ?_))
   exact ih _
  exact .ex (x1 _ _ _ _)
def F3 (n:Nat) (h:aj) (p:Int) (d:(List (List UInt8))):Option Bool :=
 (G7 ).bind fun y1=>bif (!y1) then (some false) else ((G8 h).bind fun y3=>(bif (!y3) then (some true) else (some (decide (100<((d.length:Int)))))).bind fun y5=>bif y5 then (some true) else ((mM n p d false d ((d.length:Int)) h (n+8) 0).bind fun HE=>match HE with | (Sum.inl bm)=>some bm | (Sum.inr _)=>(G9 h).bind fun q=>(FR h).bind fun u=>(FT p d).bind fun y=>(IP p d).bind fun ab=>(IQ q.1 u.1).bind fun bs=>(bif bs then (some (q.2==u.2)) else (some false)).bind fun ca=>(bif ca then ((Ed y.1 ab.1).bind fun cb=>some cb) else (some false)).bind fun cc=>(bif cc then (some (y.2==ab.2)) else (some false)).bind fun ch=>some ch))
theorem T3 (C:OT) (n:Nat) (an:B1 C) (ao:zH C) (bm:B4 C) (bs:B5 C) (ca:zI C) (h7:Ha C) (h8:Hb C) (h9:Ex C) (d:aj) (p:Int) (h:(List (List UInt8))):J (fun (o:R) y=>∃ v,o.1=.ret v/\aE o.2 v=(bA y)) (av (cx C) (ec C n 8) (ey C n 8) (n+8) 3 [(ag (aa d)),(iA p),(im (List.map (cL c8) h) false)] [] 0) some (F3 n d p h) some:=by
 refine .lp (e3 ..) ?_
 unfold F3
 refine .s ((pt 0 0),[bx (aa d)]) (.bd (h7 ()) fun y1=>.s (bA (!y1)) (.aP (fun ha=>?_) (fun ha=>?_)))
 ·exact .lv rfl
 refine .s (ag (aa d)) (.bd (g:=fun (y:Bool)=>(bA y)) (by show C 8 [snap _ (ag (aa d))]=_; simp only[cR,dS]; exact h8 d) fun y3=>.s (bA (!y3)) (.bg (fun t (y:Bool)=>∃ j6 j7 j8:A,t=[(bA y),j6,j7,j8]) ?_ ?_))
 ·refine .dg (fun hf=>?_) (fun hf=>?_)
  ·exact .lg ⟨_,_,_,rfl⟩
  exact .st (dQ (e:=30)) (.st (bQ ..) (.lg ⟨_,_,_,rfl⟩))
 rintro _ y5 ⟨j6,j7,j8,rfl⟩
 refine .u4 (.aP (fun hg=>?_) (fun hg=>?_))
 ·exact .lv rfl
 refine .st (dQ (e:=30)) (.as (Hc C n _ _ _ _ an ao bm bs ca h7 h8 h9 p h false h ((h.length:Int)) d ?_ ?_ _ 0))
 ·intro ho hp hq hr hs ht hv
  exact .un rfl (.lv rfl)
 ·intro hx hy ie ih
  refine .un rfl (.cT (by kernel_rfl) (.s (ag (aa d)) (.bd (g:=fun (y:((List (List UInt8))×Int))=>(tp [(im (List.map (cL c8) y.1) false),(iA y.2)])) (by show C 9 [snap _ (ag (aa d))]=_; simp only[cR,dS]; exact h9 d) fun ab=>.s (im (List.map (cL c8) ab.1) false) (.s (iA ab.2) (.s (ag (aa d)) (.bd (g:=fun (y:((List (List UInt8))×Int))=>(tp [(im (List.map (cL c8) y.1) false),(iA y.2)])) (by show C 10 [snap _ (ag (aa d))]=_; simp only[cR,dS]; exact an d) fun ad=>.s (im (List.map (cL c8) ad.1) false) (.s (iA ad.2) (.bd (g:=fun (y:(aj×Int))=>(tp [(ag [(iA y.1.Self),(im (y.1.Leases.map ae) false),(im (y.1.Calls.map ah) false),(im (y.1.Order.map cB) false)]),(iA y.2)])) (by show C 11 [snap _ (iA p),snap _ (im (List.map (cL c8) h) false)]=_; simp only[cR,dS]; exact ao p h) fun q=>.s (ag (aa q.1)) (.s (iA q.2) (.sq (pt 1 0) (.s [bx (aa d),bx (aa q.1)] (.bd (g:=fun (y:(aj×Int))=>(tp [(ag [(iA y.1.Self),(im (y.1.Leases.map ae) false),(im (y.1.Calls.map ah) false),(im (y.1.Order.map cB) false)]),(iA y.2)])) (by show C 12 [snap _ (iA p),snap _ (im (List.map (cL c8) h) false)]=_; simp only[cR,dS]; exact bm p h) fun u=>.s (ag (aa u.1)) (.s (iA u.2) (.sq (pt 2 0) (.s [bx (aa d),bx (aa q.1),bx (aa u.1)] (.bd (g:=fun (y:Bool)=>(bA y)) (by show C 13 [snap _ (im (List.map (cL c8) ab.1) false),snap _ (im (List.map (cL c8) ad.1) false)]=_; simp only[cR,dS]; exact bs ab.1 ad.1) fun ik=>.bg (fun t (y:Bool)=>∃ cy dd ds:A,t=[(bA y),cy,dd,ds]) ?_ ?_))))))))))))))))
  ·refine .dg (fun hh=>?_) (fun hh=>?_)
   ·exact .st (aN ..) (.lg ⟨_,_,_,rfl⟩)
   exact .lg ⟨_,_,_,rfl⟩
  rintro _ js ⟨cy,dd,ds,rfl⟩
  refine .u4 (.bg (fun t (y:Bool)=>∃ ea eg ei:A,t=[(bA y),ea,eg,ei]) ?_ ?_)
  ·refine .dg (fun hi=>?_) (fun hi=>?_)
   ·exact .s (ag (aa q.1)) (.s (ag (aa u.1)) (.bd (g:=fun (y:Bool)=>(bA y)) (by show C 14 [snap _ (ag (aa q.1)),snap _ (ag (aa u.1))]=_; simp only[cR,dS]; exact ca q.1 u.1) fun kc=>.lg ⟨_,_,_,rfl⟩))
   exact .lg ⟨_,_,_,rfl⟩
  rintro _ kk ⟨ea,eg,ei,rfl⟩
  refine .u4 (.bg (fun t (y:Bool)=>∃ ej fs fv:A,t=[(bA y),ej,fs,fv]) ?_ ?_)
  ·refine .dg (fun hj=>?_) (fun hj=>?_)
   ·exact .st (aN ..) (.lg ⟨_,_,_,rfl⟩)
   exact .lg ⟨_,_,_,rfl⟩
  rintro _ kn ⟨ej,fs,fv,rfl⟩
  exact .u4 (.lv rfl)
def G3 (d:aj) (h:Int) (p:(List (List UInt8))):Option Bool:=F3 aC d h p
end Go.Proofs.Ytdmgdjnadbakfaa
