/-
 The program's functions as plain functions: by a tool; each follows the interpreter.
-/
import Derived.Test.YtdmgdjnadbakfaaT1
import Derived.KernelRfl
namespace Go.Proofs.Ytdmgdjnadbakfaa
open Go.Proofs.Try (prog)
set_option linter.unusedVariables false
set_option linter.unusedSimpArgs false
set_option maxHeartbeats 4000000
set_option maxRecDepth 100000
variable (C:Nat->List A->Option A) (n:Nat) {ρ γ:Type} {φ:ρ->γ->Prop} {kL:R->Option ρ} (kx kg:Nat->St->Option R) (kr:St->Option R) (kp:A->St->Option R)
def xY (C:OT) (self:ai->Option (Int×Bool)):Prop:=∀ (d:ai),C 91 [(ag [(iA d.Kind),(iA d.N),(sA d.S),(im (d.L.map af) false)])]=(self d).map fun y=>(tp [(iA y.1),(bA y.2)])
def jr (self:ai->Option (Int×Bool)) (n:Nat) (ab:Bool) (u:(List ai)) (y:Int) (ad:ai) (an:Bool) (ao:Bool) (bm:Bool) (bs:Bool):Nat->Int->Int->Option ((Int×Bool×Int×Int×ByteArray×(List ai))⊕(Int))
 | 0,_,_=>none
 | m+1,h,p=>bif (decide (p<y)) then ((bw u p).bind fun d=>(self d).bind fun q=>bif (!q.2) then (some ((Sum.inl ((0,false,d.Kind,d.N,d.S,d.L))))) else (jr self n ab u y ad an ao bm bs m ((if h<q.1 then q.1 else h)) (wr .i64 (p+1)))) else (some ((Sum.inr h)))
theorem CG (self:ai->Option (Int×Bool)) (hS:xY C self) (ch:Bool) (bm:(List ai)) (ck:Int) (h:ai) (p:Bool) (q:Bool) (u:Bool) (ab:Bool) {K:((Int×Bool×Int×Int×ByteArray×(List ai))⊕(Int))->Option γ} (x0:∀ (o0:Int) (o1:Bool) (o2:Int) (o3:Int) (o4:ByteArray) (o5:(List ai)) (bs:A) (ca:A) (cb:A),J φ (kr (St.mk [(2,(iA o0)),(3,(bA o1)),(55,bs),(56,ca),(57,cb)] [(bt h),bx [(bA p),(bA q),(bA u),(bA ab)],bx [(iA o2),(iA o3),(sA o4),(im (o5.map af) false)]])) kL (K (Sum.inl ((o0,o1,o2,o3,o4,o5)))) some) (x1:∀ (o0:Int) (s3:A) (bs:A) (ca:A) (cb:A),J φ (kx 0 (St.mk [(2,(iA o0)),(3,s3),(55,bs),(56,ca),(57,cb)] [(bt h),bx [(bA p),(bA q),(bA u),(bA ab)]])) kL (K (Sum.inr o0)) some) :
  ∀ (m:Nat) (an:Int) (cc:Int),J φ (aH (cx C) (ec C n 8) (ey C n 8) (n+8) 91 0 0 2 kx kg kr kp m (St.mk [(2,(iA an)),(3,(bA ch)),(55,(im (bm.map af) false)),(56,(iA ck)),(57,(iA cc))] [(bt h),bx [(bA p),(bA q),(bA u),(bA ab)]])) kL (jr self n ch bm ck h p q u ab m an cc) K:=by
 intro m
 induction m with
 | zero=>intros; exact .nn
 | succ m ih =>
  intro an cc
  refine .lp (JG ..) ?_
  unfold jr
  refine .st (aS ..) (.aP (fun ei=>?_) (fun ei=>?_))
  ·refine .bd ((fJ (e:=98) (es:=4)).trans (eR _)) fun d=>.s (ag [(iA d.Kind),(iA d.N),(sA d.S),(im (d.L.map af) false)]) (.sq (pt 2 0) (.s [(bt h),bx [(bA p),(bA q),(bA u),(bA ab)],bx [(iA d.Kind),(iA d.N),(sA d.S),(im (d.L.map af) false)]] (.s (ag [(iA d.Kind),(iA d.N),(sA d.S),(im (d.L.map af) false)]) (.bd (g:=fun (y:(Int×Bool))=>(tp [(iA y.1),(bA y.2)])) (by show C 91 [snap _ (ag [(iA d.Kind),(iA d.N),(sA d.S),(im (d.L.map af) false)])]=_; simp only[cR,dS]; exact hS d) fun ao=>.s (iA ao.1) (.s (bA ao.2) (.s (bA (!ao.2)) (.aP (fun ej=>?_) (fun ej=>?_))))))))
   ·exact .ex (x0 _ _ _ _ _ _ _ _ _)
   refine .s (iA ((if an<ao.1 then ao.1 else an))) (.st (aD ..) (.st (v:=[(bt h),bx [(bA p),(bA q),(bA u),(bA ab)]]) ((by kernel_rfl:_=(bif ((((au 2 (h.L.map af))&&true))&&true) then some [(bt h),bx [(bA p),(bA q),(bA u),(bA ab)]] else none)).trans (by simp only[iC,iD])) (.cT ((by kernel_rfl:_=(bif au 2 (bm.map af) then true else false)).trans (by simp only[iC,iD])) ?_)))
   exact ih _ _
  exact .ex (x1 _ _ _ _ _)
def IJ (self:ai->Option (Int×Bool)) (n:Nat) (d:ai):Option (Int×Bool) :=
 (bif (iQ d.S ((ByteArray.mk #[]))) then (some (((d.L.length:Int))==0)) else (some false)).bind fun h=>(bif (d.N==0) then (some (((d.L.length:Int))==0)) else (some false)).bind fun p=>(bif (d.N==0) then (some (iQ d.S ((ByteArray.mk #[])))) else (some false)).bind fun q=>(bif (decide (d.Kind<1)) then (some true) else (some (decide (3<d.Kind)))).bind fun u=>(bif u then (some true) else (bif decide (d.Kind=0) then (some true) else bif decide (d.Kind=1) then (some (!h)) else bif decide (d.Kind=2) then (some (!p)) else bif decide (d.Kind=3) then (some (!q)) else none)).bind fun y=>bif y then (some ((0,false))) else (bif (decide (d.Kind<3)) then (some ((0,true))) else ((jr self n false d.L ((d.L.length:Int)) d false h p q (n+8) 0 0).bind fun LO=>match LO with | (Sum.inl ((ab,ad,ao,bm,bs,ca)))=>some ((ab,ad)) | (Sum.inr an)=>some ((wr .i64 (an+1),true))))
theorem QW (C:OT) (n:Nat) (self:ai->Option (Int×Bool)) (hS:xY C self) (d:ai):J (fun (o:R) y=>∃ v,o.1=.ret v/\aE o.2 v=(tp [(iA y.1),(bA y.2)])) (av (cx C) (ec C n 8) (ey C n 8) (n+8) 91 [(ag [(iA d.Kind),(iA d.N),(sA d.S),(im (d.L.map af) false)])] [] 0) some (IJ self n d) some:=by
 refine .lp (RM ..) ?_
 unfold IJ
 refine .s ((pt 0 0),[bx [(iA d.Kind),(iA d.N),(sA d.S),(im (d.L.map af) false)]]) (.s (pt 0 2) (.s (sA d.S) (.st (lM ..) (.bg (fun t (y:Bool)=>∃ u j4 j5 j6:A,t=[(bA y),u,j4,j5,j6]) ?_ ?_))))
 ·refine .dg (fun ei=>?_) (fun ei=>?_)
  ·exact .s (pt 0 3) (.s (im (d.L.map af) false) (.st (dQ (e:=98)) (.st (aN ..) (.lg ⟨_,_,_,_,rfl⟩))))
  exact .lg ⟨_,_,_,_,rfl⟩
 rintro _ h ⟨u,j4,j5,j6,rfl⟩
 refine .u4 (.uc (.s (pt 0 1) (.s (iA d.N) (.st (aN ..) (.bg (fun t (y:Bool)=>∃ j9 bm bs ca:A,t=[(bA y),j9,bm,bs,ca]) ?_ ?_)))))
 ·refine .dg (fun ej=>?_) (fun ej=>?_)
  ·exact .s (pt 0 3) (.s (im (d.L.map af) false) (.st (dQ (e:=98)) (.st (aN ..) (.lg ⟨_,_,_,_,rfl⟩))))
  exact .lg ⟨_,_,_,_,rfl⟩
 rintro _ p ⟨j9,bm,bs,ca,rfl⟩
 refine .u4 (.uc (.s (pt 0 1) (.s (iA d.N) (.st (aN ..) (.bg (fun t (y:Bool)=>∃ cb cc ch:A,t=[(bA y),cb,cc,ch]) ?_ ?_)))))
 ·refine .dg (fun fs=>?_) (fun fs=>?_)
  ·exact .s (pt 0 2) (.s (sA d.S) (.st (lM ..) (.lg ⟨_,_,_,rfl⟩)))
  exact .lg ⟨_,_,_,rfl⟩
 rintro _ q ⟨cb,cc,ch,rfl⟩
 refine .u4 (.s (ag [(bA false),(bA h),(bA p),(bA q)]) (.sq (pt 1 0) (.s [bx [(iA d.Kind),(iA d.N),(sA d.S),(im (d.L.map af) false)],bx [(bA false),(bA h),(bA p),(bA q)]] (.s (pt 0 0) (.s (iA d.Kind) (.st (aS ..) (.bg (fun t (y:Bool)=>∃ ck cm cv:A,t=[(bA y),ck,cm,cv]) ?_ ?_)))))))
 ·refine .dg (fun fv=>?_) (fun fv=>?_)
  ·exact .lg ⟨_,_,_,rfl⟩
  exact .s (pt 0 0) (.s (iA d.Kind) (.st (bQ ..) (.lg ⟨_,_,_,rfl⟩)))
 rintro _ hj ⟨ck,cm,cv,rfl⟩
 refine .u4 (.bg (fun t (y:Bool)=>∃ cy dd ds ea eg:A,t=[(bA y),cy,dd,ds,ea,eg]) ?_ ?_)
 ·refine .dg (fun gf=>?_) (fun gf=>?_)
  ·exact .lg ⟨_,_,_,_,_,rfl⟩
  refine .s (pt 0 0) (.s (iA d.Kind) (.sp (fun ha=>?_) (fun _=>?_)))
  ·exact .st (v:=(pt 1 0)) (by rw[of_decide_eq_true ha]; kernel_rfl) (.s (bA false) (.s (bA true) (.lg ⟨_,_,_,_,_,rfl⟩)))
  refine .sp (fun hd=>?_) (fun _=>?_)
  ·exact .st (v:=(pt 1 1)) (by rw[of_decide_eq_true hd]; kernel_rfl) (.s (bA h) (.s (bA (!h)) (.lg ⟨_,_,_,_,_,rfl⟩)))
  refine .sp (fun hf=>?_) (fun _=>?_)
  ·exact .st (v:=(pt 1 2)) (by rw[of_decide_eq_true hf]; kernel_rfl) (.s (bA p) (.s (bA (!p)) (.lg ⟨_,_,_,_,_,rfl⟩)))
  refine .sp (fun hg=>?_) (fun _=>?_)
  ·exact .st (v:=(pt 1 3)) (by rw[of_decide_eq_true hg]; kernel_rfl) (.s (bA q) (.s (bA (!q)) (.lg ⟨_,_,_,_,_,rfl⟩)))
  exact .nn
 rintro _ hk ⟨cy,dd,ds,ea,eg,rfl⟩
 refine .u4 (.uc (.uc (.aP (fun hh=>?_) (fun hh=>?_))))
 ·exact .lv rfl
 refine .s (pt 0 0) (.s (iA d.Kind) (.st (aS ..) (.aP (fun hi=>?_) (fun hi=>?_))))
 ·exact .lv rfl
 refine .s (pt 0 3) (.s (im (d.L.map af) false) (.st (dQ (e:=98)) (.as (CG C n _ _ _ _  self hS false d.L ((d.L.length:Int)) d false h p q ?_ ?_ _ 0 0))))
 ·intro ho hp hq hr hs ht hv hx hy
  exact .un rfl (.lv rfl)
 ·intro ie ih ik js kc
  exact .un rfl (.cT (by kernel_rfl) (.st (aD ..) (.lv rfl)))
def Ge:Nat->ai->Option (Int×Bool)
 | 0=>fun _=>none
 | q+1=>fun a0=>IJ (Ge q) aC a0
def LH (d:ai):Option (Int×Bool):=Ge aC d
def F6 (C:OT):Prop:=∀ (d:ai),C 91 [(ag [(iA d.Kind),(iA d.N),(sA d.S),(im (d.L.map af) false)])]=(LH d).map fun y=>(tp [(iA y.1),(bA y.2)])
def LB (n:Nat) (h:ai):Option Int :=
 (LH h).bind fun d=>bif (!d.2) then (some 1) else (bif (decide (16<d.1)) then (some 2) else (some 0))
theorem QS (C:OT) (n:Nat) (p:F6 C) (d:ai):J (fun (o:R) y=>∃ v,o.1=.ret v/\aE o.2 v=(iA y)) (av (cx C) (ec C n 8) (ey C n 8) (n+8) 76 [(ag [(iA d.Kind),(iA d.N),(sA d.S),(im (d.L.map af) false)])] [] 0) some (LB n d) some:=by
 refine .lp (RD ..) ?_
 unfold LB
 refine .s ((pt 0 0),[bx [(iA d.Kind),(iA d.N),(sA d.S),(im (d.L.map af) false)]]) (.s (ag [(iA d.Kind),(iA d.N),(sA d.S),(im (d.L.map af) false)]) (.bd (g:=fun (y:(Int×Bool))=>(tp [(iA y.1),(bA y.2)])) (by show C 91 [snap _ (ag [(iA d.Kind),(iA d.N),(sA d.S),(im (d.L.map af) false)])]=_; simp only[cR,dS]; exact p d) fun h=>.s (iA h.1) (.s (bA h.2) (.s (bA (!h.2)) (.aP (fun q=>?_) (fun q=>?_))))))
 ·exact .lv rfl
 refine .st (bQ ..) (.aP (fun u=>?_) (fun u=>?_))
 ·exact .lv rfl
 exact .lv rfl
def I1 (d:ai):Option Int:=LB aC d
def q9 (C:OT):Prop:=∀ (d:ai),C 76 [(ag [(iA d.Kind),(iA d.N),(sA d.S),(im (d.L.map af) false)])]=(I1 d).map fun y=>(iA y)
def LD (n:Nat) (d:Int):Option Int :=
 some (qN .u64 (gQ .u64 (wr .u64 (d)) 1) (wr .u64 (lA .i64 d 63)))
theorem QX (C:OT) (n:Nat) (d:Int):J (fun (o:R) y=>∃ v,o.1=.ret v/\aE o.2 v=(A.v (.int .u64 y))) (av (cx C) (ec C n 8) (ey C n 8) (n+8) 94 [(iA d)] [] 0) some (LD n d) some:=by
 refine .lp (RN ..) ?_
 unfold LD
 exact .st (v:=(A.v (.int .u64 (wr .u64 (d))))) (az (hs:=by kernel_rfl) (hd:=by kernel_rfl) ..) (.st (fG (hb:=by decide) ..) (.st (gn (hb:=by decide) ..) (.st (v:=(A.v (.int .u64 (wr .u64 (lA .i64 d 63))))) (az (hs:=by kernel_rfl) (hd:=by kernel_rfl) ..) (.st (n0 ..) (.lv rfl)))))
def G6 (d:Int):Option Int:=LD aC d
def kz (C:OT):Prop:=∀ (d:Int),C 94 [(iA d)]=(G6 d).map fun y=>(A.v (.int .u64 y))
def bS:aA:=bx [(A.v Value.nilFunc),(xM 92 [] []),(xM 95 [] []),(xM 96 [] [(pt 2 0)])]
def dM (d:ai):aA:=bx [(iA d.Kind),(iA d.N),(sA d.S),(im (d.L.map af) false)]
def eb (d:ai):aA:=bx [(iA d.Kind),(iA d.N),(sA d.S),(im (d.L.map af) false)]
def ed (v20:ai):aA:=bx [(iA v20.Kind),(iA v20.N),(sA v20.S),(im (v20.L.map af) false)]
def eU (d:ai):aA:=bx [(iA d.Kind),(iA d.N),(sA d.S),(im (d.L.map af) false)]
def l0 (d:ai):aA:=bx [(iA d.Kind),(iA d.N),(sA d.S),(im (d.L.map af) false)]
def ma (d:ai):aA:=bx [(iA d.Kind),(iA d.N),(sA d.S),(im (d.L.map af) false)]
def A2 (C:OT) (N:Nat) (self:ai->ai->(List UInt8)->ai->Option (List UInt8)):Prop:=∀ (h:ai) (p:ai) (q:(List UInt8)) (d:ai) (X:ay),J (fun (o:R) (y:(List UInt8))=>o=(Out.ret (aX 4 0 y.length false),[(l0 h),bS,bx [(pt 1 0)],(ma p),aA.row false 1 (y.map c8)]++X)) (br (cx C) N 96 [(aX 4 0 q.length false),(ag [(iA d.Kind),(iA d.N),(sA d.S),(im (d.L.map af) false)]),(pt 2 0)] ([(l0 h),bS,bx [(pt 1 0)],(ma p),aA.row false 1 (q.map c8)]++X) 0) some (self h p q d) some
def ky (self:ai->ai->(List UInt8)->ai->Option (List UInt8)) (n:Nat) (d:(List UInt8)) (v4:ai) (h:ai) (p:ai):Nat->Int->(List UInt8)->Option (Int×(List UInt8))
 | 0,_,_=>none
 | m+1,v2,v6=>bif (decide (128<=v2)) then (bif (decide (0<=(gy .u8 (wr .u8 (v2)) 128))&&decide ((gy .u8 (wr .u8 (v2)) 128)<256)) then ((cQ 1 v6 ([(UInt8.ofNat (Int.toNat (gy .u8 (wr .u8 (v2)) 128)))])).bind fun q=>ky self n d v4 h p m (lA .u64 v2 7) q) else none) else (some ((v2,v6)))
theorem A8 (bm:kz C) (self:ai->ai->(List UInt8)->ai->Option (List UInt8)) (hS:A2 C (n+8) self) (q:(List UInt8)) (v4:ai) (d:ai) (h:ai) {K:(Int×(List UInt8))->Option γ} (x0:∀ (u:Int) (p:(List UInt8)) (s4:A),J φ (kx 0 (St.mk [(0,(aX 4 0 p.length false)),(1,(A.v (.int .u64 u))),(4,s4)] [bx [(iA v4.Kind),(iA v4.N),(sA v4.S),(im (v4.L.map af) false)],bS,bx [(pt 1 0)],bx [(iA d.Kind),(iA d.N),(sA d.S),(im (d.L.map af) false)],aA.row false 1 (p.map c8),bx [(iA h.Kind),(iA h.N),(sA h.S),(im (h.L.map af) false)]])) kL (K (u,p)) some) :
  ∀ (m:Nat) (v2:Int) (v6:(List UInt8)),J φ (aH (cx C) (ec C n 7) (ey C n 7) (n+7) 93 0 0 6 kx kg kr kp m (St.mk [(0,(aX 4 0 v6.length false)),(1,(A.v (.int .u64 v2))),(4,(im (q.map c8) true))] [bx [(iA v4.Kind),(iA v4.N),(sA v4.S),(im (v4.L.map af) false)],bS,bx [(pt 1 0)],bx [(iA d.Kind),(iA d.N),(sA d.S),(im (d.L.map af) false)],aA.row false 1 (v6.map c8),bx [(iA h.Kind),(iA h.N),(sA h.S),(im (h.L.map af) false)]])) kL (ky self n q v4 d h m v2 v6) K:=by
 intro m
 induction m with
 | zero=>intros; exact .nn
 | succ m ih =>
  intro v2 v6
  refine .lp (rC ..) ?_
  unfold ky
  refine .st (dB ..) (.aP (fun an=>?_) (fun an=>?_))
  ·refine .st (v:=(uA (wr .u8 (v2)))) (az (hs:=by kernel_rfl) (hd:=by kernel_rfl) ..) (.st (dz ..) (.gd fun hg=>.st (v:=(im [[(uA (((UInt8.ofNat (Int.toNat (gy .u8 (wr .u8 (v2)) 128))).toNat:Int)))]] true)) (by rw[et hg]; kernel_rfl) (.bd (g:=fun (y:List UInt8)=>((aX 4 0 y.length false),[bx [(iA v4.Kind),(iA v4.N),(sA v4.S),(im (v4.L.map af) false)],bS,bx [(pt 1 0)],bx [(iA d.Kind),(iA d.N),(sA d.S),(im (d.L.map af) false)],aA.row false 1 (y.map c8),bx [(iA h.Kind),(iA h.N),(sA h.S),(im (h.L.map af) false)]])) (bV cO (l:=v6) (l2:=[(UInt8.ofNat (Int.toNat (gy .u8 (wr .u8 (v2)) 128)))]) (b:=4) rfl (by decide) (aY (f:=c8) ([(UInt8.ofNat (Int.toNat (gy .u8 (wr .u8 (v2)) 128)))]:List UInt8) _ _)) fun y9=>.st (gn (hb:=by decide) ..) (.s [bx [(iA v4.Kind),(iA v4.N),(sA v4.S),(im (v4.L.map af) false)],bS,bx [(pt 1 0)],bx [(iA d.Kind),(iA d.N),(sA d.S),(im (d.L.map af) false)],aA.row false 1 (y9.map c8),bx [(iA h.Kind),(iA h.N),(sA h.S),(im (h.L.map af) false)]] (.cT (by kernel_rfl) ?_)))))
   exact ih _ _
  exact .ex (x0 _ _ _)
def jt (self:ai->ai->(List UInt8)->ai->Option (List UInt8)) (n:Nat) (v30:(List UInt8)) (p:ai) (q:ai) (u:ai) (y:ai) (ab:ai):Nat->Int->(List UInt8)->Option (Int×(List UInt8))
 | 0,_,_=>none
 | m+1,d,h=>bif (decide (128<=d)) then (bif (decide (0<=(gy .u8 (wr .u8 (d)) 128))&&decide ((gy .u8 (wr .u8 (d)) 128)<256)) then ((cQ 1 h ([(UInt8.ofNat (Int.toNat (gy .u8 (wr .u8 (d)) 128)))])).bind fun ad=>jt self n v30 p q u y ab m (lA .u64 d 7) ad) else none) else (some ((d,h)))
theorem yi (cc:kz C) (self:ai->ai->(List UInt8)->ai->Option (List UInt8)) (hS:A2 C (n+8) self) (v30:(List UInt8)) (d:ai) (h:ai) (p:ai) (q:ai) (u:ai) {K:(Int×(List UInt8))->Option γ} (x0:∀ (o0:Int) (o1:(List UInt8)) (s4:A),J φ (kx 0 (St.mk [(0,(aX 4 0 o1.length false)),(1,(A.v (.int .u64 o0))),(4,s4)] [bx [(iA d.Kind),(iA d.N),(sA d.S),(im (d.L.map af) false)],bS,bx [(pt 1 0)],bx [(iA h.Kind),(iA h.N),(sA h.S),(im (h.L.map af) false)],aA.row false 1 (o1.map c8),bx [(iA p.Kind),(iA p.N),(sA p.S),(im (p.L.map af) false)],bx [(iA q.Kind),(iA q.N),(sA q.S),(im (q.L.map af) false)],bx [(iA u.Kind),(iA u.N),(sA u.S),(im (u.L.map af) false)]])) kL (K (o0,o1)) some) :
  ∀ (m:Nat) (ab:Int) (ad:(List UInt8)),J φ (aH (cx C) (br (cx C) (n+6)) (aI (cx C) (n+6)) (n+6) 93 0 0 8 kx kg kr kp m (St.mk [(0,(aX 4 0 ad.length false)),(1,(A.v (.int .u64 ab))),(4,(im (v30.map c8) true))] [bx [(iA d.Kind),(iA d.N),(sA d.S),(im (d.L.map af) false)],bS,bx [(pt 1 0)],bx [(iA h.Kind),(iA h.N),(sA h.S),(im (h.L.map af) false)],aA.row false 1 (ad.map c8),bx [(iA p.Kind),(iA p.N),(sA p.S),(im (p.L.map af) false)],bx [(iA q.Kind),(iA q.N),(sA q.S),(im (q.L.map af) false)],bx [(iA u.Kind),(iA u.N),(sA u.S),(im (u.L.map af) false)]])) kL (jt self n v30 d h p q u m ab ad) K:=by
 intro m
 induction m with
 | zero=>intros; exact .nn
 | succ m ih =>
  intro ab ad
  refine .lp (rC ..) ?_
  unfold jt
  refine .st (dB ..) (.aP (fun ca=>?_) (fun ca=>?_))
  ·refine .st (v:=(uA (wr .u8 (ab)))) (az (hs:=by kernel_rfl) (hd:=by kernel_rfl) ..) (.st (dz ..) (.gd fun hg=>.st (v:=(im [[(uA (((UInt8.ofNat (Int.toNat (gy .u8 (wr .u8 (ab)) 128))).toNat:Int)))]] true)) (by rw[et hg]; kernel_rfl) (.bd (g:=fun (y:List UInt8)=>((aX 4 0 y.length false),[bx [(iA d.Kind),(iA d.N),(sA d.S),(im (d.L.map af) false)],bS,bx [(pt 1 0)],bx [(iA h.Kind),(iA h.N),(sA h.S),(im (h.L.map af) false)],aA.row false 1 (y.map c8),bx [(iA p.Kind),(iA p.N),(sA p.S),(im (p.L.map af) false)],bx [(iA q.Kind),(iA q.N),(sA q.S),(im (q.L.map af) false)],bx [(iA u.Kind),(iA u.N),(sA u.S),(im (u.L.map af) false)]])) (bV cO (l:=ad) (l2:=[(UInt8.ofNat (Int.toNat (gy .u8 (wr .u8 (ab)) 128)))]) (b:=4) rfl (by decide) (aY (f:=c8) ([(UInt8.ofNat (Int.toNat (gy .u8 (wr .u8 (ab)) 128)))]:List UInt8) _ _)) fun cb=>.st (gn (hb:=by decide) ..) (.s [bx [(iA d.Kind),(iA d.N),(sA d.S),(im (d.L.map af) false)],bS,bx [(pt 1 0)],bx [(iA h.Kind),(iA h.N),(sA h.S),(im (h.L.map af) false)],aA.row false 1 (cb.map c8),bx [(iA p.Kind),(iA p.N),(sA p.S),(im (p.L.map af) false)],bx [(iA q.Kind),(iA q.N),(sA q.S),(im (q.L.map af) false)],bx [(iA u.Kind),(iA u.N),(sA u.S),(im (u.L.map af) false)]] (.cT (by kernel_rfl) ?_)))))
   exact ih _ _
  exact .ex (x0 _ _ _)
def ju (self:ai->ai->(List UInt8)->ai->Option (List UInt8)) (n:Nat) (p:(List UInt8)) (q:ai) (u:ai) (y:ai) (ab:ai):Nat->Int->(List UInt8)->Option (Int×(List UInt8))
 | 0,_,_=>none
 | m+1,d,h=>bif (decide (128<=d)) then (bif (decide (0<=(gy .u8 (wr .u8 (d)) 128))&&decide ((gy .u8 (wr .u8 (d)) 128)<256)) then ((cQ 1 h ([(UInt8.ofNat (Int.toNat (gy .u8 (wr .u8 (d)) 128)))])).bind fun ad=>ju self n p q u y ab m (lA .u64 d 7) ad) else none) else (some ((d,h)))
theorem yj (cc:kz C) (self:ai->ai->(List UInt8)->ai->Option (List UInt8)) (hS:A2 C (n+8) self) (an:(List UInt8)) (d:ai) (h:ai) (p:ai) (q:ai) {K:(Int×(List UInt8))->Option γ} (x0:∀ (o0:Int) (o1:(List UInt8)) (s4:A),J φ (kx 0 (St.mk [(0,(aX 4 0 o1.length false)),(1,(A.v (.int .u64 o0))),(4,s4)] [bx [(iA d.Kind),(iA d.N),(sA d.S),(im (d.L.map af) false)],bS,bx [(pt 1 0)],bx [(iA h.Kind),(iA h.N),(sA h.S),(im (h.L.map af) false)],aA.row false 1 (o1.map c8),bx [(iA p.Kind),(iA p.N),(sA p.S),(im (p.L.map af) false)],bx [(iA q.Kind),(iA q.N),(sA q.S),(im (q.L.map af) false)],aA.dead])) kL (K (o0,o1)) some) :
  ∀ (m:Nat) (u:Int) (ab:(List UInt8)),J φ (aH (cx C) (br (cx C) (n+6)) (aI (cx C) (n+6)) (n+6) 93 0 0 8 kx kg kr kp m (St.mk [(0,(aX 4 0 ab.length false)),(1,(A.v (.int .u64 u))),(4,(im (an.map c8) true))] [bx [(iA d.Kind),(iA d.N),(sA d.S),(im (d.L.map af) false)],bS,bx [(pt 1 0)],bx [(iA h.Kind),(iA h.N),(sA h.S),(im (h.L.map af) false)],aA.row false 1 (ab.map c8),bx [(iA p.Kind),(iA p.N),(sA p.S),(im (p.L.map af) false)],bx [(iA q.Kind),(iA q.N),(sA q.S),(im (q.L.map af) false)],aA.dead])) kL (ju self n an d h p q m u ab) K:=by
 intro m
 induction m with
 | zero=>intros; exact .nn
 | succ m ih =>
  intro u ab
  refine .lp (rC ..) ?_
  unfold ju
  refine .st (dB ..) (.aP (fun ca=>?_) (fun ca=>?_))
  ·refine .st (v:=(uA (wr .u8 (u)))) (az (hs:=by kernel_rfl) (hd:=by kernel_rfl) ..) (.st (dz ..) (.gd fun hg=>.st (v:=(im [[(uA (((UInt8.ofNat (Int.toNat (gy .u8 (wr .u8 (u)) 128))).toNat:Int)))]] true)) (by rw[et hg]; kernel_rfl) (.bd (g:=fun (y:List UInt8)=>((aX 4 0 y.length false),[bx [(iA d.Kind),(iA d.N),(sA d.S),(im (d.L.map af) false)],bS,bx [(pt 1 0)],bx [(iA h.Kind),(iA h.N),(sA h.S),(im (h.L.map af) false)],aA.row false 1 (y.map c8),bx [(iA p.Kind),(iA p.N),(sA p.S),(im (p.L.map af) false)],bx [(iA q.Kind),(iA q.N),(sA q.S),(im (q.L.map af) false)],aA.dead])) (bV cO (l:=ab) (l2:=[(UInt8.ofNat (Int.toNat (gy .u8 (wr .u8 (u)) 128)))]) (b:=4) rfl (by decide) (aY (f:=c8) ([(UInt8.ofNat (Int.toNat (gy .u8 (wr .u8 (u)) 128)))]:List UInt8) _ _)) fun cb=>.st (gn (hb:=by decide) ..) (.s [bx [(iA d.Kind),(iA d.N),(sA d.S),(im (d.L.map af) false)],bS,bx [(pt 1 0)],bx [(iA h.Kind),(iA h.N),(sA h.S),(im (h.L.map af) false)],aA.row false 1 (cb.map c8),bx [(iA p.Kind),(iA p.N),(sA p.S),(im (p.L.map af) false)],bx [(iA q.Kind),(iA q.N),(sA q.S),(im (q.L.map af) false)],aA.dead] (.cT (by kernel_rfl) ?_)))))
   exact ih _ _
  exact .ex (x0 _ _ _)
def fw (self:ai->ai->(List UInt8)->ai->Option (List UInt8)) (n:Nat) (ad:(List UInt8)) (u:(List ai)) (y:Int) (h:ai) (v20:ai) (p:ai):Nat->Int->(List UInt8)->Option ((List UInt8))
 | 0,_,_=>none
 | m+1,q,ab=>bif (decide (q<y)) then ((bw u q).bind fun d=>bif decide (d.Kind=0) then (none) else bif decide (d.Kind=1) then ((cQ 1 ab ([(1:UInt8)])).bind fun bm=>(G6 d.N).bind fun bs=>(jt self n ([]) h v20 p d d (n+6) bs bm).bind fun ca=>match ca with | (an,cb)=>bif (decide (0<=(wr .u8 (an)))&&decide ((wr .u8 (an))<256)) then ((cQ 1 cb ([(UInt8.ofNat (Int.toNat (wr .u8 (an))))])).bind fun cc=>fw self n ad u y h v20 p m (wr .i64 (q+1)) cc) else none) else bif decide (d.Kind=2) then ((cQ 1 ab ([(2:UInt8)])).bind fun ch=>(ju self n ([]) h v20 p d (n+6) (wr .u64 ((d.S.size:Int))) ch).bind fun ck=>match ck with | (ao,cm)=>bif (decide (0<=(wr .u8 (ao)))&&decide ((wr .u8 (ao))<256)) then ((cQ 1 cm ([(UInt8.ofNat (Int.toNat (wr .u8 (ao))))])).bind fun cv=>(cQ 1 cv (kE d.S)).bind fun cy=>fw self n ad u y h v20 p m (wr .i64 (q+1)) cy) else none) else bif decide (d.Kind=3) then ((self h v20 ab d).bind fun dd=>fw self n ad u y h v20 p m (wr .i64 (q+1)) dd) else none) else (some ab)
theorem A9 (ao:kz C) (self:ai->ai->(List UInt8)->ai->Option (List UInt8)) (hS:A2 C (n+8) self) (u:(List UInt8)) (ab:(List ai)) (ch:Int) (h:ai) (v20:ai) (p:ai) {K:((List UInt8))->Option γ} (x0:∀ (o0:(List UInt8)) (s2:A) (s5:A) (cv:A) (cy:A) (dd:A),J φ (kx 0 (St.mk [(0,(aX 4 0 o0.length false)),(2,s2),(5,s5),(17,cv),(18,cy),(19,dd)] [(eb h),bS,bx [(pt 1 0)],(ed v20),aA.row false 1 (o0.map c8),(dM p)])) kL (K o0) some) :
  ∀ (m:Nat) (bs:Int) (q:(List UInt8)),J φ (aH (cx C) (ec C n 8) (ey C n 8) (n+8) 96 0 0 6 kx kg kr kp m (St.mk [(0,(aX 4 0 q.length false)),(2,(pt 2 0)),(5,(im (u.map c8) true)),(17,(im (ab.map af) false)),(18,(iA ch)),(19,(iA bs))] [(eb h),bS,bx [(pt 1 0)],(ed v20),aA.row false 1 (q.map c8),(dM p)])) kL (fw self n u ab ch h v20 p m bs q) K:=by
 intro m
 induction m with
 | zero=>intros; exact .nn
 | succ m ih =>
  intro bs q
  refine .lp (Gr ..) ?_
  unfold fw
  refine .st (aS ..) (.aP (fun ds=>?_) (fun ds=>?_))
  ·refine .bd ((fJ (e:=98) (es:=4)).trans (eR _)) fun d=>.s (ag [(iA d.Kind),(iA d.N),(sA d.S),(im (d.L.map af) false)]) (.sq (pt 6 0) (.s [(eb h),bS,bx [(pt 1 0)],(ed v20),aA.row false 1 (q.map c8),(dM p),(eU d)] (.s (pt 1 0) (.s (pt 6 0) (.s (iA d.Kind) (.s (pt 1 0) (.sp (fun ea=>?_) (fun _=>?_))))))))
   ·exact .st (v:=(pt 1 0)) (by rw[of_decide_eq_true ea]; kernel_rfl) (.s (pt 1 0) (.s (A.v Value.nilFunc) (.s (ag [(iA d.Kind),(iA d.N),(sA d.S),(im (d.L.map af) false)]) (.nn))))
   refine .sp (fun eg=>?_) (fun _=>?_)
   ·refine .st (v:=(pt 1 1)) (by rw[of_decide_eq_true eg]; kernel_rfl) (.s (pt 1 1) (.s (xM 92 [] []) (.s (ag [(iA d.Kind),(iA d.N),(sA d.S),(im (d.L.map af) false)]) (.dC (by kernel_rfl) (by kernel_rfl) (.cl ((aK DF).trans (M6 C (ec C n 7) (ey C n 7) (n+7) _ _ _ _)) (.s ((pt 7 0),[(eb h),bS,bx [(pt 1 0)],(ed v20),aA.row false 1 (q.map c8),(dM p),(eU d),(eU d)]) (.s (im [[(uA 1)]] true) (.bd (g:=fun (y:List UInt8)=>((aX 4 0 y.length false),[(eb h),bS,bx [(pt 1 0)],(ed v20),aA.row false 1 (y.map c8),(dM p),(eU d),(eU d)])) (bV cO (l:=q) (l2:=[(1:UInt8)]) (b:=4) rfl (by decide) (aY (f:=c8) ([(1:UInt8)]:List UInt8) _ _)) fun ei=>.cT (by kernel_rfl) (.s (pt 7 1) (.cT (by kernel_rfl) (.s (iA d.N) (.bd (ao d.N) fun ej=>.cl ((aK qD).trans (Gq C (br (cx C) (n+6)) (aI (cx C) (n+6)) (n+6) _ _ _ _)) (.as (yi C n _ _ _ _ ao self hS ([]) h v20 p d d ?_ _ ej ei))))))))))))))
    ·intro ad fs hi
     refine .un rfl (.cT (by kernel_rfl) (.st (v:=(uA (wr .u8 (ad)))) (az (hs:=by kernel_rfl) (hd:=by kernel_rfl) ..) (.gd fun hg=>.st (v:=(im [[(uA (((UInt8.ofNat (Int.toNat (wr .u8 (ad)))).toNat:Int)))]] true)) (by rw[et hg]; kernel_rfl) (.bd (g:=fun (y:List UInt8)=>((aX 4 0 y.length false),[(eb h),bS,bx [(pt 1 0)],(ed v20),aA.row false 1 (y.map c8),(dM p),(eU d),(eU d)])) (bV cO (l:=fs) (l2:=[(UInt8.ofNat (Int.toNat (wr .u8 (ad))))]) (b:=4) rfl (by decide) (aY (f:=c8) ([(UInt8.ofNat (Int.toNat (wr .u8 (ad))))]:List UInt8) _ _)) fun ca=>.cr (.ok (.cr (.ok (.st (aD ..) (.st (v:=[(eb h),bS,bx [(pt 1 0)],(ed v20),aA.row false 1 (ca.map c8),(dM p)]) ((by kernel_rfl:_=(bif ((((au 6 (h.L.map af))&&true))&&((((au 6 (v20.L.map af))&&true))&&((au 6 (ca.map c8))&&((((au 6 (p.L.map af))&&true))&&true)))) then some [(eb h),bS,bx [(pt 1 0)],(ed v20),aA.row false 1 (ca.map c8),(dM p)] else none)).trans (by simp only[iC,iD])) (.cT ((by kernel_rfl:_=(bif au 6 (u.map c8) then (bif au 6 (ab.map af) then true else false) else false)).trans (by simp only[iC,iD])) ?_))))))))))
     exact ih _ _
   refine .sp (fun fv=>?_) (fun _=>?_)
   ·refine .st (v:=(pt 1 2)) (by rw[of_decide_eq_true fv]; kernel_rfl) (.s (pt 1 2) (.s (xM 95 [] []) (.s (ag [(iA d.Kind),(iA d.N),(sA d.S),(im (d.L.map af) false)]) (.dC (by kernel_rfl) (by kernel_rfl) (.cl ((aK DG).trans (M7 C (ec C n 7) (ey C n 7) (n+7) _ _ _ _)) (.s ((pt 7 0),[(eb h),bS,bx [(pt 1 0)],(ed v20),aA.row false 1 (q.map c8),(dM p),(eU d),(eU d)]) (.s ((A.ip [(iA d.Kind),(iA d.N),(sA d.S),(im (d.L.map af) false)]),[(eb h),bS,bx [(pt 1 0)],(ed v20),aA.row false 1 (q.map c8),(dM p),(eU d),aA.dead]) (.cT (by kernel_rfl) (.s (im [[(uA 2)]] true) (.s (A.ip [(sA d.S),(im (d.L.map af) false)]) (.s (sA d.S) (.s (iA ((d.S.size:Int))) (.st (v:=(A.v (.int .u64 (wr .u64 ((d.S.size:Int)))))) (az (hs:=by kernel_rfl) (hd:=by kernel_rfl) ..) (.s (A.ip [(sA d.S),(im (d.L.map af) false)]) (.s (sA d.S) (.cT (by kernel_rfl) (.bd (g:=fun (y:List UInt8)=>((aX 4 0 y.length false),[(eb h),bS,bx [(pt 1 0)],(ed v20),aA.row false 1 (y.map c8),(dM p),(eU d),aA.dead])) (bV cO (l:=q) (l2:=[(2:UInt8)]) (b:=4) rfl (by decide) (aY (f:=c8) ([(2:UInt8)]:List UInt8) _ _)) fun gf=>.cT (by kernel_rfl) (.cl ((aK qD).trans (Gq C (br (cx C) (n+6)) (aI (cx C) (n+6)) (n+6) _ _ _ _)) (.as (yj C n _ _ _ _ ao self hS ([]) h v20 p d ?_ _ (wr .u64 ((d.S.size:Int))) gf))))))))))))))))))))
    ·intro an ha hj
     refine .un rfl (.cT (by kernel_rfl) (.st (v:=(uA (wr .u8 (an)))) (az (hs:=by kernel_rfl) (hd:=by kernel_rfl) ..) (.gd fun hg=>.st (v:=(im [[(uA (((UInt8.ofNat (Int.toNat (wr .u8 (an)))).toNat:Int)))]] true)) (by rw[et hg]; kernel_rfl) (.bd (g:=fun (y:List UInt8)=>((aX 4 0 y.length false),[(eb h),bS,bx [(pt 1 0)],(ed v20),aA.row false 1 (y.map c8),(dM p),(eU d),aA.dead])) (bV cO (l:=ha) (l2:=[(UInt8.ofNat (Int.toNat (wr .u8 (an))))]) (b:=4) rfl (by decide) (aY (f:=c8) ([(UInt8.ofNat (Int.toNat (wr .u8 (an))))]:List UInt8) _ _)) fun hf=>.cr (.ok (.bd (g:=fun (y:List UInt8)=>((aX 4 0 y.length false),[(eb h),bS,bx [(pt 1 0)],(ed v20),aA.row false 1 (y.map c8),(dM p),(eU d),aA.dead])) (bV uQ (l:=hf) (l2:=kE d.S) (b:=4) rfl (by decide) (qS ..)) fun cb=>.cr (.ok (.st (aD ..) (.st (v:=[(eb h),bS,bx [(pt 1 0)],(ed v20),aA.row false 1 (cb.map c8),(dM p)]) ((by kernel_rfl:_=(bif ((((au 6 (h.L.map af))&&true))&&((((au 6 (v20.L.map af))&&true))&&((au 6 (cb.map c8))&&((((au 6 (p.L.map af))&&true))&&true)))) then some [(eb h),bS,bx [(pt 1 0)],(ed v20),aA.row false 1 (cb.map c8),(dM p)] else none)).trans (by simp only[iC,iD])) (.cT ((by kernel_rfl:_=(bif au 6 (u.map c8) then (bif au 6 (ab.map af) then true else false) else false)).trans (by simp only[iC,iD])) ?_))))))))))
     exact ih _ _
   refine .sp (fun hh=>?_) (fun _=>?_)
   ·refine .st (v:=(pt 1 3)) (by rw[of_decide_eq_true hh]; kernel_rfl) (.s (pt 1 3) (.s (xM 96 [] [(pt 2 0)]) (.s (ag [(iA d.Kind),(iA d.N),(sA d.S),(im (d.L.map af) false)]) (.dC (by kernel_rfl) (by kernel_rfl) (.bg (fun (t:R) (y:(List UInt8))=>t=(Out.ret (aX 4 0 y.length false),[(eb h),bS,bx [(pt 1 0)],(ed v20),aA.row false 1 (y.map c8),(dM p),(eU d)])) (hS h v20 q d [(dM p),(eU d)]) ?_)))))
    rintro _ cc rfl
    refine .ok (.st (aD ..) (.st (v:=[(eb h),bS,bx [(pt 1 0)],(ed v20),aA.row false 1 (cc.map c8),(dM p)]) ((by kernel_rfl:_=(bif ((((au 6 (h.L.map af))&&true))&&((((au 6 (v20.L.map af))&&true))&&((au 6 (cc.map c8))&&((((au 6 (p.L.map af))&&true))&&true)))) then some [(eb h),bS,bx [(pt 1 0)],(ed v20),aA.row false 1 (cc.map c8),(dM p)] else none)).trans (by simp only[iC,iD])) (.cT ((by kernel_rfl:_=(bif au 6 (u.map c8) then (bif au 6 (ab.map af) then true else false) else false)).trans (by simp only[iC,iD])) ?_)))
    exact ih _ _
   exact .nn
  exact .ex (x0 _ _ _ _ _ _)
def A0 (self:ai->ai->(List UInt8)->ai->Option (List UInt8)) (n:Nat) (p:ai) (q:ai) (u:(List UInt8)) (d:ai):Option (List UInt8) :=
 (cQ 1 u ([(3:UInt8)])).bind fun y=>(ky self n ([]) p q d (n+7) (wr .u64 ((d.L.length:Int))) y).bind fun qW=>match qW with | (h,ab)=>bif (decide (0<=(wr .u8 (h)))&&decide ((wr .u8 (h))<256)) then ((cQ 1 ab ([(UInt8.ofNat (Int.toNat (wr .u8 (h))))])).bind fun ad=>(fw self n ([]) d.L ((d.L.length:Int)) p q d (n+8) 0 ad).bind fun LQ=>match LQ with | an=>some an) else none
theorem MS (C:OT) (n:Nat) (ab:kz C) (self:ai->ai->(List UInt8)->ai->Option (List UInt8)) (hS:A2 C (n+8) self) (h:ai) (p:ai) (q:(List UInt8)) (d:ai):J (fun (o:R) (y:(List UInt8))=>∃ Z,o=(Out.ret (aX 4 0 y.length false),[(l0 h),bS,bx [(pt 1 0)],(ma p),aA.row false 1 (y.map c8)]++Z)) (av (cx C) (ec C n 8) (ey C n 8) (n+8) 96 [(aX 4 0 q.length false),(ag [(iA d.Kind),(iA d.N),(sA d.S),(im (d.L.map af) false)]),(pt 2 0)] [(l0 h),bS,bx [(pt 1 0)],(ma p),aA.row false 1 (q.map c8)] 0) some (A0 self n h p q d) some:=by
 refine .lp (PI ..) ?_
 unfold A0
 refine .s ((pt 5 0),[(l0 h),bS,bx [(pt 1 0)],(ma p),aA.row false 1 (q.map c8),bx [(iA d.Kind),(iA d.N),(sA d.S),(im (d.L.map af) false)]]) (.s (im [[(uA 3)]] true) (.bd (g:=fun (y:List UInt8)=>((aX 4 0 y.length false),[(l0 h),bS,bx [(pt 1 0)],(ma p),aA.row false 1 (y.map c8),bx [(iA d.Kind),(iA d.N),(sA d.S),(im (d.L.map af) false)]])) (bV cO (l:=q) (l2:=[(3:UInt8)]) (b:=4) rfl (by decide) (aY (f:=c8) ([(3:UInt8)]:List UInt8) _ _)) fun y1=>.cT (by kernel_rfl) (.s (pt 5 3) (.cT (by kernel_rfl) (.s (im (d.L.map af) false) (.cT (by kernel_rfl) (.st (dQ (e:=98)) (.cT (by kernel_rfl) (.st (v:=(A.v (.int .u64 (wr .u64 ((d.L.length:Int)))))) (az (hs:=by kernel_rfl) (hd:=by kernel_rfl) ..) (.cl ((aK qD).trans (Gq C (ec C n 7) (ey C n 7) (n+7) _ _ _ _)) (.as (A8 C n _ _ _ _ ab self hS ([]) h p d ?_ _ (wr .u64 ((d.L.length:Int))) y1))))))))))))
 ·intro u an bm
  refine .un rfl (.cT (by kernel_rfl) (.st (v:=(uA (wr .u8 (u)))) (az (hs:=by kernel_rfl) (hd:=by kernel_rfl) ..) (.gd fun hg=>.st (v:=(im [[(uA (((UInt8.ofNat (Int.toNat (wr .u8 (u)))).toNat:Int)))]] true)) (by rw[et hg]; kernel_rfl) (.bd (g:=fun (y:List UInt8)=>((aX 4 0 y.length false),[(l0 h),bS,bx [(pt 1 0)],(ma p),aA.row false 1 (y.map c8),bx [(iA d.Kind),(iA d.N),(sA d.S),(im (d.L.map af) false)]])) (bV cO (l:=an) (l2:=[(UInt8.ofNat (Int.toNat (wr .u8 (u))))]) (b:=4) rfl (by decide) (aY (f:=c8) ([(UInt8.ofNat (Int.toNat (wr .u8 (u))))]:List UInt8) _ _)) fun ao=>.cr (.ok (.s (pt 5 3) (.s (im (d.L.map af) false) (.st (dQ (e:=98)) (.as (A9 C n _ _ _ _ ab self hS ([]) d.L ((d.L.length:Int)) h p d ?_ _ 0 ao))))))))))
  ·intro bs ca cb cc ch ck
   exact .un rfl (.cT (by kernel_rfl) (.lf rfl rfl ⟨[bx [(iA d.Kind),(iA d.N),(sA d.S),(im (d.L.map af) false)]],rfl⟩))
def Ef:Nat->ai->ai->(List UInt8)->ai->Option (List UInt8)
 | 0=>fun _ _ _ _=>none
 | N+1=>fun a0 a1 a2 a3=>bif Nat.ble 8 N then A0 (Ef N) (N - 8) a0 a1 a2 a3 else none
theorem I5 (C:OT) (ab:kz C):∀ N,A2 C N (Ef N)
 | 0=>fun _ _ _ _ X r h=>by cases h
 | N+1=>fun d p q u X=>by
  show J _ _ _ (bif Nat.ble 8 N then A0 (Ef N) (N - 8) d p q u else none) _
  cases h:Nat.ble 8 N with
  | false=>exact fun r h=>by cases h
  | true =>
   obtain ⟨n,rfl⟩:∃ n,N=n+8:=⟨N - 8,by have:=Nat.le_of_ble_eq_true h; omega⟩
   rw[Nat.add_sub_cancel]
   exact CU (m:=5) (by kernel_rfl) (by kernel_rfl) (by decide) rfl ((by kernel_rfl:_=((((au 5 (u.L.map af))&&true))&&true)).trans (by simp only[iC,iD])) ((by kernel_rfl:_=((((au 5 (d.L.map af))&&true))&&((((au 5 (p.L.map af))&&true))&&((au 5 (q.map c8))&&true)))).trans (by simp only[iC,iD])) (fun _=>rfl) (fun y=>(by kernel_rfl)) (fun y=>((by kernel_rfl:_=((((au 5 (d.L.map af))&&true))&&((((au 5 (p.L.map af))&&true))&&((au 5 (y.map c8))&&true)))).trans (by simp only[iC,iD]))) (MS C n ab (Ef (n+8)) (I5 C ab (n+8)) d p q u)
def bE:aA:=bx [(A.v Value.nilFunc),(xM 92 [] []),(xM 95 [] []),(xM 96 [] [(pt 2 0)])]
def bN (d:ai):aA:=bx [(iA d.Kind),(iA d.N),(sA d.S),(im (d.L.map af) false)]
def fP (d:ai):aA:=bx [(iA d.Kind),(iA d.N),(sA d.S),(im (d.L.map af) false)]
def jk (n:Nat) (h:(List UInt8)) (p:ai) (v10:ai):Nat->Int->(List UInt8)->Option (Int×(List UInt8))
 | 0,_,_=>none
 | m+1,d,v11=>bif (decide (128<=d)) then (bif (decide (0<=(gy .u8 (wr .u8 (d)) 128))&&decide ((gy .u8 (wr .u8 (d)) 128)<256)) then ((cQ 1 v11 ([(UInt8.ofNat (Int.toNat (gy .u8 (wr .u8 (d)) 128)))])).bind fun q=>jk n h p v10 m (lA .u64 d 7) q) else none) else (some ((d,v11)))
theorem vW (bm:q9 C) (bs:kz C) (q:(List UInt8)) (d:ai) (v10:ai) {K:(Int×(List UInt8))->Option γ} (x0:∀ (u:Int) (p:(List UInt8)) (s4:A),J φ (kx 0 (St.mk [(0,(aX 4 0 p.length false)),(1,(A.v (.int .u64 u))),(4,s4)] [bx [(iA d.Kind),(iA d.N),(sA d.S),(im (d.L.map af) false)],bE,bx [(pt 1 0)],bx [(iA v10.Kind),(iA v10.N),(sA v10.S),(im (v10.L.map af) false)],aA.row false 1 (p.map c8)])) kL (K (u,p)) some) :
  ∀ (m:Nat) (h:Int) (v11:(List UInt8)),J φ (aH (cx C) (br (cx C) (n+6)) (aI (cx C) (n+6)) (n+6) 93 0 0 5 kx kg kr kp m (St.mk [(0,(aX 4 0 v11.length false)),(1,(A.v (.int .u64 h))),(4,(im (q.map c8) true))] [bx [(iA d.Kind),(iA d.N),(sA d.S),(im (d.L.map af) false)],bE,bx [(pt 1 0)],bx [(iA v10.Kind),(iA v10.N),(sA v10.S),(im (v10.L.map af) false)],aA.row false 1 (v11.map c8)])) kL (jk n q d v10 m h v11) K:=by
 intro m
 induction m with
 | zero=>intros; exact .nn
 | succ m ih =>
  intro h v11
  refine .lp (rC ..) ?_
  unfold jk
  refine .st (dB ..) (.aP (fun an=>?_) (fun an=>?_))
  ·refine .st (v:=(uA (wr .u8 (h)))) (az (hs:=by kernel_rfl) (hd:=by kernel_rfl) ..) (.st (dz ..) (.gd fun hg=>.st (v:=(im [[(uA (((UInt8.ofNat (Int.toNat (gy .u8 (wr .u8 (h)) 128))).toNat:Int)))]] true)) (by rw[et hg]; kernel_rfl) (.bd (g:=fun (y:List UInt8)=>((aX 4 0 y.length false),[bx [(iA d.Kind),(iA d.N),(sA d.S),(im (d.L.map af) false)],bE,bx [(pt 1 0)],bx [(iA v10.Kind),(iA v10.N),(sA v10.S),(im (v10.L.map af) false)],aA.row false 1 (y.map c8)])) (bV cO (l:=v11) (l2:=[(UInt8.ofNat (Int.toNat (gy .u8 (wr .u8 (h)) 128)))]) (b:=4) rfl (by decide) (aY (f:=c8) ([(UInt8.ofNat (Int.toNat (gy .u8 (wr .u8 (h)) 128)))]:List UInt8) _ _)) fun ao=>.st (gn (hb:=by decide) ..) (.s [bx [(iA d.Kind),(iA d.N),(sA d.S),(im (d.L.map af) false)],bE,bx [(pt 1 0)],bx [(iA v10.Kind),(iA v10.N),(sA v10.S),(im (v10.L.map af) false)],aA.row false 1 (ao.map c8)] (.cT (by kernel_rfl) ?_)))))
   exact ih _ _
  exact .ex (x0 _ _ _)
def kq (n:Nat) (p:(List UInt8)) (q:ai):Nat->Int->(List UInt8)->Option (Int×(List UInt8))
 | 0,_,_=>none
 | m+1,d,h=>bif (decide (128<=d)) then (bif (decide (0<=(gy .u8 (wr .u8 (d)) 128))&&decide ((gy .u8 (wr .u8 (d)) 128)<256)) then ((cQ 1 h ([(UInt8.ofNat (Int.toNat (gy .u8 (wr .u8 (d)) 128)))])).bind fun u=>kq n p q m (lA .u64 d 7) u) else none) else (some ((d,h)))
theorem A3 (bs:q9 C) (ca:kz C) (u:(List UInt8)) (d:ai) {K:(Int×(List UInt8))->Option γ} (x0:∀ (o0:Int) (q:(List UInt8)) (s4:A),J φ (kx 0 (St.mk [(0,(aX 4 0 q.length false)),(1,(A.v (.int .u64 o0))),(4,s4)] [bx [(iA d.Kind),(iA d.N),(sA d.S),(im (d.L.map af) false)],bE,bx [(pt 1 0)],aA.dead,aA.row false 1 (q.map c8)])) kL (K (o0,q)) some) :
  ∀ (m:Nat) (h:Int) (p:(List UInt8)),J φ (aH (cx C) (br (cx C) (n+6)) (aI (cx C) (n+6)) (n+6) 93 0 0 5 kx kg kr kp m (St.mk [(0,(aX 4 0 p.length false)),(1,(A.v (.int .u64 h))),(4,(im (u.map c8) true))] [bx [(iA d.Kind),(iA d.N),(sA d.S),(im (d.L.map af) false)],bE,bx [(pt 1 0)],aA.dead,aA.row false 1 (p.map c8)])) kL (kq n u d m h p) K:=by
 intro m
 induction m with
 | zero=>intros; exact .nn
 | succ m ih =>
  intro h p
  refine .lp (rC ..) ?_
  unfold kq
  refine .st (dB ..) (.aP (fun ao=>?_) (fun ao=>?_))
  ·refine .st (v:=(uA (wr .u8 (h)))) (az (hs:=by kernel_rfl) (hd:=by kernel_rfl) ..) (.st (dz ..) (.gd fun hg=>.st (v:=(im [[(uA (((UInt8.ofNat (Int.toNat (gy .u8 (wr .u8 (h)) 128))).toNat:Int)))]] true)) (by rw[et hg]; kernel_rfl) (.bd (g:=fun (y:List UInt8)=>((aX 4 0 y.length false),[bx [(iA d.Kind),(iA d.N),(sA d.S),(im (d.L.map af) false)],bE,bx [(pt 1 0)],aA.dead,aA.row false 1 (y.map c8)])) (bV cO (l:=p) (l2:=[(UInt8.ofNat (Int.toNat (gy .u8 (wr .u8 (h)) 128)))]) (b:=4) rfl (by decide) (aY (f:=c8) ([(UInt8.ofNat (Int.toNat (gy .u8 (wr .u8 (h)) 128)))]:List UInt8) _ _)) fun bm=>.st (gn (hb:=by decide) ..) (.s [bx [(iA d.Kind),(iA d.N),(sA d.S),(im (d.L.map af) false)],bE,bx [(pt 1 0)],aA.dead,aA.row false 1 (bm.map c8)] (.cT (by kernel_rfl) ?_)))))
   exact ih _ _
  exact .ex (x0 _ _ _)
def ku (n:Nat) (p:(List UInt8)) (q:ai) (u:ai) (y:ai) (ab:ai):Nat->Int->(List UInt8)->Option (Int×(List UInt8))
 | 0,_,_=>none
 | m+1,d,h=>bif (decide (128<=d)) then (bif (decide (0<=(gy .u8 (wr .u8 (d)) 128))&&decide ((gy .u8 (wr .u8 (d)) 128)<256)) then ((cQ 1 h ([(UInt8.ofNat (Int.toNat (gy .u8 (wr .u8 (d)) 128)))])).bind fun ad=>ku n p q u y ab m (lA .u64 d 7) ad) else none) else (some ((d,h)))
theorem A4 (cc:q9 C) (ch:kz C) (an:(List UInt8)) (d:ai) (h:ai) (p:ai) (q:ai) {K:(Int×(List UInt8))->Option γ} (x0:∀ (o0:Int) (o1:(List UInt8)) (s4:A),J φ (kx 0 (St.mk [(0,(aX 4 0 o1.length false)),(1,(A.v (.int .u64 o0))),(4,s4)] [bx [(iA d.Kind),(iA d.N),(sA d.S),(im (d.L.map af) false)],bE,bx [(pt 1 0)],bx [(iA h.Kind),(iA h.N),(sA h.S),(im (h.L.map af) false)],aA.row false 1 (o1.map c8),bx [(iA p.Kind),(iA p.N),(sA p.S),(im (p.L.map af) false)],bx [(iA q.Kind),(iA q.N),(sA q.S),(im (q.L.map af) false)]])) kL (K (o0,o1)) some) :
  ∀ (m:Nat) (u:Int) (ab:(List UInt8)),J φ (aH (cx C) (br (cx C) (n+5)) (aI (cx C) (n+5)) (n+5) 93 0 0 7 kx kg kr kp m (St.mk [(0,(aX 4 0 ab.length false)),(1,(A.v (.int .u64 u))),(4,(im (an.map c8) true))] [bx [(iA d.Kind),(iA d.N),(sA d.S),(im (d.L.map af) false)],bE,bx [(pt 1 0)],bx [(iA h.Kind),(iA h.N),(sA h.S),(im (h.L.map af) false)],aA.row false 1 (ab.map c8),bx [(iA p.Kind),(iA p.N),(sA p.S),(im (p.L.map af) false)],bx [(iA q.Kind),(iA q.N),(sA q.S),(im (q.L.map af) false)]])) kL (ku n an d h p q m u ab) K:=by
 intro m
 induction m with
 | zero=>intros; exact .nn
 | succ m ih =>
  intro u ab
  refine .lp (rC ..) ?_
  unfold ku
  refine .st (dB ..) (.aP (fun ca=>?_) (fun ca=>?_))
  ·refine .st (v:=(uA (wr .u8 (u)))) (az (hs:=by kernel_rfl) (hd:=by kernel_rfl) ..) (.st (dz ..) (.gd fun hg=>.st (v:=(im [[(uA (((UInt8.ofNat (Int.toNat (gy .u8 (wr .u8 (u)) 128))).toNat:Int)))]] true)) (by rw[et hg]; kernel_rfl) (.bd (g:=fun (y:List UInt8)=>((aX 4 0 y.length false),[bx [(iA d.Kind),(iA d.N),(sA d.S),(im (d.L.map af) false)],bE,bx [(pt 1 0)],bx [(iA h.Kind),(iA h.N),(sA h.S),(im (h.L.map af) false)],aA.row false 1 (y.map c8),bx [(iA p.Kind),(iA p.N),(sA p.S),(im (p.L.map af) false)],bx [(iA q.Kind),(iA q.N),(sA q.S),(im (q.L.map af) false)]])) (bV cO (l:=ab) (l2:=[(UInt8.ofNat (Int.toNat (gy .u8 (wr .u8 (u)) 128)))]) (b:=4) rfl (by decide) (aY (f:=c8) ([(UInt8.ofNat (Int.toNat (gy .u8 (wr .u8 (u)) 128)))]:List UInt8) _ _)) fun cb=>.st (gn (hb:=by decide) ..) (.s [bx [(iA d.Kind),(iA d.N),(sA d.S),(im (d.L.map af) false)],bE,bx [(pt 1 0)],bx [(iA h.Kind),(iA h.N),(sA h.S),(im (h.L.map af) false)],aA.row false 1 (cb.map c8),bx [(iA p.Kind),(iA p.N),(sA p.S),(im (p.L.map af) false)],bx [(iA q.Kind),(iA q.N),(sA q.S),(im (q.L.map af) false)]] (.cT (by kernel_rfl) ?_)))))
   exact ih _ _
  exact .ex (x0 _ _ _)
def kv (n:Nat) (p:(List UInt8)) (q:ai) (u:ai) (y:ai):Nat->Int->(List UInt8)->Option (Int×(List UInt8))
 | 0,_,_=>none
 | m+1,d,h=>bif (decide (128<=d)) then (bif (decide (0<=(gy .u8 (wr .u8 (d)) 128))&&decide ((gy .u8 (wr .u8 (d)) 128)<256)) then ((cQ 1 h ([(UInt8.ofNat (Int.toNat (gy .u8 (wr .u8 (d)) 128)))])).bind fun ab=>kv n p q u y m (lA .u64 d 7) ab) else none) else (some ((d,h)))
theorem A5 (cb:q9 C) (cc:kz C) (ad:(List UInt8)) (d:ai) (h:ai) (p:ai) {K:(Int×(List UInt8))->Option γ} (x0:∀ (o0:Int) (o1:(List UInt8)) (s4:A),J φ (kx 0 (St.mk [(0,(aX 4 0 o1.length false)),(1,(A.v (.int .u64 o0))),(4,s4)] [bx [(iA d.Kind),(iA d.N),(sA d.S),(im (d.L.map af) false)],bE,bx [(pt 1 0)],bx [(iA h.Kind),(iA h.N),(sA h.S),(im (h.L.map af) false)],aA.row false 1 (o1.map c8),bx [(iA p.Kind),(iA p.N),(sA p.S),(im (p.L.map af) false)],aA.dead])) kL (K (o0,o1)) some) :
  ∀ (m:Nat) (q:Int) (u:(List UInt8)),J φ (aH (cx C) (br (cx C) (n+5)) (aI (cx C) (n+5)) (n+5) 93 0 0 7 kx kg kr kp m (St.mk [(0,(aX 4 0 u.length false)),(1,(A.v (.int .u64 q))),(4,(im (ad.map c8) true))] [bx [(iA d.Kind),(iA d.N),(sA d.S),(im (d.L.map af) false)],bE,bx [(pt 1 0)],bx [(iA h.Kind),(iA h.N),(sA h.S),(im (h.L.map af) false)],aA.row false 1 (u.map c8),bx [(iA p.Kind),(iA p.N),(sA p.S),(im (p.L.map af) false)],aA.dead])) kL (kv n ad d h p m q u) K:=by
 intro m
 induction m with
 | zero=>intros; exact .nn
 | succ m ih =>
  intro q u
  refine .lp (rC ..) ?_
  unfold kv
  refine .st (dB ..) (.aP (fun bs=>?_) (fun bs=>?_))
  ·refine .st (v:=(uA (wr .u8 (q)))) (az (hs:=by kernel_rfl) (hd:=by kernel_rfl) ..) (.st (dz ..) (.gd fun hg=>.st (v:=(im [[(uA (((UInt8.ofNat (Int.toNat (gy .u8 (wr .u8 (q)) 128))).toNat:Int)))]] true)) (by rw[et hg]; kernel_rfl) (.bd (g:=fun (y:List UInt8)=>((aX 4 0 y.length false),[bx [(iA d.Kind),(iA d.N),(sA d.S),(im (d.L.map af) false)],bE,bx [(pt 1 0)],bx [(iA h.Kind),(iA h.N),(sA h.S),(im (h.L.map af) false)],aA.row false 1 (y.map c8),bx [(iA p.Kind),(iA p.N),(sA p.S),(im (p.L.map af) false)],aA.dead])) (bV cO (l:=u) (l2:=[(UInt8.ofNat (Int.toNat (gy .u8 (wr .u8 (q)) 128)))]) (b:=4) rfl (by decide) (aY (f:=c8) ([(UInt8.ofNat (Int.toNat (gy .u8 (wr .u8 (q)) 128)))]:List UInt8) _ _)) fun ca=>.st (gn (hb:=by decide) ..) (.s [bx [(iA d.Kind),(iA d.N),(sA d.S),(im (d.L.map af) false)],bE,bx [(pt 1 0)],bx [(iA h.Kind),(iA h.N),(sA h.S),(im (h.L.map af) false)],aA.row false 1 (ca.map c8),bx [(iA p.Kind),(iA p.N),(sA p.S),(im (p.L.map af) false)],aA.dead] (.cT (by kernel_rfl) ?_)))))
   exact ih _ _
  exact .ex (x0 _ _ _)
def gk (n:Nat) (ad:(List UInt8)) (u:(List ai)) (y:Int) (h:ai) (p:ai):Nat->Int->(List UInt8)->Option ((List UInt8))
 | 0,_,_=>none
 | m+1,q,ab=>bif (decide (q<y)) then ((bw u q).bind fun d=>bif decide (d.Kind=0) then (none) else bif decide (d.Kind=1) then ((cQ 1 ab ([(1:UInt8)])).bind fun bm=>(G6 d.N).bind fun bs=>(ku n ([]) h p d d (n+5) bs bm).bind fun ca=>match ca with | (an,cb)=>bif (decide (0<=(wr .u8 (an)))&&decide ((wr .u8 (an))<256)) then ((cQ 1 cb ([(UInt8.ofNat (Int.toNat (wr .u8 (an))))])).bind fun cc=>gk n ad u y h p m (wr .i64 (q+1)) cc) else none) else bif decide (d.Kind=2) then ((cQ 1 ab ([(2:UInt8)])).bind fun ch=>(kv n ([]) h p d (n+5) (wr .u64 ((d.S.size:Int))) ch).bind fun ck=>match ck with | (ao,cm)=>bif (decide (0<=(wr .u8 (ao)))&&decide ((wr .u8 (ao))<256)) then ((cQ 1 cm ([(UInt8.ofNat (Int.toNat (wr .u8 (ao))))])).bind fun cv=>(cQ 1 cv (kE d.S)).bind fun cy=>gk n ad u y h p m (wr .i64 (q+1)) cy) else none) else bif decide (d.Kind=3) then ((Ef (n+7) h p ab d).bind fun dd=>gk n ad u y h p m (wr .i64 (q+1)) dd) else none) else (some ab)
theorem Cz (ch:q9 C) (ad:kz C) (u:(List UInt8)) (ab:(List ai)) (ck:Int) (h:ai) (p:ai) {K:((List UInt8))->Option γ} (x0:∀ (o0:(List UInt8)) (s2:A) (s5:A) (cy:A) (dd:A) (ds:A),J φ (kx 0 (St.mk [(0,(aX 4 0 o0.length false)),(2,s2),(5,s5),(17,cy),(18,dd),(19,ds)] [(bt h),bE,bx [(pt 1 0)],(bt p),aA.row false 1 (o0.map c8)])) kL (K o0) some) :
  ∀ (m:Nat) (bs:Int) (q:(List UInt8)),J φ (aH (cx C) (ec C n 7) (ey C n 7) (n+7) 96 0 0 5 kx kg kr kp m (St.mk [(0,(aX 4 0 q.length false)),(2,(pt 2 0)),(5,(im (u.map c8) true)),(17,(im (ab.map af) false)),(18,(iA ck)),(19,(iA bs))] [(bt h),bE,bx [(pt 1 0)],(bt p),aA.row false 1 (q.map c8)])) kL (gk n u ab ck h p m bs q) K:=by
 intro m
 induction m with
 | zero=>intros; exact .nn
 | succ m ih =>
  intro bs q
  refine .lp (Gr ..) ?_
  unfold gk
  refine .st (aS ..) (.aP (fun ea=>?_) (fun ea=>?_))
  ·refine .bd ((fJ (e:=98) (es:=4)).trans (eR _)) fun d=>.s (ag [(iA d.Kind),(iA d.N),(sA d.S),(im (d.L.map af) false)]) (.sq (pt 5 0) (.s [(bt h),bE,bx [(pt 1 0)],(bt p),aA.row false 1 (q.map c8),(fP d)] (.s (pt 1 0) (.s (pt 5 0) (.s (iA d.Kind) (.s (pt 1 0) (.sp (fun eg=>?_) (fun _=>?_))))))))
   ·exact .st (v:=(pt 1 0)) (by rw[of_decide_eq_true eg]; kernel_rfl) (.s (pt 1 0) (.s (A.v Value.nilFunc) (.s (ag [(iA d.Kind),(iA d.N),(sA d.S),(im (d.L.map af) false)]) (.nn))))
   refine .sp (fun ei=>?_) (fun _=>?_)
   ·refine .st (v:=(pt 1 1)) (by rw[of_decide_eq_true ei]; kernel_rfl) (.s (pt 1 1) (.s (xM 92 [] []) (.s (ag [(iA d.Kind),(iA d.N),(sA d.S),(im (d.L.map af) false)]) (.dC (by kernel_rfl) (by kernel_rfl) (.cl ((aK DF).trans (M6 C (br (cx C) (n+6)) (aI (cx C) (n+6)) (n+6) _ _ _ _)) (.s ((pt 6 0),[(bt h),bE,bx [(pt 1 0)],(bt p),aA.row false 1 (q.map c8),(fP d),(fP d)]) (.s (im [[(uA 1)]] true) (.bd (g:=fun (y:List UInt8)=>((aX 4 0 y.length false),[(bt h),bE,bx [(pt 1 0)],(bt p),aA.row false 1 (y.map c8),(fP d),(fP d)])) (bV cO (l:=q) (l2:=[(1:UInt8)]) (b:=4) rfl (by decide) (aY (f:=c8) ([(1:UInt8)]:List UInt8) _ _)) fun ej=>.cT (by kernel_rfl) (.s (pt 6 1) (.cT (by kernel_rfl) (.s (iA d.N) (.bd (ad d.N) fun fs=>.cl ((aK qD).trans (Gq C (br (cx C) (n+5)) (aI (cx C) (n+5)) (n+5) _ _ _ _)) (.as (A4 C n _ _ _ _ ch ad ([]) h p d d ?_ _ fs ej))))))))))))))
    ·intro an fv hj
     refine .un rfl (.cT (by kernel_rfl) (.st (v:=(uA (wr .u8 (an)))) (az (hs:=by kernel_rfl) (hd:=by kernel_rfl) ..) (.gd fun hg=>.st (v:=(im [[(uA (((UInt8.ofNat (Int.toNat (wr .u8 (an)))).toNat:Int)))]] true)) (by rw[et hg]; kernel_rfl) (.bd (g:=fun (y:List UInt8)=>((aX 4 0 y.length false),[(bt h),bE,bx [(pt 1 0)],(bt p),aA.row false 1 (y.map c8),(fP d),(fP d)])) (bV cO (l:=fv) (l2:=[(UInt8.ofNat (Int.toNat (wr .u8 (an))))]) (b:=4) rfl (by decide) (aY (f:=c8) ([(UInt8.ofNat (Int.toNat (wr .u8 (an))))]:List UInt8) _ _)) fun ca=>.cr (.ok (.cr (.ok (.st (aD ..) (.st (v:=[(bt h),bE,bx [(pt 1 0)],(bt p),aA.row false 1 (ca.map c8)]) ((by kernel_rfl:_=(bif ((((au 5 (h.L.map af))&&true))&&((((au 5 (p.L.map af))&&true))&&((au 5 (ca.map c8))&&true))) then some [(bt h),bE,bx [(pt 1 0)],(bt p),aA.row false 1 (ca.map c8)] else none)).trans (by simp only[iC,iD])) (.cT ((by kernel_rfl:_=(bif au 5 (u.map c8) then (bif au 5 (ab.map af) then true else false) else false)).trans (by simp only[iC,iD])) ?_))))))))))
     exact ih _ _
   refine .sp (fun gf=>?_) (fun _=>?_)
   ·refine .st (v:=(pt 1 2)) (by rw[of_decide_eq_true gf]; kernel_rfl) (.s (pt 1 2) (.s (xM 95 [] []) (.s (ag [(iA d.Kind),(iA d.N),(sA d.S),(im (d.L.map af) false)]) (.dC (by kernel_rfl) (by kernel_rfl) (.cl ((aK DG).trans (M7 C (br (cx C) (n+6)) (aI (cx C) (n+6)) (n+6) _ _ _ _)) (.s ((pt 6 0),[(bt h),bE,bx [(pt 1 0)],(bt p),aA.row false 1 (q.map c8),(fP d),(fP d)]) (.s ((A.ip [(iA d.Kind),(iA d.N),(sA d.S),(im (d.L.map af) false)]),[(bt h),bE,bx [(pt 1 0)],(bt p),aA.row false 1 (q.map c8),(fP d),aA.dead]) (.cT (by kernel_rfl) (.s (im [[(uA 2)]] true) (.s (A.ip [(sA d.S),(im (d.L.map af) false)]) (.s (sA d.S) (.s (iA ((d.S.size:Int))) (.st (v:=(A.v (.int .u64 (wr .u64 ((d.S.size:Int)))))) (az (hs:=by kernel_rfl) (hd:=by kernel_rfl) ..) (.s (A.ip [(sA d.S),(im (d.L.map af) false)]) (.s (sA d.S) (.cT (by kernel_rfl) (.bd (g:=fun (y:List UInt8)=>((aX 4 0 y.length false),[(bt h),bE,bx [(pt 1 0)],(bt p),aA.row false 1 (y.map c8),(fP d),aA.dead])) (bV cO (l:=q) (l2:=[(2:UInt8)]) (b:=4) rfl (by decide) (aY (f:=c8) ([(2:UInt8)]:List UInt8) _ _)) fun ha=>.cT (by kernel_rfl) (.cl ((aK qD).trans (Gq C (br (cx C) (n+5)) (aI (cx C) (n+5)) (n+5) _ _ _ _)) (.as (A5 C n _ _ _ _ ch ad ([]) h p d ?_ _ (wr .u64 ((d.S.size:Int))) ha))))))))))))))))))))
    ·intro ao hf hk
     refine .un rfl (.cT (by kernel_rfl) (.st (v:=(uA (wr .u8 (ao)))) (az (hs:=by kernel_rfl) (hd:=by kernel_rfl) ..) (.gd fun hg=>.st (v:=(im [[(uA (((UInt8.ofNat (Int.toNat (wr .u8 (ao)))).toNat:Int)))]] true)) (by rw[et hg]; kernel_rfl) (.bd (g:=fun (y:List UInt8)=>((aX 4 0 y.length false),[(bt h),bE,bx [(pt 1 0)],(bt p),aA.row false 1 (y.map c8),(fP d),aA.dead])) (bV cO (l:=hf) (l2:=[(UInt8.ofNat (Int.toNat (wr .u8 (ao))))]) (b:=4) rfl (by decide) (aY (f:=c8) ([(UInt8.ofNat (Int.toNat (wr .u8 (ao))))]:List UInt8) _ _)) fun hh=>.cr (.ok (.bd (g:=fun (y:List UInt8)=>((aX 4 0 y.length false),[(bt h),bE,bx [(pt 1 0)],(bt p),aA.row false 1 (y.map c8),(fP d),aA.dead])) (bV uQ (l:=hh) (l2:=kE d.S) (b:=4) rfl (by decide) (qS ..)) fun cb=>.cr (.ok (.st (aD ..) (.st (v:=[(bt h),bE,bx [(pt 1 0)],(bt p),aA.row false 1 (cb.map c8)]) ((by kernel_rfl:_=(bif ((((au 5 (h.L.map af))&&true))&&((((au 5 (p.L.map af))&&true))&&((au 5 (cb.map c8))&&true))) then some [(bt h),bE,bx [(pt 1 0)],(bt p),aA.row false 1 (cb.map c8)] else none)).trans (by simp only[iC,iD])) (.cT ((by kernel_rfl:_=(bif au 5 (u.map c8) then (bif au 5 (ab.map af) then true else false) else false)).trans (by simp only[iC,iD])) ?_))))))))))
     exact ih _ _
   refine .sp (fun hi=>?_) (fun _=>?_)
   ·refine .st (v:=(pt 1 3)) (by rw[of_decide_eq_true hi]; kernel_rfl) (.s (pt 1 3) (.s (xM 96 [] [(pt 2 0)]) (.s (ag [(iA d.Kind),(iA d.N),(sA d.S),(im (d.L.map af) false)]) (.dC (by kernel_rfl) (by kernel_rfl) (.bg (fun (t:R) (y:(List UInt8))=>t=(Out.ret (aX 4 0 y.length false),[(bt h),bE,bx [(pt 1 0)],(bt p),aA.row false 1 (y.map c8),(fP d)])) (I5 C ad (n+7) h p q d [(fP d)]) ?_)))))
    rintro _ cc rfl
    refine .ok (.st (aD ..) (.st (v:=[(bt h),bE,bx [(pt 1 0)],(bt p),aA.row false 1 (cc.map c8)]) ((by kernel_rfl:_=(bif ((((au 5 (h.L.map af))&&true))&&((((au 5 (p.L.map af))&&true))&&((au 5 (cc.map c8))&&true))) then some [(bt h),bE,bx [(pt 1 0)],(bt p),aA.row false 1 (cc.map c8)] else none)).trans (by simp only[iC,iD])) (.cT ((by kernel_rfl:_=(bif au 5 (u.map c8) then (bif au 5 (ab.map af) then true else false) else false)).trans (by simp only[iC,iD])) ?_)))
    exact ih _ _
   exact .nn
  exact .ex (x0 _ _ _ _ _ _)
def Lp (n:Nat) (d:ai):Option ((List UInt8)×Int) :=
 (I1 d).bind fun u=>bif (u != 0) then (some (([],u))) else (bif decide (d.Kind=0) then (none) else bif decide (d.Kind=1) then ((cQ 1 ([]) ([(1:UInt8)])).bind fun y=>(G6 d.N).bind fun y6=>(jk n ([]) d d (n+6) y6 y).bind fun BS=>match BS with | (h,ad)=>bif (decide (0<=(wr .u8 (h)))&&decide ((wr .u8 (h))<256)) then ((cQ 1 ad ([(UInt8.ofNat (Int.toNat (wr .u8 (h))))])).bind fun an=>some ((an,0))) else none) else bif decide (d.Kind=2) then ((cQ 1 ([]) ([(2:UInt8)])).bind fun ao=>(kq n ([]) d (n+6) (wr .u64 ((d.S.size:Int))) ao).bind fun HF=>match HF with | (p,bm)=>bif (decide (0<=(wr .u8 (p)))&&decide ((wr .u8 (p))<256)) then ((cQ 1 bm ([(UInt8.ofNat (Int.toNat (wr .u8 (p))))])).bind fun bs=>(cQ 1 bs (kE d.S)).bind fun ca=>some ((ca,0))) else none) else bif decide (d.Kind=3) then ((cQ 1 ([]) ([(3:UInt8)])).bind fun cb=>(jk n ([]) d d (n+6) (wr .u64 ((d.L.length:Int))) cb).bind fun cc=>match cc with | (q,ch)=>bif (decide (0<=(wr .u8 (q)))&&decide ((wr .u8 (q))<256)) then ((cQ 1 ch ([(UInt8.ofNat (Int.toNat (wr .u8 (q))))])).bind fun ck=>(gk n ([]) d.L ((d.L.length:Int)) d d (n+7) 0 ck).bind fun cm=>match cm with | cv=>some ((cv,0))) else none) else none)
theorem QG (C:OT) (n:Nat) (u:q9 C) (ab:kz C) (d:ai):J (fun (o:R) y=>∃ v,o.1=.ret v/\aE o.2 v=(tp [(im (y.1.map c8) false),(iA y.2)])) (av (cx C) (ec C n 8) (ey C n 8) (n+8) 56 [(ag [(iA d.Kind),(iA d.N),(sA d.S),(im (d.L.map af) false)])] [] 0) some (Lp n d) some:=by
 refine .lp (Rn ..) ?_
 unfold Lp
 refine .s ((pt 0 0),[(bN d)]) (.s (ag [(iA d.Kind),(iA d.N),(sA d.S),(im (d.L.map af) false)]) (.bd (g:=fun (y:Int)=>(iA y)) (by show C 76 [snap _ (ag [(iA d.Kind),(iA d.N),(sA d.S),(im (d.L.map af) false)])]=_; simp only[cR,dS]; exact u d) fun y1=>.st (ba ..) (.aP (fun bs=>?_) (fun bs=>?_))))
 ·exact .lv (by show aE _ (tp [(im [] true),(iA y1)])=_; simp only[cR,jL,aE]; first | done | rfl)
 refine .s (pt 0 0) (.s (iA d.Kind) (.s (ag [(iA d.Kind),(iA d.N),(sA d.S),(im (d.L.map af) false)]) (.cT (by kernel_rfl) (.cl ((aK Ke).trans (RE C (ec C n 7) (ey C n 7) (n+7) _ _)) (.s (ag [(A.v Value.nilFunc),(A.v Value.nilFunc),(A.v Value.nilFunc),(A.v Value.nilFunc)]) (.sq (pt 1 0) (.sq (pt 2 0) (.sh (.s (pt 1 0) (.s (pt 1 0) (.s (pt 1 1) (.s (pt 1 1) (.sh (.s (pt 1 0) (.s (pt 1 0) (.s (pt 1 2) (.s (pt 1 2) (.sh (.s (pt 1 0) (.s (pt 1 0) (.s (pt 1 3) (.s (pt 1 3) (.s [(bN d),bE,bx [(pt 1 0)]] ?_)))))))))))))))))))))))
 refine .s (pt 1 0) (.cr (.ok (.s (pt 1 0) (.sp (fun ca=>?_) (fun _=>?_)))))
 ·exact .st (v:=(pt 1 0)) (by rw[of_decide_eq_true ca]; kernel_rfl) (.s (pt 1 0) (.s (A.v Value.nilFunc) (.nn)))
 refine .sp (fun cb=>?_) (fun _=>?_)
 ·refine .st (v:=(pt 1 1)) (by rw[of_decide_eq_true cb]; kernel_rfl) (.s (pt 1 1) (.s (xM 92 [] []) (.dC (by kernel_rfl) (by kernel_rfl) (.cl ((aK DF).trans (M6 C (ec C n 7) (ey C n 7) (n+7) _ _ _ _)) (.s ((pt 3 0),[(bN d),bE,bx [(pt 1 0)],(bN d)]) (.s (im [[(uA 1)]] true) (.bd (g:=fun (y:List UInt8)=>((aX 4 0 y.length false),[(bN d),bE,bx [(pt 1 0)],(bN d),aA.row false 1 (y.map c8)])) (jB cO (l:=[]) (l2:=[(1:UInt8)]) (aY (f:=c8) ([(1:UInt8)]:List UInt8) _ _)) fun y5=>.cT (by kernel_rfl) (.s (pt 3 1) (.cT (by kernel_rfl) (.s (iA d.N) (.bd (ab d.N) fun y6=>.cl ((aK qD).trans (Gq C (br (cx C) (n+6)) (aI (cx C) (n+6)) (n+6) _ _ _ _)) (.as (vW C n _ _ _ _ u ab ([]) d d ?_ _ y6 y5)))))))))))))
  ·intro ad ck ej
   exact .un rfl (.cT (by kernel_rfl) (.st (v:=(uA (wr .u8 (ad)))) (az (hs:=by kernel_rfl) (hd:=by kernel_rfl) ..) (.gd fun hg=>.st (v:=(im [[(uA (((UInt8.ofNat (Int.toNat (wr .u8 (ad)))).toNat:Int)))]] true)) (by rw[et hg]; kernel_rfl) (.bd (g:=fun (y:List UInt8)=>((aX 4 0 y.length false),[(bN d),bE,bx [(pt 1 0)],(bN d),aA.row false 1 (y.map c8)])) (bV cO (l:=ck) (l2:=[(UInt8.ofNat (Int.toNat (wr .u8 (ad))))]) (b:=4) rfl (by decide) (aY (f:=c8) ([(UInt8.ofNat (Int.toNat (wr .u8 (ad))))]:List UInt8) _ _)) fun h=>.cr (.ok (.cr (.ok (.lv (by show aE [(bN d),bE,bx [(pt 1 0)],(bN d),aA.row false 1 (h.map c8)] (tp [(aX 4 0 h.length false),(iA 0)])=_; first | (simp only[cR,dS,aE,aV (H:=[(bN d),bE,bx [(pt 1 0)],(bN d),aA.row false 1 (h.map c8)]) (b:=4) (es:=1) (wr:=false) (l:=h) dc rfl]; done) | (simp only[cR,jL,aE,aV (H:=[(bN d),bE,bx [(pt 1 0)],(bN d),aA.row false 1 (h.map c8)]) (b:=4) (es:=1) (wr:=false) (l:=h) dc rfl]; first | done | rfl))))))))))
 refine .sp (fun cm=>?_) (fun _=>?_)
 ·refine .st (v:=(pt 1 2)) (by rw[of_decide_eq_true cm]; kernel_rfl) (.s (pt 1 2) (.s (xM 95 [] []) (.dC (by kernel_rfl) (by kernel_rfl) (.cl ((aK DG).trans (M7 C (ec C n 7) (ey C n 7) (n+7) _ _ _ _)) (.s ((pt 3 0),[(bN d),bE,bx [(pt 1 0)],(bN d)]) (.s ((A.ip [(iA d.Kind),(iA d.N),(sA d.S),(im (d.L.map af) false)]),[(bN d),bE,bx [(pt 1 0)],aA.dead]) (.cT (by kernel_rfl) (.s (im [[(uA 2)]] true) (.s (A.ip [(sA d.S),(im (d.L.map af) false)]) (.s (sA d.S) (.s (iA ((d.S.size:Int))) (.st (v:=(A.v (.int .u64 (wr .u64 ((d.S.size:Int)))))) (az (hs:=by kernel_rfl) (hd:=by kernel_rfl) ..) (.s (A.ip [(sA d.S),(im (d.L.map af) false)]) (.s (sA d.S) (.cT (by kernel_rfl) (.bd (g:=fun (y:List UInt8)=>((aX 4 0 y.length false),[(bN d),bE,bx [(pt 1 0)],aA.dead,aA.row false 1 (y.map c8)])) (jB cO (l:=[]) (l2:=[(2:UInt8)]) (aY (f:=c8) ([(2:UInt8)]:List UInt8) _ _)) fun cv=>.cT (by kernel_rfl) (.cl ((aK qD).trans (Gq C (br (cx C) (n+6)) (aI (cx C) (n+6)) (n+6) _ _ _ _)) (.as (A3 C n _ _ _ _ u ab ([]) d ?_ _ (wr .u64 ((d.S.size:Int))) cv)))))))))))))))))))
  ·intro an cy fs
   exact .un rfl (.cT (by kernel_rfl) (.st (v:=(uA (wr .u8 (an)))) (az (hs:=by kernel_rfl) (hd:=by kernel_rfl) ..) (.gd fun hg=>.st (v:=(im [[(uA (((UInt8.ofNat (Int.toNat (wr .u8 (an)))).toNat:Int)))]] true)) (by rw[et hg]; kernel_rfl) (.bd (g:=fun (y:List UInt8)=>((aX 4 0 y.length false),[(bN d),bE,bx [(pt 1 0)],aA.dead,aA.row false 1 (y.map c8)])) (bV cO (l:=cy) (l2:=[(UInt8.ofNat (Int.toNat (wr .u8 (an))))]) (b:=4) rfl (by decide) (aY (f:=c8) ([(UInt8.ofNat (Int.toNat (wr .u8 (an))))]:List UInt8) _ _)) fun dd=>.cr (.ok (.bd (g:=fun (y:List UInt8)=>((aX 4 0 y.length false),[(bN d),bE,bx [(pt 1 0)],aA.dead,aA.row false 1 (y.map c8)])) (bV uQ (l:=dd) (l2:=kE d.S) (b:=4) rfl (by decide) (qS ..)) fun p=>.cr (.ok (.lv (by show aE [(bN d),bE,bx [(pt 1 0)],aA.dead,aA.row false 1 (p.map c8)] (tp [(aX 4 0 p.length false),(iA 0)])=_; first | (simp only[cR,dS,aE,aV (H:=[(bN d),bE,bx [(pt 1 0)],aA.dead,aA.row false 1 (p.map c8)]) (b:=4) (es:=1) (wr:=false) (l:=p) dc rfl]; done) | (simp only[cR,jL,aE,aV (H:=[(bN d),bE,bx [(pt 1 0)],aA.dead,aA.row false 1 (p.map c8)]) (b:=4) (es:=1) (wr:=false) (l:=p) dc rfl]; first | done | rfl))))))))))
 refine .sp (fun ds=>?_) (fun _=>?_)
 ·refine .st (v:=(pt 1 3)) (by rw[of_decide_eq_true ds]; kernel_rfl) (.s (pt 1 3) (.s (xM 96 [] [(pt 2 0)]) (.dC (by kernel_rfl) (by kernel_rfl) (.cl ((aK Kh).trans (PI C (ec C n 7) (ey C n 7) (n+7) _ _ _ _ _)) (.s ((pt 3 0),[(bN d),bE,bx [(pt 1 0)],(bN d)]) (.s (im [[(uA 3)]] true) (.bd (g:=fun (y:List UInt8)=>((aX 4 0 y.length false),[(bN d),bE,bx [(pt 1 0)],(bN d),aA.row false 1 (y.map c8)])) (jB cO (l:=[]) (l2:=[(3:UInt8)]) (aY (f:=c8) ([(3:UInt8)]:List UInt8) _ _)) fun ea=>.cT (by kernel_rfl) (.s (pt 3 3) (.cT (by kernel_rfl) (.s (im (d.L.map af) false) (.cT (by kernel_rfl) (.st (dQ (e:=98)) (.cT (by kernel_rfl) (.st (v:=(A.v (.int .u64 (wr .u64 ((d.L.length:Int)))))) (az (hs:=by kernel_rfl) (hd:=by kernel_rfl) ..) (.cl ((aK qD).trans (Gq C (br (cx C) (n+6)) (aI (cx C) (n+6)) (n+6) _ _ _ _)) (.as (vW C n _ _ _ _ u ab ([]) d d ?_ _ (wr .u64 ((d.L.length:Int))) ea)))))))))))))))))
  ·intro ao eg fv
   refine .un rfl (.cT (by kernel_rfl) (.st (v:=(uA (wr .u8 (ao)))) (az (hs:=by kernel_rfl) (hd:=by kernel_rfl) ..) (.gd fun hg=>.st (v:=(im [[(uA (((UInt8.ofNat (Int.toNat (wr .u8 (ao)))).toNat:Int)))]] true)) (by rw[et hg]; kernel_rfl) (.bd (g:=fun (y:List UInt8)=>((aX 4 0 y.length false),[(bN d),bE,bx [(pt 1 0)],(bN d),aA.row false 1 (y.map c8)])) (bV cO (l:=eg) (l2:=[(UInt8.ofNat (Int.toNat (wr .u8 (ao))))]) (b:=4) rfl (by decide) (aY (f:=c8) ([(UInt8.ofNat (Int.toNat (wr .u8 (ao))))]:List UInt8) _ _)) fun ei=>.cr (.ok (.s (pt 3 3) (.s (im (d.L.map af) false) (.st (dQ (e:=98)) (.as (Cz C n _ _ _ _ u ab ([]) d.L ((d.L.length:Int)) d d ?_ _ 0 ei))))))))))
   ·intro q gf ha hf hh hi
    exact .un rfl (.cT (by kernel_rfl) (.cr (.ok (.lv (by show aE [(bN d),bE,bx [(pt 1 0)],(bN d),aA.row false 1 (q.map c8)] (tp [(aX 4 0 q.length false),(iA 0)])=_; first | (simp only[cR,dS,aE,aV (H:=[(bN d),bE,bx [(pt 1 0)],(bN d),aA.row false 1 (q.map c8)]) (b:=4) (es:=1) (wr:=false) (l:=q) dc rfl]; done) | (simp only[cR,jL,aE,aV (H:=[(bN d),bE,bx [(pt 1 0)],(bN d),aA.row false 1 (q.map c8)]) (b:=4) (es:=1) (wr:=false) (l:=q) dc rfl]; first | done | rfl))))))
 exact .nn
def Im (d:ai):Option ((List UInt8)×Int):=Lp aC d
def Ca (C:OT):Prop:=∀ (d:ai),C 56 [(ag [(iA d.Kind),(iA d.N),(sA d.S),(im (d.L.map af) false)])]=(Im d).map fun y=>(tp [(im (y.1.map c8) false),(iA y.2)])
def ji (n:Nat) (v1:(List UInt8)) (v2:(List Int)) (d:Int) (p:Int) (v6:Int) (q:ByteArray):Nat->Int->(List ai)->Option ((List ai))
 | 0,_,_=>none
 | m+1,v4,h=>bif (decide (v4<d)) then ((bw v2 v4).bind fun u=>(cQ 56 h ([(ai.mk 1 u eH ([]))])).bind fun y=>ji n v1 v2 d p v6 q m (wr .i64 (v4+1)) y) else (some h)
theorem Cu (cb:Ca C) (v1:(List UInt8)) (v2:(List Int)) (v3:Int) (h:Int) (v6:Int) (p:ByteArray) {K:((List ai))->Option γ} (x0:∀ (u:(List ai)) (s2:A) (s9:A) (bm:A) (bs:A),J φ (kx 0 (St.mk [(2,s2),(3,(pt 0 0)),(9,s9),(10,bm),(11,bs)] [bx [(iA h),(iA v6),(sA p),(aX 1 0 u.length false)],aA.row false 4 (u.map af)])) kL (K u) some) :
  ∀ (m:Nat) (v4:Int) (d:(List ai)),J φ (aH (cx C) (ec C n 8) (ey C n 8) (n+8) 29 0 0 2 kx kg kr kp m (St.mk [(2,(im (v1.map c8) true)),(3,(pt 0 0)),(9,(im (v2.map (cI .i64)) false)),(10,(iA v3)),(11,(iA v4))] [bx [(iA h),(iA v6),(sA p),(aX 1 0 d.length false)],aA.row false 4 (d.map af)])) kL (ji n v1 v2 v3 h v6 p m v4 d) K:=by
 intro m
 induction m with
 | zero=>intros; exact .nn
 | succ m ih =>
  intro v4 d
  refine .lp (Jt ..) ?_
  unfold ji
  refine .st (aS ..) (.aP (fun ca=>?_) (fun ca=>?_))
  ·refine .bd (fJ (e:=3) (es:=1)) fun q=>.s (iA q) (.s (pt 0 3) (.s (aX 1 0 d.length false) (.s (ag [(iA 1),(iA q),se,(im [] true)]) (.s (im [[(iA 1),(iA q),se,(im [] false)]] true) (.bd (g:=fun (y:List ai)=>((aX 1 0 y.length false),[bx [(iA h),(iA v6),(sA p),(aX 1 0 d.length false)],aA.row false 4 (y.map af)])) (bV iT (l:=d) (l2:=[(ai.mk 1 q eH ([]))]) (b:=1) rfl (by decide) (iU (f:=af) (l:=([(ai.mk 1 q eH ([]))]:List ai)) (by simp only[List.map_cons,List.map_nil,dU]))) fun ad=>.s (pt 0 3) (.sh (.st (aD ..) (.s [bx [(iA h),(iA v6),(sA p),(aX 1 0 ad.length false)],aA.row false 4 (ad.map af)] (.cT (by kernel_rfl) ?_)))))))))
   exact ih _ _
  exact .ex (x0 _ _ _ _ _)
def Lh (n:Nat) (d:(List Int)):Option (List UInt8) :=
 (ji n ([]) d ((d.length:Int)) 3 0 eH (n+8) 0 (([]:List ai))).bind fun zo=>match zo with | h=>(Im ((ai.mk 3 0 eH h))).bind fun p=>some p.1
theorem Qw (C:OT) (n:Nat) (q:Ca C) (h:(List Int)):J (fun (o:R) y=>∃ v,o.1=.ret v/\aE o.2 v=(im (y.map c8) false)) (av (cx C) (ec C n 8) (ey C n 8) (n+8) 29 [(im (h.map (cI .i64)) false)] [] 0) some (Lh n h) some:=by
 refine .lp (LM ..) ?_
 unfold Lh
 refine .s (ag [(iA 3),(iA 0),se,(im [] true)]) (.sq (pt 0 0) (.s [bx [(iA 3),(iA 0),se,(im [] true)]] (.st (dQ (e:=3)) (.as (Cu C n _ _ _ _ q ([]) h ((h.length:Int)) 3 0 eH ?_ _ 0 (([]:List ai)))))))
 ·intro d u ab ad an
  exact .un rfl (.cT (by kernel_rfl) (.s (ag [(iA 3),(iA 0),se,(aX 1 0 d.length false)]) (.bd (g:=fun (y:((List UInt8)×Int))=>(tp [(im (y.1.map c8) false),(iA y.2)])) (by show C 56 [snap [bx [(iA 3),(iA 0),se,(aX 1 0 d.length false)],aA.row false 4 (d.map af)] (ag [(iA 3),(iA 0),se,(aX 1 0 d.length false)])]=_; simp only[cR,dS,di (H:=[bx [(iA 3),(iA 0),se,(aX 1 0 d.length false)],aA.row false 4 (d.map af)]) (b:=1) (es:=4) (l:=d) bM rfl]; exact q ((ai.mk 3 0 eH d))) fun p=>.s (im (p.1.map c8) false) (.s (iA p.2) (.lv (by show aE _ (im (p.1.map c8) false)=_; simp only[cR,jL,aE]; first | done | rfl))))))
def FU (d:(List Int)):Option (List UInt8):=Lh aC d
def B6 (C:OT):Prop:=∀ (d:(List Int)),C 29 [(im (d.map (cI .i64)) false)]=(FU d).map fun y=>(im (y.map c8) false)
def gm (n:Nat) (p:(List Bool)) (v6:Int) (u:aj) (y:aj):Nat->(List ak)->(List ar)->Int->(List (List UInt8))->Option (((List (List UInt8))×Bool×Int×Int×Int×Int×Int)⊕((List (List UInt8))))
 | 0,_,_,_,_=>none
 | m+1,d,v4,h,v10=>bif (decide (h<v6)) then ((bw p h).bind fun q=>(bif q then (some (decide (0<((d.length:Int))))) else (some false)).bind fun bm=>bif bm then ((bw d 0).bind fun ab=>(er d 1 ((d.length:Int))).bind fun ad=>bif q then ((FU ([1,ab.No,ab.Holder,ab.Until])).bind fun bs=>(cQ 24 v10 ([bs])).bind fun ca=>gm n p v6 u y m ad v4 (wr .i64 (h+1)) ca) else ((FU ([2,0,0])).bind fun cb=>(cQ 24 v10 ([cb])).bind fun cc=>gm n p v6 u y m ad v4 (wr .i64 (h+1)) cc)) else ((bif (!q) then (some (decide (0<((v4.length:Int))))) else (some false)).bind fun ch=>bif ch then ((bw v4 0).bind fun an=>(er v4 1 ((v4.length:Int))).bind fun ao=>bif q then ((FU ([1,0,0,0])).bind fun ck=>(cQ 24 v10 ([ck])).bind fun cm=>gm n p v6 u y m d ao (wr .i64 (h+1)) cm) else ((FU ([2,an.Bar,an.Program])).bind fun cv=>(cQ 24 v10 ([cv])).bind fun cy=>gm n p v6 u y m d ao (wr .i64 (h+1)) cy)) else (some ((Sum.inl ((v10,q,0,0,0,0,0))))))) else (some ((Sum.inr v10)))
theorem Ey (ik:q8 C) (cb:B6 C) (v5:(List Bool)) (v6:Int) (d:aj) (h:aj) {K:(((List (List UInt8))×Bool×Int×Int×Int×Int×Int)⊕((List (List UInt8))))->Option γ} (x0:∀ (o0:(List (List UInt8))) (o1:Bool) (o2:Int) (o3:Int) (o4:Int) (o5:Int) (o6:Int) (s0:A) (s3:A) (s4:A) (cm:A) (cv:A) (cy:A),J φ (kr (St.mk [(0,s0),(3,s3),(4,s4),(13,cm),(14,cv),(15,cy)] [bx (aa d),bx [(aX 3 0 o0.length false)],bx (aa h),aA.row false 1 (List.map (cL c8) o0),aA.rng dv.ready,bx [(bA o1),(iA o2),(iA o3),(iA o4),(iA o5),(iA o6)]])) kL (K (Sum.inl ((o0,o1,o2,o3,o4,o5,o6)))) some) (x1:∀ (o0:(List (List UInt8))) (s0:A) (s3:A) (s4:A) (cm:A) (cv:A) (cy:A),J φ (kx 0 (St.mk [(0,s0),(3,s3),(4,s4),(13,cm),(14,cv),(15,cy)] [bx (aa d),bx [(aX 3 0 o0.length false)],bx (aa h),aA.row false 1 (List.map (cL c8) o0),aA.rng dv.ready])) kL (K (Sum.inr o0)) some) :
  ∀ (m:Nat) (v3:(List ak)) (v4:(List ar)) (v7:Int) (v10:(List (List UInt8))),J φ (aH (cx C) (aI (cx C) (n+7) (sZ 124 (br (cx C) (n+8)) 4 (nw (cx C) (ec C n 8) (ey C n 8) (n+8) 9 0 0 4 [(2,(pt 1 0))]))) (aI (cx C) (n+7)) (n+7) 55 0 0 5 kx kg kr kp m (St.mk [(0,(A.yld 4)),(3,(im (v3.map ae) false)),(4,(im (v4.map ah) false)),(13,(im (v5.map cB) false)),(14,(iA v6)),(15,(iA v7))] [bx (aa d),bx [(aX 3 0 v10.length false)],bx (aa h),aA.row false 1 (List.map (cL c8) v10),aA.rng dv.ready])) kL (gm n v5 v6 d h m v3 v4 v7 v10) K:=by
 intro m
 induction m with
 | zero=>intros; exact .nn
 | succ m ih =>
  intro v3 v4 v7 v10
  refine .lp (Gp ..) ?_
  unfold gm
  refine .st (aS ..) (.aP (fun hr=>?_) (fun hr=>?_))
  ·refine .bd (fJ (e:=4) (es:=1)) fun p=>.s (bA p) (.s (ag [(bA p),(iA 0),(iA 0),(iA 0),(iA 0),(iA 0)]) (.sq (pt 5 0) (.s [bx (aa d),bx [(aX 3 0 v10.length false)],bx (aa h),aA.row false 1 (List.map (cL c8) v10),aA.rng dv.ready,bx [(bA p),(iA 0),(iA 0),(iA 0),(iA 0),(iA 0)]] (.bg (fun t (y:Bool)=>∃ hd hf hg:A,t=[(bA y),hd,hf,hg]) ?_ ?_))))
   ·refine .dg (fun hs=>?_) (fun hs=>?_)
    ·exact .st (dQ (e:=59)) (.st (bQ ..) (.lg ⟨_,_,_,rfl⟩))
    exact .lg ⟨_,_,_,rfl⟩
   rintro _ js ⟨hd,hf,hg,rfl⟩
   refine .u4 (.aP (fun ht=>?_) (fun ht=>?_))
   ·refine .bd (fJ (e:=59) (es:=3)) fun q=>.s (ag (ae q)) (.bd (eS (e:=59) (es:=3) (f:=ae) (l:=v3) (a:=1) (b:=(v3.length:Int)) (by kernel_rfl) (by kernel_rfl) (fun _=>rfl) (.inr ⟨_,rfl⟩) (.inl ⟨rfl,rfl⟩)) fun hh=>.s (pt 5 1) (.cT (by kernel_rfl) (.s [bx (aa d),bx [(aX 3 0 v10.length false)],bx (aa h),aA.row false 1 (List.map (cL c8) v10),aA.rng dv.ready,bx ([(bA p)]++ae q++[(iA 0),(iA 0)])] (.s (ag ([(bA p)]++ae q++[(iA 0),(iA 0)])) (.dY rfl (.cl (yq.trans (qY.trans (Gs C (ec C n 8) (ey C n 8) (n+8) _ _ _ _ _ _ _))) (.cT (by kernel_rfl) (.lp (nr rfl) (.sq (pt 6 0) (.s [bx (aa d),bx [(aX 3 0 v10.length false)],bx (aa h),aA.row false 1 (List.map (cL c8) v10),aA.rng dv.ready,bx ([(bA p)]++ae q++[(iA 0),(iA 0)]),bx ([(bA p)]++ae q++[(iA 0),(iA 0)])] (.lp (nr rfl) (.s (pt 6 0) (.s (bA p) (.aP (fun hv=>?_) (fun hv=>?_)))))))))))))))
    ·refine .s (aX 3 0 v10.length false) (.s (pt 6 1) (.s (pt 6 1) (.s (iA q.No) (.s (pt 6 1) (.s (pt 6 2) (.s (iA q.Holder) (.s (pt 6 1) (.s (pt 6 3) (.s (iA q.Until) (.s (im [[(iA 1)],[(iA q.No)],[(iA q.Holder)],[(iA q.Until)]] true) (.bd (g:=fun (y:(List UInt8))=>(im (y.map c8) false)) (by show C 29 [snap _ (im [[(iA 1)],[(iA q.No)],[(iA q.Holder)],[(iA q.Until)]] true)]=_; simp only[cR,dS,di (H:=[bx (aa d),bx [(aX 3 0 v10.length false)],bx (aa h),aA.row false 1 (List.map (cL c8) v10),aA.rng dv.busy,bx ([(bA p)]++ae q++[(iA 0),(iA 0)]),bx ([(bA p)]++ae q++[(iA 0),(iA 0)])]) (b:=3) (es:=1) (l:=v10) (eN dc) rfl]; exact cb ([1,q.No,q.Holder,q.Until])) fun ds=>.s (im [[(im (ds.map c8) false)]] true) (.bd (g:=fun (y:List (List UInt8))=>((aX 3 0 y.length false),[bx (aa d),bx [(aX 3 0 v10.length false)],bx (aa h),aA.row false 1 (List.map (cL c8) y),aA.rng dv.busy,bx ([(bA p)]++ae q++[(iA 0),(iA 0)]),bx ([(bA p)]++ae q++[(iA 0),(iA 0)])])) (bV nE (l:=v10) (l2:=[ds]) (b:=3) rfl (by decide) (aY (f:=(cL c8)) ([ds]:List (List UInt8)) _ _)) fun an=>.s [bx (aa d),bx [(aX 3 0 an.length false)],bx (aa h),aA.row false 1 (List.map (cL c8) an),aA.rng dv.busy,bx ([(bA p)]++ae q++[(iA 0),(iA 0)]),bx ([(bA p)]++ae q++[(iA 0),(iA 0)])] (.lp (mQ rfl) (.cr (.ok (.s (bA false) (.BP (.st (aD ..) (.st (v:=[bx (aa d),bx [(aX 3 0 an.length false)],bx (aa h),aA.row false 1 (List.map (cL c8) an),aA.rng dv.ready]) ((by kernel_rfl:_=(bif ((((au 5 (d.Leases.map ae))&&((au 5 (d.Calls.map ah))&&((au 5 (d.Order.map cB))&&true))))&&((((au 5 (h.Leases.map ae))&&((au 5 (h.Calls.map ah))&&((au 5 (h.Order.map cB))&&true))))&&((au 5 (List.map (cL c8) an))&&true))) then some [bx (aa d),bx [(aX 3 0 an.length false)],bx (aa h),aA.row false 1 (List.map (cL c8) an),aA.rng dv.ready] else none)).trans (by simp only[iC,iD])) ?_)))))))))))))))))))
     refine .cT ((by kernel_rfl:_=(bif au 5 (hh.map ae) then (bif au 5 (v4.map ah) then (bif au 5 (v5.map cB) then true else false) else false) else false)).trans (by simp only[iC,iD])) ?_
     exact ih _ _ _ _
    refine .s (aX 3 0 v10.length false) (.s (pt 6 4) (.s (pt 6 4) (.s (iA 0) (.s (pt 6 4) (.s (pt 6 5) (.s (iA 0) (.s (im [[(iA 2)],[(iA 0)],[(iA 0)]] true) (.bd (g:=fun (y:(List UInt8))=>(im (y.map c8) false)) (by show C 29 [snap _ (im [[(iA 2)],[(iA 0)],[(iA 0)]] true)]=_; simp only[cR,dS,di (H:=[bx (aa d),bx [(aX 3 0 v10.length false)],bx (aa h),aA.row false 1 (List.map (cL c8) v10),aA.rng dv.busy,bx ([(bA p)]++ae q++[(iA 0),(iA 0)]),bx ([(bA p)]++ae q++[(iA 0),(iA 0)])]) (b:=3) (es:=1) (l:=v10) (eN dc) rfl]; exact cb ([2,0,0])) fun ea=>.s (im [[(im (ea.map c8) false)]] true) (.bd (g:=fun (y:List (List UInt8))=>((aX 3 0 y.length false),[bx (aa d),bx [(aX 3 0 v10.length false)],bx (aa h),aA.row false 1 (List.map (cL c8) y),aA.rng dv.busy,bx ([(bA p)]++ae q++[(iA 0),(iA 0)]),bx ([(bA p)]++ae q++[(iA 0),(iA 0)])])) (bV nE (l:=v10) (l2:=[ea]) (b:=3) rfl (by decide) (aY (f:=(cL c8)) ([ea]:List (List UInt8)) _ _)) fun ao=>.s [bx (aa d),bx [(aX 3 0 ao.length false)],bx (aa h),aA.row false 1 (List.map (cL c8) ao),aA.rng dv.busy,bx ([(bA p)]++ae q++[(iA 0),(iA 0)]),bx ([(bA p)]++ae q++[(iA 0),(iA 0)])] (.lp (mQ rfl) (.cr (.ok (.s (bA false) (.BP (.st (aD ..) (.st (v:=[bx (aa d),bx [(aX 3 0 ao.length false)],bx (aa h),aA.row false 1 (List.map (cL c8) ao),aA.rng dv.ready]) ((by kernel_rfl:_=(bif ((((au 5 (d.Leases.map ae))&&((au 5 (d.Calls.map ah))&&((au 5 (d.Order.map cB))&&true))))&&((((au 5 (h.Leases.map ae))&&((au 5 (h.Calls.map ah))&&((au 5 (h.Order.map cB))&&true))))&&((au 5 (List.map (cL c8) ao))&&true))) then some [bx (aa d),bx [(aX 3 0 ao.length false)],bx (aa h),aA.row false 1 (List.map (cL c8) ao),aA.rng dv.ready] else none)).trans (by simp only[iC,iD])) ?_))))))))))))))))
    refine .cT ((by kernel_rfl:_=(bif au 5 (hh.map ae) then (bif au 5 (v4.map ah) then (bif au 5 (v5.map cB) then true else false) else false) else false)).trans (by simp only[iC,iD])) ?_
    exact ih _ _ _ _
   refine .s (bA (!p)) (.bg (fun t (y:Bool)=>∃ hi hj hk:A,t=[(bA y),hi,hj,hk]) ?_ ?_)
   ·refine .dg (fun hx=>?_) (fun hx=>?_)
    ·exact .st (dQ (e:=62)) (.st (bQ ..) (.lg ⟨_,_,_,rfl⟩))
    exact .lg ⟨_,_,_,rfl⟩
   rintro _ kc ⟨hi,hj,hk,rfl⟩
   refine .u4 (.aP (fun hy=>?_) (fun hy=>?_))
   ·refine .bd (fJ (e:=62) (es:=2)) fun u=>.s (ag [(iA u.Bar),(iA u.Program)]) (.bd (eS (e:=62) (es:=2) (f:=ah) (l:=v4) (a:=1) (b:=(v4.length:Int)) (by kernel_rfl) (by kernel_rfl) (fun _=>rfl) (.inr ⟨_,rfl⟩) (.inl ⟨rfl,rfl⟩)) fun ho=>.s (pt 5 4) (.cT (by kernel_rfl) (.s [bx (aa d),bx [(aX 3 0 v10.length false)],bx (aa h),aA.row false 1 (List.map (cL c8) v10),aA.rng dv.ready,(eh p u)] (.s (ag [(bA p),(iA 0),(iA 0),(iA 0),(iA u.Bar),(iA u.Program)]) (.dY rfl (.cl (yq.trans (qY.trans (Gs C (ec C n 8) (ey C n 8) (n+8) _ _ _ _ _ _ _))) (.cT (by kernel_rfl) (.lp (nr rfl) (.sq (pt 6 0) (.s [bx (aa d),bx [(aX 3 0 v10.length false)],bx (aa h),aA.row false 1 (List.map (cL c8) v10),aA.rng dv.ready,(eh p u),(eh p u)] (.lp (nr rfl) (.s (pt 6 0) (.s (bA p) (.aP (fun ie=>?_) (fun ie=>?_)))))))))))))))
    ·refine .s (aX 3 0 v10.length false) (.s (pt 6 1) (.s (pt 6 1) (.s (iA 0) (.s (pt 6 1) (.s (pt 6 2) (.s (iA 0) (.s (pt 6 1) (.s (pt 6 3) (.s (iA 0) (.s (im [[(iA 1)],[(iA 0)],[(iA 0)],[(iA 0)]] true) (.bd (g:=fun (y:(List UInt8))=>(im (y.map c8) false)) (by show C 29 [snap _ (im [[(iA 1)],[(iA 0)],[(iA 0)],[(iA 0)]] true)]=_; simp only[cR,dS,di (H:=[bx (aa d),bx [(aX 3 0 v10.length false)],bx (aa h),aA.row false 1 (List.map (cL c8) v10),aA.rng dv.busy,(eh p u),(eh p u)]) (b:=3) (es:=1) (l:=v10) (eN dc) rfl]; exact cb ([1,0,0,0])) fun eg=>.s (im [[(im (eg.map c8) false)]] true) (.bd (g:=fun (y:List (List UInt8))=>((aX 3 0 y.length false),[bx (aa d),bx [(aX 3 0 v10.length false)],bx (aa h),aA.row false 1 (List.map (cL c8) y),aA.rng dv.busy,(eh p u),(eh p u)])) (bV nE (l:=v10) (l2:=[eg]) (b:=3) rfl (by decide) (aY (f:=(cL c8)) ([eg]:List (List UInt8)) _ _)) fun bm=>.s [bx (aa d),bx [(aX 3 0 bm.length false)],bx (aa h),aA.row false 1 (List.map (cL c8) bm),aA.rng dv.busy,(eh p u),(eh p u)] (.lp (mQ rfl) (.cr (.ok (.s (bA false) (.BP (.st (aD ..) (.st (v:=[bx (aa d),bx [(aX 3 0 bm.length false)],bx (aa h),aA.row false 1 (List.map (cL c8) bm),aA.rng dv.ready]) ((by kernel_rfl:_=(bif ((((au 5 (d.Leases.map ae))&&((au 5 (d.Calls.map ah))&&((au 5 (d.Order.map cB))&&true))))&&((((au 5 (h.Leases.map ae))&&((au 5 (h.Calls.map ah))&&((au 5 (h.Order.map cB))&&true))))&&((au 5 (List.map (cL c8) bm))&&true))) then some [bx (aa d),bx [(aX 3 0 bm.length false)],bx (aa h),aA.row false 1 (List.map (cL c8) bm),aA.rng dv.ready] else none)).trans (by simp only[iC,iD])) (.cT ((by kernel_rfl:_=(bif au 5 (v3.map ae) then (bif au 5 (ho.map ah) then (bif au 5 (v5.map cB) then true else false) else false) else false)).trans (by simp only[iC,iD])) ?_))))))))))))))))))))
     exact ih _ _ _ _
    refine .s (aX 3 0 v10.length false) (.s (pt 6 4) (.s (pt 6 4) (.s (iA u.Bar) (.s (pt 6 4) (.s (pt 6 5) (.s (iA u.Program) (.s (im [[(iA 2)],[(iA u.Bar)],[(iA u.Program)]] true) (.bd (g:=fun (y:(List UInt8))=>(im (y.map c8) false)) (by show C 29 [snap _ (im [[(iA 2)],[(iA u.Bar)],[(iA u.Program)]] true)]=_; simp only[cR,dS,di (H:=[bx (aa d),bx [(aX 3 0 v10.length false)],bx (aa h),aA.row false 1 (List.map (cL c8) v10),aA.rng dv.busy,(eh p u),(eh p u)]) (b:=3) (es:=1) (l:=v10) (eN dc) rfl]; exact cb ([2,u.Bar,u.Program])) fun ei=>.s (im [[(im (ei.map c8) false)]] true) (.bd (g:=fun (y:List (List UInt8))=>((aX 3 0 y.length false),[bx (aa d),bx [(aX 3 0 v10.length false)],bx (aa h),aA.row false 1 (List.map (cL c8) y),aA.rng dv.busy,(eh p u),(eh p u)])) (bV nE (l:=v10) (l2:=[ei]) (b:=3) rfl (by decide) (aY (f:=(cL c8)) ([ei]:List (List UInt8)) _ _)) fun bs=>.s [bx (aa d),bx [(aX 3 0 bs.length false)],bx (aa h),aA.row false 1 (List.map (cL c8) bs),aA.rng dv.busy,(eh p u),(eh p u)] (.lp (mQ rfl) (.cr (.ok (.s (bA false) (.BP (.st (aD ..) (.st (v:=[bx (aa d),bx [(aX 3 0 bs.length false)],bx (aa h),aA.row false 1 (List.map (cL c8) bs),aA.rng dv.ready]) ((by kernel_rfl:_=(bif ((((au 5 (d.Leases.map ae))&&((au 5 (d.Calls.map ah))&&((au 5 (d.Order.map cB))&&true))))&&((((au 5 (h.Leases.map ae))&&((au 5 (h.Calls.map ah))&&((au 5 (h.Order.map cB))&&true))))&&((au 5 (List.map (cL c8) bs))&&true))) then some [bx (aa d),bx [(aX 3 0 bs.length false)],bx (aa h),aA.row false 1 (List.map (cL c8) bs),aA.rng dv.ready] else none)).trans (by simp only[iC,iD])) (.cT ((by kernel_rfl:_=(bif au 5 (v3.map ae) then (bif au 5 (ho.map ah) then (bif au 5 (v5.map cB) then true else false) else false) else false)).trans (by simp only[iC,iD])) ?_)))))))))))))))))
    exact ih _ _ _ _
   exact .ex (x0 _ _ _ _ _ _ _ _ _ _ _ _ _)
  exact .ex (x1 _ _ _ _ _ _ _)
def F9 (n:Nat) (d:aj):Option ((List (List UInt8))×Int) :=
 (Eu d).bind fun h=>bif (h != 0) then (some (([],h))) else ((gm n d.Order ((d.Order.length:Int)) d d (n+7) d.Leases d.Calls 0 (([]:List (List UInt8)))).bind fun p=>match p with | (Sum.inl ((q,y,ab,ad,an,ao,bm)))=>some ((q,0)) | (Sum.inr u)=>some ((u,0)))
theorem T9 (C:OT) (n:Nat) (bm:q8 C) (bs:B6 C) (d:aj):J (fun (o:R) y=>∃ v,o.1=.ret v/\aE o.2 v=(tp [(im (List.map (cL c8) y.1) false),(iA y.2)])) (av (cx C) (ec C n 8) (ey C n 8) (n+8) 9 [(ag (aa d))] [] 0) some (F9 n d) some:=by
 refine .lp (e9 ..) ?_
 unfold F9
 refine .s ((pt 0 0),[bx (aa d)]) (.s ((pt 1 0),[bx (aa d),bx [(im [] true)]]) (.s (ag (aa d)) (.bd (g:=fun (y:Int)=>(iA y)) (by show C 20 [snap _ (ag (aa d))]=_; simp only[cR,dS]; exact bm d) fun y1=>.st (ba ..) (.aP (fun cb=>?_) (fun cb=>?_)))))
 ·exact .s [bx (aa d),bx [(im [] true)]] (.s (im [] true) (.lv (by show aE _ (tp [(im [] true),(iA y1)])=_; simp only[cR,jL,aE]; first | done | rfl)))
 refine .s (ag (aa d)) (.cl ((aK GB).trans (PD C (ec C n 7) (ey C n 7) (n+7) _ _ _)) (.s ((pt 2 0),[bx (aa d),bx [(im [] true)],bx (aa d)]) (.cr (.ok (.s (55,[(pt 2 0)]) (.cT (by kernel_rfl) (.cl ((oy GF).trans (PG C (aI (cx C) (n+7) (sZ 124 (br (cx C) (n+8)) 4 (nw (cx C) (ec C n 8) (ey C n 8) (n+8) 9 0 0 4 [(2,(pt 1 0))]))) (aI (cx C) (n+7)) (n+7) _ _ _ _)) (.s (pt 2 1) (.s (im (d.Leases.map ae) false) (.s (pt 2 2) (.s (im (d.Calls.map ah) false) (.s (pt 2 3) (.s (im (d.Order.map cB) false) (.st (dQ (e:=4)) (.as (Ey C n _ _ _ _ bm bs d.Order ((d.Order.length:Int)) d d ?_ ?_ _ d.Leases d.Calls 0 (([]:List (List UInt8)))))))))))))))))))
 ·intro h q u ab ad an ao cc ch ck cm cv cy
  exact .un rfl (.cr (.ok (.lp (FM rfl) (.s (aX 3 0 h.length false) (.s [bx (aa d),bx [(aX 3 0 h.length false)],bx (aa d),aA.row false 1 (List.map (cL c8) h),aA.dead,bx [(bA q),(iA u),(iA ab),(iA ad),(iA an),(iA ao)]] (.s (aX 3 0 h.length false) (.lv (by show aE [bx (aa d),bx [(aX 3 0 h.length false)],bx (aa d),aA.row false 1 (List.map (cL c8) h),aA.dead,bx [(bA q),(iA u),(iA ab),(iA ad),(iA an),(iA ao)]] (tp [(aX 3 0 h.length false),(iA 0)])=_; first | (simp only[cR,dS,aE,aV (H:=[bx (aa d),bx [(aX 3 0 h.length false)],bx (aa d),aA.row false 1 (List.map (cL c8) h),aA.dead,bx [(bA q),(iA u),(iA ab),(iA ad),(iA an),(iA ao)]]) (b:=3) (es:=1) (wr:=false) (l:=h) (eN dc) rfl]; done) | (simp only[cR,jL,aE,aV (H:=[bx (aa d),bx [(aX 3 0 h.length false)],bx (aa d),aA.row false 1 (List.map (cL c8) h),aA.dead,bx [(bA q),(iA u),(iA ab),(iA ad),(iA an),(iA ao)]]) (b:=3) (es:=1) (wr:=false) (l:=h) (eN dc) rfl]; first | done | rfl)))))))))
 ·intro p dd ds ea eg ei ej
  exact .un rfl (.cT (by kernel_rfl) (.cr (.ok (.lp (FM rfl) (.s (aX 3 0 p.length false) (.s [bx (aa d),bx [(aX 3 0 p.length false)],bx (aa d),aA.row false 1 (List.map (cL c8) p),aA.dead] (.s (aX 3 0 p.length false) (.lv (by show aE [bx (aa d),bx [(aX 3 0 p.length false)],bx (aa d),aA.row false 1 (List.map (cL c8) p),aA.dead] (tp [(aX 3 0 p.length false),(iA 0)])=_; first | (simp only[cR,dS,aE,aV (H:=[bx (aa d),bx [(aX 3 0 p.length false)],bx (aa d),aA.row false 1 (List.map (cL c8) p),aA.dead]) (b:=3) (es:=1) (wr:=false) (l:=p) (eN dc) rfl]; done) | (simp only[cR,jL,aE,aV (H:=[bx (aa d),bx [(aX 3 0 p.length false)],bx (aa d),aA.row false 1 (List.map (cL c8) p),aA.dead]) (b:=3) (es:=1) (wr:=false) (l:=p) (eN dc) rfl]; first | done | rfl))))))))))
def G9 (d:aj):Option ((List (List UInt8))×Int):=F9 aC d
def Ex (C:OT):Prop:=∀ (d:aj),C 9 [(ag (aa d))]=(G9 d).map fun y=>(tp [(im (List.map (cL c8) y.1) false),(iA y.2)])
def F7 (n:Nat)  : Option Bool :=
 (G1 0 0 10).bind fun p=>(G1 2 0 5).bind fun y2=>(G1 0 0 0).bind fun y3=>(G1 0 1 5).bind fun y4=>(MM y4.1 0 9).bind fun y5=>(ML p.1 10 1).bind fun y6=>(FT 0 ([])).bind fun y7=>(MK 0 10).bind fun q=>(Ig q.1 ((bG.mk 0 0 0 0))).bind fun y9=>(bif (p.2 != 0) then (some true) else (some (y2.2 != 1))).bind fun ck=>(bif ck then (some true) else (some (y3.2 != 1))).bind fun cm=>(bif cm then (some true) else (some (y4.2 != 0))).bind fun cv=>(bif cv then (some true) else (some (y5.2 != 530))).bind fun cy=>(bif cy then (some true) else (some (y6.2 != 530))).bind fun dd=>(bif dd then (some true) else (some (y7.2 != 530))).bind fun ds=>(bif ds then (some true) else (some (q.2 != 0))).bind fun ea=>(bif ea then (some true) else (some (y9.2 != 530))).bind fun eg=>(bif eg then (some true) else ((Eu p.1).bind fun ei=>some (ei != 0))).bind fun ej=>(bif ej then (some true) else ((Eu ((aj.mk 0 ([]) ([]) ([])))).bind fun fs=>some (fs != 530))).bind fun fv=>bif fv then (some false) else ((IT q.1 ([(bG.mk 3 0 3 2),(bG.mk 3 0 5 1),(bG.mk 1 0 1 20),(bG.mk 4 0 0 0),(bG.mk 5 0 1 0),(bG.mk 6 0 1 0)])).bind fun h=>(Ig h.1 ((bG.mk 3 1 12 1))).bind fun gf=>(IT h.1 ([(bG.mk 2 1 0 0),(bG.mk 3 1 12 4)])).bind fun d=>(Ig d.1 ((bG.mk 6 1 0 0))).bind fun ha=>(IT d.1 ([(bG.mk 7 1 2 0)])).bind fun u=>(bif (!h.2) then (some true) else (some (gf.2 != 530))).bind fun hd=>(bif hd then (some true) else (some (!d.2))).bind fun hf=>(bif hf then (some true) else (some (ha.2 != 530))).bind fun hg=>(bif hg then (some true) else (some (!u.2))).bind fun hh=>bif hh then (some false) else ((Ih h.1.Told ([(ak.mk 1 1 20)])).bind fun hi=>(bif (!hi) then (some true) else ((Ii h.1.Spoken.1 ([(ar.mk 5 1)])).bind fun hj=>some (!hj))).bind fun hk=>bif hk then ((some true).bind fun ho=>bif ho then (some false) else ((G9 d.1.Desks.2).bind fun y=>(FT 1 y.1).bind fun an=>(bif (y.2==0) then (some (an.2==0)) else (some false)).bind fun hp=>(bif hp then (some (((y.1.length:Int))==3)) else (some false)).bind fun hq=>(bif hq then ((Ed an.1 d.1.Desks.2).bind fun hr=>some hr) else (some false)).bind fun hs=>(bif hs then ((Ed u.1.Desks.2 ((aj.mk 1 ([(ak.mk 0 0 10),(ak.mk 1 1 20)]) ([]) ([true,true])))).bind fun ht=>some ht) else (some false)).bind fun hv=>some hv)) else (((Ed d.1.Desks.2 ((aj.mk 1 ([(ak.mk 0 0 10),(ak.mk 1 1 20)]) ([(ar.mk 12 4)]) ([true,true,false])))).bind fun hx=>some (!hx)).bind fun hy=>bif hy then (some false) else ((G9 d.1.Desks.2).bind fun ab=>(FT 1 ab.1).bind fun ao=>(bif (ab.2==0) then (some (ao.2==0)) else (some false)).bind fun ie=>(bif ie then (some (((ab.1.length:Int))==3)) else (some false)).bind fun ih=>(bif ih then ((Ed ao.1 d.1.Desks.2).bind fun ik=>some ik) else (some false)).bind fun js=>(bif js then ((Ed u.1.Desks.2 ((aj.mk 1 ([(ak.mk 0 0 10),(ak.mk 1 1 20)]) ([]) ([true,true])))).bind fun kc=>some kc) else (some false)).bind fun kk=>some kk))))
theorem T7 (C:OT) (n:Nat) (ds:zH C) (cm:zI C) (h15:FV C) (ea:zJ C) (h19:zK C) (ej:q8 C) (h21:zL C) (h24:FW C) (cv:zM C) (h26:FX C) (eg:FY C) (h9:Ex C):J (fun (o:R) y=>∃ v,o.1=.ret v/\aE o.2 v=(bA y)) (av (cx C) (ec C n 8) (ey C n 8) (n+8) 7 [] [] 0) some (F7 n ) some:=by
 refine .lp (e7 ..) ?_
 unfold F7
 refine .bd (cv 0 0 10) fun h=>.s (ag (aa h.1)) (.s (iA h.2) (.sq (pt 0 0) (.s [bx (aa h.1)] (.bd (cv 2 0 5) fun u=>.s (ag (aa u.1)) (.s (iA u.2) (.sq (pt 1 0) (.s [bx (aa h.1),bx (aa u.1)] (.bd (cv 0 0 0) fun y3=>.s (ag (aa y3.1)) (.s (iA y3.2) (.sq (pt 2 0) (.s [bx (aa h.1),bx (aa u.1),bx (aa y3.1)] (.bd (cv 0 1 5) fun q=>.s (ag (aa q.1)) (.s (iA q.2) (.sq (pt 3 0) (.s [bx (aa h.1),bx (aa u.1),bx (aa y3.1),bx (aa q.1)] (.s (ag (aa q.1)) (.bd (g:=fun (y:(aj×Int))=>(tp [(ag [(iA y.1.Self),(im (y.1.Leases.map ae) false),(im (y.1.Calls.map ah) false),(im (y.1.Order.map cB) false)]),(iA y.2)])) (by show C 26 [snap _ (ag (aa q.1)),snap _ (iA 0),snap _ (iA 9)]=_; simp only[cR,dS]; exact h26 q.1 0 9) fun y5=>.s (ag (aa y5.1)) (.s (iA y5.2) ?_))))))))))))))))))
 refine .sq (pt 4 0) (.s [bx (aa h.1),bx (aa u.1),bx (aa y3.1),bx (aa q.1),bx (aa y5.1)] (.s (ag (aa h.1)) (.bd (g:=fun (y:(aj×Int))=>(tp [(ag [(iA y.1.Self),(im (y.1.Leases.map ae) false),(im (y.1.Calls.map ah) false),(im (y.1.Order.map cB) false)]),(iA y.2)])) (by show C 24 [snap _ (ag (aa h.1)),snap _ (iA 10),snap _ (iA 1)]=_; simp only[cR,dS]; exact h24 h.1 10 1) fun y6=>.s (ag (aa y6.1)) (.s (iA y6.2) (.sq (pt 5 0) (.s [bx (aa h.1),bx (aa u.1),bx (aa y3.1),bx (aa q.1),bx (aa y5.1),bx (aa y6.1)] (.bd (g:=fun (y:(aj×Int))=>(tp [(ag [(iA y.1.Self),(im (y.1.Leases.map ae) false),(im (y.1.Calls.map ah) false),(im (y.1.Order.map cB) false)]),(iA y.2)])) (by show C 11 [snap _ (iA 0),snap _ (im [] true)]=_; simp only[cR,dS]; exact ds 0 ([])) fun y7=>.s (ag (aa y7.1)) (.s (iA y7.2) (.sq (pt 6 0) (.s [bx (aa h.1),bx (aa u.1),bx (aa y3.1),bx (aa q.1),bx (aa y5.1),bx (aa y6.1),bx (aa y7.1)] (.bd (h15 0 10) fun y8=>.s (ag (aB y8.1)) (.s (iA y8.2) (.sq (pt 7 0) (.s [bx (aa h.1),bx (aa u.1),bx (aa y3.1),bx (aa q.1),bx (aa y5.1),bx (aa y6.1),bx (aa y7.1),bx (aB y8.1)] (.s (ag (aB y8.1)) (.s (ag [(iA 0),(iA 0),(iA 0),(iA 0)]) ?_))))))))))))))))
 refine .bd (g:=fun (y:(bu×Int))=>(tp [(ag [(iA y.1.Desks.1.Self),(im (y.1.Desks.1.Leases.map ae) false),(im (y.1.Desks.1.Calls.map ah) false),(im (y.1.Desks.1.Order.map cB) false),(iA y.1.Desks.2.Self),(im (y.1.Desks.2.Leases.map ae) false),(im (y.1.Desks.2.Calls.map ah) false),(im (y.1.Desks.2.Order.map cB) false),(iA y.1.Synced.1),(iA y.1.Synced.2),(im (y.1.Told.map ae) false),(im (y.1.Spoken.1.map ah) false),(im (y.1.Spoken.2.map ah) false)]),(iA y.2)])) (by show C 17 [snap _ (ag (aB y8.1)),snap _ (ag [(iA 0),(iA 0),(iA 0),(iA 0)])]=_; simp only[cR,dS]; exact ea y8.1 ((bG.mk 0 0 0 0))) fun y9=>.s (ag (aB y9.1)) (.s (iA y9.2) (.sq (pt 8 0) (.s [bx (aa h.1),bx (aa u.1),bx (aa y3.1),bx (aa q.1),bx (aa y5.1),bx (aa y6.1),bx (aa y7.1),bx (aB y8.1),bx (aB y9.1)] (.st (ba ..) (.bg (fun t (y:Bool)=>∃ fv gf:A,t=[(bA y),fv,gf]) ?_ ?_)))))
 ·refine .dg (fun hk10=>?_) (fun hk10=>?_)
  ·exact .lg ⟨_,_,rfl⟩
  exact .st (ba ..) (.lg ⟨_,_,rfl⟩)
 rintro _ y11 ⟨fv,gf,rfl⟩
 refine .uc (.uc (.uc (.bg (fun t (y:Bool)=>∃ ha hd:A,t=[(bA y),ha,hd]) ?_ ?_)))
 ·refine .dg (fun hk14=>?_) (fun hk14=>?_)
  ·exact .lg ⟨_,_,rfl⟩
  exact .st (ba ..) (.lg ⟨_,_,rfl⟩)
 rintro _ y15 ⟨ha,hd,rfl⟩
 refine .uc (.uc (.uc (.bg (fun t (y:Bool)=>∃ hf hg:A,t=[(bA y),hf,hg]) ?_ ?_)))
 ·refine .dg (fun hk18=>?_) (fun hk18=>?_)
  ·exact .lg ⟨_,_,rfl⟩
  exact .st (ba ..) (.lg ⟨_,_,rfl⟩)
 rintro _ y19 ⟨hf,hg,rfl⟩
 refine .uc (.uc (.uc (.bg (fun t (y:Bool)=>∃ hh hi:A,t=[(bA y),hh,hi]) ?_ ?_)))
 ·refine .dg (fun hk22=>?_) (fun hk22=>?_)
  ·exact .lg ⟨_,_,rfl⟩
  exact .st (ba ..) (.lg ⟨_,_,rfl⟩)
 rintro _ y23 ⟨hh,hi,rfl⟩
 refine .uc (.uc (.uc (.bg (fun t (y:Bool)=>∃ hj hk:A,t=[(bA y),hj,hk]) ?_ ?_)))
 ·refine .dg (fun hk26=>?_) (fun hk26=>?_)
  ·exact .lg ⟨_,_,rfl⟩
  exact .st (ba ..) (.lg ⟨_,_,rfl⟩)
 rintro _ y27 ⟨hj,hk,rfl⟩
 refine .uc (.uc (.uc (.bg (fun t (y:Bool)=>∃ ho hp:A,t=[(bA y),ho,hp]) ?_ ?_)))
 ·refine .dg (fun hk30=>?_) (fun hk30=>?_)
  ·exact .lg ⟨_,_,rfl⟩
  exact .st (ba ..) (.lg ⟨_,_,rfl⟩)
 rintro _ y31 ⟨ho,hp,rfl⟩
 refine .uc (.uc (.uc (.bg (fun t (y:Bool)=>∃ hq hr:A,t=[(bA y),hq,hr]) ?_ ?_)))
 ·refine .dg (fun hk34=>?_) (fun hk34=>?_)
  ·exact .lg ⟨_,_,rfl⟩
  exact .st (ba ..) (.lg ⟨_,_,rfl⟩)
 rintro _ y35 ⟨hq,hr,rfl⟩
 refine .uc (.uc (.uc (.bg (fun t (y:Bool)=>∃ hs ht:A,t=[(bA y),hs,ht]) ?_ ?_)))
 ·refine .dg (fun hk38=>?_) (fun hk38=>?_)
  ·exact .lg ⟨_,_,rfl⟩
  exact .st (ba ..) (.lg ⟨_,_,rfl⟩)
 rintro _ y39 ⟨hs,ht,rfl⟩
 refine .uc (.uc (.uc (.bg (fun t (y:Bool)=>∃ hv hx hy:A,t=[(bA y),hv,hx,hy]) ?_ ?_)))
 ·refine .dg (fun hk42=>?_) (fun hk42=>?_)
  ·exact .lg ⟨_,_,_,rfl⟩
  exact .s (ag (aa h.1)) (.bd (g:=fun (y:Int)=>(iA y)) (by show C 20 [snap _ (ag (aa h.1))]=_; simp only[cR,dS]; exact ej h.1) fun y43=>.st (ba ..) (.lg ⟨_,_,_,rfl⟩))
 rintro _ y44 ⟨hv,hx,hy,rfl⟩
 refine .u4 (.bg (fun t (y:Bool)=>∃ ie ih ik:A,t=[(bA y),ie,ih,ik]) ?_ ?_)
 ·refine .dg (fun hk48=>?_) (fun hk48=>?_)
  ·exact .lg ⟨_,_,_,rfl⟩
  exact .s (ag [(iA 0),(im [] true),(im [] true),(im [] true)]) (.bd (g:=fun (y:Int)=>(iA y)) (by show C 20 [snap _ (ag [(iA 0),(im [] true),(im [] true),(im [] true)])]=_; simp only[cR,dS]; exact ej ((aj.mk 0 ([]) ([]) ([])))) fun y49=>.st (ba ..) (.lg ⟨_,_,_,rfl⟩))
 rintro _ y50 ⟨ie,ih,ik,rfl⟩
 refine .u4 (.aP (fun hk54=>?_) (fun hk54=>?_))
 ·exact .lv rfl
 refine .s (ag (aB y8.1)) (.s (ag [(iA 3),(iA 0),(iA 3),(iA 2)]) (.s (ag [(iA 3),(iA 0),(iA 5),(iA 1)]) (.s (ag [(iA 1),(iA 0),(iA 1),(iA 20)]) (.s (ag [(iA 4),(iA 0),(iA 0),(iA 0)]) (.s (ag [(iA 5),(iA 0),(iA 1),(iA 0)]) (.s (ag [(iA 6),(iA 0),(iA 1),(iA 0)]) (.s (im [[(iA 3),(iA 0),(iA 3),(iA 2)],[(iA 3),(iA 0),(iA 5),(iA 1)],[(iA 1),(iA 0),(iA 1),(iA 20)],[(iA 4),(iA 0),(iA 0),(iA 0)],[(iA 5),(iA 0),(iA 1),(iA 0)],[(iA 6),(iA 0),(iA 1),(iA 0)]] true) (.bd (g:=fun (y:(bu×Bool))=>(tp [(ag [(iA y.1.Desks.1.Self),(im (y.1.Desks.1.Leases.map ae) false),(im (y.1.Desks.1.Calls.map ah) false),(im (y.1.Desks.1.Order.map cB) false),(iA y.1.Desks.2.Self),(im (y.1.Desks.2.Leases.map ae) false),(im (y.1.Desks.2.Calls.map ah) false),(im (y.1.Desks.2.Order.map cB) false),(iA y.1.Synced.1),(iA y.1.Synced.2),(im (y.1.Told.map ae) false),(im (y.1.Spoken.1.map ah) false),(im (y.1.Spoken.2.map ah) false)]),(bA y.2)])) (by show C 27 [snap _ (ag (aB y8.1)),snap _ (im [[(iA 3),(iA 0),(iA 3),(iA 2)],[(iA 3),(iA 0),(iA 5),(iA 1)],[(iA 1),(iA 0),(iA 1),(iA 20)],[(iA 4),(iA 0),(iA 0),(iA 0)],[(iA 5),(iA 0),(iA 1),(iA 0)],[(iA 6),(iA 0),(iA 1),(iA 0)]] true)]=_; simp only[cR,dS]; exact eg y8.1 ([(bG.mk 3 0 3 2),(bG.mk 3 0 5 1),(bG.mk 1 0 1 20),(bG.mk 4 0 0 0),(bG.mk 5 0 1 0),(bG.mk 6 0 1 0)])) fun p=>.s (ag (aB p.1)) (.s (bA p.2) (.sq (pt 9 0) (.s [bx (aa h.1),bx (aa u.1),bx (aa y3.1),bx (aa q.1),bx (aa y5.1),bx (aa y6.1),bx (aa y7.1),bx (aB y8.1),bx (aB y9.1),bx (aB p.1)] (.s (ag (aB p.1)) (.s (ag [(iA 3),(iA 1),(iA 12),(iA 1)]) ?_)))))))))))))
 refine .bd (g:=fun (y:(bu×Int))=>(tp [(ag [(iA y.1.Desks.1.Self),(im (y.1.Desks.1.Leases.map ae) false),(im (y.1.Desks.1.Calls.map ah) false),(im (y.1.Desks.1.Order.map cB) false),(iA y.1.Desks.2.Self),(im (y.1.Desks.2.Leases.map ae) false),(im (y.1.Desks.2.Calls.map ah) false),(im (y.1.Desks.2.Order.map cB) false),(iA y.1.Synced.1),(iA y.1.Synced.2),(im (y.1.Told.map ae) false),(im (y.1.Spoken.1.map ah) false),(im (y.1.Spoken.2.map ah) false)]),(iA y.2)])) (by show C 17 [snap _ (ag (aB p.1)),snap _ (ag [(iA 3),(iA 1),(iA 12),(iA 1)])]=_; simp only[cR,dS]; exact ea p.1 ((bG.mk 3 1 12 1))) fun cb=>.s (ag (aB cb.1)) (.s (iA cb.2) (.sq (pt 10 0) (.s [bx (aa h.1),bx (aa u.1),bx (aa y3.1),bx (aa q.1),bx (aa y5.1),bx (aa y6.1),bx (aa y7.1),bx (aB y8.1),bx (aB y9.1),bx (aB p.1),bx (aB cb.1)] (.s (ag (aB p.1)) (.s (ag [(iA 2),(iA 1),(iA 0),(iA 0)]) (.s (ag [(iA 3),(iA 1),(iA 12),(iA 4)]) (.s (im [[(iA 2),(iA 1),(iA 0),(iA 0)],[(iA 3),(iA 1),(iA 12),(iA 4)]] true) (.bd (g:=fun (y:(bu×Bool))=>(tp [(ag [(iA y.1.Desks.1.Self),(im (y.1.Desks.1.Leases.map ae) false),(im (y.1.Desks.1.Calls.map ah) false),(im (y.1.Desks.1.Order.map cB) false),(iA y.1.Desks.2.Self),(im (y.1.Desks.2.Leases.map ae) false),(im (y.1.Desks.2.Calls.map ah) false),(im (y.1.Desks.2.Order.map cB) false),(iA y.1.Synced.1),(iA y.1.Synced.2),(im (y.1.Told.map ae) false),(im (y.1.Spoken.1.map ah) false),(im (y.1.Spoken.2.map ah) false)]),(bA y.2)])) (by show C 27 [snap _ (ag (aB p.1)),snap _ (im [[(iA 2),(iA 1),(iA 0),(iA 0)],[(iA 3),(iA 1),(iA 12),(iA 4)]] true)]=_; simp only[cR,dS]; exact eg p.1 ([(bG.mk 2 1 0 0),(bG.mk 3 1 12 4)])) fun d=>.s (ag (aB d.1)) (.s (bA d.2) (.sq (pt 11 0) ?_))))))))))
 refine .s [bx (aa h.1),bx (aa u.1),bx (aa y3.1),bx (aa q.1),bx (aa y5.1),bx (aa y6.1),bx (aa y7.1),bx (aB y8.1),bx (aB y9.1),bx (aB p.1),bx (aB cb.1),bx (aB d.1)] (.s (ag (aB d.1)) (.s (ag [(iA 6),(iA 1),(iA 0),(iA 0)]) (.bd (g:=fun (y:(bu×Int))=>(tp [(ag [(iA y.1.Desks.1.Self),(im (y.1.Desks.1.Leases.map ae) false),(im (y.1.Desks.1.Calls.map ah) false),(im (y.1.Desks.1.Order.map cB) false),(iA y.1.Desks.2.Self),(im (y.1.Desks.2.Leases.map ae) false),(im (y.1.Desks.2.Calls.map ah) false),(im (y.1.Desks.2.Order.map cB) false),(iA y.1.Synced.1),(iA y.1.Synced.2),(im (y.1.Told.map ae) false),(im (y.1.Spoken.1.map ah) false),(im (y.1.Spoken.2.map ah) false)]),(iA y.2)])) (by show C 17 [snap _ (ag (aB d.1)),snap _ (ag [(iA 6),(iA 1),(iA 0),(iA 0)])]=_; simp only[cR,dS]; exact ea d.1 ((bG.mk 6 1 0 0))) fun cc=>.s (ag (aB cc.1)) (.s (iA cc.2) (.sq (pt 12 0) (.s [bx (aa h.1),bx (aa u.1),bx (aa y3.1),bx (aa q.1),bx (aa y5.1),bx (aa y6.1),bx (aa y7.1),bx (aB y8.1),bx (aB y9.1),bx (aB p.1),bx (aB cb.1),bx (aB d.1),bx (aB cc.1)] (.s (ag (aB d.1)) (.s (ag [(iA 7),(iA 1),(iA 2),(iA 0)]) (.s (im [[(iA 7),(iA 1),(iA 2),(iA 0)]] true) ?_)))))))))
 refine .bd (g:=fun (y:(bu×Bool))=>(tp [(ag [(iA y.1.Desks.1.Self),(im (y.1.Desks.1.Leases.map ae) false),(im (y.1.Desks.1.Calls.map ah) false),(im (y.1.Desks.1.Order.map cB) false),(iA y.1.Desks.2.Self),(im (y.1.Desks.2.Leases.map ae) false),(im (y.1.Desks.2.Calls.map ah) false),(im (y.1.Desks.2.Order.map cB) false),(iA y.1.Synced.1),(iA y.1.Synced.2),(im (y.1.Told.map ae) false),(im (y.1.Spoken.1.map ah) false),(im (y.1.Spoken.2.map ah) false)]),(bA y.2)])) (by show C 27 [snap _ (ag (aB d.1)),snap _ (im [[(iA 7),(iA 1),(iA 2),(iA 0)]] true)]=_; simp only[cR,dS]; exact eg d.1 ([(bG.mk 7 1 2 0)])) fun bs=>.s (ag (aB bs.1)) (.s (bA bs.2) (.sq (pt 13 0) (.s [bx (aa h.1),bx (aa u.1),bx (aa y3.1),bx (aa q.1),bx (aa y5.1),bx (aa y6.1),bx (aa y7.1),bx (aB y8.1),bx (aB y9.1),bx (aB p.1),bx (aB cb.1),bx (aB d.1),bx (aB cc.1),bx (aB bs.1)] (.s (bA (!p.2)) (.bg (fun t (y:Bool)=>∃ js kc:A,t=[(bA y),js,kc]) ?_ ?_)))))
 ·refine .dg (fun hk60=>?_) (fun hk60=>?_)
  ·exact .lg ⟨_,_,rfl⟩
  exact .st (ba ..) (.lg ⟨_,_,rfl⟩)
 rintro _ y61 ⟨js,kc,rfl⟩
 refine .uc (.uc (.uc (.bg (fun t (y:Bool)=>∃ kk kn:A,t=[(bA y),kk,kn]) ?_ ?_)))
 ·refine .dg (fun hk64=>?_) (fun hk64=>?_)
  ·exact .lg ⟨_,_,rfl⟩
  exact .s (bA (!d.2)) (.lg ⟨_,_,rfl⟩)
 rintro _ y65 ⟨kk,kn,rfl⟩
 refine .uc (.uc (.uc (.bg (fun t (y:Bool)=>∃ ko kt:A,t=[(bA y),ko,kt]) ?_ ?_)))
 ·refine .dg (fun hk68=>?_) (fun hk68=>?_)
  ·exact .lg ⟨_,_,rfl⟩
  exact .st (ba ..) (.lg ⟨_,_,rfl⟩)
 rintro _ y69 ⟨ko,kt,rfl⟩
 refine .uc (.uc (.uc (.bg (fun t (y:Bool)=>∃ la lb:A,t=[(bA y),la,lb]) ?_ ?_)))
 ·refine .dg (fun hk72=>?_) (fun hk72=>?_)
  ·exact .lg ⟨_,_,rfl⟩
  exact .s (bA (!bs.2)) (.lg ⟨_,_,rfl⟩)
 rintro _ y73 ⟨la,lb,rfl⟩
 refine .uc (.uc (.uc (.aP (fun hk76=>?_) (fun hk76=>?_))))
 ·exact .lv rfl
 refine .s (ag [(iA 0),(iA 0),(iA 10)]) (.s (ag [(iA 1),(iA 1),(iA 20)]) (.s (im [[(iA 0),(iA 0),(iA 10)],[(iA 1),(iA 1),(iA 20)]] true) (.s (pt 9 10) (.s (im (p.1.Told.map ae) false) (.s (im [[(iA 1),(iA 1),(iA 20)]] true) (.bd (g:=fun (y:Bool)=>(bA y)) (by show C 19 [snap _ (im (p.1.Told.map ae) false),snap _ (im [[(iA 1),(iA 1),(iA 20)]] true)]=_; simp only[cR,dS]; exact h19 p.1.Told ([(ak.mk 1 1 20)])) fun y77=>.s (bA (!y77)) (.bg (fun t (y:Bool)=>∃ lx ly mn mx nb nf ni:A,t=[(bA y),lx,ly,mn,mx,nb,nf,ni]) ?_ ?_)))))))
 ·refine .dg (fun hk78=>?_) (fun hk78=>?_)
  ·exact .lg ⟨_,_,_,_,_,_,_,rfl⟩
  exact .s (pt 9 11) (.s (pt 9 11) (.s (im (p.1.Spoken.1.map ah) false) (.s (ag [(iA 5),(iA 1)]) (.s (im [[(iA 5),(iA 1)]] true) (.bd (g:=fun (y:Bool)=>(bA y)) (by show C 21 [snap _ (im (p.1.Spoken.1.map ah) false),snap _ (im [[(iA 5),(iA 1)]] true)]=_; simp only[cR,dS]; exact h21 p.1.Spoken.1 ([(ar.mk 5 1)])) fun y79=>.s (bA (!y79)) (.lg ⟨_,_,_,_,_,_,_,rfl⟩))))))
 rintro _ y80 ⟨lx,ly,mn,mx,nb,nf,ni,rfl⟩
 refine .u4 (.u4 (.BR (fun ei=>?_) (fun ei=>?_)))
 ·refine .bb (.s (pt 11 0) (.s (pt 11 4) (.s (ag (aa d.1.Desks.2)) (.s (ag [(iA 12),(iA 4)]) (.s (im [[(iA 12),(iA 4)]] true) (.s (im [[(bA true)],[(bA true)],[(bA false)]] true) (.s (ag [(iA 1),(im [[(iA 0),(iA 0),(iA 10)],[(iA 1),(iA 1),(iA 20)]] true),(im [[(iA 12),(iA 4)]] true),(im [[(bA true)],[(bA true)],[(bA false)]] true)]) (.cr (.u4 (.u4 (.bg (fun t (y:Bool)=>∃ ns nt:A,t=[(bA y),ns,nt]) ?_ ?_)))))))))))
  ·exact .wo ei (.bd (g:=fun (y:Bool)=>(bA y)) (by show C 14 [snap _ (ag (aa d.1.Desks.2)),snap _ (ag [(iA 1),(im [[(iA 0),(iA 0),(iA 10)],[(iA 1),(iA 1),(iA 20)]] true),(im [[(iA 12),(iA 4)]] true),(im [[(bA true)],[(bA true)],[(bA false)]] true)])]=_; simp only[cR,dS]; exact cm d.1.Desks.2 ((aj.mk 1 ([(ak.mk 0 0 10),(ak.mk 1 1 20)]) ([(ar.mk 12 4)]) ([true,true,false])))) fun y89=>.s (bA (!y89)) (.lg ⟨_,_,rfl⟩))
  rintro _ y90 ⟨ns,nt,rfl⟩
  refine .uc (.uc (.uc (.aP (fun hk93=>?_) (fun hk93=>?_))))
  ·exact .lv rfl
  refine .s (pt 11 0) (.s (pt 11 4) (.s (ag (aa d.1.Desks.2)) (.bd (g:=fun (y:((List (List UInt8))×Int))=>(tp [(im (List.map (cL c8) y.1) false),(iA y.2)])) (by show C 9 [snap _ (ag (aa d.1.Desks.2))]=_; simp only[cR,dS]; exact h9 d.1.Desks.2) fun cy=>.s (im (List.map (cL c8) cy.1) false) (.s (iA cy.2) (.bd (g:=fun (y:(aj×Int))=>(tp [(ag [(iA y.1.Self),(im (y.1.Leases.map ae) false),(im (y.1.Calls.map ah) false),(im (y.1.Order.map cB) false)]),(iA y.2)])) (by show C 11 [snap _ (iA 1),snap _ (im (List.map (cL c8) cy.1) false)]=_; simp only[cR,dS]; exact ds 1 cy.1) fun ch=>.s (ag (aa ch.1)) (.s (iA ch.2) (.sq (pt 14 0) (.s [bx (aa h.1),bx (aa u.1),bx (aa y3.1),bx (aa q.1),bx (aa y5.1),bx (aa y6.1),bx (aa y7.1),bx (aB y8.1),bx (aB y9.1),bx (aB p.1),bx (aB cb.1),bx (aB d.1),bx (aB cc.1),bx (aB bs.1),bx (aa ch.1)] (.st (aN ..) (.bg (fun t (y:Bool)=>∃ oa oc:A,t=[(bA y),oa,oc]) ?_ ?_))))))))))
  ·refine .dg (fun hk96=>?_) (fun hk96=>?_)
   ·exact .st (aN ..) (.lg ⟨_,_,rfl⟩)
   exact .lg ⟨_,_,rfl⟩
  rintro _ y97 ⟨oa,oc,rfl⟩
  refine .uc (.uc (.uc (.bg (fun t (y:Bool)=>∃ oi oj oo:A,t=[(bA y),oi,oj,oo]) ?_ ?_)))
  ·refine .dg (fun hk100=>?_) (fun hk100=>?_)
   ·exact .st (dQ (e:=30)) (.st (aN ..) (.lg ⟨_,_,_,rfl⟩))
   exact .lg ⟨_,_,_,rfl⟩
  rintro _ y101 ⟨oi,oj,oo,rfl⟩
  refine .u4 (.bg (fun t (y:Bool)=>∃ oq pc ps qi qv:A,t=[(bA y),oq,pc,ps,qi,qv]) ?_ ?_)
  ·refine .dg (fun hk105=>?_) (fun hk105=>?_)
   ·exact .s (ag (aa ch.1)) (.s (pt 11 0) (.s (pt 11 4) (.s (ag (aa d.1.Desks.2)) (.bd (g:=fun (y:Bool)=>(bA y)) (by show C 14 [snap _ (ag (aa ch.1)),snap _ (ag (aa d.1.Desks.2))]=_; simp only[cR,dS]; exact cm ch.1 d.1.Desks.2) fun y106=>.lg ⟨_,_,_,_,_,rfl⟩))))
   exact .lg ⟨_,_,_,_,_,rfl⟩
  rintro _ y107 ⟨oq,pc,ps,qi,qv,rfl⟩
  refine .u4 (.uc (.uc (.bg (fun t (y:Bool)=>∃ sa sb si sk so tb tk:A,t=[(bA y),sa,sb,si,sk,so,tb,tk]) ?_ ?_)))
  ·refine .dg (fun hk113=>?_) (fun hk113=>?_)
   ·exact .s (pt 13 0) (.s (pt 13 4) (.s (ag (aa bs.1.Desks.2)) (.s (im [[(bA true)],[(bA true)]] true) (.s (ag [(iA 1),(im [[(iA 0),(iA 0),(iA 10)],[(iA 1),(iA 1),(iA 20)]] true),(im [] true),(im [[(bA true)],[(bA true)]] true)]) (.bd (g:=fun (y:Bool)=>(bA y)) (by show C 14 [snap _ (ag (aa bs.1.Desks.2)),snap _ (ag [(iA 1),(im [[(iA 0),(iA 0),(iA 10)],[(iA 1),(iA 1),(iA 20)]] true),(im [] true),(im [[(bA true)],[(bA true)]] true)])]=_; simp only[cR,dS]; exact cm bs.1.Desks.2 ((aj.mk 1 ([(ak.mk 0 0 10),(ak.mk 1 1 20)]) ([]) ([true,true])))) fun y114=>.lg ⟨_,_,_,_,_,_,_,rfl⟩)))))
   exact .lg ⟨_,_,_,_,_,_,_,rfl⟩
  rintro _ y115 ⟨sa,sb,si,sk,so,tb,tk,rfl⟩
  exact .u4 (.u4 (.lv rfl))
 refine .bb (.cr (.u4 (.u4 (.bg (fun t (y:Bool)=>∃ tm ts:A,t=[(bA y),tm,ts]) ?_ ?_))))
 ·exact .vN ei (.lg ⟨_,_,rfl⟩)
 rintro _ y123 ⟨tm,ts,rfl⟩
 refine .uc (.uc (.uc (.aP (fun hk126=>?_) (fun hk126=>?_))))
 ·exact .lv rfl
 refine .s (pt 11 0) (.s (pt 11 4) (.s (ag (aa d.1.Desks.2)) (.bd (g:=fun (y:((List (List UInt8))×Int))=>(tp [(im (List.map (cL c8) y.1) false),(iA y.2)])) (by show C 9 [snap _ (ag (aa d.1.Desks.2))]=_; simp only[cR,dS]; exact h9 d.1.Desks.2) fun dd=>.s (im (List.map (cL c8) dd.1) false) (.s (iA dd.2) (.bd (g:=fun (y:(aj×Int))=>(tp [(ag [(iA y.1.Self),(im (y.1.Leases.map ae) false),(im (y.1.Calls.map ah) false),(im (y.1.Order.map cB) false)]),(iA y.2)])) (by show C 11 [snap _ (iA 1),snap _ (im (List.map (cL c8) dd.1) false)]=_; simp only[cR,dS]; exact ds 1 dd.1) fun ck=>.s (ag (aa ck.1)) (.s (iA ck.2) (.sq (pt 14 0) (.s [bx (aa h.1),bx (aa u.1),bx (aa y3.1),bx (aa q.1),bx (aa y5.1),bx (aa y6.1),bx (aa y7.1),bx (aB y8.1),bx (aB y9.1),bx (aB p.1),bx (aB cb.1),bx (aB d.1),bx (aB cc.1),bx (aB bs.1),bx (aa ck.1)] (.st (aN ..) (.bg (fun t (y:Bool)=>∃ tw vr:A,t=[(bA y),tw,vr]) ?_ ?_))))))))))
 ·refine .dg (fun hk129=>?_) (fun hk129=>?_)
  ·exact .st (aN ..) (.lg ⟨_,_,rfl⟩)
  exact .lg ⟨_,_,rfl⟩
 rintro _ y130 ⟨tw,vr,rfl⟩
 refine .uc (.uc (.uc (.bg (fun t (y:Bool)=>∃ vt wu xt:A,t=[(bA y),vt,wu,xt]) ?_ ?_)))
 ·refine .dg (fun hk133=>?_) (fun hk133=>?_)
  ·exact .st (dQ (e:=30)) (.st (aN ..) (.lg ⟨_,_,_,rfl⟩))
  exact .lg ⟨_,_,_,rfl⟩
 rintro _ y134 ⟨vt,wu,xt,rfl⟩
 refine .u4 (.bg (fun t (y:Bool)=>∃ ys zc zm zn zz:A,t=[(bA y),ys,zc,zm,zn,zz]) ?_ ?_)
 ·refine .dg (fun hk138=>?_) (fun hk138=>?_)
  ·exact .s (ag (aa ck.1)) (.s (pt 11 0) (.s (pt 11 4) (.s (ag (aa d.1.Desks.2)) (.bd (g:=fun (y:Bool)=>(bA y)) (by show C 14 [snap _ (ag (aa ck.1)),snap _ (ag (aa d.1.Desks.2))]=_; simp only[cR,dS]; exact cm ck.1 d.1.Desks.2) fun y139=>.lg ⟨_,_,_,_,_,rfl⟩))))
  exact .lg ⟨_,_,_,_,_,rfl⟩
 rintro _ y140 ⟨ys,zc,zm,zn,zz,rfl⟩
 refine .u4 (.uc (.uc (.bg (fun t (y:Bool)=>∃ j149 j150 j151 j152 j153 j154 j155:A,t=[(bA y),j149,j150,j151,j152,j153,j154,j155]) ?_ ?_)))
 ·refine .dg (fun hk146=>?_) (fun hk146=>?_)
  ·exact .s (pt 13 0) (.s (pt 13 4) (.s (ag (aa bs.1.Desks.2)) (.s (im [[(bA true)],[(bA true)]] true) (.s (ag [(iA 1),(im [[(iA 0),(iA 0),(iA 10)],[(iA 1),(iA 1),(iA 20)]] true),(im [] true),(im [[(bA true)],[(bA true)]] true)]) (.bd (g:=fun (y:Bool)=>(bA y)) (by show C 14 [snap _ (ag (aa bs.1.Desks.2)),snap _ (ag [(iA 1),(im [[(iA 0),(iA 0),(iA 10)],[(iA 1),(iA 1),(iA 20)]] true),(im [] true),(im [[(bA true)],[(bA true)]] true)])]=_; simp only[cR,dS]; exact cm bs.1.Desks.2 ((aj.mk 1 ([(ak.mk 0 0 10),(ak.mk 1 1 20)]) ([]) ([true,true])))) fun y147=>.lg ⟨_,_,_,_,_,_,_,rfl⟩)))))
  exact .lg ⟨_,_,_,_,_,_,_,rfl⟩
 rintro _ y148 ⟨j149,j150,j151,j152,j153,j154,j155,rfl⟩
 exact .u4 (.u4 (.lv rfl))
def G7  : Option Bool:=F7 aC
def Ha (C:OT):Prop:=∀ (_:Unit),C 7 []=(G7 ).map fun y=>(bA y)
def F8 (n:Nat) (d:aj):Option Bool :=
 (bif (decide (((d.Leases.length:Int))<=300)) then (some (decide (((d.Calls.length:Int))<=60))) else (some false)).bind fun h=>(bif h then (some (decide (((d.Order.length:Int))<=360))) else (some false)).bind fun p=>some p
theorem T8 (C:OT) (n:Nat) (d:aj):J (fun (o:R) y=>∃ v,o.1=.ret v/\aE o.2 v=(bA y)) (av (cx C) (ec C n 8) (ey C n 8) (n+8) 8 [(ag (aa d))] [] 0) some (F8 n d) some:=by
 refine .lp (e8 ..) ?_
 unfold F8
 refine .s ((pt 0 0),[bx (aa d)]) (.s (pt 0 1) (.s (im (d.Leases.map ae) false) (.st (dQ (e:=59)) (.st (df ..) (.bg (fun t (y:Bool)=>∃ h p q u:A,t=[(bA y),h,p,q,u]) ?_ ?_)))))
 ·refine .dg (fun bm=>?_) (fun bm=>?_)
  ·exact .s (pt 0 2) (.s (im (d.Calls.map ah) false) (.st (dQ (e:=62)) (.st (df ..) (.lg ⟨_,_,_,_,rfl⟩))))
  exact .lg ⟨_,_,_,_,rfl⟩
 rintro _ y2 ⟨h,p,q,u,rfl⟩
 refine .u4 (.uc (.bg (fun t (y:Bool)=>∃ j9 ad an ao:A,t=[(bA y),j9,ad,an,ao]) ?_ ?_))
 ·refine .dg (fun bs=>?_) (fun bs=>?_)
  ·exact .s (pt 0 3) (.s (im (d.Order.map cB) false) (.st (dQ (e:=4)) (.st (df ..) (.lg ⟨_,_,_,_,rfl⟩))))
  exact .lg ⟨_,_,_,_,rfl⟩
 rintro _ y8 ⟨j9,ad,an,ao,rfl⟩
 exact .u4 (.uc (.lv rfl))
def G8 (d:aj):Option Bool:=F8 aC d
def Hb (C:OT):Prop:=∀ (d:aj),C 8 [(ag (aa d))]=(G8 d).map fun y=>(bA y)
def Lu (n:Nat) (d:Int) (h:Int) (p:Int):Option Bool :=
 (bif (decide (h<=d)) then (some (decide (d<=p))) else (some false)).bind fun q=>some q
theorem QL (C:OT) (n:Nat) (d:Int) (h:Int) (p:Int):J (fun (o:R) y=>∃ v,o.1=.ret v/\aE o.2 v=(bA y)) (av (cx C) (ec C n 8) (ey C n 8) (n+8) 64 [(iA d),(iA h),(iA p)] [] 0) some (Lu n d h p) some:=by
 refine .lp (Rw ..) ?_
 unfold Lu
 refine .st (dB ..) (.bg (fun t (y:Bool)=>∃ q u j5:A,t=[(bA y),q,u,j5]) ?_ ?_)
 ·refine .dg (fun ad=>?_) (fun ad=>?_)
  ·exact .st (df ..) (.lg ⟨_,_,_,rfl⟩)
  exact .lg ⟨_,_,_,rfl⟩
 rintro _ y2 ⟨q,u,j5,rfl⟩
 exact .u4 (.lv rfl)
def Ev (d:Int) (h:Int) (p:Int):Option Bool:=Lu aC d h p
def vT (C:OT):Prop:=∀ (d:Int) (h:Int) (p:Int),C 64 [(iA d),(iA h),(iA p)]=(Ev d h p).map fun y=>(bA y)
def hX (n:Nat) (v1:(List Bool)) (v2:Int):Nat->Int->Int->Option (Int)
 | 0,_,_=>none
 | m+1,d,v4=>bif (decide (v4<((v1.length:Int)))) then ((bw v1 v4).bind fun h=>bif h then (hX n v1 v2 m (wr .i64 (d+1)) (wr .i64 (v4+1))) else (hX n v1 v2 m d (wr .i64 (v4+1)))) else (some d)
theorem CB (v1:(List Bool)) (v2:Int) {K:(Int)->Option γ} (p:∀ (h:Int) (q:A) (s2:A) (u:A),J φ (kx 0 (St.mk [(0,q),(2,s2),(3,(iA h)),(4,u)] [])) kL (K h) some) :
  ∀ (m:Nat) (d:Int) (v4:Int),J φ (aH (cx C) (ec C n 8) (ey C n 8) (n+8) 65 0 0 0 kx kg kr kp m (St.mk [(0,(im (v1.map cB) false)),(2,(iA v2)),(3,(iA d)),(4,(iA v4))] [])) kL (hX n v1 v2 m d v4) K:=by
 intro m
 induction m with
 | zero=>intros; exact .nn
 | succ m ih =>
  intro d v4
  refine .lp (JA ..) ?_
  unfold hX
  refine .st (dQ (e:=4)) (.st (aS ..) (.aP (fun y=>?_) (fun y=>?_)))
  ·refine .bd (fJ (e:=4) (es:=1)) fun y6=>.s (bA y6) (.aP (fun ad=>?_) (fun ad=>?_))
   ·refine .st (aD ..) (.st (aD ..) (.s [] (.cT (by kernel_rfl) ?_)))
    exact ih _ _
   refine .st (aD ..) (.s [] (.cT (by kernel_rfl) ?_))
   exact ih _ _
  exact .ex (p _ _ _ _)
def Lv (n:Nat) (d:(List Bool)):Option Int :=
 (hX n d 0 (n+8) 0 0).bind fun o8=>match o8 with | h=>some h
theorem QM (C:OT) (n:Nat) (d:(List Bool)):J (fun (o:R) y=>∃ v,o.1=.ret v/\aE o.2 v=(iA y)) (av (cx C) (ec C n 8) (ey C n 8) (n+8) 65 [(im (d.map cB) false)] [] 0) some (Lv n d) some:=by
 refine .lp (Rx ..) ?_
 unfold Lv
 refine .as (CB C n _ _ _ _  d 0 ?_ _ 0 0)
 ·intro h p q u
  exact .un rfl (.cT (by kernel_rfl) (.lv rfl))
def IY (d:(List Bool)):Option Int:=Lv aC d
def zP (C:OT):Prop:=∀ (d:(List Bool)),C 65 [(im (d.map cB) false)]=(IY d).map fun y=>(iA y)
def Lw (n:Nat) (d:ak) (h:Int) (p:Int):Option Bool :=
 (bif (d.No==h) then ((Ev d.Holder 0 1).bind fun q=>some q) else (some false)).bind fun u=>(bif u then (some (decide (p<d.Until))) else (some false)).bind fun y=>(bif y then (some (decide (d.Until<=4096))) else (some false)).bind fun ab=>some ab
theorem QN (C:OT) (n:Nat) (cc:vT C) (d:ak) (h:Int) (p:Int):J (fun (o:R) y=>∃ v,o.1=.ret v/\aE o.2 v=(bA y)) (av (cx C) (ec C n 8) (ey C n 8) (n+8) 66 [(ag (ae d)),(iA h),(iA p)] [] 0) some (Lw n d h p) some:=by
 refine .lp (Ry ..) ?_
 unfold Lw
 refine .s ((pt 0 0),[bx (ae d)]) (.s (pt 0 0) (.s (iA d.No) (.st (aN ..) (.bg (fun t (y:Bool)=>∃ q u j6:A,t=[(bA y),q,u,j6]) ?_ ?_))))
 ·refine .dg (fun ch=>?_) (fun ch=>?_)
  ·exact .s (pt 0 1) (.s (iA d.Holder) (.bd (cc d.Holder 0 1) fun y2=>.lg ⟨_,_,_,rfl⟩))
  exact .lg ⟨_,_,_,rfl⟩
 rintro _ y3 ⟨q,u,j6,rfl⟩
 refine .u4 (.bg (fun t (y:Bool)=>∃ j9 an ao bm:A,t=[(bA y),j9,an,ao,bm]) ?_ ?_)
 ·refine .dg (fun ck=>?_) (fun ck=>?_)
  ·exact .s (pt 0 2) (.s (iA d.Until) (.st (bQ ..) (.lg ⟨_,_,_,_,rfl⟩)))
  exact .lg ⟨_,_,_,_,rfl⟩
 rintro _ y8 ⟨j9,an,ao,bm,rfl⟩
 refine .u4 (.uc (.bg (fun t (y:Bool)=>∃ bs ca cb:A,t=[(bA y),bs,ca,cb]) ?_ ?_))
 ·refine .dg (fun cm=>?_) (fun cm=>?_)
  ·exact .s (pt 0 2) (.s (iA d.Until) (.st (df ..) (.lg ⟨_,_,_,rfl⟩)))
  exact .lg ⟨_,_,_,rfl⟩
 rintro _ ds ⟨bs,ca,cb,rfl⟩
 exact .u4 (.lv rfl)
def Iq (d:ak) (h:Int) (p:Int):Option Bool:=Lw aC d h p
def zQ (C:OT):Prop:=∀ (d:ak) (h:Int) (p:Int),C 66 [(ag (ae d)),(iA h),(iA p)]=(Iq d h p).map fun y=>(bA y)
def hY (n:Nat) (v1:(List ak)) (v2:Int) (d:Int):Nat->Int->Option ((Int)⊕(Unit))
 | 0,_=>none
 | m+1,v4=>(bif (decide (v4<((v1.length:Int)))) then (some (decide (0<=v2))) else (some false)).bind fun h=>bif h then ((bw v1 v4).bind fun p=>bif (decide (v2<p.Until)) then (some ((Sum.inl v4))) else (hY n v1 v2 d m (wr .i64 (v4+1)))) else (some ((Sum.inr (()))))
theorem CC (v1:(List ak)) (v2:Int) (p:Int) {K:((Int)⊕(Unit))->Option γ} (x0:∀ (q:Int) (d:A) (s1:A) (h:A),J φ (kr (St.mk [(0,d),(1,s1),(4,(iA q)),(5,h)] [])) kL (K (Sum.inl q)) some) (x1:∀ (d:A) (s1:A) (s4:A) (h:A),J φ (kx 0 (St.mk [(0,d),(1,s1),(4,s4),(5,h)] [])) kL (K (Sum.inr (()))) some) :
  ∀ (m:Nat) (v4:Int),J φ (aH (cx C) (ec C n 8) (ey C n 8) (n+8) 67 0 0 0 kx kg kr kp m (St.mk [(0,(im (v1.map ae) false)),(1,(iA v2)),(4,(iA p)),(5,(iA v4))] [])) kL (hY n v1 v2 p m v4) K:=by
 intro m
 induction m with
 | zero=>intros; exact .nn
 | succ m ih =>
  intro v4
  refine .lp (JB ..) ?_
  unfold hY
  refine .st (dQ (e:=59)) (.st (aS ..) (.bg (fun t (y:Bool)=>∃ u j8:A,t=[(bA y),u,j8]) ?_ ?_))
  ·refine .dg (fun bs=>?_) (fun bs=>?_)
   ·exact .st (dB ..) (.lg ⟨_,_,rfl⟩)
   exact .lg ⟨_,_,rfl⟩
  rintro _ y6 ⟨u,j8,rfl⟩
  refine .uc (.uc (.uc (.aP (fun ca=>?_) (fun ca=>?_))))
  ·refine .bd (fJ (e:=59) (es:=3)) fun ad=>.s (A.ip [(iA ad.Until)]) (.s (iA ad.Until) (.st (aS ..) (.aP (fun cb=>?_) (fun cb=>?_))))
   ·exact .ex (x0 _ _ _ _)
   refine .st (aD ..) (.s [] (.cT (by kernel_rfl) ?_))
   exact ih _
  exact .ex (x1 _ _ _ _)
def Lx (n:Nat) (d:(List ak)) (h:Int):Option Int :=
 (hY n d h 0 (n+8) 0).bind fun zo=>match zo with | (Sum.inl p)=>some p | (Sum.inr _)=>some (-1)
theorem QO (C:OT) (n:Nat) (d:(List ak)) (h:Int):J (fun (o:R) y=>∃ v,o.1=.ret v/\aE o.2 v=(iA y)) (av (cx C) (ec C n 8) (ey C n 8) (n+8) 67 [(im (d.map ae) false),(iA h)] [] 0) some (Lx n d h) some:=by
 refine .lp (Rz ..) ?_
 unfold Lx
 refine .as (CC C n _ _ _ _  d h 0 ?_ ?_ _ 0)
 ·intro p q u ab
  exact .un rfl (.lv rfl)
 ·intro ad an ao bm
  exact .un rfl (.cT (by kernel_rfl) (.lv rfl))
def G5 (d:(List ak)) (h:Int):Option Int:=Lx aC d h
def zR (C:OT):Prop:=∀ (d:(List ak)) (h:Int),C 67 [(im (d.map ae) false),(iA h)]=(G5 d h).map fun y=>(iA y)
def jm (n:Nat) (v1:(List Bool)) (v2:Bool) (d:Int) (v4:Int):Nat->Int->Int->Option ((Int)⊕(Unit))
 | 0,_,_=>none
 | m+1,h,v6=>bif (decide (v6<((v1.length:Int)))) then ((bw v1 v6).bind fun p=>bif (p==v2) then (bif (h==d) then (some ((Sum.inl v6))) else (jm n v1 v2 d v4 m (wr .i64 (h+1)) (wr .i64 (v6+1)))) else (jm n v1 v2 d v4 m h (wr .i64 (v6+1)))) else (some ((Sum.inr (()))))
theorem CD (v1:(List Bool)) (v2:Bool) (u:Int) (v4:Int) {K:((Int)⊕(Unit))->Option γ} (x0:∀ (y:Int) (d:A) (s1:A) (s2:A) (h:A) (p:A),J φ (kr (St.mk [(0,d),(1,s1),(2,s2),(6,(iA y)),(7,h),(8,p)] [])) kL (K (Sum.inl y)) some) (x1:∀ (d:A) (s1:A) (s2:A) (s6:A) (h:A) (p:A),J φ (kx 0 (St.mk [(0,d),(1,s1),(2,s2),(6,s6),(7,h),(8,p)] [])) kL (K (Sum.inr (()))) some) :
  ∀ (m:Nat) (q:Int) (v6:Int),J φ (aH (cx C) (ec C n 8) (ey C n 8) (n+8) 68 0 0 0 kx kg kr kp m (St.mk [(0,(im (v1.map cB) false)),(1,(bA v2)),(2,(iA u)),(6,(iA v4)),(7,(iA q)),(8,(iA v6))] [])) kL (jm n v1 v2 u v4 m q v6) K:=by
 intro m
 induction m with
 | zero=>intros; exact .nn
 | succ m ih =>
  intro q v6
  refine .lp (JC ..) ?_
  unfold jm
  refine .st (dQ (e:=4)) (.st (aS ..) (.aP (fun bm=>?_) (fun bm=>?_)))
  ·refine .bd (fJ (e:=4) (es:=1)) fun y8=>.s (bA y8) (.s (bA (y8==v2)) (.aP (fun bs=>?_) (fun bs=>?_)))
   ·refine .st (aN ..) (.aP (fun ca=>?_) (fun ca=>?_))
    ·exact .ex (x0 _ _ _ _ _ _)
    refine .st (aD ..) (.st (aD ..) (.s [] (.cT (by kernel_rfl) ?_)))
    exact ih _ _
   refine .st (aD ..) (.s [] (.cT (by kernel_rfl) ?_))
   exact ih _ _
  exact .ex (x1 _ _ _ _ _ _)
def Ly (n:Nat) (d:(List Bool)) (h:Bool) (p:Int):Option Int :=
 (jm n d h p 0 (n+8) 0 0).bind fun BH=>match BH with | (Sum.inl q)=>some q | (Sum.inr _)=>some (-1)
theorem QP (C:OT) (n:Nat) (d:(List Bool)) (h:Bool) (p:Int):J (fun (o:R) y=>∃ v,o.1=.ret v/\aE o.2 v=(iA y)) (av (cx C) (ec C n 8) (ey C n 8) (n+8) 68 [(im (d.map cB) false),(bA h),(iA p)] [] 0) some (Ly n d h p) some:=by
 refine .lp (RA ..) ?_
 unfold Ly
 refine .as (CD C n _ _ _ _  d h p 0 ?_ ?_ _ 0 0)
 ·intro q u ab ad an ao
  exact .un rfl (.lv rfl)
 ·intro bm bs ca cb cc ch
  exact .un rfl (.cT (by kernel_rfl) (.lv rfl))
def Ee (d:(List Bool)) (h:Bool) (p:Int):Option Int:=Ly aC d h p
def zS (C:OT):Prop:=∀ (d:(List Bool)) (h:Bool) (p:Int),C 68 [(im (d.map cB) false),(bA h),(iA p)]=(Ee d h p).map fun y=>(iA y)
def jj (n:Nat) (p:Bool) (h:aj):Nat->Int->Int->Option ((Bool)⊕(Unit))
 | 0,_,_=>none
 | m+1,q,d=>bif (decide (d<((h.Leases.length:Int)))) then ((bw h.Leases d).bind fun u=>(Iq u d q).bind fun y=>bif (!y) then (some ((Sum.inl false))) else ((bw h.Leases d).bind fun ab=>jj n p h m ab.Until (wr .i64 (d+1)))) else (some ((Sum.inr (()))))
theorem vU (ch:vT C) (ck:zP C) (ao:zQ C) (cm:zR C) (cv:zS C) (q:Bool) (d:aj) {K:((Bool)⊕(Unit))->Option γ} (x0:∀ (o0:Bool) (s1:A) (u:A) (y:A),J φ (kr (St.mk [(1,s1),(2,(bA o0)),(3,u),(4,y)] [bx (aa d)])) kL (K (Sum.inl o0)) some) (x1:∀ (u:A) (y:A),J φ (kx 0 (St.mk [(1,(pt 0 0)),(2,(bA q)),(3,u),(4,y)] [bx (aa d)])) kL (K (Sum.inr (()))) some) :
  ∀ (m:Nat) (h:Int) (p:Int),J φ (aH (cx C) (ec C n 8) (ey C n 8) (n+8) 35 0 0 1 kx kg kr kp m (St.mk [(1,(pt 0 0)),(2,(bA q)),(3,(iA h)),(4,(iA p))] [bx (aa d)])) kL (jj n q d m h p) K:=by
 intro m
 induction m with
 | zero=>intros; exact .nn
 | succ m ih =>
  intro h p
  refine .lp (Jx ..) ?_
  unfold jj
  refine .s (pt 0 1) (.s (im (d.Leases.map ae) false) (.st (dQ (e:=59)) (.st (aS ..) (.aP (fun ca=>?_) (fun ca=>?_)))))
  ·refine .s (pt 0 1) (.s (im (d.Leases.map ae) false) (.bd (fJ (e:=59) (es:=3)) fun ad=>.s (ag (ae ad)) (.bd (ao ad p h) fun cb=>.s (bA (!cb)) (.aP (fun cc=>?_) (fun cc=>?_)))))
   ·exact .ex (x0 _ _ _ _)
   refine .s (pt 0 1) (.s (im (d.Leases.map ae) false) (.bd (fJ (e:=59) (es:=3)) fun an=>.s (A.ip [(iA an.Until)]) (.s (iA an.Until) (.st (aD ..) (.s [bx (aa d)] (.cT (by kernel_rfl) ?_))))))
   exact ih _ _
  exact .ex (x1 _ _)
def dm (n:Nat) (q:Bool) (h:aj):Nat->Int->Option ((Bool×Int×Int)⊕(Unit))
 | 0,_=>none
 | m+1,p=>bif (decide (p<((h.Calls.length:Int)))) then ((bw h.Calls p).bind fun d=>bif (decide (0<p)) then ((bw h.Calls (wr .i64 (p - 1))).bind fun ab=>(some (decide (d.Bar<=ab.Bar))).bind fun ad=>(bif ad then (some true) else ((Ev d.Program 1 8).bind fun an=>some (!an))).bind fun ao=>bif ao then (some ((Sum.inl ((false,d.Bar,d.Program))))) else ((G5 h.Leases d.Bar).bind fun u=>bif (decide (u<0)) then (some ((Sum.inl ((false,d.Bar,d.Program))))) else ((bw h.Leases u).bind fun bm=>bif (bm.Holder != h.Self) then ((some true).bind fun bs=>bif bs then (some ((Sum.inl ((false,d.Bar,d.Program))))) else (dm n q h m (wr .i64 (p+1)))) else ((Ee h.Order true u).bind fun ca=>((Ee h.Order false p).bind fun cb=>some (decide (cb<ca))).bind fun cc=>bif cc then (some ((Sum.inl ((false,d.Bar,d.Program))))) else (dm n q h m (wr .i64 (p+1))))))) else ((some false).bind fun ch=>(bif ch then (some true) else ((Ev d.Program 1 8).bind fun ck=>some (!ck))).bind fun cm=>bif cm then (some ((Sum.inl ((false,d.Bar,d.Program))))) else ((G5 h.Leases d.Bar).bind fun y=>bif (decide (y<0)) then (some ((Sum.inl ((false,d.Bar,d.Program))))) else ((bw h.Leases y).bind fun cv=>bif (cv.Holder != h.Self) then ((some true).bind fun cy=>bif cy then (some ((Sum.inl ((false,d.Bar,d.Program))))) else (dm n q h m (wr .i64 (p+1)))) else ((Ee h.Order true y).bind fun dd=>((Ee h.Order false p).bind fun ds=>some (decide (ds<dd))).bind fun ea=>bif ea then (some ((Sum.inl ((false,d.Bar,d.Program))))) else (dm n q h m (wr .i64 (p+1)))))))) else (some ((Sum.inr (()))))
theorem vV (cb:vT C) (kt:zP C) (la:zQ C) (cc:zR C) (u:zS C) (ch:Bool) (d:aj) {K:((Bool×Int×Int)⊕(Unit))->Option γ} (p:∀ (o0:Bool) (o1:Int) (o2:Int) (s1:A) (s5:A),J φ (kr (St.mk [(1,s1),(2,(bA o0)),(5,s5)] [bx (aa d),bx [(iA o1),(iA o2)]])) kL (K (Sum.inl ((o0,o1,o2)))) some) (x1:∀ (s1:A) (s2:A) (s5:A),J φ (kx 2 (St.mk [(1,s1),(2,s2),(5,s5)] [bx (aa d)])) kL (K (Sum.inr (()))) some) :
  ∀ (m:Nat) (q:Int),J φ (aH (cx C) (ec C n 8) (ey C n 8) (n+8) 35 0 1 1 kx kg kr kp m (St.mk [(1,(pt 0 0)),(2,(bA ch)),(5,(iA q))] [bx (aa d)])) kL (dm n ch d m q) K:=by
 intro m
 induction m with
 | zero=>intros; exact .nn
 | succ m ih =>
  intro q
  refine .lp (Jy ..) ?_
  unfold dm
  refine .s (pt 0 2) (.s (im (d.Calls.map ah) false) (.st (dQ (e:=62)) (.st (aS ..) (.aP (fun hr=>?_) (fun hr=>?_)))))
  ·refine .s (pt 0 2) (.s (im (d.Calls.map ah) false) (.bd (fJ (e:=62) (es:=2)) fun h=>.s (ag [(iA h.Bar),(iA h.Program)]) (.sq (pt 1 0) (.s [bx (aa d),bx [(iA h.Bar),(iA h.Program)]] (.st (bQ ..) (.JZ (fun ad=>?_) (fun ad=>?_)))))))
   ·refine .bb (.s (pt 1 0) (.s (iA h.Bar) (.s (pt 0 2) (.s (im (d.Calls.map ah) false) (.st (cX ..) (.bd (fJ (e:=62) (es:=2)) fun an=>.s (A.ip [(iA an.Bar),(iA an.Program)]) (.s (iA an.Bar) (.cr (.u4 (.u4 (.uc (.bg (fun t (y:Bool)=>∃ cy:A,t=[(bA y),cy]) ?_ ?_))))))))))))
    ·exact .vN ad (.st (df ..) (.lg ⟨_,rfl⟩))
    rintro _ lb ⟨cy,rfl⟩
    refine .uc (.uc (.bg (fun t (y:Bool)=>∃ dd ds ea eg:A,t=[(bA y),dd,ds,ea,eg]) ?_ ?_))
    ·refine .dg (fun hs=>?_) (fun hs=>?_)
     ·exact .lg ⟨_,_,_,_,rfl⟩
     exact .s (pt 1 1) (.s (iA h.Program) (.bd (cb h.Program 1 8) fun ht=>.s (bA (!ht)) (.lg ⟨_,_,_,_,rfl⟩)))
    rintro _ lx ⟨dd,ds,ea,eg,rfl⟩
    refine .u4 (.uc (.aP (fun hv=>?_) (fun hv=>?_)))
    ·exact .ex (p _ _ _ _ _)
    refine .s (pt 0 1) (.s (im (d.Leases.map ae) false) (.s (pt 1 0) (.s (iA h.Bar) (.bd (g:=fun (y:Int)=>(iA y)) (by show C 67 [snap _ (im (d.Leases.map ae) false),snap _ (iA h.Bar)]=_; simp only[cR,dS]; exact cc d.Leases h.Bar) fun ei=>.st (aS ..) (.aP (fun hx=>?_) (fun hx=>?_))))))
    ·exact .ex (p _ _ _ _ _)
    refine .s (pt 0 1) (.s (im (d.Leases.map ae) false) (.bd (fJ (e:=59) (es:=3)) fun ao=>.s (A.ip [(iA ao.Holder),(iA ao.Until)]) (.s (iA ao.Holder) (.s (pt 0 0) (.s (iA d.Self) (.st (ba ..) (.BR (fun bm=>?_) (fun bm=>?_))))))))
    ·refine .bb (.s (pt 0 3) (.s (im (d.Order.map cB) false) (.bd (g:=fun (y:Int)=>(iA y)) (by show C 68 [snap _ (im (d.Order.map cB) false),snap _ (bA true),snap _ (iA ei)]=_; simp only[cR,dS]; exact u d.Order true ei) fun ly=>.s (pt 0 3) (.s (im (d.Order.map cB) false) (.cr (.u4 (.uc (.uc (.uc (.bg (fun t (y:Bool)=>∃ ej fs:A,t=[(bA y),ej,fs]) ?_ ?_))))))))))
     ·exact .wo bm (.bd (g:=fun (y:Int)=>(iA y)) (by show C 68 [snap _ (im (d.Order.map cB) false),snap _ (bA false),snap _ (iA q)]=_; simp only[cR,dS]; exact u d.Order false q) fun mn=>.st (bQ ..) (.lg ⟨_,_,rfl⟩))
     rintro _ mx ⟨ej,fs,rfl⟩
     refine .uc (.uc (.uc (.aP (fun hy=>?_) (fun hy=>?_))))
     ·exact .ex (p _ _ _ _ _)
     refine .st (aD ..) (.st (v:=[bx (aa d)]) ((by kernel_rfl:_=(bif ((((au 1 (d.Leases.map ae))&&((au 1 (d.Calls.map ah))&&((au 1 (d.Order.map cB))&&true))))&&true) then some [bx (aa d)] else none)).trans (by simp only[iC,iD])) (.cT (by kernel_rfl) ?_))
     exact ih _
    refine .bb (.cr (.u4 (.uc (.uc (.uc (.bg (fun t (y:Bool)=>∃ fv gf:A,t=[(bA y),fv,gf]) ?_ ?_))))))
    ·exact .vN bm (.lg ⟨_,_,rfl⟩)
    rintro _ nb ⟨fv,gf,rfl⟩
    refine .uc (.uc (.uc (.aP (fun ie=>?_) (fun ie=>?_))))
    ·exact .ex (p _ _ _ _ _)
    refine .st (aD ..) (.st (v:=[bx (aa d)]) ((by kernel_rfl:_=(bif ((((au 1 (d.Leases.map ae))&&((au 1 (d.Calls.map ah))&&((au 1 (d.Order.map cB))&&true))))&&true) then some [bx (aa d)] else none)).trans (by simp only[iC,iD])) (.cT (by kernel_rfl) ?_))
    exact ih _
   refine .bb (.cr (.u4 (.u4 (.uc (.bg (fun t (y:Bool)=>∃ ha:A,t=[(bA y),ha]) ?_ ?_)))))
   ·exact .wo ad (.lg ⟨_,rfl⟩)
   rintro _ nf ⟨ha,rfl⟩
   refine .uc (.uc (.bg (fun t (y:Bool)=>∃ hd hf hg hh:A,t=[(bA y),hd,hf,hg,hh]) ?_ ?_))
   ·refine .dg (fun ik=>?_) (fun ik=>?_)
    ·exact .lg ⟨_,_,_,_,rfl⟩
    exact .s (pt 1 1) (.s (iA h.Program) (.bd (cb h.Program 1 8) fun js=>.s (bA (!js)) (.lg ⟨_,_,_,_,rfl⟩)))
   rintro _ ni ⟨hd,hf,hg,hh,rfl⟩
   refine .u4 (.uc (.aP (fun kc=>?_) (fun kc=>?_)))
   ·exact .ex (p _ _ _ _ _)
   refine .s (pt 0 1) (.s (im (d.Leases.map ae) false) (.s (pt 1 0) (.s (iA h.Bar) (.bd (g:=fun (y:Int)=>(iA y)) (by show C 67 [snap _ (im (d.Leases.map ae) false),snap _ (iA h.Bar)]=_; simp only[cR,dS]; exact cc d.Leases h.Bar) fun hi=>.st (aS ..) (.aP (fun kk=>?_) (fun kk=>?_))))))
   ·exact .ex (p _ _ _ _ _)
   refine .s (pt 0 1) (.s (im (d.Leases.map ae) false) (.bd (fJ (e:=59) (es:=3)) fun bs=>.s (A.ip [(iA bs.Holder),(iA bs.Until)]) (.s (iA bs.Holder) (.s (pt 0 0) (.s (iA d.Self) (.st (ba ..) (.BR (fun ca=>?_) (fun ca=>?_))))))))
   ·refine .bb (.s (pt 0 3) (.s (im (d.Order.map cB) false) (.bd (g:=fun (y:Int)=>(iA y)) (by show C 68 [snap _ (im (d.Order.map cB) false),snap _ (bA true),snap _ (iA hi)]=_; simp only[cR,dS]; exact u d.Order true hi) fun ns=>.s (pt 0 3) (.s (im (d.Order.map cB) false) (.cr (.u4 (.uc (.uc (.uc (.bg (fun t (y:Bool)=>∃ hj hk:A,t=[(bA y),hj,hk]) ?_ ?_))))))))))
    ·exact .wo ca (.bd (g:=fun (y:Int)=>(iA y)) (by show C 68 [snap _ (im (d.Order.map cB) false),snap _ (bA false),snap _ (iA q)]=_; simp only[cR,dS]; exact u d.Order false q) fun nt=>.st (bQ ..) (.lg ⟨_,_,rfl⟩))
    rintro _ oa ⟨hj,hk,rfl⟩
    refine .uc (.uc (.uc (.aP (fun kn=>?_) (fun kn=>?_))))
    ·exact .ex (p _ _ _ _ _)
    refine .st (aD ..) (.st (v:=[bx (aa d)]) ((by kernel_rfl:_=(bif ((((au 1 (d.Leases.map ae))&&((au 1 (d.Calls.map ah))&&((au 1 (d.Order.map cB))&&true))))&&true) then some [bx (aa d)] else none)).trans (by simp only[iC,iD])) (.cT (by kernel_rfl) ?_))
    exact ih _
   refine .bb (.cr (.u4 (.uc (.uc (.uc (.bg (fun t (y:Bool)=>∃ ho hp:A,t=[(bA y),ho,hp]) ?_ ?_))))))
   ·exact .vN ca (.lg ⟨_,_,rfl⟩)
   rintro _ oc ⟨ho,hp,rfl⟩
   refine .uc (.uc (.uc (.aP (fun ko=>?_) (fun ko=>?_))))
   ·exact .ex (p _ _ _ _ _)
   refine .st (aD ..) (.st (v:=[bx (aa d)]) ((by kernel_rfl:_=(bif ((((au 1 (d.Leases.map ae))&&((au 1 (d.Calls.map ah))&&((au 1 (d.Order.map cB))&&true))))&&true) then some [bx (aa d)] else none)).trans (by simp only[iC,iD])) (.cT (by kernel_rfl) ?_))
   exact ih _
  exact .ex (x1 _ _ _)
def Ll (n:Nat) (d:aj):Option Bool :=
 (Ev d.Self 0 1).bind fun h=>(bif (!h) then (some true) else ((Ev ((d.Leases.length:Int)) 1 256).bind fun p=>some (!p))).bind fun q=>(bif q then (some true) else (some (((d.Order.length:Int)) != (wr .i64 (((d.Leases.length:Int))+((d.Calls.length:Int))))))).bind fun u=>bif u then ((some true).bind fun y=>(bif y then (some true) else ((bw d.Order 0).bind fun ab=>some (!ab))).bind fun ad=>bif ad then (some false) else ((jj n false d (n+8) 0 0).bind fun an=>match an with | (Sum.inl ao)=>some ao | (Sum.inr _)=>(dm n false d (n+8) 0).bind fun bm=>match bm with | (Sum.inl ((bs,dd,ds)))=>some bs | (Sum.inr _)=>some true)) else ((IY d.Order).bind fun ca=>(some (ca != ((d.Leases.length:Int)))).bind fun cb=>(bif cb then (some true) else ((bw d.Order 0).bind fun cc=>some (!cc))).bind fun ch=>bif ch then (some false) else ((jj n false d (n+8) 0 0).bind fun ck=>match ck with | (Sum.inl cm)=>some cm | (Sum.inr _)=>(dm n false d (n+8) 0).bind fun cv=>match cv with | (Sum.inl ((cy,ea,eg)))=>some cy | (Sum.inr _)=>some true))
theorem QC (C:OT) (n:Nat) (h:vT C) (p:zP C) (q:zQ C) (u:zR C) (ab:zS C) (d:aj):J (fun (o:R) y=>∃ v,o.1=.ret v/\aE o.2 v=(bA y)) (av (cx C) (ec C n 8) (ey C n 8) (n+8) 35 [(ag (aa d))] [] 0) some (Ll n d) some:=by
 refine .lp (Ri ..) ?_
 unfold Ll
 refine .s ((pt 0 0),[bx (aa d)]) (.s (pt 0 0) (.s (iA d.Self) (.bd (h d.Self 0 1) fun y1=>.s (bA (!y1)) (.bg (fun t (y:Bool)=>∃ j5 j6 j7 j8 j9:A,t=[(bA y),j5,j6,j7,j8,j9]) ?_ ?_))))
 ·refine .dg (fun hq=>?_) (fun hq=>?_)
  ·exact .lg ⟨_,_,_,_,_,rfl⟩
  exact .s (pt 0 1) (.s (im (d.Leases.map ae) false) (.st (dQ (e:=59)) (.bd (h ((d.Leases.length:Int)) 1 256) fun y3=>.s (bA (!y3)) (.lg ⟨_,_,_,_,_,rfl⟩))))
 rintro _ y4 ⟨j5,j6,j7,j8,j9,rfl⟩
 refine .u4 (.uc (.uc (.bg (fun t (y:Bool)=>∃ cb cc ch ck cm cv cy dd ds ea eg:A,t=[(bA y),cb,cc,ch,ck,cm,cv,cy,dd,ds,ea,eg]) ?_ ?_)))
 ·refine .dg (fun hs=>?_) (fun hs=>?_)
  ·exact .lg ⟨_,_,_,_,_,_,_,_,_,_,_,rfl⟩
  exact .s (pt 0 3) (.s (im (d.Order.map cB) false) (.st (dQ (e:=4)) (.s (pt 0 1) (.s (im (d.Leases.map ae) false) (.st (dQ (e:=59)) (.s (pt 0 2) (.s (im (d.Calls.map ah) false) (.st (dQ (e:=62)) (.st (aD ..) (.st (ba ..) (.lg ⟨_,_,_,_,_,_,_,_,_,_,_,rfl⟩)))))))))))
 rintro _ ih ⟨cb,cc,ch,ck,cm,cv,cy,dd,ds,ea,eg,rfl⟩
 refine .u4 (.u4 (.u4 (.BR (fun ad=>?_) (fun ad=>?_))))
 ·refine .bb (.s (pt 0 3) (.s (im (d.Order.map cB) false) (.bd (g:=fun (y:Int)=>(iA y)) (by show C 65 [snap _ (im (d.Order.map cB) false)]=_; simp only[cR,dS]; exact p d.Order) fun ik=>.s (pt 0 1) (.s (im (d.Leases.map ae) false) (.st (dQ (e:=59)) (.cr (.u4 (.uc (.uc (.bg (fun t (y:Bool)=>∃ ei:A,t=[(bA y),ei]) ?_ ?_))))))))))
  ·exact .wo ad (.st (ba ..) (.lg ⟨_,rfl⟩))
  rintro _ js ⟨ei,rfl⟩
  refine .uc (.uc (.bg (fun t (y:Bool)=>∃ ej fs fv gf ha:A,t=[(bA y),ej,fs,fv,gf,ha]) ?_ ?_))
  ·refine .dg (fun ht=>?_) (fun ht=>?_)
   ·exact .lg ⟨_,_,_,_,_,rfl⟩
   exact .s (pt 0 3) (.s (im (d.Order.map cB) false) (.bd (fJ (e:=4) (es:=1)) fun hd=>.s (bA hd) (.s (bA (!hd)) (.lg ⟨_,_,_,_,_,rfl⟩))))
  rintro _ kc ⟨ej,fs,fv,gf,ha,rfl⟩
  refine .u4 (.uc (.uc (.aP (fun hv=>?_) (fun hv=>?_))))
  ·exact .lv rfl
  refine .as (vU C n _ _ _ _ h p q u ab false d ?_ ?_ _ 0 0)
  ·intro kk kn ko kt
   exact .un rfl (.lv rfl)
  ·intro la lb
   refine .un rfl (.cT (by kernel_rfl) (.as (vV C n _ _ _ _ h p q u ab false d ?_ ?_ _ 0)))
   ·intro lx ly mn mx nb
    exact .un rfl (.lv rfl)
   ·intro nf ni ns
    exact .un rfl (.cT (by kernel_rfl) (.lv rfl))
 refine .bb (.cr (.u4 (.uc (.uc (.bg (fun t (y:Bool)=>∃ hf:A,t=[(bA y),hf]) ?_ ?_)))))
 ·exact .vN ad (.lg ⟨_,rfl⟩)
 rintro _ nt ⟨hf,rfl⟩
 refine .uc (.uc (.bg (fun t (y:Bool)=>∃ hg hh hi hj hk:A,t=[(bA y),hg,hh,hi,hj,hk]) ?_ ?_))
 ·refine .dg (fun hx=>?_) (fun hx=>?_)
  ·exact .lg ⟨_,_,_,_,_,rfl⟩
  exact .s (pt 0 3) (.s (im (d.Order.map cB) false) (.bd (fJ (e:=4) (es:=1)) fun ho=>.s (bA ho) (.s (bA (!ho)) (.lg ⟨_,_,_,_,_,rfl⟩))))
 rintro _ oa ⟨hg,hh,hi,hj,hk,rfl⟩
 refine .u4 (.uc (.uc (.aP (fun hy=>?_) (fun hy=>?_))))
 ·exact .lv rfl
 refine .as (vU C n _ _ _ _ h p q u ab false d ?_ ?_ _ 0 0)
 ·intro oc oi oj oo
  exact .un rfl (.lv rfl)
 ·intro oq pc
  refine .un rfl (.cT (by kernel_rfl) (.as (vV C n _ _ _ _ h p q u ab false d ?_ ?_ _ 0)))
  ·intro ps qi qv sa sb
   exact .un rfl (.lv rfl)
  ·intro si sk so
   exact .un rfl (.cT (by kernel_rfl) (.lv rfl))
def Ik (d:aj):Option Bool:=Ll aC d
def zN (C:OT):Prop:=∀ (d:aj),C 35 [(ag (aa d))]=(Ik d).map fun y=>(bA y)
def Li (n:Nat) (d:aj):Option Int :=
 (Ik d).bind fun h=>bif (!h) then (some 530) else (some 0)
theorem Qx (C:OT) (n:Nat) (h:zN C) (d:aj):J (fun (o:R) y=>∃ v,o.1=.ret v/\aE o.2 v=(iA y)) (av (cx C) (ec C n 8) (ey C n 8) (n+8) 30 [(ag (aa d))] [] 0) some (Li n d) some:=by
 refine .lp (Rd ..) ?_
 unfold Li
 refine .s ((pt 0 0),[bx (aa d)]) (.s (ag (aa d)) (.bd (g:=fun (y:Bool)=>(bA y)) (by show C 35 [snap _ (ag (aa d))]=_; simp only[cR,dS]; exact h d) fun p=>.s (bA (!p)) (.aP (fun q=>?_) (fun q=>?_))))
 ·exact .lv rfl
 exact .lv rfl
def IU (d:aj):Option Int:=Li aC d
def FZ (C:OT):Prop:=∀ (d:aj),C 30 [(ag (aa d))]=(IU d).map fun y=>(iA y)
def MJ (n:Nat) (d:Int):Option ai :=
 some ((ai.mk 1 d eH ([])))
theorem QT (C:OT) (n:Nat) (d:Int):J (fun (o:R) y=>∃ v,o.1=.ret v/\aE o.2 v=(ag [(iA y.Kind),(iA y.N),(sA y.S),(im (y.L.map af) false)])) (av (cx C) (ec C n 8) (ey C n 8) (n+8) 78 [(iA d)] [] 0) some (MJ n d) some:=by
 refine .lp (RF ..) ?_
 unfold MJ
 exact .sq (pt 0 0) (.s (ag [(iA 1),(iA d),se,(im [] true)]) (.s [bx [(iA 1),(iA d),se,(im [] true)]] (.s (ag [(iA 1),(iA d),se,(im [] true)]) (.lv (by show aE _ (ag [(iA 1),(iA d),se,(im [] true)])=_; simp only[cR,jL,aE]; first | done | rfl)))))
def LG (d:Int):Option ai:=MJ aC d
def Cf (C:OT):Prop:=∀ (d:Int),C 78 [(iA d)]=(LG d).map fun y=>(ag [(iA y.Kind),(iA y.N),(sA y.S),(im (y.L.map af) false)])
def nc (d:(List ai)):aA:=bx [(iA 3),(iA 0),se,(aX 2 0 d.length false)]
def jl (n:Nat) (v1:(List Int)) (d:Int) (v4:Int) (h:ByteArray) (v6:(List ai)) (p:Int) (q:Int) (u:ByteArray):Nat->Int->(List ai)->Option ((List ai))
 | 0,_,_=>none
 | m+1,v2,v10=>bif (decide (v2<((v1.length:Int)))) then ((bw v1 v2).bind fun y=>(LG y).bind fun ab=>(cQ 56 v10 ([ab])).bind fun ad=>jl n v1 d v4 h v6 p q u m (wr .i64 (v2+1)) ad) else (some v10)
theorem CA (bm:Cf C) (v1:(List Int)) (h:Int) (v4:Int) (p:ByteArray) (v6:(List ai)) (q:Int) (u:Int) (v9:ByteArray) {K:((List ai))->Option γ} (x0:∀ (o0:(List ai)) (s0:A) (s4:A),J φ (kx 0 (St.mk [(0,s0),(2,(pt 0 0)),(3,(pt 1 0)),(4,s4)] [bx [(iA h),(iA v4),(sA p),(im (v6.map af) true)],bx [(iA q),(iA u),(sA v9),(aX 2 0 o0.length false)],aA.row false 4 (o0.map af)])) kL (K o0) some) :
  ∀ (m:Nat) (v2:Int) (v10:(List ai)),J φ (aH (cx C) (ec C n 8) (ey C n 8) (n+8) 57 0 0 3 kx kg kr kp m (St.mk [(0,(im (v1.map (cI .i64)) false)),(2,(pt 0 0)),(3,(pt 1 0)),(4,(iA v2))] [bx [(iA h),(iA v4),(sA p),(im (v6.map af) true)],bx [(iA q),(iA u),(sA v9),(aX 2 0 v10.length false)],aA.row false 4 (v10.map af)])) kL (jl n v1 h v4 p v6 q u v9 m v2 v10) K:=by
 intro m
 induction m with
 | zero=>intros; exact .nn
 | succ m ih =>
  intro v2 v10
  refine .lp (Jz ..) ?_
  unfold jl
  refine .st (dQ (e:=3)) (.st (aS ..) (.aP (fun cc=>?_) (fun cc=>?_)))
  ·refine .s (pt 1 3) (.s (aX 2 0 v10.length false) (.bd (fJ (e:=3) (es:=1)) fun an=>.s (iA an) (.bd (bm an) fun d=>.s (im [[(iA d.Kind),(iA d.N),(sA d.S),(im (d.L.map af) false)]] true) (.bd (g:=fun (y:List ai)=>((aX 2 0 y.length false),[bx [(iA h),(iA v4),(sA p),(im (v6.map af) true)],bx [(iA q),(iA u),(sA v9),(aX 2 0 v10.length false)],aA.row false 4 (y.map af)])) (bV iT (l:=v10) (l2:=[d]) (b:=2) rfl (by decide) (iU (f:=af) (l:=([d]:List ai)) (by simp only[List.map_cons,List.map_nil,dU]))) fun ao=>.s (pt 1 3) (.sh (.st (aD ..) (.s [bx [(iA h),(iA v4),(sA p),(im (v6.map af) true)],bx [(iA q),(iA u),(sA v9),(aX 2 0 ao.length false)],aA.row false 4 (ao.map af)] (.cT (by kernel_rfl) ?_))))))))
   exact ih _ _
  exact .ex (x0 _ _ _)
def Lq (n:Nat) (d:(List Int)):Option ai :=
 (jl n d 0 0 eH ([]) 3 0 eH (n+8) 0 (([]:List ai))).bind fun Eh=>match Eh with | h=>some ((ai.mk 3 0 eH h))
theorem QH (C:OT) (n:Nat) (p:Cf C) (h:(List Int)):J (fun (o:R) y=>∃ v,o.1=.ret v/\aE o.2 v=(ag [(iA y.Kind),(iA y.N),(sA y.S),(im (y.L.map af) false)])) (av (cx C) (ec C n 8) (ey C n 8) (n+8) 57 [(im (h.map (cI .i64)) false)] [] 0) some (Lq n h) some:=by
 refine .lp (Ro ..) ?_
 unfold Lq
 refine .sq (pt 0 0) (.s (ag [(iA 3),(iA 0),se,(im [] true)]) (.sq (pt 1 0) (.s [bx [(iA 0),(iA 0),se,(im [] true)],bx [(iA 3),(iA 0),se,(im [] true)]] (.as (CA C n _ _ _ _ p h 0 0 eH ([]) 3 0 eH ?_ _ 0 (([]:List ai)))))))
 ·intro d q u
  exact .un rfl (.cT (by kernel_rfl) (.s (ag [(iA 3),(iA 0),se,(aX 2 0 d.length false)]) (.s [(nc d),(nc d),aA.row false 4 (d.map af)] (.s (ag [(iA 3),(iA 0),se,(aX 2 0 d.length false)]) (.lv (by show aE [(nc d),(nc d),aA.row false 4 (d.map af)] (ag [(iA 3),(iA 0),se,(aX 2 0 d.length false)])=_; first | (simp only[cR,dS,aE,aV (H:=[(nc d),(nc d),aA.row false 4 (d.map af)]) (b:=2) (es:=4) (wr:=false) (l:=d) bM rfl]; done) | (simp only[cR,jL,aE,aV (H:=[(nc d),(nc d),aA.row false 4 (d.map af)]) (b:=2) (es:=4) (wr:=false) (l:=d) bM rfl]; first | done | rfl)))))))
def Ip (d:(List Int)):Option ai:=Lq aC d
def Cb (C:OT):Prop:=∀ (d:(List Int)),C 57 [(im (d.map (cI .i64)) false)]=(Ip d).map fun y=>(ag [(iA y.Kind),(iA y.N),(sA y.S),(im (y.L.map af) false)])
def xZ (C:OT) (self:ai->Option Bool):Prop:=∀ (d:ai),C 97 [(ag [(iA d.Kind),(iA d.N),(sA d.S),(im (d.L.map af) false)])]=(self d).map fun y=>(bA y)
def jv (self:ai->Option Bool) (n:Nat) (p:Bool) (d:ai):Nat->Int->Option ((Bool)⊕(Unit))
 | 0,_=>none
 | m+1,h=>bif (decide (h<((d.L.length:Int)))) then ((bw d.L h).bind fun q=>(self q).bind fun u=>bif (!u) then (some ((Sum.inl false))) else (jv self n p d m (wr .i64 (h+1)))) else (some ((Sum.inr (()))))
theorem CH (self:ai->Option Bool) (hS:xZ C self) (u:Bool) (d:ai) {K:((Bool)⊕(Unit))->Option γ} (x0:∀ (o0:Bool) (s1:A) (p:A),J φ (kr (St.mk [(1,s1),(2,(bA o0)),(3,p)] [bx [(iA d.Kind),(iA d.N),(sA d.S),(im (d.L.map af) false)]])) kL (K (Sum.inl o0)) some) (x1:∀ (s2:A) (p:A),J φ (kx 1 (St.mk [(1,(pt 0 0)),(2,s2),(3,p)] [bx [(iA d.Kind),(iA d.N),(sA d.S),(im (d.L.map af) false)]])) kL (K (Sum.inr (()))) some) :
  ∀ (m:Nat) (q:Int),J φ (aH (cx C) (ec C n 8) (ey C n 8) (n+8) 97 0 0 1 kx kg kr kp m (St.mk [(1,(pt 0 0)),(2,(bA u)),(3,(iA q))] [bx [(iA d.Kind),(iA d.N),(sA d.S),(im (d.L.map af) false)]])) kL (jv self n u d m q) K:=by
 intro m
 induction m with
 | zero=>intros; exact .nn
 | succ m ih =>
  intro q
  refine .lp (JH ..) ?_
  unfold jv
  refine .s (pt 0 3) (.s (im (d.L.map af) false) (.st (dQ (e:=98)) (.st (aS ..) (.aP (fun ao=>?_) (fun ao=>?_)))))
  ·refine .s (pt 0 3) (.s (im (d.L.map af) false) (.bd ((fJ (e:=98) (es:=4)).trans (eR _)) fun h=>.s (ag [(iA h.Kind),(iA h.N),(sA h.S),(im (h.L.map af) false)]) (.bd (g:=fun (y:Bool)=>(bA y)) (by show C 97 [snap _ (ag [(iA h.Kind),(iA h.N),(sA h.S),(im (h.L.map af) false)])]=_; simp only[cR,dS]; exact hS h) fun bm=>.s (bA (!bm)) (.aP (fun bs=>?_) (fun bs=>?_)))))
   ·exact .ex (x0 _ _ _)
   refine .st (aD ..) (.s [bx [(iA d.Kind),(iA d.N),(sA d.S),(im (d.L.map af) false)]] (.cT (by kernel_rfl) ?_))
   exact ih _
  exact .ex (x1 _ _)
def IK (self:ai->Option Bool) (n:Nat) (d:ai):Option Bool :=
 bif (d.Kind==1) then ((bif (iQ d.S ((ByteArray.mk #[]))) then (some (((d.L.length:Int))==0)) else (some false)).bind fun h=>some h) else (bif (d.Kind==2) then ((bif (d.N==0) then (some (((d.L.length:Int))==0)) else (some false)).bind fun p=>some p) else (bif (d.Kind==3) then ((jv self n false d (n+8) 0).bind fun q=>match q with | (Sum.inl u)=>some u | (Sum.inr _)=>(bif (d.N==0) then (some (iQ d.S ((ByteArray.mk #[])))) else (some false)).bind fun y=>some y) else (some false)))
theorem QY (C:OT) (n:Nat) (self:ai->Option Bool) (hS:xZ C self) (d:ai):J (fun (o:R) y=>∃ v,o.1=.ret v/\aE o.2 v=(bA y)) (av (cx C) (ec C n 8) (ey C n 8) (n+8) 97 [(ag [(iA d.Kind),(iA d.N),(sA d.S),(im (d.L.map af) false)])] [] 0) some (IK self n d) some:=by
 refine .lp (RO ..) ?_
 unfold IK
 refine .s ((pt 0 0),[bx [(iA d.Kind),(iA d.N),(sA d.S),(im (d.L.map af) false)]]) (.s (pt 0 0) (.s (iA d.Kind) (.st (aN ..) (.aP (fun cb=>?_) (fun cb=>?_)))))
 ·refine .s (pt 0 2) (.s (sA d.S) (.st (lM ..) (.bg (fun t (y:Bool)=>∃ h p q u:A,t=[(bA y),h,p,q,u]) ?_ ?_)))
  ·refine .dg (fun cc=>?_) (fun cc=>?_)
   ·exact .s (pt 0 3) (.s (im (d.L.map af) false) (.st (dQ (e:=98)) (.st (aN ..) (.lg ⟨_,_,_,_,rfl⟩))))
   exact .lg ⟨_,_,_,_,rfl⟩
  rintro _ y3 ⟨h,p,q,u,rfl⟩
  exact .u4 (.uc (.lv rfl))
 refine .st (aN ..) (.aP (fun ch=>?_) (fun ch=>?_))
 ·refine .s (pt 0 1) (.s (iA d.N) (.st (aN ..) (.bg (fun t (y:Bool)=>∃ ab ad an ao:A,t=[(bA y),ab,ad,an,ao]) ?_ ?_)))
  ·refine .dg (fun ck=>?_) (fun ck=>?_)
   ·exact .s (pt 0 3) (.s (im (d.L.map af) false) (.st (dQ (e:=98)) (.st (aN ..) (.lg ⟨_,_,_,_,rfl⟩))))
   exact .lg ⟨_,_,_,_,rfl⟩
  rintro _ dd ⟨ab,ad,an,ao,rfl⟩
  exact .u4 (.uc (.lv rfl))
 refine .st (aN ..) (.aP (fun cm=>?_) (fun cm=>?_))
 ·refine .as (CH C n _ _ _ _  self hS false d ?_ ?_ _ 0)
  ·intro ds ea eg
   exact .un rfl (.lv rfl)
  ·intro ei ej
   refine .un rfl (.cT (by kernel_rfl) (.s (pt 0 1) (.s (iA d.N) (.st (aN ..) (.bg (fun t (y:Bool)=>∃ bm bs ca:A,t=[(bA y),bm,bs,ca]) ?_ ?_)))))
   ·refine .dg (fun cv=>?_) (fun cv=>?_)
    ·exact .s (pt 0 2) (.s (sA d.S) (.st (lM ..) (.lg ⟨_,_,_,rfl⟩)))
    exact .lg ⟨_,_,_,rfl⟩
   rintro _ fs ⟨bm,bs,ca,rfl⟩
   exact .u4 (.lv rfl)
 exact .lv rfl
def Gf:Nat->ai->Option Bool
 | 0=>fun _=>none
 | q+1=>fun a0=>IK (Gf q) aC a0
def LI (d:ai):Option Bool:=Gf aC d
def Ga (C:OT):Prop:=∀ (d:ai),C 97 [(ag [(iA d.Kind),(iA d.N),(sA d.S),(im (d.L.map af) false)])]=(LI d).map fun y=>(bA y)
def ya (C:OT) (self:ai->Option Int):Prop:=∀ (d:ai),C 98 [(ag [(iA d.Kind),(iA d.N),(sA d.S),(im (d.L.map af) false)])]=(self d).map fun y=>(iA y)
def jw (self:ai->Option Int) (n:Nat) (v2:Int) (d:ai):Nat->Int->Int->Option (Int)
 | 0,_,_=>none
 | m+1,h,v4=>bif (decide (v4<((d.L.length:Int)))) then ((bw d.L v4).bind fun q=>(self q).bind fun p=>jw self n v2 d m ((if h<p then p else h)) (wr .i64 (v4+1))) else (some h)
theorem CI (self:ai->Option Int) (hS:ya C self) (v2:Int) (d:ai) {K:(Int)->Option γ} (x0:∀ (q:Int) (s1:A) (s2:A) (s4:A),J φ (kx 0 (St.mk [(1,s1),(2,s2),(3,(iA q)),(4,s4)] [bx [(iA d.Kind),(iA d.N),(sA d.S),(im (d.L.map af) false)]])) kL (K q) some) :
  ∀ (m:Nat) (p:Int) (v4:Int),J φ (aH (cx C) (ec C n 8) (ey C n 8) (n+8) 98 0 0 1 kx kg kr kp m (St.mk [(1,(pt 0 0)),(2,(iA v2)),(3,(iA p)),(4,(iA v4))] [bx [(iA d.Kind),(iA d.N),(sA d.S),(im (d.L.map af) false)]])) kL (jw self n v2 d m p v4) K:=by
 intro m
 induction m with
 | zero=>intros; exact .nn
 | succ m ih =>
  intro p v4
  refine .lp (JI ..) ?_
  unfold jw
  refine .s (pt 0 3) (.s (im (d.L.map af) false) (.st (dQ (e:=98)) (.st (aS ..) (.aP (fun an=>?_) (fun an=>?_)))))
  ·refine .s (pt 0 3) (.s (im (d.L.map af) false) (.bd ((fJ (e:=98) (es:=4)).trans (eR _)) fun h=>.s (ag [(iA h.Kind),(iA h.N),(sA h.S),(im (h.L.map af) false)]) (.bd (g:=fun (y:Int)=>(iA y)) (by show C 98 [snap _ (ag [(iA h.Kind),(iA h.N),(sA h.S),(im (h.L.map af) false)])]=_; simp only[cR,dS]; exact hS h) fun u=>.s (iA ((if p<u then u else p))) (.st (aD ..) (.s [bx [(iA d.Kind),(iA d.N),(sA d.S),(im (d.L.map af) false)]] (.cT (by kernel_rfl) ?_))))))
   exact ih _ _
  exact .ex (x0 _ _ _ _)
def IL (self:ai->Option Int) (n:Nat) (d:ai):Option Int :=
 bif (d.Kind != 3) then (some 0) else ((jw self n 0 d (n+8) 0 0).bind fun o9=>match o9 with | h=>some (wr .i64 (h+1)))
theorem QZ (C:OT) (n:Nat) (self:ai->Option Int) (hS:ya C self) (d:ai):J (fun (o:R) y=>∃ v,o.1=.ret v/\aE o.2 v=(iA y)) (av (cx C) (ec C n 8) (ey C n 8) (n+8) 98 [(ag [(iA d.Kind),(iA d.N),(sA d.S),(im (d.L.map af) false)])] [] 0) some (IL self n d) some:=by
 refine .lp (RP ..) ?_
 unfold IL
 refine .s ((pt 0 0),[bx [(iA d.Kind),(iA d.N),(sA d.S),(im (d.L.map af) false)]]) (.s (pt 0 0) (.s (iA d.Kind) (.st (ba ..) (.aP (fun h=>?_) (fun h=>?_)))))
 ·exact .lv rfl
 refine .as (CI C n _ _ _ _  self hS 0 d ?_ _ 0 0)
 ·intro p q u ab
  exact .un rfl (.cT (by kernel_rfl) (.st (aD ..) (.lv rfl)))
def Gg:Nat->ai->Option Int
 | 0=>fun _=>none
 | q+1=>fun a0=>IL (Gg q) aC a0
def LJ (d:ai):Option Int:=Gg aC d
def Gb (C:OT):Prop:=∀ (d:ai),C 98 [(ag [(iA d.Kind),(iA d.N),(sA d.S),(im (d.L.map af) false)])]=(LJ d).map fun y=>(iA y)
def LC (n:Nat) (d:ai):Option Int :=
 (LI d).bind fun h=>bif (!h) then (some 1) else ((LJ d).bind fun p=>bif (decide (16<p)) then (some 2) else (some 0))
theorem QU (C:OT) (n:Nat) (h:Ga C) (p:Gb C) (d:ai):J (fun (o:R) y=>∃ v,o.1=.ret v/\aE o.2 v=(iA y)) (av (cx C) (ec C n 8) (ey C n 8) (n+8) 79 [(ag [(iA d.Kind),(iA d.N),(sA d.S),(im (d.L.map af) false)])] [] 0) some (LC n d) some:=by
 refine .lp (RG ..) ?_
 unfold LC
 refine .s ((pt 0 0),[bx [(iA d.Kind),(iA d.N),(sA d.S),(im (d.L.map af) false)]]) (.s (ag [(iA d.Kind),(iA d.N),(sA d.S),(im (d.L.map af) false)]) (.bd (g:=fun (y:Bool)=>(bA y)) (by show C 97 [snap _ (ag [(iA d.Kind),(iA d.N),(sA d.S),(im (d.L.map af) false)])]=_; simp only[cR,dS]; exact h d) fun q=>.s (bA (!q)) (.aP (fun u=>?_) (fun u=>?_))))
 ·exact .lv rfl
 refine .s (ag [(iA d.Kind),(iA d.N),(sA d.S),(im (d.L.map af) false)]) (.bd (g:=fun (y:Int)=>(iA y)) (by show C 98 [snap _ (ag [(iA d.Kind),(iA d.N),(sA d.S),(im (d.L.map af) false)])]=_; simp only[cR,dS]; exact p d) fun y3=>.st (bQ ..) (.aP (fun ab=>?_) (fun ab=>?_)))
 ·exact .lv rfl
 exact .lv rfl
def Ir (d:ai):Option Int:=LC aC d
def Cg (C:OT):Prop:=∀ (d:ai),C 79 [(ag [(iA d.Kind),(iA d.N),(sA d.S),(im (d.L.map af) false)])]=(Ir d).map fun y=>(iA y)
def Es (n:Nat) (d:Int):Option Int :=
 bif (decide (0<=d)) then (some (wr .u64 (2*(wr .u64 (d))))) else (some (wr .u64 ((wr .u64 (2*(wr .u64 (wr .i64 (0 - (wr .i64 (d+1)))))))+1)))
theorem MO (C:OT) (n:Nat) (d:Int):J (fun (o:R) y=>∃ v,o.1=.ret v/\aE o.2 v=(A.v (.int .u64 y))) (av (cx C) (ec C n 8) (ey C n 8) (n+8) 100 [(iA d)] [] 0) some (Es n d) some:=by
 refine .lp (M3 ..) ?_
 unfold Es
 refine .st (dB ..) (.aP (fun h=>?_) (fun h=>?_))
 ·exact .st (v:=(A.v (.int .u64 (wr .u64 (d))))) (az (hs:=by kernel_rfl) (hd:=by kernel_rfl) ..) (.st (fg ..) (.lv rfl))
 exact .st (aD ..) (.s (iA (wr .i64 (0 - (wr .i64 (d+1))))) (.st (v:=(A.v (.int .u64 (wr .u64 (wr .i64 (0 - (wr .i64 (d+1)))))))) (az (hs:=by kernel_rfl) (hd:=by kernel_rfl) ..) (.st (fg ..) (.st (aD ..) (.lv rfl)))))
def BV (d:Int):Option Int:=Es aC d
def xW (C:OT):Prop:=∀ (d:Int),C 100 [(iA d)]=(BV d).map fun y=>(A.v (.int .u64 y))
def Cj (C:OT) (self:Int->Option (List UInt8)):Prop:=∀ (d:Int),C 99 [(A.v (.int .u64 d))]=(self d).map fun y=>(im (y.map c8) false)
def GZ (self:Int->Option (List UInt8)) (n:Nat) (d:Int):Option (List UInt8) :=
 bif (decide (d<128)) then (bif (decide (0<=(wr .u8 (d)))&&decide ((wr .u8 (d))<256)) then (some ([(UInt8.ofNat (Int.toNat (wr .u8 (d))))])) else none) else (bif (decide (0<=(wr .u8 (wr .u64 ((Int.tmod d 128)+128))))&&decide ((wr .u8 (wr .u64 ((Int.tmod d 128)+128)))<256)) then ((self (wr .u64 (Int.tdiv d 128))).bind fun h=>(cQ 1 ([(UInt8.ofNat (Int.toNat (wr .u8 (wr .u64 ((Int.tmod d 128)+128)))))]) h).bind fun p=>some p) else none)
theorem Q0 (C:OT) (n:Nat) (self:Int->Option (List UInt8)) (hS:Cj C self) (d:Int):J (fun (o:R) y=>∃ v,o.1=.ret v/\aE o.2 v=(im (y.map c8) false)) (av (cx C) (ec C n 8) (ey C n 8) (n+8) 99 [(A.v (.int .u64 d))] [] 0) some (GZ self n d) some:=by
 refine .lp (RQ ..) ?_
 unfold GZ
 refine .st (aS ..) (.aP (fun p=>?_) (fun p=>?_))
 ·exact .st (v:=(uA (wr .u8 (d)))) (az (hs:=by kernel_rfl) (hd:=by kernel_rfl) ..) (.gd fun hg=>.st (v:=(im [[(uA (((UInt8.ofNat (Int.toNat (wr .u8 (d)))).toNat:Int)))]] true)) (by rw[et hg]; kernel_rfl) (.lv (by show aE _ (im [[(uA (((UInt8.ofNat (Int.toNat (wr .u8 (d)))).toNat:Int)))]] true)=_; simp only[cR,jL,aE]; first | done | rfl)))
 exact .st (fF (hb:=by decide) ..) (.st (aD ..) (.st (v:=(uA (wr .u8 (wr .u64 ((Int.tmod d 128)+128))))) (az (hs:=by kernel_rfl) (hd:=by kernel_rfl) ..) (.gd fun hg=>.st (v:=(im [[(uA (((UInt8.ofNat (Int.toNat (wr .u8 (wr .u64 ((Int.tmod d 128)+128))))).toNat:Int)))]] true)) (by rw[et hg]; kernel_rfl) (.st (jy (hb:=by decide) ..) (.bd (g:=fun (y:(List UInt8))=>(im (y.map c8) false)) (hS (wr .u64 (Int.tdiv d 128))) fun q=>.bd (g:=fun (y:List UInt8)=>((aX 0 0 y.length false),[aA.row false 1 (y.map c8)])) (jB cO (l:=[(UInt8.ofNat (Int.toNat (wr .u8 (wr .u64 ((Int.tmod d 128)+128)))))]) (l2:=q) (aY ..)) fun h=>.lv (by show aE [aA.row false 1 (h.map c8)] (aX 0 0 h.length false)=_; first | (simp only[cR,dS,aE,aV (H:=[aA.row false 1 (h.map c8)]) (b:=0) (es:=1) (wr:=false) (l:=h) dc rfl]; done) | (simp only[cR,jL,aE,aV (H:=[aA.row false 1 (h.map c8)]) (b:=0) (es:=1) (wr:=false) (l:=h) dc rfl]; first | done | rfl)))))))
def Gi:Nat->Int->Option (List UInt8)
 | 0=>fun _=>none
 | q+1=>fun a0=>GZ (Gi q) aC a0
def It (d:Int):Option (List UInt8):=Gi aC d
def Ci (C:OT):Prop:=∀ (d:Int),C 99 [(A.v (.int .u64 d))]=(It d).map fun y=>(im (y.map c8) false)
def xX (C:OT) (self:ai->Option (List UInt8)):Prop:=∀ (d:ai),C 80 [(ag [(iA d.Kind),(iA d.N),(sA d.S),(im (d.L.map af) false)])]=(self d).map fun y=>(im (y.map c8) false)
def jn (self:ai->Option (List UInt8)) (n:Nat) (v11:(List UInt8)) (d:ai):Nat->Int->(List UInt8)->Option ((List UInt8))
 | 0,_,_=>none
 | m+1,h,p=>bif (decide (h<((d.L.length:Int)))) then ((bw d.L h).bind fun q=>(self q).bind fun u=>(cQ 1 p u).bind fun y=>jn self n v11 d m (wr .i64 (h+1)) y) else (some p)
theorem CF (bs:xW C) (ca:Ci C) (self:ai->Option (List UInt8)) (hS:xX C self) (v11:(List UInt8)) (h:ai) {K:((List UInt8))->Option γ} (x0:∀ (q:(List UInt8)) (s1:A) (s2:A) (s4:A),J φ (kx 1 (St.mk [(1,s1),(2,s2),(3,(aX 1 0 q.length false)),(4,s4)] [(bt h),aA.row false 1 (q.map c8)])) kL (K q) some) :
  ∀ (m:Nat) (u:Int) (p:(List UInt8)),J φ (aH (cx C) (ec C n 8) (ey C n 8) (n+8) 80 0 0 2 kx kg kr kp m (St.mk [(1,(pt 0 0)),(2,(im (v11.map c8) true)),(3,(aX 1 0 p.length false)),(4,(iA u))] [(bt h),aA.row false 1 (p.map c8)])) kL (jn self n v11 h m u p) K:=by
 intro m
 induction m with
 | zero=>intros; exact .nn
 | succ m ih =>
  intro u p
  refine .lp (JD ..) ?_
  unfold jn
  refine .s (pt 0 3) (.s (im (h.L.map af) false) (.st (dQ (e:=98)) (.st (aS ..) (.aP (fun an=>?_) (fun an=>?_)))))
  ·refine .s (pt 0 3) (.s (im (h.L.map af) false) (.bd ((fJ (e:=98) (es:=4)).trans (eR _)) fun d=>.s (ag [(iA d.Kind),(iA d.N),(sA d.S),(im (d.L.map af) false)]) (.bd (g:=fun (y:(List UInt8))=>(im (y.map c8) false)) (by show C 80 [snap _ (ag [(iA d.Kind),(iA d.N),(sA d.S),(im (d.L.map af) false)])]=_; simp only[cR,dS,di (H:=[(bt h),aA.row false 1 (p.map c8)]) (b:=1) (es:=1) (l:=p) dc rfl]; exact hS d) fun ao=>.bd (g:=fun (y:List UInt8)=>((aX 1 0 y.length false),[(bt h),aA.row false 1 (y.map c8)])) (bV cO (l:=p) (l2:=ao) (b:=1) rfl (by decide) (aY ..)) fun bm=>.st (aD ..) (.s [(bt h),aA.row false 1 (bm.map c8)] (.cT (by kernel_rfl) ?_)))))
   exact ih _ _
  exact .ex (x0 _ _ _ _)
def II (self:ai->Option (List UInt8)) (n:Nat) (d:ai):Option (List UInt8) :=
 bif (d.Kind==1) then ((BV d.N).bind fun h=>(It h).bind fun p=>(cQ 1 ([(1:UInt8)]) p).bind fun q=>some q) else (bif (d.Kind==2) then ((It (wr .u64 ((d.S.size:Int)))).bind fun u=>(cQ 1 ([(2:UInt8)]) u).bind fun y=>(cQ 1 y (kE d.S)).bind fun y8=>some y8) else ((It (wr .u64 ((d.L.length:Int)))).bind fun y9=>(cQ 1 ([(3:UInt8)]) y9).bind fun an=>(jn self n ([]) d (n+8) 0 an).bind fun HD=>match HD with | ao=>some ao))
theorem QV (C:OT) (n:Nat) (ab:xW C) (u:Ci C) (self:ai->Option (List UInt8)) (hS:xX C self) (d:ai):J (fun (o:R) y=>∃ v,o.1=.ret v/\aE o.2 v=(im (y.map c8) false)) (av (cx C) (ec C n 8) (ey C n 8) (n+8) 80 [(ag [(iA d.Kind),(iA d.N),(sA d.S),(im (d.L.map af) false)])] [] 0) some (II self n d) some:=by
 refine .lp (RH ..) ?_
 unfold II
 refine .s ((pt 0 0),[(bN d)]) (.s (pt 0 0) (.s (iA d.Kind) (.st (aN ..) (.aP (fun ad=>?_) (fun ad=>?_)))))
 ·exact .s (im [[(uA 1)]] true) (.s (pt 0 1) (.s (iA d.N) (.bd (ab d.N) fun y2=>.bd (u y2) fun y3=>.bd (g:=fun (y:List UInt8)=>((aX 1 0 y.length false),[(bN d),aA.row false 1 (y.map c8)])) (jB cO (l:=[(1:UInt8)]) (l2:=y3) (aY ..)) fun h=>.lv (by show aE [(bN d),aA.row false 1 (h.map c8)] (aX 1 0 h.length false)=_; first | (simp only[cR,dS,aE,aV (H:=[(bN d),aA.row false 1 (h.map c8)]) (b:=1) (es:=1) (wr:=false) (l:=h) dc rfl]; done) | (simp only[cR,jL,aE,aV (H:=[(bN d),aA.row false 1 (h.map c8)]) (b:=1) (es:=1) (wr:=false) (l:=h) dc rfl]; first | done | rfl)))))
 refine .st (aN ..) (.aP (fun bm=>?_) (fun bm=>?_))
 ·exact .s (im [[(uA 2)]] true) (.s (pt 0 2) (.s (sA d.S) (.s (iA ((d.S.size:Int))) (.st (v:=(A.v (.int .u64 (wr .u64 ((d.S.size:Int)))))) (az (hs:=by kernel_rfl) (hd:=by kernel_rfl) ..) (.bd (u (wr .u64 ((d.S.size:Int)))) fun y6=>.bd (g:=fun (y:List UInt8)=>((aX 1 0 y.length false),[(bN d),aA.row false 1 (y.map c8)])) (jB cO (l:=[(2:UInt8)]) (l2:=y6) (aY ..)) fun y7=>.cT (by kernel_rfl) (.s (pt 0 2) (.cT (by kernel_rfl) (.s (sA d.S) (.bd (g:=fun (y:List UInt8)=>((aX 1 0 y.length false),[(bN d),aA.row false 1 (y.map c8)])) (bV uQ (l:=y7) (l2:=kE d.S) (b:=1) rfl (by decide) (qS ..)) fun p=>.lv (by show aE [(bN d),aA.row false 1 (p.map c8)] (aX 1 0 p.length false)=_; first | (simp only[cR,dS,aE,aV (H:=[(bN d),aA.row false 1 (p.map c8)]) (b:=1) (es:=1) (wr:=false) (l:=p) dc rfl]; done) | (simp only[cR,jL,aE,aV (H:=[(bN d),aA.row false 1 (p.map c8)]) (b:=1) (es:=1) (wr:=false) (l:=p) dc rfl]; first | done | rfl)))))))))))
 refine .s (im [[(uA 3)]] true) (.s (pt 0 3) (.s (im (d.L.map af) false) (.st (dQ (e:=98)) (.st (v:=(A.v (.int .u64 (wr .u64 ((d.L.length:Int)))))) (az (hs:=by kernel_rfl) (hd:=by kernel_rfl) ..) (.bd (u (wr .u64 ((d.L.length:Int)))) fun y9=>.bd (g:=fun (y:List UInt8)=>((aX 1 0 y.length false),[(bN d),aA.row false 1 (y.map c8)])) (jB cO (l:=[(3:UInt8)]) (l2:=y9) (aY ..)) fun cc=>.as (CF C n _ _ _ _ ab u self hS ([]) d ?_ _ 0 cc))))))
 ·intro q ch ck cm
  exact .un rfl (.cT (by kernel_rfl) (.lv (by show aE [(bN d),aA.row false 1 (q.map c8)] (aX 1 0 q.length false)=_; first | (simp only[cR,dS,aE,aV (H:=[(bN d),aA.row false 1 (q.map c8)]) (b:=1) (es:=1) (wr:=false) (l:=q) dc rfl]; done) | (simp only[cR,jL,aE,aV (H:=[(bN d),aA.row false 1 (q.map c8)]) (b:=1) (es:=1) (wr:=false) (l:=q) dc rfl]; first | done | rfl))))
def Gd:Nat->ai->Option (List UInt8)
 | 0=>fun _=>none
 | q+1=>fun a0=>II (Gd q) aC a0
def I2 (d:ai):Option (List UInt8):=Gd aC d
def Ch (C:OT):Prop:=∀ (d:ai),C 80 [(ag [(iA d.Kind),(iA d.N),(sA d.S),(im (d.L.map af) false)])]=(I2 d).map fun y=>(im (y.map c8) false)
def Lr (n:Nat) (d:ai):Option ((List UInt8)×Int) :=
 (Ir d).bind fun h=>bif (h != 0) then (some (([],h))) else ((I2 d).bind fun p=>some ((p,0)))
theorem QI (C:OT) (n:Nat) (h:Cg C) (p:Ch C) (d:ai):J (fun (o:R) y=>∃ v,o.1=.ret v/\aE o.2 v=(tp [(im (y.1.map c8) false),(iA y.2)])) (av (cx C) (ec C n 8) (ey C n 8) (n+8) 58 [(ag [(iA d.Kind),(iA d.N),(sA d.S),(im (d.L.map af) false)])] [] 0) some (Lr n d) some:=by
 refine .lp (Rq ..) ?_
 unfold Lr
 refine .s ((pt 0 0),[bx [(iA d.Kind),(iA d.N),(sA d.S),(im (d.L.map af) false)]]) (.s (ag [(iA d.Kind),(iA d.N),(sA d.S),(im (d.L.map af) false)]) (.bd (g:=fun (y:Int)=>(iA y)) (by show C 79 [snap _ (ag [(iA d.Kind),(iA d.N),(sA d.S),(im (d.L.map af) false)])]=_; simp only[cR,dS]; exact h d) fun q=>.st (ba ..) (.aP (fun u=>?_) (fun u=>?_))))
 ·exact .lv (by show aE _ (tp [(im [] true),(iA q)])=_; simp only[cR,jL,aE]; first | done | rfl)
 exact .s (ag [(iA d.Kind),(iA d.N),(sA d.S),(im (d.L.map af) false)]) (.bd (g:=fun (y:(List UInt8))=>(im (y.map c8) false)) (by show C 80 [snap _ (ag [(iA d.Kind),(iA d.N),(sA d.S),(im (d.L.map af) false)])]=_; simp only[cR,dS]; exact p d) fun y3=>.lv (by show aE _ (tp [(im (y3.map c8) false),(iA 0)])=_; simp only[cR,jL,aE]; first | done | rfl))
def G4 (d:ai):Option ((List UInt8)×Int):=Lr aC d
def Cc (C:OT):Prop:=∀ (d:ai),C 58 [(ag [(iA d.Kind),(iA d.N),(sA d.S),(im (d.L.map af) false)])]=(G4 d).map fun y=>(tp [(im (y.1.map c8) false),(iA y.2)])
end Go.Proofs.Ytdmgdjnadbakfaa
