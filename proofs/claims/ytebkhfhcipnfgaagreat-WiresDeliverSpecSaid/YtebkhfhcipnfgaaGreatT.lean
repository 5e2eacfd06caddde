/-
 The program's functions as plain functions: by a tool; each follows the interpreter.
-/
import Derived.Test.YtebkhfhcipnfgaaGreatT2
namespace Go.Proofs.YtebkhfhcipnfgaaGreat
open Go.Proofs.Tryz (prog)
set_option linter.unusedVariables false
set_option linter.unusedSimpArgs false
set_option maxHeartbeats 4000000
set_option maxRecDepth 100000
set_option linter.defProp false
variable (C:Nat->List A->Option A) (n:Nat) {ρ γ:Type} {φ:ρ->γ->Prop} {kL:R->Option ρ} (kx kg:Nat->St->Option R) (kr:St->Option R) (kp:A->St->Option R)
def kZ (n:Nat) (a:au):Nat->Int->(List Int)->Option ((Bool)⊕((List Int)))
 | 0,_,_=>none
 | m+1,b,c=>bif (decide (b<((a.L.length:Int)))) then ((bL a.L b).bind fun d=>bif (d.Kind != 1) then (some ((Sum.inl false))) else ((bL a.L b).bind fun e=>(cz 8 c ([e.N])).bind fun f=>kZ n a m (wr .i64 (b+1)) f)) else (some ((Sum.inr c)))
theorem CY {Nv w42:A} (a:au) {K:((Bool)⊕((List Int)))->Option γ} (o:∀ (c:Bool) (i:A) (p:A) (j:A) (q0:aO) (q1:aO),J φ (kr (St.mk [(2,XL),(3,(bA c)),(4,i),(6,p),(7,j)] [q0,q1])) kL (K (Sum.inl c)) some) (q:∀ (c:(List Int)) (s2:A) (r:A) (i:A) (j:A) (q0:aO),J φ (kx 0 (St.mk [(2,s2),(3,r),(4,i),(6,(bW 1 0 c.length false)),(7,j)] [q0,aO.row false 1 (c.map (cI .i64))])) kL (K (Sum.inr c)) some) :
  ∀ (m:Nat) (k:Int) (d:(List Int)),J φ (aN (cx C) (ec C n 8) (ey C n 8) (n+8) 79 0 0 2 kx kg kr kp m (St.mk [(2,Nv),(3,w42),(4,(pt 0 0)),(6,(bW 1 0 d.length false)),(7,(iA k))] [bx (ar a),aO.row false 1 (d.map (cI .i64))])) kL (kZ n a m k d) K:=by
  refine nI (fun _ _=>.nn) fun m ih k d=>.lp (LK ..) ?_
  unfold kZ
  refine .s2 (im (a.L.map ax) false) (.st (ef (e:=108)) (.st (aY ..) (.bX ?_ ?_)))
  ·refine .s2 (im (a.L.map ax) false) (.bd ((eP (e:=108) (es:=4)).trans (er _)) fun t=>.s2 (iA t.Kind) (.st (aG ..) (.bX ?_ ?_)))
   ·exact .ex (o _ _ _ _ _ _)
   refine .s2 (im (a.L.map ax) false) (.bd ((eP (e:=108) (es:=4)).trans (er _)) fun h=>.s2 (iA h.N) (.s (im [[(iA h.N)]] true) (.bd (g:=fun (y:List Int)=>((bW 1 0 y.length false),[bx (ar a),aO.row false 1 (y.map (cI .i64))])) (cj Ff (l:=d) (l2:=[h.N]) (b:=1) rfl (by decide) (bC (f:=(cI .i64)) ([h.N]:List Int) _ _)) fun u=>.st (aJ ..) (.s [bx (ar a),aO.row false 1 (u.map (cI .i64))] (.cT r7 ?_)))))
   exact ih _ _
  exact .ex (q _ _ _ _ _ _)
def Om (n:Nat) (b:(List UInt8)):Option ((List Int)×Bool):=
 (K3 b).bind fun a=>(bif (a.2 != 0) then (some true) else (some (a.1.Kind != 3))).bind fun c=>bif c then (some (([],false))) else ((kZ n a.1 (n+8) 0 (([]:List Int))).bind fun OJ=>match OJ with | (Sum.inl d)=>some (([],d)) | (Sum.inr e)=>some ((e,true)))
theorem VM (C:OT) (n:Nat) (i:HO C) (d:(List UInt8)):TJ C n 79 [(im (d.map c8) false)] (Om n d) (fun y=>(tp [(im (y.1.map (cI .i64)) false),(bA y.2)])):=by
 refine .lp (WN ..) ?_
 unfold Om
 refine .bd (g:=fun (y:(au×Int))=>(tp [(ag (ar y.1)),(iA y.2)])) (by simp only[bR,cY]; exact i d) fun c=>.s (ag (ar c.1)) (.s (iA c.2) (.sq (pt 0 0) (.s [bx (ar c.1)] (.st (aG ..) (.bg (fun t (y:Bool)=>∃ e f h:A,t=[(bA y),e,f,h]) ?_ ?_)))))
 ·refine .bi ?_ ?_
  ·exact .lg ⟨_,_,_,rfl⟩
  exact .s (pt 0 0) (.s (iA c.1.Kind) (.st (aG ..) (.lg ⟨_,_,_,rfl⟩)))
 rintro _ j ⟨e,f,h,rfl⟩
 refine .u4 (.bX ?_ ?_)
 ·exact .lv so
 refine .as (CY C n _ _ _ _ c.1 ?_ ?_ _ 0 (([]:List Int)))
 ·intro k o p q w56 w57
  exact .un rfl (.lv so)
 ·intro a r u v w w63
  exact .un rfl (.cT r7 (.lv (by show aS [w63,aO.row false 1 (a.map (cI .i64))] (tp [(bW 1 0 a.length false),(bA true)])=_; first | (simp only[bR,cY,aS,bI (H:=[w63,aO.row false 1 (a.map (cI .i64))]) (b:=1) (es:=1) (wr:=false) (l:=a) (ke _) rfl]; done) | (simp only[bR,e9,aS,bI (H:=[w63,aO.row false 1 (a.map (cI .i64))]) (b:=1) (es:=1) (wr:=false) (l:=a) (ke _) rfl]; first | done | rfl))))
def Kn (a:(List UInt8)):Option ((List Int)×Bool):=Om aE a
def CA (C:OT):Prop:=∀ (a:(List UInt8)),C 79 [(im (a.map c8) false)]=(Kn a).map fun y=>(tp [(im (y.1.map (cI .i64)) false),(bA y.2)])
def NX (n:Nat) (b:(List UInt8)):Option (aR×Bool):=
 (Kn b).bind fun a=>(bif (!a.2) then (some true) else (some (((a.1.length:Int)) != 5))).bind fun c=>(bif c then (some true) else ((bL a.1 0).bind fun d=>some (d != 1))).bind fun e=>bif e then (some (((aR.mk 0 0 0 0),false))) else ((bL a.1 1).bind fun f=>(bL a.1 2).bind fun g=>(bL a.1 3).bind fun h=>(bL a.1 4).bind fun i=>some (((aR.mk f g h i),true)))
theorem Vl (C:OT) (n:Nat) (r:CA C) (f:(List UInt8)):TJ C n 45 [(im (f.map c8) false)] (NX n f) (fun y=>(tp [(ag (ay y.1)),(bA y.2)])):=by
 refine .lp (Wl ..) ?_
 unfold NX
 refine .s ((pt 0 0),[bx [(iA 0),(iA 0),(iA 0),(iA 0)]]) (.bd (g:=fun (y:((List Int)×Bool))=>(tp [(im (y.1.map (cI .i64)) false),(bA y.2)])) (by simp only[bR,cY]; exact r f) fun h=>.s (im (h.1.map (cI .i64)) false) (.s (bA h.2) (.s (bA (!h.2)) (.bg (fun t (y:Bool)=>∃ i j k:A,t=[(bA y),i,j,k]) ?_ ?_))))
 ·refine .bi ?_ ?_
  ·exact .lg ⟨_,_,_,rfl⟩
  exact .st (ef (e:=3)) (.st (aG ..) (.lg ⟨_,_,_,rfl⟩))
 rintro _ v ⟨i,j,k,rfl⟩
 refine .u4 (.bg (fun t (y:Bool)=>∃ l o p q:A,t=[(bA y),l,o,p,q]) ?_ ?_)
 ·refine .bi ?_ ?_
  ·exact .lg ⟨_,_,_,_,rfl⟩
  exact .bd (eP (e:=3) (es:=1)) fun u=>.s (iA u) (.st (aG ..) (.lg ⟨_,_,_,_,rfl⟩))
 rintro _ w ⟨l,o,p,q,rfl⟩
 refine .u4 (.uc (.bX ?_ ?_))
 ·exact .s (ag [(iA 0),(iA 0),(iA 0),(iA 0)]) (.s [bx [(iA 0),(iA 0),(iA 0),(iA 0)]] (.s (ag [(iA 0),(iA 0),(iA 0),(iA 0)]) (.lv rfl)))
 exact .bd (eP (e:=3) (es:=1)) fun a=>.s (iA a) (.bd (eP (e:=3) (es:=1)) fun b=>.s (iA b) (.bd (eP (e:=3) (es:=1)) fun c=>.s (iA c) (.bd (eP (e:=3) (es:=1)) fun d=>.s (iA d) (.s (ag [(iA a),(iA b),(iA c),(iA d)]) (.s [bx [(iA a),(iA b),(iA c),(iA d)]] (.s (ag [(iA a),(iA b),(iA c),(iA d)]) (.lv rfl)))))))
def Kk (a:(List UInt8)):Option (aR×Bool):=NX aE a
def Cp (C:OT):Prop:=∀ (a:(List UInt8)),C 45 [(im (a.map c8) false)]=(Kk a).map fun y=>(tp [(ag (ay y.1)),(bA y.2)])
def NW (n:Nat) (b:(List UInt8)):Option (bh×Bool):=
 (Kn b).bind fun a=>(bif (!a.2) then (some true) else (some (((a.1.length:Int)) != 4))).bind fun c=>(bif c then (some true) else ((bL a.1 0).bind fun d=>some (d != 2))).bind fun e=>bif e then (some (((bh.mk 0 0 0),false))) else ((bL a.1 1).bind fun f=>(bL a.1 2).bind fun g=>(bL a.1 3).bind fun h=>some (((bh.mk f g h),true)))
theorem Vk (C:OT) (n:Nat) (q:CA C) (d:(List UInt8)):TJ C n 44 [(im (d.map c8) false)] (NW n d) (fun y=>(tp [(ag (aB y.1)),(bA y.2)])):=by
 refine .lp (Wk ..) ?_
 unfold NW
 refine .s ((pt 0 0),[bx [(iA 0),(iA 0),(iA 0)]]) (.bd (g:=fun (y:((List Int)×Bool))=>(tp [(im (y.1.map (cI .i64)) false),(bA y.2)])) (by simp only[bR,cY]; exact q d) fun f=>.s (im (f.1.map (cI .i64)) false) (.s (bA f.2) (.s (bA (!f.2)) (.bg (fun t (y:Bool)=>∃ h i j:A,t=[(bA y),h,i,j]) ?_ ?_))))
 ·refine .bi ?_ ?_
  ·exact .lg ⟨_,_,_,rfl⟩
  exact .st (ef (e:=3)) (.st (aG ..) (.lg ⟨_,_,_,rfl⟩))
 rintro _ u ⟨h,i,j,rfl⟩
 refine .u4 (.bg (fun t (y:Bool)=>∃ k l o p:A,t=[(bA y),k,l,o,p]) ?_ ?_)
 ·refine .bi ?_ ?_
  ·exact .lg ⟨_,_,_,_,rfl⟩
  exact .bd (eP (e:=3) (es:=1)) fun r=>.s (iA r) (.st (aG ..) (.lg ⟨_,_,_,_,rfl⟩))
 rintro _ v ⟨k,l,o,p,rfl⟩
 refine .u4 (.uc (.bX ?_ ?_))
 ·exact .s (ag [(iA 0),(iA 0),(iA 0)]) (.s [bx [(iA 0),(iA 0),(iA 0)]] (.s (ag [(iA 0),(iA 0),(iA 0)]) (.lv rfl)))
 exact .bd (eP (e:=3) (es:=1)) fun a=>.s (iA a) (.bd (eP (e:=3) (es:=1)) fun b=>.s (iA b) (.bd (eP (e:=3) (es:=1)) fun c=>.s (iA c) (.s (ag [(iA a),(iA b),(iA c)]) (.s [bx [(iA a),(iA b),(iA c)]] (.s (ag [(iA a),(iA b),(iA c)]) (.lv rfl))))))
def Kj (a:(List UInt8)):Option (bh×Bool):=NW aE a
def Co (C:OT):Prop:=∀ (a:(List UInt8)),C 44 [(im (a.map c8) false)]=(Kj a).map fun y=>(tp [(ag (aB y.1)),(bA y.2)])
def Ob (n:Nat) (c:aw) (b:aA):Option Bool:=
 bif (b.From==0) then ((Kk b.Data).bind fun d=>(bif d.2 then ((Kr d.1 ((c.Ears.length:Int))).bind fun e=>some e) else (some false)).bind fun f=>(bif f then (some (b.To==(wr .i64 (d.1.Role+1)))) else (some false)).bind fun g=>some g) else ((Kj b.Data).bind fun a=>(bif a.2 then (some (b.To==0)) else (some false)).bind fun h=>(bif h then (some (b.From==(wr .i64 (a.1.Role+1)))) else (some false)).bind fun i=>(bif i then ((BS a.1.Role 0 (wr .i64 (((c.Ears.length:Int)) - 1))).bind fun j=>some j) else (some false)).bind fun k=>(bif k then ((BS a.1.Bar 0 (wr .i64 (c.Bar - 1))).bind fun l=>some l) else (some false)).bind fun o=>(bif o then ((bL c.Ears a.1.Role).bind fun p=>(bL p.Did a.1.Bar).bind fun q=>some (q==a.1.Program)) else (some false)).bind fun r=>some r)
theorem VB (C:OT) (n:Nat) (ao:Co C) (ap:Cp C) (h:tW C) (aq:Ad C) (b:aw) (a:aA):TJ C n 63 [(ag (al b)),(ag (ak a))] (Ob n b a) (fun y=>(bA y)):=by
 refine .lp (WB ..) ?_
 unfold Ob
 refine .s ((pt 0 0),[bx (al b)]) (.s ((pt 1 0),[bx (al b),bx (ak a)]) (.s2 (im (b.Ears.map az) false) (.st (ef (e:=50)) (.s2 (iA a.From) (.st (bc ..) (.bX ?_ ?_))))))
 ·refine .s2 (im (a.Data.map c8) false) (.bd (g:=fun (y:(aR×Bool))=>(tp [(ag (ay y.1)),(bA y.2)])) (by simp only[bR,cY]; exact ap a.Data) fun d=>.s (ag (ay d.1)) (.s (bA d.2) (.sq (pt 2 0) (.s [bx (al b),bx (ak a),bx (ay d.1)] (.bg (fun t (y:Bool)=>∃ i j k:A,t=[(bA y),i,j,k]) ?_ ?_)))))
  ·refine .bi ?_ ?_
   ·exact .s (ag (ay d.1)) (.bd (aq d.1 ((b.Ears.length:Int))) fun y4=>.lg ⟨_,_,_,rfl⟩)
   exact .lg ⟨_,_,_,rfl⟩
  rintro _ y5 ⟨i,j,k,rfl⟩
  refine .u4 (.bg (fun t (y:Bool)=>∃ l o p q r u:A,t=[(bA y),l,o,p,q,r,u]) ?_ ?_)
  ·refine .bi ?_ ?_
   ·exact .s (pt 1 1) (.s (iA a.To) (.s (pt 2 1) (.s (iA d.1.Role) (.st (aJ ..) (.st (bc ..) (.lg ⟨_,_,_,_,_,_,rfl⟩))))))
   exact .lg ⟨_,_,_,_,_,_,rfl⟩
  rintro _ ax ⟨l,o,p,q,r,u,rfl⟩
  exact .u4 (.uc (.uc (.uc (.lv rfl))))
 refine .s2 (im (a.Data.map c8) false) (.bd (g:=fun (y:(bh×Bool))=>(tp [(ag (aB y.1)),(bA y.2)])) (by simp only[bR,cY]; exact ao a.Data) fun c=>.s (ag (aB c.1)) (.s (bA c.2) (.sq (pt 2 0) (.s [bx (al b),bx (ak a),bx (aB c.1)] (.bg (fun t (y:Bool)=>∃ v w x:A,t=[(bA y),v,w,x]) ?_ ?_)))))
 ·refine .bi ?_ ?_
  ·exact .s (pt 1 1) (.s (iA a.To) (.st (bc ..) (.lg ⟨_,_,_,rfl⟩)))
  exact .lg ⟨_,_,_,rfl⟩
 rintro _ b0 ⟨v,w,x,rfl⟩
 refine .u4 (.bg (fun t (y:Bool)=>∃ z a2 a3 a4 a5 a6:A,t=[(bA y),z,a2,a3,a4,a5,a6]) ?_ ?_)
 ·refine .bi ?_ ?_
  ·exact .s (pt 1 0) (.s (iA a.From) (.s (pt 2 0) (.s (iA c.1.Role) (.st (aJ ..) (.st (bc ..) (.lg ⟨_,_,_,_,_,_,rfl⟩))))))
  exact .lg ⟨_,_,_,_,_,_,rfl⟩
 rintro _ b1 ⟨z,a2,a3,a4,a5,a6,rfl⟩
 refine .u4 (.uc (.uc (.uc (.bg (fun t (y:Bool)=>∃ a7 a8 a9 aa ab:A,t=[(bA y),a7,a8,a9,aa,ab]) ?_ ?_))))
 ·refine .bi ?_ ?_
  ·exact .s (pt 2 0) (.s (iA c.1.Role) (.st (dy ..) (.bd (h c.1.Role 0 (wr .i64 (((b.Ears.length:Int)) - 1))) fun b2=>.lg ⟨_,_,_,_,_,rfl⟩)))
  exact .lg ⟨_,_,_,_,_,rfl⟩
 rintro _ b3 ⟨a7,a8,a9,aa,ab,rfl⟩
 refine .u4 (.uc (.uc (.bg (fun t (y:Bool)=>∃ ad ae af ah ai aj:A,t=[(bA y),ad,ae,af,ah,ai,aj]) ?_ ?_)))
 ·refine .bi ?_ ?_
  ·exact .s (pt 2 1) (.s (iA c.1.Bar) (.s (pt 0 3) (.s (iA b.Bar) (.st (dy ..) (.bd (h c.1.Bar 0 (wr .i64 (b.Bar - 1))) fun b4=>.lg ⟨_,_,_,_,_,_,rfl⟩)))))
  exact .lg ⟨_,_,_,_,_,_,rfl⟩
 rintro _ b5 ⟨ad,ae,af,ah,ai,aj,rfl⟩
 refine .u4 (.uc (.uc (.uc (.Nc (.bg (fun t (y:Bool)=>∃ am:A,t=[(bA y),am]) ?_ ?_)))))
 ·refine .EW (fun f=>?_) (fun f=>?_)
  ·exact .bb (.s (pt 0 2) (.s (im (b.Ears.map az) false) (.s (pt 2 0) (.s (iA c.1.Role) (.bd (eP (e:=50) (es:=3)) fun an=>.s (A.ip [(im (an.Did.map (cI .i64)) false)]) (.s (im (an.Did.map (cI .i64)) false) (.s (pt 2 1) (.s (iA c.1.Bar) (.bd (eP (e:=3) (es:=1)) fun ar=>.s (iA ar) (.s (pt 2 2) (.s (iA c.1.Program) (.cr (.u4 (.u4 (.u4 (.uc (.ub f (.st (bc ..) (.lg ⟨_,rfl⟩)))))))))))))))))))
  exact .bb (.cr (.u4 (.u4 (.u4 (.uc (.tq f (.lg ⟨_,rfl⟩)))))))
 rintro _ b6 ⟨am,rfl⟩
 exact .uc (.uc (.lv rfl))
def KV (a:aw) (b:aA):Option Bool:=Ob aE a b
def Cu (C:OT):Prop:=∀ (a:aw) (b:aA),C 63 [(ag (al a)),(ag (ak b))]=(KV a b).map fun y=>(bA y)
def kO (n:Nat) (a:aw):Nat->Int->Option ((Int)⊕(Unit))
 | 0,_=>none
 | m+1,b=>bif (decide (b<((a.Ears.length:Int)))) then ((KU a b).bind fun c=>bif (!c) then (some ((Sum.inl 490))) else (kO n a m (wr .i64 (b+1)))) else (some ((Sum.inr (()))))
theorem CH (f:Ct C) {w54:A} (a:aw) {K:((Int)⊕(Unit))->Option γ} (h:∀ (d:Int) (i:A) (c:A) (q0:aO),J φ (kr (St.mk [(1,i),(2,(iA d)),(3,c)] [q0])) kL (K (Sum.inl d)) some) (j:∀ (c:A),J φ (kx 0 (St.mk [(1,(pt 0 0)),(2,w54),(3,c)] [bx (al a)])) kL (K (Sum.inr (()))) some) :
  ∀ (m:Nat) (b:Int),J φ (aN (cx C) (ec C n 8) (ey C n 8) (n+8) 28 0 0 1 kx kg kr kp m (St.mk [(1,(pt 0 0)),(2,w54),(3,(iA b))] [bx (al a)])) kL (kO n a m b) K:=by
  refine nI (fun _=>.nn) fun m ih b=>.lp (Lu ..) ?_
  unfold kO
  refine .s2 (im (a.Ears.map az) false) (.st (ef (e:=50)) (.st (aY ..) (.bX ?_ ?_)))
  ·refine .s (ag (al a)) (.bd (g:=fun (y:Bool)=>(bA y)) (by simp only[bR,cY]; exact f a b) fun k=>.s (bA (!k)) (.bX ?_ ?_))
   ·exact .ex (h _ _ _ _)
   refine .st (aJ ..) (.s [bx (al a)] (.cT r7 ?_))
   exact ih _
  exact .ex (j _)
def kP (n:Nat) (a:aw):Nat->Int->Option ((Int)⊕(Unit))
 | 0,_=>none
 | m+1,b=>bif (decide (b<((a.Net.Queue.length:Int)))) then ((bL a.Net.Queue b).bind fun c=>(KV a c).bind fun d=>bif (!d) then (some ((Sum.inl 490))) else (kP n a m (wr .i64 (b+1)))) else (some ((Sum.inr (()))))
theorem CI (i:Cu C) {w69:A} (a:aw) {K:((Int)⊕(Unit))->Option γ} (j:∀ (f:Int) (b:A) (c:A) (q0:aO),J φ (kr (St.mk [(1,b),(2,(iA f)),(5,c)] [q0])) kL (K (Sum.inl f)) some) (k:∀ (b:A) (s2:A) (c:A) (q0:aO),J φ (kx 2 (St.mk [(1,b),(2,s2),(5,c)] [q0])) kL (K (Sum.inr (()))) some) :
  ∀ (m:Nat) (d:Int),J φ (aN (cx C) (ec C n 8) (ey C n 8) (n+8) 28 0 1 1 kx kg kr kp m (St.mk [(1,(pt 0 0)),(2,w69),(5,(iA d))] [bx (al a)])) kL (kP n a m d) K:=by
  refine nI (fun _=>.nn) fun m ih d=>.lp (Lv ..) ?_
  unfold kP
  refine .s (pt 0 0) (.s2 (im (a.Net.Queue.map ak) false) (.st (ef (e:=68)) (.st (aY ..) (.bX ?_ ?_))))
  ·refine .s (ag (al a)) (.s (pt 0 0) (.s2 (im (a.Net.Queue.map ak) false) (.bd (eP (e:=68) (es:=3)) fun h=>.s (ag (ak h)) (.bd (g:=fun (y:Bool)=>(bA y)) (by simp only[bR,cY]; exact i a h) fun l=>.s (bA (!l)) (.bX ?_ ?_)))))
   ·exact .ex (j _ _ _ _)
   refine .st (aJ ..) (.s [bx (al a)] (.cT r7 ?_))
   exact ih _
  exact .ex (k _ _ _ _)
def NQ (n:Nat) (a:aw):Option Int:=
 (bif (decide (((a.Ears.length:Int))<1)) then (some true) else (some (decide (12<((a.Ears.length:Int)))))).bind fun b=>(bif b then (some true) else ((BS a.Bar 0 4096).bind fun c=>some (!c))).bind fun d=>(bif d then (some true) else ((IM a.Net).bind fun e=>some (e != 0))).bind fun f=>bif f then (some 490) else ((kO n a (n+8) 0).bind fun OM=>match OM with | (Sum.inl g)=>some g | (Sum.inr _)=>(kP n a (n+8) 0).bind fun OO=>match OO with | (Sum.inl h)=>some h | (Sum.inr _)=>some 0)
theorem Ve (C:OT) (n:Nat) (r:tW C) (u:z7 C) (v:Ct C) (w:Cu C) (a:aw):TJ C n 28 [(ag (al a))] (NQ n a) (fun y=>(iA y)):=by
 refine .lp (Wd ..) ?_
 unfold NQ
 refine .s ((pt 0 0),[bx (al a)]) (.s2 (im (a.Ears.map az) false) (.st (ef (e:=50)) (.st (aY ..) (.bg (fun t (y:Bool)=>∃ b c d f:A,t=[(bA y),b,c,d,f]) ?_ ?_))))
 ·refine .bi ?_ ?_
  ·exact .lg ⟨_,_,_,_,rfl⟩
  exact .s (pt 0 2) (.s (im (a.Ears.map az) false) (.st (ef (e:=50)) (.st (da ..) (.lg ⟨_,_,_,_,rfl⟩))))
 rintro _ z ⟨b,c,d,f,rfl⟩
 refine .u4 (.uc (.bg (fun t (y:Bool)=>∃ h i j k:A,t=[(bA y),h,i,j,k]) ?_ ?_))
 ·refine .bi ?_ ?_
  ·exact .lg ⟨_,_,_,_,rfl⟩
  exact .s (pt 0 3) (.s (iA a.Bar) (.bd (r a.Bar 0 4096) fun x=>.s (bA (!x)) (.lg ⟨_,_,_,_,rfl⟩)))
 rintro _ y9 ⟨h,i,j,k,rfl⟩
 refine .u4 (.uc (.bg (fun t (y:Bool)=>∃ l o p q:A,t=[(bA y),l,o,p,q]) ?_ ?_))
 ·refine .bi ?_ ?_
  ·exact .lg ⟨_,_,_,_,rfl⟩
  exact .s (pt 0 0) (.s (ag [(im (a.Net.Queue.map ak) false),(im (a.Net.Apart.map aq) false)]) (.bd (g:=fun (y:Int)=>(iA y)) (by simp only[bR,cY]; exact u a.Net) fun a2=>.st (aG ..) (.lg ⟨_,_,_,_,rfl⟩)))
 rintro _ a3 ⟨l,o,p,q,rfl⟩
 refine .u4 (.uc (.bX ?_ ?_))
 ·exact .lv rfl
 refine .as (CH C n _ _ _ _ v a ?_ ?_ _ 0)
 ·intro a4 a5 a6 w64
  exact .un rfl (.lv rfl)
 ·intro a7
  refine .un rfl (.cT r7 (.as (CI C n _ _ _ _ w a ?_ ?_ _ 0)))
  ·intro a8 a9 aa w80
   exact .un rfl (.lv rfl)
  ·intro ab ad ae w84
   exact .un rfl (.cT r7 (.lv rfl))
def IJ (a:aw):Option Int:=NQ aE a
def zX (C:OT):Prop:=∀ (a:aw),C 28 [(ag (al a))]=(IJ a).map fun y=>(iA y)
def Oj (n:Nat) (a:aD) (b:Int):Option Int:=
 (IM a).bind fun c=>bif (c != 0) then (some 60) else ((bif (decide (b<0)) then (some true) else (some (decide (((a.Queue.length:Int))<=b)))).bind fun d=>bif d then (some 1) else (some 0))
theorem VJ (C:OT) (n:Nat) (j:z7 C) (a:aD) (b:Int):TJ C n 76 [(ag [(im (a.Queue.map ak) false),(im (a.Apart.map aq) false)]),(iA b)] (Oj n a b) (fun y=>(iA y)):=by
 refine .lp (WK ..) ?_
 unfold Oj
 refine .s ((pt 0 0),[bx [(im (a.Queue.map ak) false),(im (a.Apart.map aq) false)]]) (.s (ag [(im (a.Queue.map ak) false),(im (a.Apart.map aq) false)]) (.bd (g:=fun (y:Int)=>(iA y)) (by simp only[bR,cY]; exact j a) fun k=>.st (aG ..) (.bX ?_ ?_)))
 ·exact .lv rfl
 refine .st (aY ..) (.bg (fun t (y:Bool)=>∃ c d f h i:A,t=[(bA y),c,d,f,h,i]) ?_ ?_)
 ·refine .bi ?_ ?_
  ·exact .lg ⟨_,_,_,_,_,rfl⟩
  exact .s (pt 0 0) (.s (im (a.Queue.map ak) false) (.st (ef (e:=68)) (.st (c9 ..) (.lg ⟨_,_,_,_,_,rfl⟩))))
 rintro _ l ⟨c,d,f,h,i,rfl⟩
 refine .u4 (.uc (.uc (.bX ?_ ?_)))
 ·exact .lv rfl
 exact .lv rfl
def IT (a:aD) (b:Int):Option Int:=Oj aE a b
def z9 (C:OT):Prop:=∀ (a:aD) (b:Int),C 76 [(ag [(im (a.Queue.map ak) false),(im (a.Apart.map aq) false)]),(iA b)]=(IT a b).map fun y=>(iA y)
def jH (n:Nat) (a:Int) (b:Int) (e:(List aA)) (c:(List (Int×Int))):Nat->Int->Option ((Bool)⊕(Unit))
 | 0,_=>none
 | m+1,d=>bif (decide (d<((c.length:Int)))) then ((bL c d).bind fun i=>bif (i.1==((if b<a then b else a))) then ((some c).bind fun j=>(some d).bind fun k=>((bL j k).bind fun f=>some ((f.1,f.2))).bind fun l=>(some l.2).bind fun o=>(some o).bind fun p=>(some a).bind fun g=>(some b).bind fun h=>(some (p==((if g<h then h else g)))).bind fun q=>bif q then (some ((Sum.inl true))) else (jH n a b e c m (wr .i64 (d+1)))) else ((some (())).bind fun r=>(some (())).bind fun s=>(some (())).bind fun t=>(some (())).bind fun u=>(some (())).bind fun v=>(some (())).bind fun w=>(some (())).bind fun x=>(some (())).bind fun y=>jH n a b e c m (wr .i64 (d+1)))) else (some ((Sum.inr (()))))
theorem CX {Nu:A} (c:Int) (d:Int) (f:(List aA)) (b:(List (Int×Int))) {K:((Bool)⊕(Unit))->Option γ} (u:∀ (l:Bool) (g:A) (s2:A) (h:A) (i:A) (q0:aO),J φ (kr (St.mk [(1,g),(2,s2),(3,h),(6,(bA l)),(7,i)] [q0])) kL (K (Sum.inl l)) some) (w:∀ (g:A) (s2:A) (h:A) (x:A) (i:A) (q0:aO),J φ (kx 0 (St.mk [(1,g),(2,s2),(3,h),(6,x),(7,i)] [q0])) kL (K (Sum.inr (()))) some) :
  ∀ (m:Nat) (j:Int),J φ (aN (cx C) (ec C n 8) (ey C n 8) (n+8) 77 0 0 1 kx kg kr kp m (St.mk [(1,(iA c)),(2,(iA d)),(3,(pt 0 0)),(6,Nu),(7,(iA j))] [bx [(im (f.map ak) false),(im (b.map aq) false)]])) kL (jH n c d f b m j) K:=by
  refine nI (fun _=>.nn) fun m ih j=>.lp (LJ ..) ?_
  unfold jH
  refine .s2 (im (b.map aq) false) (.st (ef (e:=99)) (.st (aY ..) (.bX ?_ ?_)))
  ·refine .s2 (im (b.map aq) false) (.bd (eP (e:=99) (es:=2)) fun k=>.s (A.ip [(iA k.1),(iA k.2)]) (.s (iA k.1) (.s (iA ((if d<c then d else c))) (.st (bc ..) (.EW (fun a=>?_) (fun a=>?_))))))
   ·refine .bb (.s (pt 0 1) (.cr (.bg (fun t (y:(List (Int×Int))) =>  t=(im (y.map aq) false)) ?_ ?_)))
    ·exact .lp (de a) (.s (im (b.map aq) false) (.lg rfl))
    rintro _ a1 rfl
    refine .bg (fun t (y:Int) =>  t=(iA y)) ?_ ?_
    ·exact .lp (de a) (.lg rfl)
    rintro _ a2 rfl
    refine .bg (fun t (y:Int×Int) =>  t=(A.ip [(iA y.1),(iA y.2)])) ?_ ?_
    ·exact .lp (de a) (.bd (eP (e:=99) (es:=2)) fun a3=>.lg rfl)
    rintro _ z rfl
    refine .bg (fun t (y:Int) =>  t=(A.ip [(iA y)])) ?_ ?_
    ·exact .lp (de a) (.s (A.ip [(iA z.2)]) (.lg rfl))
    rintro _ a0 rfl
    refine .bg (fun t (y:Int) =>  t=(iA y)) ?_ ?_
    ·exact .lp (de a) (.s (iA a0) (.lg rfl))
    rintro _ a4 rfl
    refine .bg (fun t (y:Int) =>  t=(iA y)) ?_ ?_
    ·exact .lp (de a) (.lg rfl)
    rintro _ o rfl
    refine .bg (fun t (y:Int) =>  t=(iA y)) ?_ ?_
    ·exact .lp (de a) (.lg rfl)
    rintro _ p rfl
    refine .lp (de a) (.s (iA ((if o<p then p else o))) (.bg (fun t (y:Bool)=>∃ q:A,t=[(bA y),q]) ?_ ?_))
    ·exact .ub a (.st (bc ..) (.lg ⟨_,rfl⟩))
    rintro _ a5 ⟨q,rfl⟩
    refine .uc (.uc (.bX ?_ ?_))
    ·exact .ex (u _ _ _ _ _ _)
    refine .st (aJ ..) (.s [bx [(im (f.map ak) false),(im (b.map aq) false)]] (.cT r7 ?_))
    exact ih _
   refine .bb (.cr (.bg (fun t (y:Unit) =>  t=(A.v undef)) ?_ ?_))
   ·exact .lp (db a) (.lg rfl)
   rintro _ a6 rfl
   refine .bg (fun t (y:Unit) =>  t=(A.v undef)) ?_ ?_
   ·exact .lp (db a) (.lg rfl)
   rintro _ a7 rfl
   refine .bg (fun t (y:Unit) =>  t=(A.v undef)) ?_ ?_
   ·exact .lp (db a) (.lg rfl)
   rintro _ a8 rfl
   refine .bg (fun t (y:Unit) =>  t=(A.v undef)) ?_ ?_
   ·exact .lp (db a) (.lg rfl)
   rintro _ a9 rfl
   refine .bg (fun t (y:Unit) =>  t=(A.v undef)) ?_ ?_
   ·exact .lp (db a) (.lg rfl)
   rintro _ aa rfl
   refine .bg (fun t (y:Unit) =>  t=(A.v undef)) ?_ ?_
   ·exact .lp (db a) (.lg rfl)
   rintro _ ab rfl
   refine .bg (fun t (y:Unit) =>  t=(A.v undef)) ?_ ?_
   ·exact .lp (db a) (.lg rfl)
   rintro _ ad rfl
   refine .lp (db a) (.bg (fun t (y:Unit)=>∃ r:A,t=[(bA false),r]) ?_ ?_)
   ·exact .tq a (.lg ⟨_,rfl⟩)
   rintro _ ae ⟨r,rfl⟩
   refine .uc (.uc (.OC (.st (aJ ..) (.s [bx [(im (f.map ak) false),(im (b.map aq) false)]] (.cT r7 ?_)))))
   exact ih _
  exact .ex (w _ _ _ _ _ _)
def Ok (n:Nat) (a:aD) (b:Int) (a2:Int):Option Bool:=
 (jH n b a2 a.Queue a.Apart (n+8) 0).bind fun ON=>match ON with | (Sum.inl c)=>some c | (Sum.inr _)=>some false
theorem VK (C:OT) (n:Nat) (a:aD) (b:Int) (a2:Int):TJ C n 77 [(ag [(im (a.Queue.map ak) false),(im (a.Apart.map aq) false)]),(iA b),(iA a2)] (Ok n a b a2) (fun y=>(bA y)):=by
 refine .lp (WL ..) ?_
 unfold Ok
 refine .s ((pt 0 0),[bx [(im (a.Queue.map ak) false),(im (a.Apart.map aq) false)]]) (.as (CX C n _ _ _ _ b a2 a.Queue a.Apart ?_ ?_ _ 0))
 ·intro c d e f g w71
  exact .un rfl (.lv rfl)
 ·intro h i j k l w77
  exact .un rfl (.cT r7 (.lv rfl))
def K1 (a:aD) (b:Int) (a2:Int):Option Bool:=Ok aE a b a2
def HL (C:OT):Prop:=∀ (a:aD) (b:Int) (a2:Int),C 77 [(ag [(im (a.Queue.map ak) false),(im (a.Apart.map aq) false)]),(iA b),(iA a2)]=(K1 a b a2).map fun y=>(bA y)
def Ol (n:Nat) (a:aD) (b:Int):Option aD:=
 (fk a.Queue 0 b).bind fun c=>(cz 40 ([]) c).bind fun d=>(fk a.Queue (wr .i64 (b+1)) ((a.Queue.length:Int))).bind fun e=>(cz 40 d e).bind fun f=>some ((aD.mk f a.Apart))
theorem VL (C:OT) (n:Nat) (c:aD) (h:Int):TJ C n 78 [(ag [(im (c.Queue.map ak) false),(im (c.Apart.map aq) false)]),(iA h)] (Ol n c h) (fun y=>(ag [(im (y.Queue.map ak) false),(im (y.Apart.map aq) false)])):=by
 refine .lp (WM ..) ?_
 unfold Ol
 exact .sq (pt 0 0) (.s ((pt 1 0),[bx [(im (c.Queue.map ak) false),(im (c.Apart.map aq) false)],bx [XL,XL]]) (.s XL (.s2 (im (c.Queue.map ak) false) (.bd (gY (e:=68) (es:=3) (f:=ak) (l:=c.Queue) (a:=0) (b:=h) r7 r7 (fun _=>rfl) (.inl ⟨rfl,rfl⟩) (.inr ⟨_,rfl⟩)) fun i=>.bd (g:=fun (y:List aA)=>((bW 2 0 y.length false),[bx [(im (c.Queue.map ak) false),(im (c.Apart.map aq) false)],bx [XL,XL],aO.row false 3 (y.map ak)])) (jk nu (l:=[]) (l2:=i) (bC ..)) fun j=>.cT r7 (.s (pt 0 0) (.cT r7 (.s (im (c.Queue.map ak) false) (.st (aJ ..) (.cT r7 (.bd (gY (e:=68) (es:=3) (f:=ak) (l:=c.Queue) (a:=wr .i64 (h+1)) (b:=(c.Queue.length:Int)) r7 r7 (fun _=>rfl) (.inr ⟨_,rfl⟩) (.inl ⟨rfl,rfl⟩)) fun k=>.bd (g:=fun (y:List aA)=>((bW 2 0 y.length false),[bx [(im (c.Queue.map ak) false),(im (c.Apart.map aq) false)],bx [XL,XL],aO.row false 3 (y.map ak)])) (cj nu (l:=j) (l2:=k) (b:=2) rfl (by decide) (bC ..)) fun d=>.s (pt 0 0) (.sh (.s (ag [(bW 2 0 d.length false),(im (c.Apart.map aq) false)]) (.s [(gb d c),(gb d c),aO.row false 3 (d.map ak)] (.s (ag [(bW 2 0 d.length false),(im (c.Apart.map aq) false)]) (.lv (by show aS [(gb d c),(gb d c),aO.row false 3 (d.map ak)] (ag [(bW 2 0 d.length false),(im (c.Apart.map aq) false)])=_; first | (simp only[bR,cY,aS,bI (H:=[(gb d c),(gb d c),aO.row false 3 (d.map ak)]) (b:=2) (es:=3) (wr:=false) (l:=d) bZ rfl]; done) | (simp only[bR,e9,aS,bI (H:=[(gb d c),(gb d c),aO.row false 3 (d.map ak)]) (b:=2) (es:=3) (wr:=false) (l:=d) bZ rfl]; first | done | rfl)))))))))))))))))
def IU (a:aD) (b:Int):Option aD:=Ol aE a b
def Cz (C:OT):Prop:=∀ (a:aD) (b:Int),C 78 [(ag [(im (a.Queue.map ak) false),(im (a.Apart.map aq) false)]),(iA b)]=(IU a b).map fun y=>(ag [(im (y.Queue.map ak) false),(im (y.Apart.map aq) false)])
def NV (n:Nat) (a:aD) (b:Int):Option (aA×aD×Int):=
 (IT a b).bind fun d=>bif (d != 0) then (some (((aA.mk 0 0 ([])),(aD.mk ([]) ([])),d))) else ((bL a.Queue b).bind fun c=>(K1 a c.From c.To).bind fun e=>bif e then ((IU a b).bind fun f=>some (((aA.mk 0 0 ([])),f,0))) else ((IU a b).bind fun g=>some ((c,g,0))))
theorem Vj (C:OT) (n:Nat) (i:z9 C) (j:HL C) (h:Cz C) (a:aD) (c:Int):TJ C n 43 [(ag [(im (a.Queue.map ak) false),(im (a.Apart.map aq) false)]),(iA c)] (NV n a c) (fun y=>(tp [(ag (ak y.1)),(ag [(im (y.2.1.Queue.map ak) false),(im (y.2.1.Apart.map aq) false)]),(iA y.2.2)])):=by
 refine .lp (Wj ..) ?_
 unfold NV
 refine .s ((pt 0 0),[(cG a)]) (.sq (pt 1 0) (.s ((pt 2 0),[(cG a),bx [(iA 0),(iA 0),XL],bx [XL,XL]]) (.s (ag [(im (a.Queue.map ak) false),(im (a.Apart.map aq) false)]) (.bd (g:=fun (y:Int)=>(iA y)) (by simp only[bR,cY]; exact i a c) fun k=>.st (aG ..) (.bX ?_ ?_)))))
 ·exact .s (ag [(iA 0),(iA 0),XL]) (.s (ag [XL,XL]) (.sh (.s [(cG a),bx [(iA 0),(iA 0),XL],bx [XL,XL]] (.s (ag [(iA 0),(iA 0),XL]) (.s (ag [XL,XL]) (.lv so))))))
 refine .s2 (im (a.Queue.map ak) false) (.bd (eP (e:=68) (es:=3)) fun b=>.s (ag (ak b)) (.sq (pt 3 0) (.s [(cG a),bx [(iA 0),(iA 0),XL],bx [XL,XL],bx (ak b)] (.s (ag [(im (a.Queue.map ak) false),(im (a.Apart.map aq) false)]) (.s2 (iA b.From) (.s2 (iA b.To) (.bd (g:=fun (y:Bool)=>(bA y)) (by simp only[bR,cY]; exact j a b.From b.To) fun l=>.bX ?_ ?_)))))))
 ·exact .s (ag [(iA 0),(iA 0),XL]) (.s [(cG a),bx [(iA 0),(iA 0),XL],bx [XL,XL],bx [(iA 0),(iA 0),XL]] (.s (ag [(iA 0),(iA 0),XL]) (.s (ag [(im (a.Queue.map ak) false),(im (a.Apart.map aq) false)]) (.bd (g:=fun (y:aD)=>(ag [(im (y.Queue.map ak) false),(im (y.Apart.map aq) false)])) (by simp only[bR,cY]; exact h a c) fun d=>.sh (.s [(cG a),bx [(iA 0),(iA 0),XL],bx [(im (d.Queue.map ak) false),(im (d.Apart.map aq) false)],bx [(iA 0),(iA 0),XL]] (.s (ag [(iA 0),(iA 0),XL]) (.s (ag [(im (d.Queue.map ak) false),(im (d.Apart.map aq) false)]) (.lv so))))))))
 exact .s (ag (ak b)) (.s (ag [(im (a.Queue.map ak) false),(im (a.Apart.map aq) false)]) (.bd (g:=fun (y:aD)=>(ag [(im (y.Queue.map ak) false),(im (y.Apart.map aq) false)])) (by simp only[bR,cY]; exact h a c) fun f=>.sh (.s [(cG a),bx (ak b),bx [(im (f.Queue.map ak) false),(im (f.Apart.map aq) false)],bx (ak b)] (.s (ag (ak b)) (.s (ag [(im (f.Queue.map ak) false),(im (f.Apart.map aq) false)]) (.lv so))))))
def KN (a:aD) (b:Int):Option (aA×aD×Int):=NV aE a b
def HA (C:OT):Prop:=∀ (a:aD) (b:Int),C 43 [(ag [(im (a.Queue.map ak) false),(im (a.Apart.map aq) false)]),(iA b)]=(KN a b).map fun y=>(tp [(ag (ak y.1)),(ag [(im (y.2.1.Queue.map ak) false),(im (y.2.1.Apart.map aq) false)]),(iA y.2.2)])
def kS (n:Nat) (b:(List aR)) (c:aR):Nat->Int->Option (Int)
 | 0,_=>none
 | m+1,a=>(bif (decide (a<((b.length:Int)))) then ((bL b a).bind fun d=>some (decide (d.Bar<c.Bar))) else (some false)).bind fun e=>bif e then (kS n b c m (wr .i64 (a+1))) else (some a)
theorem CM {w63:A} (b:(List aR)) (a:aR) {K:(Int)->Option γ} (i:∀ (g:Int) (j:A),J φ (kx 0 (St.mk [(0,(im (b.map ay) false)),(3,(pt 0 0)),(4,j),(5,(iA g))] [bx (ay a)])) kL (K g) some) :
  ∀ (m:Nat) (c:Int),J φ (aN (cx C) (ec C n 8) (ey C n 8) (n+8) 46 0 0 1 kx kg kr kp m (St.mk [(0,(im (b.map ay) false)),(3,(pt 0 0)),(4,w63),(5,(iA c))] [bx (ay a)])) kL (kS n b a m c) K:=by
  refine nI (fun _=>.nn) fun m ih c=>.lp (Lz ..) ?_
  unfold kS
  refine .st (ef (e:=46)) (.st (aY ..) (.Ug (.bg (fun t (y:Bool)=>∃ h:A,t=[(bA y),h]) ?_ ?_)))
  ·refine .EW (fun d=>?_) (fun d=>?_)
   ·exact .bb (.bd (eP (e:=46) (es:=4)) fun f=>.s (A.ip [(iA f.Bar),(iA f.Program)]) (.s (iA f.Bar) (.s (pt 0 2) (.s (iA a.Bar) (.cr (.u4 (.uc (.uc (.uc (.ub d (.st (aY ..) (.lg ⟨_,rfl⟩))))))))))))
   exact .bb (.cr (.u4 (.uc (.uc (.uc (.tq d (.lg ⟨_,rfl⟩)))))))
  rintro _ k ⟨h,rfl⟩
  refine .uc (.uc (.bX ?_ ?_))
  ·refine .st (aJ ..) (.s [bx (ay a)] (.cT r7 ?_))
   exact ih _
  exact .ex (i _ _)
def NY (n:Nat) (a:(List aR)) (c:aR):Option (List aR):=
 (kS n a c (n+8) 0).bind fun e=>match e with | b=>(fk a 0 b).bind fun f=>(cz 32 ([]) f).bind fun d=>(bif (decide (b<((a.length:Int)))) then ((bL a b).bind fun g=>some (g.Bar==c.Bar)) else (some false)).bind fun h=>bif h then ((bL a b).bind fun i=>bif (decide (c.No<=i.No)) then ((bL a b).bind fun j=>(cz 32 d ([j])).bind fun k=>(fk a (wr .i64 (b+1)) ((a.length:Int))).bind fun l=>(cz 32 k l).bind fun o=>some o) else ((cz 32 d ([c])).bind fun p=>(fk a (wr .i64 (b+1)) ((a.length:Int))).bind fun q=>(cz 32 p q).bind fun r=>some r)) else ((cz 32 d ([c])).bind fun s=>(fk a b ((a.length:Int))).bind fun t=>(cz 32 s t).bind fun u=>some u)
theorem Vm (C:OT) (n:Nat) (h:(List aR)) (c:aR):TJ C n 46 [(im (h.map ay) false),(ag (ay c))] (NY n h c) (fun y=>(im (y.map ay) false)):=by
 refine .lp (Wm ..) ?_
 unfold NY
 refine .s ((pt 0 0),[bx (ay c)]) (.as (CM C n _ _ _ _ h c ?_ _ 0))
 ·intro o a6
  refine .un rfl (.cT r7 (.s XL (.bd (gY (e:=46) (es:=4) (f:=ay) (l:=h) (a:=0) (b:=o) r7 r7 (fun _=>rfl) (.inl ⟨rfl,rfl⟩) (.inr ⟨_,rfl⟩)) fun v=>.bd (g:=fun (y:List aR)=>((bW 1 0 y.length false),[bx (ay c),aO.row false 4 (y.map ay)])) (jk lS (l:=[]) (l2:=v) (bC ..)) fun p=>.st (ef (e:=46)) (.st (aY ..) (.Ug (.bg (fun t (y:Bool)=>∃ u:A,t=[(bA y),u]) ?_ ?_))))))
  ·refine .EW (fun q=>?_) (fun q=>?_)
   ·exact .bb (.bd (eP (e:=46) (es:=4)) fun r=>.s (A.ip [(iA r.Bar),(iA r.Program)]) (.s (iA r.Bar) (.s (pt 0 2) (.s (iA c.Bar) (.cr (.u4 (.uc (.uc (.uc (.ub q (.st (bc ..) (.lg ⟨_,rfl⟩))))))))))))
   exact .bb (.cr (.u4 (.uc (.uc (.uc (.tq q (.lg ⟨_,rfl⟩)))))))
  rintro _ a7 ⟨u,rfl⟩
  refine .uc (.uc (.bX ?_ ?_))
  ·refine .bd (eP (e:=46) (es:=4)) fun w=>.s2 (iA w.No) (.s2 (iA c.No) (.st (c9 ..) (.bX ?_ ?_)))
   ·exact .bd (eP (e:=46) (es:=4)) fun d=>.s (ag (ay d)) (.s [bx (ay d),aO.row false 4 (p.map ay)] (.st (aJ ..) (.s (ag (ay d)) (.s (im [[(iA d.No),(iA d.Role),(iA d.Bar),(iA d.Program)]] true) (.bd (g:=fun (y:List aR)=>((bW 1 0 y.length false),[bx (ay d),aO.row false 4 (y.map ay)])) (cj lS (l:=p) (l2:=[d]) (b:=1) rfl (by decide) (bC (f:=ay) ([d]:List aR) _ _)) fun x=>.bd (gY (e:=46) (es:=4) (f:=ay) (l:=h) (a:=wr .i64 (o+1)) (b:=(h.length:Int)) r7 r7 (fun _=>rfl) (.inr ⟨_,rfl⟩) (.inl ⟨rfl,rfl⟩)) fun z=>.bd (g:=fun (y:List aR)=>((bW 1 0 y.length false),[bx (ay d),aO.row false 4 (y.map ay)])) (cj lS (l:=x) (l2:=z) (b:=1) rfl (by decide) (bC ..)) fun i=>.lv (by show aS [bx (ay d),aO.row false 4 (i.map ay)] (bW 1 0 i.length false)=_; first | (simp only[bR,cY,aS,bI (H:=[bx (ay d),aO.row false 4 (i.map ay)]) (b:=1) (es:=4) (wr:=false) (l:=i) dV rfl]; done) | (simp only[bR,e9,aS,bI (H:=[bx (ay d),aO.row false 4 (i.map ay)]) (b:=1) (es:=4) (wr:=false) (l:=i) dV rfl]; first | done | rfl)))))))
   exact .st (aJ ..) (.s (ag (ay c)) (.s (im [[(iA c.No),(iA c.Role),(iA c.Bar),(iA c.Program)]] true) (.bd (g:=fun (y:List aR)=>((bW 1 0 y.length false),[bx (ay c),aO.row false 4 (y.map ay)])) (cj lS (l:=p) (l2:=[c]) (b:=1) rfl (by decide) (bC (f:=ay) ([c]:List aR) _ _)) fun a2=>.bd (gY (e:=46) (es:=4) (f:=ay) (l:=h) (a:=wr .i64 (o+1)) (b:=(h.length:Int)) r7 r7 (fun _=>rfl) (.inr ⟨_,rfl⟩) (.inl ⟨rfl,rfl⟩)) fun a3=>.bd (g:=fun (y:List aR)=>((bW 1 0 y.length false),[bx (ay c),aO.row false 4 (y.map ay)])) (cj lS (l:=a2) (l2:=a3) (b:=1) rfl (by decide) (bC ..)) fun j=>.lv (by show aS [bx (ay c),aO.row false 4 (j.map ay)] (bW 1 0 j.length false)=_; first | (simp only[bR,cY,aS,bI (H:=[bx (ay c),aO.row false 4 (j.map ay)]) (b:=1) (es:=4) (wr:=false) (l:=j) dV rfl]; done) | (simp only[bR,e9,aS,bI (H:=[bx (ay c),aO.row false 4 (j.map ay)]) (b:=1) (es:=4) (wr:=false) (l:=j) dV rfl]; first | done | rfl)))))
  exact .s (ag (ay c)) (.s (im [[(iA c.No),(iA c.Role),(iA c.Bar),(iA c.Program)]] true) (.bd (g:=fun (y:List aR)=>((bW 1 0 y.length false),[bx (ay c),aO.row false 4 (y.map ay)])) (cj lS (l:=p) (l2:=[c]) (b:=1) rfl (by decide) (bC (f:=ay) ([c]:List aR) _ _)) fun a4=>.bd (gY (e:=46) (es:=4) (f:=ay) (l:=h) (a:=o) (b:=(h.length:Int)) r7 r7 (fun _=>rfl) (.inr ⟨_,rfl⟩) (.inl ⟨rfl,rfl⟩)) fun a5=>.bd (g:=fun (y:List aR)=>((bW 1 0 y.length false),[bx (ay c),aO.row false 4 (y.map ay)])) (cj lS (l:=a4) (l2:=a5) (b:=1) rfl (by decide) (bC ..)) fun k=>.lv (by show aS [bx (ay c),aO.row false 4 (k.map ay)] (bW 1 0 k.length false)=_; first | (simp only[bR,cY,aS,bI (H:=[bx (ay c),aO.row false 4 (k.map ay)]) (b:=1) (es:=4) (wr:=false) (l:=k) dV rfl]; done) | (simp only[bR,e9,aS,bI (H:=[bx (ay c),aO.row false 4 (k.map ay)]) (b:=1) (es:=4) (wr:=false) (l:=k) dV rfl]; first | done | rfl))))
def KO (a:(List aR)) (b:aR):Option (List aR):=NY aE a b
def HB (C:OT):Prop:=∀ (a:(List aR)) (b:aR),C 46 [(im (a.map ay) false),(ag (ay b))]=(KO a b).map fun y=>(im (y.map ay) false)
def ky (a:(aA×aD×Int)) (b:(List bj)) (c:aw):aO:=bx [(im (a.2.1.Queue.map ak) false),(im (a.2.1.Apart.map aq) false),(bW 6 0 b.length false),(iA c.Bar)]
def NH (n:Nat) (a:aw) (f:Int):Option (aw×bh×Bool×Int):=
 (IJ a).bind fun e=>bif (e != 0) then (some (((aw.mk ((aD.mk ([]) ([]))) ([]) 0),(bh.mk 0 0 0),false,e))) else ((KN a.Net f).bind fun b=>bif (b.2.2 != 0) then (some (((aw.mk ((aD.mk ([]) ([]))) ([]) 0),(bh.mk 0 0 0),false,b.2.2))) else (bif (b.1.From==b.1.To) then (some (((aw.mk b.2.1 a.Ears a.Bar),(bh.mk 0 0 0),false,0))) else (bif (b.1.To==0) then ((Kj b.1.Data).bind fun g=>some (((aw.mk b.2.1 a.Ears a.Bar),g.1,true,0))) else ((Kk b.1.Data).bind fun d=>bif (decide (a.Bar<=d.1.Bar)) then ((cz 72 ([]) a.Ears).bind fun c=>(l0 c.length d.1.Role).bind fun k11=>(c[k11]?).bind fun h=>(KO h.Cues d.1).bind fun i=>(l0 c.length d.1.Role).bind fun k15=>(oz c k15 (fun (y:bj)=>(bj.mk i y.Got y.Did))).bind fun j=>some (((aw.mk b.2.1 ((List.take c.length (List.drop 0 j))) a.Bar),(bh.mk 0 0 0),false,0))) else (some (((aw.mk b.2.1 a.Ears a.Bar),(bh.mk 0 0 0),false,0)))))))
theorem U3 (C:OT) (n:Nat) (p:zX C) (q:HA C) (r:Co C) (t:Cp C) (v:HB C) (c:aw) (k:Int):TJ C n 13 [(ag (al c)),(iA k)] (NH n c k) (fun y=>(tp [(ag (al y.1)),(ag (aB y.2.1)),(bA y.2.2.1),(iA y.2.2.2)])):=by
 refine .lp (V2 ..) ?_
 unfold NH
 refine .s ((pt 0 0),[bx (al c)]) (.sq (pt 1 0) (.s ((pt 2 0),[bx (al c),bx [XL,XL,XL,(iA 0)],bx [(iA 0),(iA 0),(iA 0)]]) (.s (ag (al c)) (.bd (g:=fun (y:Int)=>(iA y)) (by simp only[bR,cY]; exact p c) fun x=>.st (aG ..) (.bX ?_ ?_)))))
 ·exact .s (ag [XL,XL,XL,(iA 0)]) (.s (ag [(iA 0),(iA 0),(iA 0)]) (.sh (.s [bx (al c),bx [XL,XL,XL,(iA 0)],bx [(iA 0),(iA 0),(iA 0)]] (.s (ag [XL,XL,XL,(iA 0)]) (.s (ag [(iA 0),(iA 0),(iA 0)]) (.lv so))))))
 refine .s2 (ag [(im (c.Net.Queue.map ak) false),(im (c.Net.Apart.map aq) false)]) (.bd (g:=fun (y:(aA×aD×Int))=>(tp [(ag (ak y.1)),(ag [(im (y.2.1.Queue.map ak) false),(im (y.2.1.Apart.map aq) false)]),(iA y.2.2)])) (by simp only[bR,cY]; exact q c.Net k) fun a=>.s (ag (ak a.1)) (.s (ag [(im (a.2.1.Queue.map ak) false),(im (a.2.1.Apart.map aq) false)]) (.s (iA a.2.2) (.sq (pt 3 0) (.sq (pt 4 0) (.sh (.s [bx (al c),bx [XL,XL,XL,(iA 0)],bx [(iA 0),(iA 0),(iA 0)],bx (ak a.1),(bT a)] (.st (aG ..) (.bX ?_ ?_)))))))))
 ·exact .s (ag [XL,XL,XL,(iA 0)]) (.s (ag [(iA 0),(iA 0),(iA 0)]) (.sh (.s [bx (al c),bx [XL,XL,XL,(iA 0)],bx [(iA 0),(iA 0),(iA 0)],bx (ak a.1),(bT a)] (.s (ag [XL,XL,XL,(iA 0)]) (.s (ag [(iA 0),(iA 0),(iA 0)]) (.lv so))))))
 refine .s (ag [(im (a.2.1.Queue.map ak) false),(im (a.2.1.Apart.map aq) false)]) (.s (pt 0 0) (.s [(dI a c),bx [XL,XL,XL,(iA 0)],bx [(iA 0),(iA 0),(iA 0)],bx (ak a.1),(bT a)] (.s2 (iA a.1.From) (.s2 (iA a.1.To) (.st (bc ..) (.bX ?_ ?_))))))
 ·exact .s (ag [(im (a.2.1.Queue.map ak) false),(im (a.2.1.Apart.map aq) false),(im (c.Ears.map az) false),(iA c.Bar)]) (.s (ag [(iA 0),(iA 0),(iA 0)]) (.sh (.s [(dI a c),(dI a c),bx [(iA 0),(iA 0),(iA 0)],bx (ak a.1),(bT a)] (.s (ag [(im (a.2.1.Queue.map ak) false),(im (a.2.1.Apart.map aq) false),(im (c.Ears.map az) false),(iA c.Bar)]) (.s (ag [(iA 0),(iA 0),(iA 0)]) (.lv so))))))
 refine .s2 (iA a.1.To) (.st (bc ..) (.bX ?_ ?_))
 ·exact .s2 (im (a.1.Data.map c8) false) (.bd (g:=fun (y:(bh×Bool))=>(tp [(ag (aB y.1)),(bA y.2)])) (by simp only[bR,cY]; exact r a.1.Data) fun i=>.s (ag (aB i.1)) (.s (bA i.2) (.sq (pt 5 0) (.sh (.s (ag [(im (a.2.1.Queue.map ak) false),(im (a.2.1.Apart.map aq) false),(im (c.Ears.map az) false),(iA c.Bar)]) (.s (ag (aB i.1)) (.cT r7 (.sh (.s [(dI a c),(dI a c),bx (aB i.1),bx (ak a.1),(bT a),bx (aB i.1)] (.s (ag [(im (a.2.1.Queue.map ak) false),(im (a.2.1.Apart.map aq) false),(im (c.Ears.map az) false),(iA c.Bar)]) (.s (ag (aB i.1)) (.lv so))))))))))))
 refine .s2 (im (a.1.Data.map c8) false) (.bd (g:=fun (y:(aR×Bool))=>(tp [(ag (ay y.1)),(bA y.2)])) (by simp only[bR,cY]; exact t a.1.Data) fun h=>.s (ag (ay h.1)) (.s (bA h.2) (.sq (pt 5 0) (.s [(dI a c),bx [XL,XL,XL,(iA 0)],bx [(iA 0),(iA 0),(iA 0)],bx (ak a.1),(bT a),bx (ay h.1)] (.s2 (iA h.1.Bar) (.s2 (iA c.Bar) (.st (c9 ..) (.bX ?_ ?_))))))))
 ·refine .s XL (.s2 (im (c.Ears.map az) false) (.bd (g:=fun (y:List bj)=>((bW 6 0 y.length false),[(dI a c),bx [XL,XL,XL,(iA 0)],bx [(iA 0),(iA 0),(iA 0)],bx (ak a.1),(bT a),bx (ay h.1),aO.row true 3 (y.map az)])) (lN (e:=50) (es:=3) (by_:=72) (z:=[XL,XL,XL]) r7 r7 r7 r7 rfl (by decide) (by decide) r7 (f:=az) (fun _=>rfl) pd (l2:=c.Ears) (bC ..)) fun d=>.s (pt 0 2) (.s [(ky a d c),bx [XL,XL,XL,(iA 0)],bx [(iA 0),(iA 0),(iA 0)],bx (ak a.1),(bT a),bx (ay h.1),aO.row true 3 (d.map az)] (.s2 (bW 6 0 d.length false) (.s2 (iA h.1.Role) (.s2 (bW 6 0 d.length false) (.s2 (iA h.1.Role) (.bd (g:=fun (y:Nat)=>A.ep 6 y 0) (jF (e:=50) (es:=3) (l:=d) r7 r7 rfl) fun k11=>.s (A.ep 6 k11 0) (.bd (g:=fun (y:bj)=>(im (y.Cues.map ay) false)) (BO (es:=3) (n:=1) (l:=d) r7 (by decide) (fun _=>rfl) (by decide) rfl (fun _=>r7)) fun w=>.s (ag (ay h.1)) (.bd (g:=fun (y:(List aR))=>(im (y.map ay) false)) (by simp only[bR,cY]; exact v w.Cues h.1) fun o=>.bd (g:=fun (y:Nat)=>A.ep 6 y 0) (jF (e:=50) (es:=3) (l:=d) r7 r7 rfl) fun k15=>.s (A.ep 6 k15 0) (.bd (g:=fun (y:List bj)=>[(ky a d c),bx [XL,XL,XL,(iA 0)],bx [(iA 0),(iA 0),(iA 0)],bx (ak a.1),(bT a),bx (ay h.1),aO.row true 3 (y.map az)]) ((jW (es:=3) (n:=1) (l:=d) (xs:=[(im (o.map ay) false)]) (u:=fun (y:bj)=>(bj.mk o y.Got y.Did)) r7 r7 (by decide) rfl (fun _=>rfl) (by decide) (by decide) rfl (fun _=>rfl))) fun j=>.s (ag [(im (a.2.1.Queue.map ak) false),(im (a.2.1.Apart.map aq) false),(bW 6 0 d.length false),(iA c.Bar)]) (.s (ag [(iA 0),(iA 0),(iA 0)]) (.sh ?_)))))))))))))
  exact .s [(ky a d c),(ky a d c),bx [(iA 0),(iA 0),(iA 0)],bx (ak a.1),(bT a),bx (ay h.1),aO.row true 3 (j.map az)] (.s (ag [(im (a.2.1.Queue.map ak) false),(im (a.2.1.Apart.map aq) false),(bW 6 0 d.length false),(iA c.Bar)]) (.s (ag [(iA 0),(iA 0),(iA 0)]) (.lv (by show aS [(ky a d c),(ky a d c),bx [(iA 0),(iA 0),(iA 0)],bx (ak a.1),(bT a),bx (ay h.1),aO.row true 3 (j.map az)] (tp [(ag [(im (a.2.1.Queue.map ak) false),(im (a.2.1.Apart.map aq) false),(bW 6 0 d.length false),(iA c.Bar)]),(ag [(iA 0),(iA 0),(iA 0)]),(bA false),(iA 0)])=_; first | (simp only[bR,cY,aS,fO (H:=[(ky a d c),(ky a d c),bx [(iA 0),(iA 0),(iA 0)],bx (ak a.1),(bT a),bx (ay h.1),aO.row true 3 (j.map az)]) (b:=6) (es:=3) (wr:=true) (l:=j) dW rfl]; done) | (simp only[bR,e9,aS,fO (H:=[(ky a d c),(ky a d c),bx [(iA 0),(iA 0),(iA 0)],bx (ak a.1),(bT a),bx (ay h.1),aO.row true 3 (j.map az)]) (b:=6) (es:=3) (wr:=true) (l:=j) dW rfl]; first | done | rfl)))))
 exact .s (ag [(im (a.2.1.Queue.map ak) false),(im (a.2.1.Apart.map aq) false),(im (c.Ears.map az) false),(iA c.Bar)]) (.s (ag [(iA 0),(iA 0),(iA 0)]) (.sh (.s [(dI a c),(dI a c),bx [(iA 0),(iA 0),(iA 0)],bx (ak a.1),(bT a),bx (ay h.1)] (.s (ag [(im (a.2.1.Queue.map ak) false),(im (a.2.1.Apart.map aq) false),(im (c.Ears.map az) false),(iA c.Bar)]) (.s (ag [(iA 0),(iA 0),(iA 0)]) (.lv so))))))
def KE (a:aw) (b:Int):Option (aw×bh×Bool×Int):=NH aE a b
def Hq (C:OT):Prop:=∀ (a:aw) (b:Int),C 13 [(ag (al a)),(iA b)]=(KE a b).map fun y=>(tp [(ag (al y.1)),(ag (aB y.2.1)),(bA y.2.2.1),(iA y.2.2.2)])
def NZ (n:Nat) (a:aD) (b:Int):Option (aD×Int):=
 (IP a b).bind fun c=>bif (c.2 != 0) then (some (((aD.mk ([]) ([])),c.2))) else ((IQ a b).bind fun d=>some ((d,0)))
theorem Vn (C:OT) (n:Nat) (e:z8 C) (f:Cy C) (a:aD) (b:Int):TJ C n 47 [(ag [(im (a.Queue.map ak) false),(im (a.Apart.map aq) false)]),(iA b)] (NZ n a b) (fun y=>(tp [(ag [(im (y.1.Queue.map ak) false),(im (y.1.Apart.map aq) false)]),(iA y.2)])):=by
 refine .lp (Wn ..) ?_
 unfold NZ
 refine .sq (pt 0 0) (.s ((pt 1 0),[bx [(im (a.Queue.map ak) false),(im (a.Apart.map aq) false)],bx [XL,XL]]) (.s (ag [(im (a.Queue.map ak) false),(im (a.Apart.map aq) false)]) (.bd (g:=fun (y:(aA×Int))=>(tp [(ag (ak y.1)),(iA y.2)])) (by simp only[bR,cY]; exact e a b) fun d=>.s (ag (ak d.1)) (.s (iA d.2) (.st (aG ..) (.bX ?_ ?_))))))
 ·exact .s (ag [XL,XL]) (.s [bx [(im (a.Queue.map ak) false),(im (a.Apart.map aq) false)],bx [XL,XL]] (.s (ag [XL,XL]) (.lv so)))
 exact .s (ag [(im (a.Queue.map ak) false),(im (a.Apart.map aq) false)]) (.bd (g:=fun (y:aD)=>(ag [(im (y.Queue.map ak) false),(im (y.Apart.map aq) false)])) (by simp only[bR,cY]; exact f a b) fun c=>.s [bx [(im (a.Queue.map ak) false),(im (a.Apart.map aq) false)],bx [(im (c.Queue.map ak) false),(im (c.Apart.map aq) false)]] (.s (ag [(im (c.Queue.map ak) false),(im (c.Apart.map aq) false)]) (.lv so)))
def KP (a:aD) (b:Int):Option (aD×Int):=NZ aE a b
def HC (C:OT):Prop:=∀ (a:aD) (b:Int),C 47 [(ag [(im (a.Queue.map ak) false),(im (a.Apart.map aq) false)]),(iA b)]=(KP a b).map fun y=>(tp [(ag [(im (y.1.Queue.map ak) false),(im (y.1.Apart.map aq) false)]),(iA y.2)])
def NI (n:Nat) (a:aw) (d:Int):Option (aw×Int):=
 (EV a).bind fun c=>bif (c != 0) then (some (((aw.mk ((aD.mk ([]) ([]))) ([]) 0),c))) else ((KP a.Net d).bind fun b=>bif (b.2 != 0) then (some (((aw.mk ((aD.mk ([]) ([]))) ([]) 0),b.2))) else (some (((aw.mk b.1 a.Ears a.Bar),0))))
theorem U4 (C:OT) (n:Nat) (d:tU C) (e:HC C) (a:aw) (c:Int):TJ C n 14 [(ag (al a)),(iA c)] (NI n a c) (fun y=>(tp [(ag (al y.1)),(iA y.2)])):=by
 refine .lp (V3 ..) ?_
 unfold NI
 refine .s ((pt 0 0),[bx (al a)]) (.s ((pt 1 0),[bx (al a),bx [XL,XL,XL,(iA 0)]]) (.s (ag (al a)) (.bd (g:=fun (y:Int)=>(iA y)) (by simp only[bR,cY]; exact d a) fun f=>.st (aG ..) (.bX ?_ ?_))))
 ·exact .s (ag [XL,XL,XL,(iA 0)]) (.s [bx (al a),bx [XL,XL,XL,(iA 0)]] (.s (ag [XL,XL,XL,(iA 0)]) (.lv so)))
 refine .s2 (ag [(im (a.Net.Queue.map ak) false),(im (a.Net.Apart.map aq) false)]) (.bd (g:=fun (y:(aD×Int))=>(tp [(ag [(im (y.1.Queue.map ak) false),(im (y.1.Apart.map aq) false)]),(iA y.2)])) (by simp only[bR,cY]; exact e a.Net c) fun b=>.s (ag [(im (b.1.Queue.map ak) false),(im (b.1.Apart.map aq) false)]) (.s (iA b.2) (.sq (pt 2 0) (.s [bx (al a),bx [XL,XL,XL,(iA 0)],bx [(im (b.1.Queue.map ak) false),(im (b.1.Apart.map aq) false)]] (.st (aG ..) (.bX ?_ ?_))))))
 ·exact .s (ag [XL,XL,XL,(iA 0)]) (.s [bx (al a),bx [XL,XL,XL,(iA 0)],bx [(im (b.1.Queue.map ak) false),(im (b.1.Apart.map aq) false)]] (.s (ag [XL,XL,XL,(iA 0)]) (.lv so)))
 exact .s (ag [(im (b.1.Queue.map ak) false),(im (b.1.Apart.map aq) false)]) (.s (pt 0 0) (.sh (.s (ag [(im (b.1.Queue.map ak) false),(im (b.1.Apart.map aq) false),(im (a.Ears.map az) false),(iA a.Bar)]) (.s [bx [(im (b.1.Queue.map ak) false),(im (b.1.Apart.map aq) false),(im (a.Ears.map az) false),(iA a.Bar)],bx [(im (b.1.Queue.map ak) false),(im (b.1.Apart.map aq) false),(im (a.Ears.map az) false),(iA a.Bar)],bx [(im (b.1.Queue.map ak) false),(im (b.1.Apart.map aq) false)]] (.s (ag [(im (b.1.Queue.map ak) false),(im (b.1.Apart.map aq) false),(im (a.Ears.map az) false),(iA a.Bar)]) (.lv so))))))
def KF (a:aw) (b:Int):Option (aw×Int):=NI aE a b
def Hr (C:OT):Prop:=∀ (a:aw) (b:Int),C 14 [(ag (al a)),(iA b)]=(KF a b).map fun y=>(tp [(ag (al y.1)),(iA y.2)])
def N0 (n:Nat) (a:aD) (b:Int):Option (aD×Int):=
 (IT a b).bind fun c=>bif (c != 0) then (some (((aD.mk ([]) ([])),c))) else ((IU a b).bind fun d=>some ((d,0)))
theorem Vo (C:OT) (n:Nat) (d:z9 C) (e:Cz C) (a:aD) (b:Int):TJ C n 48 [(ag [(im (a.Queue.map ak) false),(im (a.Apart.map aq) false)]),(iA b)] (N0 n a b) (fun y=>(tp [(ag [(im (y.1.Queue.map ak) false),(im (y.1.Apart.map aq) false)]),(iA y.2)])):=by
 refine .lp (Wo ..) ?_
 unfold N0
 refine .sq (pt 0 0) (.s ((pt 1 0),[bx [(im (a.Queue.map ak) false),(im (a.Apart.map aq) false)],bx [XL,XL]]) (.s (ag [(im (a.Queue.map ak) false),(im (a.Apart.map aq) false)]) (.bd (g:=fun (y:Int)=>(iA y)) (by simp only[bR,cY]; exact d a b) fun f=>.st (aG ..) (.bX ?_ ?_))))
 ·exact .s (ag [XL,XL]) (.s [bx [(im (a.Queue.map ak) false),(im (a.Apart.map aq) false)],bx [XL,XL]] (.s (ag [XL,XL]) (.lv so)))
 exact .s (ag [(im (a.Queue.map ak) false),(im (a.Apart.map aq) false)]) (.bd (g:=fun (y:aD)=>(ag [(im (y.Queue.map ak) false),(im (y.Apart.map aq) false)])) (by simp only[bR,cY]; exact e a b) fun c=>.s [bx [(im (a.Queue.map ak) false),(im (a.Apart.map aq) false)],bx [(im (c.Queue.map ak) false),(im (c.Apart.map aq) false)]] (.s (ag [(im (c.Queue.map ak) false),(im (c.Apart.map aq) false)]) (.lv so)))
def KQ (a:aD) (b:Int):Option (aD×Int):=N0 aE a b
def HD (C:OT):Prop:=∀ (a:aD) (b:Int),C 48 [(ag [(im (a.Queue.map ak) false),(im (a.Apart.map aq) false)]),(iA b)]=(KQ a b).map fun y=>(tp [(ag [(im (y.1.Queue.map ak) false),(im (y.1.Apart.map aq) false)]),(iA y.2)])
def m7 (a:(aD×Int)) (b:aw):aO:=bx [(im (a.1.Queue.map ak) false),(im (a.1.Apart.map aq) false),(im (b.Ears.map az) false),(iA b.Bar)]
def NJ (n:Nat) (a:aw) (d:Int):Option (aw×Int):=
 (IJ a).bind fun c=>bif (c != 0) then (some (((aw.mk ((aD.mk ([]) ([]))) ([]) 0),c))) else ((KQ a.Net d).bind fun b=>bif (b.2 != 0) then (some (((aw.mk ((aD.mk ([]) ([]))) ([]) 0),b.2))) else (some (((aw.mk b.1 a.Ears a.Bar),0))))
theorem U5 (C:OT) (n:Nat) (d:zX C) (e:HD C) (a:aw) (c:Int):TJ C n 15 [(ag (al a)),(iA c)] (NJ n a c) (fun y=>(tp [(ag (al y.1)),(iA y.2)])):=by
 refine .lp (V4 ..) ?_
 unfold NJ
 refine .s ((pt 0 0),[bx (al a)]) (.s ((pt 1 0),[bx (al a),bx [XL,XL,XL,(iA 0)]]) (.s (ag (al a)) (.bd (g:=fun (y:Int)=>(iA y)) (by simp only[bR,cY]; exact d a) fun f=>.st (aG ..) (.bX ?_ ?_))))
 ·exact .s (ag [XL,XL,XL,(iA 0)]) (.s [bx (al a),bx [XL,XL,XL,(iA 0)]] (.s (ag [XL,XL,XL,(iA 0)]) (.lv so)))
 refine .s2 (ag [(im (a.Net.Queue.map ak) false),(im (a.Net.Apart.map aq) false)]) (.bd (g:=fun (y:(aD×Int))=>(tp [(ag [(im (y.1.Queue.map ak) false),(im (y.1.Apart.map aq) false)]),(iA y.2)])) (by simp only[bR,cY]; exact e a.Net c) fun b=>.s (ag [(im (b.1.Queue.map ak) false),(im (b.1.Apart.map aq) false)]) (.s (iA b.2) (.s (pt 0 0) (.s [(m7 b a),bx [XL,XL,XL,(iA 0)]] (.st (aG ..) (.bX ?_ ?_))))))
 ·exact .s (ag [XL,XL,XL,(iA 0)]) (.s [(m7 b a),bx [XL,XL,XL,(iA 0)]] (.s (ag [XL,XL,XL,(iA 0)]) (.lv so)))
 exact .s (ag [(im (b.1.Queue.map ak) false),(im (b.1.Apart.map aq) false),(im (a.Ears.map az) false),(iA a.Bar)]) (.s [(m7 b a),(m7 b a)] (.s (ag [(im (b.1.Queue.map ak) false),(im (b.1.Apart.map aq) false),(im (a.Ears.map az) false),(iA a.Bar)]) (.lv so)))
def KG (a:aw) (b:Int):Option (aw×Int):=NJ aE a b
def Hs (C:OT):Prop:=∀ (a:aw) (b:Int),C 15 [(ag (al a)),(iA b)]=(KG a b).map fun y=>(tp [(ag (al y.1)),(iA y.2)])
def N1 (n:Nat) (b:aD) (d:Int):Option (aD×Int):=
 (IP b d).bind fun a=>bif (a.2 != 0) then (some (((aD.mk ([]) ([])),a.2))) else ((Kl b a.1).bind fun c=>some ((c.1,c.2)))
theorem Vp (C:OT) (n:Nat) (e:Cq C) (f:z8 C) (a:aD) (d:Int):TJ C n 49 [(ag [(im (a.Queue.map ak) false),(im (a.Apart.map aq) false)]),(iA d)] (N1 n a d) (fun y=>(tp [(ag [(im (y.1.Queue.map ak) false),(im (y.1.Apart.map aq) false)]),(iA y.2)])):=by
 refine .lp (Wp ..) ?_
 unfold N1
 refine .s ((pt 0 0),[(cG a)]) (.s ((pt 1 0),[(cG a),bx [XL,XL]]) (.s (ag [(im (a.Queue.map ak) false),(im (a.Apart.map aq) false)]) (.bd (g:=fun (y:(aA×Int))=>(tp [(ag (ak y.1)),(iA y.2)])) (by simp only[bR,cY]; exact f a d) fun b=>.s (ag (ak b.1)) (.s (iA b.2) (.sq (pt 2 0) (.s [(cG a),bx [XL,XL],bx (ak b.1)] (.st (aG ..) (.bX ?_ ?_))))))))
 ·exact .s (ag [XL,XL]) (.s [(cG a),bx [XL,XL],bx (ak b.1)] (.s (ag [XL,XL]) (.lv so)))
 exact .s (ag [(im (a.Queue.map ak) false),(im (a.Apart.map aq) false)]) (.s (ag (ak b.1)) (.bd (g:=fun (y:(aD×Int))=>(tp [(ag [(im (y.1.Queue.map ak) false),(im (y.1.Apart.map aq) false)]),(iA y.2)])) (by simp only[bR,cY]; exact e a b.1) fun c=>.s (ag [(im (c.1.Queue.map ak) false),(im (c.1.Apart.map aq) false)]) (.s (iA c.2) (.s [(cG a),bx [(im (c.1.Queue.map ak) false),(im (c.1.Apart.map aq) false)],bx (ak b.1)] (.s (ag [(im (c.1.Queue.map ak) false),(im (c.1.Apart.map aq) false)]) (.lv so))))))
def KR (a:aD) (b:Int):Option (aD×Int):=N1 aE a b
def HE (C:OT):Prop:=∀ (a:aD) (b:Int),C 49 [(ag [(im (a.Queue.map ak) false),(im (a.Apart.map aq) false)]),(iA b)]=(KR a b).map fun y=>(tp [(ag [(im (y.1.Queue.map ak) false),(im (y.1.Apart.map aq) false)]),(iA y.2)])
def NK (n:Nat) (a:aw) (d:Int):Option (aw×Int):=
 (EV a).bind fun c=>bif (c != 0) then (some (((aw.mk ((aD.mk ([]) ([]))) ([]) 0),c))) else ((KR a.Net d).bind fun b=>bif (b.2 != 0) then (some (((aw.mk ((aD.mk ([]) ([]))) ([]) 0),b.2))) else (some (((aw.mk b.1 a.Ears a.Bar),0))))
theorem U6 (C:OT) (n:Nat) (d:tU C) (e:HE C) (a:aw) (c:Int):TJ C n 16 [(ag (al a)),(iA c)] (NK n a c) (fun y=>(tp [(ag (al y.1)),(iA y.2)])):=by
 refine .lp (V5 ..) ?_
 unfold NK
 refine .s ((pt 0 0),[bx (al a)]) (.s ((pt 1 0),[bx (al a),bx [XL,XL,XL,(iA 0)]]) (.s (ag (al a)) (.bd (g:=fun (y:Int)=>(iA y)) (by simp only[bR,cY]; exact d a) fun f=>.st (aG ..) (.bX ?_ ?_))))
 ·exact .s (ag [XL,XL,XL,(iA 0)]) (.s [bx (al a),bx [XL,XL,XL,(iA 0)]] (.s (ag [XL,XL,XL,(iA 0)]) (.lv so)))
 refine .s2 (ag [(im (a.Net.Queue.map ak) false),(im (a.Net.Apart.map aq) false)]) (.bd (g:=fun (y:(aD×Int))=>(tp [(ag [(im (y.1.Queue.map ak) false),(im (y.1.Apart.map aq) false)]),(iA y.2)])) (by simp only[bR,cY]; exact e a.Net c) fun b=>.s (ag [(im (b.1.Queue.map ak) false),(im (b.1.Apart.map aq) false)]) (.s (iA b.2) (.sq (pt 2 0) (.s [bx (al a),bx [XL,XL,XL,(iA 0)],bx [(im (b.1.Queue.map ak) false),(im (b.1.Apart.map aq) false)]] (.st (aG ..) (.bX ?_ ?_))))))
 ·exact .s (ag [XL,XL,XL,(iA 0)]) (.s [bx (al a),bx [XL,XL,XL,(iA 0)],bx [(im (b.1.Queue.map ak) false),(im (b.1.Apart.map aq) false)]] (.s (ag [XL,XL,XL,(iA 0)]) (.lv so)))
 exact .s (ag [(im (b.1.Queue.map ak) false),(im (b.1.Apart.map aq) false)]) (.s (pt 0 0) (.sh (.s (ag [(im (b.1.Queue.map ak) false),(im (b.1.Apart.map aq) false),(im (a.Ears.map az) false),(iA a.Bar)]) (.s [bx [(im (b.1.Queue.map ak) false),(im (b.1.Apart.map aq) false),(im (a.Ears.map az) false),(iA a.Bar)],bx [(im (b.1.Queue.map ak) false),(im (b.1.Apart.map aq) false),(im (a.Ears.map az) false),(iA a.Bar)],bx [(im (b.1.Queue.map ak) false),(im (b.1.Apart.map aq) false)]] (.s (ag [(im (b.1.Queue.map ak) false),(im (b.1.Apart.map aq) false),(im (a.Ears.map az) false),(iA a.Bar)]) (.lv so))))))
def KH (a:aw) (b:Int):Option (aw×Int):=NK aE a b
def Ht (C:OT):Prop:=∀ (a:aw) (b:Int),C 16 [(ag (al a)),(iA b)]=(KH a b).map fun y=>(tp [(ag (al y.1)),(iA y.2)])
def Oc (n:Nat) (a:aD) (b:aA):Option (aD×Int):=
 (IM a).bind fun c=>(bif (c != 0) then (some true) else ((Kq b).bind fun d=>some (!d))).bind fun e=>bif e then (some (((aD.mk ([]) ([])),60))) else (bif (((a.Queue.length:Int))==4096) then (some (((aD.mk ([]) ([])),2))) else ((cz 40 ([]) a.Queue).bind fun f=>(cz 40 f ([b])).bind fun g=>some (((aD.mk g a.Apart),0))))
theorem VC (C:OT) (n:Nat) (k:z7 C) (o:Ab C) (a:aD) (c:aA):TJ C n 65 [(ag [(im (a.Queue.map ak) false),(im (a.Apart.map aq) false)]),(ag (ak c))] (Oc n a c) (fun y=>(tp [(ag [(im (y.1.Queue.map ak) false),(im (y.1.Apart.map aq) false)]),(iA y.2)])):=by
 refine .lp (WC ..) ?_
 unfold Oc
 refine .s ((pt 0 0),[(cG a)]) (.s ((pt 1 0),[(cG a),bx (ak c)]) (.s ((pt 2 0),[(cG a),bx (ak c),bx [XL,XL]]) (.s (ag [(im (a.Queue.map ak) false),(im (a.Apart.map aq) false)]) (.bd (g:=fun (y:Int)=>(iA y)) (by simp only[bR,cY]; exact k a) fun r=>.st (aG ..) (.bg (fun t (y:Bool)=>∃ h i j:A,t=[(bA y),h,i,j]) ?_ ?_)))))
 ·refine .bi ?_ ?_
  ·exact .lg ⟨_,_,_,rfl⟩
  exact .s (ag (ak c)) (.bd (g:=fun (y:Bool)=>(bA y)) (by simp only[bR,cY]; exact o c) fun p=>.s (bA (!p)) (.lg ⟨_,_,_,rfl⟩))
 rintro _ u ⟨h,i,j,rfl⟩
 refine .u4 (.bX ?_ ?_)
 ·exact .s (ag [XL,XL]) (.s [(cG a),bx (ak c),bx [XL,XL]] (.s (ag [XL,XL]) (.lv so)))
 refine .s2 (im (a.Queue.map ak) false) (.st (ef (e:=68)) (.st (bc ..) (.bX ?_ ?_)))
 ·exact .s (ag [XL,XL]) (.s [(cG a),bx (ak c),bx [XL,XL]] (.s (ag [XL,XL]) (.lv so)))
 exact .s XL (.s2 (im (a.Queue.map ak) false) (.bd (g:=fun (y:List aA)=>((bW 3 0 y.length false),[(cG a),bx (ak c),bx [XL,XL],aO.row false 3 (y.map ak)])) (jk nu (l:=[]) (l2:=a.Queue) (bC ..)) fun q=>.cT r7 (.s (ag (ak c)) (.cT r7 (.s (im [[(iA c.From),(iA c.To),(im (c.Data.map c8) false)]] true) (.bd (g:=fun (y:List aA)=>((bW 3 0 y.length false),[(cG a),bx (ak c),bx [XL,XL],aO.row false 3 (y.map ak)])) (cj nu (l:=q) (l2:=[c]) (b:=3) rfl (by decide) (bC (f:=ak) ([c]:List aA) _ _)) fun d=>.s (pt 0 0) (.sh (.s (ag [(bW 3 0 d.length false),(im (a.Apart.map aq) false)]) (.s [(fZ d a),bx (ak c),(fZ d a),aO.row false 3 (d.map ak)] (.s (ag [(bW 3 0 d.length false),(im (a.Apart.map aq) false)]) (.lv (by show aS [(fZ d a),bx (ak c),(fZ d a),aO.row false 3 (d.map ak)] (tp [(ag [(bW 3 0 d.length false),(im (a.Apart.map aq) false)]),(iA 0)])=_; first | (simp only[bR,cY,aS,bI (H:=[(fZ d a),bx (ak c),(fZ d a),aO.row false 3 (d.map ak)]) (b:=3) (es:=3) (wr:=false) (l:=d) bZ rfl]; done) | (simp only[bR,e9,aS,bI (H:=[(fZ d a),bx (ak c),(fZ d a),aO.row false 3 (d.map ak)]) (b:=3) (es:=3) (wr:=false) (l:=d) bZ rfl]; first | done | rfl)))))))))))))
def KW (a:aD) (b:aA):Option (aD×Int):=Oc aE a b
def HI (C:OT):Prop:=∀ (a:aD) (b:aA),C 65 [(ag [(im (a.Queue.map ak) false),(im (a.Apart.map aq) false)]),(ag (ak b))]=(KW a b).map fun y=>(tp [(ag [(im (y.1.Queue.map ak) false),(im (y.1.Apart.map aq) false)]),(iA y.2)])
def N2 (n:Nat) (a:aD) (b:Int):Option (aD×Int):=
 (IT a b).bind fun c=>bif (c != 0) then (some (((aD.mk ([]) ([])),c))) else ((bL a.Queue b).bind fun e=>(KW a e).bind fun d=>some ((d.1,d.2)))
theorem Vq (C:OT) (n:Nat) (f:HI C) (h:z9 C) (a:aD) (c:Int):TJ C n 50 [(ag [(im (a.Queue.map ak) false),(im (a.Apart.map aq) false)]),(iA c)] (N2 n a c) (fun y=>(tp [(ag [(im (y.1.Queue.map ak) false),(im (y.1.Apart.map aq) false)]),(iA y.2)])):=by
 refine .lp (Wq ..) ?_
 unfold N2
 refine .sq (pt 0 0) (.s ((pt 1 0),[bx [(im (a.Queue.map ak) false),(im (a.Apart.map aq) false)],bx [XL,XL]]) (.s (ag [(im (a.Queue.map ak) false),(im (a.Apart.map aq) false)]) (.bd (g:=fun (y:Int)=>(iA y)) (by simp only[bR,cY]; exact h a c) fun i=>.st (aG ..) (.bX ?_ ?_))))
 ·exact .s (ag [XL,XL]) (.s [bx [(im (a.Queue.map ak) false),(im (a.Apart.map aq) false)],bx [XL,XL]] (.s (ag [XL,XL]) (.lv so)))
 exact .s (ag [(im (a.Queue.map ak) false),(im (a.Apart.map aq) false)]) (.s2 (im (a.Queue.map ak) false) (.bd (eP (e:=68) (es:=3)) fun d=>.s (ag (ak d)) (.bd (g:=fun (y:(aD×Int))=>(tp [(ag [(im (y.1.Queue.map ak) false),(im (y.1.Apart.map aq) false)]),(iA y.2)])) (by simp only[bR,cY]; exact f a d) fun b=>.s (ag [(im (b.1.Queue.map ak) false),(im (b.1.Apart.map aq) false)]) (.s (iA b.2) (.s [bx [(im (a.Queue.map ak) false),(im (a.Apart.map aq) false)],bx [(im (b.1.Queue.map ak) false),(im (b.1.Apart.map aq) false)]] (.s (ag [(im (b.1.Queue.map ak) false),(im (b.1.Apart.map aq) false)]) (.lv so)))))))
def KS (a:aD) (b:Int):Option (aD×Int):=N2 aE a b
def HF (C:OT):Prop:=∀ (a:aD) (b:Int),C 50 [(ag [(im (a.Queue.map ak) false),(im (a.Apart.map aq) false)]),(iA b)]=(KS a b).map fun y=>(tp [(ag [(im (y.1.Queue.map ak) false),(im (y.1.Apart.map aq) false)]),(iA y.2)])
def NL (n:Nat) (a:aw) (d:Int):Option (aw×Int):=
 (IJ a).bind fun c=>bif (c != 0) then (some (((aw.mk ((aD.mk ([]) ([]))) ([]) 0),c))) else ((KS a.Net d).bind fun b=>bif (b.2 != 0) then (some (((aw.mk ((aD.mk ([]) ([]))) ([]) 0),b.2))) else (some (((aw.mk b.1 a.Ears a.Bar),0))))
theorem U7 (C:OT) (n:Nat) (d:zX C) (e:HF C) (a:aw) (c:Int):TJ C n 17 [(ag (al a)),(iA c)] (NL n a c) (fun y=>(tp [(ag (al y.1)),(iA y.2)])):=by
 refine .lp (V6 ..) ?_
 unfold NL
 refine .s ((pt 0 0),[bx (al a)]) (.s ((pt 1 0),[bx (al a),bx [XL,XL,XL,(iA 0)]]) (.s (ag (al a)) (.bd (g:=fun (y:Int)=>(iA y)) (by simp only[bR,cY]; exact d a) fun f=>.st (aG ..) (.bX ?_ ?_))))
 ·exact .s (ag [XL,XL,XL,(iA 0)]) (.s [bx (al a),bx [XL,XL,XL,(iA 0)]] (.s (ag [XL,XL,XL,(iA 0)]) (.lv so)))
 refine .s2 (ag [(im (a.Net.Queue.map ak) false),(im (a.Net.Apart.map aq) false)]) (.bd (g:=fun (y:(aD×Int))=>(tp [(ag [(im (y.1.Queue.map ak) false),(im (y.1.Apart.map aq) false)]),(iA y.2)])) (by simp only[bR,cY]; exact e a.Net c) fun b=>.s (ag [(im (b.1.Queue.map ak) false),(im (b.1.Apart.map aq) false)]) (.s (iA b.2) (.s (pt 0 0) (.s [(m7 b a),bx [XL,XL,XL,(iA 0)]] (.st (aG ..) (.bX ?_ ?_))))))
 ·exact .s (ag [XL,XL,XL,(iA 0)]) (.s [(m7 b a),bx [XL,XL,XL,(iA 0)]] (.s (ag [XL,XL,XL,(iA 0)]) (.lv so)))
 exact .s (ag [(im (b.1.Queue.map ak) false),(im (b.1.Apart.map aq) false),(im (a.Ears.map az) false),(iA a.Bar)]) (.s [(m7 b a),(m7 b a)] (.s (ag [(im (b.1.Queue.map ak) false),(im (b.1.Apart.map aq) false),(im (a.Ears.map az) false),(iA a.Bar)]) (.lv so)))
def KI (a:aw) (b:Int):Option (aw×Int):=NL aE a b
def Hu (C:OT):Prop:=∀ (a:aw) (b:Int),C 17 [(ag (al a)),(iA b)]=(KI a b).map fun y=>(tp [(ag (al y.1)),(iA y.2)])
def Od (n:Nat) (a:aA) (b:aA):Option Bool:=
 (bif (a.From==b.From) then (some (a.To==b.To)) else (some false)).bind fun c=>(bif c then (some (jf (gn a.Data) (gn b.Data))) else (some false)).bind fun d=>some d
theorem VD (C:OT) (n:Nat) (a:aA) (b:aA):TJ C n 67 [(ag (ak a)),(ag (ak b))] (Od n a b) (fun y=>(bA y)):=by
 refine .lp (WD ..) ?_
 unfold Od
 refine .s ((pt 0 0),[bx (ak a)]) (.s ((pt 1 0),[bx (ak a),bx (ak b)]) (.s2 (iA a.From) (.s2 (iA b.From) (.st (bc ..) (.bg (fun t (y:Bool)=>∃ c d f g h:A,t=[(bA y),c,d,f,g,h]) ?_ ?_)))))
 ·refine .bi ?_ ?_
  ·exact .s (pt 0 1) (.s (iA a.To) (.s (pt 1 1) (.s (iA b.To) (.st (bc ..) (.lg ⟨_,_,_,_,_,rfl⟩)))))
  exact .lg ⟨_,_,_,_,_,rfl⟩
 rintro _ u ⟨c,d,f,g,h,rfl⟩
 refine .u4 (.uc (.uc (.bg (fun t (y:Bool)=>∃ i j k o p q r:A,t=[(bA y),i,j,k,o,p,q,r]) ?_ ?_)))
 ·refine .bi ?_ ?_
  ·exact .s (pt 0 2) (.s (im (a.Data.map c8) false) (.st (v:=(A.v (Value.string (gn a.Data)))) (nw (e:=5) (l:=a.Data) r7 r7 r7 r7 (bC ..) rfl) (.s (pt 1 2) (.s (im (b.Data.map c8) false) (.st (v:=(A.v (Value.string (gn b.Data)))) (nw (e:=5) (l:=b.Data) r7 r7 r7 r7 (bC ..) rfl) (.st (jL ..) (.lg ⟨_,_,_,_,_,_,_,rfl⟩)))))))
  exact .lg ⟨_,_,_,_,_,_,_,rfl⟩
 rintro _ w ⟨i,j,k,o,p,q,r,rfl⟩
 exact .u4 (.u4 (.lv rfl))
def KX (a:aA) (b:aA):Option Bool:=Od aE a b
def Cv (C:OT):Prop:=∀ (a:aA) (b:aA),C 67 [(ag (ak a)),(ag (ak b))]=(KX a b).map fun y=>(bA y)
def kQ (n:Nat) (b:(List aA)) (d:(List (Int×Int))) (c:(List aA)) (e:(List (Int×Int))):Nat->Int->Option ((Bool)⊕(Unit))
 | 0,_=>none
 | m+1,a=>bif (decide (a<((b.length:Int)))) then ((bL b a).bind fun f=>(bL c a).bind fun g=>(KX f g).bind fun h=>bif (!h) then (some ((Sum.inl false))) else (kQ n b d c e m (wr .i64 (a+1)))) else (some ((Sum.inr (()))))
theorem CJ (l:Cv C) {w126:A} (a:(List aA)) (c:(List (Int×Int))) (b:(List aA)) (d:(List (Int×Int))) {K:((Bool)⊕(Unit))->Option γ} (o:∀ (i:Bool) (s2:A) (p:A) (f:A) (q0:aO) (q1:aO),J φ (kr (St.mk [(2,s2),(3,p),(4,(bA i)),(5,f)] [q0,q1])) kL (K (Sum.inl i)) some) (q:∀ (f:A),J φ (kx 0 (St.mk [(2,(pt 0 0)),(3,(pt 1 0)),(4,w126),(5,f)] [bx [(im (a.map ak) false),(im (c.map aq) false)],bx [(im (b.map ak) false),(im (d.map aq) false)]])) kL (K (Sum.inr (()))) some) :
  ∀ (m:Nat) (h:Int),J φ (aN (cx C) (ec C n 8) (ey C n 8) (n+8) 35 0 0 2 kx kg kr kp m (St.mk [(2,(pt 0 0)),(3,(pt 1 0)),(4,w126),(5,(iA h))] [bx [(im (a.map ak) false),(im (c.map aq) false)],bx [(im (b.map ak) false),(im (d.map aq) false)]])) kL (kQ n a c b d m h) K:=by
  refine nI (fun _=>.nn) fun m ih h=>.lp (Lw ..) ?_
  unfold kQ
  refine .s2 (im (a.map ak) false) (.st (ef (e:=68)) (.st (aY ..) (.bX ?_ ?_)))
  ·refine .s2 (im (a.map ak) false) (.bd (eP (e:=68) (es:=3)) fun j=>.s (ag (ak j)) (.s2 (im (b.map ak) false) (.bd (eP (e:=68) (es:=3)) fun k=>.s (ag (ak k)) (.bd (g:=fun (y:Bool)=>(bA y)) (by simp only[bR,cY]; exact l j k) fun r=>.s (bA (!r)) (.bX ?_ ?_)))))
   ·exact .ex (o _ _ _ _ _ _)
   refine .st (aJ ..) (.s [bx [(im (a.map ak) false),(im (c.map aq) false)],bx [(im (b.map ak) false),(im (d.map aq) false)]] (.cT r7 ?_))
   exact ih _
  exact .ex (q _)
def kR (n:Nat) (f:(List aA)) (b:(List (Int×Int))) (g:(List aA)) (c:(List (Int×Int))):Nat->Int->Option ((Bool)⊕(Unit))
 | 0,_=>none
 | m+1,a=>bif (decide (a<((b.length:Int)))) then ((bL b a).bind fun d=>(bL c a).bind fun e=>bif (!((d.1==e.1)&&(d.2==e.2))) then (some ((Sum.inl false))) else (kR n f b g c m (wr .i64 (a+1)))) else (some ((Sum.inr (()))))
theorem CK {w145:A} (f:(List aA)) (a:(List (Int×Int))) (g:(List aA)) (b:(List (Int×Int))) {K:((Bool)⊕(Unit))->Option γ} (l:∀ (k:Bool) (s2:A) (h:A) (i:A) (q0:aO) (q1:aO),J φ (kr (St.mk [(2,s2),(3,h),(4,(bA k)),(6,i)] [q0,q1])) kL (K (Sum.inl k)) some) (o:∀ (s2:A) (h:A) (p:A) (i:A) (q0:aO) (q1:aO),J φ (kx 2 (St.mk [(2,s2),(3,h),(4,p),(6,i)] [q0,q1])) kL (K (Sum.inr (()))) some) :
  ∀ (m:Nat) (j:Int),J φ (aN (cx C) (ec C n 8) (ey C n 8) (n+8) 35 0 1 2 kx kg kr kp m (St.mk [(2,(pt 0 0)),(3,(pt 1 0)),(4,w145),(6,(iA j))] [bx [(im (f.map ak) false),(im (a.map aq) false)],bx [(im (g.map ak) false),(im (b.map aq) false)]])) kL (kR n f a g b m j) K:=by
  refine nI (fun _=>.nn) fun m ih j=>.lp (Lx ..) ?_
  unfold kR
  refine .s2 (im (a.map aq) false) (.st (ef (e:=99)) (.st (aY ..) (.bX ?_ ?_)))
  ·refine .s2 (im (a.map aq) false) (.bd (eP (e:=99) (es:=2)) fun c=>.s (ag [(iA c.1),(iA c.2)]) (.s2 (im (b.map aq) false) (.bd (eP (e:=99) (es:=2)) fun d=>.s (ag [(iA d.1),(iA d.2)]) (.s (bA (!((c.1==d.1)&&(c.2==d.2)))) (.bX ?_ ?_)))))
   ·exact .ex (l _ _ _ _ _ _)
   refine .st (aJ ..) (.s [bx [(im (f.map ak) false),(im (a.map aq) false)],bx [(im (g.map ak) false),(im (b.map aq) false)]] (.cT r7 ?_))
   exact ih _
  exact .ex (o _ _ _ _ _ _)
def NR (n:Nat) (a:aD) (b:aD):Option Bool:=
 (bif (((a.Queue.length:Int)) != ((b.Queue.length:Int))) then (some true) else (some (((a.Apart.length:Int)) != ((b.Apart.length:Int))))).bind fun c=>bif c then (some false) else ((kQ n a.Queue a.Apart b.Queue b.Apart (n+8) 0).bind fun d=>match d with | (Sum.inl e)=>some e | (Sum.inr _)=>(kR n a.Queue a.Apart b.Queue b.Apart (n+8) 0).bind fun f=>match f with | (Sum.inl g)=>some g | (Sum.inr _)=>some true)
theorem Vf (C:OT) (n:Nat) (k:Cv C) (a:aD) (b:aD):TJ C n 35 [(ag [(im (a.Queue.map ak) false),(im (a.Apart.map aq) false)]),(ag [(im (b.Queue.map ak) false),(im (b.Apart.map aq) false)])] (NR n a b) (fun y=>(bA y)):=by
 refine .lp (We ..) ?_
 unfold NR
 refine .sq (pt 0 0) (.s ((pt 1 0),[bx [(im (a.Queue.map ak) false),(im (a.Apart.map aq) false)],bx [(im (b.Queue.map ak) false),(im (b.Apart.map aq) false)]]) (.s2 (im (a.Queue.map ak) false) (.st (ef (e:=68)) (.s2 (im (b.Queue.map ak) false) (.st (ef (e:=68)) (.st (aG ..) (.bg (fun t (y:Bool)=>∃ c d f g h i j:A,t=[(bA y),c,d,f,g,h,i,j]) ?_ ?_)))))))
 ·refine .bi ?_ ?_
  ·exact .lg ⟨_,_,_,_,_,_,_,rfl⟩
  exact .s (pt 0 1) (.s (im (a.Apart.map aq) false) (.st (ef (e:=99)) (.s (pt 1 1) (.s (im (b.Apart.map aq) false) (.st (ef (e:=99)) (.st (aG ..) (.lg ⟨_,_,_,_,_,_,_,rfl⟩)))))))
 rintro _ l ⟨c,d,f,g,h,i,j,rfl⟩
 refine .u4 (.u4 (.bX ?_ ?_))
 ·exact .lv rfl
 refine .as (CJ C n _ _ _ _ k a.Queue a.Apart b.Queue b.Apart ?_ ?_ _ 0)
 ·intro o p q r w142 w143
  exact .un rfl (.lv rfl)
 ·intro u
  refine .un rfl (.cT r7 (.as (CK C n _ _ _ _ a.Queue a.Apart b.Queue b.Apart ?_ ?_ _ 0)))
  ·intro v w x z w160 w161
   exact .un rfl (.lv rfl)
  ·intro a2 a3 a4 a5 w166 w167
   exact .un rfl (.cT r7 (.lv rfl))
def KL (a:aD) (b:aD):Option Bool:=NR aE a b
def Hy (C:OT):Prop:=∀ (a:aD) (b:aD),C 35 [(ag [(im (a.Queue.map ak) false),(im (a.Apart.map aq) false)]),(ag [(im (b.Queue.map ak) false),(im (b.Apart.map aq) false)])]=(KL a b).map fun y=>(bA y)
def NF (n:Nat) (a:aw) (b:aw):Option Bool:=
 (bif (a.Bar==b.Bar) then ((E7 a.Ears b.Ears).bind fun c=>some c) else (some false)).bind fun d=>(bif d then ((KL a.Net b.Net).bind fun e=>some e) else (some false)).bind fun f=>some f
theorem U1 (C:OT) (n:Nat) (p:Cl C) (q:Hy C) (a:aw) (b:aw):TJ C n 11 [(ag (al a)),(ag (al b))] (NF n a b) (fun y=>(bA y)):=by
 refine .lp (V0 ..) ?_
 unfold NF
 refine .s ((pt 0 0),[bx (al a)]) (.s ((pt 1 0),[bx (al a),bx (al b)]) (.s2 (iA a.Bar) (.s2 (iA b.Bar) (.st (bc ..) (.bg (fun t (y:Bool)=>∃ c d e f h:A,t=[(bA y),c,d,e,f,h]) ?_ ?_)))))
 ·refine .bi ?_ ?_
  ·exact .s (pt 0 2) (.s (im (a.Ears.map az) false) (.s (pt 1 2) (.s (im (b.Ears.map az) false) (.bd (g:=fun (y:Bool)=>(bA y)) (by simp only[bR,cY]; exact p a.Ears b.Ears) fun r=>.lg ⟨_,_,_,_,_,rfl⟩))))
  exact .lg ⟨_,_,_,_,_,rfl⟩
 rintro _ u ⟨c,d,e,f,h,rfl⟩
 refine .u4 (.uc (.uc (.bg (fun t (y:Bool)=>∃ i j k l o:A,t=[(bA y),i,j,k,l,o]) ?_ ?_)))
 ·refine .bi ?_ ?_
  ·exact .s (pt 0 0) (.s (ag [(im (a.Net.Queue.map ak) false),(im (a.Net.Apart.map aq) false)]) (.s (pt 1 0) (.s (ag [(im (b.Net.Queue.map ak) false),(im (b.Net.Apart.map aq) false)]) (.bd (g:=fun (y:Bool)=>(bA y)) (by simp only[bR,cY]; exact q a.Net b.Net) fun v=>.lg ⟨_,_,_,_,_,rfl⟩))))
  exact .lg ⟨_,_,_,_,_,rfl⟩
 rintro _ w ⟨i,j,k,l,o,rfl⟩
 exact .u4 (.uc (.uc (.lv rfl)))
def IH (a:aw) (b:aw):Option Bool:=NF aE a b
def Hp (C:OT):Prop:=∀ (a:aw) (b:aw),C 11 [(ag (al a)),(ag (al b))]=(IH a b).map fun y=>(bA y)
def F4 (n:Nat) (a:aw) (b:Int):Option Bool:=
 (G5 ).bind fun i=>bif (!i) then (some false) else ((G6 a).bind fun j=>bif (!j) then (some true) else ((EU a b).bind fun c=>(KE a b).bind fun d=>(KF a b).bind fun e=>(KG a b).bind fun f=>(KH a b).bind fun g=>(KI a b).bind fun h=>(IH c.1 d.1).bind fun k=>(bif k then (some (((c.2.1.Role==d.2.1.Role)&&((c.2.1.Bar==d.2.1.Bar)&&(c.2.1.Program==d.2.1.Program))))) else (some false)).bind fun l=>(bif l then (some (c.2.2.1==d.2.2.1)) else (some false)).bind fun o=>(bif o then (some (c.2.2.2==d.2.2.2)) else (some false)).bind fun p=>(bif p then ((IH e.1 f.1).bind fun q=>some q) else (some false)).bind fun r=>(bif r then (some (e.2==f.2)) else (some false)).bind fun s=>(bif s then ((IH g.1 h.1).bind fun t=>some t) else (some false)).bind fun u=>(bif u then (some (g.2==h.2)) else (some false)).bind fun v=>some v))
theorem T4 (C:OT) (n:Nat) (j:Hp C) (ad:Cj C) (ae:Hq C) (af:Hr C) (ah:Hs C) (ai:Ht C) (aj:Hu C) (h5:K5 C) (h6:K6 C) (a:aw) (d:Int):TJ C n 4 [(ag (al a)),(iA d)] (F4 n a d) (fun y=>(bA y)):=by
 refine .lp (e4 ..) ?_
 unfold F4
 refine .s ((pt 0 0),[bx (al a)]) (.bd (h5 ()) fun y1=>.s (bA (!y1)) (.bX ?_ ?_))
 ·exact .lv rfl
 refine .s (ag (al a)) (.bd (g:=fun (y:Bool)=>(bA y)) (by simp only[bR,cY]; exact h6 a) fun y3=>.s (bA (!y3)) (.bX ?_ ?_))
 ·exact .lv rfl
 refine .s (ag (al a)) (.bd (g:=fun (y:(aw×bh×Bool×Int))=>(tp [(ag (al y.1)),(ag (aB y.2.1)),(bA y.2.2.1),(iA y.2.2.2)])) (by simp only[bR,cY]; exact ad a d) fun b=>.s (ag (al b.1)) (.s (ag (aB b.2.1)) (.s (bA b.2.2.1) (.s (iA b.2.2.2) (.sq (pt 1 0) (.sq (pt 2 0) (.sh (.s [bx (al a),bx (al b.1),bx (aB b.2.1)] (.s (ag (al a)) (.bd (g:=fun (y:(aw×bh×Bool×Int))=>(tp [(ag (al y.1)),(ag (aB y.2.1)),(bA y.2.2.1),(iA y.2.2.2)])) (by simp only[bR,cY]; exact ae a d) fun c=>.s (ag (al c.1)) (.s (ag (aB c.2.1)) (.s (bA c.2.2.1) (.s (iA c.2.2.2) (.sq (pt 3 0) (.sq (pt 4 0) (.sh (.s [bx (al a),bx (al b.1),bx (aB b.2.1),bx (al c.1),bx (aB c.2.1)] (.s (ag (al a)) (.bd (g:=fun (y:(aw×Int))=>(tp [(ag (al y.1)),(iA y.2)])) (by simp only[bR,cY]; exact af a d) fun e=>.s (ag (al e.1)) (.s (iA e.2) ?_))))))))))))))))))))
 refine .sq (pt 5 0) (.s [bx (al a),bx (al b.1),bx (aB b.2.1),bx (al c.1),bx (aB c.2.1),bx (al e.1)] (.s (ag (al a)) (.bd (g:=fun (y:(aw×Int))=>(tp [(ag (al y.1)),(iA y.2)])) (by simp only[bR,cY]; exact ah a d) fun f=>.s (ag (al f.1)) (.s (iA f.2) (.sq (pt 6 0) (.s [bx (al a),bx (al b.1),bx (aB b.2.1),bx (al c.1),bx (aB c.2.1),bx (al e.1),bx (al f.1)] (.s (ag (al a)) (.bd (g:=fun (y:(aw×Int))=>(tp [(ag (al y.1)),(iA y.2)])) (by simp only[bR,cY]; exact ai a d) fun h=>.s (ag (al h.1)) (.s (iA h.2) (.sq (pt 7 0) (.s [bx (al a),bx (al b.1),bx (aB b.2.1),bx (al c.1),bx (aB c.2.1),bx (al e.1),bx (al f.1),bx (al h.1)] (.s (ag (al a)) (.bd (g:=fun (y:(aw×Int))=>(tp [(ag (al y.1)),(iA y.2)])) (by simp only[bR,cY]; exact aj a d) fun i=>.s (ag (al i.1)) (.s (iA i.2) (.sq (pt 8 0) (.s [bx (al a),bx (al b.1),bx (aB b.2.1),bx (al c.1),bx (aB c.2.1),bx (al e.1),bx (al f.1),bx (al h.1),bx (al i.1)] (.s (ag (al b.1)) (.s (ag (al c.1)) (.bd (g:=fun (y:Bool)=>(bA y)) (by simp only[bR,cY]; exact j b.1 c.1) fun ap=>.bg (fun t (y:Bool)=>∃ k l o:A,t=[(bA y),k,l,o]) ?_ ?_)))))))))))))))))))
 ·refine .bi ?_ ?_
  ·exact .s (ag (aB b.2.1)) (.s (ag (aB c.2.1)) (.s (bA (((b.2.1.Role==c.2.1.Role)&&((b.2.1.Bar==c.2.1.Bar)&&(b.2.1.Program==c.2.1.Program))))) (.lg ⟨_,_,_,rfl⟩)))
  exact .lg ⟨_,_,_,rfl⟩
 rintro _ aq ⟨k,l,o,rfl⟩
 refine .u4 (.bg (fun t (y:Bool)=>∃ p q r:A,t=[(bA y),p,q,r]) ?_ ?_)
 ·refine .bi ?_ ?_
  ·exact .s (bA (b.2.2.1==c.2.2.1)) (.lg ⟨_,_,_,rfl⟩)
  exact .lg ⟨_,_,_,rfl⟩
 rintro _ ar ⟨p,q,r,rfl⟩
 refine .u4 (.bg (fun t (y:Bool)=>∃ u v w:A,t=[(bA y),u,v,w]) ?_ ?_)
 ·refine .bi ?_ ?_
  ·exact .st (bc ..) (.lg ⟨_,_,_,rfl⟩)
  exact .lg ⟨_,_,_,rfl⟩
 rintro _ au ⟨u,v,w,rfl⟩
 refine .u4 (.bg (fun t (y:Bool)=>∃ x z a2:A,t=[(bA y),x,z,a2]) ?_ ?_)
 ·refine .bi ?_ ?_
  ·exact .s (ag (al e.1)) (.s (ag (al f.1)) (.bd (g:=fun (y:Bool)=>(bA y)) (by simp only[bR,cY]; exact j e.1 f.1) fun av=>.lg ⟨_,_,_,rfl⟩))
  exact .lg ⟨_,_,_,rfl⟩
 rintro _ ax ⟨x,z,a2,rfl⟩
 refine .u4 (.bg (fun t (y:Bool)=>∃ a3 a4 a5:A,t=[(bA y),a3,a4,a5]) ?_ ?_)
 ·refine .bi ?_ ?_
  ·exact .st (bc ..) (.lg ⟨_,_,_,rfl⟩)
  exact .lg ⟨_,_,_,rfl⟩
 rintro _ ay ⟨a3,a4,a5,rfl⟩
 refine .u4 (.bg (fun t (y:Bool)=>∃ a6 a7 a8:A,t=[(bA y),a6,a7,a8]) ?_ ?_)
 ·refine .bi ?_ ?_
  ·exact .s (ag (al h.1)) (.s (ag (al i.1)) (.bd (g:=fun (y:Bool)=>(bA y)) (by simp only[bR,cY]; exact j h.1 i.1) fun az=>.lg ⟨_,_,_,rfl⟩))
  exact .lg ⟨_,_,_,rfl⟩
 rintro _ b0 ⟨a6,a7,a8,rfl⟩
 refine .u4 (.bg (fun t (y:Bool)=>∃ a9 aa ab:A,t=[(bA y),a9,aa,ab]) ?_ ?_)
 ·refine .bi ?_ ?_
  ·exact .st (bc ..) (.lg ⟨_,_,_,rfl⟩)
  exact .lg ⟨_,_,_,rfl⟩
 rintro _ b1 ⟨a9,aa,ab,rfl⟩
 exact .u4 (.lv rfl)
def G4 (a:aw) (b:Int):Option Bool:=F4 aE a b
end Go.Proofs.YtebkhfhcipnfgaaGreat
