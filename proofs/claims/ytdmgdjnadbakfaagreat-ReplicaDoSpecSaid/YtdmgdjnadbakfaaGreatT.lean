/-
 The program's functions as plain functions: by a tool; each follows the interpreter.
-/
import Derived.Test.YtdmgdjnadbakfaaGreatT2
namespace Go.Proofs.YtdmgdjnadbakfaaGreat
open Go.Proofs.Tryz (prog)
set_option linter.unusedVariables false
set_option linter.unusedSimpArgs false
set_option maxHeartbeats 4000000
set_option maxRecDepth 100000
set_option linter.defProp false
variable (C:Nat->List A->Option A) (n:Nat) {ρ γ:Type} {φ:ρ->γ->Prop} {kL:R->Option ρ} (kx kg:Nat->St->Option R) (kr:St->Option R) (kp:A->St->Option R)
def pA (n:Nat) (d:Bool) (b:aC):Nat->Int->Option ((Bool)⊕(Unit))
 | 0,_=>none
 | m+1,a=>bif (decide (a<2)) then (bif (decide (0<=a)&&decide (a<2)) then ((jL a b.Desks.1 b.Desks.2).bind fun c=>(bif (decide (40<((c.Leases.length:Int)))) then (some true) else (some (decide (40<((c.Calls.length:Int)))))).bind fun e=>(bif e then (some true) else (some (decide (80<((c.Order.length:Int)))))).bind fun f=>(bif f then (some true) else (bif (decide (0<=a)&&decide (a<2)) then ((jL a b.Spoken.1 b.Spoken.2).bind fun g=>some (decide (40<((g.length:Int))))) else none)).bind fun h=>bif h then (some ((Sum.inl false))) else (pA n d b m (wr .i64 (a+1)))) else none) else (some ((Sum.inr (()))))
theorem J9 (g:Bool) (a:aC) {K:((Bool)⊕(Unit))->Option γ} (x0:∀ (i:Bool) (s1:A) (d:A) (q0:az) (q1:az),J φ (kr (St.mk [(1,s1),(2,(bA i)),(3,d)] [q0,q1])) kL (K (Sum.inl i)) some) (x1:∀ (s2:A) (d:A),J φ (kx 0 (St.mk [(1,(pt 0 0)),(2,s2),(3,d)] [bx (aj a)])) kL (K (Sum.inr (()))) some) :
  ∀ (m:Nat) (b:Int),J φ (aH (cx C) (ec C n 8) (ey C n 8) (n+8) 5 0 0 1 kx kg kr kp m (St.mk [(1,(pt 0 0)),(2,(bA g)),(3,(iA b))] [bx (aj a)])) kL (pA n g a m b) K:=by
  refine nI (fun _=>.nn) fun m ih b=>.lp (Q5 ..) ?_
  unfold pA
  refine .st (aW ..) (.bX ?_ ?_)
  ·refine .s (pt 0 0) (.gd fun hg=>.st (v:=(pt 0 (0+Int.toNat b*4))) (b8 (e:=26) (n:=4) (len:=2) j9 j9 rfl hg) (.a2 (f:=fun (y:af)=>(ag [(iA y.Self),(im (y.Leases.map ae) false),(im (y.Calls.map ah) false),(im (y.Order.map cB) false)])) (fun h=>by rw[h]; kernel_rfl) (fun h=>by rw[h]; kernel_rfl) fun c=>.sq (pt 1 0) (.s [bx (aj a),bx (aa c)] (.s2 (im (c.Leases.map ae) false) (.st (dr (e:=50)) (.st (cF ..) (.bg (fun t (y:Bool)=>∃ j k l o:A,t=[(bA y),j,k,l,o]) ?_ ?_)))))))
   ·refine .bi ?_ ?_
    ·exact .lg ⟨_,_,_,_,rfl⟩
    exact .s (pt 1 2) (.s (im (c.Calls.map ah) false) (.st (dr (e:=54)) (.st (cF ..) (.lg ⟨_,_,_,_,rfl⟩))))
   rintro _ a7 ⟨j,k,l,o,rfl⟩
   refine .u4 (.uc (.bg (fun t (y:Bool)=>∃ p q r u:A,t=[(bA y),p,q,r,u]) ?_ ?_))
   ·refine .bi ?_ ?_
    ·exact .lg ⟨_,_,_,_,rfl⟩
    exact .s (pt 1 3) (.s (im (c.Order.map cB) false) (.st (dr (e:=4)) (.st (cF ..) (.lg ⟨_,_,_,_,rfl⟩))))
   rintro _ a8 ⟨p,q,r,u,rfl⟩
   refine .u4 (.uc (.bg (fun t (y:Bool)=>∃ w x z a0 a1 a3:A,t=[(bA y),w,x,z,a0,a1,a3]) ?_ ?_))
   ·refine .bi ?_ ?_
    ·exact .lg ⟨_,_,_,_,_,_,rfl⟩
    exact .s (pt 0 11) (.gd fun hg=>.st (v:=(pt 0 (11+Int.toNat b*1))) (b8 (e:=23) (n:=1) (len:=2) j9 j9 rfl hg) (.a2 (f:=fun (y:(List av))=>(im (y.map ah) false)) (fun h=>by rw[h]; kernel_rfl) (fun h=>by rw[h]; kernel_rfl) fun a9=>.st (dr (e:=54)) (.st (cF ..) (.lg ⟨_,_,_,_,_,_,rfl⟩))))
   rintro _ ab ⟨w,x,z,a0,a1,a3,rfl⟩
   refine .u4 (.uc (.uc (.uc (.bX ?_ ?_))))
   ·exact .ex (x0 _ _ _ _ _)
   refine .st (aM ..) (.st (v:=[bx (aj a)]) (eH j9 u2) (.cT j9 ?_))
   exact ih _
  exact .ex (x1 _ _)
def F5 (n:Nat) (a:aC):Option Bool:=
 (pA n false a (n+8) 0).bind fun FK=>match FK with | (Sum.inl b)=>some b | (Sum.inr _)=>some (decide (((a.Told.length:Int))<=40))
theorem T5 (C:OT) (n:Nat) (a:aC):TJ C n 5 [(ag (aj a))] (F5 n a) (fun y=>(bA y)):=by
 refine .lp (e5 ..) ?_
 unfold F5
 refine .s ((pt 0 0),[bx (aj a)]) (.as (J9 C n _ _ _ _ false a ?_ ?_ _ 0))
 ·intro b c d w108 w109
  exact .un rfl (.lv rfl)
 ·intro f g
  exact .un rfl (.cT j9 (.s2 (im (a.Told.map ae) false) (.st (dr (e:=50)) (.st (eP ..) (.lv rfl)))))
def G5 (a:aC):Option Bool:=F5 aA a
def L4 (C:OT):Prop:=∀ (a:aC),C 5 [(ag (aj a))]=(G5 a).map fun y=>(bA y)
def OI (n:Nat) (a:Int) (b:Int) (a2:Int):Option Bool:=
 (bif (decide (b<=a)) then (some (decide (a<=a2))) else (some false)).bind fun c=>some c
theorem Vi (C:OT) (n:Nat) (a:Int) (b:Int) (a2:Int):TJ C n 34 [(iA a),(iA b),(iA a2)] (OI n a b a2) (fun y=>(bA y)):=by
 refine .lp (Wk ..) ?_
 unfold OI
 refine .st (fj ..) (.bg (fun t (y:Bool)=>∃ c d e:A,t=[(bA y),c,d,e]) ?_ ?_)
 ·refine .bi ?_ ?_
  ·exact .st (eP ..) (.lg ⟨_,_,_,rfl⟩)
  exact .lg ⟨_,_,_,rfl⟩
 rintro _ f ⟨c,d,e,rfl⟩
 exact .u4 (.lv rfl)
def xM (a:Int) (b:Int) (a2:Int):Option Bool:=OI aA a b a2
def pg (C:OT):Prop:=∀ (a:Int) (b:Int) (a2:Int),C 34 [(iA a),(iA b),(iA a2)]=(xM a b a2).map fun y=>(bA y)
def ju (n:Nat) (a:(List Bool)):Nat->Int->Int->Option (Int)
 | 0,_,_=>none
 | m+1,c,b=>bif (decide (b<((a.length:Int)))) then ((bt a b).bind fun d=>bif d then (ju n a m (wr .i64 (c+1)) (wr .i64 (b+1))) else (ju n a m c (wr .i64 (b+1)))) else (some c)
theorem Ev {w16:A} (c:(List Bool)) {K:(Int)->Option γ} (f:∀ (d:Int) (g:A) (s2:A) (h:A),J φ (kx 0 (St.mk [(0,g),(2,s2),(3,(iA d)),(4,h)] [])) kL (K d) some) :
  ∀ (m:Nat) (a:Int) (b:Int),J φ (aH (cx C) (ec C n 8) (ey C n 8) (n+8) 72 0 0 0 kx kg kr kp m (St.mk [(0,(im (c.map cB) false)),(2,w16),(3,(iA a)),(4,(iA b))] [])) kL (ju n c m a b) K:=by
  refine nI (fun _ _=>.nn) fun m ih a b=>.lp (ML ..) ?_
  unfold ju
  refine .st (dr (e:=4)) (.st (aW ..) (.bX ?_ ?_))
  ·refine .bd (fa (e:=4) (es:=1)) fun i=>.s (bA i) (.bX ?_ ?_)
   ·refine .st (aM ..) (.st (aM ..) (.s [] (.cT j9 ?_)))
    exact ih _ _
   refine .st (aM ..) (.s [] (.cT j9 ?_))
   exact ih _ _
  exact .ex (f _ _ _ _)
def O6 (n:Nat) (a:(List Bool)):Option Int:=
 (ju n a (n+8) 0 0).bind fun b=>match b with | c=>some c
theorem VF (C:OT) (n:Nat) (a:(List Bool)):TJ C n 72 [(im (a.map cB) false)] (O6 n a) (fun y=>(iA y)):=by
 refine .lp (WI ..) ?_
 unfold O6
 refine .as (Ev C n _ _ _ _ a ?_ _ 0 0)
 ·intro b c d e
  exact .un rfl (.cT j9 (.lv rfl))
def LP (a:(List Bool)):Option Int:=O6 aA a
def I8 (C:OT):Prop:=∀ (a:(List Bool)),C 72 [(im (a.map cB) false)]=(LP a).map fun y=>(iA y)
def O7 (n:Nat) (a:al) (b:Int) (a2:Int):Option Bool:=
 (bif (a.No==b) then ((xM a.Holder 0 1).bind fun c=>some c) else (some false)).bind fun d=>(bif d then (some (decide (a2<a.Until))) else (some false)).bind fun e=>(bif e then (some (decide (a.Until<=4096))) else (some false)).bind fun f=>some f
theorem VG (C:OT) (n:Nat) (o:pg C) (a:al) (b:Int) (a2:Int):TJ C n 73 [(ag (ae a)),(iA b),(iA a2)] (O7 n a b a2) (fun y=>(bA y)):=by
 refine .lp (WJ ..) ?_
 unfold O7
 refine .s ((pt 0 0),[bx (ae a)]) (.s2 (iA a.No) (.st (aV ..) (.bg (fun t (y:Bool)=>∃ c d e:A,t=[(bA y),c,d,e]) ?_ ?_)))
 ·refine .bi ?_ ?_
  ·exact .s (pt 0 1) (.s (iA a.Holder) (.bd (o a.Holder 0 1) fun p=>.lg ⟨_,_,_,rfl⟩))
  exact .lg ⟨_,_,_,rfl⟩
 rintro _ q ⟨c,d,e,rfl⟩
 refine .u4 (.bg (fun t (y:Bool)=>∃ f g h i:A,t=[(bA y),f,g,h,i]) ?_ ?_)
 ·refine .bi ?_ ?_
  ·exact .s (pt 0 2) (.s (iA a.Until) (.st (cF ..) (.lg ⟨_,_,_,_,rfl⟩)))
  exact .lg ⟨_,_,_,_,rfl⟩
 rintro _ r ⟨f,g,h,i,rfl⟩
 refine .u4 (.uc (.bg (fun t (y:Bool)=>∃ j k l:A,t=[(bA y),j,k,l]) ?_ ?_))
 ·refine .bi ?_ ?_
  ·exact .s (pt 0 2) (.s (iA a.Until) (.st (eP ..) (.lg ⟨_,_,_,rfl⟩)))
  exact .lg ⟨_,_,_,rfl⟩
 rintro _ u ⟨j,k,l,rfl⟩
 exact .u4 (.lv rfl)
def Gz (a:al) (b:Int) (a2:Int):Option Bool:=O7 aA a b a2
def xW (C:OT):Prop:=∀ (a:al) (b:Int) (a2:Int),C 73 [(ag (ae a)),(iA b),(iA a2)]=(Gz a b a2).map fun y=>(bA y)
def jv (n:Nat) (b:(List al)) (c:Int):Nat->Int->Option ((Int)⊕(Unit))
 | 0,_=>none
 | m+1,a=>(bif (decide (a<((b.length:Int)))) then (some (decide (0<=c))) else (some false)).bind fun d=>bif d then ((bt b a).bind fun e=>bif (decide (c<e.Until)) then (some ((Sum.inl a))) else (jv n b c m (wr .i64 (a+1)))) else (some ((Sum.inr (()))))
theorem Ew {w14:A} (f:(List al)) (g:Int) {K:((Int)⊕(Unit))->Option γ} (k:∀ (h:Int) (a:A) (b:A) (c:A),J φ (kr (St.mk [(0,a),(1,b),(4,(iA h)),(5,c)] [])) kL (K (Sum.inl h)) some) (l:∀ (a:A) (b:A) (o:A) (c:A),J φ (kx 0 (St.mk [(0,a),(1,b),(4,o),(5,c)] [])) kL (K (Sum.inr (()))) some) :
  ∀ (m:Nat) (d:Int),J φ (aH (cx C) (ec C n 8) (ey C n 8) (n+8) 74 0 0 0 kx kg kr kp m (St.mk [(0,(im (f.map ae) false)),(1,(iA g)),(4,w14),(5,(iA d))] [])) kL (jv n f g m d) K:=by
  refine nI (fun _=>.nn) fun m ih d=>.lp (MM ..) ?_
  unfold jv
  refine .st (dr (e:=50)) (.st (aW ..) (.bg (fun t (y:Bool)=>∃ i j:A,t=[(bA y),i,j]) ?_ ?_))
  ·refine .bi ?_ ?_
   ·exact .st (fj ..) (.lg ⟨_,_,rfl⟩)
   exact .lg ⟨_,_,rfl⟩
  rintro _ q ⟨i,j,rfl⟩
  refine .uc (.uc (.uc (.bX ?_ ?_)))
  ·refine .bd (fa (e:=50) (es:=3)) fun p=>.s2 (iA p.Until) (.st (aW ..) (.bX ?_ ?_))
   ·exact .ex (k _ _ _ _)
   refine .st (aM ..) (.s [] (.cT j9 ?_))
   exact ih _
  exact .ex (l _ _ _ _)
def O8 (n:Nat) (a:(List al)) (b:Int):Option Int:=
 (jv n a b (n+8) 0).bind fun c=>match c with | (Sum.inl d)=>some d | (Sum.inr _)=>some (-1)
theorem VH (C:OT) (n:Nat) (a:(List al)) (b:Int):TJ C n 74 [(im (a.map ae) false),(iA b)] (O8 n a b) (fun y=>(iA y)):=by
 refine .lp (WK ..) ?_
 unfold O8
 refine .as (Ew C n _ _ _ _ a b ?_ ?_ _ 0)
 ·intro c d e f
  exact .un rfl (.lv rfl)
 ·intro g h i j
  exact .un rfl (.cT j9 (.lv rfl))
def J2 (a:(List al)) (b:Int):Option Int:=O8 aA a b
def Bz (C:OT):Prop:=∀ (a:(List al)) (b:Int),C 74 [(im (a.map ae) false),(iA b)]=(J2 a b).map fun y=>(iA y)
def kq (n:Nat) (b:(List Bool)) (c:Bool) (d:Int):Nat->Int->Int->Option ((Int)⊕(Unit))
 | 0,_,_=>none
 | m+1,e,a=>bif (decide (a<((b.length:Int)))) then ((bt b a).bind fun f=>bif (f==c) then (bif (e==d) then (some ((Sum.inl a))) else (kq n b c d m (wr .i64 (e+1)) (wr .i64 (a+1)))) else (kq n b c d m e (wr .i64 (a+1)))) else (some ((Sum.inr (()))))
theorem Er {w39:A} (i:(List Bool)) (a:Bool) (j:Int) {K:((Int)⊕(Unit))->Option γ} (o:∀ (k:Int) (b:A) (c:A) (s2:A) (d:A) (f:A),J φ (kr (St.mk [(0,b),(1,c),(2,s2),(6,(iA k)),(7,d),(8,f)] [])) kL (K (Sum.inl k)) some) (p:∀ (b:A) (c:A) (s2:A) (q:A) (d:A) (f:A),J φ (kx 0 (St.mk [(0,b),(1,c),(2,s2),(6,q),(7,d),(8,f)] [])) kL (K (Sum.inr (()))) some) :
  ∀ (m:Nat) (g:Int) (h:Int),J φ (aH (cx C) (ec C n 8) (ey C n 8) (n+8) 56 0 0 0 kx kg kr kp m (St.mk [(0,(im (i.map cB) false)),(1,(bA a)),(2,(iA j)),(6,w39),(7,(iA g)),(8,(iA h))] [])) kL (kq n i a j m g h) K:=by
  refine nI (fun _ _=>.nn) fun m ih g h=>.lp (MI ..) ?_
  unfold kq
  refine .st (dr (e:=4)) (.st (aW ..) (.bX ?_ ?_))
  ·refine .bd (fa (e:=4) (es:=1)) fun l=>.s (bA l) (.s (bA (l==a)) (.bX ?_ ?_))
   ·refine .st (aV ..) (.bX ?_ ?_)
    ·exact .ex (o _ _ _ _ _ _)
    refine .st (aM ..) (.st (aM ..) (.s [] (.cT j9 ?_)))
    exact ih _ _
   refine .st (aM ..) (.s [] (.cT j9 ?_))
   exact ih _ _
  exact .ex (p _ _ _ _ _ _)
def OV (n:Nat) (a:(List Bool)) (b:Bool) (a2:Int):Option Int:=
 (kq n a b a2 (n+8) 0 0).bind fun c=>match c with | (Sum.inl d)=>some d | (Sum.inr _)=>some (-1)
theorem Vu (C:OT) (n:Nat) (a:(List Bool)) (b:Bool) (a2:Int):TJ C n 56 [(im (a.map cB) false),(bA b),(iA a2)] (OV n a b a2) (fun y=>(iA y)):=by
 refine .lp (Ww ..) ?_
 unfold OV
 refine .as (Er C n _ _ _ _ a b a2 ?_ ?_ _ 0 0)
 ·intro c d e f g h
  exact .un rfl (.lv rfl)
 ·intro i j k l o p
  exact .un rfl (.cT j9 (.lv rfl))
def Gr (a:(List Bool)) (b:Bool) (a2:Int):Option Int:=OV aA a b a2
def sO (C:OT):Prop:=∀ (a:(List Bool)) (b:Bool) (a2:Int),C 56 [(im (a.map cB) false),(bA b),(iA a2)]=(Gr a b a2).map fun y=>(iA y)
def lX (n:Nat) (b:af):Nat->Int->Int->Option ((Bool)⊕(Unit))
 | 0,_,_=>none
 | m+1,c,a=>bif (decide (a<((b.Leases.length:Int)))) then ((bt b.Leases a).bind fun d=>(Gz d a c).bind fun e=>bif (!e) then (some ((Sum.inl false))) else ((bt b.Leases a).bind fun f=>lX n b m f.Until (wr .i64 (a+1)))) else (some ((Sum.inr (()))))
theorem Eo (i:xW C) {w102:A} (a:af) {K:((Bool)⊕(Unit))->Option γ} (j:∀ (g:Bool) (k:A) (d:A) (f:A) (q0:az),J φ (kr (St.mk [(1,k),(2,(bA g)),(3,d),(4,f)] [q0])) kL (K (Sum.inl g)) some) (l:∀ (d:A) (f:A),J φ (kx 0 (St.mk [(1,(pt 0 0)),(2,w102),(3,d),(4,f)] [bx (aa a)])) kL (K (Sum.inr (()))) some) :
  ∀ (m:Nat) (b:Int) (c:Int),J φ (aH (cx C) (ec C n 8) (ey C n 8) (n+8) 55 0 0 1 kx kg kr kp m (St.mk [(1,(pt 0 0)),(2,w102),(3,(iA b)),(4,(iA c))] [bx (aa a)])) kL (lX n a m b c) K:=by
  refine nI (fun _ _=>.nn) fun m ih b c=>.lp (MG ..) ?_
  unfold lX
  refine .s2 (im (a.Leases.map ae) false) (.st (dr (e:=50)) (.st (aW ..) (.bX ?_ ?_)))
  ·refine .s2 (im (a.Leases.map ae) false) (.bd (fa (e:=50) (es:=3)) fun h=>.s (ag (ae h)) (.bd (i h c b) fun o=>.s (bA (!o)) (.bX ?_ ?_)))
   ·exact .ex (j _ _ _ _ _)
   refine .s2 (im (a.Leases.map ae) false) (.bd (fa (e:=50) (es:=3)) fun p=>.s2 (iA p.Until) (.st (aM ..) (.s [bx (aa a)] (.cT j9 ?_))))
   exact ih _ _
  exact .ex (l _ _)
def et (n:Nat) (e:Bool) (a:af):Nat->Int->Option ((Bool)⊕(Unit))
 | 0,_=>none
 | m+1,b=>bif (decide (b<((a.Calls.length:Int)))) then ((bt a.Calls b).bind fun c=>(bif (decide (0<b)) then ((bt a.Calls (wr .i64 (b - 1))).bind fun f=>some (decide (c.Bar<=f.Bar))) else (some false)).bind fun g=>(bif g then (some true) else ((xM c.Program 1 8).bind fun h=>some (!h))).bind fun i=>bif i then (some ((Sum.inl false))) else ((J2 a.Leases c.Bar).bind fun d=>bif (decide (d<0)) then (some ((Sum.inl false))) else ((bt a.Leases d).bind fun j=>(bif (j.Holder != a.Self) then (some true) else ((Gr a.Order true d).bind fun k=>(Gr a.Order false b).bind fun l=>some (decide (l<k)))).bind fun o=>bif o then (some ((Sum.inl false))) else (et n e a m (wr .i64 (b+1)))))) else (some ((Sum.inr (()))))
theorem Ep (a1:pg C) (l:sO C) (a2:Bz C) (o:Bool) (a:af) {K:((Bool)⊕(Unit))->Option γ} (d:∀ (p:Bool) (f:A) (h:A) (q0:az) (q1:az),J φ (kr (St.mk [(1,f),(2,(bA p)),(5,h)] [q0,q1])) kL (K (Sum.inl p)) some) (x1:∀ (f:A) (s2:A) (h:A) (q0:az),J φ (kx 2 (St.mk [(1,f),(2,s2),(5,h)] [q0])) kL (K (Sum.inr (()))) some) :
  ∀ (m:Nat) (c:Int),J φ (aH (cx C) (ec C n 8) (ey C n 8) (n+8) 55 0 1 1 kx kg kr kp m (St.mk [(1,(pt 0 0)),(2,(bA o)),(5,(iA c))] [bx (aa a)])) kL (et n o a m c) K:=by
  refine nI (fun _=>.nn) fun m ih c=>.lp (MH ..) ?_
  unfold et
  refine .s2 (im (a.Calls.map ah) false) (.st (dr (e:=54)) (.st (aW ..) (.bX ?_ ?_)))
  ·refine .s2 (im (a.Calls.map ah) false) (.bd (fa (e:=54) (es:=2)) fun b=>.s (ag [(iA b.Bar),(iA b.Program)]) (.sq (pt 1 0) (.s [bx (aa a),bx [(iA b.Bar),(iA b.Program)]] (.st (cF ..) (.Xy (.bg (fun t (y:Bool)=>∃ q:A,t=[(bA y),q]) ?_ ?_))))))
   ·refine .AV (fun i=>?_) (fun i=>?_)
    ·exact .bb (.s (pt 1 0) (.s (iA b.Bar) (.s (pt 0 2) (.s (im (a.Calls.map ah) false) (.st (du ..) (.bd (fa (e:=54) (es:=2)) fun j=>.s (A.ip [(iA j.Bar),(iA j.Program)]) (.s (iA j.Bar) (.cr (.u4 (.u4 (.uc (.ra i (.st (eP ..) (.lg ⟨_,rfl⟩))))))))))))))
    exact .bb (.cr (.u4 (.u4 (.uc (.q9 i (.lg ⟨_,rfl⟩))))))
   rintro _ a7 ⟨q,rfl⟩
   refine .uc (.uc (.bg (fun t (y:Bool)=>∃ r u w x:A,t=[(bA y),r,u,w,x]) ?_ ?_))
   ·refine .bi ?_ ?_
    ·exact .lg ⟨_,_,_,_,rfl⟩
    exact .s (pt 1 1) (.s (iA b.Program) (.bd (a1 b.Program 1 8) fun a4=>.s (bA (!a4)) (.lg ⟨_,_,_,_,rfl⟩)))
   rintro _ a8 ⟨r,u,w,x,rfl⟩
   refine .u4 (.uc (.bX ?_ ?_))
   ·exact .ex (d _ _ _ _ _)
   refine .s2 (im (a.Leases.map ae) false) (.s2 (iA b.Bar) (.bd (g:=fun (y:Int)=>(iA y)) (by simp only[bJ,dg]; exact a2 a.Leases b.Bar) fun a5=>.st (aW ..) (.bX ?_ ?_)))
   ·exact .ex (d _ _ _ _ _)
   refine .s2 (im (a.Leases.map ae) false) (.bd (fa (e:=50) (es:=3)) fun a6=>.s2 (iA a6.Holder) (.s2 (iA a.Self) (.st (bf ..) (.Ut (.bg (fun t (y:Bool)=>∃ z a0:A,t=[(bA y),z,a0]) ?_ ?_)))))
   ·refine .E9 (fun k=>?_) (fun k=>?_)
    ·exact .bb (.s (pt 0 3) (.s (im (a.Order.map cB) false) (.bd (g:=fun (y:Int)=>(iA y)) (by simp only[bJ,dg]; exact l a.Order true a5) fun a9=>.s (pt 0 3) (.s (im (a.Order.map cB) false) (.cr (.u4 (.uc (.uc (.uc (.q9 k (.bd (g:=fun (y:Int)=>(iA y)) (by simp only[bJ,dg]; exact l a.Order false c) fun ab=>.st (cF ..) (.lg ⟨_,_,rfl⟩))))))))))))
    exact .bb (.cr (.u4 (.uc (.uc (.uc (.ra k (.lg ⟨_,_,rfl⟩)))))))
   rintro _ ad ⟨z,a0,rfl⟩
   refine .uc (.uc (.uc (.bX ?_ ?_)))
   ·exact .ex (d _ _ _ _ _)
   refine .st (aM ..) (.st (v:=[bx (aa a)]) (eH j9 u2) (.cT j9 ?_))
   exact ih _
  exact .ex (x1 _ _ _ _)
def OU (n:Nat) (a:af):Option Bool:=
 (xM a.Self 0 1).bind fun b=>(bif (!b) then (some true) else ((xM ((a.Leases.length:Int)) 1 256).bind fun c=>some (!c))).bind fun d=>(bif d then (some true) else (some (((a.Order.length:Int)) != (wr .i64 (((a.Leases.length:Int))+((a.Calls.length:Int))))))).bind fun e=>(bif e then (some true) else ((LP a.Order).bind fun f=>some (f != ((a.Leases.length:Int))))).bind fun g=>(bif g then (some true) else ((bt a.Order 0).bind fun h=>some (!h))).bind fun i=>bif i then (some false) else ((lX n a (n+8) 0 0).bind fun j=>match j with | (Sum.inl k)=>some k | (Sum.inr _)=>(et n false a (n+8) 0).bind fun l=>match l with | (Sum.inl o)=>some o | (Sum.inr _)=>some true)
theorem Vt (C:OT) (n:Nat) (b:pg C) (a8:sO C) (a9:I8 C) (ab:xW C) (ad:Bz C) (a:af):TJ C n 55 [(ag (aa a))] (OU n a) (fun y=>(bA y)):=by
 refine .lp (Wv ..) ?_
 unfold OU
 refine .s ((pt 0 0),[bx (aa a)]) (.s2 (iA a.Self) (.bd (b a.Self 0 1) fun y1=>.s (bA (!y1)) (.bg (fun t (y:Bool)=>∃ d f h i j:A,t=[(bA y),d,f,h,i,j]) ?_ ?_)))
 ·refine .bi ?_ ?_
  ·exact .lg ⟨_,_,_,_,_,rfl⟩
  exact .s (pt 0 1) (.s (im (a.Leases.map ae) false) (.st (dr (e:=50)) (.bd (b ((a.Leases.length:Int)) 1 256) fun y3=>.s (bA (!y3)) (.lg ⟨_,_,_,_,_,rfl⟩))))
 rintro _ y4 ⟨d,f,h,i,j,rfl⟩
 refine .u4 (.uc (.uc (.bg (fun t (y:Bool)=>∃ k l o p q r u v w x z:A,t=[(bA y),k,l,o,p,q,r,u,v,w,x,z]) ?_ ?_)))
 ·refine .bi ?_ ?_
  ·exact .lg ⟨_,_,_,_,_,_,_,_,_,_,_,rfl⟩
  exact .s (pt 0 3) (.s (im (a.Order.map cB) false) (.st (dr (e:=4)) (.s (pt 0 1) (.s (im (a.Leases.map ae) false) (.st (dr (e:=50)) (.s (pt 0 2) (.s (im (a.Calls.map ah) false) (.st (dr (e:=54)) (.st (aM ..) (.st (bf ..) (.lg ⟨_,_,_,_,_,_,_,_,_,_,_,rfl⟩)))))))))))
 rintro _ al ⟨k,l,o,p,q,r,u,v,w,x,z,rfl⟩
 refine .u4 (.u4 (.u4 (.Xx (.bg (fun t (y:Bool)=>∃ a1:A,t=[(bA y),a1]) ?_ ?_))))
 ·refine .E9 (fun c=>?_) (fun c=>?_)
  ·exact .bb (.s (pt 0 3) (.s (im (a.Order.map cB) false) (.bd (g:=fun (y:Int)=>(iA y)) (by simp only[bJ,dg]; exact a9 a.Order) fun am=>.s (pt 0 1) (.s (im (a.Leases.map ae) false) (.st (dr (e:=50)) (.cr (.u4 (.uc (.uc (.q9 c (.st (bf ..) (.lg ⟨_,rfl⟩))))))))))))
  exact .bb (.cr (.u4 (.uc (.uc (.ra c (.lg ⟨_,rfl⟩))))))
 rintro _ an ⟨a1,rfl⟩
 refine .uc (.uc (.bg (fun t (y:Bool)=>∃ a2 a3 a4 a5 a6:A,t=[(bA y),a2,a3,a4,a5,a6]) ?_ ?_))
 ·refine .bi ?_ ?_
  ·exact .lg ⟨_,_,_,_,_,rfl⟩
  exact .s (pt 0 3) (.s (im (a.Order.map cB) false) (.bd (fa (e:=4) (es:=1)) fun a7=>.s (bA a7) (.s (bA (!a7)) (.lg ⟨_,_,_,_,_,rfl⟩))))
 rintro _ ao ⟨a2,a3,a4,a5,a6,rfl⟩
 refine .u4 (.uc (.uc (.bX ?_ ?_)))
 ·exact .lv rfl
 refine .as (Eo C n _ _ _ _ ab a ?_ ?_ _ 0 0)
 ·intro ap aq ar au w116
  exact .un rfl (.lv rfl)
 ·intro av aw
  refine .un rfl (.cT j9 (.as (Ep C n _ _ _ _ b a8 ad false a ?_ ?_ _ 0)))
  ·intro ax ay az w276 w277
   exact .un rfl (.lv rfl)
  ·intro b0 b1 b2 w281
   exact .un rfl (.cT j9 (.lv rfl))
def J1 (a:af):Option Bool:=OU aA a
def xV (C:OT):Prop:=∀ (a:af),C 55 [(ag (aa a))]=(J1 a).map fun y=>(bA y)
def kj (n:Nat) (c:Int) (a:af) (d:Int) (e:Int):Nat->Int->Option ((Bool)⊕(Unit))
 | 0,_=>none
 | m+1,b=>bif (decide (b<((a.Calls.length:Int)))) then ((bt a.Calls b).bind fun f=>(bif (((f.Bar==d)&&(f.Program==e))) then ((Gr a.Order false b).bind fun g=>some (decide (g<c))) else (some false)).bind fun h=>bif h then (some ((Sum.inl true))) else (kj n c a d e m (wr .i64 (b+1)))) else (some ((Sum.inr (()))))
theorem El (r:sO C) {w46:A} (o:Int) (a:af) (b:Int) (c:Int) {K:((Bool)⊕(Unit))->Option γ} (u:∀ (p:Bool) (h:A) (i:A) (j:A) (k:A) (q0:az) (q1:az),J φ (kr (St.mk [(1,h),(3,i),(5,j),(6,(bA p)),(7,k)] [q0,q1])) kL (K (Sum.inl p)) some) (v:∀ (h:A) (i:A) (j:A) (w:A) (k:A) (q0:az) (q1:az),J φ (kx 0 (St.mk [(1,h),(3,i),(5,j),(6,w),(7,k)] [q0,q1])) kL (K (Sum.inr (()))) some) :
  ∀ (m:Nat) (d:Int),J φ (aH (cx C) (ec C n 8) (ey C n 8) (n+8) 36 0 0 2 kx kg kr kp m (St.mk [(1,(iA o)),(3,(pt 0 0)),(5,(pt 1 0)),(6,w46),(7,(iA d))] [bx (aa a),bx [(iA b),(iA c)]])) kL (kj n o a b c m d) K:=by
  refine nI (fun _=>.nn) fun m ih d=>.lp (MD ..) ?_
  unfold kj
  refine .s2 (im (a.Calls.map ah) false) (.st (dr (e:=54)) (.st (aW ..) (.bX ?_ ?_)))
  ·refine .s2 (im (a.Calls.map ah) false) (.bd (fa (e:=54) (es:=2)) fun f=>.s (ag [(iA f.Bar),(iA f.Program)]) (.s (ag [(iA b),(iA c)]) (.s (bA (((f.Bar==b)&&(f.Program==c)))) (.SV (.bg (fun t (y:Bool)=>∃ q:A,t=[(bA y),q]) ?_ ?_)))))
   ·refine .AV (fun l=>?_) (fun l=>?_)
    ·exact .bb (.s (pt 0 3) (.s (im (a.Order.map cB) false) (.bd (g:=fun (y:Int)=>(iA y)) (by simp only[bJ,dg]; exact r a.Order false d) fun x=>.cr (.u4 (.uc (.ra l (.st (aW ..) (.lg ⟨_,rfl⟩))))))))
    exact .bb (.cr (.u4 (.uc (.q9 l (.lg ⟨_,rfl⟩)))))
   rintro _ z ⟨q,rfl⟩
   refine .uc (.uc (.bX ?_ ?_))
   ·exact .ex (u _ _ _ _ _ _ _)
   refine .st (aM ..) (.s [bx (aa a),bx [(iA b),(iA c)]] (.cT j9 ?_))
   exact ih _
  exact .ex (v _ _ _ _ _ _ _)
def OK (n:Nat) (a:af) (b:Int) (a2:av):Option Bool:=
 (kj n b a a2.Bar a2.Program (n+8) 0).bind fun PC=>match PC with | (Sum.inl c)=>some c | (Sum.inr _)=>some false
theorem Vk (C:OT) (n:Nat) (c:sO C) (a:af) (b:Int) (a2:av):TJ C n 36 [(ag (aa a)),(iA b),(ag [(iA a2.Bar),(iA a2.Program)])] (OK n a b a2) (fun y=>(bA y)):=by
 refine .lp (Wm ..) ?_
 unfold OK
 refine .s ((pt 0 0),[bx (aa a)]) (.s ((pt 1 0),[bx (aa a),bx [(iA a2.Bar),(iA a2.Program)]]) (.as (El C n _ _ _ _ c b a a2.Bar a2.Program ?_ ?_ _ 0)))
 ·intro d e f g h w83 w84
  exact .un rfl (.lv rfl)
 ·intro i j k l o w90 w91
  exact .un rfl (.cT j9 (.lv rfl))
def Li (a:af) (b:Int) (a2:av):Option Bool:=OK aA a b a2
def xR (C:OT):Prop:=∀ (a:af) (b:Int) (a2:av),C 36 [(ag (aa a)),(iA b),(ag [(iA a2.Bar),(iA a2.Program)])]=(Li a b a2).map fun y=>(bA y)
def ki (n:Nat) (e:Int) (a:af) (b:al):Nat->Int->Option ((Bool)⊕(Unit))
 | 0,_=>none
 | m+1,c=>bif (decide (c<((a.Leases.length:Int)))) then ((bt a.Leases c).bind fun d=>(bif (((d.No==b.No)&&((d.Holder==b.Holder)&&(d.Until==b.Until)))) then ((Gr a.Order true c).bind fun f=>some (decide (f<e))) else (some false)).bind fun g=>bif g then (some ((Sum.inl true))) else (ki n e a b m (wr .i64 (c+1)))) else (some ((Sum.inr (()))))
theorem Ek (q:sO C) {w45:A} (l:Int) (a:af) (b:al) {K:((Bool)⊕(Unit))->Option γ} (r:∀ (o:Bool) (f:A) (h:A) (i:A) (j:A) (q0:az) (q1:az),J φ (kr (St.mk [(1,f),(3,h),(5,i),(6,(bA o)),(7,j)] [q0,q1])) kL (K (Sum.inl o)) some) (u:∀ (f:A) (h:A) (i:A) (v:A) (j:A) (q0:az) (q1:az),J φ (kx 0 (St.mk [(1,f),(3,h),(5,i),(6,v),(7,j)] [q0,q1])) kL (K (Sum.inr (()))) some) :
  ∀ (m:Nat) (c:Int),J φ (aH (cx C) (ec C n 8) (ey C n 8) (n+8) 35 0 0 2 kx kg kr kp m (St.mk [(1,(iA l)),(3,(pt 0 0)),(5,(pt 1 0)),(6,w45),(7,(iA c))] [bx (aa a),bx (ae b)])) kL (ki n l a b m c) K:=by
  refine nI (fun _=>.nn) fun m ih c=>.lp (MC ..) ?_
  unfold ki
  refine .s2 (im (a.Leases.map ae) false) (.st (dr (e:=50)) (.st (aW ..) (.bX ?_ ?_)))
  ·refine .s2 (im (a.Leases.map ae) false) (.bd (fa (e:=50) (es:=3)) fun d=>.s (ag (ae d)) (.s (ag (ae b)) (.s (bA (((d.No==b.No)&&((d.Holder==b.Holder)&&(d.Until==b.Until))))) (.SV (.bg (fun t (y:Bool)=>∃ p:A,t=[(bA y),p]) ?_ ?_)))))
   ·refine .AV (fun k=>?_) (fun k=>?_)
    ·exact .bb (.s (pt 0 3) (.s (im (a.Order.map cB) false) (.bd (g:=fun (y:Int)=>(iA y)) (by simp only[bJ,dg]; exact q a.Order true c) fun w=>.cr (.u4 (.uc (.ra k (.st (aW ..) (.lg ⟨_,rfl⟩))))))))
    exact .bb (.cr (.u4 (.uc (.q9 k (.lg ⟨_,rfl⟩)))))
   rintro _ x ⟨p,rfl⟩
   refine .uc (.uc (.bX ?_ ?_))
   ·exact .ex (r _ _ _ _ _ _ _)
   refine .st (aM ..) (.s [bx (aa a),bx (ae b)] (.cT j9 ?_))
   exact ih _
  exact .ex (u _ _ _ _ _ _ _)
def OJ (n:Nat) (a:af) (b:Int) (a2:al):Option Bool:=
 (ki n b a a2 (n+8) 0).bind fun PB=>match PB with | (Sum.inl c)=>some c | (Sum.inr _)=>some false
theorem Vj (C:OT) (n:Nat) (c:sO C) (a:af) (b:Int) (a2:al):TJ C n 35 [(ag (aa a)),(iA b),(ag (ae a2))] (OJ n a b a2) (fun y=>(bA y)):=by
 refine .lp (Wl ..) ?_
 unfold OJ
 refine .s ((pt 0 0),[bx (aa a)]) (.s ((pt 1 0),[bx (aa a),bx (ae a2)]) (.as (Ek C n _ _ _ _ c b a a2 ?_ ?_ _ 0)))
 ·intro d e f g h w81 w82
  exact .un rfl (.lv rfl)
 ·intro i j k l o w88 w89
  exact .un rfl (.cT j9 (.lv rfl))
def JZ (a:af) (b:Int) (a2:al):Option Bool:=OJ aA a b a2
def Bw (C:OT):Prop:=∀ (a:af) (b:Int) (a2:al),C 35 [(ag (aa a)),(iA b),(ag (ae a2))]=(JZ a b a2).map fun y=>(bA y)
def kf (n:Nat) (a:Int) (b:aC) (d:af):Nat->Int->Option ((Bool)⊕(Unit))
 | 0,_=>none
 | m+1,c=>bif (decide (0<=a)&&decide (a<2)) then ((jL a b.Spoken.1 b.Spoken.2).bind fun e=>bif (decide (c<((e.length:Int)))) then (bif (decide (0<=a)&&decide (a<2)) then ((jL a b.Synced.1 b.Synced.2).bind fun f=>bif (decide (0<=a)&&decide (a<2)) then ((jL a b.Spoken.1 b.Spoken.2).bind fun g=>(bt g c).bind fun h=>(Li d f h).bind fun i=>bif (!i) then (some ((Sum.inl false))) else (kf n a b d m (wr .i64 (c+1)))) else none) else none) else (some ((Sum.inr (()))))) else none
theorem Ei (o:xR C) {w259:A} (a:Int) (c:aC) (b:af) {K:((Bool)⊕(Unit))->Option γ} (p:∀ (l:Bool) (d:A) (i:A) (q0:az) (q1:az),J φ (kr (St.mk [(1,(pt 0 0)),(2,(bA l)),(3,(iA a)),(4,d),(6,i)] [q0,q1])) kL (K (Sum.inl l)) some) (q:∀ (d:A) (i:A) (q1:az),J φ (kx 2 (St.mk [(1,(pt 0 0)),(2,w259),(3,(iA a)),(4,d),(6,i)] [bx (aj c),q1])) kL (K (Sum.inr (()))) some) :
  ∀ (m:Nat) (j:Int),J φ (aH (cx C) (ec C n 8) (ey C n 8) (n+8) 33 0 1 2 kx kg kr kp m (St.mk [(1,(pt 0 0)),(2,w259),(3,(iA a)),(4,(pt 1 0)),(6,(iA j))] [bx (aj c),bx (aa b)])) kL (kf n a c b m j) K:=by
  refine nI (fun _=>.nn) fun m ih j=>.lp (MA ..) ?_
  unfold kf
  refine .s (pt 0 11) (.gd fun hg=>.st (v:=(pt 0 (11+Int.toNat a*1))) (b8 (e:=23) (n:=1) (len:=2) j9 j9 rfl hg) (.a2 (f:=fun (y:(List av))=>(im (y.map ah) false)) (fun h=>by rw[h]; kernel_rfl) (fun h=>by rw[h]; kernel_rfl) fun u=>.st (dr (e:=54)) (.st (aW ..) (.bX ?_ ?_))))
  ·refine .s (ag (aa b)) (.s (pt 0 8) (.gd fun hg=>.st (v:=(pt 0 (8+Int.toNat a*1))) (b8 (e:=3) (n:=1) (len:=2) j9 j9 rfl hg) (.a2 (f:=fun (y:Int)=>(iA y)) (fun h=>by rw[h]; kernel_rfl) (fun h=>by rw[h]; kernel_rfl) fun r=>.s (pt 0 11) (.gd fun hg=>.st (v:=(pt 0 (11+Int.toNat a*1))) (b8 (e:=23) (n:=1) (len:=2) j9 j9 rfl hg) (.a2 (f:=fun (y:(List av))=>(im (y.map ah) false)) (fun h=>by rw[h]; kernel_rfl) (fun h=>by rw[h]; kernel_rfl) fun w=>.bd (fa (e:=54) (es:=2)) fun k=>.s (ag [(iA k.Bar),(iA k.Program)]) (.bd (g:=fun (y:Bool)=>(bA y)) (by simp only[bJ,dg]; exact o b r k) fun t=>.s (bA (!t)) (.bX ?_ ?_)))))))
   ·exact .ex (p _ _ _ _ _)
   refine .st (aM ..) (.s [bx (aj c),bx (aa b)] (.cT j9 ?_))
   exact ih _
  exact .ex (q _ _ _)
def ke (n:Nat) (d:Bool) (b:aC):Nat->Int->Option ((Bool)⊕(Unit))
 | 0,_=>none
 | m+1,a=>bif (decide (a<2)) then (bif (decide (0<=a)&&decide (a<2)) then ((jL a b.Desks.1 b.Desks.2).bind fun c=>(J1 c).bind fun e=>(bif (!e) then (some true) else (some (c.Self != a))).bind fun f=>(bif f then (some true) else (bif (decide (0<=a)&&decide (a<2)) then ((jL a b.Synced.1 b.Synced.2).bind fun g=>(xM g 1 ((c.Order.length:Int))).bind fun h=>some (!h)) else none)).bind fun i=>bif i then (some ((Sum.inl false))) else ((kf n a b c (n+8) 0).bind fun j=>match j with | (Sum.inl k)=>some ((Sum.inl k)) | (Sum.inr _)=>ke n d b m (wr .i64 (a+1)))) else none) else (some ((Sum.inr (()))))
theorem Eh (x:pg C) (z:xR C) (a0:xV C) (d:Bool) (b:aC) {K:((Bool)⊕(Unit))->Option γ} (k:∀ (l:Bool) (s1:A) (i:A) (q0:az) (q1:az),J φ (kr (St.mk [(1,s1),(2,(bA l)),(3,i)] [q0,q1])) kL (K (Sum.inl l)) some) (x1:∀ (i:A),J φ (kx 0 (St.mk [(1,(pt 0 0)),(2,(bA d)),(3,i)] [bx (aj b)])) kL (K (Sum.inr (()))) some) :
  ∀ (m:Nat) (c:Int),J φ (aH (cx C) (ec C n 8) (ey C n 8) (n+8) 33 0 0 1 kx kg kr kp m (St.mk [(1,(pt 0 0)),(2,(bA d)),(3,(iA c))] [bx (aj b)])) kL (ke n d b m c) K:=by
  refine nI (fun _=>.nn) fun m ih c=>.lp (Mz ..) ?_
  unfold ke
  refine .st (aW ..) (.bX ?_ ?_)
  ·refine .s (pt 0 0) (.gd fun hg=>.st (v:=(pt 0 (0+Int.toNat c*4))) (b8 (e:=26) (n:=4) (len:=2) j9 j9 rfl hg) (.a2 (f:=fun (y:af)=>(ag [(iA y.Self),(im (y.Leases.map ae) false),(im (y.Calls.map ah) false),(im (y.Order.map cB) false)])) (fun h=>by rw[h]; kernel_rfl) (fun h=>by rw[h]; kernel_rfl) fun a=>.sq (pt 1 0) (.s [bx (aj b),bx (aa a)] (.s (ag (aa a)) (.bd (g:=fun (y:Bool)=>(bA y)) (by simp only[bJ,dg]; exact a0 a) fun a4=>.s (bA (!a4)) (.bg (fun t (y:Bool)=>∃ o p q r:A,t=[(bA y),o,p,q,r]) ?_ ?_))))))
   ·refine .bi ?_ ?_
    ·exact .lg ⟨_,_,_,_,rfl⟩
    exact .s (pt 1 0) (.s (iA a.Self) (.st (bf ..) (.lg ⟨_,_,_,_,rfl⟩)))
   rintro _ a7 ⟨o,p,q,r,rfl⟩
   refine .u4 (.uc (.Ut (.bg (fun t (y:Bool)=>∃ u w:A,t=[(bA y),u,w]) ?_ ?_)))
   ·refine .E9 (fun j=>?_) (fun j=>?_)
    ·exact .bb (.s (pt 0 8) (.gd fun hg=>.st (v:=(pt 0 (8+Int.toNat c*1))) (b8 (e:=3) (n:=1) (len:=2) j9 j9 rfl hg) (.a2 (f:=fun (y:Int)=>(iA y)) (fun h=>by rw[h]; kernel_rfl) (fun h=>by rw[h]; kernel_rfl) fun a5=>.s (pt 1 3) (.s (im (a.Order.map cB) false) (.st (dr (e:=4)) (.cr (.u4 (.uc (.uc (.uc (.q9 j (.bd (x a5 1 ((a.Order.length:Int))) fun a6=>.s (bA (!a6)) (.lg ⟨_,_,rfl⟩)))))))))))))
    exact .bb (.cr (.u4 (.uc (.uc (.uc (.ra j (.lg ⟨_,_,rfl⟩)))))))
   rintro _ a8 ⟨u,w,rfl⟩
   refine .uc (.uc (.uc (.bX ?_ ?_)))
   ·exact .ex (k _ _ _ _ _)
   refine .as (Ei C n _ _ _ _ z c b a ?_ ?_ _ 0)
   ·intro a9 ab ad w275 w276
    exact .un rfl (.ex (k _ _ _ _ _))
   ·intro ai ak w279
    refine .un rfl (.cT j9 (.st (aM ..) (.st (v:=[bx (aj b)]) (eH j9 u2) (.cT j9 ?_))))
    exact ih _
  exact .ex (x1 _)
def kh (n:Nat) (a:aC):Nat->Int->Option ((Bool)⊕(Unit))
 | 0,_=>none
 | m+1,b=>bif (decide (b<((a.Told.length:Int)))) then ((bt a.Told b).bind fun c=>(JZ a.Desks.1 a.Synced.1 c).bind fun d=>(bt a.Told b).bind fun e=>(JZ a.Desks.2 a.Synced.2 e).bind fun f=>(bif (!d) then (some (!f)) else (some false)).bind fun g=>bif g then (some ((Sum.inl false))) else (kh n a m (wr .i64 (b+1)))) else (some ((Sum.inr (()))))
theorem Ej (f:Bw C) {w290:A} (a:aC) {K:((Bool)⊕(Unit))->Option γ} (o:∀ (h:Bool) (b:A) (c:A) (q0:az),J φ (kr (St.mk [(1,b),(2,(bA h)),(7,c)] [q0])) kL (K (Sum.inl h)) some) (p:∀ (b:A) (s2:A) (c:A) (q0:az),J φ (kx 4 (St.mk [(1,b),(2,s2),(7,c)] [q0])) kL (K (Sum.inr (()))) some) :
  ∀ (m:Nat) (d:Int),J φ (aH (cx C) (ec C n 8) (ey C n 8) (n+8) 33 0 2 1 kx kg kr kp m (St.mk [(1,(pt 0 0)),(2,w290),(7,(iA d))] [bx (aj a)])) kL (kh n a m d) K:=by
  refine nI (fun _=>.nn) fun m ih d=>.lp (MB ..) ?_
  unfold kh
  refine .s2 (im (a.Told.map ae) false) (.st (dr (e:=50)) (.st (aW ..) (.bX ?_ ?_)))
  ·refine .s (pt 0 0) (.s (pt 0 0) (.s (ag (aa a.Desks.1)) (.s (pt 0 8) (.s (pt 0 8) (.s (iA a.Synced.1) (.s2 (im (a.Told.map ae) false) (.bd (fa (e:=50) (es:=3)) fun i=>.s (ag (ae i)) (.bd (g:=fun (y:Bool)=>(bA y)) (by simp only[bJ,dg]; exact f a.Desks.1 a.Synced.1 i) fun q=>.s (pt 0 0) (.s (pt 0 4) (.s (ag (aa a.Desks.2)) (.s (pt 0 8) (.s (pt 0 9) (.s (iA a.Synced.2) (.s2 (im (a.Told.map ae) false) (.bd (fa (e:=50) (es:=3)) fun j=>.s (ag (ae j)) (.bd (g:=fun (y:Bool)=>(bA y)) (by simp only[bJ,dg]; exact f a.Desks.2 a.Synced.2 j) fun r=>.s (bA (!q)) (.bg (fun t (y:Bool)=>∃ k l:A,t=[(bA y),k,l]) ?_ ?_)))))))))))))))))
   ·refine .bi ?_ ?_
    ·exact .s (bA (!r)) (.lg ⟨_,_,rfl⟩)
    exact .lg ⟨_,_,rfl⟩
   rintro _ u ⟨k,l,rfl⟩
   refine .uc (.uc (.uc (.bX ?_ ?_)))
   ·exact .ex (o _ _ _ _)
   refine .st (aM ..) (.s [bx (aj a)] (.cT j9 ?_))
   exact ih _
  exact .ex (p _ _ _ _)
def OH (n:Nat) (a:aC):Option Bool:=
 (ke n false a (n+8) 0).bind fun b=>match b with | (Sum.inl c)=>some c | (Sum.inr _)=>(kh n a (n+8) 0).bind fun d=>match d with | (Sum.inl e)=>some e | (Sum.inr _)=>some true
theorem Vh (C:OT) (n:Nat) (b:pg C) (c:Bw C) (d:xR C) (e:xV C) (a:aC):TJ C n 33 [(ag (aj a))] (OH n a) (fun y=>(bA y)):=by
 refine .lp (Wj ..) ?_
 unfold OH
 refine .s ((pt 0 0),[bx (aj a)]) (.as (Eh C n _ _ _ _ b d e false a ?_ ?_ _ 0))
 ·intro f g h w284 w285
  exact .un rfl (.lv rfl)
 ·intro i
  refine .un rfl (.cT j9 (.as (Ej C n _ _ _ _ c a ?_ ?_ _ 0)))
  ·intro j k l w307
   exact .un rfl (.lv rfl)
  ·intro o p q w311
   exact .un rfl (.cT j9 (.lv rfl))
def LD (a:aC):Option Bool:=OH aA a
def IU (C:OT):Prop:=∀ (a:aC),C 33 [(ag (aj a))]=(LD a).map fun y=>(bA y)
def O9 (n:Nat) (a:af):Option Int:=
 (J1 a).bind fun b=>bif (!b) then (some 530) else (some 0)
theorem VI (C:OT) (n:Nat) (b:xV C) (a:af):TJ C n 75 [(ag (aa a))] (O9 n a) (fun y=>(iA y)):=by
 refine .lp (WL ..) ?_
 unfold O9
 refine .s ((pt 0 0),[bx (aa a)]) (.s (ag (aa a)) (.bd (g:=fun (y:Bool)=>(bA y)) (by simp only[bJ,dg]; exact b a) fun c=>.s (bA (!c)) (.bX ?_ ?_)))
 ·exact .lv rfl
 exact .lv rfl
def J3 (a:af):Option Int:=O9 aA a
def BA (C:OT):Prop:=∀ (a:af),C 75 [(ag (aa a))]=(J3 a).map fun y=>(iA y)
def Pa (n:Nat) (a:af) (b:al):Option af:=
 (cU 24 ([]) a.Leases).bind fun c=>(cU 24 c ([b])).bind fun d=>(cU 1 ([]) a.Order).bind fun e=>(cU 1 e ([true])).bind fun f=>some ((af.mk a.Self d a.Calls f))
theorem VJ (C:OT) (n:Nat) (a:af) (e:al):TJ C n 76 [(ag (aa a)),(ag (ae e))] (Pa n a e) (fun y=>(ag (aa y))):=by
 refine .lp (WM ..) ?_
 unfold Pa
 refine .s ((pt 0 0),[bx (aa a)]) (.sq (pt 1 0) (.s ((pt 2 0),[bx (aa a),bx (ae e),bx [(iA 0),XU,XU,XU]]) (.s XU (.s2 (im (a.Leases.map ae) false) (.bd (g:=fun (y:List al)=>((bo 3 0 y.length false),[bx (aa a),bx (ae e),bx [(iA 0),XU,XU,XU],az.row false 3 (y.map ae)])) (fz mQ (l:=[]) (l2:=a.Leases) (bk ..)) fun h=>.cT j9 (.s (ag (ae e)) (.cT j9 (.s (im [[(iA e.No),(iA e.Holder),(iA e.Until)]] true) (.bd (g:=fun (y:List al)=>((bo 3 0 y.length false),[bx (aa a),bx (ae e),bx [(iA 0),XU,XU,XU],az.row false 3 (y.map ae)])) (cp mQ (l:=h) (l2:=[e]) (b:=3) rfl (by decide) (bk (f:=ae) ([e]:List al) _ _)) fun c=>.s (pt 0 1) (.s [bx [(iA a.Self),(bo 3 0 c.length false),(im (a.Calls.map ah) false),(im (a.Order.map cB) false)],bx (ae e),bx [(iA 0),XU,XU,XU],az.row false 3 (c.map ae)] (.s XU (.s2 (im (a.Order.map cB) false) (.bd (g:=fun (y:List Bool)=>((bo 4 0 y.length false),[bx [(iA a.Self),(bo 3 0 c.length false),(im (a.Calls.map ah) false),(im (a.Order.map cB) false)],bx (ae e),bx [(iA 0),XU,XU,XU],az.row false 3 (c.map ae),az.row false 1 (y.map cB)])) (fz k9 (l:=[]) (l2:=a.Order) (bk ..)) fun i=>.s (im [[(bA true)]] true) (.bd (g:=fun (y:List Bool)=>((bo 4 0 y.length false),[bx [(iA a.Self),(bo 3 0 c.length false),(im (a.Calls.map ah) false),(im (a.Order.map cB) false)],bx (ae e),bx [(iA 0),XU,XU,XU],az.row false 3 (c.map ae),az.row false 1 (y.map cB)])) (cp k9 (l:=i) (l2:=[true]) (b:=4) rfl (by decide) (bk (f:=cB) ([true]:List Bool) _ _)) fun d=>.s (pt 0 3) (.sh ?_)))))))))))))))
 exact .s (ag [(iA a.Self),(bo 3 0 c.length false),(im (a.Calls.map ah) false),(bo 4 0 d.length false)]) (.s [(ef a c d),bx (ae e),(ef a c d),az.row false 3 (c.map ae),az.row false 1 (d.map cB)] (.s (ag [(iA a.Self),(bo 3 0 c.length false),(im (a.Calls.map ah) false),(bo 4 0 d.length false)]) (.lv (by show aK [(ef a c d),bx (ae e),(ef a c d),az.row false 3 (c.map ae),az.row false 1 (d.map cB)] (ag [(iA a.Self),(bo 3 0 c.length false),(im (a.Calls.map ah) false),(bo 4 0 d.length false)])=_; first | (simp only[bJ,dg,aK,aO (H:=[(ef a c d),bx (ae e),(ef a c d),az.row false 3 (c.map ae),az.row false 1 (d.map cB)]) (b:=3) (es:=3) (wr:=false) (l:=c) bM rfl,aO (H:=[(ef a c d),bx (ae e),(ef a c d),az.row false 3 (c.map ae),az.row false 1 (d.map cB)]) (b:=4) (es:=1) (wr:=false) (l:=d) ft rfl]; done) | (simp only[bJ,dG,aK,aO (H:=[(ef a c d),bx (ae e),(ef a c d),az.row false 3 (c.map ae),az.row false 1 (d.map cB)]) (b:=3) (es:=3) (wr:=false) (l:=c) bM rfl,aO (H:=[(ef a c d),bx (ae e),(ef a c d),az.row false 3 (c.map ae),az.row false 1 (d.map cB)]) (b:=4) (es:=1) (wr:=false) (l:=d) ft rfl]; first | done | rfl)))))
def Lm (a:af) (b:al):Option af:=Pa aA a b
def D2 (C:OT):Prop:=∀ (a:af) (b:al),C 76 [(ag (aa a)),(ag (ae b))]=(Lm a b).map fun y=>(ag (aa y))
def OW (n:Nat) (a:af) (b:Int) (a2:Int):Option (af×Int):=
 (J3 a).bind fun c=>bif (c != 0) then (some (((af.mk 0 ([]) ([]) ([])),c))) else ((bt a.Leases (wr .i64 (((a.Leases.length:Int)) - 1))).bind fun d=>(bif (d.Holder != a.Self) then (some true) else ((Gz ((al.mk ((a.Leases.length:Int)) b a2)) ((a.Leases.length:Int)) d.Until).bind fun e=>some (!e))).bind fun f=>bif f then (some (((af.mk 0 ([]) ([]) ([])),530))) else (bif (((a.Leases.length:Int))==256) then (some (((af.mk 0 ([]) ([]) ([])),2))) else ((Lm a ((al.mk ((a.Leases.length:Int)) b a2))).bind fun g=>some ((g,0)))))
theorem Vv (C:OT) (n:Nat) (q:xW C) (r:BA C) (u:D2 C) (a:af) (b:Int) (a2:Int):TJ C n 57 [(ag (aa a)),(iA b),(iA a2)] (OW n a b a2) (fun y=>(tp [(ag (aa y.1)),(iA y.2)])):=by
 refine .lp (Wx ..) ?_
 unfold OW
 refine .s ((pt 0 0),[bx (aa a)]) (.s ((pt 1 0),[bx (aa a),bx [(iA 0),XU,XU,XU]]) (.s (ag (aa a)) (.bd (g:=fun (y:Int)=>(iA y)) (by simp only[bJ,dg]; exact r a) fun w=>.st (bf ..) (.bX ?_ ?_))))
 ·exact .s cg (.s [bx (aa a),bx [(iA 0),XU,XU,XU]] (.s cg (.lv r9)))
 refine .s2 (im (a.Leases.map ae) false) (.s2 (im (a.Leases.map ae) false) (.st (dr (e:=50)) (.st (du ..) (.bd (fa (e:=50) (es:=3)) fun c=>.s (ag (ae c)) (.sq (pt 2 0) (.s [bx (aa a),bx [(iA 0),XU,XU,XU],bx (ae c)] (.s2 (im (a.Leases.map ae) false) (.st (dr (e:=50)) (.s (ag [(iA ((a.Leases.length:Int))),(iA b),(iA a2)]) (.sq (pt 3 0) (.s [bx (aa a),bx [(iA 0),XU,XU,XU],bx (ae c),bx [(iA ((a.Leases.length:Int))),(iA b),(iA a2)]] (.s2 (iA c.Holder) (.s2 (iA a.Self) (.st (bf ..) (.bg (fun t (y:Bool)=>∃ d f h i j k l o:A,t=[(bA y),d,f,h,i,j,k,l,o]) ?_ ?_)))))))))))))))
 ·refine .bi ?_ ?_
  ·exact .lg ⟨_,_,_,_,_,_,_,_,rfl⟩
  exact .s (ag [(iA ((a.Leases.length:Int))),(iA b),(iA a2)]) (.s (pt 0 1) (.s (im (a.Leases.map ae) false) (.st (dr (e:=50)) (.s (pt 2 2) (.s (iA c.Until) (.bd (q ((al.mk ((a.Leases.length:Int)) b a2)) ((a.Leases.length:Int)) c.Until) fun v=>.s (bA (!v)) (.lg ⟨_,_,_,_,_,_,_,_,rfl⟩)))))))
 rintro _ x ⟨d,f,h,i,j,k,l,o,rfl⟩
 refine .u4 (.u4 (.uc (.bX ?_ ?_)))
 ·exact .s cg (.s [bx (aa a),bx [(iA 0),XU,XU,XU],bx (ae c),bx [(iA ((a.Leases.length:Int))),(iA b),(iA a2)]] (.s cg (.lv r9)))
 refine .s2 (im (a.Leases.map ae) false) (.st (dr (e:=50)) (.st (aV ..) (.bX ?_ ?_)))
 ·exact .s cg (.s [bx (aa a),bx [(iA 0),XU,XU,XU],bx (ae c),bx [(iA ((a.Leases.length:Int))),(iA b),(iA a2)]] (.s cg (.lv r9)))
 exact .s (ag (aa a)) (.s (ag [(iA ((a.Leases.length:Int))),(iA b),(iA a2)]) (.bd (g:=fun (y:af)=>(ag (aa y))) (by simp only[bJ,dg]; exact u a ((al.mk ((a.Leases.length:Int)) b a2))) fun p=>.s [bx (aa a),bx (aa p),bx (ae c),bx [(iA ((a.Leases.length:Int))),(iA b),(iA a2)]] (.s (ag (aa p)) (.lv r9))))
def LG (a:af) (b:Int) (a2:Int):Option (af×Int):=OW aA a b a2
def IY (C:OT):Prop:=∀ (a:af) (b:Int) (a2:Int),C 57 [(ag (aa a)),(iA b),(iA a2)]=(LG a b a2).map fun y=>(tp [(ag (aa y.1)),(iA y.2)])
def ku (n:Nat) (b:(List al)) (a:al):Nat->Int->Option ((Bool)⊕(Unit))
 | 0,_=>none
 | m+1,c=>bif (decide (c<((b.length:Int)))) then ((bt b c).bind fun d=>bif (((d.No==a.No)&&((d.Holder==a.Holder)&&(d.Until==a.Until)))) then (some ((Sum.inl true))) else (ku n b a m (wr .i64 (c+1)))) else (some ((Sum.inr (()))))
theorem Ex {w24:A} (h:(List al)) (a:al) {K:((Bool)⊕(Unit))->Option γ} (j:∀ (i:Bool) (c:A) (d:A) (f:A) (q0:az),J φ (kr (St.mk [(0,c),(3,d),(4,(bA i)),(5,f)] [q0])) kL (K (Sum.inl i)) some) (k:∀ (c:A) (d:A) (l:A) (f:A) (q0:az),J φ (kx 0 (St.mk [(0,c),(3,d),(4,l),(5,f)] [q0])) kL (K (Sum.inr (()))) some) :
  ∀ (m:Nat) (g:Int),J φ (aH (cx C) (ec C n 8) (ey C n 8) (n+8) 77 0 0 1 kx kg kr kp m (St.mk [(0,(im (h.map ae) false)),(3,(pt 0 0)),(4,w24),(5,(iA g))] [bx (ae a)])) kL (ku n h a m g) K:=by
  refine nI (fun _=>.nn) fun m ih g=>.lp (MN ..) ?_
  unfold ku
  refine .st (dr (e:=50)) (.st (aW ..) (.bX ?_ ?_))
  ·refine .bd (fa (e:=50) (es:=3)) fun b=>.s (ag (ae b)) (.s (ag (ae a)) (.s (bA (((b.No==a.No)&&((b.Holder==a.Holder)&&(b.Until==a.Until))))) (.bX ?_ ?_)))
   ·exact .ex (j _ _ _ _ _)
   refine .st (aM ..) (.s [bx (ae a)] (.cT j9 ?_))
   exact ih _
  exact .ex (k _ _ _ _ _)
def Pb (n:Nat) (a:(List al)) (b:al):Option Bool:=
 (ku n a b (n+8) 0).bind fun c=>match c with | (Sum.inl d)=>some d | (Sum.inr _)=>some false
theorem VK (C:OT) (n:Nat) (b:(List al)) (a:al):TJ C n 77 [(im (b.map ae) false),(ag (ae a))] (Pb n b a) (fun y=>(bA y)):=by
 refine .lp (WN ..) ?_
 unfold Pb
 refine .s ((pt 0 0),[bx (ae a)]) (.as (Ex C n _ _ _ _ b a ?_ ?_ _ 0))
 ·intro c d e f w36
  exact .un rfl (.lv rfl)
 ·intro g h i j Om
  exact .un rfl (.cT j9 (.lv rfl))
def LQ (a:(List al)) (b:al):Option Bool:=Pb aA a b
def I9 (C:OT):Prop:=∀ (a:(List al)) (b:al),C 77 [(im (a.map ae) false),(ag (ae b))]=(LQ a b).map fun y=>(bA y)
def OX (n:Nat) (a:af) (b:al):Option (af×Int):=
 (J3 a).bind fun c=>bif (c != 0) then (some (((af.mk 0 ([]) ([]) ([])),c))) else ((LQ a.Leases b).bind fun e=>bif e then (some ((a,0))) else ((bt a.Leases (wr .i64 (((a.Leases.length:Int)) - 1))).bind fun d=>(bif (d.Holder==a.Self) then (some true) else ((Gz b ((a.Leases.length:Int)) d.Until).bind fun f=>some (!f))).bind fun g=>bif g then (some (((af.mk 0 ([]) ([]) ([])),530))) else (bif (((a.Leases.length:Int))==256) then (some (((af.mk 0 ([]) ([]) ([])),2))) else ((Lm a b).bind fun h=>some ((h,0))))))
theorem Vw (C:OT) (n:Nat) (q:xW C) (r:BA C) (u:D2 C) (v:I9 C) (a:af) (b:al):TJ C n 58 [(ag (aa a)),(ag (ae b))] (OX n a b) (fun y=>(tp [(ag (aa y.1)),(iA y.2)])):=by
 refine .lp (Wy ..) ?_
 unfold OX
 refine .s ((pt 0 0),[bx (aa a)]) (.sq (pt 1 0) (.s ((pt 2 0),[bx (aa a),bx (ae b),bx [(iA 0),XU,XU,XU]]) (.s (ag (aa a)) (.bd (g:=fun (y:Int)=>(iA y)) (by simp only[bJ,dg]; exact r a) fun x=>.st (bf ..) (.bX ?_ ?_)))))
 ·exact .s cg (.s [bx (aa a),bx (ae b),bx [(iA 0),XU,XU,XU]] (.s cg (.lv r9)))
 refine .s2 (im (a.Leases.map ae) false) (.s (ag (ae b)) (.bd (g:=fun (y:Bool)=>(bA y)) (by simp only[bJ,dg]; exact v a.Leases b) fun z=>.bX ?_ ?_))
 ·exact .s (ag (aa a)) (.s [bx (aa a),bx (ae b),bx (aa a)] (.s (ag (aa a)) (.lv r9)))
 refine .s2 (im (a.Leases.map ae) false) (.s2 (im (a.Leases.map ae) false) (.st (dr (e:=50)) (.st (du ..) (.bd (fa (e:=50) (es:=3)) fun c=>.s (ag (ae c)) (.sq (pt 3 0) (.s [bx (aa a),bx (ae b),bx [(iA 0),XU,XU,XU],bx (ae c)] (.s2 (iA c.Holder) (.s2 (iA a.Self) (.st (aV ..) (.bg (fun t (y:Bool)=>∃ d f h i j k l o:A,t=[(bA y),d,f,h,i,j,k,l,o]) ?_ ?_))))))))))
 ·refine .bi ?_ ?_
  ·exact .lg ⟨_,_,_,_,_,_,_,_,rfl⟩
  exact .s (ag (ae b)) (.s (pt 0 1) (.s (im (a.Leases.map ae) false) (.st (dr (e:=50)) (.s (pt 3 2) (.s (iA c.Until) (.bd (q b ((a.Leases.length:Int)) c.Until) fun w=>.s (bA (!w)) (.lg ⟨_,_,_,_,_,_,_,_,rfl⟩)))))))
 rintro _ y8 ⟨d,f,h,i,j,k,l,o,rfl⟩
 refine .u4 (.u4 (.uc (.bX ?_ ?_)))
 ·exact .s cg (.s [bx (aa a),bx (ae b),bx [(iA 0),XU,XU,XU],bx (ae c)] (.s cg (.lv r9)))
 refine .s2 (im (a.Leases.map ae) false) (.st (dr (e:=50)) (.st (aV ..) (.bX ?_ ?_)))
 ·exact .s cg (.s [bx (aa a),bx (ae b),bx [(iA 0),XU,XU,XU],bx (ae c)] (.s cg (.lv r9)))
 exact .s (ag (aa a)) (.s (ag (ae b)) (.bd (g:=fun (y:af)=>(ag (aa y))) (by simp only[bJ,dg]; exact u a b) fun p=>.s [bx (aa a),bx (ae b),bx (aa p),bx (ae c)] (.s (ag (aa p)) (.lv r9))))
def LH (a:af) (b:al):Option (af×Int):=OX aA a b
def IZ (C:OT):Prop:=∀ (a:af) (b:al),C 58 [(ag (aa a)),(ag (ae b))]=(LH a b).map fun y=>(tp [(ag (aa y.1)),(iA y.2)])
def jI (a:af) (b:(List av)) (c:(List Bool)):az:=bx [(iA a.Self),(im (a.Leases.map ae) false),(bo 2 0 b.length false),(bo 3 0 c.length false)]
def OY (n:Nat) (a:af) (b:Int) (a2:Int):Option (af×Int):=
 (J3 a).bind fun c=>bif (c != 0) then (some (((af.mk 0 ([]) ([]) ([])),c))) else ((J2 a.Leases b).bind fun d=>(bif (decide (d<0)) then (some true) else ((xM a2 1 8).bind fun e=>some (!e))).bind fun f=>bif f then (some (((af.mk 0 ([]) ([]) ([])),530))) else ((bt a.Leases d).bind fun g=>(bif (g.Holder != a.Self) then ((some (())).bind fun s=>some true) else (bif (decide (0<((a.Calls.length:Int)))) then ((bt a.Calls (wr .i64 (((a.Calls.length:Int)) - 1))).bind fun h=>(some (decide (b<=h.Bar))).bind fun i=>(some i).bind fun j=>some j) else ((some (())).bind fun t=>(some false).bind fun k=>some k))).bind fun l=>bif l then (some (((af.mk 0 ([]) ([]) ([])),530))) else ((cU 16 ([]) a.Calls).bind fun o=>(cU 16 o ([(av.mk b a2)])).bind fun p=>(cU 1 ([]) a.Order).bind fun q=>(cU 1 q ([false])).bind fun r=>some (((af.mk a.Self a.Leases p r),0)))))
theorem Vx (C:OT) (n:Nat) (u:pg C) (w:Bz C) (x:BA C) (a:af) (h:Int) (a2:Int):TJ C n 59 [(ag (aa a)),(iA h),(iA a2)] (OY n a h a2) (fun y=>(tp [(ag (aa y.1)),(iA y.2)])):=by
 refine .lp (Wz ..) ?_
 unfold OY
 refine .s ((pt 0 0),[bx (aa a)]) (.s ((pt 1 0),[bx (aa a),bx [(iA 0),XU,XU,XU]]) (.s (ag (aa a)) (.bd (g:=fun (y:Int)=>(iA y)) (by simp only[bJ,dg]; exact x a) fun y1=>.st (bf ..) (.bX ?_ ?_))))
 ·exact .s cg (.s [bx (aa a),bx [(iA 0),XU,XU,XU]] (.s cg (.lv r9)))
 refine .s2 (im (a.Leases.map ae) false) (.bd (g:=fun (y:Int)=>(iA y)) (by simp only[bJ,dg]; exact w a.Leases h) fun y3=>.st (aW ..) (.bg (fun t (y:Bool)=>∃ o p q:A,t=[(bA y),o,p,q]) ?_ ?_))
 ·refine .bi ?_ ?_
  ·exact .lg ⟨_,_,_,rfl⟩
  exact .bd (u a2 1 8) fun z=>.s (bA (!z)) (.lg ⟨_,_,_,rfl⟩)
 rintro _ y6 ⟨o,p,q,rfl⟩
 refine .u4 (.bX ?_ ?_)
 ·exact .s cg (.s [bx (aa a),bx [(iA 0),XU,XU,XU]] (.s cg (.lv r9)))
 refine .s2 (im (a.Leases.map ae) false) (.bd (fa (e:=50) (es:=3)) fun a3=>.s2 (iA a3.Holder) (.s2 (iA a.Self) (.st (bf ..) (.K6 (.bg (fun t (y:Bool)=>∃ r:A,t=[(bA y),r]) ?_ ?_)))))
 ·refine .E9 (fun j=>?_) (fun j=>?_)
  ·refine .bb (.s (pt 0 2) (.s (im (a.Calls.map ah) false) (.st (dr (e:=54)) (.st (cF ..) (.AV (fun i=>?_) (fun i=>?_))))))
   ·refine .bb (.s (pt 0 2) (.s (im (a.Calls.map ah) false) (.s (pt 0 2) (.s (im (a.Calls.map ah) false) (.st (dr (e:=54)) (.st (du ..) (.bd (fa (e:=54) (es:=2)) fun k=>.s (A.ip [(iA k.Bar),(iA k.Program)]) (.s (iA k.Bar) (.cr (.u4 (.u4 (.uc (.uc (.cr (.u4 (.u4 (.u4 (.uc (.uc (.uc (.bg (fun t (y:Bool) =>  t=[(bA y)]) ?_ ?_)))))))))))))))))))))
    ·exact .lp (yZ i) (.st (eP ..) (.lg rfl))
    rintro _ a9 rfl
    refine .uc (.q9 j (.bg (fun t (y:Bool) =>  t=(bA y)) ?_ ?_))
    ·exact .ra i (.lg rfl)
    rintro _ ab rfl
    exact .lg ⟨_,rfl⟩
   refine .bb (.cr (.u4 (.u4 (.uc (.uc (.cr (.u4 (.u4 (.u4 (.uc (.uc (.uc (.bg (fun t (y:Unit) =>  t=[(A.v undef)]) ?_ ?_)))))))))))))
   ·exact .lp (yY i) (.lg rfl)
   rintro _ ad rfl
   refine .uc (.q9 j (.bg (fun t (y:Bool) =>  t=(bA y)) ?_ ?_))
   ·exact .q9 i (.lg rfl)
   rintro _ ai rfl
   exact .lg ⟨_,rfl⟩
  refine .bb (.cr (.u4 (.u4 (.u4 (.uc (.uc (.uc (.bg (fun t (y:Unit) =>  t=[(A.v undef)]) ?_ ?_))))))))
  ·exact .gU (.lg rfl)
  rintro _ aj rfl
  exact .uc (.ra j (.lg ⟨_,rfl⟩))
 rintro _ ak ⟨r,rfl⟩
 refine .uc (.uc (.bX ?_ ?_))
 ·exact .s cg (.s [bx (aa a),bx [(iA 0),XU,XU,XU]] (.s cg (.lv r9)))
 exact .s XU (.s2 (im (a.Calls.map ah) false) (.bd (g:=fun (y:List av)=>((bo 2 0 y.length false),[bx (aa a),bx [(iA 0),XU,XU,XU],az.row false 2 (y.map ah)])) (fz mR (l:=[]) (l2:=a.Calls) (bk ..)) fun a4=>.s (ag [(iA h),(iA a2)]) (.s (im [[(iA h),(iA a2)]] true) (.bd (g:=fun (y:List av)=>((bo 2 0 y.length false),[bx (aa a),bx [(iA 0),XU,XU,XU],az.row false 2 (y.map ah)])) (cp mR (l:=a4) (l2:=[(av.mk h a2)]) (b:=2) rfl (by decide) (bk (f:=ah) ([(av.mk h a2)]:List av) _ _)) fun c=>.s (pt 0 2) (.s [bx [(iA a.Self),(im (a.Leases.map ae) false),(bo 2 0 c.length false),(im (a.Order.map cB) false)],bx [(iA 0),XU,XU,XU],az.row false 2 (c.map ah)] (.s XU (.s2 (im (a.Order.map cB) false) (.bd (g:=fun (y:List Bool)=>((bo 3 0 y.length false),[bx [(iA a.Self),(im (a.Leases.map ae) false),(bo 2 0 c.length false),(im (a.Order.map cB) false)],bx [(iA 0),XU,XU,XU],az.row false 2 (c.map ah),az.row false 1 (y.map cB)])) (fz k9 (l:=[]) (l2:=a.Order) (bk ..)) fun a5=>.s (im [[(bA false)]] true) (.bd (g:=fun (y:List Bool)=>((bo 3 0 y.length false),[bx [(iA a.Self),(im (a.Leases.map ae) false),(bo 2 0 c.length false),(im (a.Order.map cB) false)],bx [(iA 0),XU,XU,XU],az.row false 2 (c.map ah),az.row false 1 (y.map cB)])) (cp k9 (l:=a5) (l2:=[false]) (b:=3) rfl (by decide) (bk (f:=cB) ([false]:List Bool) _ _)) fun d=>.s (pt 0 3) (.sh (.s (ag [(iA a.Self),(im (a.Leases.map ae) false),(bo 2 0 c.length false),(bo 3 0 d.length false)]) (.s [(jI a c d),(jI a c d),az.row false 2 (c.map ah),az.row false 1 (d.map cB)] (.s (ag [(iA a.Self),(im (a.Leases.map ae) false),(bo 2 0 c.length false),(bo 3 0 d.length false)]) (.lv (by show aK [(jI a c d),(jI a c d),az.row false 2 (c.map ah),az.row false 1 (d.map cB)] (tp [(ag [(iA a.Self),(im (a.Leases.map ae) false),(bo 2 0 c.length false),(bo 3 0 d.length false)]),(iA 0)])=_; first | (simp only[bJ,dg,aK,aO (H:=[(jI a c d),(jI a c d),az.row false 2 (c.map ah),az.row false 1 (d.map cB)]) (b:=2) (es:=2) (wr:=false) (l:=c) bS rfl,aO (H:=[(jI a c d),(jI a c d),az.row false 2 (c.map ah),az.row false 1 (d.map cB)]) (b:=3) (es:=1) (wr:=false) (l:=d) ft rfl]; done) | (simp only[bJ,dG,aK,aO (H:=[(jI a c d),(jI a c d),az.row false 2 (c.map ah),az.row false 1 (d.map cB)]) (b:=2) (es:=2) (wr:=false) (l:=c) bS rfl,aO (H:=[(jI a c d),(jI a c d),az.row false 2 (c.map ah),az.row false 1 (d.map cB)]) (b:=3) (es:=1) (wr:=false) (l:=d) ft rfl]; first | done | rfl))))))))))))))))
def LI (a:af) (b:Int) (a2:Int):Option (af×Int):=OY aA a b a2
def I0 (C:OT):Prop:=∀ (a:af) (b:Int) (a2:Int),C 59 [(ag (aa a)),(iA b),(iA a2)]=(LI a b a2).map fun y=>(tp [(ag (aa y.1)),(iA y.2)])
def QI (n:Nat) (a:Int):Option ak:=
 some ((ak.mk 1 a rb ([])))
theorem VS (C:OT) (n:Nat) (a:Int):TJ C n 90 [(iA a)] (QI n a) (fun y=>(ag (ai y))):=by
 refine .lp (WZ ..) ?_
 unfold QI
 exact .sq (pt 0 0) (.s (ag [(iA 1),(iA a),se,XU]) (.s [bx [(iA 1),(iA a),se,XU]] (.s (ag [(iA 1),(iA a),se,XU]) (.lv r9))))
def Po (a:Int):Option ak:=QI aA a
def D6 (C:OT):Prop:=∀ (a:Int),C 90 [(iA a)]=(Po a).map fun y=>(ag (ai y))
def n7 (a:(List ak)):az:=bx [(iA 3),(iA 0),se,(bo 2 0 a.length false)]
def ky (n:Nat) (a:(List Int)) (d:Int) (e:Int) (f:ByteArray):Nat->Int->(List ak)->Option ((List ak))
 | 0,_,_=>none
 | m+1,b,c=>bif (decide (b<((a.length:Int)))) then ((bt a b).bind fun g=>(Po g).bind fun h=>(cU 56 c ([h])).bind fun i=>ky n a d e f m (wr .i64 (b+1)) i) else (some c)
theorem Ez (r:D6 C) {w50:A} {w51:az} (p:(List Int)) (c:Int) (d:Int) (h:ByteArray) {K:((List ak))->Option γ} (t:∀ (k:(List ak)) (u:A) (v:A),J φ (kx 0 (St.mk [(0,u),(2,w50),(3,(pt 1 0)),(4,v)] [w51,bx [(iA c),(iA d),(sA h),(bo 2 0 k.length false)],az.row false 4 (k.map ax)])) kL (K k) some) :
  ∀ (m:Nat) (o:Int) (a:(List ak)),J φ (aH (cx C) (ec C n 8) (ey C n 8) (n+8) 79 0 0 3 kx kg kr kp m (St.mk [(0,(im (p.map (cI .i64)) false)),(2,w50),(3,(pt 1 0)),(4,(iA o))] [w51,bx [(iA c),(iA d),(sA h),(bo 2 0 a.length false)],az.row false 4 (a.map ax)])) kL (ky n p c d h m o a) K:=by
  refine nI (fun _ _=>.nn) fun m ih o a=>.lp (MP ..) ?_
  unfold ky
  refine .st (dr (e:=3)) (.st (aW ..) (.bX ?_ ?_))
  ·refine .s2 (bo 2 0 a.length false) (.bd (fa (e:=3) (es:=1)) fun q=>.s (iA q) (.bd (r q) fun i=>.s (im [[(iA i.Kind),(iA i.N),(sA i.S),(im (i.L.map ax) false)]] true) (.bd (g:=fun (y:List ak)=>((bo 2 0 y.length false),[w51,bx [(iA c),(iA d),(sA h),(bo 2 0 a.length false)],az.row false 4 (y.map ax)])) (cp oM (l:=a) (l2:=[i]) (b:=2) rfl (by decide) (sD (f:=ax) (l:=([i]:List ak)) XO)) fun j=>.s (pt 1 3) (.s [w51,bx [(iA c),(iA d),(sA h),(bo 2 0 j.length false)],az.row false 4 (j.map ax)] (.st (aM ..) (.s [w51,bx [(iA c),(iA d),(sA h),(bo 2 0 j.length false)],az.row false 4 (j.map ax)] (.cT j9 ?_)))))))
   exact ih _ _
  exact .ex (t _ _ _)
def Pd (n:Nat) (a:(List Int)):Option ak:=
 (ky n a 3 0 rb (n+8) 0 (([]:List ak))).bind fun Pz=>match Pz with | b=>some ((ak.mk 3 0 rb b))
theorem VM (C:OT) (n:Nat) (d:D6 C) (c:(List Int)):TJ C n 79 [(im (c.map (cI .i64)) false)] (Pd n c) (fun y=>(ag (ai y))):=by
 refine .lp (WQ ..) ?_
 unfold Pd
 refine .sq (pt 0 0) (.s (ag [(iA 3),(iA 0),se,XU]) (.sq (pt 1 0) (.s [bx [(iA 0),(iA 0),se,XU],bx [(iA 3),(iA 0),se,XU]] (.as (Ez C n _ _ _ _ d c 3 0 rb ?_ _ 0 (([]:List ak)))))))
 ·intro a e f
  exact .un rfl (.cT j9 (.s (ag [(iA 3),(iA 0),se,(bo 2 0 a.length false)]) (.s [(n7 a),(n7 a),az.row false 4 (a.map ax)] (.s (ag [(iA 3),(iA 0),se,(bo 2 0 a.length false)]) (.lv (by show aK [(n7 a),(n7 a),az.row false 4 (a.map ax)] (ag [(iA 3),(iA 0),se,(bo 2 0 a.length false)])=_; first | (simp only[bJ,dg,aK,aO (H:=[(n7 a),(n7 a),az.row false 4 (a.map ax)]) (b:=2) (es:=4) (wr:=false) (l:=a) cH rfl]; done) | (simp only[bJ,dG,aK,aO (H:=[(n7 a),(n7 a),az.row false 4 (a.map ax)]) (b:=2) (es:=4) (wr:=false) (l:=a) cH rfl]; first | done | rfl)))))))
def Ln (a:(List Int)):Option ak:=Pd aA a
def D4 (C:OT):Prop:=∀ (a:(List Int)),C 79 [(im (a.map (cI .i64)) false)]=(Ln a).map fun y=>(ag (ai y))
def wx (C:OT) (self:ak->Option Bool):Prop:=∀ (a:ak),C 104 [(ag (ai a))]=(self a).map fun y=>(bA y)
def gV (self:ak->Option Bool) (n:Nat) (a:ak):Nat->Int->Option ((Bool)⊕(Unit))
 | 0,_=>none
 | m+1,b=>bif (decide (b<((a.L.length:Int)))) then ((bt a.L b).bind fun c=>(self c).bind fun d=>bif (!d) then (some ((Sum.inl false))) else (gV self n a m (wr .i64 (b+1)))) else (some ((Sum.inr (()))))
theorem Ah (self:ak->Option Bool) (hS:wx C self) {Om:A} (a:ak) {K:((Bool)⊕(Unit))->Option γ} (h:∀ (f:Bool) (i:A) (b:A) (q0:az),J φ (kr (St.mk [(1,i),(2,(bA f)),(3,b)] [q0])) kL (K (Sum.inl f)) some) (j:∀ (s2:A) (b:A),J φ (kx 1 (St.mk [(1,(pt 0 0)),(2,s2),(3,b)] [bx (ai a)])) kL (K (Sum.inr (()))) some) :
  ∀ (m:Nat) (c:Int),J φ (aH (cx C) (ec C n 8) (ey C n 8) (n+8) 104 0 0 1 kx kg kr kp m (St.mk [(1,(pt 0 0)),(2,Om),(3,(iA c))] [bx (ai a)])) kL (gV self n a m c) K:=by
  refine nI (fun _=>.nn) fun m ih c=>.lp (Kl ..) ?_
  unfold gV
  refine .s2 (im (a.L.map ax) false) (.st (dr (e:=102)) (.st (aW ..) (.bX ?_ ?_)))
  ·refine .s2 (im (a.L.map ax) false) (.bd ((fa (e:=102) (es:=4)).trans (fA _)) fun d=>.s (ag (ai d)) (.bd (g:=fun (y:Bool)=>(bA y)) (by show C 104 [snap _ (ag (ai d))]=_; simp only[bJ,dg]; exact hS d) fun k=>.s (bA (!k)) (.bX ?_ ?_)))
   ·exact .ex (h _ _ _ _)
   refine .st (aM ..) (.s [bx (ai a)] (.cT j9 ?_))
   exact ih _
  exact .ex (j _ _)
def DK (self:ak->Option Bool) (n:Nat) (a:ak):Option Bool:=
 bif (a.Kind==1) then ((bif (lI a.S ((ByteArray.mk #[]))) then (some (((a.L.length:Int))==0)) else (some false)).bind fun b=>some b) else (bif (a.Kind==2) then ((bif (a.N==0) then (some (((a.L.length:Int))==0)) else (some false)).bind fun c=>some c) else (bif (a.Kind==3) then ((gV self n a (n+8) 0).bind fun d=>match d with | (Sum.inl e)=>some e | (Sum.inr _)=>(bif (a.N==0) then (some (lI a.S ((ByteArray.mk #[])))) else (some false)).bind fun f=>some f) else (some false)))
theorem QL (C:OT) (n:Nat) (self:ak->Option Bool) (hS:wx C self) (a:ak):TJ C n 104 [(ag (ai a))] (DK self n a) (fun y=>(bA y)):=by
 refine .lp (Q0 ..) ?_
 unfold DK
 refine .s ((pt 0 0),[bx (ai a)]) (.s2 (iA a.Kind) (.st (aV ..) (.bX ?_ ?_)))
 ·refine .s2 (sA a.S) (.st (mN ..) (.bg (fun t (y:Bool)=>∃ b c d f:A,t=[(bA y),b,c,d,f]) ?_ ?_))
  ·refine .bi ?_ ?_
   ·exact .s (pt 0 3) (.s (im (a.L.map ax) false) (.st (dr (e:=102)) (.st (aV ..) (.lg ⟨_,_,_,_,rfl⟩))))
   exact .lg ⟨_,_,_,_,rfl⟩
  rintro _ p ⟨b,c,d,f,rfl⟩
  exact .u4 (.uc (.lv rfl))
 refine .st (aV ..) (.bX ?_ ?_)
 ·refine .s2 (iA a.N) (.st (aV ..) (.bg (fun t (y:Bool)=>∃ g h i j:A,t=[(bA y),g,h,i,j]) ?_ ?_))
  ·refine .bi ?_ ?_
   ·exact .s (pt 0 3) (.s (im (a.L.map ax) false) (.st (dr (e:=102)) (.st (aV ..) (.lg ⟨_,_,_,_,rfl⟩))))
   exact .lg ⟨_,_,_,_,rfl⟩
  rintro _ q ⟨g,h,i,j,rfl⟩
  exact .u4 (.uc (.lv rfl))
 refine .st (aV ..) (.bX ?_ ?_)
 ·refine .as (Ah C n _ _ _ _ self hS a ?_ ?_ _ 0)
  ·intro r u v w52
   exact .un rfl (.lv rfl)
  ·intro w x
   refine .un rfl (.cT j9 (.s2 (iA a.N) (.st (aV ..) (.bg (fun t (y:Bool)=>∃ k l o:A,t=[(bA y),k,l,o]) ?_ ?_))))
   ·refine .bi ?_ ?_
    ·exact .s (pt 0 2) (.s (sA a.S) (.st (mN ..) (.lg ⟨_,_,_,rfl⟩)))
    exact .lg ⟨_,_,_,rfl⟩
   rintro _ z ⟨k,l,o,rfl⟩
   exact .u4 (.lv rfl)
 exact .lv rfl
def xX:Nat->ak->Option Bool
 | 0=>fun _=>none
 | q+1=>fun a0=>DK (xX q) aA a0
def Gw (a:ak):Option Bool:=xX aA a
def DR (C:OT):Prop:=∀ (a:ak),C 104 [(ag (ai a))]=(Gw a).map fun y=>(bA y)
def wy (C:OT) (self:ak->Option Int):Prop:=∀ (a:ak),C 105 [(ag (ai a))]=(self a).map fun y=>(iA y)
def gW (self:ak->Option Int) (n:Nat) (a:ak):Nat->Int->Int->Option (Int)
 | 0,_,_=>none
 | m+1,b,c=>bif (decide (c<((a.L.length:Int)))) then ((bt a.L c).bind fun e=>(self e).bind fun d=>gW self n a m ((if b<d then d else b)) (wr .i64 (c+1))) else (some b)
theorem Ai (self:ak->Option Int) (hS:wy C self) {w22:A} (a:ak) {K:(Int)->Option γ} (i:∀ (f:Int) (j:A) (s2:A) (k:A) (q0:az),J φ (kx 0 (St.mk [(1,j),(2,s2),(3,(iA f)),(4,k)] [q0])) kL (K f) some) :
  ∀ (m:Nat) (b:Int) (c:Int),J φ (aH (cx C) (ec C n 8) (ey C n 8) (n+8) 105 0 0 1 kx kg kr kp m (St.mk [(1,(pt 0 0)),(2,w22),(3,(iA b)),(4,(iA c))] [bx (ai a)])) kL (gW self n a m b c) K:=by
  refine nI (fun _ _=>.nn) fun m ih b c=>.lp (Km ..) ?_
  unfold gW
  refine .s2 (im (a.L.map ax) false) (.st (dr (e:=102)) (.st (aW ..) (.bX ?_ ?_)))
  ·refine .s2 (im (a.L.map ax) false) (.bd ((fa (e:=102) (es:=4)).trans (fA _)) fun d=>.s (ag (ai d)) (.bd (g:=fun (y:Int)=>(iA y)) (by show C 105 [snap _ (ag (ai d))]=_; simp only[bJ,dg]; exact hS d) fun h=>.s (iA ((if b<h then h else b))) (.st (aM ..) (.s [bx (ai a)] (.cT j9 ?_)))))
   exact ih _ _
  exact .ex (i _ _ _ _ _)
def DL (self:ak->Option Int) (n:Nat) (a:ak):Option Int:=
 bif (a.Kind != 3) then (some 0) else ((gW self n a (n+8) 0 0).bind fun b=>match b with | c=>some (wr .i64 (c+1)))
theorem QM (C:OT) (n:Nat) (self:ak->Option Int) (hS:wy C self) (a:ak):TJ C n 105 [(ag (ai a))] (DL self n a) (fun y=>(iA y)):=by
 refine .lp (Q1 ..) ?_
 unfold DL
 refine .s ((pt 0 0),[bx (ai a)]) (.s2 (iA a.Kind) (.st (bf ..) (.bX ?_ ?_)))
 ·exact .lv rfl
 refine .as (Ai C n _ _ _ _ self hS a ?_ _ 0 0)
 ·intro b c d e S6
  exact .un rfl (.cT j9 (.st (aM ..) (.lv rfl)))
def xY:Nat->ak->Option Int
 | 0=>fun _=>none
 | q+1=>fun a0=>DL (xY q) aA a0
def Gx (a:ak):Option Int:=xY aA a
def DS (C:OT):Prop:=∀ (a:ak),C 105 [(ag (ai a))]=(Gx a).map fun y=>(iA y)
def Pj (n:Nat) (a:ak):Option Int:=
 (Gw a).bind fun b=>bif (!b) then (some 1) else ((Gx a).bind fun c=>bif (decide (16<c)) then (some 2) else (some 0))
theorem VT (C:OT) (n:Nat) (b:DR C) (c:DS C) (a:ak):TJ C n 91 [(ag (ai a))] (Pj n a) (fun y=>(iA y)):=by
 refine .lp (W0 ..) ?_
 unfold Pj
 refine .s ((pt 0 0),[bx (ai a)]) (.s (ag (ai a)) (.bd (g:=fun (y:Bool)=>(bA y)) (by simp only[bJ,dg]; exact b a) fun d=>.s (bA (!d)) (.bX ?_ ?_)))
 ·exact .lv rfl
 refine .s (ag (ai a)) (.bd (g:=fun (y:Int)=>(iA y)) (by simp only[bJ,dg]; exact c a) fun e=>.st (cF ..) (.bX ?_ ?_))
 ·exact .lv rfl
 exact .lv rfl
def Lo (a:ak):Option Int:=Pj aA a
def D7 (C:OT):Prop:=∀ (a:ak),C 91 [(ag (ai a))]=(Lo a).map fun y=>(iA y)
def Gv (n:Nat) (a:Int):Option Int:=
 bif (decide (0<=a)) then (some (wr .u64 (2*(wr .u64 (a))))) else (some (wr .u64 ((wr .u64 (2*(wr .u64 (wr .i64 (0 - (wr .i64 (a+1)))))))+1)))
theorem QO (C:OT) (n:Nat) (a:Int):TJ C n 107 [(iA a)] (Gv n a) (fun y=>(A.v (.int .u64 y))):=by
 refine .lp (Q3 ..) ?_
 unfold Gv
 refine .st (fj ..) (.bX ?_ ?_)
 ·exact .st (v:=(A.v (.int .u64 (wr .u64 (a))))) (aU (hs:=by kernel_rfl) (hd:=by kernel_rfl) ..) (.st (qc ..) (.lv rfl))
 exact .st (aM ..) (.s (iA (wr .i64 (0 - (wr .i64 (a+1))))) (.st (v:=(A.v (.int .u64 (wr .u64 (wr .i64 (0 - (wr .i64 (a+1)))))))) (aU (hs:=by kernel_rfl) (hd:=by kernel_rfl) ..) (.st (qc ..) (.st (aM ..) (.lv rfl)))))
def DM (a:Int):Option Int:=Gv aA a
def DU (C:OT):Prop:=∀ (a:Int),C 107 [(iA a)]=(DM a).map fun y=>(A.v (.int .u64 y))
def BC (C:OT) (self:Int->Option (List UInt8)):Prop:=∀ (a:Int),C 106 [(A.v (.int .u64 a))]=(self a).map fun y=>(im (y.map c8) false)
def Ac (self:Int->Option (List UInt8)) (n:Nat) (a:Int):Option (List UInt8):=
 bif (decide (a<128)) then (bif (decide (0<=(wr .u8 (a)))&&decide ((wr .u8 (a))<256)) then (some ([(UInt8.ofNat (Int.toNat (wr .u8 (a))))])) else none) else (bif (decide (0<=(wr .u8 (wr .u64 ((Int.tmod a 128)+128))))&&decide ((wr .u8 (wr .u64 ((Int.tmod a 128)+128)))<256)) then ((self (wr .u64 (Int.tdiv a 128))).bind fun b=>(cU 1 ([(UInt8.ofNat (Int.toNat (wr .u8 (wr .u64 ((Int.tmod a 128)+128)))))]) b).bind fun c=>some c) else none)
theorem QN (C:OT) (n:Nat) (self:Int->Option (List UInt8)) (hS:BC C self) (a:Int):TJ C n 106 [(A.v (.int .u64 a))] (Ac self n a) (fun y=>(im (y.map c8) false)):=by
 refine .lp (Q2 ..) ?_
 unfold Ac
 refine .st (aW ..) (.bX ?_ ?_)
 ·exact .st (v:=(uA (wr .u8 (a)))) (aU (hs:=by kernel_rfl) (hd:=by kernel_rfl) ..) (.gd fun hg=>.st (v:=(im [[(uA (((UInt8.ofNat (Int.toNat (wr .u8 (a)))).toNat:Int)))]] true)) (by rw[fU hg]; kernel_rfl) (.lv r9))
 exact .st (sS (hb:=by decide) ..) (.st (aM ..) (.st (v:=(uA (wr .u8 (wr .u64 ((Int.tmod a 128)+128))))) (aU (hs:=by kernel_rfl) (hd:=by kernel_rfl) ..) (.gd fun hg=>.st (v:=(im [[(uA (((UInt8.ofNat (Int.toNat (wr .u8 (wr .u64 ((Int.tmod a 128)+128))))).toNat:Int)))]] true)) (by rw[fU hg]; kernel_rfl) (.st (sR (hb:=by decide) ..) (.bd (g:=fun (y:(List UInt8))=>(im (y.map c8) false)) (hS (wr .u64 (Int.tdiv a 128))) fun d=>.bd (g:=fun (y:List UInt8)=>((bo 0 0 y.length false),[az.row false 1 (y.map c8)])) (fz dj (l:=[(UInt8.ofNat (Int.toNat (wr .u8 (wr .u64 ((Int.tmod a 128)+128)))))]) (l2:=d) (bk ..)) fun c=>.lv (by show aK [az.row false 1 (c.map c8)] (bo 0 0 c.length false)=_; first | (simp only[bJ,dg,aK,aO (H:=[az.row false 1 (c.map c8)]) (b:=0) (es:=1) (wr:=false) (l:=c) dh rfl]; done) | (simp only[bJ,dG,aK,aO (H:=[az.row false 1 (c.map c8)]) (b:=0) (es:=1) (wr:=false) (l:=c) dh rfl]; first | done | rfl)))))))
def xZ:Nat->Int->Option (List UInt8)
 | 0=>fun _=>none
 | q+1=>fun a0=>Ac (xZ q) aA a0
def CK (a:Int):Option (List UInt8):=xZ aA a
def DT (C:OT):Prop:=∀ (a:Int),C 106 [(A.v (.int .u64 a))]=(CK a).map fun y=>(im (y.map c8) false)
def Ae (C:OT) (self:ak->Option (List UInt8)):Prop:=∀ (a:ak),C 92 [(ag (ai a))]=(self a).map fun y=>(im (y.map c8) false)
def kA (self:ak->Option (List UInt8)) (n:Nat) (a:ak):Nat->Int->(List UInt8)->Option ((List UInt8))
 | 0,_,_=>none
 | m+1,b,c=>bif (decide (b<((a.L.length:Int)))) then ((bt a.L b).bind fun d=>(self d).bind fun e=>(cU 1 c e).bind fun f=>kA self n a m (wr .i64 (b+1)) f) else (some c)
theorem EB (self:ak->Option (List UInt8)) (hS:Ae C self) {w38:A} (a:ak) {K:((List UInt8))->Option γ} (i:∀ (d:(List UInt8)) (j:A) (s2:A) (k:A) (q0:az),J φ (kx 1 (St.mk [(1,j),(2,s2),(3,(bo 1 0 d.length false)),(4,k)] [q0,az.row false 1 (d.map c8)])) kL (K d) some) :
  ∀ (m:Nat) (f:Int) (c:(List UInt8)),J φ (aH (cx C) (ec C n 8) (ey C n 8) (n+8) 92 0 0 2 kx kg kr kp m (St.mk [(1,(pt 0 0)),(2,w38),(3,(bo 1 0 c.length false)),(4,(iA f))] [bx (ai a),az.row false 1 (c.map c8)])) kL (kA self n a m f c) K:=by
  refine nI (fun _ _=>.nn) fun m ih f c=>.lp (MT ..) ?_
  unfold kA
  refine .s2 (im (a.L.map ax) false) (.st (dr (e:=102)) (.st (aW ..) (.bX ?_ ?_)))
  ·refine .s2 (im (a.L.map ax) false) (.bd ((fa (e:=102) (es:=4)).trans (fA _)) fun h=>.s (ag (ai h)) (.bd (g:=fun (y:(List UInt8))=>(im (y.map c8) false)) (by show C 92 [snap _ (ag (ai h))]=_; simp only[bJ,dg,dw (H:=[bx (ai a),az.row false 1 (c.map c8)]) (b:=1) (es:=1) (l:=c) dh rfl]; exact hS h) fun o=>.bd (g:=fun (y:List UInt8)=>((bo 1 0 y.length false),[bx (ai a),az.row false 1 (y.map c8)])) (cp dj (l:=c) (l2:=o) (b:=1) rfl (by decide) (bk ..)) fun p=>.st (aM ..) (.s [bx (ai a),az.row false 1 (p.map c8)] (.cT j9 ?_))))
   exact ih _ _
  exact .ex (i _ _ _ _ _)
def Lz (self:ak->Option (List UInt8)) (n:Nat) (a:ak):Option (List UInt8):=
 bif (a.Kind==1) then ((DM a.N).bind fun b=>(CK b).bind fun c=>(cU 1 ([(1:UInt8)]) c).bind fun d=>some d) else (bif (a.Kind==2) then ((CK (wr .u64 ((a.S.size:Int)))).bind fun e=>(cU 1 ([(2:UInt8)]) e).bind fun f=>(cU 1 f (jw a.S)).bind fun g=>some g) else ((CK (wr .u64 ((a.L.length:Int)))).bind fun h=>(cU 1 ([(3:UInt8)]) h).bind fun i=>(kA self n a (n+8) 0 i).bind fun j=>match j with | k=>some k))
theorem VU (C:OT) (n:Nat) (h:DT C) (i:DU C) (self:ak->Option (List UInt8)) (hS:Ae C self) (a:ak):TJ C n 92 [(ag (ai a))] (Lz self n a) (fun y=>(im (y.map c8) false)):=by
 refine .lp (W4 ..) ?_
 unfold Lz
 refine .s ((pt 0 0),[bx (ai a)]) (.s2 (iA a.Kind) (.st (aV ..) (.bX ?_ ?_)))
 ·exact .s (im [[(uA 1)]] true) (.s2 (iA a.N) (.bd (i a.N) fun j=>.bd (h j) fun k=>.bd (g:=fun (y:List UInt8)=>((bo 1 0 y.length false),[bx (ai a),az.row false 1 (y.map c8)])) (fz dj (l:=[(1:UInt8)]) (l2:=k) (bk ..)) fun c=>.lv (by show aK [bx (ai a),az.row false 1 (c.map c8)] (bo 1 0 c.length false)=_; first | (simp only[bJ,dg,aK,aO (H:=[bx (ai a),az.row false 1 (c.map c8)]) (b:=1) (es:=1) (wr:=false) (l:=c) dh rfl]; done) | (simp only[bJ,dG,aK,aO (H:=[bx (ai a),az.row false 1 (c.map c8)]) (b:=1) (es:=1) (wr:=false) (l:=c) dh rfl]; first | done | rfl))))
 refine .st (aV ..) (.bX ?_ ?_)
 ·exact .s (im [[(uA 2)]] true) (.s2 (sA a.S) (.s (iA ((a.S.size:Int))) (.st (v:=(A.v (.int .u64 (wr .u64 ((a.S.size:Int)))))) (aU (hs:=by kernel_rfl) (hd:=by kernel_rfl) ..) (.bd (h (wr .u64 ((a.S.size:Int)))) fun o=>.bd (g:=fun (y:List UInt8)=>((bo 1 0 y.length false),[bx (ai a),az.row false 1 (y.map c8)])) (fz dj (l:=[(2:UInt8)]) (l2:=o) (bk ..)) fun p=>.cT j9 (.s (pt 0 2) (.cT j9 (.s (sA a.S) (.bd (g:=fun (y:List UInt8)=>((bo 1 0 y.length false),[bx (ai a),az.row false 1 (y.map c8)])) (cp wJ (l:=p) (l2:=jw a.S) (b:=1) rfl (by decide) (sE ..)) fun d=>.lv (by show aK [bx (ai a),az.row false 1 (d.map c8)] (bo 1 0 d.length false)=_; first | (simp only[bJ,dg,aK,aO (H:=[bx (ai a),az.row false 1 (d.map c8)]) (b:=1) (es:=1) (wr:=false) (l:=d) dh rfl]; done) | (simp only[bJ,dG,aK,aO (H:=[bx (ai a),az.row false 1 (d.map c8)]) (b:=1) (es:=1) (wr:=false) (l:=d) dh rfl]; first | done | rfl))))))))))
 refine .s (im [[(uA 3)]] true) (.s2 (im (a.L.map ax) false) (.st (dr (e:=102)) (.st (v:=(A.v (.int .u64 (wr .u64 ((a.L.length:Int)))))) (aU (hs:=by kernel_rfl) (hd:=by kernel_rfl) ..) (.bd (h (wr .u64 ((a.L.length:Int)))) fun q=>.bd (g:=fun (y:List UInt8)=>((bo 1 0 y.length false),[bx (ai a),az.row false 1 (y.map c8)])) (fz dj (l:=[(3:UInt8)]) (l2:=q) (bk ..)) fun r=>.as (EB C n _ _ _ _ self hS a ?_ _ 0 r)))))
 ·intro f t u w w51
  exact .un rfl (.cT j9 (.lv (by show aK [w51,az.row false 1 (f.map c8)] (bo 1 0 f.length false)=_; first | (simp only[bJ,dg,aK,aO (H:=[w51,az.row false 1 (f.map c8)]) (b:=1) (es:=1) (wr:=false) (l:=f) dh rfl]; done) | (simp only[bJ,dG,aK,aO (H:=[w51,az.row false 1 (f.map c8)]) (b:=1) (es:=1) (wr:=false) (l:=f) dh rfl]; first | done | rfl))))
def Jf:Nat->ak->Option (List UInt8)
 | 0=>fun _=>none
 | q+1=>fun a0=>Lz (Jf q) aA a0
def LV (a:ak):Option (List UInt8):=Jf aA a
def D8 (C:OT):Prop:=∀ (a:ak),C 92 [(ag (ai a))]=(LV a).map fun y=>(im (y.map c8) false)
def Pe (n:Nat) (a:ak):Option ((List UInt8)×Int):=
 (Lo a).bind fun b=>bif (b != 0) then (some (([],b))) else ((LV a).bind fun c=>some ((c,0)))
theorem VN (C:OT) (n:Nat) (b:D7 C) (c:D8 C) (a:ak):TJ C n 80 [(ag (ai a))] (Pe n a) (fun y=>(tp [(im (y.1.map c8) false),(iA y.2)])):=by
 refine .lp (WR ..) ?_
 unfold Pe
 refine .s ((pt 0 0),[bx (ai a)]) (.s (ag (ai a)) (.bd (g:=fun (y:Int)=>(iA y)) (by simp only[bJ,dg]; exact b a) fun d=>.st (bf ..) (.bX ?_ ?_)))
 ·exact .lv r9
 exact .s (ag (ai a)) (.bd (g:=fun (y:(List UInt8))=>(im (y.map c8) false)) (by simp only[bJ,dg]; exact c a) fun e=>.lv r9)
def J4 (a:ak):Option ((List UInt8)×Int):=Pe aA a
def D5 (C:OT):Prop:=∀ (a:ak),C 80 [(ag (ai a))]=(J4 a).map fun y=>(tp [(im (y.1.map c8) false),(iA y.2)])
def jr (n:Nat) (g:(List (List UInt8))) (a:af):Nat->Int->Int->Int->(List (List UInt8))->Option ((List (List UInt8)))
 | 0,_,_,_,_=>none
 | m+1,c,d,b,e=>bif (decide (b<((a.Order.length:Int)))) then ((bt a.Order b).bind fun i=>bif i then ((bt a.Leases c).bind fun f=>(Ln ([1,f.No,f.Holder,f.Until])).bind fun j=>(J4 j).bind fun k=>(cU 24 e ([k.1])).bind fun l=>jr n g a m (wr .i64 (c+1)) d (wr .i64 (b+1)) l) else ((bt a.Calls d).bind fun h=>(Ln ([2,h.Bar,h.Program])).bind fun o=>(J4 o).bind fun p=>(cU 24 e ([p.1])).bind fun q=>jr n g a m c (wr .i64 (d+1)) (wr .i64 (b+1)) q)) else (some e)
theorem Et (w:D4 C) (x:D5 C) (p:(List (List UInt8))) (c:af) {K:((List (List UInt8)))->Option γ} (z:∀ (q:(List (List UInt8))) (s1:A) (s2:A) (s4:A) (s5:A) (s6:A) (q0:az),J φ (kx 0 (St.mk [(1,s1),(2,s2),(3,(bo 1 0 q.length false)),(4,s4),(5,s5),(6,s6)] [q0,az.row false 1 (List.map (cL c8) q)])) kL (K q) some) :
  ∀ (m:Nat) (r:Int) (t:Int) (u:Int) (d:(List (List UInt8))),J φ (aH (cx C) (ec C n 8) (ey C n 8) (n+8) 61 0 0 2 kx kg kr kp m (St.mk [(1,(pt 0 0)),(2,(im (List.map (cL c8) p) true)),(3,(bo 1 0 d.length false)),(4,(iA r)),(5,(iA t)),(6,(iA u))] [bx (aa c),az.row false 1 (List.map (cL c8) d)])) kL (jr n p c m r t u d) K:=by
  refine nI (fun _ _ _ _=>.nn) fun m ih r t u d=>.lp (MK ..) ?_
  unfold jr
  refine .s2 (im (c.Order.map cB) false) (.st (dr (e:=4)) (.st (aW ..) (.bX ?_ ?_)))
  ·refine .s (ag [(iA 0),(iA 0),se,XU]) (.sq (pt 2 0) (.s [bx (aa c),az.row false 1 (List.map (cL c8) d),aL] (.s2 (im (c.Order.map cB) false) (.bd (fa (e:=4) (es:=1)) fun a4=>.s (bA a4) (.bX ?_ ?_)))))
   ·refine .s2 (im (c.Leases.map ae) false) (.bd (fa (e:=50) (es:=3)) fun h=>.s (ag (ae h)) (.sq (pt 3 0) (.s [bx (aa c),az.row false 1 (List.map (cL c8) d),aL,bx (ae h)] (.s2 (iA h.No) (.s2 (iA h.Holder) (.s2 (iA h.Until) (.s (im [[(iA 1)],[(iA h.No)],[(iA h.Holder)],[(iA h.Until)]] true) (.bd (g:=fun (y:ak)=>(ag (ai y))) (by show C 79 [snap _ (im [[(iA 1)],[(iA h.No)],[(iA h.Holder)],[(iA h.Until)]] true)]=_; simp only[bJ,dg,dw (H:=[bx (aa c),az.row false 1 (List.map (cL c8) d),aL,bx (ae h)]) (b:=1) (es:=1) (l:=d) (ff dh) rfl]; exact w ([1,h.No,h.Holder,h.Until])) fun i=>.s [bx (aa c),az.row false 1 (List.map (cL c8) d),bx (ai i),bx (ae h)] (.st (aM ..) (.s (ag (ai i)) (.bd (g:=fun (y:((List UInt8)×Int))=>(tp [(im (y.1.map c8) false),(iA y.2)])) (by show C 80 [snap _ (ag (ai i))]=_; simp only[bJ,dg,dw (H:=[bx (aa c),az.row false 1 (List.map (cL c8) d),bx (ai i),bx (ae h)]) (b:=1) (es:=1) (l:=d) (ff dh) rfl]; exact x i) fun k=>.s (im (k.1.map c8) false) (.s (iA k.2) (.s (im [[(im (k.1.map c8) false)]] true) (.bd (g:=fun (y:List (List UInt8))=>((bo 1 0 y.length false),[bx (aa c),az.row false 1 (List.map (cL c8) y),bx (ai i),bx (ae h)])) (cp oN (l:=d) (l2:=[k.1]) (b:=1) rfl (by decide) (bk (f:=(cL c8)) ([k.1]:List (List UInt8)) _ _)) fun a5=>.st (aM ..) (.st (v:=[bx (aa c),az.row false 1 (List.map (cL c8) a5)]) (eH j9 u2) (.cT ((by kernel_rfl:_=(bif aR 2 (List.map (cL c8) p) then true else false)).trans so) ?_))))))))))))))))
    exact ih _ _ _ _
   refine .s2 (im (c.Calls.map ah) false) (.bd (fa (e:=54) (es:=2)) fun a=>.s (ag [(iA a.Bar),(iA a.Program)]) (.sq (pt 3 0) (.s [bx (aa c),az.row false 1 (List.map (cL c8) d),aL,bx [(iA a.Bar),(iA a.Program)]] (.s2 (iA a.Bar) (.s2 (iA a.Program) (.s (im [[(iA 2)],[(iA a.Bar)],[(iA a.Program)]] true) (.bd (g:=fun (y:ak)=>(ag (ai y))) (by show C 79 [snap _ (im [[(iA 2)],[(iA a.Bar)],[(iA a.Program)]] true)]=_; simp only[bJ,dg,dw (H:=[bx (aa c),az.row false 1 (List.map (cL c8) d),aL,bx [(iA a.Bar),(iA a.Program)]]) (b:=1) (es:=1) (l:=d) (ff dh) rfl]; exact w ([2,a.Bar,a.Program])) fun j=>.s [bx (aa c),az.row false 1 (List.map (cL c8) d),bx (ai j),bx [(iA a.Bar),(iA a.Program)]] (.st (aM ..) (.s (ag (ai j)) (.bd (g:=fun (y:((List UInt8)×Int))=>(tp [(im (y.1.map c8) false),(iA y.2)])) (by show C 80 [snap _ (ag (ai j))]=_; simp only[bJ,dg,dw (H:=[bx (aa c),az.row false 1 (List.map (cL c8) d),bx (ai j),bx [(iA a.Bar),(iA a.Program)]]) (b:=1) (es:=1) (l:=d) (ff dh) rfl]; exact x j) fun o=>.s (im (o.1.map c8) false) (.s (iA o.2) (.s (im [[(im (o.1.map c8) false)]] true) (.bd (g:=fun (y:List (List UInt8))=>((bo 1 0 y.length false),[bx (aa c),az.row false 1 (List.map (cL c8) y),bx (ai j),bx [(iA a.Bar),(iA a.Program)]])) (cp oN (l:=d) (l2:=[o.1]) (b:=1) rfl (by decide) (bk (f:=(cL c8)) ([o.1]:List (List UInt8)) _ _)) fun a6=>.st (aM ..) (.st (v:=[bx (aa c),az.row false 1 (List.map (cL c8) a6)]) (eH j9 u2) (.cT ((by kernel_rfl:_=(bif aR 2 (List.map (cL c8) p) then true else false)).trans so) ?_)))))))))))))))
   exact ih _ _ _ _
  exact .ex (z _ _ _ _ _ _ _)
def O0 (n:Nat) (a:af):Option (List (List UInt8)):=
 (jr n ([]) a (n+8) 0 0 0 (([]:List (List UInt8)))).bind fun PD=>match PD with | b=>some b
theorem Vz (C:OT) (n:Nat) (d:D4 C) (e:D5 C) (c:af):TJ C n 61 [(ag (aa c))] (O0 n c) (fun y=>(im (List.map (cL c8) y) false)):=by
 refine .lp (WB ..) ?_
 unfold O0
 refine .s ((pt 0 0),[bx (aa c)]) (.as (Et C n _ _ _ _ d e ([]) c ?_ _ 0 0 0 (([]:List (List UInt8)))))
 ·intro a f g h i j w101
  exact .un rfl (.cT j9 (.lv (by show aK [w101,az.row false 1 (List.map (cL c8) a)] (bo 1 0 a.length false)=_; first | (simp only[bJ,dg,aK,aO (H:=[w101,az.row false 1 (List.map (cL c8) a)]) (b:=1) (es:=1) (wr:=false) (l:=a) (ff dh) rfl]; done) | (simp only[bJ,dG,aK,aO (H:=[w101,az.row false 1 (List.map (cL c8) a)]) (b:=1) (es:=1) (wr:=false) (l:=a) (ff dh) rfl]; first | done | rfl))))
def LK (a:af):Option (List (List UInt8)):=O0 aA a
def I2 (C:OT):Prop:=∀ (a:af),C 61 [(ag (aa a))]=(LK a).map fun y=>(im (List.map (cL c8) y) false)
def mj (a:(List ak)):az:=bx [(iA 3),(iA 0),se,(bo 4 0 a.length false)]
abbrev ml:A:=(ag [(iA 0),(iA 0),se,(im [] false)])
def DP (C:OT) (N:Nat) (self:(List UInt8)->Int->Bool->Int->Option (ak×Int×Bool)):Prop:=∀ (a:(List UInt8)) (a2:Int) (b:Bool) (c:Int) (X:aB),J (fun (o:R) (y:(ak×Int×Bool))=>o=(Out.ret (ag [(iA y.1.Kind),(iA y.1.N),(sA y.1.S),(im (y.1.L.map ax) false)]),[aL,bx [(im (a.map c8) false),(iA y.2.1),(bA y.2.2)]]++X)) (dS (cx C) N 103 [(pt 1 0),(iA c)] ([aL,bx [(im (a.map c8) false),(iA a2),(bA b)]]++X) 0) some (self a a2 b c) some
def eM (n:Nat) (d:(List UInt8)):Nat->Int->Int->Int->Bool->Option ((Int×Int×Bool)⊕(Int×Bool))
 | 0,_,_,_,_=>none
 | m+1,f,b,c,e=>bif (!e) then ((bif (decide (((d.length:Int))<=c)) then (some ((0,c,true))) else ((bt d (wr .i64 ((wr .i64 (c+1)) - 1))).bind fun g=>some (((g.toNat:Int),wr .i64 (c+1),e)))).bind fun a=>(bif (b==9) then (some (decide (1<a.1))) else (some false)).bind fun h=>(bif h then (some true) else ((bif (decide (0<b)) then (some (a.1==0)) else (some false)).bind fun i=>some i)).bind fun j=>bif j then (some ((Sum.inl ((0,a.2.1,true))))) else (bif decide (0<=(wr .i64 (7*b))) then (bif (decide (a.1<128)) then (some ((Sum.inl ((wr .u64 (f+(p5 .u64 (wr .u64 (Int.tmod a.1 128)) (wr .i64 (7*b)))),a.2.1,a.2.2))))) else (eM n d m (wr .u64 (f+(p5 .u64 (wr .u64 (Int.tmod a.1 128)) (wr .i64 (7*b))))) (wr .i64 (b+1)) a.2.1 a.2.2)) else none)) else (some ((Sum.inr ((c,e)))))
theorem nK {w338:A} {w339:az} (a:(List UInt8)) {K:((Int×Int×Bool)⊕(Int×Bool))->Option γ} (o:∀ (d:Int) (f:Int) (p:Bool) (h:A) (i:A) (j:A),J φ (kr (St.mk [(0,h),(2,(A.v (.int .u64 d))),(3,i),(4,j)] [aL,bx [(im (a.map c8) false),(iA f),(bA p)],w339])) kL (K (Sum.inl ((d,f,p)))) some) (x1:∀ (d:Int) (f:Bool) (h:A) (s2:A) (i:A) (j:A),J φ (kx 0 (St.mk [(0,h),(2,s2),(3,i),(4,j)] [aL,bx [(im (a.map c8) false),(iA d),(bA f)],w339])) kL (K (Sum.inr ((d,f)))) some) :
  ∀ (m:Nat) (k:Int) (l:Int) (b:Int) (c:Bool),J φ (aH (cx C) (ec C n 7) (ey C n 7) (n+7) 109 0 0 3 kx kg kr kp m (St.mk [(0,(pt 1 0)),(2,w338),(3,(A.v (.int .u64 k))),(4,(iA l))] [aL,bx [(im (a.map c8) false),(iA b),(bA c)],w339])) kL (eM n a m k l b c) K:=by
  refine nI (fun _ _ _ _=>.nn) fun m ih k l b c=>.lp (Ko ..) ?_
  unfold eM
  refine .s (pt 1 0) (.s2 (bA c) (.s (bA (!c)) (.bX ?_ ?_)))
  ·refine .bg (fun (t:Out×aB) (y:Int×Int×Bool)=>t=(Out.ret (uA y.1),[aL,bx [(im (a.map c8) false),(iA y.2.1),(bA y.2.2)],w339])) ?_ ?_
   ·refine .lp ((aw Fw).trans (Mo ..)) (.s (pt 1 0) (.s2 (iA b) (.s (pt 1 0) (.s2 (im (a.map c8) false) (.st (dr (e:=5)) (.st (fj ..) (.bX ?_ ?_)))))))
    ·exact .s (pt 1 0) (.s (pt 1 2) (.s [aL,bx [(im (a.map c8) false),(iA b),(bA true)],w339] (.lg rfl)))
    exact .s (pt 1 0) (.s2 (iA b) (.st (aM ..) (.s (pt 1 0) (.s (pt 1 1) (.s [aL,bx [(im (a.map c8) false),(iA (wr .i64 (b+1))),(bA c)],w339] (.s (pt 1 0) (.s2 (im (a.map c8) false) (.s (pt 1 0) (.s2 (iA (wr .i64 (b+1))) (.st (du ..) (.bd (fa (e:=5) (es:=1)) fun a5=>.s (uA ((a5.toNat:Int))) (.lg rfl))))))))))))
   rintro _ g rfl
   refine .ok (.st (aV ..) (.bg (fun t (y:Bool)=>∃ q r:A,t=[(bA y),q,r]) ?_ ?_))
   ·refine .bi ?_ ?_
    ·exact .st (cF ..) (.lg ⟨_,_,rfl⟩)
    exact .lg ⟨_,_,rfl⟩
   rintro _ a6 ⟨q,r,rfl⟩
   refine .uc (.uc (.uc (.bg (fun t (y:Bool)=>∃ u w x z a0 a1:A,t=[(bA y),u,w,x,z,a0,a1]) ?_ ?_)))
   ·refine .bi ?_ ?_
    ·exact .lg ⟨_,_,_,_,_,_,rfl⟩
    refine .st (cF ..) (.bg (fun t (y:Bool)=>∃ a2 a3:A,t=[(bA y),a2,a3]) ?_ ?_)
    ·refine .bi ?_ ?_
     ·exact .st (aV ..) (.lg ⟨_,_,rfl⟩)
     exact .lg ⟨_,_,rfl⟩
    rintro _ a7 ⟨a2,a3,rfl⟩
    exact .uc (.uc (.uc (.lg ⟨_,_,_,_,_,_,rfl⟩)))
   rintro _ a8 ⟨u,w,x,z,a0,a1,rfl⟩
   refine .u4 (.uc (.uc (.uc (.bX ?_ ?_))))
   ·exact .s (pt 1 0) (.s (pt 1 2) (.s [aL,bx [(im (a.map c8) false),(iA g.2.1),(bA true)],w339] (.ex (o _ _ _ _ _ _))))
   refine .st (sS (hb:=by decide) ..) (.st (v:=(A.v (.int .u64 (wr .u64 (Int.tmod g.1 128))))) (aU (hs:=by kernel_rfl) (hd:=by kernel_rfl) ..) (.st (qc ..) (.gd fun hg=>.st (sU (hb:=X7 hg) ..) (.st (aM ..) (.st (aW ..) (.bX ?_ ?_))))))
   ·exact .ex (o _ _ _ _ _ _)
   refine .st (aM ..) (.s [aL,bx [(im (a.map c8) false),(iA g.2.1),(bA g.2.2)],w339] (.cT j9 ?_))
   exact ih _ _ _ _
  exact .ex (x1 _ _ _ _ _ _)
def eL (self:(List UInt8)->Int->Bool->Int->Option (ak×Int×Bool)) (n:Nat) (c:Int) (d:Int) (e:(List UInt8)) (i:Int) (j:Int) (k:ByteArray):Nat->Int->Int->Bool->(List ak)->Option (Int×Bool×(List ak))
 | 0,_,_,_,_=>none
 | m+1,f,g,a,h=>(bif (decide (f<d)) then (some (!a)) else (some false)).bind fun l=>bif l then ((self e g a (wr .i64 (c+1))).bind fun b=>(cU 56 h ([b.1])).bind fun o=>eL self n c d e i j k m (wr .u64 (f+1)) b.2.1 b.2.2 o) else (some ((g,a,h)))
theorem yb (self:(List UInt8)->Int->Bool->Int->Option (ak×Int×Bool)) (hS:DP C (n+8) self) {w1142:A} {w1143:az} (o:Int) (r:Int) (d:(List UInt8)) (e:Int) (h:Int) (i:ByteArray) {K:(Int×Bool×(List ak))->Option γ} (x0:∀ (u:Int) (w:Bool) (p:(List ak)) (s1:A) (s7:A) (s9:A),J φ (kx 1 (St.mk [(0,(pt 1 0)),(1,s1),(4,w1142),(7,s7),(8,(pt 3 0)),(9,s9)] [aL,bx [(im (d.map c8) false),(iA u),(bA w)],w1143,bx [(iA e),(iA h),(sA i),(bo 4 0 p.length false)],az.row false 4 (p.map ax)])) kL (K (u,w,p)) some) :
  ∀ (m:Nat) (q:Int) (k:Int) (j:Bool) (a:(List ak)),J φ (aH (cx C) (ec C n 8) (ey C n 8) (n+8) 103 0 0 5 kx kg kr kp m (St.mk [(0,(pt 1 0)),(1,(iA o)),(4,w1142),(7,(A.v (.int .u64 r))),(8,(pt 3 0)),(9,(A.v (.int .u64 q)))] [aL,bx [(im (d.map c8) false),(iA k),(bA j)],w1143,bx [(iA e),(iA h),(sA i),(bo 4 0 a.length false)],az.row false 4 (a.map ax)])) kL (eL self n o r d e h i m q k j a) K:=by
  refine nI (fun _ _ _ _=>.nn) fun m ih q k j a=>.lp (Kk ..) ?_
  unfold eL
  refine .st (aW ..) (.bg (fun t (y:Bool)=>∃ x z a0 a1 a2:A,t=[(bA y),x,z,a0,a1,a2]) ?_ ?_)
  ·refine .bi ?_ ?_
   ·exact .s (pt 1 0) (.s (pt 1 2) (.s (bA j) (.s (bA (!j)) (.lg ⟨_,_,_,_,_,rfl⟩))))
   exact .lg ⟨_,_,_,_,_,rfl⟩
  rintro _ a8 ⟨x,z,a0,a1,a2,rfl⟩
  refine .u4 (.uc (.uc (.bX ?_ ?_)))
  ·refine .s (pt 3 3) (.s (bo 4 0 a.length false) (.st (aM ..) (.cT j9 (.bg (fun (t:R) (y:(ak×Int×Bool))=>t=(Out.ret (ag [(iA y.1.Kind),(iA y.1.N),(sA y.1.S),(im (y.1.L.map ax) false)]),[aL,bx [(im (d.map c8) false),(iA y.2.1),(bA y.2.2)],w1143,bx [(iA e),(iA h),(sA i),(bo 4 0 a.length false)],az.row false 4 (a.map ax)])) (hS d k j (wr .i64 (o+1)) [w1143,bx [(iA e),(iA h),(sA i),(bo 4 0 a.length false)],az.row false 4 (a.map ax)]) ?_))))
   rintro _ c rfl
   refine .ok (.s (im [[(iA c.1.Kind),(iA c.1.N),(sA c.1.S),(im (c.1.L.map ax) false)]] true) (.bd (g:=fun (y:List ak)=>((bo 4 0 y.length false),[aL,bx [(im (d.map c8) false),(iA c.2.1),(bA c.2.2)],w1143,bx [(iA e),(iA h),(sA i),(bo 4 0 a.length false)],az.row false 4 (y.map ax)])) (cp oM (l:=a) (l2:=[c.1]) (b:=4) rfl (by decide) (sD (f:=ax) (l:=([c.1]:List ak)) XO)) fun a3=>.s (pt 3 3) (.sh (.st (aM ..) (.s [aL,bx [(im (d.map c8) false),(iA c.2.1),(bA c.2.2)],w1143,bx [(iA e),(iA h),(sA i),(bo 4 0 a3.length false)],az.row false 4 (a3.map ax)] (.cT j9 ?_))))))
   exact ih _ _ _ _
  exact .ex (x0 _ _ _ _ _ _)
def rH (self:(List UInt8)->Int->Bool->Int->Option (ak×Int×Bool)) (n:Nat) (c:(List UInt8)) (a2:Int) (g:Bool) (f:Int):Option (ak×Int×Bool):=
 (bif (decide (((c.length:Int))<=a2)) then (some ((0,a2,true))) else ((bt c (wr .i64 ((wr .i64 (a2+1)) - 1))).bind fun h=>some (((h.toNat:Int),wr .i64 (a2+1),g)))).bind fun b=>bif (b.1==1) then (((eM n c (n+7) 0 0 b.2.1 b.2.2).bind fun i=>match i with | (Sum.inl ((j,k,l)))=>some ((j,k,l)) | (Sum.inr ((o,p)))=>some ((0,o,p))).bind fun d=>bif ((Int.tmod d.1 2)==1) then (some (((ak.mk 1 (wr .i64 ((wr .i64 (0 - (wr .i64 (wr .u64 (Int.tdiv d.1 2))))) - 1)) rb ([])),d.2.1,d.2.2))) else (some (((ak.mk 1 (wr .i64 (wr .u64 (Int.tdiv d.1 2))) rb ([])),d.2.1,d.2.2)))) else (bif (b.1==2) then (((eM n c (n+7) 0 0 b.2.1 b.2.2).bind fun q=>match q with | (Sum.inl ((r,s,t)))=>some ((r,s,t)) | (Sum.inr ((u,v)))=>some ((0,u,v))).bind fun a=>(bif a.2.2 then (some true) else (some (decide ((wr .u64 (wr .i64 (((c.length:Int)) - a.2.1)))<a.1)))).bind fun w=>bif w then (some (((ak.mk 0 0 rb ([])),a.2.1,true))) else ((eJ c (wr .i64 ((wr .i64 (a.2.1+(wr .i64 (a.1)))) - (wr .i64 (a.1)))) (wr .i64 (a.2.1+(wr .i64 (a.1))))).bind fun x=>some (((ak.mk 2 0 (ij x) ([])),wr .i64 (a.2.1+(wr .i64 (a.1))),a.2.2)))) else (bif (b.1==3) then (((eM n c (n+7) 0 0 b.2.1 b.2.2).bind fun y=>match y with | (Sum.inl ((z,a0,a5)))=>some ((z,a0,a5)) | (Sum.inr ((a6,a7)))=>some ((0,a6,a7))).bind fun e=>(bif e.2.2 then (some true) else (some (decide ((wr .u64 (wr .i64 (((c.length:Int)) - e.2.1)))<e.1)))).bind fun a8=>(bif a8 then (some true) else (some (f==16))).bind fun a9=>bif a9 then (some (((ak.mk 0 0 rb ([])),e.2.1,true))) else ((eL self n f e.1 c 3 0 rb (n+8) 0 e.2.1 e.2.2 (([]:List ak))).bind fun aa=>match aa with | (ab,ad,ae)=>some (((ak.mk 3 0 rb ae),ab,ad)))) else (some (((ak.mk 0 0 rb ([])),b.2.1,true)))))
theorem Ma (C:OT) (n:Nat) (self:(List UInt8)->Int->Bool->Int->Option (ak×Int×Bool)) (hS:DP C (n+8) self) (c:(List UInt8)) (a2:Int) (q:Bool) (r:Int):J (fun (o:R) (y:(ak×Int×Bool))=>∃ Z,o=(Out.ret (ag [(iA y.1.Kind),(iA y.1.N),(sA y.1.S),(im (y.1.L.map ax) false)]),[aL,bx [(im (c.map c8) false),(iA y.2.1),(bA y.2.2)]]++Z)) (aE (cx C) (ec C n 8) (ey C n 8) (n+8) 103 [(pt 1 0),(iA r)] [aL,bx [(im (c.map c8) false),(iA a2),(bA q)]] 0) some (rH self n c a2 q r) some:=by
 refine .lp (QZ ..) ?_
 unfold rH
 refine .s ((pt 2 0),[aL,bx [(im (c.map c8) false),(iA a2),(bA q)],aL]) (.bg (fun (t:Out×aB) (y:Int×Int×Bool)=>t=(Out.ret (uA y.1),[aL,bx [(im (c.map c8) false),(iA y.2.1),(bA y.2.2)],aL])) ?_ ?_)
 ·refine .lp ((aw Fw).trans (Mo ..)) (.s (pt 1 0) (.s2 (iA a2) (.s (pt 1 0) (.s2 (im (c.map c8) false) (.st (dr (e:=5)) (.st (fj ..) (.bX ?_ ?_)))))))
  ·exact .s (pt 1 0) (.s (pt 1 2) (.s [aL,bx [(im (c.map c8) false),(iA a2),(bA true)],aL] (.lg rfl)))
  exact .s (pt 1 0) (.s2 (iA a2) (.st (aM ..) (.s (pt 1 0) (.s (pt 1 1) (.s [aL,bx [(im (c.map c8) false),(iA (wr .i64 (a2+1))),(bA q)],aL] (.s (pt 1 0) (.s2 (im (c.map c8) false) (.s (pt 1 0) (.s2 (iA (wr .i64 (a2+1))) (.st (du ..) (.bd (fa (e:=5) (es:=1)) fun a9=>.s (uA ((a9.toNat:Int))) (.lg rfl))))))))))))
 rintro _ j rfl
 refine .ok (.st (aV ..) (.bX ?_ ?_))
 ·refine .bg (fun (t:Out×aB) (y:Int×Int×Bool)=>t=(Out.ret (A.v (.int .u64 y.1)),[aL,bx [(im (c.map c8) false),(iA y.2.1),(bA y.2.2)],aL])) ?_ ?_
  ·refine .lp ((aw A2).trans (Kn ..)) (.as (nK C n _ _ _ _ c ?_ ?_ _ 0 0 j.2.1 j.2.2))
   ·intro aa ab ad ae af ah
    exact .un rfl (.lg rfl)
   ·intro ai aj al am an ao
    exact .un rfl (.cT j9 (.lg rfl))
  rintro _ g rfl
  refine .ok (.st (sS (hb:=by decide) ..) (.st (aV ..) (.bX ?_ ?_)))
  ·exact .st (sR (hb:=by decide) ..) (.st (v:=(iA (wr .i64 (wr .u64 (Int.tdiv g.1 2))))) (aU (hs:=by kernel_rfl) (hd:=by kernel_rfl) ..) (.s (iA (wr .i64 (0 - (wr .i64 (wr .u64 (Int.tdiv g.1 2)))))) (.st (du ..) (.s (ag [(iA 1),(iA (wr .i64 ((wr .i64 (0 - (wr .i64 (wr .u64 (Int.tdiv g.1 2))))) - 1))),se,XU]) (.s [aL,bx [(im (c.map c8) false),(iA g.2.1),(bA g.2.2)],bx [(iA 1),(iA (wr .i64 ((wr .i64 (0 - (wr .i64 (wr .u64 (Int.tdiv g.1 2))))) - 1))),se,XU]] (.s (ag [(iA 1),(iA (wr .i64 ((wr .i64 (0 - (wr .i64 (wr .u64 (Int.tdiv g.1 2))))) - 1))),se,(im [] false)]) (.lf rfl rfl (gN (o:=Out.ret (ag [(iA 1),(iA (wr .i64 ((wr .i64 (0 - (wr .i64 (wr .u64 (Int.tdiv g.1 2))))) - 1))),se,(im [] false)])) (lo:=0) (off:=3) (b:=2) (p:=0) (H2:=[aL,bx [(im (c.map c8) false),(iA g.2.1),(bA g.2.2)]]) (X:=[bx [(iA 1),(iA (wr .i64 ((wr .i64 (0 - (wr .i64 (wr .u64 (Int.tdiv g.1 2))))) - 1))),se,XU]]) (Yu rfl)))))))))
  exact .st (sR (hb:=by decide) ..) (.st (v:=(iA (wr .i64 (wr .u64 (Int.tdiv g.1 2))))) (aU (hs:=by kernel_rfl) (hd:=by kernel_rfl) ..) (.s (ag [(iA 1),(iA (wr .i64 (wr .u64 (Int.tdiv g.1 2)))),se,XU]) (.s [aL,bx [(im (c.map c8) false),(iA g.2.1),(bA g.2.2)],bx [(iA 1),(iA (wr .i64 (wr .u64 (Int.tdiv g.1 2)))),se,XU]] (.s (ag [(iA 1),(iA (wr .i64 (wr .u64 (Int.tdiv g.1 2)))),se,(im [] false)]) (.lf rfl rfl (gN (o:=Out.ret (ag [(iA 1),(iA (wr .i64 (wr .u64 (Int.tdiv g.1 2)))),se,(im [] false)])) (lo:=0) (off:=3) (b:=2) (p:=0) (H2:=[aL,bx [(im (c.map c8) false),(iA g.2.1),(bA g.2.2)]]) (X:=[bx [(iA 1),(iA (wr .i64 (wr .u64 (Int.tdiv g.1 2)))),se,XU]]) (Yu rfl)))))))
 refine .st (aV ..) (.bX ?_ ?_)
 ·refine .bg (fun (t:Out×aB) (y:Int×Int×Bool)=>t=(Out.ret (A.v (.int .u64 y.1)),[aL,bx [(im (c.map c8) false),(iA y.2.1),(bA y.2.2)],aL])) ?_ ?_
  ·refine .lp ((aw A2).trans (Kn ..)) (.as (nK C n _ _ _ _ c ?_ ?_ _ 0 0 j.2.1 j.2.2))
   ·intro ap aq ar au av ay
    exact .un rfl (.lg rfl)
   ·intro b0 b1 b2 b3 b4 b5
    exact .un rfl (.cT j9 (.lg rfl))
  rintro _ d rfl
  refine .ok (.s (pt 1 0) (.s2 (bA d.2.2) (.Og (.bg (fun t (y:Bool)=>∃ a5:A,t=[(bA y),a5]) ?_ ?_))))
  ·refine .E9 (fun u=>?_) (fun u=>?_)
   ·exact .bb (.s (pt 1 0) (.s (pt 1 0) (.s (im (c.map c8) false) (.st (dr (e:=5)) (.s (pt 1 0) (.s (pt 1 1) (.s (iA d.2.1) (.st (du ..) (.st (v:=(A.v (.int .u64 (wr .u64 (wr .i64 (((c.length:Int)) - d.2.1)))))) (aU (hs:=by kernel_rfl) (hd:=by kernel_rfl) ..) (.cr (.u4 (.u4 (.u4 (.q9 u (.st (cF ..) (.lg ⟨_,rfl⟩))))))))))))))))
   exact .bb (.cr (.u4 (.u4 (.u4 (.ra u (.lg ⟨_,rfl⟩))))))
  rintro _ b6 ⟨a5,rfl⟩
  refine .uc (.uc (.bX ?_ ?_))
  ·exact .s (pt 1 0) (.s (pt 1 2) (.sh (.s (ag [(iA 0),(iA 0),se,XU]) (.s [aL,bx [(im (c.map c8) false),(iA d.2.1),(bA true)],aL] (.s ml (.lf rfl rfl (gN (o:=Out.ret ml) (lo:=0) (off:=3) (b:=2) (p:=0) (H2:=[aL,bx [(im (c.map c8) false),(iA d.2.1),(bA true)]]) (X:=[aL]) (Yu rfl))))))))
  exact .s (pt 1 0) (.s2 (iA d.2.1) (.st (v:=(iA (wr .i64 (d.1)))) (aU (hs:=by kernel_rfl) (hd:=by kernel_rfl) ..) (.st (aM ..) (.s (pt 1 0) (.s (pt 1 1) (.s [aL,bx [(im (c.map c8) false),(iA (wr .i64 (d.2.1+(wr .i64 (d.1))))),(bA d.2.2)],aL] (.s (pt 1 0) (.s2 (im (c.map c8) false) (.s (pt 1 0) (.s2 (iA (wr .i64 (d.2.1+(wr .i64 (d.1))))) (.st (v:=(iA (wr .i64 (d.1)))) (aU (hs:=by kernel_rfl) (hd:=by kernel_rfl) ..) (.st (du ..) (.s (pt 1 0) (.s2 (iA (wr .i64 (d.2.1+(wr .i64 (d.1))))) (.bd (fQ (e:=5) (es:=1) (f:=c8) (l:=c) (a:=wr .i64 ((wr .i64 (d.2.1+(wr .i64 (d.1)))) - (wr .i64 (d.1)))) (b:=wr .i64 (d.2.1+(wr .i64 (d.1)))) j9 j9 (fun _=>rfl) (.inr ⟨_,rfl⟩) (.inr ⟨_,rfl⟩)) fun k=>.st (v:=(A.v (Value.string (ij k)))) (sB (e:=5) (l:=k) j9 j9 j9 j9 (bk ..) rfl) (.s (ag [(iA 2),(iA 0),(A.v (Value.string (ij k))),XU]) (.s [aL,bx [(im (c.map c8) false),(iA (wr .i64 (d.2.1+(wr .i64 (d.1))))),(bA d.2.2)],bx [(iA 2),(iA 0),(A.v (Value.string (ij k))),XU]] (.s (ag [(iA 2),(iA 0),(A.v (Value.string (ij k))),(im [] false)]) (.lf rfl rfl (gN (o:=Out.ret (ag [(iA 2),(iA 0),(A.v (Value.string (ij k))),(im [] false)])) (lo:=0) (off:=3) (b:=2) (p:=0) (H2:=[aL,bx [(im (c.map c8) false),(iA (wr .i64 (d.2.1+(wr .i64 (d.1))))),(bA d.2.2)]]) (X:=[bx [(iA 2),(iA 0),(A.v (Value.string (ij k))),XU]]) (Yu rfl)))))))))))))))))))))
 refine .st (aV ..) (.bX ?_ ?_)
 ·refine .bg (fun (t:Out×aB) (y:Int×Int×Bool)=>t=(Out.ret (A.v (.int .u64 y.1)),[aL,bx [(im (c.map c8) false),(iA y.2.1),(bA y.2.2)],aL])) ?_ ?_
  ·refine .lp ((aw A2).trans (Kn ..)) (.as (nK C n _ _ _ _ c ?_ ?_ _ 0 0 j.2.1 j.2.2))
   ·intro b7 b8 b9 ba bc be
    exact .un rfl (.lg rfl)
   ·intro bf bh bj bl bm bn
    exact .un rfl (.cT j9 (.lg rfl))
  rintro _ i rfl
  refine .ok (.s (pt 1 0) (.s2 (bA i.2.2) (.Og (.bg (fun t (y:Bool)=>∃ a6:A,t=[(bA y),a6]) ?_ ?_))))
  ·refine .E9 (fun w=>?_) (fun w=>?_)
   ·exact .bb (.s (pt 1 0) (.s (pt 1 0) (.s (im (c.map c8) false) (.st (dr (e:=5)) (.s (pt 1 0) (.s (pt 1 1) (.s (iA i.2.1) (.st (du ..) (.st (v:=(A.v (.int .u64 (wr .u64 (wr .i64 (((c.length:Int)) - i.2.1)))))) (aU (hs:=by kernel_rfl) (hd:=by kernel_rfl) ..) (.cr (.u4 (.u4 (.u4 (.q9 w (.st (cF ..) (.lg ⟨_,rfl⟩))))))))))))))))
   exact .bb (.cr (.u4 (.u4 (.u4 (.ra w (.lg ⟨_,rfl⟩))))))
  rintro _ bp ⟨a6,rfl⟩
  refine .uc (.uc (.bg (fun t (y:Bool)=>∃ a7 a8:A,t=[(bA y),a7,a8]) ?_ ?_))
  ·refine .bi ?_ ?_
   ·exact .lg ⟨_,_,rfl⟩
   exact .st (aV ..) (.lg ⟨_,_,rfl⟩)
  rintro _ bq ⟨a7,a8,rfl⟩
  refine .uc (.uc (.uc (.bX ?_ ?_)))
  ·exact .s (pt 1 0) (.s (pt 1 2) (.sh (.s (ag [(iA 0),(iA 0),se,XU]) (.s [aL,bx [(im (c.map c8) false),(iA i.2.1),(bA true)],aL] (.s ml (.lf rfl rfl (gN (o:=Out.ret ml) (lo:=0) (off:=3) (b:=2) (p:=0) (H2:=[aL,bx [(im (c.map c8) false),(iA i.2.1),(bA true)]]) (X:=[aL]) (Yu rfl))))))))
  refine .s (ag [(iA 3),(iA 0),se,XU]) (.sq (pt 3 0) (.s [aL,bx [(im (c.map c8) false),(iA i.2.1),(bA i.2.2)],aL,bx [(iA 3),(iA 0),se,XU]] (.as (yb C n _ _ _ _ self hS r i.1 c 3 0 rb ?_ _ 0 i.2.1 i.2.2 (([]:List ak))))))
  ·intro x a0 h br bs bt
   exact .un rfl (.cT j9 (.s (ag [(iA 3),(iA 0),se,(bo 4 0 h.length false)]) (.s [aL,bx [(im (c.map c8) false),(iA x),(bA a0)],(mj h),(mj h),az.row false 4 (h.map ax)] (.st (v:=(ag [(iA 3),(iA 0),se,(im (h.map ax) false)])) ((YA (fun z=>nM prog 102 (pt 2 0) z) (yi (H:=[aL,bx [(im (c.map c8) false),(iA x),(bA a0)],(mj h),(mj h),az.row false 4 (h.map ax)]) (lo:=0) (off:=3) (b:=2) (o:=0) (b':=4) (es:=4) (l:=h) cH rfl rfl rfl (Yu rfl))).trans j9) (.lf rfl rfl (gN (o:=Out.ret (ag [(iA 3),(iA 0),se,(im (h.map ax) false)])) (lo:=0) (off:=3) (b:=2) (p:=0) (H2:=[aL,bx [(im (c.map c8) false),(iA x),(bA a0)]]) (X:=[(mj h),(mj h),az.row false 4 (h.map ax)]) (Yu rfl)))))))
 exact .s (pt 1 0) (.s (pt 1 2) (.sh (.s (ag [(iA 0),(iA 0),se,XU]) (.s [aL,bx [(im (c.map c8) false),(iA j.2.1),(bA true)],aL] (.s ml (.lf rfl rfl (gN (o:=Out.ret ml) (lo:=0) (off:=3) (b:=2) (p:=0) (H2:=[aL,bx [(im (c.map c8) false),(iA j.2.1),(bA true)]]) (X:=[aL]) (Yu rfl))))))))
def sQ:Nat->(List UInt8)->Int->Bool->Int->Option (ak×Int×Bool)
 | 0=>fun _ _ _ _=>none
 | N+1=>fun a1 a2 a3 a4=>bif Nat.ble 8 N then rH (sQ N) (N - 8) a1 a2 a3 a4 else none
theorem IM (C:OT):∀ N,DP C N (sQ N)
 | 0=>fun _ _ _ _ X r h=>by cases h
 | N+1=>fun a a2 b c X=>by
  show J _ _ _ (bif Nat.ble 8 N then rH (sQ N) (N - 8) a a2 b c else none) _
  cases h:Nat.ble 8 N with
  | false=>exact fun r h=>by cases h
  | true=>
   obtain ⟨n,rfl⟩:∃ n,N=n+8:=⟨N - 8,by have:=Yu h; omega⟩
   rw[qaW]
   exact EO (m:=2) j9 j9 (by decide) rfl j9 ((by kernel_rfl:_=((((aR 2 (a.map c8))&&true))&&true)).trans so) (fun _=>rfl) (fun y=>((by kernel_rfl:_=((aR 2 (y.1.L.map ax))&&true)).trans so)) (fun y=>((by kernel_rfl:_=((((aR 2 (a.map c8))&&true))&&true)).trans so)) (Ma C n  (sQ (n+8)) (IM C  (n+8)) a a2 b c)
def Ph (n:Nat) (b:(List UInt8)):Option (ak×Int):=
 (sQ (n+8) b 0 false 0).bind fun a=>(bif a.2.2 then (some true) else (some (a.2.1 != ((b.length:Int))))).bind fun c=>(bif c then (some true) else ((Lo a.1).bind fun d=>some (d != 0))).bind fun e=>(bif e then (some true) else ((LV a.1).bind fun f=>some (!lI (ij f) (ij b)))).bind fun g=>bif g then (some (((ak.mk 0 0 rb ([])),10))) else (some ((a.1,0)))
theorem VQ (C:OT) (n:Nat) (x:D7 C) (z:D8 C) (b:(List UInt8)):TJ C n 89 [(im (b.map c8) false)] (Ph n b) (fun y=>(tp [(ag (ai y.1)),(iA y.2)])):=by
 refine .lp (WY ..) ?_
 unfold Ph
 refine .s ((pt 0 0),[aL]) (.s (ag [(im (b.map c8) false),(iA 0),(bA false)]) (.s ((pt 1 0),[aL,bx [(im (b.map c8) false),(iA 0),(bA false)]]) (.bg (fun (t:R) (y:(ak×Int×Bool))=>t=(Out.ret (ag [(iA y.1.Kind),(iA y.1.N),(sA y.1.S),(im (y.1.L.map ax) false)]),[aL,bx [(im (b.map c8) false),(iA y.2.1),(bA y.2.2)]])) (IM C (n+8) b 0 false 0 []) ?_)))
 rintro _ a rfl
 refine .ok (.sq (pt 2 0) (.s [aL,bx [(im (b.map c8) false),(iA a.2.1),(bA a.2.2)],bx (ai a.1)] (.s (pt 1 0) (.s2 (bA a.2.2) (.bg (fun t (y:Bool)=>∃ d f h i j k o:A,t=[(bA y),d,f,h,i,j,k,o]) ?_ ?_)))))
 ·refine .bi ?_ ?_
  ·exact .lg ⟨_,_,_,_,_,_,_,rfl⟩
  exact .s (pt 1 0) (.s (pt 1 1) (.s (iA a.2.1) (.st (dr (e:=5)) (.st (bf ..) (.lg ⟨_,_,_,_,_,_,_,rfl⟩)))))
 rintro _ y3 ⟨d,f,h,i,j,k,o,rfl⟩
 refine .u4 (.u4 (.bg (fun t (y:Bool)=>∃ p q r:A,t=[(bA y),p,q,r]) ?_ ?_))
 ·refine .bi ?_ ?_
  ·exact .lg ⟨_,_,_,rfl⟩
  exact .s (ag (ai a.1)) (.bd (g:=fun (y:Int)=>(iA y)) (by simp only[bJ,dg]; exact x a.1) fun a2=>.st (bf ..) (.lg ⟨_,_,_,rfl⟩))
 rintro _ a3 ⟨p,q,r,rfl⟩
 refine .u4 (.SV (.bg (fun t (y:Bool)=>∃ u:A,t=[(bA y),u]) ?_ ?_))
 ·refine .E9 (fun c=>?_) (fun c=>?_)
  ·exact .bb (.s (ag (ai a.1)) (.bd (g:=fun (y:(List UInt8))=>(im (y.map c8) false)) (by simp only[bJ,dg]; exact z a.1) fun w=>.st (v:=(A.v (Value.string (ij w)))) (sB (e:=5) (l:=w) j9 j9 j9 j9 (bk ..) rfl) (.st (v:=(A.v (Value.string (ij b)))) (sB (e:=5) (l:=b) j9 j9 j9 j9 (bk ..) rfl) (.cr (.u4 (.uc (.q9 c (.st (Aj ..) (.lg ⟨_,rfl⟩)))))))))
  exact .bb (.cr (.u4 (.uc (.ra c (.lg ⟨_,rfl⟩)))))
 rintro _ a4 ⟨u,rfl⟩
 refine .uc (.uc (.bX ?_ ?_))
 ·exact .s (ag [(iA 0),(iA 0),se,XU]) (.s [aL,bx [(im (b.map c8) false),(iA a.2.1),(bA a.2.2)],bx (ai a.1)] (.s (ag [(iA 0),(iA 0),se,XU]) (.lv r9)))
 exact .s (ag (ai a.1)) (.s [bx (ai a.1),bx [(im (b.map c8) false),(iA a.2.1),(bA a.2.2)],bx (ai a.1)] (.s (ag (ai a.1)) (.lv r9)))
def LU (a:(List UInt8)):Option (ak×Int):=Ph aA a
def Jc (C:OT):Prop:=∀ (a:(List UInt8)),C 89 [(im (a.map c8) false)]=(LU a).map fun y=>(tp [(ag (ai y.1)),(iA y.2)])
def kv (n:Nat) (a:ak):Nat->Int->(List Int)->Option ((Unit)⊕((List Int)))
 | 0,_,_=>none
 | m+1,b,c=>bif (decide (b<((a.L.length:Int)))) then ((bt a.L b).bind fun d=>bif (d.Kind != 1) then (some ((Sum.inl (())))) else ((bt a.L b).bind fun e=>(cU 8 c ([e.N])).bind fun f=>kv n a m (wr .i64 (b+1)) f)) else (some ((Sum.inr c)))
theorem Ey {w36:A} (a:ak) {K:((Unit)⊕((List Int)))->Option γ} (o:∀ (h:A) (p:A) (i:A) (q0:az) (q1:az),J φ (kr (St.mk [(2,XU),(3,h),(5,p),(6,i)] [q0,q1])) kL (K (Sum.inl (()))) some) (q:∀ (j:(List Int)) (s2:A) (h:A) (i:A) (q0:az),J φ (kx 0 (St.mk [(2,s2),(3,h),(5,(bo 1 0 j.length false)),(6,i)] [q0,az.row false 1 (j.map (cI .i64))])) kL (K (Sum.inr j)) some) :
  ∀ (m:Nat) (k:Int) (c:(List Int)),J φ (aH (cx C) (ec C n 8) (ey C n 8) (n+8) 78 0 0 2 kx kg kr kp m (St.mk [(2,w36),(3,(pt 0 0)),(5,(bo 1 0 c.length false)),(6,(iA k))] [bx (ai a),az.row false 1 (c.map (cI .i64))])) kL (kv n a m k c) K:=by
  refine nI (fun _ _=>.nn) fun m ih k c=>.lp (MO ..) ?_
  unfold kv
  refine .s2 (im (a.L.map ax) false) (.st (dr (e:=102)) (.st (aW ..) (.bX ?_ ?_)))
  ·refine .s2 (im (a.L.map ax) false) (.bd ((fa (e:=102) (es:=4)).trans (fA _)) fun r=>.s2 (iA r.Kind) (.st (bf ..) (.bX ?_ ?_)))
   ·exact .ex (o _ _ _ _ _)
   refine .s2 (im (a.L.map ax) false) (.bd ((fa (e:=102) (es:=4)).trans (fA _)) fun d=>.s2 (iA d.N) (.s (im [[(iA d.N)]] true) (.bd (g:=fun (y:List Int)=>((bo 1 0 y.length false),[bx (ai a),az.row false 1 (y.map (cI .i64))])) (cp vm (l:=c) (l2:=[d.N]) (b:=1) rfl (by decide) (bk (f:=(cI .i64)) ([d.N]:List Int) _ _)) fun t=>.st (aM ..) (.s [bx (ai a),az.row false 1 (t.map (cI .i64))] (.cT j9 ?_)))))
   exact ih _ _
  exact .ex (q _ _ _ _ _)
def Pc (n:Nat) (b:(List UInt8)):Option (List Int):=
 (LU b).bind fun a=>(bif (a.2 != 0) then (some true) else (some (a.1.Kind != 3))).bind fun c=>bif c then (some ([])) else ((kv n a.1 (n+8) 0 (([]:List Int))).bind fun Py=>match Py with | (Sum.inl _)=>some ([]) | (Sum.inr d)=>some d)
theorem VL (C:OT) (n:Nat) (i:Jc C) (d:(List UInt8)):TJ C n 78 [(im (d.map c8) false)] (Pc n d) (fun y=>(im (y.map (cI .i64)) false)):=by
 refine .lp (WO ..) ?_
 unfold Pc
 refine .bd (g:=fun (y:(ak×Int))=>(tp [(ag (ai y.1)),(iA y.2)])) (by simp only[bJ,dg]; exact i d) fun c=>.s (ag (ai c.1)) (.s (iA c.2) (.sq (pt 0 0) (.s [bx (ai c.1)] (.st (bf ..) (.bg (fun t (y:Bool)=>∃ e f h:A,t=[(bA y),e,f,h]) ?_ ?_)))))
 ·refine .bi ?_ ?_
  ·exact .lg ⟨_,_,_,rfl⟩
  exact .s (pt 0 0) (.s (iA c.1.Kind) (.st (bf ..) (.lg ⟨_,_,_,rfl⟩)))
 rintro _ j ⟨e,f,h,rfl⟩
 refine .u4 (.bX ?_ ?_)
 ·exact .lv r9
 refine .as (Ey C n _ _ _ _ c.1 ?_ ?_ _ 0 (([]:List Int)))
 ·intro k o p w49 w50
  exact .un rfl (.lv r9)
 ·intro a q r u w55
  exact .un rfl (.cT j9 (.lv (by show aK [w55,az.row false 1 (a.map (cI .i64))] (bo 1 0 a.length false)=_; first | (simp only[bJ,dg,aK,aO (H:=[w55,az.row false 1 (a.map (cI .i64))]) (b:=1) (es:=1) (wr:=false) (l:=a) (jN _) rfl]; done) | (simp only[bJ,dG,aK,aO (H:=[w55,az.row false 1 (a.map (cI .i64))]) (b:=1) (es:=1) (wr:=false) (l:=a) (jN _) rfl]; first | done | rfl))))
def LR (a:(List UInt8)):Option (List Int):=Pc aA a
def D3 (C:OT):Prop:=∀ (a:(List UInt8)),C 78 [(im (a.map c8) false)]=(LR a).map fun y=>(im (y.map (cI .i64)) false)
def eZ (a:Int) (b:(List al)) (c:(List av)) (d:(List Bool)):az:=bx [(iA a),(bo 2 0 b.length false),(bo 3 0 c.length false),(bo 4 0 d.length false)]
def jd (a:Int) (b:(List al)) (c:(List av)) (d:(List Bool)):az:=bx [(iA a),(im (b.map ae) true),(im (c.map ah) true),(im (d.map cB) true)]
def pS (a:Int) (b:(List al)) (c:(List av)) (d:(List Bool)):az:=bx [(iA a),(bo 2 0 b.length false),(bo 3 0 c.length false),(bo 4 0 d.length false)]
def jq (n:Nat) (b:(List (List UInt8))) (g:Int) (h:(List al)) (i:(List av)) (j:(List Bool)) (k:Int):Nat->Int->(List al)->(List av)->(List Bool)->Option ((Int×Int)⊕((List al)×(List av)×(List Bool)))
 | 0,_,_,_,_=>none
 | m+1,c,d,e,f=>bif (decide (c<((b.length:Int)))) then ((bt b c).bind fun l=>(LR l).bind fun a=>(bif (((a.length:Int))==4) then ((bt a 0).bind fun o=>some (o==1)) else (some false)).bind fun p=>bif p then ((bt a 1).bind fun q=>(bt a 2).bind fun r=>(bt a 3).bind fun s=>(cU 24 d ([(al.mk q r s)])).bind fun t=>(cU 1 f ([true])).bind fun u=>jq n b g h i j k m (wr .i64 (c+1)) t e u) else ((bif (((a.length:Int))==3) then ((bt a 0).bind fun v=>some (v==2)) else (some false)).bind fun w=>bif w then ((bt a 1).bind fun x=>(bt a 2).bind fun y=>(cU 16 e ([(av.mk x y)])).bind fun z=>(cU 1 f ([false])).bind fun a0=>jq n b g h i j k m (wr .i64 (c+1)) d z a0) else (some ((Sum.inl ((530,0))))))) else (some ((Sum.inr ((d,e,f)))))
theorem Es (am:D3 C) {w314:A} (a6:(List (List UInt8))) (i:Int) (j:(List al)) (k:(List av)) (o:(List Bool)) (h:Int) {K:((Int×Int)⊕((List al)×(List av)×(List Bool)))->Option γ} (x0:∀ (p:Int) (q:Int) (s1:A) (s6:A) (s7:A) (q1:az) (q2:az) (q3:az) (q4:az),J φ (kr (St.mk [(1,s1),(4,(pt 0 0)),(5,(iA p)),(6,s6),(7,s7)] [bx [(iA q),XU,XU,XU],q1,q2,q3,q4])) kL (K (Sum.inl ((p,q)))) some) (x1:∀ (p:(List al)) (q:(List av)) (o2:(List Bool)) (s1:A) (s5:A) (s7:A),J φ (kx 0 (St.mk [(1,s1),(4,(pt 0 0)),(5,s5),(6,(pt 1 0)),(7,s7)] [(jd i j k o),bx [(iA h),(bo 2 0 p.length false),(bo 3 0 q.length false),(bo 4 0 o2.length false)],az.row false 3 (p.map ae),az.row false 2 (q.map ah),az.row false 1 (o2.map cB)])) kL (K (Sum.inr ((p,q,o2)))) some) :
  ∀ (m:Nat) (a4:Int) (c:(List al)) (d:(List av)) (a:(List Bool)),J φ (aH (cx C) (ec C n 8) (ey C n 8) (n+8) 60 0 0 5 kx kg kr kp m (St.mk [(1,(im (List.map (cL c8) a6) false)),(4,(pt 0 0)),(5,w314),(6,(pt 1 0)),(7,(iA a4))] [(jd i j k o),(pS h c d a),az.row false 3 (c.map ae),az.row false 2 (d.map ah),az.row false 1 (a.map cB)])) kL (jq n a6 i j k o h m a4 c d a) K:=by
  refine nI (fun _ _ _ _=>.nn) fun m ih a4 c d a=>.lp (MJ ..) ?_
  unfold jq
  refine .st (dr (e:=78)) (.st (aW ..) (.bX ?_ ?_))
  ·refine .bd (fa (e:=78) (es:=1)) fun a5=>.s (im (a5.map c8) false) (.bd (g:=fun (y:(List Int))=>(im (y.map (cI .i64)) false)) (by show C 78 [snap _ (im (a5.map c8) false)]=_; simp only[bJ,dg,dw (H:=[(jd i j k o),(pS h c d a),az.row false 3 (c.map ae),az.row false 2 (d.map ah),az.row false 1 (a.map cB)]) (b:=2) (es:=3) (l:=c) bM rfl,dw (H:=[(jd i j k o),(pS h c d a),az.row false 3 (c.map ae),az.row false 2 (d.map ah),az.row false 1 (a.map cB)]) (b:=3) (es:=2) (l:=d) bS rfl,dw (H:=[(jd i j k o),(pS h c d a),az.row false 3 (c.map ae),az.row false 2 (d.map ah),az.row false 1 (a.map cB)]) (b:=4) (es:=1) (l:=a) ft rfl]; exact am a5) fun aw=>.st (dr (e:=3)) (.st (aV ..) (.bg (fun t (y:Bool)=>∃ a7 a8 a9 aa:A,t=[(bA y),a7,a8,a9,aa]) ?_ ?_)))
   ·refine .bi ?_ ?_
    ·exact .bd (fa (e:=3) (es:=1)) fun ar=>.s (iA ar) (.st (aV ..) (.lg ⟨_,_,_,_,rfl⟩))
    exact .lg ⟨_,_,_,_,rfl⟩
   rintro _ ax ⟨a7,a8,a9,aa,rfl⟩
   refine .u4 (.uc (.bX ?_ ?_))
   ·refine .s2 (bo 2 0 c.length false) (.bd (fa (e:=3) (es:=1)) fun v=>.s (iA v) (.bd (fa (e:=3) (es:=1)) fun w=>.s (iA w) (.bd (fa (e:=3) (es:=1)) fun x=>.s (iA x) (.s (ag [(iA v),(iA w),(iA x)]) (.s (im [[(iA v),(iA w),(iA x)]] true) (.bd (g:=fun (y:List al)=>((bo 2 0 y.length false),[(jd i j k o),(pS h c d a),az.row false 3 (y.map ae),az.row false 2 (d.map ah),az.row false 1 (a.map cB)])) (cp mQ (l:=c) (l2:=[(al.mk v w x)]) (b:=2) rfl (by decide) (bk (f:=ae) ([(al.mk v w x)]:List al) _ _)) fun r=>.s (pt 1 1) (.s [(jd i j k o),bx [(iA h),(bo 2 0 r.length false),(bo 3 0 d.length false),(bo 4 0 a.length false)],az.row false 3 (r.map ae),az.row false 2 (d.map ah),az.row false 1 (a.map cB)] (.s2 (bo 4 0 a.length false) (.s (im [[(bA true)]] true) (.bd (g:=fun (y:List Bool)=>((bo 4 0 y.length false),[(jd i j k o),bx [(iA h),(bo 2 0 r.length false),(bo 3 0 d.length false),(bo 4 0 a.length false)],az.row false 3 (r.map ae),az.row false 2 (d.map ah),az.row false 1 (y.map cB)])) (cp k9 (l:=a) (l2:=[true]) (b:=4) rfl (by decide) (bk (f:=cB) ([true]:List Bool) _ _)) fun ab=>.s (pt 1 3) (.sh (.st (aM ..) (.s [(jd i j k o),bx [(iA h),(bo 2 0 r.length false),(bo 3 0 d.length false),(bo 4 0 ab.length false)],az.row false 3 (r.map ae),az.row false 2 (d.map ah),az.row false 1 (ab.map cB)] (.cT j9 ?_))))))))))))))
    exact ih _ _ _ _
   refine .st (dr (e:=3)) (.st (aV ..) (.bg (fun t (y:Bool)=>∃ ad af ai aj:A,t=[(bA y),ad,af,ai,aj]) ?_ ?_))
   ·refine .bi ?_ ?_
    ·exact .bd (fa (e:=3) (es:=1)) fun au=>.s (iA au) (.st (aV ..) (.lg ⟨_,_,_,_,rfl⟩))
    exact .lg ⟨_,_,_,_,rfl⟩
   rintro _ ay ⟨ad,af,ai,aj,rfl⟩
   refine .u4 (.uc (.bX ?_ ?_))
   ·refine .s2 (bo 3 0 d.length false) (.bd (fa (e:=3) (es:=1)) fun z=>.s (iA z) (.bd (fa (e:=3) (es:=1)) fun a0=>.s (iA a0) (.s (ag [(iA z),(iA a0)]) (.s (im [[(iA z),(iA a0)]] true) (.bd (g:=fun (y:List av)=>((bo 3 0 y.length false),[(jd i j k o),(pS h c d a),az.row false 3 (c.map ae),az.row false 2 (y.map ah),az.row false 1 (a.map cB)])) (cp mR (l:=d) (l2:=[(av.mk z a0)]) (b:=3) rfl (by decide) (bk (f:=ah) ([(av.mk z a0)]:List av) _ _)) fun u=>.s (pt 1 2) (.s [(jd i j k o),bx [(iA h),(bo 2 0 c.length false),(bo 3 0 u.length false),(bo 4 0 a.length false)],az.row false 3 (c.map ae),az.row false 2 (u.map ah),az.row false 1 (a.map cB)] (.s2 (bo 4 0 a.length false) (.s (im [[(bA false)]] true) (.bd (g:=fun (y:List Bool)=>((bo 4 0 y.length false),[(jd i j k o),bx [(iA h),(bo 2 0 c.length false),(bo 3 0 u.length false),(bo 4 0 a.length false)],az.row false 3 (c.map ae),az.row false 2 (u.map ah),az.row false 1 (y.map cB)])) (cp k9 (l:=a) (l2:=[false]) (b:=4) rfl (by decide) (bk (f:=cB) ([false]:List Bool) _ _)) fun ak=>.s (pt 1 3) (.sh (.st (aM ..) (.s [(jd i j k o),bx [(iA h),(bo 2 0 c.length false),(bo 3 0 u.length false),(bo 4 0 ak.length false)],az.row false 3 (c.map ae),az.row false 2 (u.map ah),az.row false 1 (ak.map cB)] (.cT j9 ?_)))))))))))))
    exact ih _ _ _ _
   exact .s (ag [(iA 0),XU,XU,XU]) (.s [bx [(iA 0),XU,XU,XU],(pS h c d a),az.row false 3 (c.map ae),az.row false 2 (d.map ah),az.row false 1 (a.map cB)] (.ex (x0 _ _ _ _ _ _ _ _ _)))
  exact .ex (x1 _ _ _ _ _ _)
def OZ (n:Nat) (a:Int) (e:(List (List UInt8))):Option (af×Int):=
 (jq n e 0 ([]) ([]) ([]) a (n+8) 0 (([]:List al)) (([]:List av)) (([]:List Bool))).bind fun f=>match f with | (Sum.inl ((g,h)))=>some (((af.mk h ([]) ([]) ([])),g)) | (Sum.inr ((b,c,d)))=>(J1 ((af.mk a b c d))).bind fun i=>bif (!i) then (some (((af.mk 0 ([]) ([]) ([])),530))) else (some (((af.mk a b c d),0)))
theorem Vy (C:OT) (n:Nat) (h:xV C) (i:D3 C) (e:Int) (f:(List (List UInt8))):TJ C n 60 [(iA e),(im (List.map (cL c8) f) false)] (OZ n e f) (fun y=>(tp [(ag (aa y.1)),(iA y.2)])):=by
 refine .lp (WA ..) ?_
 unfold OZ
 refine .sq (pt 0 0) (.s (ag [(iA e),XU,XU,XU]) (.sq (pt 1 0) (.s [bx [(iA 0),XU,XU,XU],bx [(iA e),XU,XU,XU]] (.as (Es C n _ _ _ _ i f 0 ([]) ([]) ([]) e ?_ ?_ _ 0 (([]:List al)) (([]:List av)) (([]:List Bool)))))))
 ·intro o j p q r w359 w360 w361 w362
  exact .un rfl (.s (ag [(iA j),XU,XU,XU]) (.lv r9))
 ·intro a c d t u v
  refine .un rfl (.cT j9 (.s (ag [(iA e),(bo 2 0 a.length false),(bo 3 0 c.length false),(bo 4 0 d.length false)]) (.bd (g:=fun (y:Bool)=>(bA y)) (by show C 55 [snap [bx [(iA 0),XU,XU,XU],(eZ e a c d),az.row false 3 (a.map ae),az.row false 2 (c.map ah),az.row false 1 (d.map cB)] (ag [(iA e),(bo 2 0 a.length false),(bo 3 0 c.length false),(bo 4 0 d.length false)])]=_; simp only[bJ,dg,dw (H:=[bx [(iA 0),XU,XU,XU],(eZ e a c d),az.row false 3 (a.map ae),az.row false 2 (c.map ah),az.row false 1 (d.map cB)]) (b:=2) (es:=3) (l:=a) bM rfl,dw (H:=[bx [(iA 0),XU,XU,XU],(eZ e a c d),az.row false 3 (a.map ae),az.row false 2 (c.map ah),az.row false 1 (d.map cB)]) (b:=3) (es:=2) (l:=c) bS rfl,dw (H:=[bx [(iA 0),XU,XU,XU],(eZ e a c d),az.row false 3 (a.map ae),az.row false 2 (c.map ah),az.row false 1 (d.map cB)]) (b:=4) (es:=1) (l:=d) ft rfl]; exact h ((af.mk e a c d))) fun k=>.s (bA (!k)) (.bX ?_ ?_))))
  ·exact .s (ag [(iA 0),XU,XU,XU]) (.s [bx [(iA 0),XU,XU,XU],(eZ e a c d),az.row false 3 (a.map ae),az.row false 2 (c.map ah),az.row false 1 (d.map cB)] (.s (ag [(iA 0),XU,XU,XU]) (.lv r9)))
  exact .s (ag [(iA e),(bo 2 0 a.length false),(bo 3 0 c.length false),(bo 4 0 d.length false)]) (.s [(eZ e a c d),(eZ e a c d),az.row false 3 (a.map ae),az.row false 2 (c.map ah),az.row false 1 (d.map cB)] (.s (ag [(iA e),(bo 2 0 a.length false),(bo 3 0 c.length false),(bo 4 0 d.length false)]) (.lv (by show aK [(eZ e a c d),(eZ e a c d),az.row false 3 (a.map ae),az.row false 2 (c.map ah),az.row false 1 (d.map cB)] (tp [(ag [(iA e),(bo 2 0 a.length false),(bo 3 0 c.length false),(bo 4 0 d.length false)]),(iA 0)])=_; first | (simp only[bJ,dg,aK,aO (H:=[(eZ e a c d),(eZ e a c d),az.row false 3 (a.map ae),az.row false 2 (c.map ah),az.row false 1 (d.map cB)]) (b:=2) (es:=3) (wr:=false) (l:=a) bM rfl,aO (H:=[(eZ e a c d),(eZ e a c d),az.row false 3 (a.map ae),az.row false 2 (c.map ah),az.row false 1 (d.map cB)]) (b:=3) (es:=2) (wr:=false) (l:=c) bS rfl,aO (H:=[(eZ e a c d),(eZ e a c d),az.row false 3 (a.map ae),az.row false 2 (c.map ah),az.row false 1 (d.map cB)]) (b:=4) (es:=1) (wr:=false) (l:=d) ft rfl]; done) | (simp only[bJ,dG,aK,aO (H:=[(eZ e a c d),(eZ e a c d),az.row false 3 (a.map ae),az.row false 2 (c.map ah),az.row false 1 (d.map cB)]) (b:=2) (es:=3) (wr:=false) (l:=a) bM rfl,aO (H:=[(eZ e a c d),(eZ e a c d),az.row false 3 (a.map ae),az.row false 2 (c.map ah),az.row false 1 (d.map cB)]) (b:=3) (es:=2) (wr:=false) (l:=c) bS rfl,aO (H:=[(eZ e a c d),(eZ e a c d),az.row false 3 (a.map ae),az.row false 2 (c.map ah),az.row false 1 (d.map cB)]) (b:=4) (es:=1) (wr:=false) (l:=d) ft rfl]; first | done | rfl)))))
def LJ (a:Int) (b:(List (List UInt8))):Option (af×Int):=OZ aA a b
def I1 (C:OT):Prop:=∀ (a:Int) (b:(List (List UInt8))),C 60 [(iA a),(im (List.map (cL c8) b) false)]=(LJ a b).map fun y=>(tp [(ag (aa y.1)),(iA y.2)])
def OL (n:Nat) (b:aC) (a:bn):Option (af×Int):=
 bif (decide (0<=a.Who)&&decide (a.Who<2)) then ((jL a.Who b.Desks.1 b.Desks.2).bind fun c=>bif (a.Kind==1) then ((LG c a.A a.B).bind fun d=>some ((d.1,d.2))) else (bif (a.Kind==2) then ((xM a.A 0 (wr .i64 (((b.Told.length:Int)) - 1))).bind fun h=>bif (!h) then (some (((af.mk 0 ([]) ([]) ([])),530))) else ((bt b.Told a.A).bind fun i=>(LH c i).bind fun e=>some ((e.1,e.2)))) else (bif (a.Kind==3) then ((LI c a.A a.B).bind fun f=>some ((f.1,f.2))) else (bif (a.Kind==7) then (bif (decide (0<=a.Who)&&decide (a.Who<2)) then ((jL a.Who b.Synced.1 b.Synced.2).bind fun j=>(xM a.A j ((c.Order.length:Int))).bind fun k=>bif (!k) then (some (((af.mk 0 ([]) ([]) ([])),530))) else ((LK c).bind fun l=>(eJ l 0 a.A).bind fun o=>(LJ a.Who o).bind fun g=>some ((g.1,g.2)))) else none) else (some (((af.mk 0 ([]) ([]) ([])),530))))))) else none
theorem Vl (C:OT) (n:Nat) (q:pg C) (t:IY C) (u:IZ C) (w:I0 C) (x:I1 C) (z:I2 C) (i:aC) (c:bn):TJ C n 37 [(ag (aj i)),(ag (aq c))] (OL n i c) (fun y=>(tp [(ag (aa y.1)),(iA y.2)])):=by
 refine .lp (Wn ..) ?_
 unfold OL
 refine .s ((pt 0 0),[bx (aj i)]) (.sq (pt 1 0) (.s ((pt 2 0),[bx (aj i),bx (aq c),bx [(iA 0),XU,XU,XU]]) (.s2 (iA c.Who) (.s (pt 0 0) (.gd fun hg=>.st (v:=(pt 0 (0+Int.toNat c.Who*4))) (b8 (e:=26) (n:=4) (len:=2) j9 j9 rfl hg) (.a2 (f:=fun (y:af)=>(ag [(iA y.Self),(im (y.Leases.map ae) false),(im (y.Calls.map ah) false),(im (y.Order.map cB) false)])) (fun h=>by rw[h]; kernel_rfl) (fun h=>by rw[h]; kernel_rfl) fun d=>.sq (pt 3 0) (.s [bx (aj i),bx (aq c),bx [(iA 0),XU,XU,XU],bx (aa d)] (.s2 (iA c.Kind) (.st (aV ..) (.bX ?_ ?_))))))))))
 ·exact .s (ag (aa d)) (.s2 (iA c.A) (.s2 (iA c.B) (.bd (g:=fun (y:(af×Int))=>(tp [(ag (aa y.1)),(iA y.2)])) (by simp only[bJ,dg]; exact t d c.A c.B) fun j=>.s (ag (aa j.1)) (.s (iA j.2) (.s [bx (aj i),bx (aq c),bx (aa j.1),bx (aa d)] (.s (ag (aa j.1)) (.lv r9)))))))
 refine .st (aV ..) (.bX ?_ ?_)
 ·refine .s2 (iA c.A) (.s2 (im (i.Told.map ae) false) (.st (dr (e:=50)) (.st (du ..) (.bd (q c.A 0 (wr .i64 (((i.Told.length:Int)) - 1))) fun y5=>.s (bA (!y5)) (.bX ?_ ?_)))))
  ·exact .s cg (.s [bx (aj i),bx (aq c),bx [(iA 0),XU,XU,XU],bx (aa d)] (.s cg (.lv r9)))
  exact .s (ag (aa d)) (.s2 (im (i.Told.map ae) false) (.s2 (iA c.A) (.bd (fa (e:=50) (es:=3)) fun r=>.s (ag (ae r)) (.bd (g:=fun (y:(af×Int))=>(tp [(ag (aa y.1)),(iA y.2)])) (by simp only[bJ,dg]; exact u d r) fun k=>.s (ag (aa k.1)) (.s (iA k.2) (.s [bx (aj i),bx (aq c),bx (aa k.1),bx (aa d)] (.s (ag (aa k.1)) (.lv r9))))))))
 refine .st (aV ..) (.bX ?_ ?_)
 ·exact .s (ag (aa d)) (.s2 (iA c.A) (.s2 (iA c.B) (.bd (g:=fun (y:(af×Int))=>(tp [(ag (aa y.1)),(iA y.2)])) (by simp only[bJ,dg]; exact w d c.A c.B) fun o=>.s (ag (aa o.1)) (.s (iA o.2) (.s [bx (aj i),bx (aq c),bx (aa o.1),bx (aa d)] (.s (ag (aa o.1)) (.lv r9)))))))
 refine .st (aV ..) (.bX ?_ ?_)
 ·refine .s2 (iA c.A) (.s2 (iA c.Who) (.s (pt 0 8) (.gd fun hg=>.st (v:=(pt 0 (8+Int.toNat c.Who*1))) (b8 (e:=3) (n:=1) (len:=2) j9 j9 rfl hg) (.a2 (f:=fun (y:Int)=>(iA y)) (fun h=>by rw[h]; kernel_rfl) (fun h=>by rw[h]; kernel_rfl) fun a4=>.s2 (im (d.Order.map cB) false) (.st (dr (e:=4)) (.bd (q c.A a4 ((d.Order.length:Int))) fun a5=>.s (bA (!a5)) (.bX ?_ ?_)))))))
  ·exact .s cg (.s [bx (aj i),bx (aq c),bx [(iA 0),XU,XU,XU],bx (aa d)] (.s cg (.lv r9)))
  exact .s2 (iA c.Who) (.s (ag (aa d)) (.bd (g:=fun (y:(List (List UInt8)))=>(im (List.map (cL c8) y) false)) (by simp only[bJ,dg]; exact z d) fun a6=>.s2 (iA c.A) (.bd (fQ (e:=78) (es:=1) (f:=(cL c8)) (l:=a6) (a:=0) (b:=c.A) j9 j9 (fun _=>rfl) (.inl ⟨rfl,rfl⟩) (.inr ⟨_,rfl⟩)) fun a7=>.bd (g:=fun (y:(af×Int))=>(tp [(ag (aa y.1)),(iA y.2)])) (by simp only[bJ,dg]; exact x c.Who a7) fun p=>.s (ag (aa p.1)) (.s (iA p.2) (.s [bx (aj i),bx (aq c),bx (aa p.1),bx (aa d)] (.s (ag (aa p.1)) (.lv r9)))))))
 exact .s cg (.s [bx (aj i),bx (aq c),bx [(iA 0),XU,XU,XU],bx (aa d)] (.s cg (.lv r9)))
def Pm (a:aC) (b:bn):Option (af×Int):=OL aA a b
def IV (C:OT):Prop:=∀ (a:aC) (b:bn),C 37 [(ag (aj a)),(ag (aq b))]=(Pm a b).map fun y=>(tp [(ag (aa y.1)),(iA y.2)])
def rP (a:aC) (b:(List al)):az:=bx (aa a.Desks.1++aa a.Desks.2++[(iA a.Synced.1),(iA a.Synced.2),(bo 4 0 b.length false),(im (a.Spoken.1.map ah) false),(im (a.Spoken.2.map ah) false)])
def rQ (a:aC) (b:(List av)):az:=bx (aa a.Desks.1++aa a.Desks.2++[(iA a.Synced.1),(iA a.Synced.2),(im (a.Told.map ae) false),(bo 4 0 b.length false),(im (a.Spoken.2.map ah) false)])
def rR (a:aC) (b:(List av)):az:=bx (aa a.Desks.1++aa a.Desks.2++[(iA a.Synced.1),(iA a.Synced.2),(im (a.Told.map ae) false),(im (a.Spoken.1.map ah) false),(bo 4 0 b.length false)])
def F7 (n:Nat) (a:aC) (b:bn):Option (aC×Int):=
 (LD a).bind fun h=>(bif (!h) then (some true) else ((xM b.Who 0 1).bind fun i=>some (!i))).bind fun j=>bif j then (some (((aC.mk (((af.mk 0 ([]) ([]) ([])),(af.mk 0 ([]) ([]) ([])))) ((0,0)) ([]) (([],[]))),530))) else (bif (decide (0<=b.Who)&&decide (b.Who<2)) then ((jL b.Who a.Desks.1 a.Desks.2).bind fun c=>bif (b.Kind==4) then (bif (decide (0<=b.Who)&&decide (b.Who<2)) then ((jL b.Who (((c.Order.length:Int),a.Synced.2)) ((a.Synced.1,(c.Order.length:Int)))).bind fun e=>some (((aC.mk a.Desks ((e.1,e.2)) a.Told a.Spoken),0))) else none) else (bif (b.Kind==5) then ((xM b.A 0 (wr .i64 (((c.Leases.length:Int)) - 1))).bind fun k=>bif (!k) then (some (((aC.mk (((af.mk 0 ([]) ([]) ([])),(af.mk 0 ([]) ([]) ([])))) ((0,0)) ([]) (([],[]))),530))) else (bif (decide (0<=b.Who)&&decide (b.Who<2)) then ((jL b.Who a.Synced.1 a.Synced.2).bind fun l=>(bt c.Leases b.A).bind fun o=>(JZ c l o).bind fun p=>bif (!p) then (some (((aC.mk (((af.mk 0 ([]) ([]) ([])),(af.mk 0 ([]) ([]) ([])))) ((0,0)) ([]) (([],[]))),530))) else ((cU 24 ([]) a.Told).bind fun q=>(bt c.Leases b.A).bind fun r=>(cU 24 q ([r])).bind fun s=>some (((aC.mk a.Desks a.Synced s a.Spoken),0)))) else none)) else (bif (b.Kind==6) then ((xM b.A 0 (wr .i64 (((c.Calls.length:Int)) - 1))).bind fun t=>bif (!t) then (some (((aC.mk (((af.mk 0 ([]) ([]) ([])),(af.mk 0 ([]) ([]) ([])))) ((0,0)) ([]) (([],[]))),530))) else (bif (decide (0<=b.Who)&&decide (b.Who<2)) then ((jL b.Who a.Synced.1 a.Synced.2).bind fun u=>(bt c.Calls b.A).bind fun v=>(Li c u v).bind fun w=>bif (!w) then (some (((aC.mk (((af.mk 0 ([]) ([]) ([])),(af.mk 0 ([]) ([]) ([])))) ((0,0)) ([]) (([],[]))),530))) else (bif (decide (0<=b.Who)&&decide (b.Who<2)) then ((jL b.Who a.Spoken.1 a.Spoken.2).bind fun x=>(cU 16 ([]) x).bind fun y=>(bt c.Calls b.A).bind fun z=>(cU 16 y ([z])).bind fun f=>bif decide (b.Who=0) then (some (((aC.mk a.Desks a.Synced a.Told ((f,a.Spoken.2))),0))) else bif decide (b.Who=1) then (some (((aC.mk a.Desks a.Synced a.Told ((a.Spoken.1,f))),0))) else none) else none)) else none)) else ((Pm a b).bind fun d=>bif (d.2 != 0) then (some (((aC.mk (((af.mk 0 ([]) ([]) ([])),(af.mk 0 ([]) ([]) ([])))) ((0,0)) ([]) (([],[]))),d.2))) else (bif (decide (0<=b.Who)&&decide (b.Who<2)) then ((jL b.Who ((d.1,a.Desks.2)) ((a.Desks.1,d.1))).bind fun g=>some (((aC.mk ((g.1,g.2)) a.Synced a.Told a.Spoken),0))) else none))))) else none)
theorem T7 (C:OT) (n:Nat) (a6:IU C) (u:pg C) (a7:Bw C) (a8:xR C) (a9:IV C) (a:aC) (c:bn):TJ C n 7 [(ag (aj a)),(ag (aq c))] (F7 n a c) (fun y=>(tp [(ag (aj y.1)),(iA y.2)])):=by
 refine .lp (e7 ..) ?_
 unfold F7
 refine .s ((pt 0 0),[bx (aj a)]) (.sq (pt 1 0) (.s ((pt 2 0),[bx (aj a),bx (aq c),bD]) (.s (ag (aj a)) (.bd (g:=fun (y:Bool)=>(bA y)) (by simp only[bJ,dg]; exact a6 a) fun y1=>.s (bA (!y1)) (.bg (fun t (y:Bool)=>∃ x z j7 j8:A,t=[(bA y),x,z,j7,j8]) ?_ ?_)))))
 ·refine .bi ?_ ?_
  ·exact .lg ⟨_,_,_,_,rfl⟩
  exact .s (pt 1 1) (.s (iA c.Who) (.bd (u c.Who 0 1) fun y3=>.s (bA (!y3)) (.lg ⟨_,_,_,_,rfl⟩)))
 rintro _ y4 ⟨x,z,j7,j8,rfl⟩
 refine .u4 (.uc (.bX ?_ ?_))
 ·exact .s b9 (.s [bx (aj a),bx (aq c),bD] (.s b9 (.lv r9)))
 refine .s2 (iA c.Who) (.s (pt 0 0) (.gd fun hg=>.st (v:=(pt 0 (0+Int.toNat c.Who*4))) (b8 (e:=26) (n:=4) (len:=2) j9 j9 rfl hg) (.a2 (f:=fun (y:af)=>(ag [(iA y.Self),(im (y.Leases.map ae) false),(im (y.Calls.map ah) false),(im (y.Order.map cB) false)])) (fun h=>by rw[h]; kernel_rfl) (fun h=>by rw[h]; kernel_rfl) fun d=>.sq (pt 3 0) (.s [bx (aj a),bx (aq c),bD,bx (aa d)] (.s2 (iA c.Kind) (.st (aV ..) (.bX ?_ ?_)))))))
 ·exact .s2 (iA c.Who) (.s2 (im (d.Order.map cB) false) (.st (dr (e:=4)) (.s (pt 0 8) (.gd fun hg=>.st (v:=(pt 0 (8+Int.toNat c.Who*1))) (b8 (e:=3) (n:=1) (len:=2) j9 j9 rfl hg) (.a2 (f:=fun (y:Int×Int)=>[bx (aa a.Desks.1++aa a.Desks.2++[(iA y.1),(iA y.2),(im (a.Told.map ae) false),(im (a.Spoken.1.map ah) false),(im (a.Spoken.2.map ah) false)]),bx (aq c),bD,bx (aa d)]) (fun h=>by rw[h]; kernel_rfl) (fun h=>by rw[h]; kernel_rfl) fun k=>.s (ag (aa a.Desks.1++aa a.Desks.2++[(iA k.1),(iA k.2),(im (a.Told.map ae) false),(im (a.Spoken.1.map ah) false),(im (a.Spoken.2.map ah) false)])) (.s [bx (aa a.Desks.1++aa a.Desks.2++[(iA k.1),(iA k.2),(im (a.Told.map ae) false),(im (a.Spoken.1.map ah) false),(im (a.Spoken.2.map ah) false)]),bx (aq c),bx (aa a.Desks.1++aa a.Desks.2++[(iA k.1),(iA k.2),(im (a.Told.map ae) false),(im (a.Spoken.1.map ah) false),(im (a.Spoken.2.map ah) false)]),bx (aa d)] (.s (ag (aa a.Desks.1++aa a.Desks.2++[(iA k.1),(iA k.2),(im (a.Told.map ae) false),(im (a.Spoken.1.map ah) false),(im (a.Spoken.2.map ah) false)])) (.lv r9))))))))
 refine .st (aV ..) (.bX ?_ ?_)
 ·refine .s2 (iA c.A) (.s2 (im (d.Leases.map ae) false) (.st (dr (e:=50)) (.st (du ..) (.bd (u c.A 0 (wr .i64 (((d.Leases.length:Int)) - 1))) fun ai=>.s (bA (!ai)) (.bX ?_ ?_)))))
  ·exact .s b9 (.s [bx (aj a),bx (aq c),bD,bx (aa d)] (.s b9 (.lv r9)))
  refine .s (ag (aa d)) (.s2 (iA c.Who) (.s (pt 0 8) (.gd fun hg=>.st (v:=(pt 0 (8+Int.toNat c.Who*1))) (b8 (e:=3) (n:=1) (len:=2) j9 j9 rfl hg) (.a2 (f:=fun (y:Int)=>(iA y)) (fun h=>by rw[h]; kernel_rfl) (fun h=>by rw[h]; kernel_rfl) fun ak=>.s2 (im (d.Leases.map ae) false) (.s2 (iA c.A) (.bd (fa (e:=50) (es:=3)) fun a5=>.s (ag (ae a5)) (.bd (g:=fun (y:Bool)=>(bA y)) (by simp only[bJ,dg]; exact a7 d ak a5) fun am=>.s (bA (!am)) (.bX ?_ ?_))))))))
  ·exact .s b9 (.s [bx (aj a),bx (aq c),bD,bx (aa d)] (.s b9 (.lv r9)))
  exact .s XU (.s2 (im (a.Told.map ae) false) (.bd (g:=fun (y:List al)=>((bo 4 0 y.length false),[bx (aj a),bx (aq c),bD,bx (aa d),az.row false 3 (y.map ae)])) (fz mQ (l:=[]) (l2:=a.Told) (bk ..)) fun an=>.cT j9 (.s (pt 3 1) (.cT j9 (.s (im (d.Leases.map ae) false) (.cT j9 (.s (pt 1 2) (.cT j9 (.s (iA c.A) (.cT j9 (.bd (fa (e:=50) (es:=3)) fun q=>.cT j9 (.s (ag (ae q)) (.cT j9 (.s (im [[(iA q.No),(iA q.Holder),(iA q.Until)]] true) (.bd (g:=fun (y:List al)=>((bo 4 0 y.length false),[bx (aj a),bx (aq c),bD,bx (aa d),az.row false 3 (y.map ae)])) (cp mQ (l:=an) (l2:=[q]) (b:=4) rfl (by decide) (bk (f:=ae) ([q]:List al) _ _)) fun j=>.s (pt 0 10) (.sh (.s (ag (aa a.Desks.1++aa a.Desks.2++[(iA a.Synced.1),(iA a.Synced.2),(bo 4 0 j.length false),(im (a.Spoken.1.map ah) false),(im (a.Spoken.2.map ah) false)])) (.s [(rP a j),bx (aq c),(rP a j),bx (aa d),az.row false 3 (j.map ae)] (.s (ag (aa a.Desks.1++aa a.Desks.2++[(iA a.Synced.1),(iA a.Synced.2),(bo 4 0 j.length false),(im (a.Spoken.1.map ah) false),(im (a.Spoken.2.map ah) false)])) (.lv (by show aK [(rP a j),bx (aq c),(rP a j),bx (aa d),az.row false 3 (j.map ae)] (tp [(ag (aa a.Desks.1++aa a.Desks.2++[(iA a.Synced.1),(iA a.Synced.2),(bo 4 0 j.length false),(im (a.Spoken.1.map ah) false),(im (a.Spoken.2.map ah) false)])),(iA 0)])=_; first | (simp only[bJ,dg,aK,aO (H:=[(rP a j),bx (aq c),(rP a j),bx (aa d),az.row false 3 (j.map ae)]) (b:=4) (es:=3) (wr:=false) (l:=j) bM rfl]; done) | (simp only[bJ,dG,aK,aO (H:=[(rP a j),bx (aq c),(rP a j),bx (aa d),az.row false 3 (j.map ae)]) (b:=4) (es:=3) (wr:=false) (l:=j) bM rfl]; first | done | rfl))))))))))))))))))))))
 refine .st (aV ..) (.bX ?_ ?_)
 ·refine .s2 (iA c.A) (.s2 (im (d.Calls.map ah) false) (.st (dr (e:=54)) (.st (du ..) (.bd (u c.A 0 (wr .i64 (((d.Calls.length:Int)) - 1))) fun ao=>.s (bA (!ao)) (.bX ?_ ?_)))))
  ·exact .s b9 (.s [bx (aj a),bx (aq c),bD,bx (aa d)] (.s b9 (.lv r9)))
  refine .s (ag (aa d)) (.s2 (iA c.Who) (.s (pt 0 8) (.gd fun hg=>.st (v:=(pt 0 (8+Int.toNat c.Who*1))) (b8 (e:=3) (n:=1) (len:=2) j9 j9 rfl hg) (.a2 (f:=fun (y:Int)=>(iA y)) (fun h=>by rw[h]; kernel_rfl) (fun h=>by rw[h]; kernel_rfl) fun ap=>.s2 (im (d.Calls.map ah) false) (.s2 (iA c.A) (.bd (fa (e:=54) (es:=2)) fun w=>.s (ag [(iA w.Bar),(iA w.Program)]) (.bd (g:=fun (y:Bool)=>(bA y)) (by simp only[bJ,dg]; exact a8 d ap w) fun ar=>.s (bA (!ar)) (.bX ?_ ?_))))))))
  ·exact .s b9 (.s [bx (aj a),bx (aq c),bD,bx (aa d)] (.s b9 (.lv r9)))
  refine .s (pt 1 1) (.s (iA c.Who) (.s XU (.s2 (iA c.Who) (.s (pt 0 11) (.gd fun hg=>.st (v:=(pt 0 (11+Int.toNat c.Who*1))) (b8 (e:=23) (n:=1) (len:=2) j9 j9 rfl hg) (.a2 (f:=fun (y:(List av))=>(im (y.map ah) false)) (fun h=>by rw[h]; kernel_rfl) (fun h=>by rw[h]; kernel_rfl) fun au=>.cT j9 (.bd (g:=fun (y:List av)=>((bo 4 0 y.length false),[bx (aj a),bx (aq c),bD,bx (aa d),az.row false 2 (y.map ah)])) (fz mR (l:=[]) (l2:=au) (bk ..)) fun aw=>.cT j9 (.s (pt 3 2) (.cT j9 (.s (im (d.Calls.map ah) false) (.cT j9 (.s (pt 1 2) (.cT j9 (.s (iA c.A) (.cT j9 (.bd (fa (e:=54) (es:=2)) fun r=>.cT j9 (.s (ag [(iA r.Bar),(iA r.Program)]) (.cT j9 (.s (im [[(iA r.Bar),(iA r.Program)]] true) ?_)))))))))))))))))))
  refine .cT j9 (.bd (g:=fun (y:List av)=>((bo 4 0 y.length false),[bx (aj a),bx (aq c),bD,bx (aa d),az.row false 2 (y.map ah)])) (cp mR (l:=aw) (l2:=[r]) (b:=4) rfl (by decide) (bk (f:=ah) ([r]:List av) _ _)) fun i=>.cT j9 (.s (pt 0 11) (.sp (fun ax=>?_) (fun _=>?_))))
  ·exact .st (v:=(pt 0 11)) (by rw[X7 ax]; kernel_rfl) (.sh (.s (ag (aa a.Desks.1++aa a.Desks.2++[(iA a.Synced.1),(iA a.Synced.2),(im (a.Told.map ae) false),(bo 4 0 i.length false),(im (a.Spoken.2.map ah) false)])) (.s [(rQ a i),bx (aq c),(rQ a i),bx (aa d),az.row false 2 (i.map ah)] (.s (ag (aa a.Desks.1++aa a.Desks.2++[(iA a.Synced.1),(iA a.Synced.2),(im (a.Told.map ae) false),(bo 4 0 i.length false),(im (a.Spoken.2.map ah) false)])) (.lv (by show aK [(rQ a i),bx (aq c),(rQ a i),bx (aa d),az.row false 2 (i.map ah)] (tp [(ag (aa a.Desks.1++aa a.Desks.2++[(iA a.Synced.1),(iA a.Synced.2),(im (a.Told.map ae) false),(bo 4 0 i.length false),(im (a.Spoken.2.map ah) false)])),(iA 0)])=_; first | (simp only[bJ,dg,aK,aO (H:=[(rQ a i),bx (aq c),(rQ a i),bx (aa d),az.row false 2 (i.map ah)]) (b:=4) (es:=2) (wr:=false) (l:=i) bS rfl]; done) | (simp only[bJ,dG,aK,aO (H:=[(rQ a i),bx (aq c),(rQ a i),bx (aa d),az.row false 2 (i.map ah)]) (b:=4) (es:=2) (wr:=false) (l:=i) bS rfl]; first | done | rfl)))))))
  refine .sp (fun ay=>?_) (fun _=>?_)
  ·exact .st (v:=(pt 0 12)) (by rw[X7 ay]; kernel_rfl) (.sh (.s (ag (aa a.Desks.1++aa a.Desks.2++[(iA a.Synced.1),(iA a.Synced.2),(im (a.Told.map ae) false),(im (a.Spoken.1.map ah) false),(bo 4 0 i.length false)])) (.s [(rR a i),bx (aq c),(rR a i),bx (aa d),az.row false 2 (i.map ah)] (.s (ag (aa a.Desks.1++aa a.Desks.2++[(iA a.Synced.1),(iA a.Synced.2),(im (a.Told.map ae) false),(im (a.Spoken.1.map ah) false),(bo 4 0 i.length false)])) (.lv (by show aK [(rR a i),bx (aq c),(rR a i),bx (aa d),az.row false 2 (i.map ah)] (tp [(ag (aa a.Desks.1++aa a.Desks.2++[(iA a.Synced.1),(iA a.Synced.2),(im (a.Told.map ae) false),(im (a.Spoken.1.map ah) false),(bo 4 0 i.length false)])),(iA 0)])=_; first | (simp only[bJ,dg,aK,aO (H:=[(rR a i),bx (aq c),(rR a i),bx (aa d),az.row false 2 (i.map ah)]) (b:=4) (es:=2) (wr:=false) (l:=i) bS rfl]; done) | (simp only[bJ,dG,aK,aO (H:=[(rR a i),bx (aq c),(rR a i),bx (aa d),az.row false 2 (i.map ah)]) (b:=4) (es:=2) (wr:=false) (l:=i) bS rfl]; first | done | rfl)))))))
  exact .nn
 refine .s (ag (aj a)) (.s (ag (aq c)) (.bd (g:=fun (y:(af×Int))=>(tp [(ag (aa y.1)),(iA y.2)])) (by simp only[bJ,dg]; exact a9 a c) fun p=>.s (ag (aa p.1)) (.s (iA p.2) (.sq (pt 4 0) (.s [bx (aj a),bx (aq c),bD,bx (aa d),bx (aa p.1)] (.st (bf ..) (.bX ?_ ?_)))))))
 ·exact .s b9 (.s [bx (aj a),bx (aq c),bD,bx (aa d),bx (aa p.1)] (.s b9 (.lv r9)))
 exact .s2 (iA c.Who) (.s (ag (aa p.1)) (.s (pt 0 0) (.gd fun hg=>.st (v:=(pt 0 (0+Int.toNat c.Who*4))) (b8 (e:=26) (n:=4) (len:=2) j9 j9 rfl hg) (.a2 (f:=fun (y:af×af)=>[bx (aa y.1++aa y.2++[(iA a.Synced.1),(iA a.Synced.2),(im (a.Told.map ae) false),(im (a.Spoken.1.map ah) false),(im (a.Spoken.2.map ah) false)]),bx (aq c),bD,bx (aa d),bx (aa p.1)]) (fun h=>by rw[h]; kernel_rfl) (fun h=>by rw[h]; kernel_rfl) fun o=>.s (ag (aa o.1++aa o.2++[(iA a.Synced.1),(iA a.Synced.2),(im (a.Told.map ae) false),(im (a.Spoken.1.map ah) false),(im (a.Spoken.2.map ah) false)])) (.s [bx (aa o.1++aa o.2++[(iA a.Synced.1),(iA a.Synced.2),(im (a.Told.map ae) false),(im (a.Spoken.1.map ah) false),(im (a.Spoken.2.map ah) false)]),bx (aq c),bx (aa o.1++aa o.2++[(iA a.Synced.1),(iA a.Synced.2),(im (a.Told.map ae) false),(im (a.Spoken.1.map ah) false),(im (a.Spoken.2.map ah) false)]),bx (aa d),bx (aa p.1)] (.s (ag (aa o.1++aa o.2++[(iA a.Synced.1),(iA a.Synced.2),(im (a.Told.map ae) false),(im (a.Spoken.1.map ah) false),(im (a.Spoken.2.map ah) false)])) (.lv r9)))))))
def G7 (a:aC) (b:bn):Option (aC×Int):=F7 aA a b
def L5 (C:OT):Prop:=∀ (a:aC) (b:bn),C 7 [(ag (aj a)),(ag (aq b))]=(G7 a b).map fun y=>(tp [(ag (aj y.1)),(iA y.2)])
def OM (n:Nat) (a:Int) (b:Int) (a2:Int):Option (af×Int):=
 (xM a 0 1).bind fun c=>(bif (!c) then (some true) else ((xM b 0 1).bind fun d=>some (!d))).bind fun e=>(bif e then (some true) else ((xM a2 1 4096).bind fun f=>some (!f))).bind fun g=>bif g then (some (((af.mk 0 ([]) ([]) ([])),1))) else (some (((af.mk a ([(al.mk 0 b a2)]) ([]) ([true])),0)))
theorem Vm (C:OT) (n:Nat) (c:pg C) (b:Int) (a:Int) (a2:Int):TJ C n 38 [(iA b),(iA a),(iA a2)] (OM n b a a2) (fun y=>(tp [(ag (aa y.1)),(iA y.2)])):=by
 refine .lp (Wo ..) ?_
 unfold OM
 refine .s ((pt 0 0),[bx [(iA 0),XU,XU,XU]]) (.bd (c b 0 1) fun j=>.s (bA (!j)) (.bg (fun t (y:Bool)=>∃ d e f:A,t=[(bA y),d,e,f]) ?_ ?_))
 ·refine .bi ?_ ?_
  ·exact .lg ⟨_,_,_,rfl⟩
  exact .bd (c a 0 1) fun k=>.s (bA (!k)) (.lg ⟨_,_,_,rfl⟩)
 rintro _ o ⟨d,e,f,rfl⟩
 refine .u4 (.bg (fun t (y:Bool)=>∃ g h i:A,t=[(bA y),g,h,i]) ?_ ?_)
 ·refine .bi ?_ ?_
  ·exact .lg ⟨_,_,_,rfl⟩
  exact .bd (c a2 1 4096) fun l=>.s (bA (!l)) (.lg ⟨_,_,_,rfl⟩)
 rintro _ p ⟨g,h,i,rfl⟩
 refine .u4 (.bX ?_ ?_)
 ·exact .s (ag [(iA 0),XU,XU,XU]) (.s [bx [(iA 0),XU,XU,XU]] (.s (ag [(iA 0),XU,XU,XU]) (.lv r9)))
 exact .s (ag [(iA 0),(iA a),(iA a2)]) (.s (im [[(iA 0),(iA a),(iA a2)]] true) (.s (im [[(bA true)]] true) (.s (ag [(iA b),(im [[(iA 0),(iA a),(iA a2)]] true),XU,(im [[(bA true)]] true)]) (.s [bx [(iA b),(im [[(iA 0),(iA a),(iA a2)]] true),XU,(im [[(bA true)]] true)]] (.s (ag [(iA b),(im [[(iA 0),(iA a),(iA a2)]] true),XU,(im [[(bA true)]] true)]) (.lv r9))))))
def Lj (a:Int) (b:Int) (a2:Int):Option (af×Int):=OM aA a b a2
def IW (C:OT):Prop:=∀ (a:Int) (b:Int) (a2:Int),C 38 [(iA a),(iA b),(iA a2)]=(Lj a b a2).map fun y=>(tp [(ag (aa y.1)),(iA y.2)])
def F9 (n:Nat) (b:Int) (c:Int):Option (aC×Int):=
 (Lj 0 b c).bind fun a=>bif (a.2 != 0) then (some (((aC.mk (((af.mk 0 ([]) ([]) ([])),(af.mk 0 ([]) ([]) ([])))) ((0,0)) ([]) (([],[]))),a.2))) else ((Lj 1 b c).bind fun d=>some (((aC.mk ((a.1,d.1)) ((1,1)) ([]) (([],[]))),0)))
theorem T9 (C:OT) (n:Nat) (e:IW C) (c:Int) (d:Int):TJ C n 9 [(iA c),(iA d)] (F9 n c d) (fun y=>(tp [(ag (aj y.1)),(iA y.2)])):=by
 refine .lp (e9 ..) ?_
 unfold F9
 refine .s ((pt 0 0),[bD]) (.bd (e 0 c d) fun a=>.s (ag (aa a.1)) (.s (iA a.2) (.sq (pt 1 0) (.s [bD,bx (aa a.1)] (.st (bf ..) (.bX ?_ ?_))))))
 ·exact .s (ag [(iA 0),XU,XU,XU,(iA 0),XU,XU,XU,(iA 0),(iA 0),XU,XU,XU]) (.s [bD,bx (aa a.1)] (.s (ag [(iA 0),XU,XU,XU,(iA 0),XU,XU,XU,(iA 0),(iA 0),XU,XU,XU]) (.lv r9)))
 exact .bd (e 1 c d) fun b=>.s (ag (aa b.1)) (.s (iA b.2) (.sq (pt 2 0) (.sh (.s (ag (aa a.1)) (.s (ag (aa b.1)) (.s (ag (aa a.1++aa b.1)) (.s (ag [(iA 1),(iA 1)]) (.s (ag (aa a.1++aa b.1++[(iA 1),(iA 1),XU,XU,XU])) (.s [bx (aa a.1++aa b.1++[(iA 1),(iA 1),XU,XU,XU]),bx (aa a.1),bx (aa b.1)] (.s (ag (aa a.1++aa b.1++[(iA 1),(iA 1),XU,XU,XU])) (.lv r9)))))))))))
def G9 (a:Int) (b:Int):Option (aC×Int):=F9 aA a b
def L6 (C:OT):Prop:=∀ (a:Int) (b:Int),C 9 [(iA a),(iA b)]=(G9 a b).map fun y=>(tp [(ag (aj y.1)),(iA y.2)])
def ka (n:Nat) (b:aC) (c:aC):Nat->Int->Option ((Bool)⊕(Unit))
 | 0,_=>none
 | m+1,a=>bif (decide (a<2)) then (bif (decide (0<=a)&&decide (a<2)) then ((jL a b.Desks.1 b.Desks.2).bind fun d=>bif (decide (0<=a)&&decide (a<2)) then ((jL a c.Desks.1 c.Desks.2).bind fun e=>(II d e).bind fun f=>(bif (!f) then (some true) else (bif (decide (0<=a)&&decide (a<2)) then ((jL a b.Synced.1 b.Synced.2).bind fun g=>bif (decide (0<=a)&&decide (a<2)) then ((jL a c.Synced.1 c.Synced.2).bind fun h=>some (g != h)) else none) else none)).bind fun i=>(bif i then (some true) else (bif (decide (0<=a)&&decide (a<2)) then ((jL a b.Spoken.1 b.Spoken.2).bind fun j=>bif (decide (0<=a)&&decide (a<2)) then ((jL a c.Spoken.1 c.Spoken.2).bind fun k=>(JY j k).bind fun l=>some (!l)) else none) else none)).bind fun o=>bif o then (some ((Sum.inl false))) else (ka n b c m (wr .i64 (a+1)))) else none) else none) else (some ((Sum.inr (()))))
theorem D9 (a1:xQ C) (a3:Bv C) {w164:A} (b:aC) (c:aC) {K:((Bool)⊕(Unit))->Option γ} (x0:∀ (j:Bool) (s2:A) (s3:A) (d:A) (q0:az) (q1:az),J φ (kr (St.mk [(2,s2),(3,s3),(4,(bA j)),(5,d)] [q0,q1])) kL (K (Sum.inl j)) some) (x1:∀ (s4:A) (d:A),J φ (kx 0 (St.mk [(2,(pt 0 0)),(3,(pt 1 0)),(4,s4),(5,d)] [bx (aj b),bx (aj c)])) kL (K (Sum.inr (()))) some) :
  ∀ (m:Nat) (a:Int),J φ (aH (cx C) (ec C n 8) (ey C n 8) (n+8) 10 0 0 2 kx kg kr kp m (St.mk [(2,(pt 0 0)),(3,(pt 1 0)),(4,w164),(5,(iA a))] [bx (aj b),bx (aj c)])) kL (ka n b c m a) K:=by
  refine nI (fun _=>.nn) fun m ih a=>.lp (Mp ..) ?_
  unfold ka
  refine .st (aW ..) (.bX ?_ ?_)
  ·refine .s (pt 0 0) (.gd fun hg=>.st (v:=(pt 0 (0+Int.toNat a*4))) (b8 (e:=26) (n:=4) (len:=2) j9 j9 rfl hg) (.a2 (f:=fun (y:af)=>(ag [(iA y.Self),(im (y.Leases.map ae) false),(im (y.Calls.map ah) false),(im (y.Order.map cB) false)])) (fun h=>by rw[h]; kernel_rfl) (fun h=>by rw[h]; kernel_rfl) fun a8=>.s (pt 1 0) (.gd fun hg=>.st (v:=(pt 1 (0+Int.toNat a*4))) (b8 (e:=26) (n:=4) (len:=2) j9 j9 rfl hg) (.a2 (f:=fun (y:af)=>(ag [(iA y.Self),(im (y.Leases.map ae) false),(im (y.Calls.map ah) false),(im (y.Order.map cB) false)])) (fun h=>by rw[h]; kernel_rfl) (fun h=>by rw[h]; kernel_rfl) fun a9=>.bd (g:=fun (y:Bool)=>(bA y)) (by simp only[bJ,dg]; exact a3 a8 a9) fun aa=>.s (bA (!aa)) (.bg (fun t (y:Bool)=>∃ k l o p q r u w x:A,t=[(bA y),k,l,o,p,q,r,u,w,x]) ?_ ?_)))))
   ·refine .bi ?_ ?_
    ·exact .lg ⟨_,_,_,_,_,_,_,_,_,rfl⟩
    exact .s (pt 0 8) (.gd fun hg=>.st (v:=(pt 0 (8+Int.toNat a*1))) (b8 (e:=3) (n:=1) (len:=2) j9 j9 rfl hg) (.a2 (f:=fun (y:Int)=>(iA y)) (fun h=>by rw[h]; kernel_rfl) (fun h=>by rw[h]; kernel_rfl) fun ak=>.s (pt 1 8) (.gd fun hg=>.st (v:=(pt 1 (8+Int.toNat a*1))) (b8 (e:=3) (n:=1) (len:=2) j9 j9 rfl hg) (.a2 (f:=fun (y:Int)=>(iA y)) (fun h=>by rw[h]; kernel_rfl) (fun h=>by rw[h]; kernel_rfl) fun al=>.st (bf ..) (.lg ⟨_,_,_,_,_,_,_,_,_,rfl⟩)))))
   rintro _ am ⟨k,l,o,p,q,r,u,w,x,rfl⟩
   refine .u4 (.u4 (.uc (.uc (.PF (.bg (fun t (y:Bool)=>∃ z a0:A,t=[(bA y),z,a0]) ?_ ?_)))))
   ·refine .E9 (fun i=>?_) (fun i=>?_)
    ·exact .bb (.s (pt 0 11) (.gd fun hg=>.st (v:=(pt 0 (11+Int.toNat a*1))) (b8 (e:=23) (n:=1) (len:=2) j9 j9 rfl hg) (.a2 (f:=fun (y:(List av))=>(im (y.map ah) false)) (fun h=>by rw[h]; kernel_rfl) (fun h=>by rw[h]; kernel_rfl) fun ab=>.s (pt 1 11) (.gd fun hg=>.st (v:=(pt 1 (11+Int.toNat a*1))) (b8 (e:=23) (n:=1) (len:=2) j9 j9 rfl hg) (.a2 (f:=fun (y:(List av))=>(im (y.map ah) false)) (fun h=>by rw[h]; kernel_rfl) (fun h=>by rw[h]; kernel_rfl) fun ad=>.cr (.u4 (.u4 (.q9 i (.bd (g:=fun (y:Bool)=>(bA y)) (by simp only[bJ,dg]; exact a1 ab ad) fun ai=>.s (bA (!ai)) (.lg ⟨_,_,rfl⟩))))))))))
    exact .bb (.cr (.u4 (.u4 (.ra i (.lg ⟨_,_,rfl⟩)))))
   rintro _ an ⟨z,a0,rfl⟩
   refine .uc (.uc (.uc (.bX ?_ ?_)))
   ·exact .ex (x0 _ _ _ _ _ _)
   refine .st (aM ..) (.s [bx (aj b),bx (aj c)] (.cT j9 ?_))
   exact ih _
  exact .ex (x1 _ _)
def Ov (n:Nat) (a:aC) (b:aC):Option Bool:=
 (ka n a b (n+8) 0).bind fun c=>match c with | (Sum.inl d)=>some d | (Sum.inr _)=>(JX a.Told b.Told).bind fun e=>some e
theorem U5 (C:OT) (n:Nat) (c:Bu C) (d:xQ C) (e:Bv C) (a:aC) (b:aC):TJ C n 10 [(ag (aj a)),(ag (aj b))] (Ov n a b) (fun y=>(bA y)):=by
 refine .lp (V0 ..) ?_
 unfold Ov
 refine .s ((pt 0 0),[bx (aj a)]) (.s ((pt 1 0),[bx (aj a),bx (aj b)]) (.as (D9 C n _ _ _ _ d e a b ?_ ?_ _ 0)))
 ·intro f h i j w224 w225
  exact .un rfl (.lv rfl)
 ·intro k l
  exact .un rfl (.cT j9 (.s2 (im (a.Told.map ae) false) (.s2 (im (b.Told.map ae) false) (.bd (g:=fun (y:Bool)=>(bA y)) (by simp only[bJ,dg]; exact c a.Told b.Told) fun o=>.lv rfl))))
def Lf (a:aC) (b:aC):Option Bool:=Ov aA a b
def IQ (C:OT):Prop:=∀ (a:aC) (b:aC),C 10 [(ag (aj a)),(ag (aj b))]=(Lf a b).map fun y=>(bA y)
def F3 (n:Nat) (a:aC) (b:bn) (a2:Int) (c:Int):Option Bool:=
 (G4 ).bind fun h=>bif (!h) then (some false) else ((G5 a).bind fun i=>bif (!i) then (some true) else ((G6 a b).bind fun d=>(G7 a b).bind fun e=>(G8 a2 c).bind fun f=>(G9 a2 c).bind fun g=>(Lf d.1 e.1).bind fun j=>(bif j then (some (d.2==e.2)) else (some false)).bind fun k=>(bif k then ((Lf f.1 g.1).bind fun l=>some l) else (some false)).bind fun o=>(bif o then (some (f.2==g.2)) else (some false)).bind fun p=>some p))
theorem T3 (C:OT) (n:Nat) (i:IQ C) (h4:L3 C) (w:L4 C) (x:D1 C) (z:L5 C) (h8:J6 C) (h9:L6 C) (a:aC) (b:bn) (a2:Int) (h:Int):TJ C n 3 [(ag (aj a)),(ag (aq b)),(iA a2),(iA h)] (F3 n a b a2 h) (fun y=>(bA y)):=by
 refine .lp (e3 ..) ?_
 unfold F3
 refine .s ((pt 0 0),[bx (aj a)]) (.s ((pt 1 0),[bx (aj a),bx (aq b)]) (.bd (h4 ()) fun y1=>.s (bA (!y1)) (.bX ?_ ?_)))
 ·exact .lv rfl
 refine .s (ag (aj a)) (.bd (g:=fun (y:Bool)=>(bA y)) (by simp only[bJ,dg]; exact w a) fun y3=>.s (bA (!y3)) (.bX ?_ ?_))
 ·exact .lv rfl
 refine .s (ag (aj a)) (.s (ag (aq b)) (.bd (g:=fun (y:(aC×Int))=>(tp [(ag (aj y.1)),(iA y.2)])) (by simp only[bJ,dg]; exact x a b) fun c=>.s (ag (aj c.1)) (.s (iA c.2) (.sq (pt 2 0) (.s [bx (aj a),bx (aq b),bx (aj c.1)] (.s (ag (aj a)) (.s (ag (aq b)) (.bd (g:=fun (y:(aC×Int))=>(tp [(ag (aj y.1)),(iA y.2)])) (by simp only[bJ,dg]; exact z a b) fun d=>.s (ag (aj d.1)) (.s (iA d.2) (.sq (pt 3 0) (.s [bx (aj a),bx (aq b),bx (aj c.1),bx (aj d.1)] (.bd (h8 a2 h) fun e=>.s (ag (aj e.1)) (.s (iA e.2) (.sq (pt 4 0) (.s [bx (aj a),bx (aq b),bx (aj c.1),bx (aj d.1),bx (aj e.1)] (.bd (h9 a2 h) fun f=>.s (ag (aj f.1)) (.s (iA f.2) (.sq (pt 5 0) (.s [bx (aj a),bx (aq b),bx (aj c.1),bx (aj d.1),bx (aj e.1),bx (aj f.1)] ?_)))))))))))))))))))
 refine .s (ag (aj c.1)) (.s (ag (aj d.1)) (.bd (g:=fun (y:Bool)=>(bA y)) (by simp only[bJ,dg]; exact i c.1 d.1) fun y9=>.bg (fun t (y:Bool)=>∃ j k l:A,t=[(bA y),j,k,l]) ?_ ?_))
 ·refine .bi ?_ ?_
  ·exact .st (aV ..) (.lg ⟨_,_,_,rfl⟩)
  exact .lg ⟨_,_,_,rfl⟩
 rintro _ a9 ⟨j,k,l,rfl⟩
 refine .u4 (.bg (fun t (y:Bool)=>∃ o p q:A,t=[(bA y),o,p,q]) ?_ ?_)
 ·refine .bi ?_ ?_
  ·exact .s (ag (aj e.1)) (.s (ag (aj f.1)) (.bd (g:=fun (y:Bool)=>(bA y)) (by simp only[bJ,dg]; exact i e.1 f.1) fun aa=>.lg ⟨_,_,_,rfl⟩))
  exact .lg ⟨_,_,_,rfl⟩
 rintro _ ab ⟨o,p,q,rfl⟩
 refine .u4 (.bg (fun t (y:Bool)=>∃ r u v:A,t=[(bA y),r,u,v]) ?_ ?_)
 ·refine .bi ?_ ?_
  ·exact .st (aV ..) (.lg ⟨_,_,_,rfl⟩)
  exact .lg ⟨_,_,_,rfl⟩
 rintro _ ad ⟨r,u,v,rfl⟩
 exact .u4 (.lv rfl)
def G3 (a:aC) (b:bn) (a2:Int) (c:Int):Option Bool:=F3 aA a b a2 c
end Go.Proofs.YtdmgdjnadbakfaaGreat
