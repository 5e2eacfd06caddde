/-
 The program's functions as plain functions: by a tool; each follows the interpreter.
-/
import Derived.Test.YtebkhfhcipnfgaaT2
namespace Go.Proofs.Ytebkhfhcipnfgaa
open Go.Proofs.Try (prog)
set_option linter.unusedVariables false
set_option linter.unusedSimpArgs false
set_option maxHeartbeats 4000000
set_option maxRecDepth 100000
set_option linter.defProp false
variable (C:Nat->List A->Option A) (n:Nat) {ρ γ:Type} {φ:ρ->γ->Prop} {kL:R->Option ρ} (kx kg:Nat->St->Option R) (kr:St->Option R) (kp:A->St->Option R)
def Lb (n:Nat) (a:az) (b:az):Option Bool:=
 (bif (a.From==b.From) then (some (a.To==b.To)) else (some false)).bind fun c=>(bif c then (some (iI (fK a.Data) (fK b.Data))) else (some false)).bind fun d=>some d
theorem Ry (C:OT) (n:Nat) (a:az) (b:az):TJ C n 69 [(ag (ar a)),(ag (ar b))] (Lb n a b) (fun y=>(bA y)):=by
 refine .lp (Sn ..) ?_
 unfold Lb
 refine .s ((pt 0 0),[bx (ar a)]) (.s ((pt 1 0),[bx (ar a),bx (ar b)]) (.s2 (iA a.From) (.s2 (iA b.From) (.st (aX ..) (.bg (fun t (y:Bool)=>∃ c d f g h:A,t=[(bA y),c,d,f,g,h]) ?_ ?_)))))
 ·refine .bi ?_ ?_
  ·exact .s (pt 0 1) (.s (iA a.To) (.s (pt 1 1) (.s (iA b.To) (.st (aX ..) (.lg ⟨_,_,_,_,_,rfl⟩)))))
  exact .lg ⟨_,_,_,_,_,rfl⟩
 rintro _ u ⟨c,d,f,g,h,rfl⟩
 refine .u4 (.uc (.uc (.bg (fun t (y:Bool)=>∃ i j k o p q r:A,t=[(bA y),i,j,k,o,p,q,r]) ?_ ?_)))
 ·refine .bi ?_ ?_
  ·exact .s (pt 0 2) (.s (im (a.Data.map c8) false) (.st (v:=(A.v (Value.string (fK a.Data)))) (mN (e:=5) (l:=a.Data) r8 r8 r8 r8 (bN ..) rfl) (.s (pt 1 2) (.s (im (b.Data.map c8) false) (.st (v:=(A.v (Value.string (fK b.Data)))) (mN (e:=5) (l:=b.Data) r8 r8 r8 r8 (bN ..) rfl) (.st (jm ..) (.lg ⟨_,_,_,_,_,_,_,rfl⟩)))))))
  exact .lg ⟨_,_,_,_,_,_,_,rfl⟩
 rintro _ w ⟨i,j,k,o,p,q,r,rfl⟩
 exact .u4 (.u4 (.lv rfl))
def Ic (a:az) (b:az):Option Bool:=Lb aB a b
def Av (C:OT):Prop:=∀ (a:az) (b:az),C 69 [(ag (ar a)),(ag (ar b))]=(Ic a b).map fun y=>(bA y)
def ki (n:Nat) (b:(List az)) (d:(List (Int×Int))) (c:(List az)) (e:(List (Int×Int))):Nat->Int->Option ((Bool)⊕(Unit))
 | 0,_=>none
 | m+1,a=>bif (decide (a<((b.length:Int)))) then ((bK b a).bind fun f=>(bK c a).bind fun g=>(Ic f g).bind fun h=>bif (!h) then (some ((Sum.inl false))) else (ki n b d c e m (wr .i64 (a+1)))) else (some ((Sum.inr (()))))
theorem AQ (l:Av C) {w126:A} (a:(List az)) (c:(List (Int×Int))) (b:(List az)) (d:(List (Int×Int))) {K:((Bool)⊕(Unit))->Option γ} (o:∀ (i:Bool) (s2:A) (p:A) (f:A) (q0:aO) (q1:aO),J φ (kr (St.mk [(2,s2),(3,p),(4,(bA i)),(5,f)] [q0,q1])) kL (K (Sum.inl i)) some) (q:∀ (f:A),J φ (kx 0 (St.mk [(2,(pt 0 0)),(3,(pt 1 0)),(4,w126),(5,f)] [bx [(im (a.map ar) false),(im (c.map au) false)],bx [(im (b.map ar) false),(im (d.map au) false)]])) kL (K (Sum.inr (()))) some) :
  ∀ (m:Nat) (h:Int),J φ (aK (cx C) (ec C n 8) (ey C n 8) (n+8) 40 0 0 2 kx kg kr kp m (St.mk [(2,(pt 0 0)),(3,(pt 1 0)),(4,w126),(5,(iA h))] [bx [(im (a.map ar) false),(im (c.map au) false)],bx [(im (b.map ar) false),(im (d.map au) false)]])) kL (ki n a c b d m h) K:=by
  refine nI (fun _=>.nn) fun m ih h=>.lp (IW ..) ?_
  unfold ki
  refine .s2 (im (a.map ar) false) (.st (dT (e:=48)) (.st (aY ..) (.cd ?_ ?_)))
  ·refine .s2 (im (a.map ar) false) (.bd (eX (e:=48) (es:=3)) fun j=>.s (ag (ar j)) (.s2 (im (b.map ar) false) (.bd (eX (e:=48) (es:=3)) fun k=>.s (ag (ar k)) (.bd (g:=fun (y:Bool)=>(bA y)) (by simp only[cP,eu]; exact l j k) fun r=>.s (bA (!r)) (.cd ?_ ?_)))))
   ·exact .ex (o _ _ _ _ _ _)
   refine .st (aH ..) (.s [bx [(im (a.map ar) false),(im (c.map au) false)],bx [(im (b.map ar) false),(im (d.map au) false)]] (.cT r8 ?_))
   exact ih _
  exact .ex (q _)
def kj (n:Nat) (f:(List az)) (b:(List (Int×Int))) (g:(List az)) (c:(List (Int×Int))):Nat->Int->Option ((Bool)⊕(Unit))
 | 0,_=>none
 | m+1,a=>bif (decide (a<((b.length:Int)))) then ((bK b a).bind fun d=>(bK c a).bind fun e=>bif (!((d.1==e.1)&&(d.2==e.2))) then (some ((Sum.inl false))) else (kj n f b g c m (wr .i64 (a+1)))) else (some ((Sum.inr (()))))
theorem AR {w145:A} (f:(List az)) (a:(List (Int×Int))) (g:(List az)) (b:(List (Int×Int))) {K:((Bool)⊕(Unit))->Option γ} (l:∀ (k:Bool) (s2:A) (h:A) (i:A) (q0:aO) (q1:aO),J φ (kr (St.mk [(2,s2),(3,h),(4,(bA k)),(6,i)] [q0,q1])) kL (K (Sum.inl k)) some) (o:∀ (s2:A) (h:A) (p:A) (i:A) (q0:aO) (q1:aO),J φ (kx 2 (St.mk [(2,s2),(3,h),(4,p),(6,i)] [q0,q1])) kL (K (Sum.inr (()))) some) :
  ∀ (m:Nat) (j:Int),J φ (aK (cx C) (ec C n 8) (ey C n 8) (n+8) 40 0 1 2 kx kg kr kp m (St.mk [(2,(pt 0 0)),(3,(pt 1 0)),(4,w145),(6,(iA j))] [bx [(im (f.map ar) false),(im (a.map au) false)],bx [(im (g.map ar) false),(im (b.map au) false)]])) kL (kj n f a g b m j) K:=by
  refine nI (fun _=>.nn) fun m ih j=>.lp (IX ..) ?_
  unfold kj
  refine .s2 (im (a.map au) false) (.st (dT (e:=115)) (.st (aY ..) (.cd ?_ ?_)))
  ·refine .s2 (im (a.map au) false) (.bd (eX (e:=115) (es:=2)) fun c=>.s (ag [(iA c.1),(iA c.2)]) (.s2 (im (b.map au) false) (.bd (eX (e:=115) (es:=2)) fun d=>.s (ag [(iA d.1),(iA d.2)]) (.s (bA (!((c.1==d.1)&&(c.2==d.2)))) (.cd ?_ ?_)))))
   ·exact .ex (l _ _ _ _ _ _)
   refine .st (aH ..) (.s [bx [(im (f.map ar) false),(im (a.map au) false)],bx [(im (g.map ar) false),(im (b.map au) false)]] (.cT r8 ?_))
   exact ih _
  exact .ex (o _ _ _ _ _ _)
def KY (n:Nat) (a:bo) (b:bo):Option Bool:=
 (bif (((a.Queue.length:Int)) != ((b.Queue.length:Int))) then (some true) else (some (((a.Apart.length:Int)) != ((b.Apart.length:Int))))).bind fun c=>bif c then (some false) else ((ki n a.Queue a.Apart b.Queue b.Apart (n+8) 0).bind fun d=>match d with | (Sum.inl e)=>some e | (Sum.inr _)=>(kj n a.Queue a.Apart b.Queue b.Apart (n+8) 0).bind fun f=>match f with | (Sum.inl g)=>some g | (Sum.inr _)=>some true)
theorem Rj (C:OT) (n:Nat) (k:Av C) (a:bo) (b:bo):TJ C n 40 [(ag [(im (a.Queue.map ar) false),(im (a.Apart.map au) false)]),(ag [(im (b.Queue.map ar) false),(im (b.Apart.map au) false)])] (KY n a b) (fun y=>(bA y)):=by
 refine .lp (R8 ..) ?_
 unfold KY
 refine .sq (pt 0 0) (.s ((pt 1 0),[bx [(im (a.Queue.map ar) false),(im (a.Apart.map au) false)],bx [(im (b.Queue.map ar) false),(im (b.Apart.map au) false)]]) (.s2 (im (a.Queue.map ar) false) (.st (dT (e:=48)) (.s2 (im (b.Queue.map ar) false) (.st (dT (e:=48)) (.st (aI ..) (.bg (fun t (y:Bool)=>∃ c d f g h i j:A,t=[(bA y),c,d,f,g,h,i,j]) ?_ ?_)))))))
 ·refine .bi ?_ ?_
  ·exact .lg ⟨_,_,_,_,_,_,_,rfl⟩
  exact .s (pt 0 1) (.s (im (a.Apart.map au) false) (.st (dT (e:=115)) (.s (pt 1 1) (.s (im (b.Apart.map au) false) (.st (dT (e:=115)) (.st (aI ..) (.lg ⟨_,_,_,_,_,_,_,rfl⟩)))))))
 rintro _ l ⟨c,d,f,g,h,i,j,rfl⟩
 refine .u4 (.u4 (.cd ?_ ?_))
 ·exact .lv rfl
 refine .as (AQ C n _ _ _ _ k a.Queue a.Apart b.Queue b.Apart ?_ ?_ _ 0)
 ·intro o p q r w142 w143
  exact .un rfl (.lv rfl)
 ·intro u
  refine .un rfl (.cT r8 (.as (AR C n _ _ _ _ a.Queue a.Apart b.Queue b.Apart ?_ ?_ _ 0)))
  ·intro v w x z w160 w161
   exact .un rfl (.lv rfl)
  ·intro a2 a3 a4 a5 w166 w167
   exact .un rfl (.cT r8 (.lv rfl))
def HX (a:bo) (b:bo):Option Bool:=KY aB a b
def EM (C:OT):Prop:=∀ (a:bo) (b:bo),C 40 [(ag [(im (a.Queue.map ar) false),(im (a.Apart.map au) false)]),(ag [(im (b.Queue.map ar) false),(im (b.Apart.map au) false)])]=(HX a b).map fun y=>(bA y)
def KG (n:Nat) (a:aw) (b:aw):Option Bool:=
 (bif (a.Bar==b.Bar) then ((CI a.Ears b.Ears).bind fun c=>some c) else (some false)).bind fun d=>(bif d then ((HX a.Net b.Net).bind fun e=>some e) else (some false)).bind fun f=>some f
theorem QZ (C:OT) (n:Nat) (p:Ai C) (q:EM C) (a:aw) (b:aw):TJ C n 15 [(ag (ak a)),(ag (ak b))] (KG n a b) (fun y=>(bA y)):=by
 refine .lp (RO ..) ?_
 unfold KG
 refine .s ((pt 0 0),[bx (ak a)]) (.s ((pt 1 0),[bx (ak a),bx (ak b)]) (.s2 (iA a.Bar) (.s2 (iA b.Bar) (.st (aX ..) (.bg (fun t (y:Bool)=>∃ c d e f h:A,t=[(bA y),c,d,e,f,h]) ?_ ?_)))))
 ·refine .bi ?_ ?_
  ·exact .s (pt 0 2) (.s (im (a.Ears.map aC) false) (.s (pt 1 2) (.s (im (b.Ears.map aC) false) (.bd (g:=fun (y:Bool)=>(bA y)) (by simp only[cP,eu]; exact p a.Ears b.Ears) fun r=>.lg ⟨_,_,_,_,_,rfl⟩))))
  exact .lg ⟨_,_,_,_,_,rfl⟩
 rintro _ u ⟨c,d,e,f,h,rfl⟩
 refine .u4 (.uc (.uc (.bg (fun t (y:Bool)=>∃ i j k l o:A,t=[(bA y),i,j,k,l,o]) ?_ ?_)))
 ·refine .bi ?_ ?_
  ·exact .s (pt 0 0) (.s (ag [(im (a.Net.Queue.map ar) false),(im (a.Net.Apart.map au) false)]) (.s (pt 1 0) (.s (ag [(im (b.Net.Queue.map ar) false),(im (b.Net.Apart.map au) false)]) (.bd (g:=fun (y:Bool)=>(bA y)) (by simp only[cP,eu]; exact q a.Net b.Net) fun v=>.lg ⟨_,_,_,_,_,rfl⟩))))
  exact .lg ⟨_,_,_,_,_,rfl⟩
 rintro _ w ⟨i,j,k,l,o,rfl⟩
 exact .u4 (.uc (.uc (.lv rfl)))
def Hm (a:aw) (b:aw):Option Bool:=KG aB a b
def EA (C:OT):Prop:=∀ (a:aw) (b:aw),C 15 [(ag (ak a)),(ag (ak b))]=(Hm a b).map fun y=>(bA y)
def F3 (n:Nat) (b:Int) (a:aw) (a2:bw):Option Bool:=
 (G7 ).bind fun g=>bif (!g) then (some false) else ((G8 a).bind fun h=>bif (!h) then (some true) else ((G9 a a2).bind fun c=>(HL a a2).bind fun d=>(Eu b).bind fun e=>(HM b).bind fun f=>(Ev a).bind fun i=>(Hl a).bind fun j=>(bif (i==j) then ((Hm c.1 d.1).bind fun k=>some k) else (some false)).bind fun l=>(bif l then (some (c.2==d.2)) else (some false)).bind fun o=>(bif o then ((Hm e.1 f.1).bind fun p=>some p) else (some false)).bind fun q=>(bif q then (some (e.2==f.2)) else (some false)).bind fun r=>some r))
theorem T3 (C:OT) (n:Nat) (x:Ey C) (z:Ag C) (a3:Ez C) (a4:xQ C) (a5:Ah C) (i:EA C) (h7:Ik C) (h8:Il C) (h9:FV C) (f:Int) (a:aw) (a2:bw):TJ C n 3 [(iA f),(ag (ak a)),(ag (aE a2))] (F3 n f a a2) (fun y=>(bA y)):=by
 refine .lp (e3 ..) ?_
 unfold F3
 refine .s ((pt 0 0),[bx (ak a)]) (.s ((pt 1 0),[bx (ak a),bx (aE a2)]) (.bd (h7 ()) fun y1=>.s (bA (!y1)) (.cd ?_ ?_)))
 ·exact .lv rfl
 refine .s (ag (ak a)) (.bd (g:=fun (y:Bool)=>(bA y)) (by simp only[cP,eu]; exact h8 a) fun y3=>.s (bA (!y3)) (.cd ?_ ?_))
 ·exact .lv rfl
 refine .s (ag (ak a)) (.s (ag (aE a2)) (.bd (g:=fun (y:(aw×Int))=>(tp [(ag (ak y.1)),(iA y.2)])) (by simp only[cP,eu]; exact h9 a a2) fun b=>.s (ag (ak b.1)) (.s (iA b.2) (.sq (pt 2 0) (.s [bx (ak a),bx (aE a2),bx (ak b.1)] (.s (ag (ak a)) (.s (ag (aE a2)) (.bd (g:=fun (y:(aw×Int))=>(tp [(ag (ak y.1)),(iA y.2)])) (by simp only[cP,eu]; exact x a a2) fun c=>.s (ag (ak c.1)) (.s (iA c.2) (.sq (pt 3 0) (.s [bx (ak a),bx (aE a2),bx (ak b.1),bx (ak c.1)] (.bd (z f) fun d=>.s (ag (ak d.1)) (.s (iA d.2) (.sq (pt 4 0) (.s [bx (ak a),bx (aE a2),bx (ak b.1),bx (ak c.1),bx (ak d.1)] (.bd (a3 f) fun e=>.s (ag (ak e.1)) (.s (iA e.2) (.sq (pt 5 0) (.s [bx (ak a),bx (aE a2),bx (ak b.1),bx (ak c.1),bx (ak d.1),bx (ak e.1)] ?_)))))))))))))))))))
 refine .s (ag (ak a)) (.bd (g:=fun (y:Int)=>(iA y)) (by simp only[cP,eu]; exact a4 a) fun y9=>.s (ag (ak a)) (.bd (g:=fun (y:Int)=>(iA y)) (by simp only[cP,eu]; exact a5 a) fun ad=>.st (aX ..) (.bg (fun t (y:Bool)=>∃ j k l:A,t=[(bA y),j,k,l]) ?_ ?_)))
 ·refine .bi ?_ ?_
  ·exact .s (ag (ak b.1)) (.s (ag (ak c.1)) (.bd (g:=fun (y:Bool)=>(bA y)) (by simp only[cP,eu]; exact i b.1 c.1) fun ae=>.lg ⟨_,_,_,rfl⟩))
  exact .lg ⟨_,_,_,rfl⟩
 rintro _ af ⟨j,k,l,rfl⟩
 refine .u4 (.bg (fun t (y:Bool)=>∃ o p q:A,t=[(bA y),o,p,q]) ?_ ?_)
 ·refine .bi ?_ ?_
  ·exact .st (aX ..) (.lg ⟨_,_,_,rfl⟩)
  exact .lg ⟨_,_,_,rfl⟩
 rintro _ ah ⟨o,p,q,rfl⟩
 refine .u4 (.bg (fun t (y:Bool)=>∃ r u v:A,t=[(bA y),r,u,v]) ?_ ?_)
 ·refine .bi ?_ ?_
  ·exact .s (ag (ak d.1)) (.s (ag (ak e.1)) (.bd (g:=fun (y:Bool)=>(bA y)) (by simp only[cP,eu]; exact i d.1 e.1) fun ai=>.lg ⟨_,_,_,rfl⟩))
  exact .lg ⟨_,_,_,rfl⟩
 rintro _ aj ⟨r,u,v,rfl⟩
 refine .u4 (.SW (.bg (fun t (y:Bool)=>∃ w:A,t=[(bA y),w]) ?_ ?_))
 ·refine .Fb (fun h=>?_) (fun h=>?_)
  ·exact .bb (.cr (.uc (.uc (.uD h (.st (aX ..) (.lg ⟨_,rfl⟩))))))
  exact .bb (.cr (.uc (.uc (.sm h (.lg ⟨_,rfl⟩)))))
 rintro _ al ⟨w,rfl⟩
 exact .uc (.uc (.lv rfl))
def G3 (a:Int) (b:aw) (a2:bw):Option Bool:=F3 aB a b a2
end Go.Proofs.Ytebkhfhcipnfgaa
