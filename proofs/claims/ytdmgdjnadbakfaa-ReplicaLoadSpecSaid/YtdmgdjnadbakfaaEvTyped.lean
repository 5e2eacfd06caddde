/-
 From what the interpreter does to plain functions on plain data: rules by which the one is followed along the other.
-/
import Derived.Test.YtdmgdjnadbakfaaEvMain
import Derived.KernelRfl
namespace Go.Proofs.Ytdmgdjnadbakfaa
section
set_option linter.unusedVariables false
set_option linter.unusedSimpArgs false
theorem oY {α β:Type} (P:Program) (f:α->Sem β):∀ (m:Sem α),cN P (m >>= f)=(cN P m).bind fun a=>cN P (f a)
 | .pure a=>rfl
 | .program k=>oY P f (k P)
 | .mark _ k=>oY P f k
 | .load .. | .store .. | .new .. | .shape .. | .freeze .. | .frozen .. | .getObj .. | .setObj .. | .choose .. | .sys .. | .halt _=>rfl
theorem qh (P:Program) (t:TypeId):cN P (underlying t)=P.underlying t:=by
 unfold underlying
 show cN P (match P.underlying t with | some d=>pure d | none=>stuck "no such type")=_
 cases P.underlying t<;>rfl
@[simp] theorem Jb {β:Type} (b:Bool) (x y:Option β):dI (.v (.bool b)) x y=bif b then x else y:=rfl
@[simp] theorem JV {β:Type} (b:Bool) (x y:Option β):m8 (.v (.bool b)) true x y=bif b then x else y:=rfl
@[simp] theorem Ix {β:Type} (b:Bool) (x y:Option β):m8 (.v (.bool b)) false x y=bif b then y else x:=by cases b<;>rfl
@[simp] theorem Iy {β:Type} (w:Bool) (x y:Option β):m8 (.v undef) w x y=y:=by cases w<;>rfl
@[simp] theorem Kz (k:IntKind) (n:Int):(Value.int k n).oneCell'=true:=rfl
@[simp] theorem IC (b:Bool):(Value.bool b).oneCell'=true:=rfl
@[simp] theorem GR (s:ByteArray):(Value.string s).oneCell'=true:=rfl
section
variable (P:Program) (t s d:TypeId) (i j:Bool) (k:IntKind) (a b:Int) (p q:Bool) (H:ay) (lo:Nat)
@[simp] theorem aN:jN P .eql t i j (.v (.int k a)) (.v (.int k b))=some (.v (.bool (a==b))):=by cases k<;>rfl
@[simp] theorem ba:jN P .neq t i j (.v (.int k a)) (.v (.int k b))=some (.v (.bool (a != b))):=by cases k<;>rfl
@[simp] theorem aS:jN P .lss t i j (.v (.int k a)) (.v (.int k b))=some (.v (.bool (decide (a<b)))):=by cases k<;>rfl
@[simp] theorem df:jN P .leq t i j (.v (.int k a)) (.v (.int k b))=some (.v (.bool (decide (a<=b)))):=by cases k<;>rfl
@[simp] theorem bQ:jN P .gtr t i j (.v (.int k a)) (.v (.int k b))=some (.v (.bool (decide (b<a)))):=by cases k<;>rfl
@[simp] theorem dB:jN P .geq t i j (.v (.int k a)) (.v (.int k b))=some (.v (.bool (decide (b<=a)))):=by cases k<;>rfl
@[simp] theorem aD:jN P .add t i j (.v (.int k a)) (.v (.int k b))=some (.v (.int k (k.wrap (a+b)))):=by cases k<;>rfl
@[simp] theorem cX:jN P .sub t i j (.v (.int k a)) (.v (.int k b))=some (.v (.int k (k.wrap (a - b)))):=by cases k<;>rfl
@[simp] theorem fg:jN P .mul t i j (.v (.int k a)) (.v (.int k b))=some (.v (.int k (k.wrap (a*b)))):=by cases k<;>rfl
def iQ (a b:ByteArray):Bool:=a.toList==b.toList
theorem lM (x y:ByteArray):jN P .eql t i j (.v (.string x)) (.v (.string y))=some (.v (.bool (iQ x y))):=rfl
theorem re (x y:ByteArray):jN P .neq t i j (.v (.string x)) (.v (.string y))=some (.v (.bool (!iQ x y))):=rfl
theorem fF (hb:b≠0):jN P .rem t i j (.v (.int k a)) (.v (.int k b))=some (.v (.int k (a.tmod b))):=by
 have h:cN P (do eqGuard .rem t (rep i) (rep j) (.int k a) (.int k b); binOp .rem t (.int k a) (.int k b))=some (.int k (a.tmod b)):=by
  show cN P (binOp .rem t (.int k a) (.int k b))=_
  simp only[binOp,ne_eq,not_true_eq_false,if_false,Op.intDiv,if_neg hb]; rfl
 show (cN P _).map xk=_
 rw[h]; rfl
theorem jy (hb:b≠0):jN P .quo t i j (.v (.int k a)) (.v (.int k b))=some (.v (.int k (k.wrap (a.tdiv b)))):=by
 have h:cN P (do eqGuard .quo t (rep i) (rep j) (.int k a) (.int k b); binOp .quo t (.int k a) (.int k b))=some (.int k (k.wrap (a.tdiv b))):=by
  show cN P (binOp .quo t (.int k a) (.int k b))=_
  simp only[binOp,ne_eq,not_true_eq_false,if_false,Op.intDiv,if_neg hb]; rfl
 show (cN P _).map xk=_
 rw[h]; rfl
@[simp] theorem LL:jz P .not (.v (.bool p))=some (.v (.bool (!p))):=rfl
@[simp] theorem LK:jz P .neg (.v (.int k a))=some (.v (.int k (k.wrap (0 - a)))):=rfl
@[simp] theorem Ez (l:List A) (n:Nat):aL (.tup l) n=l[n]?:=rfl
@[simp] theorem O7 (x:Value):snap H (.v x)=.v x:=rfl
@[simp] theorem LV (L:Nat) (x:Value):A.under L (.v x)=true:=rfl
@[simp] theorem Ow (L:Nat) (x:Value) (H':ay):D0 L (.ret (.v x),H')=some (.v x):=rfl
@[simp] theorem KC (x:A) (f g:A->Option R):dA (.ret x) f g=f x:=rfl
@[simp] theorem KB (x:A) (f g:A->Option R):dA (.pan x) f g=g x:=rfl
@[simp] theorem Iu {α β:Type} (x y:α) (f:α->Option β):(bif p then some x else some y).bind f=f (bif p then x else y):=by cases p<;>rfl
@[simp] theorem M0 (x y:Value):(bif p then A.v x else A.v y)=A.v (bif p then x else y):=by cases p<;>rfl
@[simp] theorem Iv (x y:Bool):(bif p then Value.bool x else Value.bool y)=Value.bool (bif p then x else y):=by cases p<;>rfl
@[simp] theorem Jj (x y:Int):(bif p then Value.int k x else Value.int k y)=Value.int k (bif p then x else y):=by cases p<;>rfl
theorem az {l:IntKind} (hs:P.underlying s=some (.int l)) (hd:P.underlying d=some (.int k)):bc P s d (.v (.int l a)) H=some (.v (.int k (k.wrap a))):=by
 simp only[bc,hs,hd]
 have h:cN P (convert s d (.int l a))=some (.int k (k.wrap a)):=by
  unfold convert
  simp only[oY,qh,hs,hd,Option.bind_some]
  rfl
 show (cN P _).map xk=_
 rw[h]; rfl
end
end
section
set_option linter.unusedVariables false
set_option linter.unusedSimpArgs false
variable {ρ γ σ α β τ:Type}
def J (φ:ρ->γ->Prop) (L:Option σ) (kL:σ->Option ρ) (R:Option α) (K:α->Option γ):Prop:=∀ r,R.bind K=some r->∃ s,L.bind kL=some s/\φ s r
variable {φ:ρ->γ->Prop} {kL:σ->Option ρ} {K:α->Option γ} {R X Y:Option α}
theorem J.st {x:Option τ} {v:τ} {k:τ->Option σ} (h:x=some v) (hk:J φ (k v) kL R K):J φ (x.bind k) kL R K:=by
 rw[h]; exact hk
theorem J.s {x:Option τ} {k:τ->Option σ} (v:τ) (hk:J φ (k v) kL R K) (h:x=some v:=by kernel_rfl):J φ (x.bind k) kL R K:=J.st h hk
def JX (x:Option (A×ay)):A×ay:=match x with | some p=>p | none=>(.any,[])
def JW (x:Option ay):ay:=match x with | some p=>p | none=>[]
theorem J.sq {x:Option (A×ay)} {k:A×ay->Option σ} (p:A) (hk:J φ (k (p,(JX x).2)) kL R K) (h:x=some (p,(JX x).2):=by kernel_rfl):J φ (x.bind k) kL R K:=J.st h hk
theorem J.sh {x:Option ay} {k:ay->Option σ} (hk:J φ (k (JW x)) kL R K) (h:x=some (JW x):=by kernel_rfl):J φ (x.bind k) kL R K:=J.st h hk
theorem J.bd {x:Option τ} {k:τ->Option σ} {X:Option β} {Y:β->Option α} {g:β->τ} (h:x=X.map g) (hk:∀ y,J φ (k (g y)) kL (Y y) K):J φ (x.bind k) kL (X.bind Y) K:=by
 intro r hr
 rw[Option.bind_assoc] at hr
 cases X with
 | none=>cases hr
 | some y=>rw[h]; exact hk y r hr
theorem J.bg {x:Option τ} {k:τ->Option σ} {X:Option β} {Y:β->Option α} (ψ:τ->β->Prop) (h:J ψ x some X some) (hk:∀ t y,ψ t y->J φ (k t) kL (Y y) K):J φ (x.bind k) kL (X.bind Y) K:=by
 intro r hr
 rw[Option.bind_assoc] at hr
 cases X with
 | none=>cases hr
 | some y =>
  obtain ⟨s,h1,h2⟩:=h y rfl
  have:x=some s:=by cases x<;>simp_all
  rw[this]
  exact hk s y h2 r hr
theorem J.CP {x y:Option σ} (h1:J φ x kL R K):J φ (bj (.v (.bool true)) x y) kL R K:=h1
theorem J.BP {x y:Option σ} (h1:J φ y kL R K):J φ (bj (.v (.bool false)) x y) kL R K:=h1
theorem J.aP {x y:Option σ} {b:Bool} (h1:b=true->J φ x kL X K) (h2:b=false->J φ y kL Y K):J φ (bj (.v (.bool b)) x y) kL (cond b X Y) K:=by
 cases b
 ·exact h2 rfl
 ·exact h1 rfl
theorem J.dg {x y:Option σ} {b:Bool} (h1:b=true->J φ x kL X K) (h2:b=false->J φ y kL Y K):J φ (dI (.v (.bool b)) x y) kL (cond b X Y) K:=by
 cases b
 ·exact h2 rfl
 ·exact h1 rfl
theorem J.cT {x y:Option σ} {c:Bool} (h:c=true) (h1:J φ x kL R K):J φ (cond c x y) kL R K:=by rw[h]; exact h1
theorem J.gd {L:Option σ} {b:Bool} (h:b=true->J φ L kL R K):J φ L kL (cond b R none) K:=by
 cases b
 ·intro r hr; cases hr
 ·exact h rfl
theorem J.sp {L:Option σ} {b:Bool} (h1:b=true->J φ L kL X K) (h2:b=false->J φ L kL Y K):J φ L kL (cond b X Y) K:=by
 cases b
 ·exact h2 rfl
 ·exact h1 rfl
theorem J.nn {L:Option σ}:J φ L kL none K:=fun r hr=>by cases hr
theorem J.uc {a:A} {r:List A} {k:A->List A->Option σ} (h:J φ (k a r) kL R K):J φ (g9 (a :: r) k) kL R K:=h
theorem J.u4 {a b c d:A} {r:List A} {k:A->A->A->A->List A->Option σ} (h:J φ (k a b c d r) kL R K):J φ (g9 (a :: b :: c :: d :: r) fun a l=>g9 l fun b l=>g9 l fun c l=>g9 l fun d l=>k a b c d l) kL R K:=h
theorem J.pU {a:A} {f g:A->Option Go.Proofs.Ytdmgdjnadbakfaa.R} {kL:Go.Proofs.Ytdmgdjnadbakfaa.R->Option ρ} (h:J φ (g a) kL R K):J φ (dA (.pan a) f g) kL R K:=h
theorem J.pk {t:TypeId} {y:A} {k:A->Option σ} (h:J φ (k (.ifc t y)) kL R K):J φ (BJ (.ifc t y) k) kL R K:=h
theorem J.ob {b:Bool} {v p:A} {f g:A->Option Go.Proofs.Ytdmgdjnadbakfaa.R} {kL:Go.Proofs.Ytdmgdjnadbakfaa.R->Option ρ} (h1:J φ (dA (.ret v) f g) kL X K) (h2:J φ (dA (.pan p) f g) kL Y K):J φ (dA (bif b then Out.ret v else Out.pan p) f g) kL (cond b X Y) K:=by
 cases b
 ·exact h2
 ·exact h1
theorem J.lf {s:σ} {x:α} {r:ρ} {y:γ} (h1:kL s=some r) (h2:K x=some y) (h:φ r y):J φ (some s) kL (some x) K:=fun z hz=>by
 rw[Option.bind_some,h2] at hz
 cases hz
 exact⟨r,h1,h⟩
theorem J.lg {ψ:τ->β->Prop} {s:τ} {x:β} (h:ψ s x):J ψ (some s) some (some x) some:=fun r hr=>by cases hr; exact⟨s,rfl,h⟩
theorem J.lv {T:Type} {f:T->A} {v:A} {H:ay} {y:T} (h:aE H v=f y):J (fun (o:Go.Proofs.Ytdmgdjnadbakfaa.R) y=>∃ v,o.1=.ret v/\aE o.2 v=f y) (some (Out.ret v,H)) some (some y) some:=.lf rfl rfl ⟨_,rfl,h⟩
theorem J.cl {x:Option τ} {x':Option τ} {k:τ->Option σ} (h:x=x') (hk:J φ x' (fun r=>(k r).bind kL) R K):J φ (x.bind k) kL R K:=by
 intro r hr
 obtain ⟨s,h1,h2⟩:=hk r hr
 exact⟨s,by rw[Option.bind_assoc,h]; exact h1,h2⟩
theorem J.bb {x:Option τ} {k:τ->Option σ} (h:J φ x (fun r=>(k r).bind kL) R K):J φ (x.bind k) kL R K:=by
 intro r hr
 obtain ⟨s,h1,h2⟩:=h r hr
 exact⟨s,by rw[Option.bind_assoc]; exact h1,h2⟩
theorem J.as {L:Option σ} {X:Option β} {Y:β->Option α} (h:J φ L kL X (fun x=>(Y x).bind K)):J φ L kL (X.bind Y) K:=by
 intro r hr
 rw[Option.bind_assoc] at hr
 exact h r hr
theorem J.un {L:Option σ} {K':γ->Option γ} (hK:K'=some) (h:J φ L kL R K):J φ L kL (R.bind K) K':=by
 intro r hr
 subst hK
 exact h r (by simpa using hr)
theorem J.ex {L:Option σ} {x:α} (h:J φ L kL (K x) some):J φ L kL (some x) K:=by
 intro r hr
 exact h r (by simpa using hr)
theorem J.lp {L:Option σ} {L':Option σ} (h:L=L') (hk:J φ L' kL R K):J φ L kL R K:=h ▸ hk
theorem J.gU {x y:Option σ} {w:Bool} (h:J φ y kL R K):J φ (m8 (.v undef) w x y) kL R K:=h
theorem J.ok {a:A} {f g:A->Option Go.Proofs.Ytdmgdjnadbakfaa.R} {kL:Go.Proofs.Ytdmgdjnadbakfaa.R->Option ρ} (h:J φ (f a) kL R K):J φ (dA (.ret a) f g) kL R K:=h
theorem J.cr {s:τ} {k:τ->Option σ} (h:J φ (k s) kL R K):J φ (some s) (fun r=>(k r).bind kL) R K:=h
theorem J.vN {x y:Option σ} {b:Bool} (h:b=true) (h1:J φ x kL R K):J φ (dI (.v (.bool b)) x y) kL R K:=by subst h; exact h1
theorem J.wo {x y:Option σ} {b:Bool} (h:b=false) (h1:J φ y kL R K):J φ (dI (.v (.bool b)) x y) kL R K:=by subst h; exact h1
theorem J.JZ {x y:Option τ} {k:τ->Option σ} {b:Bool} (h1:b=true->J φ (x.bind k) kL X K) (h2:b=false->J φ (y.bind k) kL Y K):J φ ((m8 (.v (.bool b)) true x y).bind k) kL (cond b X Y) K:=by
 cases b
 ·exact h2 rfl
 ·exact h1 rfl
theorem J.BR {x y:Option τ} {k:τ->Option σ} {b:Bool} (h1:b=false->J φ (x.bind k) kL X K) (h2:b=true->J φ (y.bind k) kL Y K):J φ ((m8 (.v (.bool b)) false x y).bind k) kL (cond b Y X) K:=by
 cases b
 ·exact h1 rfl
 ·exact h2 rfl
theorem wW {β:Type} {x y:Option β} {b:Bool} (h:b=true):m8 (.v (.bool b)) false x y=y:=by subst h; rfl
theorem wV {β:Type} {x y:Option β} {b:Bool} (h:b=false):m8 (.v (.bool b)) false x y=x:=by subst h; rfl
def aC:Nat:=1208925819614629174706176
def cI (k:IntKind) (n:Int):List A:=[.v (.int k n)]
def c8 (c:UInt8):List A:=[.v (.int .u8 (c.toNat:Int))]
def cB (b:Bool):List A:=[.v (.bool b)]
def cS (s:ByteArray):List A:=[.v (.string s)]
def cL {T:Type} (f:T->List A) (l:List T):List A:=[.imm (l.map f) false]
def cj {T:Type} (f:T->List A):Prop:=∀ g x,aU g (f x)=f x
theorem cG {T:Type} {f:T->List A} (hf:cj f) (g:Nat->Nat->Nat->A) (l:List T):dj g (l.map f)=l.map f:=by
 induction l with
 | nil=>rfl
 | cons x l ih=>rw[List.map_cons,dj,hf,ih]
def dk {T:Type} (f:T->List A):Prop:=∀ L x,bl L (f x)=true
theorem cZ {T:Type} {f:T->List A} (hf:dk f) (L:Nat) (l:List T):au L (l.map f)=true:=by
 induction l with
 | nil=>rfl
 | cons x l ih=>rw[List.map_cons,au,hf,ih]; rfl
theorem kN (k:IntKind):dk (cI k):=fun _ _=>rfl
theorem kK:dk c8:=fun _ _=>rfl
theorem kM:dk cB:=fun _ _=>rfl
theorem kP:dk cS:=fun _ _=>rfl
theorem kO {T:Type} {f:T->List A} (hf:dk f):dk (cL f):=fun L x=>by
 show (au L (x.map f)&&true)=true
 rw[cZ hf]; rfl
theorem sN (g:Nat->Nat->Nat->A):∀ (a b:List A),aU g (a++b)=aU g a++aU g b
 | [],b=>by simp only[List.nil_append,aU]
 | x :: a,b=>by simp only[List.cons_append,aU,sN g a b]
theorem sU (L:Nat):∀ (a b:List A),bl L (a++b)=(bl L a&&bl L b)
 | [],b=>by simp only[List.nil_append,bl,Bool.true_and]
 | x :: a,b=>by simp only[List.cons_append,bl,sU L a b,Bool.and_assoc]
theorem jF (k:IntKind):cj (cI k):=fun _ _=>rfl
theorem dc:cj c8:=fun _ _=>rfl
theorem fI:cj cB:=fun _ _=>rfl
theorem kH:cj cS:=fun _ _=>rfl
theorem eN {T:Type} {f:T->List A} (hf:cj f):cj (cL f):=fun g x=>by
 show [cA g (.imm (x.map f) false)]=_
 simp only[cA,cG hf]; rfl
theorem cR:(∀ (H:ay) (a:A),snap H a=cA (gG 4 H) a)/\(∀ (g:Nat->Nat->Nat->A) (b o m:Nat) (c:Bool),cA g (.sl b o m c)=g b o m)/\(∀ (g:Nat->Nat->Nat->A) (els:List (List A)) (c:Bool),cA g (.imm els c)=.imm (dj g els) false)/\(∀ (g:Nat->Nat->Nat->A) (cs:List A),cA g (.agg cs)=.agg (aU g cs))/\(∀ (g:Nat->Nat->Nat->A) (cs:List A),cA g (.tup cs)=.tup (aU g cs))/\(∀ (g:Nat->Nat->Nat->A) (t:TypeId) (x:A),cA g (.ifc t x)=.ifc t (cA g x))/\(∀ (g:Nat->Nat->Nat->A) (k:IntKind) (ks:List Int) (vs:List A),cA g (.mv k ks vs)=.mv k ks (aU g vs))/\(∀ (g:Nat->Nat->Nat->A) (x:Value),cA g (.v x)=.v x)/\(∀ (g:Nat->Nat->Nat->A) (f:Fn),cA g (.fn f [] [])=.fn f [] [])/\(∀ (g:Nat->Nat->Nat->A),aU g []=[])/\(∀ (g:Nat->Nat->Nat->A) (a:A) (as:List A),aU g (a :: as)=cA g a :: aU g as)/\(∀ (g:Nat->Nat->Nat->A),dj g []=[])/\(∀ (g:Nat->Nat->Nat->A) (a:List A) (as:List (List A)),dj g (a :: as)=aU g a :: dj g as)/\(∀ {T:Type} {f:T->List A} (hf:cj f) (g:Nat->Nat->Nat->A) (l:List T),dj g (l.map f)=l.map f)/\(∀ (g:Nat->Nat->Nat->A) (a b:List A),aU g (a++b)=aU g a++aU g b)/\(∀ k,cj (cI k))/\cj c8/\cj cB/\cj cS/\(∀ {T:Type} {f:T->List A} (hf:cj f),cj (cL f)) :=
 ⟨fun _ _=>rfl,fun _ _ _ _ _=>rfl,fun _ _ _=>rfl,fun _ _=>rfl,fun _ _=>rfl,fun _ _ _=>rfl,fun _ _ _ _=>rfl,fun _ _=>rfl,fun _ _=>rfl,fun _=>rfl,fun _ _ _=>rfl,fun _=>rfl,fun _ _ _=>rfl,cG,sN,jF,dc,fI,kH,eN⟩
def fT {T U:Type} (f:T->U):Prop:=∀ x y,f x=f y->x=y
theorem map_inj {T:Type} {f:T->List A} (hf:fT f):∀ (l l':List T),l.map f=l'.map f↔l=l'
 | [],[]=>by simp
 | [],_ :: _=>by simp
 | _ :: _,[]=>by simp
 | x :: l,y :: l'=>by
  simp only[List.map_cons,List.cons.injEq,map_inj hf l l']
  exact⟨fun h=>⟨hf x y h.1,h.2⟩,fun h=>⟨by rw[h.1],h.2⟩⟩
theorem Gv (k:IntKind):fT (cI k):=fun x y h=>by simpa [cI] using h
theorem mF:fT c8:=fun x y h=>by
 simp only[c8,List.cons.injEq,A.v.injEq,Value.int.injEq,and_true,true_and] at h
 exact UInt8.toNat_inj.1 (by omega)
theorem fW:fT cB:=fun x y h=>by simpa [cB] using h
theorem Ar {T:Type} {f:T->List A} (hf:fT f):fT (cL f):=fun x y h=>by
 simp only[cL,List.cons.injEq,A.imm.injEq,and_true,map_inj hf] at h
 exact h
noncomputable def bT {X:Type} (e:X->List A) (G:X->Option A) (args:List A):Option A:=open Classical in if h:∃ x,e x=args then G h.choose else none
theorem aQ {X:Type} {e:X->List A} (G:X->Option A) (inj:fT e) (x:X):bT e G (e x)=G x:=by
 unfold bT
 have h:∃ y,e y=e x:=⟨x,rfl⟩
 rw[dif_pos h,inj _ _ h.choose_spec]
theorem DU {X:Type} {e:X->List A} {G:X->Option A} {args:List A} {r:A} (h:bT e G args=some r):∃ x,e x=args/\G x=some r:=by
 unfold bT at h
 split at h
 ·rename_i hx; exact⟨_,hx.choose_spec,h⟩
 ·cases h
theorem dH {X Y:Type} {e:X->List A} {F:X->Option Y} {f:Y->A} {args:List A} {r:A} (h:bT e (fun x=>(F x).map f) args=some r):∃ x y,e x=args/\F x=some y/\f y=r:=by
 obtain ⟨x,hx,h⟩:=DU h
 simp only[Option.map_eq_some_iff] at h
 obtain ⟨y,hy,h⟩:=h
 exact⟨x,y,hx,hy,h⟩
theorem iL:(∀ {T:Type} (a:T) (as:List T) (b:T) (bs:List T),(a :: as=b :: bs)=(a=b/\as=bs))/\(∀ a b:Value,(A.v a=A.v b)=(a=b))/\(∀ a b:List A,(A.agg a=A.agg b)=(a=b))/\(∀ (a:List (List A)) (c:Bool) (b:List (List A)) (d:Bool),(A.imm a c=A.imm b d)=(a=b/\c=d))/\(∀ (k:IntKind) (n:Int) (k':IntKind) (n':Int),(Value.int k n=Value.int k' n')=(k=k'/\n=n'))/\(∀ a b:Bool,(Value.bool a=Value.bool b)=(a=b))/\(∀ a b:ByteArray,(Value.string a=Value.string b)=(a=b))/\(∀ p:Prop,(p/\True)=p)/\(∀ p:Prop,(True/\p)=p) :=
 ⟨fun a as b bs=>List.cons.injEq a as b bs,fun a b=>A.v.injEq a b,fun a b=>A.agg.injEq a b,fun a c b d=>A.imm.injEq a c b d,fun k n k' n'=>Value.int.injEq k n k' n',fun a b=>Value.bool.injEq a b,fun a b=>Value.string.injEq a b,fun p=>and_true p,fun p=>true_and p⟩
def gB (C:Nat->List A->Option A) (k:Nat) (c:List A->Option A):Nat->List A->Option A:=fun j args=>bif Nat.beq j k then c args else C j args
theorem oy {cx:Cx} {n k:Nat} {base:aW} {args:List A} {H:ay} {lo:Nat} (h:Nat.ble cx.P.funcs.size k=false) (h2:fM cx k H=false:=by rfl) (h3:gu cx k H=false:=by rfl):aI cx (n+1) base k args H lo=av cx (aI cx n base) (aI cx n) n k args H lo:=by
 rw[aI,h,h2,h3]; rfl
theorem aK {cx:Cx} {n k:Nat} {args:List A} {H:ay} {lo:Nat} (h:Nat.ble cx.P.funcs.size k=false) (h2:fM cx k H=false:=by rfl) (h3:gu cx k H=false:=by rfl):br cx (n+1) k args H lo=av cx (br cx n) (aI cx n) n k args H lo:=oy h h2 h3
theorem wA {cx:Cx} {k:Nat}:fM cx k []=false:=by
 unfold fM
 cases hb:Nat.beq (cx.cut k) 0 with
 | true=>rfl
 | false=>cases hk:cx.cut k with
  | zero=>rw[hk] at hb; cases hb
  | succ m=>rfl
theorem uV {cx:Cx} {k:Nat}:gu cx k []=false:=by
 unfold gu
 cases cx.deep k<;>rfl
theorem yM {cx:Cx} {n k:Nat} {args:List A} {lo:Nat} {r:Go.Proofs.Ytdmgdjnadbakfaa.R} (h:av cx (br cx n) (aI cx n) n k args [] lo=some r):br cx (n+1) k args [] lo=some r:=by
 refine(aK (rr ?_) wA uV).trans h
 unfold av at h
 cases hf:cx.P.funcs[k]? with
 | none=>rw[hf] at h; cases h
 | some fn=>exact(Array.getElem?_eq_some_iff.1 hf).1
theorem qY {q b:Nat} {call:aW} {rnd:List A->ay->Nat->Option Go.Proofs.Ytdmgdjnadbakfaa.R} {args:List A} {H:ay} {lo:Nat}:sZ q call b rnd (q+b) args H lo=rnd args H lo:=by
 unfold sZ; rw[show Nat.beq (q+b) (q+b)=true from by simp]; rfl
theorem Bn {cx:Cx} {b:Nat} {base:aW} {args:List A} {H:ay} {lo:Nat}:∀ {m:Nat},aI cx m base (cx.P.funcs.size+b) args H lo=base (cx.P.funcs.size+b) args H lo:=fun {m}=>by
 cases m<;>rw[aI,show Nat.ble cx.P.funcs.size (cx.P.funcs.size+b)=true from by simp[Nat.ble_eq]]<;>rfl
theorem nr {β:Type} {H:ay} {b:Nat} {x:Option β} (h:H[b]? = some (.rng .ready)):Ei H b x=x:=by unfold Ei; rw[h]
theorem mQ {β:Type} {H:ay} {b:Nat} {x:Option β} (h:H[b]? = some (.rng .busy)):BQ H b x=x:=by unfold BQ; rw[h]
section
variable {β:Type} {H:ay} {b:Nat} {kn:ay->Option β} {kx kg:Nat->ay->Option β} {kr:ay->Option β}
theorem FM (h:H[b]? = some (.rng .ready)):nv b H kn kx kg kr=kn (H.set b .dead):=by unfold nv; rw[h]
theorem O4 (h:H[b]? = some (.rng (.done .ret))):nv b H kn kx kg kr=kr (H.set b .dead):=by unfold nv; rw[h]
end
section
variable {cx:Cx} {call:aW} {q lo b:Nat} {first cap args:List A} {H:ay} {k pan:A->ay->Option Go.Proofs.Ytdmgdjnadbakfaa.R} {kL:Go.Proofs.Ytdmgdjnadbakfaa.R->Option ρ}
theorem J.dC (h1:da cx.P q=true) (h2:cx.isOrc q=false) (h:J φ ((call q (first++args++cap) H lo).bind fun r=>dA r.1 (fun a=>k a r.2) (fun a=>pan a r.2)) kL R K):J φ (dK cx call (.fn (.func q) first cap) args H lo k pan) kL R K:=by
 unfold dK; simp only[h1,h2,cond_true,cond_false]; exact h
theorem J.dY (h1:xa H b=true) (h:J φ ((call (cx.P.funcs.size+b) args H lo).bind fun r=>dA r.1 (fun a=>k a r.2) (fun _=>none)) kL R K):J φ (dK cx call (.yld b) args H lo k pan) kL R K:=by
 unfold dK; simp only[h1,cond_true]; exact h
end
theorem zq {cx:Cx} (horc:jx cx) (hmx:cx.P.follows .mixedOrders=true) {γ:Type} {n k:Nat} {args:List A} {f:γ->A} {F:Option γ} {y:γ}
  (h:J (fun (o:Go.Proofs.Ytdmgdjnadbakfaa.R) y=>∃ v,o.1=.ret v/\aE o.2 v=f y) (av cx (br cx (n+8)) (aI cx (n+8)) (n+8) k args [] 0) some F some) (hF:F=some y):eI cx.P cx.glob k args (f y):=by
 obtain ⟨s,h1,v,h2,h3⟩:=h y (by rw[hF]; rfl)
 obtain ⟨o,H⟩:=s
 have h2:o=.ret v:=h2
 subst h2
 rw[show ∀ x:Option Go.Proofs.Ytdmgdjnadbakfaa.R,x.bind some=x from fun x=>by cases x<;>rfl] at h1
 have h1:br cx (n+9) k args [] 0=some (.ret v,H):=yM h1
 have:=po horc hmx h1
 rwa [show aE H v=f y from h3] at this
abbrev wr (k:IntKind) (n:Int):Int:=k.wrap n
def gQ (k:IntKind) (x y:Int):Int:=k.wrap (x*2 ^ (min y.toNat k.bits))
def lA (k:IntKind) (x y:Int):Int:=x.fdiv (2 ^ (min y.toNat k.bits))
def kB (k:IntKind) (x y:Int):Int:=k.wrap ((BitVec.ofInt k.bits x &&& BitVec.ofInt k.bits y).toNat:Int)
def gy (k:IntKind) (x y:Int):Int:=k.wrap ((BitVec.ofInt k.bits x ||| BitVec.ofInt k.bits y).toNat:Int)
def qN (k:IntKind) (x y:Int):Int:=k.wrap ((BitVec.ofInt k.bits x ^^^ BitVec.ofInt k.bits y).toNat:Int)
section
variable {P:Program} {t:TypeId} {i j:Bool} {k k2:IntKind} {a b:Int}
theorem fG (hb:0<=b):jN P .shl t i j (.v (.int k a)) (.v (.int k2 b))=some (.v (.int k (gQ k a b))):=by
 have h:cN P (do eqGuard .shl t (rep i) (rep j) (.int k a) (.int k2 b); binOp .shl t (.int k a) (.int k2 b))=some (.int k (gQ k a b)):=by
  show cN P (binOp .shl t (.int k a) (.int k2 b))=_
  simp only[binOp,Op.shift,if_neg (Int.not_lt.2 hb)]; rfl
 show (cN P _).map xk=_
 rw[h]; rfl
theorem gn (hb:0<=b):jN P .shr t i j (.v (.int k a)) (.v (.int k2 b))=some (.v (.int k (lA k a b))):=by
 have h:cN P (do eqGuard .shr t (rep i) (rep j) (.int k a) (.int k2 b); binOp .shr t (.int k a) (.int k2 b))=some (.int k (lA k a b)):=by
  show cN P (binOp .shr t (.int k a) (.int k2 b))=_
  simp only[binOp,Op.shift,if_neg (Int.not_lt.2 hb)]; rfl
 show (cN P _).map xk=_
 rw[h]; rfl
theorem gV:jN P .and t i j (.v (.int k a)) (.v (.int k b))=some (.v (.int k (kB k a b))):=by
 have h:cN P (do eqGuard .and t (rep i) (rep j) (.int k a) (.int k b); binOp .and t (.int k a) (.int k b))=some (.int k (kB k a b)):=by
  show cN P (binOp .and t (.int k a) (.int k b))=_
  simp only[binOp,ne_eq,not_true_eq_false,if_false,Op.intBits]; rfl
 show (cN P _).map xk=_
 rw[h]; rfl
theorem dz:jN P .or t i j (.v (.int k a)) (.v (.int k b))=some (.v (.int k (gy k a b))):=by
 have h:cN P (do eqGuard .or t (rep i) (rep j) (.int k a) (.int k b); binOp .or t (.int k a) (.int k b))=some (.int k (gy k a b)):=by
  show cN P (binOp .or t (.int k a) (.int k b))=_
  simp only[binOp,ne_eq,not_true_eq_false,if_false,Op.intBits]; rfl
 show (cN P _).map xk=_
 rw[h]; rfl
theorem n0:jN P .xor t i j (.v (.int k a)) (.v (.int k b))=some (.v (.int k (qN k a b))):=by
 have h:cN P (do eqGuard .xor t (rep i) (rep j) (.int k a) (.int k b); binOp .xor t (.int k a) (.int k b))=some (.int k (qN k a b)):=by
  show cN P (binOp .xor t (.int k a) (.int k b))=_
  simp only[binOp,ne_eq,not_true_eq_false,if_false,Op.intBits]; rfl
 show (cN P _).map xk=_
 rw[h]; rfl
end
theorem et {n:Int} (h:(decide (0<=n)&&decide (n<256))=true):((UInt8.ofNat n.toNat).toNat:Int)=n:=by
 simp only[Bool.and_eq_true,decide_eq_true_eq] at h
 rw[UInt8.toNat_ofNat',Nat.mod_eq_of_lt (by omega)]
 omega
def bw {T:Type} (l:List T) (i:Int):Option T:=bif decide (0<=i) then l[i.toNat]? else none
theorem EP {P:Program} {t e:TypeId} {es:Nat} {T:Type} (f:T->List A) (l:List T) (c:Bool) (k:IntKind) (i:Int) (H:ay) (h1:P.underlying t=some (.slice e)) (h2:de P e=some es) (h3:∀ x,(f x).length=es) :
  ax P t (.imm (l.map f) c) (.v (.int k i)) H=(bw l i).map fun x=>.ip (f x):=by
 unfold ax idx bw
 rw[h1]
 by_cases hi:0<=i
 ·simp only[hi,decide_true,cond_true,Option.bind_some,fD,h2,List.getElem?_map]
  cases l[i.toNat]? with
  | none=>rfl
  | some x=>simp[h3]
 ·simp only[hi,decide_false,cond_false,Option.bind_none,Option.map_none]
theorem EV {P:Program} {t e:TypeId} {T:Type} (f:T->List A) (l:List T) (c:Bool) (H:ay) (h1:P.underlying t=some (.slice e)):bU P t (.imm (l.map f) c) H=some (.v (.int .i64 l.length)):=by
 unfold bU
 rw[h1]
 simp[fD]
section
variable {P:Program} {t e es by_:Nat} {T:Type} {f:T->List A}
def er (l:List T) (lo hi:Int):Option (List T):=bif decide (0<=lo)&&decide (lo<=hi)&&decide (hi<=l.length) then some ((l.drop lo.toNat).take (hi.toNat - lo.toNat)) else none
def cQ (b:Nat) (l l2:List T):Option (List T):=bif decide ((l.length+l2.length)*b<=eG) then some (l++l2) else none
def mB (f:T->List A):Prop:=∀ x,(f x).all A.cell=true
theorem Jg (k:IntKind):mB (cI k):=fun _=>rfl
theorem Gl:mB c8:=fun _=>rfl
theorem Jf:mB cB:=fun _=>rfl
theorem Jh {U:Type} {g:U->List A}:mB (cL g):=fun _=>rfl
theorem tL (hl:∀ x,(f x).length=es) (hc:mB f) (l:List T):((l.map f).all fun cs=>cs.length==es&&cs.all A.cell)=true:=by
 rw[List.all_map]
 exact List.all_eq_true.2 fun x _=>by simp[hl,hc x]
def qu (H:ay) (y:A) (f:T->List A) (l:List T):Prop:=els? H y=some (l.map f)
theorem aY (l:List T) (c:Bool) (H:ay):qu H (.imm (l.map f) c) f l:=rfl
theorem qS (s:ByteArray) (H:ay):qu H (.v (.string s)) c8 s.data.toList:=rfl
theorem Ah {P:Program} {H:ay} {t2 by_:Nat} {z:List A} {y:A} (h:nk P t2=true):yJ P H t2 by_ z y=els? H y:=by unfold yJ; rw[h]; rfl
theorem tK (hl:∀ x,(f x).length=es) (hc:mB f) (h0:es≠0) (hb:by_≠0) {z:List A} (hz:z.length=es) (l2:List T) :
  (es==0 || by_==0 || !(z.length==es) || !((l2.map f).all fun cs=>cs.length==es&&cs.all A.cell))=false:=by
 rw[tL hl hc]
 simp[h0,hb,hz]
theorem EA {t2:Nat} {z:List A} (h1:mE P t=some e) (h2:de P e=some es) (h3:lP P e=some by_) (h4:gH P e=some z) (hz:z.length=es) (h0:es≠0) (hb:by_≠0) (hn:nk P t2=true)
  (hl:∀ x,(f x).length=es) (hc:mB f) {H:ay} {lo:Nat} {l l2:List T} {y:A} (hy:qu H y f l2) :
  bF P t t2 false (.imm (l.map f) true) y H lo=(cQ by_ l l2).map fun r=>(.sl H.length 0 r.length false,H++[.row false es (r.map f)]):=by
 unfold bF
 rw[h1,Option.bind_some,h2,Option.bind_some,h3,Option.bind_some,h4,Option.bind_some,Ah hn,show els? H y=_ from hy,Option.bind_some,tK hl hc h0 hb hz,cond_false]
 simp only[List.length_map,Bool.false_and,cond_false,tL hl hc,cond_true,cQ]
 cases decide ((l.length+l2.length)*by_<=eG)<;>simp
theorem EB {t2:Nat} {z:List A} (h1:mE P t=some e) (h2:de P e=some es) (h3:lP P e=some by_) (h4:gH P e=some z) (hz:z.length=es) (h0:es≠0) (hb:by_≠0) (hn:nk P t2=true)
  (hl:∀ x,(f x).length=es) (hc:mB f) {wr:Bool} {H:ay} {lo b:Nat} {l l2:List T} {y:A} (hH:H[b]? = some (.row false es (l.map f))) (hlo:lo<=b) (hy:qu H y f l2) :
  bF P t t2 wr (.sl b 0 l.length false) y H lo=(cQ by_ l l2).map fun r=>(.sl b 0 r.length false,H.set b (.row false es (r.map f))):=by
 unfold bF
 rw[h1,Option.bind_some,h2,Option.bind_some,h3,Option.bind_some,h4,Option.bind_some,Ah hn,show els? H y=_ from hy,Option.bind_some,tK hl hc h0 hb hz,cond_false]
 simp only[hH,List.length_map,cQ]
 cases hd:decide ((l.length+l2.length)*by_<=eG)<;>simp[hlo]
structure td (P:Program) (t t2 e es by_:Nat) (z:List A) (f:T->List A):Prop where
 h1:mE P t=some e
 h2:de P e=some es
 h3:lP P e=some by_
 h4:gH P e=some z
 hz:z.length=es
 h0:es≠0
 hb:by_≠0
 hn:nk P t2=true
 hl:∀ x,(f x).length=es
 hc:mB f
theorem jB {t2:Nat} {z:List A} (a:td P t t2 e es by_ z f) {H:ay} {lo:Nat} {l l2:List T} {y:A} (hy:qu H y f l2) :
  bF P t t2 false (.imm (l.map f) true) y H lo=(cQ by_ l l2).map fun r=>(.sl H.length 0 r.length false,H++[.row false es (r.map f)]):=EA a.h1 a.h2 a.h3 a.h4 a.hz a.h0 a.hb a.hn a.hl a.hc hy
theorem bV {t2:Nat} {z:List A} (a:td P t t2 e es by_ z f) {wr:Bool} {H:ay} {lo b:Nat} {l l2:List T} {y:A} (hH:H[b]? = some (.row false es (l.map f))) (hlo:lo<=b) (hy:qu H y f l2) :
  bF P t t2 wr (.sl b 0 l.length false) y H lo=(cQ by_ l l2).map fun r=>(.sl b 0 r.length false,H.set b (.row false es (r.map f))):=EB a.h1 a.h2 a.h3 a.h4 a.hz a.h0 a.hb a.hn a.hl a.hc hH hlo hy
theorem BI {d:Nat} {k:IntKind} {n:Int}:kb d (some (.v (.int k n)))=bif decide (0<=n) then some n.toNat else none:=rfl
theorem fJ {P:Program} {t e:TypeId} {es:Nat} {T:Type} {f:T->List A} {l:List T} {c:Bool} {k:IntKind} {i:Int} {H:ay} (h1:P.underlying t=some (.slice e):=by kernel_rfl) (h2:de P e=some es:=by kernel_rfl) (h3:∀ x,(f x).length=es:=by exact fun _=>rfl) :
  ax P t (.imm (l.map f) c) (.v (.int k i)) H=(bw l i).map fun x=>.ip (f x):=EP f l c k i H h1 h2 h3
theorem dQ {P:Program} {t e:TypeId} {T:Type} {f:T->List A} {l:List T} {c:Bool} {H:ay} (h1:P.underlying t=some (.slice e):=by kernel_rfl):bU P t (.imm (l.map f) c) H=some (.v (.int .i64 l.length)):=EV f l c H h1
theorem eS (h1:P.underlying t=some (.slice e)) (h2:de P e=some es) (hl:∀ x,(f x).length=es) {H:ay} {l:List T} {lo hi:Option A} {a b:Int} (ha:(lo=none/\a=0)∨∃ k,lo=some (.v (.int k a))) (hb:(hi=none/\b=l.length)∨∃ k,hi=some (.v (.int k b))) :
  eK P t (.imm (l.map f) false) lo hi none H=(er l a b).map fun r=>.imm (r.map f) false:=by
 unfold eK
 rw[h1]
 simp only[h2,Option.bind_some,List.length_map,Bool.false_and]
 have e1:kb l.length hi=bif decide (0<=b) then some b.toNat else none:=by
  rcases hb with ⟨rfl,rfl⟩ | ⟨k,rfl⟩
  ·simp[kb]
  ·rfl
 have e2:kb 0 lo=bif decide (0<=a) then some a.toNat else none:=by
  rcases ha with ⟨rfl,rfl⟩ | ⟨k,rfl⟩
  ·simp[kb]
  ·rfl
 have e3:∀ i:Nat,(i==0 || match (l.map f)[i]? with | some cs=>cs.length==es | none=>true)=true:=fun i=>by
  rw[List.getElem?_map]
  cases l[i]?<;>simp[hl]
 rw[e1,e2]
 unfold er
 by_cases hb0:0<=b
 ·by_cases ha0:0<=a
  ·have q1:(decide (a.toNat<=b.toNat))=decide (a<=b):=by rw[decide_eq_decide]; omega
   have q2:(decide (b.toNat<=l.length))=decide (b<=(l.length:Int)):=by rw[decide_eq_decide]; omega
   simp only[hb0,ha0,decide_true,cond_true,Option.bind_some,Bool.true_and,q1,q2,List.map_take,List.map_drop]
   have e4:=e3 a.toNat
   rw[List.getElem?_map] at e4 ⊢
   cases hx:l[a.toNat]?<;>rw[hx] at e4<;>cases (decide (a<=b)&&decide (b<=(l.length:Int)))<;>simp[hl]
  ·simp[hb0,ha0]
 ·have:(decide (0<=a)&&decide (a<=b)&&decide (b<=(l.length:Int)))=false:=by
   rw[Bool.eq_false_iff]; intro hh; simp only[Bool.and_eq_true,decide_eq_true_eq] at hh; omega
  simp[hb0,this]
theorem gr (h1:P.underlying t=some (.slice e)) (h2:de P e=some es) (hl:∀ x,(f x).length=es) {H:ay} {l:List T} {lo:Option A} {a b:Int} {k1 k2:IntKind} {c:Bool} (ha:(lo=none/\a=0)∨∃ k,lo=some (.v (.int k a))) :
  eK P t (.imm (l.map f) c) lo (some (.v (.int k1 b))) (some (.v (.int k2 b))) H=(er l a b).map fun r=>.imm (r.map f) true:=by
 unfold eK
 rw[h1]
 simp only[h2,Option.bind_some,List.length_map,BI,idx]
 have e2:kb 0 lo=bif decide (0<=a) then some a.toNat else none:=by
  rcases ha with ⟨rfl,rfl⟩ | ⟨k,rfl⟩
  ·simp[kb]
  ·rfl
 have e3:∀ i:Nat,(i==0 || match (l.map f)[i]? with | some cs=>cs.length==es | none=>true)=true:=fun i=>by
  rw[List.getElem?_map]
  cases l[i]?<;>simp[hl]
 rw[e2]
 unfold er
 by_cases hb0:0<=b
 ·by_cases ha0:0<=a
  ·have q1:(decide (a.toNat<=b.toNat))=decide (a<=b):=by rw[decide_eq_decide]; omega
   have q2:(decide (b.toNat<=l.length))=decide (b<=(l.length:Int)):=by rw[decide_eq_decide]; omega
   simp only[hb0,ha0,decide_true,cond_true,Option.bind_some,Bool.true_and,q1,q2,List.map_take,List.map_drop,beq_self_eq_true]
   rw[List.getElem?_map]
   cases hx:l[a.toNat]?<;>cases (decide (a<=b)&&decide (b<=(l.length:Int)))<;>simp[hl]
  ·simp[hb0,ha0]
 ·have:(decide (0<=a)&&decide (a<=b)&&decide (b<=(l.length:Int)))=false:=by
   rw[Bool.eq_false_iff]; intro hh; simp only[Bool.and_eq_true,decide_eq_true_eq] at hh; omega
  simp[hb0,this]
theorem di (hf:cj f) {H:ay} {b n:Nat} {l:List T} (h:H[b]? = some (.row false es (l.map f))):gG (n+1) H b 0 l.length=.imm (l.map f) false:=by
 unfold gG
 rw[h]
 simp only[List.drop_zero]
 rw[List.take_of_length_le (by simp),cG hf]
theorem aV (hf:cj f) {H:ay} {b n:Nat} {wr:Bool} {l:List T} (h:H[b]? = some (.row wr es (l.map f))):jM (n+1) H b 0 l.length=.imm (l.map f) false:=by
 unfold jM
 rw[h]
 simp only[List.drop_zero]
 rw[List.take_of_length_le (by simp),cG hf]
theorem mq {H:ay} {b:Nat} {l:List T} {c:Bool} {k:IntKind} {i:Int} (h1:P.underlying t=some (.slice e)) (h2:de P e=some es) (h:H[b]? = some (.row false es (l.map f))) :
  ax P t (.sl b 0 l.length c) (.v (.int k i)) H=(bw l i).map fun x=>.ip (f x):=by
 unfold ax idx bw
 rw[h1]
 by_cases hi:0<=i
 ·simp only[hi,decide_true,cond_true,Option.bind_some,fD,h2,h,Nat.zero_add,beq_self_eq_true,List.getElem?_map,Option.map_map]
  by_cases hl:i.toNat<l.length
  ·simp[hl,Function.comp_def]
  ·simp[hl,Nat.not_lt.1 hl]
 ·simp only[hi,decide_false,cond_false,Option.bind_none,Option.map_none]
theorem AP {H:ay} {b o n:Nat} {B:aA} {c:Bool} (h1:P.underlying t=some (.slice e)) (h:H[b]? = some B) (hB:fD H (.sl b o n c)=true):bU P t (.sl b o n c) H=some (.v (.int .i64 n)):=by
 unfold bU
 rw[h1,hB]; rfl
end
def cU (l:List UInt8):ByteArray:=⟨l.toArray⟩
def kE (s:ByteArray):List UInt8:=s.data.toList
theorem ru:∀ l:List UInt8,bytesOf (l.map c8)=some l
 | []=>rfl
 | a :: l=>by
  rw[List.map_cons]
  show (bytesOf (l.map c8)).map (((a.toNat:Int).toNat.toUInt8) :: ·)=_
  rw[ru l]
  simp
theorem gq {P:Program} {s d e:Nat} (h1:P.underlying s=some (.slice e)) (h2:P.underlying d=some .string) (h3:P.underlying e=some (.int .u8)) (h4:de P e=some 1) {H:ay} {x:A} {l:List UInt8} (hx:qu H x c8 l) (hn:wB H x=els? H x) :
  bc P s d x H=some (.v (.string (cU l))):=by
 unfold bc
 rw[h1,h2]
 simp only[h3,h4,hn]
 rw[show els? H x=_ from hx,Option.bind_some,ru]
 rfl
def Ia (y:Nat):A:=bif Nat.beq y 0 then .v .nilFunc else .fn (.func y) [] []
theorem zA (L e:Nat):A.under L (Ia e)=true:=by unfold Ia; cases Nat.beq e 0<;>rfl
theorem iC:(∀ (L e:Nat),A.under L (Ia e)=true)/\(∀ {T:Type} {f:T->List A} (hf:dk f) (L:Nat) (l:List T),au L (l.map f)=true)/\(∀ (L:Nat) (a b:List A),bl L (a++b)=(bl L a&&bl L b))/\(∀ k,dk (cI k))/\dk c8/\dk cB/\dk cS/\(∀ {T:Type} {f:T->List A} (hf:dk f),dk (cL f))/\(∀ b:Bool,(b&&true)=b)/\(∀ b:Bool,(true&&b)=b)/\(∀ {β:Type} (x y:β),(bif true then x else y)=x) :=
 ⟨zA,cZ,sU,kN,kK,kM,kP,kO,fun b=>Bool.and_true b,fun b=>Bool.true_and b,fun _ _=>rfl⟩
abbrev iA (n:Int):A:=A.v (Value.int .i64 n)
abbrev uA (n:Int):A:=A.v (Value.int .u8 n)
abbrev bA (b:Bool):A:=A.v (Value.bool b)
theorem CU {β:Type} {cx:Cx} {k m n lo:Nat} {args:List A} {H5 X:ay} {Y:Option β} {o:β->Out} {H':β->ay} (hk:Nat.ble cx.P.funcs.size k=false) (hm:cx.cut k=m) (hm0:Nat.beq m 0=false) (hl:H5.length=m) (ha:bl m args=true) (hh:H5.all (aA.under m)=true)
  (hl':∀ y,(H' y).length=m) (hv:∀ y,pL m (o y)=true) (hh':∀ y,(H' y).all (aA.under m)=true) (h:J (fun (r:Out×ay) y=>∃ Z,r=(o y,H' y++Z)) (av cx (br cx n) (aI cx n) n k args H5 lo) some Y some) :
  J (fun (r:Out×ay) y=>r=(o y,H' y++X)) (br cx (n+1) k args (H5++X) lo) some Y some:=by
 intro r hr
 obtain ⟨s,h1,Z,rfl⟩:=h r hr
 refine⟨_,?_,rfl⟩
 have h2:av cx (aI cx n GJ) (aI cx n) n k args H5 lo=some (o r,H' r++Z):=by
  rw[Option.bind_fun_some] at h1
  exact h1
 have hc:fM cx k (H5++X)=true:=by
  unfold fM
  rw[hm,hm0,Nat.ble_eq_true_of_le (by rw[List.length_append]; omega)]
  rfl
 have hc2:cutAt cx k (H5++X)=m:=by
  unfold cutAt
  rw[hm,Nat.ble_eq_true_of_le (by rw[List.length_append]; omega)]
  rfl
 have t1:(H5++X).take m=H5:=by rw[<-hl,List.take_left]
 have t2:(H5++X).drop m=X:=by rw[<-hl,List.drop_left]
 have t3:(H' r++Z).take m=H' r:=by rw[<-hl' r,List.take_left]
 have t4:Nat.ble m (H' r++Z).length=true:=Nat.ble_eq_true_of_le (by rw[List.length_append,hl']; omega)
 unfold br
 rw[aI,hk,hc]
 simp only[cond_true,cond_false]
 unfold nG
 rw[hc2,t1,t2,ha,hh]
 show ((bif true&&true then (av cx (aI cx n GJ) (aI cx n) n k args H5 lo).bind _ else none).bind some)=_
 rw[h2]
 simp only[Bool.and_self,cond_true,Option.bind_some,t4,t3,hh',hv]
theorem AQ {α:Type} (x:α):∀ (a l:List α) (b:Nat),a.length<=b->(a++l).set b x=a++l.set (b - a.length) x
 | [],l,b,_=>rfl
 | y :: a,l,0,h=>by simp at h
 | y :: a,l,b+1,h=>by
  rw[List.cons_append,List.set_cons_succ,AQ x a l b (by simpa using h),List.length_cons,Nat.add_sub_add_right,List.cons_append]
theorem bH {o:Out} {lo off b p:Nat} {H2 X:ay} (h:H2.length<=b):∃ Z,(o,bD lo off 0 (.ptr b p) (H2++X))=(o,H2++Z):=by
 have key:∃ Z,bD lo off 0 (.ptr b p) (H2++X)=H2++Z:=by
  unfold bD
  simp only[]
  split
  ·split
   ·cases decide (lo<=b) with
    | false=>exact⟨X,rfl⟩
    | true=>exact⟨_,AQ _ _ _ _ h⟩
   ·exact⟨X,rfl⟩
  ·exact⟨X,rfl⟩
 obtain ⟨Z,hZ⟩:=key
 exact⟨Z,by rw[hZ]⟩
theorem jA {T:Type} {f:T->List A} (hf:cj f) {H:ay} {lo off b o b' es:Nat} {l:List T} {cs:List A} {c:Bool} (h1:H[b]? = some (.box cs)) (h2:cs[o+off]? = some (.sl b' 0 l.length c)) (h3:H[b']? = some (.row false es (l.map f))) (h4:lo<=b) :
  bD lo off 0 (.ptr b o) H=H.set b (.box (cs.set (o+off) (.imm (l.map f) false))):=by
 unfold bD
 simp only[h1,h2,decide_eq_true h4,cond_true]
 rw[show Gu H (.sl b' 0 l.length c)=.imm (l.map f) false from di (n:=3) hf h3]
end
end Go.Proofs.Ytdmgdjnadbakfaa
