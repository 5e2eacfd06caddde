/-
 From what the interpreter does to plain functions on plain data: rules by which the one is followed along the other.
-/
import Derived.Test.YtdmgdjnadbakfaaEvMain
import Derived.KernelRfl
namespace Go.Proofs.Ytdmgdjnadbakfaa
section
set_option linter.unusedVariables false
set_option linter.unusedSimpArgs false
theorem oz {α β:Type} (P:Program) (f:α->Sem β):∀ (m:Sem α),dh P (m >>= f)=(dh P m).bind fun a=>dh P (f a)
 | .pure a=>rfl
 | .program k=>oz P f (k P)
 | .mark _ k=>oz P f k
 | .load .. | .store .. | .new .. | .shape .. | .freeze .. | .frozen .. | .getObj .. | .setObj .. | .choose .. | .sys .. | .halt _=>rfl
theorem p7 (P:Program) (t:TypeId):dh P (underlying t)=P.underlying t:=by
 unfold underlying
 show dh P (match P.underlying t with | some d=>pure d | none=>stuck "no such type")=_
 cases P.underlying t<;>rfl
@[simp] theorem HK {β:Type} (b:Bool) (x y:Option β):ew (.v (.bool b)) x y=bif b then x else y:=rfl
@[simp] theorem IB {β:Type} (b:Bool) (x y:Option β):ky (.v (.bool b)) true x y=bif b then x else y:=rfl
@[simp] theorem Hj {β:Type} (b:Bool) (x y:Option β):ky (.v (.bool b)) false x y=bif b then y else x:=by cases b<;>rfl
@[simp] theorem Hk {β:Type} (w:Bool) (x y:Option β):ky (.v undef) w x y=y:=by cases w<;>rfl
@[simp] theorem Jj (k:IntKind) (n:Int):(Value.int k n).oneCell'=true:=rfl
@[simp] theorem Ho (b:Bool):(Value.bool b).oneCell'=true:=rfl
@[simp] theorem FP (s:ByteArray):(Value.string s).oneCell'=true:=rfl
section
variable (P:Program) (t s d:TypeId) (i j:Bool) (k:IntKind) (a b:Int) (p q:Bool) (H:ay) (lo:Nat)
@[simp] theorem bC:lL P .eql t i j (.v (.int k a)) (.v (.int k b))=some (.v (.bool (a==b))):=by cases k<;>rfl
@[simp] theorem bq:lL P .neq t i j (.v (.int k a)) (.v (.int k b))=some (.v (.bool (a != b))):=by cases k<;>rfl
@[simp] theorem aW:lL P .lss t i j (.v (.int k a)) (.v (.int k b))=some (.v (.bool (decide (a<b)))):=by cases k<;>rfl
@[simp] theorem fx:lL P .leq t i j (.v (.int k a)) (.v (.int k b))=some (.v (.bool (decide (a<=b)))):=by cases k<;>rfl
@[simp] theorem ee:lL P .gtr t i j (.v (.int k a)) (.v (.int k b))=some (.v (.bool (decide (b<a)))):=by cases k<;>rfl
@[simp] theorem iC:lL P .geq t i j (.v (.int k a)) (.v (.int k b))=some (.v (.bool (decide (b<=a)))):=by cases k<;>rfl
@[simp] theorem aP:lL P .add t i j (.v (.int k a)) (.v (.int k b))=some (.v (.int k (k.wrap (a+b)))):=by cases k<;>rfl
@[simp] theorem jB:lL P .sub t i j (.v (.int k a)) (.v (.int k b))=some (.v (.int k (k.wrap (a - b)))):=by cases k<;>rfl
@[simp] theorem B8:lL P .mul t i j (.v (.int k a)) (.v (.int k b))=some (.v (.int k (k.wrap (a*b)))):=by cases k<;>rfl
def py (a b:ByteArray):Bool:=a.toList==b.toList
theorem qU (x y:ByteArray):lL P .eql t i j (.v (.string x)) (.v (.string y))=some (.v (.bool (py x y))):=rfl
@[simp] theorem Kd:jS P .not (.v (.bool p))=some (.v (.bool (!p))):=rfl
@[simp] theorem Kc:jS P .neg (.v (.int k a))=some (.v (.int k (k.wrap (0 - a)))):=rfl
@[simp] theorem DZ (l:List A) (n:Nat):aI (.tup l) n=l[n]?:=rfl
@[simp] theorem Mv (x:Value):snap H (.v x)=.v x:=rfl
@[simp] theorem Km (L:Nat) (x:Value):A.under L (.v x)=true:=rfl
@[simp] theorem Ma (L:Nat) (x:Value) (H':ay):nd L (.ret (.v x),H')=some (.v x):=rfl
@[simp] theorem Jm (x:A) (f g:A->Option R):bJ (.ret x) f g=f x:=rfl
@[simp] theorem Jl (x:A) (f g:A->Option R):bJ (.pan x) f g=g x:=rfl
@[simp] theorem Hg {α β:Type} (x y:α) (f:α->Option β):(bif p then some x else some y).bind f=f (bif p then x else y):=by cases p<;>rfl
@[simp] theorem K4 (x y:Value):(bif p then A.v x else A.v y)=A.v (bif p then x else y):=by cases p<;>rfl
@[simp] theorem Hh (x y:Bool):(bif p then Value.bool x else Value.bool y)=Value.bool (bif p then x else y):=by cases p<;>rfl
@[simp] theorem HS (x y:Int):(bif p then Value.int k x else Value.int k y)=Value.int k (bif p then x else y):=by cases p<;>rfl
theorem bh {l:IntKind} (hs:P.underlying s=some (.int l)) (hd:P.underlying d=some (.int k)):cd P s d (.v (.int l a)) H=some (.v (.int k (k.wrap a))):=by
 simp only[cd,hs,hd]
 have h:dh P (convert s d (.int l a))=some (.int k (k.wrap a)):=by
  unfold convert
  simp only[oz,p7,hs,hd,Option.bind_some]
  rfl
 show (dh P _).map yU=_
 rw[h]; rfl
end
end
section
set_option linter.unusedVariables false
set_option linter.unusedSimpArgs false
variable {ρ γ σ α β τ:Type}
def J (φ:ρ->γ->Prop) (L:Option σ) (kL:σ->Option ρ) (R:Option α) (K:α->Option γ):Prop:=∀ r,R.bind K=some r->∃ s,L.bind kL=some s/\φ s r
variable {φ:ρ->γ->Prop} {kL:σ->Option ρ} {K:α->Option γ} {R X Y:Option α}
theorem J.st {x:Option τ} {v:τ} {k:τ->Option σ} (h:x=some v) (hk:J φ (k v) kL R K):J φ (x.bind k) kL R K:=by
 rw[h]; exact hk
theorem J.s {x:Option τ} {k:τ->Option σ} (v:τ) (hk:J φ (k v) kL R K) (h:x=some v:=by kernel_rfl):J φ (x.bind k) kL R K:=J.st h hk
def ID (x:Option (A×ay)):A×ay:=match x with | some p=>p | none=>(.any,[])
def IC (x:Option ay):ay:=match x with | some p=>p | none=>[]
theorem J.sq {x:Option (A×ay)} {k:A×ay->Option σ} (p:A) (hk:J φ (k (p,(ID x).2)) kL R K) (h:x=some (p,(ID x).2):=by kernel_rfl):J φ (x.bind k) kL R K:=J.st h hk
theorem J.sh {x:Option ay} {k:ay->Option σ} (hk:J φ (k (IC x)) kL R K) (h:x=some (IC x):=by kernel_rfl):J φ (x.bind k) kL R K:=J.st h hk
theorem J.bd {x:Option τ} {k:τ->Option σ} {X:Option β} {Y:β->Option α} {g:β->τ} (h:x=X.map g) (hk:∀ y,J φ (k (g y)) kL (Y y) K):J φ (x.bind k) kL (X.bind Y) K:=by
 intro r hr
 rw[Option.bind_assoc] at hr
 cases X with
 | none=>cases hr
 | some y=>rw[h]; exact hk y r hr
theorem J.bg {x:Option τ} {k:τ->Option σ} {X:Option β} {Y:β->Option α} (ψ:τ->β->Prop) (h:J ψ x some X some) (hk:∀ t y,ψ t y->J φ (k t) kL (Y y) K):J φ (x.bind k) kL (X.bind Y) K:=by
 intro r hr
 rw[Option.bind_assoc] at hr
 cases X with
 | none=>cases hr
 | some y =>
  obtain ⟨s,h1,h2⟩:=h y rfl
  have:x=some s:=by cases x<;>simp_all
  rw[this]
  exact hk s y h2 r hr
theorem J.fe {x y:Option σ} (h1:J φ x kL R K):J φ (bD (.v (.bool true)) x y) kL R K:=h1
theorem J.gR {x y:Option σ} (h1:J φ y kL R K):J φ (bD (.v (.bool false)) x y) kL R K:=h1
theorem J.aY {x y:Option σ} {b:Bool} (h1:b=true->J φ x kL X K) (h2:b=false->J φ y kL Y K):J φ (bD (.v (.bool b)) x y) kL (cond b X Y) K:=by
 cases b
 ·exact h2 rfl
 ·exact h1 rfl
theorem J.nq {T:Type} {f:T->List A} {l:List T} {x y:Option σ} (h:l=[]->x=y) (hy:J φ y kL R K):J φ (bD (.nq (l.map f)) x y) kL R K:=by
 cases l with
 | nil =>
  have e:bD (A.nq (List.map f [])) x y=y:=by
   show both x y=y
   unfold both
   rw[if_pos (h rfl)]
  rw[e]; exact hy
 | cons a l=>exact hy
theorem J.gf {x y:Option σ} {b:Bool} (h1:J φ x kL X K) (h2:J φ y kL Y K):J φ (ky (.v (.bool b)) false x y) kL (cond b Y X) K:=by
 cases b
 ·exact h1
 ·exact h2
theorem J.eQ {x y:Option σ} {b:Bool} (h1:b=true->J φ x kL X K) (h2:b=false->J φ y kL Y K):J φ (ew (.v (.bool b)) x y) kL (cond b X Y) K:=by
 cases b
 ·exact h2 rfl
 ·exact h1 rfl
theorem J.cT {x y:Option σ} {c:Bool} (h:c=true) (h1:J φ x kL R K):J φ (cond c x y) kL R K:=by rw[h]; exact h1
def jQ {T:Type} (i:Int) (a b:T):Option T:=bif decide (i=0) then some a else bif decide (i=1) then some b else none
theorem J.a2 {T:Type} {x:Option τ} {k:τ->Option σ} {i:Int} {f:T->τ} {a b:T} {Y:T->Option α} (h0:i.toNat=0->x=some (f a)) (h1:i.toNat=1->x=some (f b)) (hk:∀ y,J φ (k (f y)) kL (Y y) K):J φ (x.bind k) kL ((jQ i a b).bind Y) K:=by
 unfold jQ
 by_cases h:i=0
 ·rw[h0 (by rw[h]; rfl),decide_eq_true h]; exact hk a
 ·rw[decide_eq_false h]
  by_cases h':i=1
  ·rw[h1 (by rw[h']; rfl),decide_eq_true h']; exact hk b
  ·rw[decide_eq_false h']; intro r hr; cases hr
theorem J.gd {L:Option σ} {b:Bool} (h:b=true->J φ L kL R K):J φ L kL (cond b R none) K:=by
 cases b
 ·intro r hr; cases hr
 ·exact h rfl
theorem J.sp {L:Option σ} {b:Bool} (h1:b=true->J φ L kL X K) (h2:b=false->J φ L kL Y K):J φ L kL (cond b X Y) K:=by
 cases b
 ·exact h2 rfl
 ·exact h1 rfl
theorem J.nn {L:Option σ}:J φ L kL none K:=fun r hr=>by cases hr
theorem J.uc {a:A} {r:List A} {k:A->List A->Option σ} (h:J φ (k a r) kL R K):J φ (jR (a :: r) k) kL R K:=h
theorem J.u4 {a b c d:A} {r:List A} {k:A->A->A->A->List A->Option σ} (h:J φ (k a b c d r) kL R K):J φ (jR (a :: b :: c :: d :: r) fun a l=>jR l fun b l=>jR l fun c l=>jR l fun d l=>k a b c d l) kL R K:=h
theorem J.fP {a:A} {f g:A->Option Go.Proofs.Ytdmgdjnadbakfaa.R} {kL:Go.Proofs.Ytdmgdjnadbakfaa.R->Option ρ} (h:J φ (g a) kL R K):J φ (bJ (.pan a) f g) kL R K:=h
theorem J.pk {t:TypeId} {y:A} {k:A->Option σ} (h:J φ (k (.ifc t y)) kL R K):J φ (Ba (.ifc t y) k) kL R K:=h
theorem J.ob {b:Bool} {v p:A} {f g:A->Option Go.Proofs.Ytdmgdjnadbakfaa.R} {kL:Go.Proofs.Ytdmgdjnadbakfaa.R->Option ρ} (h1:J φ (bJ (.ret v) f g) kL X K) (h2:J φ (bJ (.pan p) f g) kL Y K):J φ (bJ (bif b then Out.ret v else Out.pan p) f g) kL (cond b X Y) K:=by
 cases b
 ·exact h2
 ·exact h1
theorem J.lf {s:σ} {x:α} {r:ρ} {y:γ} (h1:kL s=some r) (h2:K x=some y) (h:φ r y):J φ (some s) kL (some x) K:=fun z hz=>by
 rw[Option.bind_some,h2] at hz
 cases hz
 exact⟨r,h1,h⟩
theorem J.lg {ψ:τ->β->Prop} {s:τ} {x:β} (h:ψ s x):J ψ (some s) some (some x) some:=fun r hr=>by cases hr; exact⟨s,rfl,h⟩
theorem J.lv {T:Type} {f:T->A} {v:A} {H:ay} {y:T} (h:aF H v=f y):J (fun (o:Go.Proofs.Ytdmgdjnadbakfaa.R) y=>∃ v,o.1=.ret v/\aF o.2 v=f y) (some (Out.ret v,H)) some (some y) some:=.lf rfl rfl ⟨_,rfl,h⟩
theorem J.cl {x:Option τ} {x':Option τ} {k:τ->Option σ} (h:x=x') (hk:J φ x' (fun r=>(k r).bind kL) R K):J φ (x.bind k) kL R K:=by
 intro r hr
 obtain ⟨s,h1,h2⟩:=hk r hr
 exact⟨s,by rw[Option.bind_assoc,h]; exact h1,h2⟩
theorem J.bb {x:Option τ} {k:τ->Option σ} (h:J φ x (fun r=>(k r).bind kL) R K):J φ (x.bind k) kL R K:=by
 intro r hr
 obtain ⟨s,h1,h2⟩:=h r hr
 exact⟨s,by rw[Option.bind_assoc]; exact h1,h2⟩
theorem J.as {L:Option σ} {X:Option β} {Y:β->Option α} (h:J φ L kL X (fun x=>(Y x).bind K)):J φ L kL (X.bind Y) K:=by
 intro r hr
 rw[Option.bind_assoc] at hr
 exact h r hr
theorem J.un {L:Option σ} {K':γ->Option γ} (hK:K'=some) (h:J φ L kL R K):J φ L kL (R.bind K) K':=by
 intro r hr
 subst hK
 exact h r (by simpa using hr)
theorem J.ex {L:Option σ} {x:α} (h:J φ L kL (K x) some):J φ L kL (some x) K:=by
 intro r hr
 exact h r (by simpa using hr)
theorem J.lp {L:Option σ} {L':Option σ} (h:L=L') (hk:J φ L' kL R K):J φ L kL R K:=h ▸ hk
theorem J.gU {x y:Option σ} {w:Bool} (h:J φ y kL R K):J φ (ky (.v undef) w x y) kL R K:=h
theorem J.ok {a:A} {f g:A->Option Go.Proofs.Ytdmgdjnadbakfaa.R} {kL:Go.Proofs.Ytdmgdjnadbakfaa.R->Option ρ} (h:J φ (f a) kL R K):J φ (bJ (.ret a) f g) kL R K:=h
theorem J.cr {s:τ} {k:τ->Option σ} (h:J φ (k s) kL R K):J φ (some s) (fun r=>(k r).bind kL) R K:=h
theorem J.vS {x y:Option σ} {b:Bool} (h:b=true) (h1:J φ x kL R K):J φ (ew (.v (.bool b)) x y) kL R K:=by subst h; exact h1
theorem J.wj {x y:Option σ} {b:Bool} (h:b=false) (h1:J φ y kL R K):J φ (ew (.v (.bool b)) x y) kL R K:=by subst h; exact h1
theorem J.CD {x y:Option τ} {k:τ->Option σ} {b:Bool} (h1:b=true->J φ (x.bind k) kL X K) (h2:b=false->J φ (y.bind k) kL Y K):J φ ((ky (.v (.bool b)) true x y).bind k) kL (cond b X Y) K:=by
 cases b
 ·exact h2 rfl
 ·exact h1 rfl
theorem J.Hl {x y:Option τ} {k:τ->Option σ} {b:Bool} (h1:b=false->J φ (x.bind k) kL X K) (h2:b=true->J φ (y.bind k) kL Y K):J φ ((ky (.v (.bool b)) false x y).bind k) kL (cond b Y X) K:=by
 cases b
 ·exact h1 rfl
 ·exact h2 rfl
theorem jY {β:Type} {x y:Option β} {b:Bool} (h:b=true):ky (.v (.bool b)) false x y=y:=by subst h; rfl
theorem jX {β:Type} {x y:Option β} {b:Bool} (h:b=false):ky (.v (.bool b)) false x y=x:=by subst h; rfl
def aH:Nat:=1208925819614629174706176
def cI (k:IntKind) (n:Int):List A:=[.v (.int k n)]
def c8 (c:UInt8):List A:=[.v (.int .u8 (c.toNat:Int))]
def cB (b:Bool):List A:=[.v (.bool b)]
def cS (s:ByteArray):List A:=[.v (.string s)]
def cL {T:Type} (f:T->List A) (l:List T):List A:=[.imm (l.map f) false]
def bQ {T:Type} (f:T->List A):Prop:=∀ g x,aU g (f x)=f x
theorem cN {T:Type} {f:T->List A} (hf:bQ f) (g:Nat->Nat->Nat->A) (l:List T):dm g (l.map f)=l.map f:=by
 induction l with
 | nil=>rfl
 | cons x l ih=>rw[List.map_cons,dm,hf,ih]
def dn {T:Type} (f:T->List A):Prop:=∀ L x,aZ L (f x)=true
theorem dc {T:Type} {f:T->List A} (hf:dn f) (L:Nat) (l:List T):aG L (l.map f)=true:=by
 induction l with
 | nil=>rfl
 | cons x l ih=>rw[List.map_cons,aG,hf,ih]; rfl
theorem kS (k:IntKind):dn (cI k):=fun _ _=>rfl
theorem kQ:dn c8:=fun _ _=>rfl
theorem kR:dn cB:=fun _ _=>rfl
theorem kU:dn cS:=fun _ _=>rfl
theorem kT {T:Type} {f:T->List A} (hf:dn f):dn (cL f):=fun L x=>by
 show (aG L (x.map f)&&true)=true
 rw[dc hf]; rfl
theorem sG (g:Nat->Nat->Nat->A):∀ (a b:List A),aU g (a++b)=aU g a++aU g b
 | [],b=>by simp only[List.nil_append,aU]
 | x :: a,b=>by simp only[List.cons_append,aU,sG g a b]
theorem sN (L:Nat):∀ (a b:List A),aZ L (a++b)=(aZ L a&&aZ L b)
 | [],b=>by simp only[List.nil_append,aZ,Bool.true_and]
 | x :: a,b=>by simp only[List.cons_append,aZ,sN L a b,Bool.and_assoc]
theorem kM (k:IntKind):bQ (cI k):=fun _ _=>rfl
theorem eS:bQ c8:=fun _ _=>rfl
theorem iG:bQ cB:=fun _ _=>rfl
theorem kN:bQ cS:=fun _ _=>rfl
theorem fV {T:Type} {f:T->List A} (hf:bQ f):bQ (cL f):=fun g x=>by
 show [cG g (.imm (x.map f) false)]=_
 simp only[cG,cN hf]; rfl
theorem cF:(∀ (H:ay) (a:A),snap H a=cG (gS 4 H) a)/\(∀ (g:Nat->Nat->Nat->A) (b o m:Nat) (c:Bool),cG g (.sl b o m c)=g b o m)/\(∀ (g:Nat->Nat->Nat->A) (els:List (List A)) (c:Bool),cG g (.imm els c)=.imm (dm g els) false)/\(∀ (g:Nat->Nat->Nat->A) (cs:List A),cG g (.agg cs)=.agg (aU g cs))/\(∀ (g:Nat->Nat->Nat->A) (cs:List A),cG g (.tup cs)=.tup (aU g cs))/\(∀ (g:Nat->Nat->Nat->A) (t:TypeId) (x:A),cG g (.ifc t x)=.ifc t (cG g x))/\(∀ (g:Nat->Nat->Nat->A) (k:IntKind) (ks:List Int) (vs:List A),cG g (.mv k ks vs)=.mv k ks (aU g vs))/\(∀ (g:Nat->Nat->Nat->A) (x:Value),cG g (.v x)=.v x)/\(∀ (g:Nat->Nat->Nat->A) (f:Fn),cG g (.fn f [] [])=.fn f [] [])/\(∀ (g:Nat->Nat->Nat->A),aU g []=[])/\(∀ (g:Nat->Nat->Nat->A) (a:A) (as:List A),aU g (a :: as)=cG g a :: aU g as)/\(∀ (g:Nat->Nat->Nat->A),dm g []=[])/\(∀ (g:Nat->Nat->Nat->A) (a:List A) (as:List (List A)),dm g (a :: as)=aU g a :: dm g as)/\(∀ {T:Type} {f:T->List A} (hf:bQ f) (g:Nat->Nat->Nat->A) (l:List T),dm g (l.map f)=l.map f)/\(∀ (g:Nat->Nat->Nat->A) (a b:List A),aU g (a++b)=aU g a++aU g b)/\(∀ k,bQ (cI k))/\bQ c8/\bQ cB/\bQ cS/\(∀ {T:Type} {f:T->List A} (hf:bQ f),bQ (cL f)) :=
 ⟨fun _ _=>rfl,fun _ _ _ _ _=>rfl,fun _ _ _=>rfl,fun _ _=>rfl,fun _ _=>rfl,fun _ _ _=>rfl,fun _ _ _ _=>rfl,fun _ _=>rfl,fun _ _=>rfl,fun _=>rfl,fun _ _ _=>rfl,fun _=>rfl,fun _ _ _=>rfl,cN,sG,kM,eS,iG,kN,fV⟩
def jd {T U:Type} (f:T->U):Prop:=∀ x y,f x=f y->x=y
theorem map_inj {T:Type} {f:T->List A} (hf:jd f):∀ (l l':List T),l.map f=l'.map f↔l=l'
 | [],[]=>by simp
 | [],_ :: _=>by simp
 | _ :: _,[]=>by simp
 | x :: l,y :: l'=>by
  simp only[List.map_cons,List.cons.injEq,map_inj hf l l']
  exact⟨fun h=>⟨hf x y h.1,h.2⟩,fun h=>⟨by rw[h.1],h.2⟩⟩
theorem IG (k:IntKind):jd (cI k):=fun x y h=>by simpa [cI] using h
theorem zU:jd c8:=fun x y h=>by
 simp only[c8,List.cons.injEq,A.v.injEq,Value.int.injEq,and_true,true_and] at h
 exact UInt8.toNat_inj.1 (by omega)
theorem iJ:jd cB:=fun x y h=>by simpa [cB] using h
theorem IH {T:Type} {f:T->List A} (hf:jd f):jd (cL f):=fun x y h=>by
 simp only[cL,List.cons.injEq,A.imm.injEq,and_true,map_inj hf] at h
 exact h
noncomputable def cY {X:Type} (e:X->List A) (G:X->Option A) (args:List A):Option A:=open Classical in if h:∃ x,e x=args then G h.choose else none
theorem bu {X:Type} {e:X->List A} (G:X->Option A) (inj:jd e) (x:X):cY e G (e x)=G x:=by
 unfold cY
 have h:∃ y,e y=e x:=⟨x,rfl⟩
 rw[dif_pos h,inj _ _ h.choose_spec]
theorem sn {X:Type} {e:X->List A} {G:X->Option A} {args:List A} {r:A} (h:cY e G args=some r):∃ x,e x=args/\G x=some r:=by
 unfold cY at h
 split at h
 ·rename_i hx; exact⟨_,hx.choose_spec,h⟩
 ·cases h
theorem jm {X Y:Type} {e:X->List A} {F:X->Option Y} {f:Y->A} {args:List A} {r:A} (h:cY e (fun x=>(F x).map f) args=some r):∃ x y,e x=args/\F x=some y/\f y=r:=by
 obtain ⟨x,hx,h⟩:=sn h
 simp only[Option.map_eq_some_iff] at h
 obtain ⟨y,hy,h⟩:=h
 exact⟨x,y,hx,hy,h⟩
theorem mD:(∀ {T:Type} (a:T) (as:List T) (b:T) (bs:List T),(a :: as=b :: bs)=(a=b/\as=bs))/\(∀ a b:Value,(A.v a=A.v b)=(a=b))/\(∀ a b:List A,(A.agg a=A.agg b)=(a=b))/\(∀ (a:List (List A)) (c:Bool) (b:List (List A)) (d:Bool),(A.imm a c=A.imm b d)=(a=b/\c=d))/\(∀ (k:IntKind) (n:Int) (k':IntKind) (n':Int),(Value.int k n=Value.int k' n')=(k=k'/\n=n'))/\(∀ a b:Bool,(Value.bool a=Value.bool b)=(a=b))/\(∀ a b:ByteArray,(Value.string a=Value.string b)=(a=b))/\(∀ p:Prop,(p/\True)=p)/\(∀ p:Prop,(True/\p)=p) :=
 ⟨fun a as b bs=>List.cons.injEq a as b bs,fun a b=>A.v.injEq a b,fun a b=>A.agg.injEq a b,fun a c b d=>A.imm.injEq a c b d,fun k n k' n'=>Value.int.injEq k n k' n',fun a b=>Value.bool.injEq a b,fun a b=>Value.string.injEq a b,fun p=>and_true p,fun p=>true_and p⟩
def lE (C:Nat->List A->Option A) (k:Nat) (c:List A->Option A):Nat->List A->Option A:=fun j args=>bif Nat.beq j k then c args else C j args
theorem jJ {cx:Cx} {n k:Nat} {base:aS} {args:List A} {H:ay} {lo:Nat} (h:Nat.ble cx.P.funcs.size k=false) (h2:fK cx k H=false:=by rfl) (h3:fU cx k H=false:=by rfl):aA cx (n+1) base k args H lo=aB cx (aA cx n base) (aA cx n) n k args H lo:=by
 rw[aA,h,h2,h3]; rfl
theorem au {cx:Cx} {n k:Nat} {args:List A} {H:ay} {lo:Nat} (h:Nat.ble cx.P.funcs.size k=false) (h2:fK cx k H=false:=by rfl) (h3:fU cx k H=false:=by rfl):aO cx (n+1) k args H lo=aB cx (aO cx n) (aA cx n) n k args H lo:=jJ h h2 h3
theorem wv {cx:Cx} {k:Nat}:fK cx k []=false:=by
 unfold fK
 cases hb:Nat.beq (cx.cut k) 0 with
 | true=>rfl
 | false=>cases hk:cx.cut k with
  | zero=>rw[hk] at hb; cases hb
  | succ m=>rfl
theorem uW {cx:Cx} {k:Nat}:fU cx k []=false:=by
 unfold fU
 cases cx.deep k<;>rfl
theorem yo {cx:Cx} {n k:Nat} {args:List A} {lo:Nat} {r:Go.Proofs.Ytdmgdjnadbakfaa.R} (h:aB cx (aO cx n) (aA cx n) n k args [] lo=some r):aO cx (n+1) k args [] lo=some r:=by
 refine(au (re ?_) wv uW).trans h
 unfold aB at h
 cases hf:cx.P.funcs[k]? with
 | none=>rw[hf] at h; cases h
 | some fn=>exact(Array.getElem?_eq_some_iff.1 hf).1
theorem ke {q b:Nat} {call:aS} {rnd:List A->ay->Nat->Option Go.Proofs.Ytdmgdjnadbakfaa.R} {args:List A} {H:ay} {lo:Nat}:nM q call b rnd (q+b) args H lo=rnd args H lo:=by
 unfold nM; rw[show Nat.beq (q+b) (q+b)=true from by simp]; rfl
theorem AS {cx:Cx} {b:Nat} {base:aS} {args:List A} {H:ay} {lo:Nat}:∀ {m:Nat},aA cx m base (cx.P.funcs.size+b) args H lo=base (cx.P.funcs.size+b) args H lo:=fun {m}=>by
 cases m<;>rw[aA,show Nat.ble cx.P.funcs.size (cx.P.funcs.size+b)=true from by simp[Nat.ble_eq]]<;>rfl
theorem fQ {β:Type} {H:ay} {b:Nat} {x:Option β} (h:H[b]? = some (.rng .ready)):Bm H b x=x:=by unfold Bm; rw[h]
theorem dT {β:Type} {H:ay} {b:Nat} {x:Option β} (h:H[b]? = some (.rng .busy)):zA H b x=x:=by unfold zA; rw[h]
section
variable {β:Type} {H:ay} {b:Nat} {kn:ay->Option β} {kx kg:Nat->ay->Option β} {kr:ay->Option β}
theorem xw (h:H[b]? = some (.rng .ready)):mg b H kn kx kg kr=kn (H.set b .dead):=by unfold mg; rw[h]
theorem GY (h:H[b]? = some (.rng (.done .ret))):mg b H kn kx kg kr=kr (H.set b .dead):=by unfold mg; rw[h]
end
section
variable {cx:Cx} {call:aS} {q lo b:Nat} {first cap args:List A} {H:ay} {k pan:A->ay->Option Go.Proofs.Ytdmgdjnadbakfaa.R} {kL:Go.Proofs.Ytdmgdjnadbakfaa.R->Option ρ}
theorem J.dC (h1:cW cx.P q=true) (h2:cx.isOrc q=false) (h:J φ ((call q (first++args++cap) H lo).bind fun r=>bJ r.1 (fun a=>k a r.2) (fun a=>pan a r.2)) kL R K):J φ (dA cx call (.fn (.func q) first cap) args H lo k pan) kL R K:=by
 unfold dA; simp only[h1,h2,cond_true,cond_false]; exact h
theorem J.dY (h1:w9 H b=true) (h:J φ ((call (cx.P.funcs.size+b) args H lo).bind fun r=>bJ r.1 (fun a=>k a r.2) (fun _=>none)) kL R K):J φ (dA cx call (.yld b) args H lo k pan) kL R K:=by
 unfold dA; simp only[h1,cond_true]; exact h
end
theorem J.vC {cx:Cx} {call:aS} {q:Nat} {first cap args:List A} {H:ay} {k:A->Option σ} (h1:cW cx.P q=true) (h2:cx.isOrcV q=false) (h:J φ (((call q (first++args++cap) H H.length).bind fun r=>nd H.length r).bind k) kL R K):J φ (qA cx call (.fn (.func q) first cap) args H k) kL R K:=by
 unfold qA; simp only[h1,h2,cond_true,cond_false]; exact h
theorem Dg {cx:Cx} (horc:jA cx) (hmx:cx.P.follows .mixedOrders=true) {γ:Type} {n k:Nat} {args:List A} {f:γ->A} {F:Option γ} {y:γ}
  (h:J (fun (o:Go.Proofs.Ytdmgdjnadbakfaa.R) y=>∃ v,o.1=.ret v/\aF o.2 v=f y) (aB cx (aO cx (n+8)) (aA cx (n+8)) (n+8) k args [] 0) some F some) (hF:F=some y):iU cx.P cx.glob k args (f y):=by
 obtain ⟨s,h1,v,h2,h3⟩:=h y (by rw[hF]; rfl)
 obtain ⟨o,H⟩:=s
 have h2:o=.ret v:=h2
 subst h2
 rw[show ∀ x:Option Go.Proofs.Ytdmgdjnadbakfaa.R,x.bind some=x from fun x=>by cases x<;>rfl] at h1
 have h1:aO cx (n+9) k args [] 0=some (.ret v,H):=yo h1
 have:=uQ horc hmx h1
 rwa [show aF H v=f y from h3] at this
abbrev wr (k:IntKind) (n:Int):Int:=k.wrap n
def sD (k:IntKind) (x y:Int):Int:=k.wrap (x*2 ^ (min y.toNat k.bits))
def ng (k:IntKind) (x y:Int):Int:=x.fdiv (2 ^ (min y.toNat k.bits))
def oN (k:IntKind) (x y:Int):Int:=k.wrap ((BitVec.ofInt k.bits x &&& BitVec.ofInt k.bits y).toNat:Int)
def mF (k:IntKind) (x y:Int):Int:=k.wrap ((BitVec.ofInt k.bits x ||| BitVec.ofInt k.bits y).toNat:Int)
def qF (k:IntKind) (x y:Int):Int:=k.wrap ((BitVec.ofInt k.bits x ^^^ BitVec.ofInt k.bits y).toNat:Int)
section
variable {P:Program} {t:TypeId} {i j:Bool} {k k2:IntKind} {a b:Int}
theorem vZ (hb:0<=b):lL P .shl t i j (.v (.int k a)) (.v (.int k2 b))=some (.v (.int k (sD k a b))):=by
 have h:dh P (do eqGuard .shl t (rep i) (rep j) (.int k a) (.int k2 b); binOp .shl t (.int k a) (.int k2 b))=some (.int k (sD k a b)):=by
  show dh P (binOp .shl t (.int k a) (.int k2 b))=_
  simp only[binOp,Op.shift,if_neg (Int.not_lt.2 hb)]; rfl
 show (dh P _).map yU=_
 rw[h]; rfl
theorem kG (hb:0<=b):lL P .shr t i j (.v (.int k a)) (.v (.int k2 b))=some (.v (.int k (ng k a b))):=by
 have h:dh P (do eqGuard .shr t (rep i) (rep j) (.int k a) (.int k2 b); binOp .shr t (.int k a) (.int k2 b))=some (.int k (ng k a b)):=by
  show dh P (binOp .shr t (.int k a) (.int k2 b))=_
  simp only[binOp,Op.shift,if_neg (Int.not_lt.2 hb)]; rfl
 show (dh P _).map yU=_
 rw[h]; rfl
theorem nO:lL P .and t i j (.v (.int k a)) (.v (.int k b))=some (.v (.int k (oN k a b))):=by
 have h:dh P (do eqGuard .and t (rep i) (rep j) (.int k a) (.int k b); binOp .and t (.int k a) (.int k b))=some (.int k (oN k a b)):=by
  show dh P (binOp .and t (.int k a) (.int k b))=_
  simp only[binOp,ne_eq,not_true_eq_false,if_false,Op.intBits]; rfl
 show (dh P _).map yU=_
 rw[h]; rfl
theorem gE:lL P .or t i j (.v (.int k a)) (.v (.int k b))=some (.v (.int k (mF k a b))):=by
 have h:dh P (do eqGuard .or t (rep i) (rep j) (.int k a) (.int k b); binOp .or t (.int k a) (.int k b))=some (.int k (mF k a b)):=by
  show dh P (binOp .or t (.int k a) (.int k b))=_
  simp only[binOp,ne_eq,not_true_eq_false,if_false,Op.intBits]; rfl
 show (dh P _).map yU=_
 rw[h]; rfl
theorem nP:lL P .xor t i j (.v (.int k a)) (.v (.int k b))=some (.v (.int k (qF k a b))):=by
 have h:dh P (do eqGuard .xor t (rep i) (rep j) (.int k a) (.int k b); binOp .xor t (.int k a) (.int k b))=some (.int k (qF k a b)):=by
  show dh P (binOp .xor t (.int k a) (.int k b))=_
  simp only[binOp,ne_eq,not_true_eq_false,if_false,Op.intBits]; rfl
 show (dh P _).map yU=_
 rw[h]; rfl
end
theorem gb {n:Int} (h:(decide (0<=n)&&decide (n<256))=true):((UInt8.ofNat n.toNat).toNat:Int)=n:=by
 simp only[Bool.and_eq_true,decide_eq_true_eq] at h
 rw[UInt8.toNat_ofNat',Nat.mod_eq_of_lt (by omega)]
 omega
def bX {T:Type} (l:List T) (i:Int):Option T:=bif decide (0<=i) then l[i.toNat]? else none
def imm {T:Type} (f:T->List A) (l:List T):A:=.imm (l.map f) false
theorem Ef {P:Program} {t e:TypeId} {es:Nat} {T:Type} (f:T->List A) (l:List T) (c:Bool) (k:IntKind) (i:Int) (H:ay) (h1:P.underlying t=some (.slice e)) (h2:db P e=some es) (h3:∀ x,(f x).length=es) :
  ax P t (.imm (l.map f) c) (.v (.int k i)) H=(bX l i).map fun x=>.ip (f x):=by
 unfold ax idx bX
 rw[h1]
 by_cases hi:0<=i
 ·simp only[hi,decide_true,cond_true,Option.bind_some,fo,h2,List.getElem?_map]
  cases l[i.toNat]? with
  | none=>rfl
  | some x=>simp[h3]
 ·simp only[hi,decide_false,cond_false,Option.bind_none,Option.map_none]
theorem El {P:Program} {t e:TypeId} {T:Type} (f:T->List A) (l:List T) (c:Bool) (H:ay) (h1:P.underlying t=some (.slice e)):bM P t (.imm (l.map f) c) H=some (.v (.int .i64 l.length)):=by
 unfold bM
 rw[h1]
 simp[fo]
section
variable {P:Program} {t e es by_:Nat} {T:Type} {f:T->List A}
def et (l:List T) (lo hi:Int):Option (List T):=bif decide (0<=lo)&&decide (lo<=hi)&&decide (hi<=l.length) then some ((l.drop lo.toNat).take (hi.toNat - lo.toNat)) else none
def dS (b:Nat) (l l2:List T):Option (List T):=bif decide ((l.length+l2.length)*b<=eM) then some (l++l2) else none
def mo (f:T->List A):Prop:=∀ x,(f x).all A.cell=true
theorem HP (k:IntKind):mo (cI k):=fun _=>rfl
theorem Ft:mo c8:=fun _=>rfl
theorem HO:mo cB:=fun _=>rfl
theorem HQ {U:Type} {g:U->List A}:mo (cL g):=fun _=>rfl
theorem tJ (hl:∀ x,(f x).length=es) (hc:mo f) (l:List T):((l.map f).all fun cs=>cs.length==es&&cs.all A.cell)=true:=by
 rw[List.all_map]
 exact List.all_eq_true.2 fun x _=>by simp[hl,hc x]
def qh (H:ay) (y:A) (f:T->List A) (l:List T):Prop:=els? H y=some (l.map f)
theorem b8 (l:List T) (c:Bool) (H:ay):qh H (.imm (l.map f) c) f l:=rfl
theorem uZ (s:ByteArray) (H:ay):qh H (.v (.string s)) c8 s.data.toList:=rfl
theorem zI {P:Program} {H:ay} {t2 by_:Nat} {z:List A} {y:A} (h:na P t2=true):ym P H t2 by_ z y=els? H y:=by unfold ym; rw[h]; rfl
theorem tI (hl:∀ x,(f x).length=es) (hc:mo f) (h0:es≠0) (hb:by_≠0) {z:List A} (hz:z.length=es) (l2:List T) :
  (es==0 || by_==0 || !(z.length==es) || !((l2.map f).all fun cs=>cs.length==es&&cs.all A.cell))=false:=by
 rw[tJ hl hc]
 simp[h0,hb,hz]
theorem D0 {t2:Nat} {z:List A} (h1:mz P t=some e) (h2:db P e=some es) (h3:lO P e=some by_) (h4:gT P e=some z) (hz:z.length=es) (h0:es≠0) (hb:by_≠0) (hn:na P t2=true)
  (hl:∀ x,(f x).length=es) (hc:mo f) {H:ay} {lo:Nat} {l l2:List T} {y:A} (hy:qh H y f l2) :
  cK P t t2 false (.imm (l.map f) true) y H lo=(dS by_ l l2).map fun r=>(.sl H.length 0 r.length false,H++[.row false es (r.map f)]):=by
 unfold cK
 rw[h1,Option.bind_some,h2,Option.bind_some,h3,Option.bind_some,h4,Option.bind_some,zI hn,show els? H y=_ from hy,Option.bind_some,tI hl hc h0 hb hz,cond_false]
 simp only[List.length_map,Bool.false_and,cond_false,tJ hl hc,cond_true,dS]
 cases decide ((l.length+l2.length)*by_<=eM)<;>simp
theorem D1 {t2:Nat} {z:List A} (h1:mz P t=some e) (h2:db P e=some es) (h3:lO P e=some by_) (h4:gT P e=some z) (hz:z.length=es) (h0:es≠0) (hb:by_≠0) (hn:na P t2=true)
  (hl:∀ x,(f x).length=es) (hc:mo f) {wr:Bool} {H:ay} {lo b:Nat} {l l2:List T} {y:A} (hH:H[b]? = some (.row false es (l.map f))) (hlo:lo<=b) (hy:qh H y f l2) :
  cK P t t2 wr (.sl b 0 l.length false) y H lo=(dS by_ l l2).map fun r=>(.sl b 0 r.length false,H.set b (.row false es (r.map f))):=by
 unfold cK
 rw[h1,Option.bind_some,h2,Option.bind_some,h3,Option.bind_some,h4,Option.bind_some,zI hn,show els? H y=_ from hy,Option.bind_some,tI hl hc h0 hb hz,cond_false]
 simp only[hH,List.length_map,dS]
 cases hd:decide ((l.length+l2.length)*by_<=eM)<;>simp[hlo]
structure sR (P:Program) (t t2 e es by_:Nat) (z:List A) (f:T->List A):Prop where
 h1:mz P t=some e
 h2:db P e=some es
 h3:lO P e=some by_
 h4:gT P e=some z
 hz:z.length=es
 h0:es≠0
 hb:by_≠0
 hn:na P t2=true
 hl:∀ x,(f x).length=es
 hc:mo f
theorem lN {t2:Nat} {z:List A} (a:sR P t t2 e es by_ z f) {H:ay} {lo:Nat} {l l2:List T} {y:A} (hy:qh H y f l2) :
  cK P t t2 false (.imm (l.map f) true) y H lo=(dS by_ l l2).map fun r=>(.sl H.length 0 r.length false,H++[.row false es (r.map f)]):=D0 a.h1 a.h2 a.h3 a.h4 a.hz a.h0 a.hb a.hn a.hl a.hc hy
theorem dB {t2:Nat} {z:List A} (a:sR P t t2 e es by_ z f) {wr:Bool} {H:ay} {lo b:Nat} {l l2:List T} {y:A} (hH:H[b]? = some (.row false es (l.map f))) (hlo:lo<=b) (hy:qh H y f l2) :
  cK P t t2 wr (.sl b 0 l.length false) y H lo=(dS by_ l l2).map fun r=>(.sl b 0 r.length false,H.set b (.row false es (r.map f))):=D1 a.h1 a.h2 a.h3 a.h4 a.hz a.h0 a.hb a.hn a.hl a.hc hH hlo hy
theorem A9 {d:Nat} {k:IntKind} {n:Int}:ku d (some (.v (.int k n)))=bif decide (0<=n) then some n.toNat else none:=rfl
theorem iT {P:Program} {t e:TypeId} {es:Nat} {T:Type} {f:T->List A} {l:List T} {c:Bool} {k:IntKind} {i:Int} {H:ay} (h1:P.underlying t=some (.slice e):=by kernel_rfl) (h2:db P e=some es:=by kernel_rfl) (h3:∀ x,(f x).length=es:=by exact fun _=>rfl) :
  ax P t (.imm (l.map f) c) (.v (.int k i)) H=(bX l i).map fun x=>.ip (f x):=Ef f l c k i H h1 h2 h3
theorem eb {P:Program} {t e:TypeId} {T:Type} {f:T->List A} {l:List T} {c:Bool} {H:ay} (h1:P.underlying t=some (.slice e):=by kernel_rfl):bM P t (.imm (l.map f) c) H=some (.v (.int .i64 l.length)):=El f l c H h1
theorem eY (h1:P.underlying t=some (.slice e)) (h2:db P e=some es) (hl:∀ x,(f x).length=es) {H:ay} {l:List T} {lo hi:Option A} {a b:Int} (ha:(lo=none/\a=0)∨∃ k,lo=some (.v (.int k a))) (hb:(hi=none/\b=l.length)∨∃ k,hi=some (.v (.int k b))) :
  ef P t (.imm (l.map f) false) lo hi none H=(et l a b).map fun r=>.imm (r.map f) false:=by
 unfold ef
 rw[h1]
 simp only[h2,Option.bind_some,List.length_map,Bool.false_and]
 have e1:ku l.length hi=bif decide (0<=b) then some b.toNat else none:=by
  rcases hb with ⟨rfl,rfl⟩ | ⟨k,rfl⟩
  ·simp[ku]
  ·rfl
 have e2:ku 0 lo=bif decide (0<=a) then some a.toNat else none:=by
  rcases ha with ⟨rfl,rfl⟩ | ⟨k,rfl⟩
  ·simp[ku]
  ·rfl
 have e3:∀ i:Nat,(i==0 || match (l.map f)[i]? with | some cs=>cs.length==es | none=>true)=true:=fun i=>by
  rw[List.getElem?_map]
  cases l[i]?<;>simp[hl]
 rw[e1,e2]
 unfold et
 by_cases hb0:0<=b
 ·by_cases ha0:0<=a
  ·have q1:(decide (a.toNat<=b.toNat))=decide (a<=b):=by rw[decide_eq_decide]; omega
   have q2:(decide (b.toNat<=l.length))=decide (b<=(l.length:Int)):=by rw[decide_eq_decide]; omega
   simp only[hb0,ha0,decide_true,cond_true,Option.bind_some,Bool.true_and,q1,q2,List.map_take,List.map_drop]
   have e4:=e3 a.toNat
   rw[List.getElem?_map] at e4 ⊢
   cases hx:l[a.toNat]?<;>rw[hx] at e4<;>cases (decide (a<=b)&&decide (b<=(l.length:Int)))<;>simp[hl]
  ·simp[hb0,ha0]
 ·have:(decide (0<=a)&&decide (a<=b)&&decide (b<=(l.length:Int)))=false:=by
   rw[Bool.eq_false_iff]; intro hh; simp only[Bool.and_eq_true,decide_eq_true_eq] at hh; omega
  simp[hb0,this]
theorem gI (h1:P.underlying t=some (.slice e)) (h2:db P e=some es) (hl:∀ x,(f x).length=es) {H:ay} {l:List T} {lo:Option A} {a b:Int} {k1 k2:IntKind} {c:Bool} (ha:(lo=none/\a=0)∨∃ k,lo=some (.v (.int k a))) :
  ef P t (.imm (l.map f) c) lo (some (.v (.int k1 b))) (some (.v (.int k2 b))) H=(et l a b).map fun r=>.imm (r.map f) true:=by
 unfold ef
 rw[h1]
 simp only[h2,Option.bind_some,List.length_map,A9,idx]
 have e2:ku 0 lo=bif decide (0<=a) then some a.toNat else none:=by
  rcases ha with ⟨rfl,rfl⟩ | ⟨k,rfl⟩
  ·simp[ku]
  ·rfl
 have e3:∀ i:Nat,(i==0 || match (l.map f)[i]? with | some cs=>cs.length==es | none=>true)=true:=fun i=>by
  rw[List.getElem?_map]
  cases l[i]?<;>simp[hl]
 rw[e2]
 unfold et
 by_cases hb0:0<=b
 ·by_cases ha0:0<=a
  ·have q1:(decide (a.toNat<=b.toNat))=decide (a<=b):=by rw[decide_eq_decide]; omega
   have q2:(decide (b.toNat<=l.length))=decide (b<=(l.length:Int)):=by rw[decide_eq_decide]; omega
   simp only[hb0,ha0,decide_true,cond_true,Option.bind_some,Bool.true_and,q1,q2,List.map_take,List.map_drop,beq_self_eq_true]
   rw[List.getElem?_map]
   cases hx:l[a.toNat]?<;>cases (decide (a<=b)&&decide (b<=(l.length:Int)))<;>simp[hl]
  ·simp[hb0,ha0]
 ·have:(decide (0<=a)&&decide (a<=b)&&decide (b<=(l.length:Int)))=false:=by
   rw[Bool.eq_false_iff]; intro hh; simp only[Bool.and_eq_true,decide_eq_true_eq] at hh; omega
  simp[hb0,this]
theorem jo (hf:bQ f) {H:ay} {b n:Nat} {l:List T} (h:H[b]? = some (.row false es (l.map f))):gS (n+1) H b 0 l.length=.imm (l.map f) false:=by
 unfold gS
 rw[h]
 simp only[List.drop_zero]
 rw[List.take_of_length_le (by simp),cN hf]
theorem bH (hf:bQ f) {H:ay} {b n:Nat} {wr:Bool} {l:List T} (h:H[b]? = some (.row wr es (l.map f))):iZ (n+1) H b 0 l.length=.imm (l.map f) false:=by
 unfold iZ
 rw[h]
 simp only[List.drop_zero]
 rw[List.take_of_length_le (by simp),cN hf]
theorem bN {H:ay} {b o len n:Nat} {k:IntKind} {i:Int} (h1:P.underlying t=some (.array len e)) (h2:db P e=some n) (h:fo H (.ptr b o)=true) (hg:(decide (0<=i)&&decide (i<len))=true) :
  ax P t (.ptr b o) (.v (.int k i)) H=some (.ptr b (o+i.toNat*n)):=by
 simp only[Bool.and_eq_true,decide_eq_true_eq] at hg
 obtain ⟨g1,g2⟩:=hg
 unfold ax idx
 rw[h1,h]
 have e1:decide (i.toNat<len)=true:=decide_eq_true (by omega)
 simp[g1,g2,h2,e1]
theorem pN {H:ay} {cs:List A} {len n:Nat} {k:IntKind} {i:Int} (h1:P.underlying t=some (.array len e)) (h2:db P e=some n) (hg:(decide (0<=i)&&decide (i<len))=true) :
  ax P t (.ip cs) (.v (.int k i)) H=some (.ip (cs.drop (i.toNat*n))):=by
 simp only[Bool.and_eq_true,decide_eq_true_eq] at hg
 obtain ⟨g1,g2⟩:=hg
 unfold ax idx
 rw[h1]
 have e1:decide (i.toNat<len)=true:=decide_eq_true (by omega)
 simp[g1,g2,fo,h2,e1]
theorem mh {H:ay} {b:Nat} {l:List T} {c:Bool} {k:IntKind} {i:Int} (h1:P.underlying t=some (.slice e)) (h2:db P e=some es) (h:H[b]? = some (.row false es (l.map f))) :
  ax P t (.sl b 0 l.length c) (.v (.int k i)) H=(bX l i).map fun x=>.ip (f x):=by
 unfold ax idx bX
 rw[h1]
 by_cases hi:0<=i
 ·simp only[hi,decide_true,cond_true,Option.bind_some,fo,h2,h,Nat.zero_add,beq_self_eq_true,List.getElem?_map,Option.map_map]
  by_cases hl:i.toNat<l.length
  ·simp[hl,Function.comp_def]
  ·simp[hl,Nat.not_lt.1 hl]
 ·simp only[hi,decide_false,cond_false,Option.bind_none,Option.map_none]
theorem Ar {H:ay} {b o n:Nat} {B:aD} {c:Bool} (h1:P.underlying t=some (.slice e)) (h:H[b]? = some B) (hB:fo H (.sl b o n c)=true):bM P t (.sl b o n c) H=some (.v (.int .i64 n)):=by
 unfold bM
 rw[h1,hB]; rfl
end
def nH (l:List UInt8):ByteArray:=⟨l.toArray⟩
def jD (s:ByteArray):List UInt8:=s.data.toList
theorem rf:∀ l:List UInt8,bytesOf (l.map c8)=some l
 | []=>rfl
 | a :: l=>by
  rw[List.map_cons]
  show (bytesOf (l.map c8)).map (((a.toNat:Int).toNat.toUInt8) :: ·)=_
  rw[rf l]
  simp
theorem D4 {P:Program} {s d e:Nat} (h1:P.underlying s=some (.slice e)) (h2:P.underlying d=some .string) (h3:P.underlying e=some (.int .u8)) (h4:db P e=some 1) {H:ay} {x:A} {l:List UInt8} (hx:qh H x c8 l) (hn:wz H x=els? H x) :
  cd P s d x H=some (.v (.string (nH l))):=by
 unfold cd
 rw[h1,h2]
 simp only[h3,h4,hn]
 rw[show els? H x=_ from hx,Option.bind_some,rf]
 rfl
def zd (y:Nat):A:=bif Nat.beq y 0 then .v .nilFunc else .fn (.func y) [] []
theorem ze (L e:Nat):A.under L (zd e)=true:=by unfold zd; cases Nat.beq e 0<;>rfl
theorem eF:(∀ (L e:Nat),A.under L (zd e)=true)/\(∀ {T:Type} {f:T->List A} (hf:dn f) (L:Nat) (l:List T),aG L (l.map f)=true)/\(∀ (L:Nat) (a b:List A),aZ L (a++b)=(aZ L a&&aZ L b))/\(∀ k,dn (cI k))/\dn c8/\dn cB/\dn cS/\(∀ {T:Type} {f:T->List A} (hf:dn f),dn (cL f))/\(∀ b:Bool,(b&&true)=b)/\(∀ b:Bool,(true&&b)=b)/\(∀ {β:Type} (x y:β),(bif true then x else y)=x) :=
 ⟨ze,dc,sN,kS,kQ,kR,kU,kT,fun b=>Bool.and_true b,fun b=>Bool.true_and b,fun _ _=>rfl⟩
theorem uB:(∀ (L:Nat) (cs:List A),aD.under L (.box cs)=aZ L cs)/\(∀ (L:Nat) (b:Bool) (e:Nat) (l:List (List A)),aD.under L (.row b e l)=aG L l)/\(∀ (L:Nat) (r:cp),aD.under L (.rng r)=true)/\(∀ L:Nat,aD.under L .dead=true)/\(∀ (L:Nat) (k:IntKind) (ks:List Int) (vs:List A),aD.under L (.mp k ks vs)=aZ L vs) ∧
  (∀ L:Nat,aZ L []=true)/\(∀ (L:Nat) (a:A) (as:List A),aZ L (a :: as)=(A.under L a&&aZ L as))/\(∀ L:Nat,aG L []=true)/\(∀ (L:Nat) (a:List A) (as:List (List A)),aG L (a :: as)=(aZ L a&&aG L as)) ∧
  (∀ L:Nat,A.under L .any=true)/\(∀ (L:Nat) (v:Value),A.under L (.v v)=true)/\(∀ L b o:Nat,A.under L (.ptr b o)=decide (b<L))/\(∀ L b i o:Nat,A.under L (.ep b i o)=decide (b<L))/\(∀ (L b o n:Nat) (c:Bool),A.under L (.sl b o n c)=decide (b<L))/\(∀ L b:Nat,A.under L (.mr b)=decide (b<L)) ∧
  (∀ (L:Nat) (cs:List A),A.under L (.ip cs)=aZ L cs)/\(∀ (L:Nat) (cs:List A),A.under L (.agg cs)=aZ L cs)/\(∀ (L:Nat) (cs:List A),A.under L (.tup cs)=aZ L cs)/\(∀ (L:Nat) (l:List (List A)) (c:Bool),A.under L (.imm l c)=aG L l)/\(∀ (L:Nat) (f:Fn) (a b:List A),A.under L (.fn f a b)=(aZ L a&&aZ L b))/\(∀ (L:Nat) (t:TypeId) (x:A),A.under L (.ifc t x)=A.under L x) ∧
  (∀ f:aD->Bool,[].all f=true)/\(∀ (f:aD->Bool) (b:aD) (H:ay),(b :: H).all f=(f b&&H.all f)):=by
 refine⟨?_,?_,?_,?_,?_,?_,?_,?_,?_,?_,?_,?_,?_,?_,?_,?_,?_,?_,?_,?_,?_,?_,?_⟩<;>intros<;>first | rfl | (simp only[aD.under,A.under,aZ,aG]; done)
theorem dy {L:Nat} {H H':ay} (h:H.take L=H') (hu:H'.all (aD.under L)=true):trim L H=some H':=by
 unfold trim
 rw[h,hu]
 cases hL:H.length==L with
 | false=>rfl
 | true=>rw[<-h,List.take_of_length_le (Nat.le_of_eq (eq_of_beq hL))]; rfl
theorem Be {L:Nat} {v:A} {H:ay} (h:A.under L v=true):nd L (Out.ret v,H)=some v:=by
 unfold nd
 simp only[h,cond_true]
theorem J.ds {cx:Cx} {call:aS} {e:Nat} (q:Nat) {args:List A} {H:ay} {lo:Nat} {k pan:A->ay->Option Go.Proofs.Ytdmgdjnadbakfaa.R} {kL:Go.Proofs.Ytdmgdjnadbakfaa.R->Option ρ} (h:decide (e=q)=true) (hq:Nat.beq q 0=false)
  (hk:J φ (dA cx call (.fn (.func q) [] []) args H lo k pan) kL R K):J φ (dA cx call (zd e) args H lo k pan) kL R K:=by
 rw[of_decide_eq_true h]
 unfold zd
 rw[hq]
 exact hk
abbrev iA (n:Int):A:=A.v (Value.int .i64 n)
abbrev uA (n:Int):A:=A.v (Value.int .u8 n)
abbrev bA (b:Bool):A:=A.v (Value.bool b)
theorem yb {a:Int}:gG a [] []=none:=rfl
theorem fz {a x:Int} {v:A} {ks:List Int} {vs:List A} {o:Option A} (h:decide (a=x)=false) (hr:gG a ks vs=o):gG a (x :: ks) (v :: vs)=o:=by
 rw[gG,h]; exact hr
theorem A8 {P:Program} {t:TypeId} {k:IntKind} {ks:List Int} {vs:List A} {a:Int} {c:Bool} {H:ay} {o:Option A} {y:A} (ha:gG a ks vs=o)
  (h:((vw P t).bind fun p=>bif decide (k=p.1) then DF P p.2 c o else none)=some y):fY P t (.mv k ks vs) (.v (.int k a)) c H=some y:=by
 unfold fY
 cases hk:vw P t with
 | none=>rw[hk] at h; cases h
 | some p =>
  rw[hk] at h
  obtain ⟨h1,h2⟩:=bf (show (bif decide (k=p.1) then DF P p.2 c o else none)=some y from h)
  show ((bif decide (k=p.1) then some a else none).bind fun a=>bif decide (k=p.1) then DF P p.2 c (gG a ks vs) else none)=some y
  rw[h1,cond_true,Option.bind_some,cond_true,ha]
  exact h2
theorem A7 {P:Program} {t:TypeId} {k:IntKind} {ks:List Int} {vs:List A} {a:Int} {c:Bool} {H:ay} {b:Nat} {o:Option A} {y:A} (hb:H[b]? = some (.mp k ks vs)) (ha:gG a ks vs=o)
  (h:((vw P t).bind fun p=>bif decide (k=p.1) then DF P p.2 c o else none)=some y):fY P t (.mr b) (.v (.int k a)) c H=some y:=by
 rw[<-A8 (H:=H) ha h]
 unfold fY
 simp only[hb]
theorem Fv {β:Type} {cx:Cx} {k m n lo:Nat} {args:List A} {H5 X:ay} {Y:Option β} {o:β->Out} {H':β->ay} (hk:Nat.ble cx.P.funcs.size k=false) (hm:cx.cut k=m) (hm0:Nat.beq m 0=false) (hl:H5.length=m) (ha:aZ m args=true) (hh:H5.all (aD.under m)=true)
  (hl':∀ y,(H' y).length=m) (hv:∀ y,lq m (o y)=true) (hh':∀ y,(H' y).all (aD.under m)=true) (h:J (fun (r:Out×ay) y=>∃ Z,r=(o y,H' y++Z)) (aB cx (aO cx n) (aA cx n) n k args H5 lo) some Y some) :
  J (fun (r:Out×ay) y=>r=(o y,H' y++X)) (aO cx (n+1) k args (H5++X) lo) some Y some:=by
 intro r hr
 obtain ⟨s,h1,Z,rfl⟩:=h r hr
 refine⟨_,?_,rfl⟩
 have h2:aB cx (aA cx n DE) (aA cx n) n k args H5 lo=some (o r,H' r++Z):=by
  rw[Option.bind_fun_some] at h1
  exact h1
 have hc:fK cx k (H5++X)=true:=by
  unfold fK
  rw[hm,hm0,Nat.ble_eq_true_of_le (by rw[List.length_append]; omega)]
  rfl
 have hc2:cutAt cx k (H5++X)=m:=by
  unfold cutAt
  rw[hm,Nat.ble_eq_true_of_le (by rw[List.length_append]; omega)]
  rfl
 have t1:(H5++X).take m=H5:=by rw[<-hl,List.take_left]
 have t2:(H5++X).drop m=X:=by rw[<-hl,List.drop_left]
 have t3:(H' r++Z).take m=H' r:=by rw[<-hl' r,List.take_left]
 have t4:Nat.ble m (H' r++Z).length=true:=Nat.ble_eq_true_of_le (by rw[List.length_append,hl']; omega)
 unfold aO
 rw[aA,hk,hc]
 simp only[cond_true,cond_false]
 unfold nw
 rw[hc2,t1,t2,ha,hh]
 show ((bif true&&true then (aB cx (aA cx n DE) (aA cx n) n k args H5 lo).bind _ else none).bind some)=_
 rw[h2]
 simp only[Bool.and_self,cond_true,Option.bind_some,t4,t3,hh',hv]
def pA {β:Type} (m:Nat) (r:Go.Proofs.Ytdmgdjnadbakfaa.R) (k:Go.Proofs.Ytdmgdjnadbakfaa.R->Option β):Option β:=bif Nat.ble m r.2.length&&(r.2.take m).all (aD.under m)&&lq m r.1 then k (r.1,r.2.take m) else none
theorem J.td {m:Nat} {x:Option Go.Proofs.Ytdmgdjnadbakfaa.R} {k:Go.Proofs.Ytdmgdjnadbakfaa.R->Option σ} (h:J φ x (fun r=>(pA m r k).bind kL) R K):J φ ((x.bind fun r=>pA m r some).bind k) kL R K:=by
 refine J.lp ?_ (J.bb h)
 cases x with
 | none=>rfl
 | some r =>
  show (pA m r some).bind k=pA m r k
  unfold pA
  cases Nat.ble m r.2.length&&(r.2.take m).all (aD.under m)&&lq m r.1<;>rfl
theorem J.Oa {m k n lo:Nat} {cx:Cx} {base:aS} {args:List A} {H:ay} {x:Option Go.Proofs.Ytdmgdjnadbakfaa.R} {k':Go.Proofs.Ytdmgdjnadbakfaa.R->Option σ} (h:aA cx (n+1) base k args H lo=x.bind fun r=>pA m r some) (hk:J φ x (fun r=>(pA m r k').bind kL) R K):J φ ((aA cx (n+1) base k args H lo).bind k') kL R K:=J.lp (congrArg (fun z=>Option.bind z k') h) (J.td hk)
theorem J.ct {m k n lo:Nat} {cx:Cx} {args:List A} {H:ay} {x:Option Go.Proofs.Ytdmgdjnadbakfaa.R} {k':Go.Proofs.Ytdmgdjnadbakfaa.R->Option σ} (h:aA cx (n+1) DE k args H lo=x.bind fun r=>pA m r some) (hk:J φ x (fun r=>(pA m r k').bind kL) R K):J φ ((aO cx (n+1) k args H lo).bind k') kL R K:=J.Oa h hk
def HE {T:Type} (f:T->List A):Prop:=∀ x,(f x).all (fun a=>match a with | .v _=>true | .imm _ _=>true | _=>false)=true
theorem xC {T:Type} {f:T->List A} (hf:bQ f) (hp:HE f) (n:Nat) (H:ay) (x:T):(f x).map (gN (n+1) H)=f x:=by
 have h1:=hf (iZ 4 H) x
 have h2:=hp x
 generalize f x=l at h1 h2
 induction l with
 | nil=>rfl
 | cons a as ih =>
  rw[aU,List.cons.injEq] at h1
  rw[List.all_cons,Bool.and_eq_true] at h2
  rw[List.map_cons,ih h1.2 h2.2]
  congr 1
  cases a with
  | v x=>exact h1.1
  | imm x y=>exact h1.1
  | _=>cases h2.1
theorem fj {T:Type} {f:T->List A} (hf:bQ f) (hp:HE f) {H:ay} {b n:Nat} {cs:List A} (x:T) (h:H[b]? = some (.box cs)) (hx:cs=f x):gN (n+2) H (.ptr b 0)=.ip (f x):=by
 subst hx
 show (match H[b]? with | some (.box cs)=>A.ip ((cs.drop 0).map (gN (n+1) H)) | _=>.any)=_
 rw[h]
 exact congrArg A.ip (xC hf hp n H x)
theorem lB {H:ay} {n q:Nat} {a a':A} (h:gN n H a=a'):gN (n+1) H (.fn (.func q) [] [a])=.fn (.func q) [] [a']:=by rw[<-h]; rfl
theorem jF {T U:Type} {f:T->U} {a:T} {b:U} {l:List T} {m:List U} (h:f a=b) (t:l.map f=m):(a :: l).map f=b :: m:=by rw[List.map_cons,h,t]
theorem oW {cx:Cx} {k n lo:Nat} {base:aS} {args as:List A} {H:ay} {X:Option A} (hk:Nat.ble cx.P.funcs.size k=false) (hc:fK cx k H=false) (hd:fU cx k H=true) (ha:args.map (gN 6 H)=as) (h:cx.C k as=X) :
  aA cx (n+1) base k args H lo=X.bind fun r=>bif Gx r then some (.ret r,H) else none:=by
 rw[aA,hk,hc,hd]
 show jG cx k args H=_
 unfold jG
 rw[ha,h]
theorem J.Ob {β:Type} {k n lo:Nat} {cx:Cx} {base:aS} {args:List A} {H:ay} {X:Option β} {f:β->A} {Y:β->Option α} {k':Go.Proofs.Ytdmgdjnadbakfaa.R->Option σ} (hv:∀ y,Gx (f y)=true) (h:aA cx (n+1) base k args H lo=(X.map f).bind fun r=>bif Gx r then some (.ret r,H) else none) (hk:∀ y,J φ (k' (.ret (f y),H)) kL (Y y) K):J φ ((aA cx (n+1) base k args H lo).bind k') kL (X.bind Y) K:=by
 rw[h]
 cases X with
 | none=>exact J.nn
 | some y =>
  refine J.lp (L':=k' (.ret (f y),H)) ?_ (hk y)
  show (bif Gx (f y) then some (Out.ret (f y),H) else none).bind k'=_
  rw[hv y]; rfl
theorem J.dp {β:Type} {k n lo:Nat} {cx:Cx} {args:List A} {H:ay} {X:Option β} {f:β->A} {Y:β->Option α} {k':Go.Proofs.Ytdmgdjnadbakfaa.R->Option σ} (hv:∀ y,Gx (f y)=true) (h:aA cx (n+1) DE k args H lo=(X.map f).bind fun r=>bif Gx r then some (.ret r,H) else none) (hk:∀ y,J φ (k' (.ret (f y),H)) kL (Y y) K):J φ ((aO cx (n+1) k args H lo).bind k') kL (X.bind Y) K:=J.Ob hv h hk
theorem As {α:Type} (x:α):∀ (a l:List α) (b:Nat),a.length<=b->(a++l).set b x=a++l.set (b - a.length) x
 | [],l,b,_=>rfl
 | y :: a,l,0,h=>by simp at h
 | y :: a,l,b+1,h=>by
  rw[List.cons_append,List.set_cons_succ,As x a l b (by simpa using h),List.length_cons,Nat.add_sub_add_right,List.cons_append]
theorem q8 {o:Out} {lo off b p:Nat} {H2 X:ay} (h:H2.length<=b):∃ Z,(o,aX lo off 0 (.ptr b p) (H2++X))=(o,H2++Z):=by
 have key:∃ Z,aX lo off 0 (.ptr b p) (H2++X)=H2++Z:=by
  unfold aX
  simp only[]
  split
  ·split
   ·cases decide (lo<=b) with
    | false=>exact⟨X,rfl⟩
    | true=>exact⟨_,As _ _ _ _ h⟩
   ·exact⟨X,rfl⟩
  ·exact⟨X,rfl⟩
 obtain ⟨Z,hZ⟩:=key
 exact⟨Z,by rw[hZ]⟩
theorem Cd {T:Type} {f:T->List A} (hf:bQ f) {H:ay} {lo off b o b' es:Nat} {l:List T} {cs:List A} {c:Bool} (h1:H[b]? = some (.box cs)) (h2:cs[o+off]? = some (.sl b' 0 l.length c)) (h3:H[b']? = some (.row false es (l.map f))) (h4:lo<=b) :
  aX lo off 0 (.ptr b o) H=H.set b (.box (cs.set (o+off) (.imm (l.map f) false))):=by
 unfold aX
 simp only[h1,h2,decide_eq_true h4,cond_true]
 rw[show FC H (.sl b' 0 l.length c)=.imm (l.map f) false from jo (n:=3) hf h3]
end
end Go.Proofs.Ytdmgdjnadbakfaa
