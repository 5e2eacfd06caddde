/-
 From what the interpreter answers to a law's statement: how arguments that came in are read as the interpreter's data.
-/
import Derived.Test.YtebkhfhcipnfgaaEvSimp
namespace Go.Proofs.Ytebkhfhcipnfgaa
set_option linter.unusedVariables false
set_option linter.unusedSimpArgs false
set_option linter.defProp false
theorem S8 {p:Prop} (h:p:=by rw[decide_eq_decide]; omega):p:=h
theorem S9 {p:Prop} (h:p:=by rw[List.length_append]; omega):p:=h
def Tx:=@decide_eq_false
def TS:=@List.drop_eq_nil_iff
def UA:=@Bool.and_true
def UE:=@decide_true
def UG:=@decide_false
def UM:=@Value.string.injEq
def UN:=@beq_self_eq_true
def UQ:=@Value.int.injEq
def US:=@Value.bool.injEq
def Vr:=@true_and
def Vx:=@Bool.and_self
def VF:=@and_true
def VI:=@Nat.div_lt_iff_lt_mul
def VM:=@Nat.mod_eq_of_lt
def VZ:=@Int.toNat_natCast
def Ws:=@decide_eq_decide
def WE:=@Bool.false_and
def WL:=@Bool.or_false
section
variable {ρ γ σ α β τ:Type}
def J (φ:ρ->γ->Prop) (L:Option σ) (kL:σ->Option ρ) (R:Option α) (K:α->Option γ):Prop:=∀ r,R.bind K=some r->∃ s,L.bind kL=some s/\φ s r
variable {φ:ρ->γ->Prop} {kL:σ->Option ρ} {K:α->Option γ} {R X Y:Option α}
theorem J.st {x:Option τ} {v:τ} {k:τ->Option σ} (h:x=some v) (hk:J φ (k v) kL R K):J φ (x.bind k) kL R K:=by
 rw[h]; exact hk
theorem J.s {x:Option τ} {k:τ->Option σ} (v:τ) (hk:J φ (k v) kL R K) (h:x=some v:=by kernel_rfl):J φ (x.bind k) kL R K:=J.st h hk
theorem J.s2 {τ':Type} {x:Option τ'} {y:τ'->Option τ} {k:τ->Option σ} (v:τ) (hk:J φ (k v) kL R K) (h:x.bind y=some v:=by kernel_rfl):J φ (x.bind fun a=>(y a).bind k) kL R K:=by
 rw[<-T1]; exact J.st h hk
def Jl (x:Option (A×ay)):A×ay:=match x with | some p=>p | none=>(.any,[])
def Jk (x:Option ay):ay:=match x with | some p=>p | none=>[]
theorem J.sq {x:Option (A×ay)} {k:A×ay->Option σ} (p:A) (hk:J φ (k (p,(Jl x).2)) kL R K) (h:x=some (p,(Jl x).2):=by kernel_rfl):J φ (x.bind k) kL R K:=J.st h hk
theorem J.sh {x:Option ay} {k:ay->Option σ} (hk:J φ (k (Jk x)) kL R K) (h:x=some (Jk x):=by kernel_rfl):J φ (x.bind k) kL R K:=J.st h hk
theorem J.bd {x:Option τ} {k:τ->Option σ} {X:Option β} {Y:β->Option α} {g:β->τ} (h:x=X.map g) (hk:∀ y,J φ (k (g y)) kL (Y y) K):J φ (x.bind k) kL (X.bind Y) K:=by
 intro r hr
 rw[T1] at hr
 cases X with
 | none=>cases hr
 | some y=>rw[h]; exact hk y r hr
theorem J.bg {x:Option τ} {k:τ->Option σ} {X:Option β} {Y:β->Option α} (ψ:τ->β->Prop) (h:J ψ x some X some) (hk:∀ t y,ψ t y->J φ (k t) kL (Y y) K):J φ (x.bind k) kL (X.bind Y) K:=by
 intro r hr
 rw[T1] at hr
 cases X with
 | none=>cases hr
 | some y=>
  obtain ⟨s,h1,h2⟩:=h y rfl
  have:x=some s:=by cases x<;>simp_all
  rw[this]
  exact hk s y h2 r hr
theorem J.bi {x y:Option σ} {b:Bool} (h1:J φ x kL X K) (h2:J φ y kL Y K):J φ (cu (.v (.bool b)) x y) kL (cond b X Y) K:=by
 cases b
 ·exact h2
 ·exact h1
theorem J.ML {x y:Option Go.Proofs.Ytebkhfhcipnfgaa.R} {kL:Go.Proofs.Ytebkhfhcipnfgaa.R->Option ρ} (h1:J φ x kL R K):J φ (bk (.v (.bool true)) x y) kL R K:=h1
theorem J.Ps {x y:Option Go.Proofs.Ytebkhfhcipnfgaa.R} {kL:Go.Proofs.Ytebkhfhcipnfgaa.R->Option ρ} (h1:J φ y kL R K):J φ (bk (.v (.bool false)) x y) kL R K:=h1
theorem J.cd {x y:Option Go.Proofs.Ytebkhfhcipnfgaa.R} {kL:Go.Proofs.Ytebkhfhcipnfgaa.R->Option ρ} {b:Bool} (h1:J φ x kL X K) (h2:J φ y kL Y K):J φ (bk (.v (.bool b)) x y) kL (cond b X Y) K:=by
 cases b
 ·exact h2
 ·exact h1
theorem J.nq {T:Type} {f:T->List A} {l:List T} {x y:Option Go.Proofs.Ytebkhfhcipnfgaa.R} {kL:Go.Proofs.Ytebkhfhcipnfgaa.R->Option ρ} (h:l=[]->x=y) (hy:J φ y kL R K):J φ (bk (.nq (l.map f)) x y) kL R K:=by
 cases l with
 | nil=>
  have e:bk (A.nq (List.map f [])) x y=y:=by
   exact A5 (h rfl)
  rw[e]; exact hy
 | cons a l=>exact hy
theorem J.gf {x y:Option σ} {b:Bool} (h1:J φ x kL X K) (h2:J φ y kL Y K):J φ (oH (.v (.bool b)) false x y) kL (cond b Y X) K:=by
 cases b
 ·exact h1
 ·exact h2
theorem J.cT {x y:Option σ} {c:Bool} (h:c=true) (h1:J φ x kL R K):J φ (cond c x y) kL R K:=by rw[h]; exact h1
def Pr {T:Type} (i:Int) (a b:T):Option T:=bif decide (i=0) then some a else bif decide (i=1) then some b else none
theorem J.a2 {T:Type} {x:Option τ} {k:τ->Option σ} {i:Int} {f:T->τ} {a b:T} {Y:T->Option α} (h0:i.toNat=0->x=some (f a)) (h1:i.toNat=1->x=some (f b)) (hk:∀ y,J φ (k (f y)) kL (Y y) K):J φ (x.bind k) kL ((Pr i a b).bind Y) K:=by
 unfold Pr
 by_cases h:i=0
 ·rw[h0 (by rw[h]; rfl),Tq h]; exact hk a
 ·rw[Tx h]
  by_cases h':i=1
  ·rw[h1 (by rw[h']; rfl),Tq h']; exact hk b
  ·rw[Tx h']; intro r hr; cases hr
theorem J.gd {L:Option σ} {b:Bool} (h:b=true->J φ L kL R K):J φ L kL (cond b R none) K:=by
 cases b
 ·intro r hr; cases hr
 ·exact h rfl
theorem J.sp {L:Option σ} {b:Bool} (h1:b=true->J φ L kL X K) (h2:b=false->J φ L kL Y K):J φ L kL (cond b X Y) K:=by
 cases b
 ·exact h2 rfl
 ·exact h1 rfl
theorem J.nn {L:Option σ}:J φ L kL none K:=fun r hr=>by cases hr
theorem J.uc {a:A} {r:List A} {k:A->List A->Option σ} (h:J φ (k a r) kL R K):J φ (bf (a :: r) k) kL R K:=h
theorem J.u4 {a b c d:A} {r:List A} {k:A->A->A->A->List A->Option σ} (h:J φ (k a b c d r) kL R K):J φ (bf (a :: b :: c :: d :: r) fun a l=>bf l fun b l=>bf l fun c l=>bf l fun d l=>k a b c d l) kL R K:=h
theorem iK {β γ:Type} (l:List A) (f:A->List A->Option β) (k:β->Option γ):(bf l f).bind k=bf l fun a r=>(f a r).bind k:=by
 cases l<;>rfl
theorem J.jz {a:A} {f g:A->Option Go.Proofs.Ytebkhfhcipnfgaa.R} {kL:Go.Proofs.Ytebkhfhcipnfgaa.R->Option ρ} (h:J φ (g a) kL R K):J φ (dU (.pan a) f g) kL R K:=h
theorem J.pk {t:TypeId} {y:A} {k:A->Option σ} (h:J φ (k (.ifc t y)) kL R K):J φ (D9 (.ifc t y) k) kL R K:=h
theorem J.ob {b:Bool} {v p:A} {f g:A->Option Go.Proofs.Ytebkhfhcipnfgaa.R} {kL:Go.Proofs.Ytebkhfhcipnfgaa.R->Option ρ} (h1:J φ (dU (.ret v) f g) kL X K) (h2:J φ (dU (.pan p) f g) kL Y K):J φ (dU (bif b then Out.ret v else Out.pan p) f g) kL (cond b X Y) K:=by
 cases b
 ·exact h2
 ·exact h1
theorem J.lf {s:σ} {x:α} {r:ρ} {y:γ} (h1:kL s=some r) (h2:K x=some y) (h:φ r y):J φ (some s) kL (some x) K:=fun z hz=>by
 rw[Ti,h2] at hz
 cases hz
 exact⟨r,h1,h⟩
theorem J.lg {ψ:τ->β->Prop} {s:τ} {x:β} (h:ψ s x):J ψ (some s) some (some x) some:=fun r hr=>by cases hr; exact⟨s,rfl,h⟩
theorem J.lv {T:Type} {f:T->A} {v:A} {H:ay} {y:T} (h:bC H v=f y):J (fun (o:Go.Proofs.Ytebkhfhcipnfgaa.R) y=>∃ v,o.1=.ret v/\bC o.2 v=f y) (some (Out.ret v,H)) some (some y) some:=.lf rfl rfl ⟨_,rfl,h⟩
theorem J.cl {x:Option τ} {x':Option τ} {k:τ->Option σ} (h:x=x') (hk:J φ x' (fun r=>(k r).bind kL) R K):J φ (x.bind k) kL R K:=by
 intro r hr
 obtain ⟨s,h1,h2⟩:=hk r hr
 exact⟨s,by rw[T1,h]; exact h1,h2⟩
theorem J.bb {x:Option τ} {k:τ->Option σ} (h:J φ x (fun r=>(k r).bind kL) R K):J φ (x.bind k) kL R K:=by
 intro r hr
 obtain ⟨s,h1,h2⟩:=h r hr
 exact⟨s,by rw[T1]; exact h1,h2⟩
theorem J.as {L:Option σ} {X:Option β} {Y:β->Option α} (h:J φ L kL X (fun x=>(Y x).bind K)):J φ L kL (X.bind Y) K:=by
 intro r hr
 rw[T1] at hr
 exact h r hr
theorem J.un {L:Option σ} {K':γ->Option γ} (hK:K'=some) (h:J φ L kL R K):J φ L kL (R.bind K) K':=by
 intro r hr
 subst hK
 exact h r (by simpa using hr)
theorem J.ex {L:Option σ} {x:α} (h:J φ L kL (K x) some):J φ L kL (some x) K:=by
 intro r hr
 exact h r (by simpa using hr)
theorem J.lp {L:Option σ} {L':Option σ} (h:L=L') (hk:J φ L' kL R K):J φ L kL R K:=h ▸ hk
theorem J.gU {x y:Option σ} {w:Bool} (h:J φ y kL R K):J φ (oH (.v undef) w x y) kL R K:=h
theorem J.ok {a:A} {f g:A->Option Go.Proofs.Ytebkhfhcipnfgaa.R} {kL:Go.Proofs.Ytebkhfhcipnfgaa.R->Option ρ} (h:J φ (f a) kL R K):J φ (dU (.ret a) f g) kL R K:=h
theorem J.cr {s:τ} {k:τ->Option σ} (h:J φ (k s) kL R K):J φ (some s) (fun r=>(k r).bind kL) R K:=h
theorem J.uD {x y:Option σ} {b:Bool} (h:b=true) (h1:J φ x kL R K):J φ (cu (.v (.bool b)) x y) kL R K:=by subst h; exact h1
theorem J.sm {x y:Option σ} {b:Bool} (h:b=false) (h1:J φ y kL R K):J φ (cu (.v (.bool b)) x y) kL R K:=by subst h; exact h1
theorem J.Fb {x y:Option τ} {k:τ->Option σ} {b:Bool} (h1:b=true->J φ (x.bind k) kL X K) (h2:b=false->J φ (y.bind k) kL Y K):J φ ((oH (.v (.bool b)) true x y).bind k) kL (cond b X Y) K:=by
 cases b
 ·exact h2 rfl
 ·exact h1 rfl
theorem J.Fa {x y:Option τ} {k:τ->Option σ} {b:Bool} (h1:b=false->J φ (x.bind k) kL X K) (h2:b=true->J φ (y.bind k) kL Y K):J φ ((oH (.v (.bool b)) false x y).bind k) kL (cond b Y X) K:=by
 cases b
 ·exact h1 rfl
 ·exact h2 rfl
theorem iz {β:Type} {x y:Option β} {b:Bool} (h:b=true):oH (.v (.bool b)) true x y=x:=by subst h; rfl
theorem iy {β:Type} {x y:Option β} {b:Bool} (h:b=false):oH (.v (.bool b)) true x y=y:=by subst h; rfl
theorem vE {β:Type} {x y:Option β} {b:Bool} (h:b=true):oH (.v (.bool b)) false x y=y:=by subst h; rfl
theorem pD {β:Type} {x y:Option β} {b:Bool} (h:b=false):oH (.v (.bool b)) false x y=x:=by subst h; rfl
def aB:Nat:=1208925819614629174706176
def cI (k:IntKind) (n:Int):List A:=[.v (.int k n)]
def c8 (c:UInt8):List A:=[.v (.int .u8 (c.toNat:Int))]
def cB (b:Bool):List A:=[.v (.bool b)]
def cS (s:ByteArray):List A:=[.v (.string s)]
def cL {T:Type} (f:T->List A) (l:List T):List A:=[.imm (l.map f) false]
def b8 {T:Type} (f:T->List A):Prop:=∀ g x,bc g (f x)=f x
theorem cC {T:Type} {f:T->List A} (hf:b8 f) (g:Nat->Nat->Nat->A) (l:List T):cX g (l.map f)=l.map f:=by
 induction l with
 | nil=>rfl
 | cons x l ih=>rw[Um,cX,hf,ih]
def c9 {T:Type} (f:T->List A):Prop:=∀ L x,bh L (f x)=true
theorem cW {T:Type} {f:T->List A} (hf:c9 f) (L:Nat) (l:List T):aW L (l.map f)=true:=by
 induction l with
 | nil=>rfl
 | cons x l ih=>rw[Um,aW,hf,ih]; rfl
theorem lL (k:IntKind):c9 (cI k):=fun _ _=>rfl
theorem lJ:c9 c8:=fun _ _=>rfl
theorem lK:c9 cB:=fun _ _=>rfl
theorem lN:c9 cS:=fun _ _=>rfl
theorem lM {T:Type} {f:T->List A} (hf:c9 f):c9 (cL f):=fun L x=>by
 show (aW L (x.map f)&&true)=true
 rw[cW hf]; rfl
theorem rq (g:Nat->Nat->Nat->A):∀ (a b:List A),bc g (a++b)=bc g a++bc g b
 | [],b=>by simp only[UK,bc]
 | x :: a,b=>by simp only[Uc,bc,rq g a b]
theorem rz (L:Nat):∀ (a b:List A),bh L (a++b)=(bh L a&&bh L b)
 | [],b=>by simp only[UK,bh,TU]
 | x :: a,b=>by simp only[Uc,bh,rz L a b,Bool.and_assoc]
theorem jG (k:IntKind):b8 (cI k):=fun _ _=>rfl
theorem eB:b8 c8:=fun _ _=>rfl
theorem lG:b8 cB:=fun _ _=>rfl
theorem lI:b8 cS:=fun _ _=>rfl
theorem lH {T:Type} {f:T->List A} (hf:b8 f):b8 (cL f):=fun g x=>by
 show [cg g (.imm (x.map f) false)]=_
 simp only[cg,cC hf]; rfl
theorem cP:(∀ (H:ay) (a:A),snap H a=cg (gN 4 H) a)/\(∀ (g:Nat->Nat->Nat->A) (b o m:Nat) (c:Bool),cg g (.sl b o m c)=g b o m)/\(∀ (g:Nat->Nat->Nat->A) (els:List (List A)) (c:Bool),cg g (.imm els c)=.imm (cX g els) false)/\(∀ (g:Nat->Nat->Nat->A) (cs:List A),cg g (.agg cs)=.agg (bc g cs))/\(∀ (g:Nat->Nat->Nat->A) (cs:List A),cg g (.tup cs)=.tup (bc g cs))/\(∀ (g:Nat->Nat->Nat->A) (t:TypeId) (x:A),cg g (.ifc t x)=.ifc t (cg g x))/\(∀ (g:Nat->Nat->Nat->A) (k:IntKind) (ks:List Int) (vs:List A),cg g (.mv k ks vs)=.mv k ks (bc g vs))/\(∀ (g:Nat->Nat->Nat->A) (x:Value),cg g (.v x)=.v x)/\(∀ (g:Nat->Nat->Nat->A) (f:Fn),cg g (.fn f [] [])=.fn f [] [])/\(∀ (g:Nat->Nat->Nat->A),bc g []=[])/\(∀ (g:Nat->Nat->Nat->A) (a:A) (as:List A),bc g (a :: as)=cg g a :: bc g as)/\(∀ (g:Nat->Nat->Nat->A),cX g []=[])/\(∀ (g:Nat->Nat->Nat->A) (a:List A) (as:List (List A)),cX g (a :: as)=bc g a :: cX g as)/\(∀ {T:Type} {f:T->List A} (hf:b8 f) (g:Nat->Nat->Nat->A) (l:List T),cX g (l.map f)=l.map f)/\(∀ (g:Nat->Nat->Nat->A) (a b:List A),bc g (a++b)=bc g a++bc g b)/\(∀ k,b8 (cI k))/\b8 c8/\b8 cB/\b8 cS/\(∀ {T:Type} {f:T->List A} (hf:b8 f),b8 (cL f)):=
 ⟨fun _ _=>rfl,fun _ _ _ _ _=>rfl,fun _ _ _=>rfl,fun _ _=>rfl,fun _ _=>rfl,fun _ _ _=>rfl,fun _ _ _ _=>rfl,fun _ _=>rfl,fun _ _=>rfl,fun _=>rfl,fun _ _ _=>rfl,fun _=>rfl,fun _ _ _=>rfl,cC,rq,jG,eB,lG,lI,lH⟩
def ew {T U:Type} (f:T->U):Prop:=∀ x y,f x=f y->x=y
theorem map_inj {T:Type} {f:T->List A} (hf:ew f):∀ (l l':List T),l.map f=l'.map f↔l=l'
 | [],[]=>r9
 | [],_ :: _=>r9
 | _ :: _,[]=>r9
 | x :: l,y :: l'=>by
  simp only[Um,Uj,map_inj hf l l']
  exact⟨fun h=>⟨hf x y h.1,h.2⟩,fun h=>⟨by rw[h.1],h.2⟩⟩
theorem qP (k:IntKind):ew (cI k):=fun x y h=>by simpa [cI] using h
theorem mz:ew c8:=fun x y h=>by
 simp only[c8,Uj,A.v.injEq,UQ,VF,Vr] at h
 exact UInt8.toNat_inj.1 r7
noncomputable def bG {X:Type} (e:X->List A) (G:X->Option A) (args:List A):Option A:=open Classical in if h:∃ x,e x=args then G h.choose else none
theorem aM {X:Type} {e:X->List A} (G:X->Option A) (inj:ew e) (x:X):bG e G (e x)=G x:=by
 unfold bG
 have h:∃ y,e y=e x:=⟨x,rfl⟩
 rw[dif_pos h,inj _ _ h.choose_spec]
theorem B9 {X:Type} {e:X->List A} {G:X->Option A} {args:List A} {r:A} (h:bG e G args=some r):∃ x,e x=args/\G x=some r:=by
 unfold bG at h
 split at h
 ·rename_i hx; exact⟨_,hx.choose_spec,h⟩
 ·cases h
theorem di {X Y:Type} {e:X->List A} {F:X->Option Y} {f:Y->A} {args:List A} {r:A} (h:bG e (fun x=>(F x).map f) args=some r):∃ x y,e x=args/\F x=some y/\f y=r:=by
 obtain ⟨x,hx,h⟩:=B9 h
 simp only[T6] at h
 obtain ⟨y,hy,h⟩:=h
 exact⟨x,y,hx,hy,h⟩
theorem Py:(∀ {T:Type} (a:T) (as:List T) (b:T) (bs:List T),(a :: as=b :: bs)=(a=b/\as=bs))/\(∀ a b:Value,(A.v a=A.v b)=(a=b))/\(∀ a b:List A,(A.agg a=A.agg b)=(a=b))/\(∀ (a:List (List A)) (c:Bool) (b:List (List A)) (d:Bool),(A.imm a c=A.imm b d)=(a=b/\c=d))/\(∀ (k:IntKind) (n:Int) (k':IntKind) (n':Int),(Value.int k n=Value.int k' n')=(k=k'/\n=n'))/\(∀ a b:Bool,(Value.bool a=Value.bool b)=(a=b))/\(∀ a b:ByteArray,(Value.string a=Value.string b)=(a=b))/\(∀ p:Prop,(p/\True)=p)/\(∀ p:Prop,(True/\p)=p):=
 ⟨fun a as b bs=>Uj a as b bs,fun a b=>A.v.injEq a b,fun a b=>A.agg.injEq a b,fun a c b d=>A.imm.injEq a c b d,fun k n k' n'=>UQ k n k' n',fun a b=>US a b,fun a b=>UM a b,fun p=>VF p,fun p=>Vr p⟩
def fC (C:Nat->List A->Option A) (k:Nat) (c:List A->Option A):Nat->List A->Option A:=fun j args=>bif Nat.beq j k then c args else C j args
theorem w8 {cx:Cx} {n k:Nat} {base:bj} {args:List A} {H:ay} {lo:Nat} (h:Nat.ble cx.P.funcs.size k=false) (h2:fS cx k H=false:=by rfl) (h3:gA cx k H=false:=by rfl):bF cx (n+1) base k args H lo=aF cx (bF cx n base) (bF cx n) n k args H lo:=by
 rw[bF,h,h2,h3]; rfl
theorem aV {cx:Cx} {n k:Nat} {args:List A} {H:ay} {lo:Nat} (h:Nat.ble cx.P.funcs.size k=false) (h2:fS cx k H=false:=by rfl) (h3:gA cx k H=false:=by rfl):dI cx (n+1) k args H lo=aF cx (dI cx n) (bF cx n) n k args H lo:=w8 h h2 h3
theorem ve {cx:Cx} {k:Nat}:fS cx k []=false:=by
 unfold fS
 cases hb:Nat.beq (cx.cut k) 0 with
 | true=>rfl
 | false=>cases hk:cx.cut k with
  | zero=>rw[hk] at hb; cases hb
  | succ m=>rfl
theorem tJ {cx:Cx} {k:Nat}:gA cx k []=false:=by
 unfold gA
 cases cx.deep k<;>rfl
theorem w9 {cx:Cx} {n k:Nat} {args:List A} {lo:Nat} {r:Go.Proofs.Ytebkhfhcipnfgaa.R} (h:aF cx (dI cx n) (bF cx n) n k args [] lo=some r):dI cx (n+1) k args [] lo=some r:=by
 refine(aV (qk ?_) ve tJ).trans h
 unfold aF at h
 cases hf:cx.P.funcs[k]? with
 | none=>rw[hf] at h; cases h
 | some fn=>exact(Tt.1 hf).1
section
variable {β:Type} {H:ay} {b:Nat} {kn:ay->Option β} {kx kg:Nat->ay->Option β} {kr:ay->Option β}
end
section
variable {cx:Cx} {call:bj} {q lo b:Nat} {first cap args:List A} {H:ay} {k pan:A->ay->Option Go.Proofs.Ytebkhfhcipnfgaa.R} {kL:Go.Proofs.Ytebkhfhcipnfgaa.R->Option ρ}
theorem J.dC (h1:cF cx.P q=true) (h2:cx.isOrc q=false) (h:J φ ((call q (first++args++cap) H lo).bind fun r=>dU r.1 (fun a=>k a r.2) (fun a=>pan a r.2)) kL R K):J φ (dw cx call (.fn (.func q) first cap) args H lo k pan) kL R K:=by
 unfold dw; simp only[h1,h2,Tn,Tk]; exact h
theorem J.dO (h1:cF cx.P q=true) (h2:cx.isOrc q=true) (h:J φ ((cx.C q ((first++args++cap).map (snap H))).bind fun a=>k a H) kL R K):J φ (dw cx call (.fn (.func q) first cap) args H lo k pan) kL R K:=by
 unfold dw; simp only[h1,h2,Tn]; exact h
end
theorem xv {cx:Cx} (horc:jl cx) (hmx:cx.P.follows .mixedOrders=true) {γ:Type} {n k:Nat} {args:List A} {f:γ->A} {F:Option γ} {y:γ}
  (h:J (fun (o:Go.Proofs.Ytebkhfhcipnfgaa.R) y=>∃ v,o.1=.ret v/\bC o.2 v=f y) (aF cx (dI cx (n+8)) (bF cx (n+8)) (n+8) k args [] 0) some F some) (hF:F=some y):en cx.P cx.glob k args (f y):=by
 obtain ⟨s,h1,v,h2,h3⟩:=h y (by rw[hF]; rfl)
 obtain ⟨o,H⟩:=s
 have h2:o=.ret v:=h2
 subst h2
 rw[show ∀ x:Option Go.Proofs.Ytebkhfhcipnfgaa.R,x.bind some=x from fun x=>by cases x<;>rfl] at h1
 have h1:dI cx (n+9) k args [] 0=some (.ret v,H):=w9 h1
 have:=n0 horc hmx h1
 rwa [show bC H v=f y from h3] at this
abbrev wr (k:IntKind) (n:Int):Int:=k.wrap n
def nO (k:IntKind) (x y:Int):Int:=k.wrap (x*2 ^ (min y.toNat k.bits))
def mF (k:IntKind) (x y:Int):Int:=x.fdiv (2 ^ (min y.toNat k.bits))
def nW (k:IntKind) (x y:Int):Int:=k.wrap ((BitVec.ofInt k.bits x &&& BitVec.ofInt k.bits y).toNat:Int)
def lT (k:IntKind) (x y:Int):Int:=k.wrap ((BitVec.ofInt k.bits x ||| BitVec.ofInt k.bits y).toNat:Int)
def pQ (k:IntKind) (x y:Int):Int:=k.wrap ((BitVec.ofInt k.bits x ^^^ BitVec.ofInt k.bits y).toNat:Int)
section
variable {P:Program} {t:TypeId} {i j:Bool} {k k2:IntKind} {a b:Int}
theorem p8 (hb:0<=b):jx P .shl t i j (.v (.int k a)) (.v (.int k2 b))=some (.v (.int k (nO k a b))):=by
 have h:cA P (do eqGuard .shl t (rep i) (rep j) (.int k a) (.int k2 b); binOp .shl t (.int k a) (.int k2 b))=some (.int k (nO k a b)):=by
  show cA P (binOp .shl t (.int k a) (.int k2 b))=_
  simp only[binOp,Op.shift,Tw (Int.not_lt.2 hb)]; rfl
 show (cA P _).map vU=_
 rw[h]; rfl
theorem kv (hb:0<=b):jx P .shr t i j (.v (.int k a)) (.v (.int k2 b))=some (.v (.int k (mF k a b))):=by
 have h:cA P (do eqGuard .shr t (rep i) (rep j) (.int k a) (.int k2 b); binOp .shr t (.int k a) (.int k2 b))=some (.int k (mF k a b)):=by
  show cA P (binOp .shr t (.int k a) (.int k2 b))=_
  simp only[binOp,Op.shift,Tw (Int.not_lt.2 hb)]; rfl
 show (cA P _).map vU=_
 rw[h]; rfl
theorem m0:jx P .and t i j (.v (.int k a)) (.v (.int k b))=some (.v (.int k (nW k a b))):=by
 have h:cA P (do eqGuard .and t (rep i) (rep j) (.int k a) (.int k b); binOp .and t (.int k a) (.int k b))=some (.int k (nW k a b)):=by
  show cA P (binOp .and t (.int k a) (.int k b))=_
  simp only[binOp,ne_eq,VG,VE,Op.intBits]; rfl
 show (cA P _).map vU=_
 rw[h]; rfl
theorem gy:jx P .or t i j (.v (.int k a)) (.v (.int k b))=some (.v (.int k (lT k a b))):=by
 have h:cA P (do eqGuard .or t (rep i) (rep j) (.int k a) (.int k b); binOp .or t (.int k a) (.int k b))=some (.int k (lT k a b)):=by
  show cA P (binOp .or t (.int k a) (.int k b))=_
  simp only[binOp,ne_eq,VG,VE,Op.intBits]; rfl
 show (cA P _).map vU=_
 rw[h]; rfl
theorem m5:jx P .xor t i j (.v (.int k a)) (.v (.int k b))=some (.v (.int k (pQ k a b))):=by
 have h:cA P (do eqGuard .xor t (rep i) (rep j) (.int k a) (.int k b); binOp .xor t (.int k a) (.int k b))=some (.int k (pQ k a b)):=by
  show cA P (binOp .xor t (.int k a) (.int k b))=_
  simp only[binOp,ne_eq,VG,VE,Op.intBits]; rfl
 show (cA P _).map vU=_
 rw[h]; rfl
end
theorem eV {n:Int} (h:(decide (0<=n)&&decide (n<256))=true):((UInt8.ofNat n.toNat).toNat:Int)=n:=by
 simp only[Tl,Tu] at h
 rw[UInt8.toNat_ofNat',VM r7]
 omega
def bK {T:Type} (l:List T) (i:Int):Option T:=bif decide (0<=i) then l[i.toNat]? else none
def imm {T:Type} (f:T->List A) (l:List T):A:=.imm (l.map f) false
theorem CZ {P:Program} {t e:TypeId} {es:Nat} {T:Type} (f:T->List A) (l:List T) (c:Bool) (k:IntKind) (i:Int) (H:ay) (h1:P.underlying t=some (.slice e)) (h2:cR P e=some es) (h3:∀ x,(f x).length=es) :
  dF P t (.imm (l.map f) c) (.v (.int k i)) H=(bK l i).map fun x=>.ip (f x):=by
 unfold dF idx bK
 rw[h1]
 by_cases hi:0<=i
 ·simp only[hi,UE,Tn,Ti,gn,h2,T0]
  cases l[i.toNat]? with
  | none=>rfl
  | some x=>simp[h3]
 ·simp only[hi,UG,Tk,Wp,Option.map_none]
theorem Df {P:Program} {t e:TypeId} {T:Type} (f:T->List A) (l:List T) (c:Bool) (H:ay) (h1:P.underlying t=some (.slice e)):qb P t (.imm (l.map f) c) H=some (.v (.int .i64 l.length)):=by
 unfold qb
 rw[h1]
 simp[gn]
section
variable {P:Program} {t e es by_:Nat} {T:Type} {f:T->List A}
def iJ (l:List T) (lo hi:Int):Option (List T):=bif decide (0<=lo)&&decide (lo<=hi)&&decide (hi<=l.length) then some ((l.drop lo.toNat).take (hi.toNat - lo.toNat)) else none
def c7 (b:Nat) (l l2:List T):Option (List T):=bif decide ((l.length+l2.length)*b<=dm) then some (l++l2) else none
def nR (f:T->List A):Prop:=∀ x,(f x).all A.cell=true
theorem Ix (k:IntKind):nR (cI k):=fun _=>rfl
theorem E2:nR c8:=fun _=>rfl
theorem sn (hl:∀ x,(f x).length=es) (hc:nR f) (l:List T):((l.map f).all fun cs=>cs.length==es&&cs.all A.cell)=true:=by
 rw[List.all_map]
 exact TA.2 fun x _=>by simp[hl,hc x]
def pr (H:ay) (y:A) (f:T->List A) (l:List T):Prop:=els? H y=some (l.map f)
theorem bN (l:List T) (c:Bool) (H:ay):pr H (.imm (l.map f) c) f l:=rfl
theorem pU (s:ByteArray) (H:ay):pr H (.v (.string s)) c8 s.data.toList:=rfl
theorem yk {P:Program} {H:ay} {t2 by_:Nat} {z:List A} {y:A} (h:mD P t2=true):w5 P H t2 by_ z y=els? H y:=by unfold w5; rw[h]; rfl
theorem sj (hl:∀ x,(f x).length=es) (hc:nR f) (h0:es≠0) (hb:by_≠0) {z:List A} (hz:z.length=es) (l2:List T) :
  (es==0 || by_==0 || !(z.length==es) || !((l2.map f).all fun cs=>cs.length==es&&cs.all A.cell))=false:=by
 rw[sn hl hc]
 simp[h0,hb,hz]
theorem CN {t2:Nat} {z:List A} (h1:kC P t=some e) (h2:cR P e=some es) (h3:jM P e=some by_) (h4:gI P e=some z) (hz:z.length=es) (h0:es≠0) (hb:by_≠0) (hn:mD P t2=true)
  (hl:∀ x,(f x).length=es) (hc:nR f) {H:ay} {lo:Nat} {l l2:List T} {y:A} (hy:pr H y f l2) :
  bW P t t2 false (.imm (l.map f) true) y H lo=(c7 by_ l l2).map fun r=>(.sl H.length 0 r.length false,H++[.row false es (r.map f)]):=by
 unfold bW
 rw[h1,Ti,h2,Ti,h3,Ti,h4,Ti,yk hn,show els? H y=_ from hy,Ti,sj hl hc h0 hb hz,Tk]
 simp only[Vb,WE,Tk,sn hl hc,Tn,c7]
 cases decide ((l.length+l2.length)*by_<=dm)<;>simp
theorem CO {t2:Nat} {z:List A} (h1:kC P t=some e) (h2:cR P e=some es) (h3:jM P e=some by_) (h4:gI P e=some z) (hz:z.length=es) (h0:es≠0) (hb:by_≠0) (hn:mD P t2=true)
  (hl:∀ x,(f x).length=es) (hc:nR f) {wr:Bool} {H:ay} {lo b:Nat} {l l2:List T} {y:A} (hH:H[b]? = some (.row false es (l.map f))) (hlo:lo<=b) (hy:pr H y f l2) :
  bW P t t2 wr (.sl b 0 l.length false) y H lo=(c7 by_ l l2).map fun r=>(.sl b 0 r.length false,H.set b (.row false es (r.map f))):=by
 unfold bW
 rw[h1,Ti,h2,Ti,h3,Ti,h4,Ti,yk hn,show els? H y=_ from hy,Ti,sj hl hc h0 hb hz,Tk]
 simp only[hH,Vb,c7]
 cases hd:decide ((l.length+l2.length)*by_<=dm)<;>simp[hlo]
structure wA (P:Program) (t t2 e es by_:Nat) (z:List A) (f:T->List A):Prop where
 h1:kC P t=some e
 h2:cR P e=some es
 h3:jM P e=some by_
 h4:gI P e=some z
 hz:z.length=es
 h0:es≠0
 hb:by_≠0
 hn:mD P t2=true
 hl:∀ x,(f x).length=es
 hc:nR f
theorem kW {t2:Nat} {z:List A} (a:wA P t t2 e es by_ z f) {H:ay} {lo:Nat} {l l2:List T} {y:A} (hy:pr H y f l2) :
  bW P t t2 false (.imm (l.map f) true) y H lo=(c7 by_ l l2).map fun r=>(.sl H.length 0 r.length false,H++[.row false es (r.map f)]):=CN a.h1 a.h2 a.h3 a.h4 a.hz a.h0 a.hb a.hn a.hl a.hc hy
theorem cw {t2:Nat} {z:List A} (a:wA P t t2 e es by_ z f) {wr:Bool} {H:ay} {lo b:Nat} {l l2:List T} {y:A} (hH:H[b]? = some (.row false es (l.map f))) (hlo:lo<=b) (hy:pr H y f l2) :
  bW P t t2 wr (.sl b 0 l.length false) y H lo=(c7 by_ l l2).map fun r=>(.sl b 0 r.length false,H.set b (.row false es (r.map f))):=CO a.h1 a.h2 a.h3 a.h4 a.hz a.h0 a.hb a.hn a.hl a.hc hH hlo hy
theorem zI {d:Nat} {k:IntKind} {n:Int}:jT d (some (.v (.int k n)))=bif decide (0<=n) then some n.toNat else none:=rfl
theorem eX {P:Program} {t e:TypeId} {es:Nat} {T:Type} {f:T->List A} {l:List T} {c:Bool} {k:IntKind} {i:Int} {H:ay} (h1:P.underlying t=some (.slice e):=by kernel_rfl) (h2:cR P e=some es:=by kernel_rfl) (h3:∀ x,(f x).length=es:=by exact fun _=>rfl) :
  dF P t (.imm (l.map f) c) (.v (.int k i)) H=(bK l i).map fun x=>.ip (f x):=CZ f l c k i H h1 h2 h3
theorem dT {P:Program} {t e:TypeId} {T:Type} {f:T->List A} {l:List T} {c:Bool} {H:ay} (h1:P.underlying t=some (.slice e):=by kernel_rfl):qb P t (.imm (l.map f) c) H=some (.v (.int .i64 l.length)):=Df f l c H h1
theorem pT (h1:P.underlying t=some (.slice e)) (h2:cR P e=some es) (hl:∀ x,(f x).length=es) {H:ay} {l:List T} {lo hi:Option A} {a b:Int} (ha:(lo=none/\a=0)∨∃ k,lo=some (.v (.int k a))) (hb:(hi=none/\b=l.length)∨∃ k,hi=some (.v (.int k b))) :
  eI P t (.imm (l.map f) false) lo hi none H=(iJ l a b).map fun r=>.imm (r.map f) false:=by
 unfold eI
 rw[h1]
 simp only[h2,Ti,Vb,WE]
 have e1:jT l.length hi=bif decide (0<=b) then some b.toNat else none:=by
  rcases hb with ⟨rfl,rfl⟩ | ⟨k,rfl⟩
  ·simp[jT]
  ·rfl
 have e2:jT 0 lo=bif decide (0<=a) then some a.toNat else none:=by
  rcases ha with ⟨rfl,rfl⟩ | ⟨k,rfl⟩
  ·simp[jT]
  ·rfl
 have e3:∀ i:Nat,(i==0 || match (l.map f)[i]? with | some cs=>cs.length==es | none=>true)=true:=fun i=>by
  rw[T0]
  cases l[i]?<;>simp[hl]
 rw[e1,e2]
 unfold iJ
 by_cases hb0:0<=b
 ·by_cases ha0:0<=a
  ·have q1:(decide (a.toNat<=b.toNat))=decide (a<=b):=by rw[Ws]; omega
   have q2:(decide (b.toNat<=l.length))=decide (b<=(l.length:Int)):=S8
   simp only[hb0,ha0,UE,Tn,Ti,TU,q1,q2,Wg,List.map_drop]
   have e4:=e3 a.toNat
   rw[T0] at e4 ⊢
   cases hx:l[a.toNat]?<;>rw[hx] at e4<;>cases (decide (a<=b)&&decide (b<=(l.length:Int)))<;>simp[hl]
  ·simp[hb0,ha0]
 ·have:(decide (0<=a)&&decide (a<=b)&&decide (b<=(l.length:Int)))=false:=by
   rw[Vd]; intro hh; simp only[Tl,Tu] at hh; omega
  simp[hb0,this]
theorem n6 (h1:P.underlying t=some (.slice e)) (h2:cR P e=some es) (hl:∀ x,(f x).length=es) {H:ay} {l:List T} {lo:Option A} {a b:Int} {k1 k2:IntKind} {c:Bool} (ha:(lo=none/\a=0)∨∃ k,lo=some (.v (.int k a))) :
  eI P t (.imm (l.map f) c) lo (some (.v (.int k1 b))) (some (.v (.int k2 b))) H=(iJ l a b).map fun r=>.imm (r.map f) true:=by
 unfold eI
 rw[h1]
 simp only[h2,Ti,Vb,zI,idx]
 have e2:jT 0 lo=bif decide (0<=a) then some a.toNat else none:=by
  rcases ha with ⟨rfl,rfl⟩ | ⟨k,rfl⟩
  ·simp[jT]
  ·rfl
 have e3:∀ i:Nat,(i==0 || match (l.map f)[i]? with | some cs=>cs.length==es | none=>true)=true:=fun i=>by
  rw[T0]
  cases l[i]?<;>simp[hl]
 rw[e2]
 unfold iJ
 by_cases hb0:0<=b
 ·by_cases ha0:0<=a
  ·have q1:(decide (a.toNat<=b.toNat))=decide (a<=b):=by rw[Ws]; omega
   have q2:(decide (b.toNat<=l.length))=decide (b<=(l.length:Int)):=S8
   simp only[hb0,ha0,UE,Tn,Ti,TU,q1,q2,Wg,List.map_drop,UN]
   rw[T0]
   cases hx:l[a.toNat]?<;>cases (decide (a<=b)&&decide (b<=(l.length:Int)))<;>simp[hl]
  ·simp[hb0,ha0]
 ·have:(decide (0<=a)&&decide (a<=b)&&decide (b<=(l.length:Int)))=false:=by
   rw[Vd]; intro hh; simp only[Tl,Tu] at hh; omega
  simp[hb0,this]
theorem mW (hf:b8 f) {H:ay} {b n:Nat} {l:List T} (h:H[b]? = some (.row false es (l.map f))):gN (n+1) H b 0 l.length=.imm (l.map f) false:=by
 unfold gN
 rw[h]
 simp only[T5]
 rw[Uo r9,cC hf]
theorem bO (hf:b8 f) {H:ay} {b n:Nat} {wr:Bool} {l:List T} (h:H[b]? = some (.row wr es (l.map f))):jw (n+1) H b 0 l.length=.imm (l.map f) false:=by
 unfold jw
 rw[h]
 simp only[T5]
 rw[Uo r9,cC hf]
def HE (b:Nat) (n:Int) (z:T):Option (List T):=bif decide (0<=n)&&decide (n*b<=dm)&&decide (n<=dm) then some (List.replicate n.toNat z) else none
theorem rC {H:ay} {k1 k2:IntKind} {n:Int} {z:T} (h1:kC P t=some e) (h2:cR P e=some es) (h3:jM P e=some by_) {z':List A} (h4:gI P e=some z') (hz:z'.map uC=f z) (h0:es≠0) (hl:∀ x,(f x).length=es) :
  fI P t (.v (.int k1 n)) (.v (.int k2 n)) H=(HE by_ n z).map fun r=>(.imm (r.map f) false,H):=by
 unfold fI HE idx
 rw[h1,Ti,h2,Ti,h3,Ti,h4,Ti]
 have hzl:z'.length=es:=by have:=hl z; rw[<-hz] at this; simpa using this
 by_cases hn:0<=n
 ·have e1:decide (n.toNat*by_<=dm)=decide (n*by_<=dm):=by
   obtain ⟨m,rfl⟩:∃ m:Nat,n=m:=⟨n.toNat,r7⟩
   rw[Ws,VZ]
   exact⟨fun h=>by exact_mod_cast h,fun h=>by exact_mod_cast h⟩
  have e2:decide (n.toNat<=dm)=decide (n<=dm):=S8
  simp only[hn,UE,Tn,Ti,hz,hzl,UN,TF,WL,e1,e2,TU]
  have:(es==0)=false:=by simpa using h0
  rw[this]
  cases decide (n*by_<=dm)<;>cases decide (n<=dm)<;>simp
 ·simp[hn]
end
def fK (l:List UInt8):ByteArray:=⟨l.toArray⟩
def kA (s:ByteArray):List UInt8:=s.data.toList
theorem ql:∀ l:List UInt8,bytesOf (l.map c8)=some l
 | []=>rfl
 | a :: l=>by
  rw[Um]
  show (bytesOf (l.map c8)).map (((a.toNat:Int).toNat.toUInt8) :: ·)=_
  rw[ql l]
  simp
theorem mN {P:Program} {s d e:Nat} (h1:P.underlying s=some (.slice e)) (h2:P.underlying d=some .string) (h3:P.underlying e=some (.int .u8)) (h4:cR P e=some 1) {H:ay} {x:A} {l:List UInt8} (hx:pr H x c8 l) (hn:vf H x=els? H x) :
  bn P s d x H=some (.v (.string (fK l))):=by
 unfold bn
 rw[h1,h2]
 simp only[h3,h4,hn]
 rw[show els? H x=_ from hx,Ti,ql]
 rfl
def Co (y:Nat):A:=bif Nat.beq y 0 then .v .nilFunc else .fn (.func y) [] []
theorem xD (L e:Nat):A.under L (Co e)=true:=by unfold Co; cases Nat.beq e 0<;>rfl
theorem gu:(∀ (L e:Nat),A.under L (Co e)=true)/\(∀ {T:Type} {f:T->List A} (hf:c9 f) (L:Nat) (l:List T),aW L (l.map f)=true)/\(∀ (L:Nat) (a b:List A),bh L (a++b)=(bh L a&&bh L b))/\(∀ k,c9 (cI k))/\c9 c8/\c9 cB/\c9 cS/\(∀ {T:Type} {f:T->List A} (hf:c9 f),c9 (cL f))/\(∀ b:Bool,(b&&true)=b)/\(∀ b:Bool,(true&&b)=b)/\(∀ {β:Type} (x y:β),(bif true then x else y)=x):=
 ⟨xD,cW,rz,lL,lJ,lK,lN,lM,fun b=>UA b,fun b=>TU b,fun _ _=>rfl⟩
theorem uB:(∀ (L:Nat) (cs:List A),aO.under L (.box cs)=bh L cs)/\(∀ (L:Nat) (b:Bool) (e:Nat) (l:List (List A)),aO.under L (.row b e l)=aW L l)/\(∀ (L:Nat) (r:CK),aO.under L (.rng r)=true)/\(∀ L:Nat,aO.under L .dead=true)/\(∀ (L:Nat) (k:IntKind) (ks:List Int) (vs:List A),aO.under L (.mp k ks vs)=bh L vs) ∧
  (∀ L:Nat,bh L []=true)/\(∀ (L:Nat) (a:A) (as:List A),bh L (a :: as)=(A.under L a&&bh L as))/\(∀ L:Nat,aW L []=true)/\(∀ (L:Nat) (a:List A) (as:List (List A)),aW L (a :: as)=(bh L a&&aW L as)) ∧
  (∀ L:Nat,A.under L .any=true)/\(∀ (L:Nat) (v:Value),A.under L (.v v)=true)/\(∀ L b o:Nat,A.under L (.ptr b o)=decide (b<L))/\(∀ L b i o:Nat,A.under L (.ep b i o)=decide (b<L))/\(∀ (L b o n:Nat) (c:Bool),A.under L (.sl b o n c)=decide (b<L))/\(∀ L b:Nat,A.under L (.mr b)=decide (b<L)) ∧
  (∀ (L:Nat) (cs:List A),A.under L (.ip cs)=bh L cs)/\(∀ (L:Nat) (cs:List A),A.under L (.agg cs)=bh L cs)/\(∀ (L:Nat) (cs:List A),A.under L (.tup cs)=bh L cs)/\(∀ (L:Nat) (l:List (List A)) (c:Bool),A.under L (.imm l c)=aW L l)/\(∀ (L:Nat) (f:Fn) (a b:List A),A.under L (.fn f a b)=(bh L a&&bh L b))/\(∀ (L:Nat) (t:TypeId) (x:A),A.under L (.ifc t x)=A.under L x) ∧
  (∀ f:aO->Bool,[].all f=true)/\(∀ (f:aO->Bool) (b:aO) (H:ay),(b :: H).all f=(f b&&H.all f)):=by
 refine⟨?_,?_,?_,?_,?_,?_,?_,?_,?_,?_,?_,?_,?_,?_,?_,?_,?_,?_,?_,?_,?_,?_,?_⟩<;>intros<;>first | rfl | (simp only[aO.under,A.under,bh,aW]; done)
theorem eD {L:Nat} {H H':ay} (h:H.take L=H') (hu:H'.all (aO.under L)=true):trim L H=some H':=by
 unfold trim
 rw[h,hu]
 cases hL:H.length==L with
 | false=>rfl
 | true=>rw[<-h,Uo (VU (eq_of_beq hL))]; rfl
theorem J.ds {cx:Cx} {call:bj} {e:Nat} (q:Nat) {args:List A} {H:ay} {lo:Nat} {k pan:A->ay->Option Go.Proofs.Ytebkhfhcipnfgaa.R} {kL:Go.Proofs.Ytebkhfhcipnfgaa.R->Option ρ} (h:decide (e=q)=true) (hq:Nat.beq q 0=false)
  (hk:J φ (dw cx call (.fn (.func q) [] []) args H lo k pan) kL R K):J φ (dw cx call (Co e) args H lo k pan) kL R K:=by
 rw[Tv h]
 unfold Co
 rw[hq]
 exact hk
abbrev iA (n:Int):A:=A.v (Value.int .i64 n)
abbrev uA (n:Int):A:=A.v (Value.int .u8 n)
abbrev bA (b:Bool):A:=A.v (Value.bool b)
theorem Ba {β:Type} {cx:Cx} {k m n lo:Nat} {args:List A} {H5 X:ay} {Y:Option β} {o:β->Out} {H':β->ay} (hk:Nat.ble cx.P.funcs.size k=false) (hm:cx.cut k=m) (hm0:Nat.beq m 0=false) (hl:H5.length=m) (ha:bh m args=true) (hh:H5.all (aO.under m)=true)
  (hl':∀ y,(H' y).length=m) (hv:∀ y,kN m (o y)=true) (hh':∀ y,(H' y).all (aO.under m)=true) (h:J (fun (r:Out×ay) y=>∃ Z,r=(o y,H' y++Z)) (aF cx (dI cx n) (bF cx n) n k args H5 lo) some Y some) :
  J (fun (r:Out×ay) y=>r=(o y,H' y++X)) (dI cx (n+1) k args (H5++X) lo) some Y some:=by
 intro r hr
 obtain ⟨s,h1,Z,rfl⟩:=h r hr
 refine⟨_,?_,rfl⟩
 have h2:aF cx (bF cx n Dj) (bF cx n) n k args H5 lo=some (o r,H' r++Z):=by
  rw[Option.bind_fun_some] at h1
  exact h1
 have hc:fS cx k (H5++X)=true:=by
  unfold fS
  rw[hm,hm0,Ut S9]
  rfl
 have hc2:cutAt cx k (H5++X)=m:=by
  unfold cutAt
  rw[hm,Ut S9]
  rfl
 have t1:(H5++X).take m=H5:=by rw[<-hl,List.take_left]
 have t2:(H5++X).drop m=X:=by rw[<-hl,List.drop_left]
 have t3:(H' r++Z).take m=H' r:=by rw[<-hl' r,List.take_left]
 have t4:Nat.ble m (H' r++Z).length=true:=Ut (by rw[TH,hl']; omega)
 unfold dI
 rw[bF,hk,hc]
 simp only[Tn,Tk]
 unfold mO
 rw[hc2,t1,t2,ha,hh]
 show ((bif true&&true then (aF cx (bF cx n Dj) (bF cx n) n k args H5 lo).bind _ else none).bind some)=_
 rw[h2]
 simp only[Vx,Tn,Ti,t4,t3,hh',hv]
def oD {β:Type} (m:Nat) (r:Go.Proofs.Ytebkhfhcipnfgaa.R) (k:Go.Proofs.Ytebkhfhcipnfgaa.R->Option β):Option β:=bif Nat.ble m r.2.length&&(r.2.take m).all (aO.under m)&&kN m r.1 then k (r.1,r.2.take m) else none
theorem J.td {m:Nat} {x:Option Go.Proofs.Ytebkhfhcipnfgaa.R} {k:Go.Proofs.Ytebkhfhcipnfgaa.R->Option σ} (h:J φ x (fun r=>(oD m r k).bind kL) R K):J φ ((x.bind fun r=>oD m r some).bind k) kL R K:=by
 refine J.lp ?_ (J.bb h)
 cases x with
 | none=>rfl
 | some r=>
  show (oD m r some).bind k=oD m r k
  unfold oD
  cases Nat.ble m r.2.length&&(r.2.take m).all (aO.under m)&&kN m r.1<;>rfl
theorem J.RI {m k n lo:Nat} {cx:Cx} {base:bj} {args:List A} {H:ay} {x:Option Go.Proofs.Ytebkhfhcipnfgaa.R} {k':Go.Proofs.Ytebkhfhcipnfgaa.R->Option σ} (h:bF cx (n+1) base k args H lo=x.bind fun r=>oD m r some) (hk:J φ x (fun r=>(oD m r k').bind kL) R K):J φ ((bF cx (n+1) base k args H lo).bind k') kL R K:=J.lp (Ue (fun z=>Option.bind z k') h) (J.td hk)
theorem J.ct {m k n lo:Nat} {cx:Cx} {args:List A} {H:ay} {x:Option Go.Proofs.Ytebkhfhcipnfgaa.R} {k':Go.Proofs.Ytebkhfhcipnfgaa.R->Option σ} (h:bF cx (n+1) Dj k args H lo=x.bind fun r=>oD m r some) (hk:J φ x (fun r=>(oD m r k').bind kL) R K):J φ ((dI cx (n+1) k args H lo).bind k') kL R K:=J.RI h hk
theorem yQ {α:Type} (x:α):∀ (a l:List α) (b:Nat),a.length<=b->(a++l).set b x=a++l.set (b - a.length) x
 | [],l,b,_=>rfl
 | y :: a,l,0,h=>by simp at h
 | y :: a,l,b+1,h=>by
  rw[Uc,List.set_cons_succ,yQ x a l b (by simpa using h),TM,Nat.add_sub_add_right,Uc]
theorem fJ {o:Out} {lo off b p:Nat} {H2 X:ay} (h:H2.length<=b):∃ Z,(o,dX lo off 0 (.ptr b p) (H2++X))=(o,H2++Z):=by
 have key:∃ Z,dX lo off 0 (.ptr b p) (H2++X)=H2++Z:=by
  unfold dX
  simp only[]
  split
  ·split
   ·cases decide (lo<=b) with
    | false=>exact⟨X,rfl⟩
    | true=>exact⟨_,yQ _ _ _ _ h⟩
   ·exact⟨X,rfl⟩
  ·exact⟨X,rfl⟩
 obtain ⟨Z,hZ⟩:=key
 exact⟨Z,by rw[hZ]⟩
theorem uV {T:Type} {f:T->List A} (hf:b8 f) {H:ay} {lo off b o b' es:Nat} {l:List T} {cs:List A} {c:Bool} (h1:H[b]? = some (.box cs)) (h2:cs[o+off]? = some (.sl b' 0 l.length c)) (h3:H[b']? = some (.row false es (l.map f))) (h4:lo<=b) :
  dX lo off 0 (.ptr b o) H=H.set b (.box (cs.set (o+off) (.imm (l.map f) false))):=by
 unfold dX
 simp only[h1,h2,Tq h4,Tn]
 rw[show E9 H (.sl b' 0 l.length c)=.imm (l.map f) false from mW (n:=3) hf h3]
end
section
open Go.RowKit Go.ChangeShapes Go.WideShapes Go.ChangeAt Go.Deep
theorem wq (k o:Nat):eE [] (G0 fun _ _=>True) k o:=⟨trivial,fun b hb=>by cases hb⟩
def lV (P:Program) (t:TypeId) (T:List A->Prop):Prop:=
 ∀ {H:Type} (enc:TypeId×Value->H) (w:World) (held:Bool) (fuel:Nat) (cs:List Value) (x:DataW H×List MemPlace),DataW.trod enc P w 0 (fun _=>true) held fuel t cs=some x->∃ as,T as/\bt [] (G0 fun _ _=>True) w as cs
def MG (as:List A):Prop:=∃ n:Int,as=[.v (.int .i64 n)]/\-9223372036854775808<=n/\n<=9223372036854775807
theorem xY {H:ay} {g:Gh} {w:World} (x:Value):bt H g w [.v x] [x]:=by rw[bt]; exact⟨x,[],rfl,u2,x5⟩
theorem xx {P:Program} {t:TypeId} (ht:P.underlying t=some (.int .i64)):lV P t MG:=by
 intro H enc w held fuel cs x h
 obtain ⟨n,rfl,_,hw⟩:=DataW.trod_int ht h
 exact⟨_,⟨n,rfl,(WJ hw).1,(WJ hw).2⟩,xY _⟩
theorem p4 {H:ay} {g:Gh} {w:World} {a:A} {as:List A} {c:Value} {cs:List Value} (h:VR H g w a c) (k:bt H g w as cs):bt H g w (a :: as) (c :: cs):=by rw[bt]; exact⟨c,cs,rfl,h,k⟩
def AY:List (List A->Prop)->List A->Prop
 | [],as=>as=[]
 | T :: Ts,as=>∃ a b,as=a++b/\T a/\AY Ts b
def Bu (P:Program) (N:Nat):List Field->Nat->Bool
 | [],o=>Nat.beq o N
 | f :: fs,o=>Nat.beq f.offset o&&Bu P N fs (o+P.cellsOf f.type)
def ReadsAll (P:Program):List Field->List (List A->Prop)->Prop
 | [],[]=>True
 | f :: fs,T :: Ts=>lV P f.type T/\ReadsAll P fs Ts
 | _,_=>False
theorem nh {H:ay} {g:Gh} {w:World}:∀ {a:List A} {c:List Value} {b:List A} {d:List Value},bt H g w a c->bt H g w b d->bt H g w (a++b) (c++d)
 | [],c,b,d,h,k=>by rw[bt] at h; subst h; exact k
 | x :: a,c,b,d,h,k=>by
  rw[bt] at h
  obtain ⟨y,c',rfl,h1,h2⟩:=h
  rw[Uc,Uc,bt]
  exact⟨y,_,rfl,h1,nh h2 k⟩
theorem ox {P:Program} {H:Type} (enc:TypeId×Value->H) (w:World) (held:Bool) (cs:List Value) {N:Nat} (hN:cs.length=N):∀ (fs:List Field) (Ts:List (List A->Prop)) (o:Nat),Bu P N fs o=true->ReadsAll P fs Ts ->
  (∀ (i:Nat) f,fs[i]? = some f->∃ n x,DataW.trod enc P w 0 (fun _=>true) held n f.type ((cs.drop f.offset).take (P.cellsOf f.type))=some x)->∃ as,AY Ts as/\bt [] (G0 fun _ _=>True) w as (cs.drop o)
 | [],[],o,hl,_,_=>by
  rw[Bu] at hl
  have:o=N:=TC hl
  refine⟨[],rfl,?_⟩
  rw[bt,TS.2 r7]
 | f :: fs,T :: Ts,o,hl,hr,hx=>by
  rw[Bu,Tl] at hl
  obtain ⟨hl1,hl⟩:=hl
  have ho:f.offset=o:=TC hl1
  obtain ⟨n,x,h0⟩:=hx 0 f rfl
  obtain ⟨a,ha,hv⟩:=hr.1 enc w held n _ x h0
  obtain ⟨b,hb,hvb⟩:=ox enc w held cs hN fs Ts (o+P.cellsOf f.type) hl hr.2 fun i f' hf'=>hx (i+1) f' (by simpa using hf')
  refine⟨a++b,⟨a,b,rfl,ha,hb⟩,?_⟩
  have e:cs.drop o=(cs.drop o).take (P.cellsOf f.type)++cs.drop (o+P.cellsOf f.type):=by
   rw[<-We]; exact(UP _ _).symm
  rw[e,<-ho]
  rw[<-ho] at hvb
  exact nh hv hvb
 | [],_ :: _,_,_,hr,_=>hr.elim
 | _ :: _,[],_,_,hr,_=>hr.elim
theorem fQ {P:Program} {t:TypeId} {fs:Array Field} {Ts:List (List A->Prop)} (ht:P.underlying t=some (.struct fs)) (hl:Bu P (P.cellsOf t) fs.toList 0=true) (hr:ReadsAll P fs.toList Ts):lV P t (AY Ts):=by
 intro H enc w held fuel cs x h
 obtain ⟨xs,n,_,rfl,hlen,hxs,hf⟩:=DataW.trod_struct ht h
 obtain ⟨as,h1,h2⟩:=ox enc w held cs hlen fs.toList Ts 0 hl hr fun i f hi=>by
  have hi':i<xs.length:=by
   have:=(Tp.1 hi).1
   simp at this; omega
  exact⟨n,xs[i],by rw[hf i f (by simpa using hi)]; exact Tj hi'⟩
 exact⟨as,h1,by simpa using h2⟩
theorem rM {H:Type} {enc:TypeId×Value->H} {P:Program} {W:World} {base:Nat} {ts:Array TypeId} {args:Array Value} (h:pZ enc P W base ts args) (j:Nat) {t:TypeId} {v:Value} (hj:ts[j]? = some t) (hv:args[j]? = some v) {fs:Array Field} (ht:P.underlying t=some (.struct fs)) {T:List A->Prop} (hT:lV P t T) :
  ∃ as,T as/\VR [] (G0 fun _ _=>True) W (.agg as) v:=by
 obtain ⟨ok,d,p,fuel,htr⟩:=h.2 j t v hj hv
 unfold Value.okWide at ok
 rw[ht] at ok
 obtain ⟨cs,rfl,_,_⟩:=ok
 obtain ⟨as,h1,h2⟩:=hT enc W _ _ _ _ htr
 refine⟨as,h1,?_⟩
 rw[VR]
 exact⟨cs,rfl,h2⟩
theorem xg {H:Type} {enc:TypeId×Value->H} {P:Program} {W:World} {base:Nat} {ts:Array TypeId} {args:Array Value} (h:pZ enc P W base ts args) (j:Nat) {t:TypeId} {v:Value} (hj:ts[j]? = some t) (hv:args[j]? = some v) (ht:P.underlying t=some (.int .i64)) :
  ∃ n:Int,(-9223372036854775808<=n/\n<=9223372036854775807)/\VR [] (G0 fun _ _=>True) W (.v (.int .i64 n)) v:=by
 obtain ⟨n,rfl,h1,h2⟩:=zE h j hj hv ht
 exact⟨n,⟨h1,h2⟩,u2⟩
def pK (P:Program) (t:TypeId) {T:Type} (c:T->List A) (ok:T->Prop):Prop:=lV P t fun as=>∃ x,as=c x/\ok x
def fc (n:Int):Prop:=-9223372036854775808<=n/\n<=9223372036854775807
theorem jU {P:Program} {t:TypeId} (ht:P.underlying t=some (.int .i64)):pK P t (cI .i64) fc:=fun enc w held fuel cs x h=>by
 obtain ⟨as,⟨n,rfl,h1⟩,h2⟩:=xx ht enc w held fuel cs x h
 exact⟨_,⟨n,rfl,h1⟩,h2⟩
theorem pK.of {P:Program} {t:TypeId} {T:Type} {c:T->List A} {ok:T->Prop} {S:List A->Prop} (h:lV P t S) (hs:∀ as,S as->∃ x,as=c x/\ok x):pK P t c ok:=fun enc w held fuel cs x h0=>by
 obtain ⟨as,h1,h2⟩:=h enc w held fuel cs x h0
 exact⟨as,hs as h1,h2⟩
theorem Gv {H:Type} {enc:TypeId×Value->H} {P:Program} {W:World} {base:Nat} {ts:Array TypeId} {args:Array Value} (h:pZ enc P W base ts args) (j:Nat) {t:TypeId} {v:Value} (hj:ts[j]? = some t) (hv:args[j]? = some v) (ht:P.underlying t=some (.int .i64)) :
  ∃ n:Int,fc n/\VR [] (G0 fun _ _=>True) W (.v (.int .i64 n)) v:=xg h j hj hv ht
theorem sF {H:Type} {enc:TypeId×Value->H} {P:Program} {W:World} {base:Nat} {ts:Array TypeId} {args:Array Value} (h:pZ enc P W base ts args) (j:Nat) {t:TypeId} {v:Value} (hj:ts[j]? = some t) (hv:args[j]? = some v) {fs:Array Field} (ht:P.underlying t=some (.struct fs)) {T:Type} {c:T->List A} {ok:T->Prop} (hT:pK P t c ok) :
  ∃ x,ok x/\VR [] (G0 fun _ _=>True) W (.agg (c x)) v:=by
 obtain ⟨as,⟨x,rfl,h1⟩,h2⟩:=rM h j hj hv ht hT
 exact⟨x,h1,h2⟩
def lS:Nat:=9223372036854775807
section
variable {P:Program} {t e:TypeId} {T:Type} {c:T->List A} {ok:T->Prop}
theorem J2 (ht:P.underlying t=some (.int .u8)):pK P t c8 (fun _=>True):=fun enc w held fuel cs x h=>by
 obtain ⟨n,rfl,_,hw⟩:=DataW.trod_int ht h
 obtain ⟨h1,h2⟩:=bounds_u8 hw
 refine⟨c8 (UInt8.ofNat n.toNat),⟨_,rfl,trivial⟩,?_⟩
 have:((UInt8.ofNat n.toNat).toNat:Int)=n:=by
  rw[UInt8.toNat_ofNat']
  omega
 unfold c8
 rw[this]
 exact xY _
theorem jv {es:Nat} (ht:P.underlying t=some (.slice e)) (hk:P.cellsOf e=es) (hpos:0<es) (hlen:∀ x,(c x).length=es) (hL:pK P e c ok):pK P t (cL c) (fun l=>l.length<=lS/\∀ z∈l,ok z):=by
 intro H enc w held fuel cs x h
 rcases open_slice ht h with ⟨rfl,_⟩ | ⟨a,len,cap,m,n,D,Pl,rfl,_,hle,hcap,hm,hxd,hel⟩
 ·refine⟨_,⟨[],rfl,TL _,fun z hz=>(by cases hz)⟩,?_⟩
  rw[cL,bt]
  refine⟨_,[],rfl,?_,x5⟩
  rw[VR]
  exact⟨none,0,[],es,rfl,Tm _,fun h=>(by cases h),fun d hd=>(by cases hd),fun h=>absurd h (Vq 0),by rw[VV,bp]⟩
 ·simp only[VH] at hm
  have each:∀ i,i<len->∃ y:T,ok y/\∃ vs,bt [] (G0 fun _ _=>True) w (c y) vs/\vs.length=es/\∀ j,j<es->w.cell? (a.add (i*es+j))=vs[j]?:=fun i hi=>by
   obtain ⟨cs',h1,h2⟩:=hel i r7
   obtain ⟨as,⟨y,rfl,hok⟩,hv⟩:=hL enc w held n cs' _ h2
   obtain ⟨_,hl,hc⟩:=World.cells?_some h1
   have hvl:=hv.length
   rw[hlen] at hvl
   refine⟨y,hok,cs',hv,hvl,fun j hj=>?_⟩
   have:=hc j r7
   rw[hk,add_add] at this
   exact this
  obtain ⟨l,ds,hl,hdl,hall⟩:∃ (l:List T) (ds:List (List Value)),l.length=len/\ds.length=len/\∀ i y d,l[i]? = some y->ds[i]? = some d->ok y/\bt [] (G0 fun _ _=>True) w (c y) d/\d.length=es/\∀ j,j<es->w.cell? (a.add (i*es+j))=d[j]?:=by
   clear hel hm hle hcap hxd h
   induction len with
   | zero=>exact⟨[],[],rfl,rfl,fun i y d h=>by simp at h⟩
   | succ len ih=>
    obtain ⟨l,ds,hl,hdl,hall⟩:=ih (fun i hi=>each i r7)
    obtain ⟨y,hok,d,hd⟩:=each len r7
    refine⟨l++[y],ds++[d],by simp[hl],by simp[hdl],fun i y' d' hy' hd'=>?_⟩
    by_cases e:i<len
    ·rw[TG r7] at hy' hd'
     exact hall i y' d' hy' hd'
    ·have hi:i<(l++[y]).length:=(Tp.1 hy').1
     have e2:i=len:=by simp at hi; omega
     subst e2
     rw[T4 r7] at hy' hd'
     simp[hl,hdl] at hy' hd'
     subst hy'; subst hd'
     exact⟨hok,hd⟩
  have hds:∀ d∈ds,d.length=es:=fun d hd=>by
   obtain ⟨i,hi,rfl⟩:=Ui hd
   exact(hall i l[i] ds[i] (Tj r7) (Tj hi)).2.2.1
  have hcapL:cap<=lS:=hcap
  refine⟨_,⟨l,rfl,r7,fun z hz=>?_⟩,?_⟩
  ·obtain ⟨i,hi,rfl⟩:=Ui hz
   exact(hall i l[i] ds[i] (Tj hi) (Tj r7)).1
  ·rw[cL,bt]
   refine⟨_,[],rfl,?_,x5⟩
   rw[VR]
   refine⟨some a,cap,ds,es,by simp[hl],by simp[hl]; exact hle,fun h=>(by cases h),hds,fun hp=>?_,?_⟩
   ·have hp:0<len:=by simpa [hl] using hp
    obtain ⟨ab,ao,asp⟩:=a
    obtain ⟨_,_,h0l,h0⟩:=hall 0 l[0] ds[0] (Tj r7) (Tj r7)
    have h4:=h0 0 hpos
    rw[Tj r7] at h4
    have hsp:asp=none:=by simpa [Addr.add] using World.cell?_spot h4
    subst hsp
    refine⟨ab,ao,rfl,fun j v hj=>⟨?_,wq _ _⟩⟩
    have hjl:j<ds.flatten.length:=(Tp.1 hj).1
    rw[bV hds] at hjl
    have hi:j / es<len:=by
     rw[VI hpos]; rw[hdl] at hjl; exact hjl
    obtain ⟨_,_,hil,hi2⟩:=hall (j / es) l[j / es] ds[j / es] (Tj r7) (Tj r7)
    have h5:=hi2 (j % es) (VJ _ hpos)
    have e1:j / es*es+j % es=j:=by rw[Ux]; exact V6 j es
    have h6:=jq hds (Tj (show j / es<ds.length by omega)) (j % es) (VJ _ hpos)
    rw[e1] at h5 h6
    rw[add_plain] at h5
    rw[h5,<-h6]
    exact hj
   ·refine cE.2 ⟨by simp[hl,hdl],fun i y d hy hd=>?_⟩
    rw[T0] at hy
    cases hx:l[i]? with
    | none=>rw[hx] at hy; cases hy
    | some z=>
     rw[hx] at hy; cases hy
     exact(hall i z d hx hd).2.1
theorem pK.Pm {ok':T->Prop} (h:pK P t c ok) (hw:∀ x,ok x->ok' x):pK P t c ok':=fun enc w held fuel cs x h0=>by
 obtain ⟨as,⟨y,h1,h2⟩,h3⟩:=h enc w held fuel cs x h0
 exact⟨as,⟨y,h1,hw y h2⟩,h3⟩
theorem zK {es:Nat} (ht:P.underlying t=some (.slice e)) (hk:P.cellsOf e=es) (hpos:0<es) (hlen:∀ x,(c x).length=es) (hL:pK P e c (fun _=>True)):pK P t (cL c) (fun l=>l.length<=lS):=pK.Pm (T:=List T) (c:=cL c) (ok:=fun (l:List T)=>l.length<=lS/\∀ z∈l,True) (jv ht hk hpos hlen hL) fun _ h=>h.1
theorem uy {n:Nat} {T:List A->Prop} (ht:P.underlying t=some (.array n e)) (hk:P.cellsOf t=n*P.cellsOf e) (hr:lV P e T):lV P t (AY (List.replicate n T)):=by
 intro H enc w held fuel cs x h
 obtain ⟨xs,m,_,rfl,hlen,hxs,hf⟩:=DataW.trod_array ht h
 rw[hk] at hlen
 have go:∀ q,q<=n->∃ as,AY (List.replicate q T) as/\bt [] (G0 fun _ _=>True) w as (cs.drop ((n - q)*P.cellsOf e)):=by
  intro q
  induction q with
  | zero=>intro _; exact⟨[],rfl,by rw[bt,TS.2 (by simp[hlen])]⟩
  | succ q ih=>
   intro hq
   obtain ⟨bs,h1,h2⟩:=ih r7
   have hi:n - (q+1)<xs.length:=r7
   have:=hf (n - (q+1)) r7
   rw[Tj hi] at this
   obtain ⟨as,ha,hv⟩:=hr enc w held m _ _ this
   refine⟨as++bs,⟨as,bs,rfl,ha,h1⟩,?_⟩
   have e1:(n - q)*P.cellsOf e=(n - (q+1))*P.cellsOf e+P.cellsOf e:=by
    rw[show n - q=n - (q+1)+1 by omega,Ul,Wy]
   have e2:cs.drop ((n - (q+1))*P.cellsOf e)=(cs.drop ((n - (q+1))*P.cellsOf e)).take (P.cellsOf e)++cs.drop ((n - q)*P.cellsOf e):=by
    rw[e1,<-We]; exact(UP _ _).symm
   rw[e2]
   exact nh hv h2
 obtain ⟨as,h1,h2⟩:=go n (Tm _)
 exact⟨as,h1,by simpa using h2⟩
variable {H:Type} {enc:TypeId×Value->H} {W:World} {base:Nat} {ts:Array TypeId} {args:Array Value}
end
theorem Gx {P:Program} {glob:Nat->Option (List Value)} {k:Nat} {as:List A} {args:Array Value} {W:World} (h:en P glob k as (.v (.bool true))) (hg:∀ (G:Nat) (vs:List Value),glob G=some vs->∀ (j:Nat) (v:Value),vs[j]? = some v->W.cell? ⟨G,j,none⟩=some v)
  (hv:bt [] (G0 fun _ _=>True) W as args.toList):Calls P k args W fun e W'=>e=.returned (.bool true)/\Below W.heap.size W W':=by
 refine(h (fun _ _=>True) W args.toList (fun _ _ _=>trivial) (fun G vs hG j v hj=>⟨by rw[Uh]; exact hg G vs hG j v hj,wq _ _⟩) hv).mono ?_
 rintro e W' ⟨c,rfl,hb,hc⟩
 rw[VR] at hc
 subst hc
 exact⟨rfl,hb⟩
end
end Go.Proofs.Ytebkhfhcipnfgaa
