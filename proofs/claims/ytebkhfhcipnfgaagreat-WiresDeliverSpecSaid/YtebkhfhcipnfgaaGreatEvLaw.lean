/-
 From what the interpreter answers to a law's statement: how arguments that came in are read as the interpreter's data.
-/
import Derived.Test.YtebkhfhcipnfgaaGreatEvSimp
namespace Go.Proofs.YtebkhfhcipnfgaaGreat
set_option linter.unusedVariables false
set_option linter.unusedSimpArgs false
set_option linter.defProp false
theorem XG {p:Prop} (h:p:=by rw[decide_eq_decide]; omega):p:=h
theorem XH {p:Prop} (h:p:=by rw[List.length_append]; omega):p:=h
def XZ:=@decide_eq_false
def Yd:=@List.drop_eq_nil_iff
def YY:=@Bool.and_true
def Y5:=@beq_self_eq_true
def Y6:=@decide_true
def Y7:=@Value.string.injEq
def Zc:=@Value.int.injEq
def Ze:=@Value.bool.injEq
def Zj:=@Bool.not_false
def Zp:=@decide_false
def Zq:=@Bool.and_self
def ZK:=@true_and
def Z8:=@and_true
def qaa:=@Nat.div_lt_iff_lt_mul
def qaf:=@Nat.mod_eq_of_lt
def qas:=@List.map_drop
def qaw:=@decide_eq_decide
def qbg:=@Bool.false_and
def qbn:=@Bool.or_false
section
variable {ρ γ σ α β τ:Type}
def J (φ:ρ->γ->Prop) (L:Option σ) (kL:σ->Option ρ) (R:Option α) (K:α->Option γ):Prop:=∀ r,R.bind K=some r->∃ s,L.bind kL=some s/\φ s r
variable {φ:ρ->γ->Prop} {kL:σ->Option ρ} {K:α->Option γ} {R X Y:Option α}
theorem J.st {x:Option τ} {v:τ} {k:τ->Option σ} (h:x=some v) (hk:J φ (k v) kL R K):J φ (x.bind k) kL R K:=by
 rw[h]; exact hk
theorem J.s {x:Option τ} {k:τ->Option σ} (v:τ) (hk:J φ (k v) kL R K) (h:x=some v:=by kernel_rfl):J φ (x.bind k) kL R K:=J.st h hk
theorem J.s2 {τ':Type} {x:Option τ'} {y:τ'->Option τ} {k:τ->Option σ} (v:τ) (hk:J φ (k v) kL R K) (h:x.bind y=some v:=by kernel_rfl):J φ (x.bind fun a=>(y a).bind k) kL R K:=by
 rw[<-Yw]; exact J.st h hk
def LU (x:Option (A×aC)):A×aC:=match x with | some p=>p | none=>(.any,[])
def LS (x:Option aC):aC:=match x with | some p=>p | none=>[]
theorem J.sq {x:Option (A×aC)} {k:A×aC->Option σ} (p:A) (hk:J φ (k (p,(LU x).2)) kL R K) (h:x=some (p,(LU x).2):=by kernel_rfl):J φ (x.bind k) kL R K:=J.st h hk
theorem J.sh {x:Option aC} {k:aC->Option σ} (hk:J φ (k (LS x)) kL R K) (h:x=some (LS x):=by kernel_rfl):J φ (x.bind k) kL R K:=J.st h hk
theorem J.bd {x:Option τ} {k:τ->Option σ} {X:Option β} {Y:β->Option α} {g:β->τ} (h:x=X.map g) (hk:∀ y,J φ (k (g y)) kL (Y y) K):J φ (x.bind k) kL (X.bind Y) K:=by
 intro r hr
 rw[Yw] at hr
 cases X with
 | none=>cases hr
 | some y=>rw[h]; exact hk y r hr
theorem J.bg {x:Option τ} {k:τ->Option σ} {X:Option β} {Y:β->Option α} (ψ:τ->β->Prop) (h:J ψ x some X some) (hk:∀ t y,ψ t y->J φ (k t) kL (Y y) K):J φ (x.bind k) kL (X.bind Y) K:=by
 intro r hr
 rw[Yw] at hr
 cases X with
 | none=>cases hr
 | some y=>
  obtain ⟨s,h1,h2⟩:=h y rfl
  have:x=some s:=by cases x<;>simp_all
  rw[this]
  exact hk s y h2 r hr
theorem J.bi {x y:Option σ} {b:Bool} (h1:J φ x kL X K) (h2:J φ y kL Y K):J φ (cC (.v (.bool b)) x y) kL (cond b X Y) K:=by
 cases b
 ·exact h2
 ·exact h1
theorem J.OD {x y:Option Go.Proofs.YtebkhfhcipnfgaaGreat.R} {kL:Go.Proofs.YtebkhfhcipnfgaaGreat.R->Option ρ} (h1:J φ x kL R K):J φ (aW (.v (.bool true)) x y) kL R K:=h1
theorem J.OC {x y:Option Go.Proofs.YtebkhfhcipnfgaaGreat.R} {kL:Go.Proofs.YtebkhfhcipnfgaaGreat.R->Option ρ} (h1:J φ y kL R K):J φ (aW (.v (.bool false)) x y) kL R K:=h1
theorem J.bX {x y:Option Go.Proofs.YtebkhfhcipnfgaaGreat.R} {kL:Go.Proofs.YtebkhfhcipnfgaaGreat.R->Option ρ} {b:Bool} (h1:J φ x kL X K) (h2:J φ y kL Y K):J φ (aW (.v (.bool b)) x y) kL (cond b X Y) K:=by
 cases b
 ·exact h2
 ·exact h1
theorem J.nq {T:Type} {f:T->List A} {l:List T} {x y:Option Go.Proofs.YtebkhfhcipnfgaaGreat.R} {kL:Go.Proofs.YtebkhfhcipnfgaaGreat.R->Option ρ} (h:l=[]->x=y) (hy:J φ y kL R K):J φ (aW (.nq (l.map f)) x y) kL R K:=by
 cases l with
 | nil=>
  have e:aW (A.nq (List.map f [])) x y=y:=by
   exact Dh (h rfl)
  rw[e]; exact hy
 | cons a l=>exact hy
theorem sD {P:Program} {t e:TypeId} {T:Type} {f:T->List A} {l:List T} {c:Bool} (h:P.underlying t=some (.slice e)):I1 P t (.imm (l.map f) c)=some (.nq (l.map f)):=by
 unfold I1
 rw[h]
theorem J.gf {x y:Option σ} {b:Bool} (h1:J φ x kL X K) (h2:J φ y kL Y K):J φ (pA (.v (.bool b)) false x y) kL (cond b Y X) K:=by
 cases b
 ·exact h1
 ·exact h2
theorem J.cT {x y:Option σ} {c:Bool} (h:c=true) (h1:J φ x kL R K):J φ (cond c x y) kL R K:=by rw[h]; exact h1
def Tc {T:Type} (i:Int) (a b:T):Option T:=bif decide (i=0) then some a else bif decide (i=1) then some b else none
theorem J.a2 {T:Type} {x:Option τ} {k:τ->Option σ} {i:Int} {f:T->τ} {a b:T} {Y:T->Option α} (h0:i.toNat=0->x=some (f a)) (h1:i.toNat=1->x=some (f b)) (hk:∀ y,J φ (k (f y)) kL (Y y) K):J φ (x.bind k) kL ((Tc i a b).bind Y) K:=by
 unfold Tc
 by_cases h:i=0
 ·rw[h0 (by rw[h]; rfl),XT h]; exact hk a
 ·rw[XZ h]
  by_cases h':i=1
  ·rw[h1 (by rw[h']; rfl),XT h']; exact hk b
  ·rw[XZ h']; intro r hr; cases hr
theorem J.gd {L:Option σ} {b:Bool} (h:b=true->J φ L kL R K):J φ L kL (cond b R none) K:=by
 cases b
 ·intro r hr; cases hr
 ·exact h rfl
theorem J.sp {L:Option σ} {b:Bool} (h1:b=true->J φ L kL X K) (h2:b=false->J φ L kL Y K):J φ L kL (cond b X Y) K:=by
 cases b
 ·exact h2 rfl
 ·exact h1 rfl
theorem J.nn {L:Option σ}:J φ L kL none K:=fun r hr=>by cases hr
theorem J.uc {a:A} {r:List A} {k:A->List A->Option σ} (h:J φ (k a r) kL R K):J φ (bl (a :: r) k) kL R K:=h
theorem J.u4 {a b c d:A} {r:List A} {k:A->A->A->A->List A->Option σ} (h:J φ (k a b c d r) kL R K):J φ (bl (a :: b :: c :: d :: r) fun a l=>bl l fun b l=>bl l fun c l=>bl l fun d l=>k a b c d l) kL R K:=h
theorem jg {β γ:Type} (l:List A) (f:A->List A->Option β) (k:β->Option γ):(bl l f).bind k=bl l fun a r=>(f a r).bind k:=by
 cases l<;>rfl
theorem J.jY {a:A} {f g:A->Option Go.Proofs.YtebkhfhcipnfgaaGreat.R} {kL:Go.Proofs.YtebkhfhcipnfgaaGreat.R->Option ρ} (h:J φ (g a) kL R K):J φ (dL (.pan a) f g) kL R K:=h
theorem J.pk {t:TypeId} {y:A} {k:A->Option σ} (h:J φ (k (.ifc t y)) kL R K):J φ (GS (.ifc t y) k) kL R K:=h
theorem J.ob {b:Bool} {v p:A} {f g:A->Option Go.Proofs.YtebkhfhcipnfgaaGreat.R} {kL:Go.Proofs.YtebkhfhcipnfgaaGreat.R->Option ρ} (h1:J φ (dL (.ret v) f g) kL X K) (h2:J φ (dL (.pan p) f g) kL Y K):J φ (dL (bif b then Out.ret v else Out.pan p) f g) kL (cond b X Y) K:=by
 cases b
 ·exact h2
 ·exact h1
theorem J.lf {s:σ} {x:α} {r:ρ} {y:γ} (h1:kL s=some r) (h2:K x=some y) (h:φ r y):J φ (some s) kL (some x) K:=fun z hz=>by
 rw[XM,h2] at hz
 cases hz
 exact⟨r,h1,h⟩
theorem J.lg {ψ:τ->β->Prop} {s:τ} {x:β} (h:ψ s x):J ψ (some s) some (some x) some:=fun r hr=>by cases hr; exact⟨s,rfl,h⟩
theorem J.lv {T:Type} {f:T->A} {v:A} {H:aC} {y:T} (h:aS H v=f y):J (fun (o:Go.Proofs.YtebkhfhcipnfgaaGreat.R) y=>∃ v,o.1=.ret v/\aS o.2 v=f y) (some (Out.ret v,H)) some (some y) some:=.lf rfl rfl ⟨_,rfl,h⟩
theorem J.cl {x:Option τ} {x':Option τ} {k:τ->Option σ} (h:x=x') (hk:J φ x' (fun r=>(k r).bind kL) R K):J φ (x.bind k) kL R K:=by
 intro r hr
 obtain ⟨s,h1,h2⟩:=hk r hr
 exact⟨s,by rw[Yw,h]; exact h1,h2⟩
theorem J.bb {x:Option τ} {k:τ->Option σ} (h:J φ x (fun r=>(k r).bind kL) R K):J φ (x.bind k) kL R K:=by
 intro r hr
 obtain ⟨s,h1,h2⟩:=h r hr
 exact⟨s,by rw[Yw]; exact h1,h2⟩
theorem J.as {L:Option σ} {X:Option β} {Y:β->Option α} (h:J φ L kL X (fun x=>(Y x).bind K)):J φ L kL (X.bind Y) K:=by
 intro r hr
 rw[Yw] at hr
 exact h r hr
theorem J.un {L:Option σ} {K':γ->Option γ} (hK:K'=some) (h:J φ L kL R K):J φ L kL (R.bind K) K':=by
 intro r hr
 subst hK
 exact h r (by simpa using hr)
theorem J.ex {L:Option σ} {x:α} (h:J φ L kL (K x) some):J φ L kL (some x) K:=by
 intro r hr
 exact h r (by simpa using hr)
theorem J.lp {L:Option σ} {L':Option σ} (h:L=L') (hk:J φ L' kL R K):J φ L kL R K:=h ▸ hk
theorem J.gU {x y:Option σ} {w:Bool} (h:J φ y kL R K):J φ (pA (.v undef) w x y) kL R K:=h
theorem J.ok {a:A} {f g:A->Option Go.Proofs.YtebkhfhcipnfgaaGreat.R} {kL:Go.Proofs.YtebkhfhcipnfgaaGreat.R->Option ρ} (h:J φ (f a) kL R K):J φ (dL (.ret a) f g) kL R K:=h
theorem J.cr {s:τ} {k:τ->Option σ} (h:J φ (k s) kL R K):J φ (some s) (fun r=>(k r).bind kL) R K:=h
theorem J.ub {x y:Option σ} {b:Bool} (h:b=true) (h1:J φ x kL R K):J φ (cC (.v (.bool b)) x y) kL R K:=by subst h; exact h1
theorem J.tq {x y:Option σ} {b:Bool} (h:b=false) (h1:J φ y kL R K):J φ (cC (.v (.bool b)) x y) kL R K:=by subst h; exact h1
theorem J.EW {x y:Option τ} {k:τ->Option σ} {b:Bool} (h1:b=true->J φ (x.bind k) kL X K) (h2:b=false->J φ (y.bind k) kL Y K):J φ ((pA (.v (.bool b)) true x y).bind k) kL (cond b X Y) K:=by
 cases b
 ·exact h2 rfl
 ·exact h1 rfl
theorem J.HY {x y:Option τ} {k:τ->Option σ} {b:Bool} (h1:b=false->J φ (x.bind k) kL X K) (h2:b=true->J φ (y.bind k) kL Y K):J φ ((pA (.v (.bool b)) false x y).bind k) kL (cond b Y X) K:=by
 cases b
 ·exact h1 rfl
 ·exact h2 rfl
theorem de {β:Type} {x y:Option β} {b:Bool} (h:b=true):pA (.v (.bool b)) true x y=x:=by subst h; rfl
theorem db {β:Type} {x y:Option β} {b:Bool} (h:b=false):pA (.v (.bool b)) true x y=y:=by subst h; rfl
theorem xz {β:Type} {x y:Option β} {b:Bool} (h:b=true):pA (.v (.bool b)) false x y=y:=by subst h; rfl
theorem qu {β:Type} {x y:Option β} {b:Bool} (h:b=false):pA (.v (.bool b)) false x y=x:=by subst h; rfl
def aE:Nat:=1208925819614629174706176
def cI (k:IntKind) (n:Int):List A:=[.v (.int k n)]
def c8 (c:UInt8):List A:=[.v (.int .u8 (c.toNat:Int))]
def cB (b:Bool):List A:=[.v (.bool b)]
def cS (s:ByteArray):List A:=[.v (.string s)]
def cL {T:Type} (f:T->List A) (l:List T):List A:=[.imm (l.map f) false]
def cq {T:Type} (f:T->List A):Prop:=∀ g x,bp g (f x)=f x
theorem cA {T:Type} {f:T->List A} (hf:cq f) (g:Nat->Nat->Nat->A) (l:List T):dh g (l.map f)=l.map f:=by
 induction l with
 | nil=>rfl
 | cons x l ih=>rw[YW,dh,hf,ih]
def dp {T:Type} (f:T->List A):Prop:=∀ L x,bq L (f x)=true
theorem dg {T:Type} {f:T->List A} (hf:dp f) (L:Nat) (l:List T):bk L (l.map f)=true:=by
 induction l with
 | nil=>rfl
 | cons x l ih=>rw[YW,bk,hf,ih]; rfl
theorem mD (k:IntKind):dp (cI k):=fun _ _=>rfl
theorem mB:dp c8:=fun _ _=>rfl
theorem mC:dp cB:=fun _ _=>rfl
theorem mF:dp cS:=fun _ _=>rfl
theorem mE {T:Type} {f:T->List A} (hf:dp f):dp (cL f):=fun L x=>by
 show (bk L (x.map f)&&true)=true
 rw[dg hf]; rfl
theorem sX (g:Nat->Nat->Nat->A):∀ (a b:List A),bp g (a++b)=bp g a++bp g b
 | [],b=>by simp only[YR,bp]
 | x :: a,b=>by simp only[Yz,bp,sX g a b]
theorem tf (L:Nat):∀ (a b:List A),bq L (a++b)=(bq L a&&bq L b)
 | [],b=>by simp only[YR,bq,Yi]
 | x :: a,b=>by simp only[Yz,bq,tf L a b,Bool.and_assoc]
theorem ke (k:IntKind):cq (cI k):=fun _ _=>rfl
theorem eU:cq c8:=fun _ _=>rfl
theorem my:cq cB:=fun _ _=>rfl
theorem mA:cq cS:=fun _ _=>rfl
theorem mz {T:Type} {f:T->List A} (hf:cq f):cq (cL f):=fun g x=>by
 show [cD g (.imm (x.map f) false)]=_
 simp only[cD,cA hf]; rfl
theorem bR:(∀ (H:aC) (a:A),snap H a=cD (iv 4 H) a)/\(∀ (g:Nat->Nat->Nat->A) (b o m:Nat) (c:Bool),cD g (.sl b o m c)=g b o m)/\(∀ (g:Nat->Nat->Nat->A) (els:List (List A)) (c:Bool),cD g (.imm els c)=.imm (dh g els) false)/\(∀ (g:Nat->Nat->Nat->A) (cs:List A),cD g (.agg cs)=.agg (bp g cs))/\(∀ (g:Nat->Nat->Nat->A) (cs:List A),cD g (.tup cs)=.tup (bp g cs))/\(∀ (g:Nat->Nat->Nat->A) (t:TypeId) (x:A),cD g (.ifc t x)=.ifc t (cD g x))/\(∀ (g:Nat->Nat->Nat->A) (k:IntKind) (ks:List Int) (vs:List A),cD g (.mv k ks vs)=.mv k ks (bp g vs))/\(∀ (g:Nat->Nat->Nat->A) (x:Value),cD g (.v x)=.v x)/\(∀ (g:Nat->Nat->Nat->A) (f:Fn),cD g (.fn f [] [])=.fn f [] [])/\(∀ (g:Nat->Nat->Nat->A),bp g []=[])/\(∀ (g:Nat->Nat->Nat->A) (a:A) (as:List A),bp g (a :: as)=cD g a :: bp g as)/\(∀ (g:Nat->Nat->Nat->A),dh g []=[])/\(∀ (g:Nat->Nat->Nat->A) (a:List A) (as:List (List A)),dh g (a :: as)=bp g a :: dh g as)/\(∀ {T:Type} {f:T->List A} (hf:cq f) (g:Nat->Nat->Nat->A) (l:List T),dh g (l.map f)=l.map f)/\(∀ (g:Nat->Nat->Nat->A) (a b:List A),bp g (a++b)=bp g a++bp g b)/\(∀ k,cq (cI k))/\cq c8/\cq cB/\cq cS/\(∀ {T:Type} {f:T->List A} (hf:cq f),cq (cL f)):=
 ⟨fun _ _=>rfl,fun _ _ _ _ _=>rfl,fun _ _ _=>rfl,fun _ _=>rfl,fun _ _=>rfl,fun _ _ _=>rfl,fun _ _ _ _=>rfl,fun _ _=>rfl,fun _ _=>rfl,fun _=>rfl,fun _ _ _=>rfl,fun _=>rfl,fun _ _ _=>rfl,cA,sX,ke,eU,my,mA,mz⟩
def dX {T U:Type} (f:T->U):Prop:=∀ x y,f x=f y->x=y
theorem map_inj {T:Type} {f:T->List A} (hf:dX f):∀ (l l':List T),l.map f=l'.map f↔l=l'
 | [],[]=>r8
 | [],_ :: _=>r8
 | _ :: _,[]=>r8
 | x :: l,y :: l'=>by
  simp only[YW,YJ,map_inj hf l l']
  exact⟨fun h=>⟨hf x y h.1,h.2⟩,fun h=>⟨by rw[h.1],h.2⟩⟩
theorem ux (k:IntKind):dX (cI k):=fun x y h=>by simpa [cI] using h
theorem m8:dX c8:=fun x y h=>by
 simp only[c8,YJ,A.v.injEq,Zc,Z8,ZK] at h
 exact UInt8.toNat_inj.1 o3
noncomputable def bD {X:Type} (e:X->List A) (G:X->Option A) (args:List A):Option A:=open Classical in if h:∃ x,e x=args then G h.choose else none
theorem aL {X:Type} {e:X->List A} (G:X->Option A) (inj:dX e) (x:X):bD e G (e x)=G x:=by
 unfold bD
 have h:∃ y,e y=e x:=⟨x,rfl⟩
 rw[dif_pos h,inj _ _ h.choose_spec]
theorem Eo {X:Type} {e:X->List A} {G:X->Option A} {args:List A} {r:A} (h:bD e G args=some r):∃ x,e x=args/\G x=some r:=by
 unfold bD at h
 split at h
 ·rename_i hx; exact⟨_,hx.choose_spec,h⟩
 ·cases h
theorem dR {X Y:Type} {e:X->List A} {F:X->Option Y} {f:Y->A} {args:List A} {r:A} (h:bD e (fun x=>(F x).map f) args=some r):∃ x y,e x=args/\F x=some y/\f y=r:=by
 obtain ⟨x,hx,h⟩:=Eo h
 simp only[Yu] at h
 obtain ⟨y,hy,h⟩:=h
 exact⟨x,y,hx,hy,h⟩
theorem QV:(∀ {T:Type} (a:T) (as:List T) (b:T) (bs:List T),(a :: as=b :: bs)=(a=b/\as=bs))/\(∀ a b:Value,(A.v a=A.v b)=(a=b))/\(∀ a b:List A,(A.agg a=A.agg b)=(a=b))/\(∀ (a:List (List A)) (c:Bool) (b:List (List A)) (d:Bool),(A.imm a c=A.imm b d)=(a=b/\c=d))/\(∀ (k:IntKind) (n:Int) (k':IntKind) (n':Int),(Value.int k n=Value.int k' n')=(k=k'/\n=n'))/\(∀ a b:Bool,(Value.bool a=Value.bool b)=(a=b))/\(∀ a b:ByteArray,(Value.string a=Value.string b)=(a=b))/\(∀ p:Prop,(p/\True)=p)/\(∀ p:Prop,(True/\p)=p):=
 ⟨fun a as b bs=>YJ a as b bs,fun a b=>A.v.injEq a b,fun a b=>A.agg.injEq a b,fun a c b d=>A.imm.injEq a c b d,fun k n k' n'=>Zc k n k' n',fun a b=>Ze a b,fun a b=>Y7 a b,fun p=>Z8 p,fun p=>ZK p⟩
def eZ (C:Nat->List A->Option A) (k:Nat) (c:List A->Option A):Nat->List A->Option A:=fun j args=>bif Nat.beq j k then c args else C j args
theorem yY {cx:Cx} {n k:Nat} {base:bo} {args:List A} {H:aC} {lo:Nat} (h:Nat.ble cx.P.funcs.size k=false) (h2:fT cx k H=false:=by rfl) (h3:gp cx k H=false:=by rfl):bF cx (n+1) base k args H lo=aF cx (bF cx n base) (bF cx n) n k args H lo:=by
 rw[bF,h,h2,h3]; rfl
theorem bf {cx:Cx} {n k:Nat} {args:List A} {H:aC} {lo:Nat} (h:Nat.ble cx.P.funcs.size k=false) (h2:fT cx k H=false:=by rfl) (h3:gp cx k H=false:=by rfl):dZ cx (n+1) k args H lo=aF cx (dZ cx n) (bF cx n) n k args H lo:=yY h h2 h3
theorem w8 {cx:Cx} {k:Nat}:fT cx k []=false:=by
 unfold fT
 cases hb:Nat.beq (cx.cut k) 0 with
 | true=>rfl
 | false=>cases hk:cx.cut k with
  | zero=>rw[hk] at hb; cases hb
  | succ m=>rfl
theorem vv {cx:Cx} {k:Nat}:gp cx k []=false:=by
 unfold gp
 cases cx.deep k<;>rfl
theorem yZ {cx:Cx} {n k:Nat} {args:List A} {lo:Nat} {r:Go.Proofs.YtebkhfhcipnfgaaGreat.R} (h:aF cx (dZ cx n) (bF cx n) n k args [] lo=some r):dZ cx (n+1) k args [] lo=some r:=by
 refine(bf (ry ?_) w8 vv).trans h
 unfold aF at h
 cases hf:cx.P.funcs[k]? with
 | none=>rw[hf] at h; cases h
 | some fn=>exact(XU.1 hf).1
section
variable {β:Type} {H:aC} {b:Nat} {kn:aC->Option β} {kx kg:Nat->aC->Option β} {kr:aC->Option β}
end
section
variable {cx:Cx} {call:bo} {q lo b:Nat} {first cap args:List A} {H:aC} {k pan:A->aC->Option Go.Proofs.YtebkhfhcipnfgaaGreat.R} {kL:Go.Proofs.YtebkhfhcipnfgaaGreat.R->Option ρ}
theorem J.dC (h1:cK cx.P q=true) (h2:cx.isOrc q=false) (h:J φ ((call q (first++args++cap) H lo).bind fun r=>dL r.1 (fun a=>k a r.2) (fun a=>pan a r.2)) kL R K):J φ (dP cx call (.fn (.func q) first cap) args H lo k pan) kL R K:=by
 unfold dP; simp only[h1,h2,XR,XO]; exact h
theorem J.dO (h1:cK cx.P q=true) (h2:cx.isOrc q=true) (h:J φ ((cx.C q ((first++args++cap).map (snap H))).bind fun a=>k a H) kL R K):J φ (dP cx call (.fn (.func q) first cap) args H lo k pan) kL R K:=by
 unfold dP; simp only[h1,h2,XR]; exact h
end
theorem J.vO {cx:Cx} {call:bo} {q:Nat} {first cap args:List A} {H:aC} {k:A->Option σ} (h1:cK cx.P q=true) (h2:cx.isOrcV q=true) (h:J φ ((cx.C q ((first++args++cap).map (snap H))).bind k) kL R K):J φ (qK cx call (.fn (.func q) first cap) args H k) kL R K:=by
 unfold qK; simp only[h1,h2,XR]; exact h
theorem zy {cx:Cx} (horc:jK cx) (hmx:cx.P.follows .mixedOrders=true) {γ:Type} {n k:Nat} {args:List A} {f:γ->A} {F:Option γ} {y:γ}
  (h:J (fun (o:Go.Proofs.YtebkhfhcipnfgaaGreat.R) y=>∃ v,o.1=.ret v/\aS o.2 v=f y) (aF cx (dZ cx (n+8)) (bF cx (n+8)) (n+8) k args [] 0) some F some) (hF:F=some y):eQ cx.P cx.glob k args (f y):=by
 obtain ⟨s,h1,v,h2,h3⟩:=h y (by rw[hF]; rfl)
 obtain ⟨o,H⟩:=s
 have h2:o=.ret v:=h2
 subst h2
 rw[show ∀ x:Option Go.Proofs.YtebkhfhcipnfgaaGreat.R,x.bind some=x from fun x=>by cases x<;>rfl] at h1
 have h1:dZ cx (n+9) k args [] 0=some (.ret v,H):=yZ h1
 have:=o8 horc hmx h1
 rwa [show aS H v=f y from h3] at this
abbrev wr (k:IntKind) (n:Int):Int:=k.wrap n
def oK (k:IntKind) (x y:Int):Int:=k.wrap (x*2 ^ (min y.toNat k.bits))
def jB (k:IntKind) (x y:Int):Int:=x.fdiv (2 ^ (min y.toNat k.bits))
def oW (k:IntKind) (x y:Int):Int:=k.wrap ((BitVec.ofInt k.bits x &&& BitVec.ofInt k.bits y).toNat:Int)
def mJ (k:IntKind) (x y:Int):Int:=k.wrap ((BitVec.ofInt k.bits x ||| BitVec.ofInt k.bits y).toNat:Int)
def qN (k:IntKind) (x y:Int):Int:=k.wrap ((BitVec.ofInt k.bits x ^^^ BitVec.ofInt k.bits y).toNat:Int)
section
variable {P:Program} {t:TypeId} {i j:Bool} {k k2:IntKind} {a b:Int}
theorem rh (hb:0<=b):jX P .shl t i j (.v (.int k a)) (.v (.int k2 b))=some (.v (.int k (oK k a b))):=by
 have h:cJ P (do eqGuard .shl t (rep i) (rep j) (.int k a) (.int k2 b); binOp .shl t (.int k a) (.int k2 b))=some (.int k (oK k a b)):=by
  show cJ P (binOp .shl t (.int k a) (.int k2 b))=_
  simp only[binOp,Op.shift,XW (Int.not_lt.2 hb)]; rfl
 show (cJ P _).map xP=_
 rw[h]; rfl
theorem jM (hb:0<=b):jX P .shr t i j (.v (.int k a)) (.v (.int k2 b))=some (.v (.int k (jB k a b))):=by
 have h:cJ P (do eqGuard .shr t (rep i) (rep j) (.int k a) (.int k2 b); binOp .shr t (.int k a) (.int k2 b))=some (.int k (jB k a b)):=by
  show cJ P (binOp .shr t (.int k a) (.int k2 b))=_
  simp only[binOp,Op.shift,XW (Int.not_lt.2 hb)]; rfl
 show (cJ P _).map xP=_
 rw[h]; rfl
theorem nM:jX P .and t i j (.v (.int k a)) (.v (.int k b))=some (.v (.int k (oW k a b))):=by
 have h:cJ P (do eqGuard .and t (rep i) (rep j) (.int k a) (.int k b); binOp .and t (.int k a) (.int k b))=some (.int k (oW k a b)):=by
  show cJ P (binOp .and t (.int k a) (.int k b))=_
  simp only[binOp,ne_eq,Z9,Z7,Op.intBits]; rfl
 show (cJ P _).map xP=_
 rw[h]; rfl
theorem gV:jX P .or t i j (.v (.int k a)) (.v (.int k b))=some (.v (.int k (mJ k a b))):=by
 have h:cJ P (do eqGuard .or t (rep i) (rep j) (.int k a) (.int k b); binOp .or t (.int k a) (.int k b))=some (.int k (mJ k a b)):=by
  show cJ P (binOp .or t (.int k a) (.int k b))=_
  simp only[binOp,ne_eq,Z9,Z7,Op.intBits]; rfl
 show (cJ P _).map xP=_
 rw[h]; rfl
theorem nN:jX P .xor t i j (.v (.int k a)) (.v (.int k b))=some (.v (.int k (qN k a b))):=by
 have h:cJ P (do eqGuard .xor t (rep i) (rep j) (.int k a) (.int k b); binOp .xor t (.int k a) (.int k b))=some (.int k (qN k a b)):=by
  show cJ P (binOp .xor t (.int k a) (.int k b))=_
  simp only[binOp,ne_eq,Z9,Z7,Op.intBits]; rfl
 show (cJ P _).map xP=_
 rw[h]; rfl
end
theorem fA {n:Int} (h:(decide (0<=n)&&decide (n<256))=true):((UInt8.ofNat n.toNat).toNat:Int)=n:=by
 simp only[XQ,XV] at h
 rw[UInt8.toNat_ofNat',qaf o3]
 omega
def bL {T:Type} (l:List T) (i:Int):Option T:=bif decide (0<=i) then l[i.toNat]? else none
def imm {T:Type} (f:T->List A) (l:List T):A:=.imm (l.map f) false
theorem Fu {P:Program} {t e:TypeId} {es:Nat} {T:Type} (f:T->List A) (l:List T) (c:Bool) (k:IntKind) (i:Int) (H:aC) (h1:P.underlying t=some (.slice e)) (h2:cQ P e=some es) (h3:∀ x,(f x).length=es) :
  dj P t (.imm (l.map f) c) (.v (.int k i)) H=(bL l i).map fun x=>.ip (f x):=by
 unfold dj idx bL
 rw[h1]
 by_cases hi:0<=i
 ·simp only[hi,Y6,XR,XM,gw,h2,Yq]
  cases l[i.toNat]? with
  | none=>rfl
  | some x=>simp[h3]
 ·simp only[hi,Zp,XO,qav,Option.map_none]
theorem FB {P:Program} {t e:TypeId} {T:Type} (f:T->List A) (l:List T) (c:Bool) (H:aC) (h1:P.underlying t=some (.slice e)):rk P t (.imm (l.map f) c) H=some (.v (.int .i64 l.length)):=by
 unfold rk
 rw[h1]
 simp[gw]
section
variable {P:Program} {t e es by_:Nat} {T:Type} {f:T->List A}
def fk (l:List T) (lo hi:Int):Option (List T):=bif decide (0<=lo)&&decide (lo<=hi)&&decide (hi<=l.length) then some ((l.drop lo.toNat).take (hi.toNat - lo.toNat)) else none
def cz (b:Nat) (l l2:List T):Option (List T):=bif decide ((l.length+l2.length)*b<=dF) then some (l++l2) else none
def kJ (f:T->List A):Prop:=∀ x,(f x).all A.cell=true
theorem Li (k:IntKind):kJ (cI k):=fun _=>rfl
theorem HS:kJ c8:=fun _=>rfl
theorem ue (hl:∀ x,(f x).length=es) (hc:kJ f) (l:List T):((l.map f).all fun cs=>cs.length==es&&cs.all A.cell)=true:=by
 rw[List.all_map]
 exact X0.2 fun x _=>by simp[hl,hc x]
def oO (H:aC) (y:A) (f:T->List A) (l:List T):Prop:=els? H y=some (l.map f)
theorem bC (l:List T) (c:Bool) (H:aC):oO H (.imm (l.map f) c) f l:=rfl
theorem qQ (s:ByteArray) (H:aC):oO H (.v (.string s)) c8 s.data.toList:=rfl
theorem vy {P:Program} {H:aC} {t2 by_:Nat} {z:List A} {y:A} (h:kC P t2=true):yV P H t2 by_ z y=els? H y:=by unfold yV; rw[h]; rfl
theorem pV (hl:∀ x,(f x).length=es) (hc:kJ f) (h0:es≠0) (hb:by_≠0) {z:List A} (hz:z.length=es) (l2:List T) :
  (es==0 || by_==0 || !(z.length==es) || !((l2.map f).all fun cs=>cs.length==es&&cs.all A.cell))=false:=by
 rw[ue hl hc]
 simp[h0,hb,hz]
theorem Fc {t2:Nat} {z:List A} (h1:kb P t=some e) (h2:cQ P e=some es) (h3:jN P e=some by_) (h4:gR P e=some z) (hz:z.length=es) (h0:es≠0) (hb:by_≠0) (hn:kC P t2=true)
  (hl:∀ x,(f x).length=es) (hc:kJ f) {H:aC} {lo:Nat} {l l2:List T} {y:A} (hy:oO H y f l2) :
  bK P t t2 false (.imm (l.map f) true) y H lo=(cz by_ l l2).map fun r=>(.sl H.length 0 r.length false,H++[.row false es (r.map f)]):=by
 unfold bK
 rw[h1,XM,h2,XM,h3,XM,h4,XM,vy hn,show els? H y=_ from hy,XM,pV hl hc h0 hb hz,XO]
 simp only[Zx,qbg,XO,ue hl hc,XR,cz]
 cases decide ((l.length+l2.length)*by_<=dF)<;>simp
theorem Fe {t2:Nat} {z:List A} (h1:kb P t=some e) (h2:cQ P e=some es) (h3:jN P e=some by_) (h4:gR P e=some z) (hz:z.length=es) (h0:es≠0) (hb:by_≠0) (hn:kC P t2=true)
  (hl:∀ x,(f x).length=es) (hc:kJ f) {wr:Bool} {H:aC} {lo b:Nat} {l l2:List T} {y:A} (hH:H[b]? = some (.row false es (l.map f))) (hlo:lo<=b) (hy:oO H y f l2) :
  bK P t t2 wr (.sl b 0 l.length false) y H lo=(cz by_ l l2).map fun r=>(.sl b 0 r.length false,H.set b (.row false es (r.map f))):=by
 unfold bK
 rw[h1,XM,h2,XM,h3,XM,h4,XM,vy hn,show els? H y=_ from hy,XM,pV hl hc h0 hb hz,XO]
 simp only[hH,Zx,cz]
 cases hd:decide ((l.length+l2.length)*by_<=dF)<;>simp[hlo]
structure wv (P:Program) (t t2 e es by_:Nat) (z:List A) (f:T->List A):Prop where
 h1:kb P t=some e
 h2:cQ P e=some es
 h3:jN P e=some by_
 h4:gR P e=some z
 hz:z.length=es
 h0:es≠0
 hb:by_≠0
 hn:kC P t2=true
 hl:∀ x,(f x).length=es
 hc:kJ f
theorem jk {t2:Nat} {z:List A} (a:wv P t t2 e es by_ z f) {H:aC} {lo:Nat} {l l2:List T} {y:A} (hy:oO H y f l2) :
  bK P t t2 false (.imm (l.map f) true) y H lo=(cz by_ l l2).map fun r=>(.sl H.length 0 r.length false,H++[.row false es (r.map f)]):=Fc a.h1 a.h2 a.h3 a.h4 a.hz a.h0 a.hb a.hn a.hl a.hc hy
theorem cj {t2:Nat} {z:List A} (a:wv P t t2 e es by_ z f) {wr:Bool} {H:aC} {lo b:Nat} {l l2:List T} {y:A} (hH:H[b]? = some (.row false es (l.map f))) (hlo:lo<=b) (hy:oO H y f l2) :
  bK P t t2 wr (.sl b 0 l.length false) y H lo=(cz by_ l l2).map fun r=>(.sl b 0 r.length false,H.set b (.row false es (r.map f))):=Fe a.h1 a.h2 a.h3 a.h4 a.hz a.h0 a.hb a.hn a.hl a.hc hH hlo hy
theorem BE {d:Nat} {k:IntKind} {n:Int}:kD d (some (.v (.int k n)))=bif decide (0<=n) then some n.toNat else none:=rfl
theorem eP {P:Program} {t e:TypeId} {es:Nat} {T:Type} {f:T->List A} {l:List T} {c:Bool} {k:IntKind} {i:Int} {H:aC} (h1:P.underlying t=some (.slice e):=by kernel_rfl) (h2:cQ P e=some es:=by kernel_rfl) (h3:∀ x,(f x).length=es:=by exact fun _=>rfl) :
  dj P t (.imm (l.map f) c) (.v (.int k i)) H=(bL l i).map fun x=>.ip (f x):=Fu f l c k i H h1 h2 h3
theorem ef {P:Program} {t e:TypeId} {T:Type} {f:T->List A} {l:List T} {c:Bool} {H:aC} (h1:P.underlying t=some (.slice e):=by kernel_rfl):rk P t (.imm (l.map f) c) H=some (.v (.int .i64 l.length)):=FB f l c H h1
theorem gY (h1:P.underlying t=some (.slice e)) (h2:cQ P e=some es) (hl:∀ x,(f x).length=es) {H:aC} {l:List T} {lo hi:Option A} {a b:Int} (ha:(lo=none/\a=0)∨∃ k,lo=some (.v (.int k a))) (hb:(hi=none/\b=l.length)∨∃ k,hi=some (.v (.int k b))) :
  dA P t (.imm (l.map f) false) lo hi none H=(fk l a b).map fun r=>.imm (r.map f) false:=by
 unfold dA
 rw[h1]
 simp only[h2,XM,Zx,qbg]
 have e1:kD l.length hi=bif decide (0<=b) then some b.toNat else none:=by
  rcases hb with ⟨rfl,rfl⟩ | ⟨k,rfl⟩
  ·simp[kD]
  ·rfl
 have e2:kD 0 lo=bif decide (0<=a) then some a.toNat else none:=by
  rcases ha with ⟨rfl,rfl⟩ | ⟨k,rfl⟩
  ·simp[kD]
  ·rfl
 have e3:∀ i:Nat,(i==0 || match (l.map f)[i]? with | some cs=>cs.length==es | none=>true)=true:=fun i=>by
  rw[Yq]
  cases l[i]?<;>simp[hl]
 rw[e1,e2]
 unfold fk
 by_cases hb0:0<=b
 ·by_cases ha0:0<=a
  ·have q1:(decide (a.toNat<=b.toNat))=decide (a<=b):=by rw[qaw]; omega
   have q2:(decide (b.toNat<=l.length))=decide (b<=(l.length:Int)):=XG
   simp only[hb0,ha0,Y6,XR,XM,Yi,q1,q2,ZX,qas]
   have e4:=e3 a.toNat
   rw[Yq] at e4 ⊢
   cases hx:l[a.toNat]?<;>rw[hx] at e4<;>cases (decide (a<=b)&&decide (b<=(l.length:Int)))<;>simp[hl]
  ·simp[hb0,ha0]
 ·have:(decide (0<=a)&&decide (a<=b)&&decide (b<=(l.length:Int)))=false:=by
   rw[ZQ]; intro hh; simp only[XQ,XV] at hh; omega
  simp[hb0,this]
theorem mS (h1:P.underlying t=some (.slice e)) (h2:cQ P e=some es) (hl:∀ x,(f x).length=es) {H:aC} {l:List T} {lo:Option A} {a b:Int} {k1 k2:IntKind} {c:Bool} (ha:(lo=none/\a=0)∨∃ k,lo=some (.v (.int k a))) :
  dA P t (.imm (l.map f) c) lo (some (.v (.int k1 b))) (some (.v (.int k2 b))) H=(fk l a b).map fun r=>.imm (r.map f) true:=by
 unfold dA
 rw[h1]
 simp only[h2,XM,Zx,BE,idx]
 have e2:kD 0 lo=bif decide (0<=a) then some a.toNat else none:=by
  rcases ha with ⟨rfl,rfl⟩ | ⟨k,rfl⟩
  ·simp[kD]
  ·rfl
 have e3:∀ i:Nat,(i==0 || match (l.map f)[i]? with | some cs=>cs.length==es | none=>true)=true:=fun i=>by
  rw[Yq]
  cases l[i]?<;>simp[hl]
 rw[e2]
 unfold fk
 by_cases hb0:0<=b
 ·by_cases ha0:0<=a
  ·have q1:(decide (a.toNat<=b.toNat))=decide (a<=b):=by rw[qaw]; omega
   have q2:(decide (b.toNat<=l.length))=decide (b<=(l.length:Int)):=XG
   simp only[hb0,ha0,Y6,XR,XM,Yi,q1,q2,ZX,qas,Y5]
   rw[Yq]
   cases hx:l[a.toNat]?<;>cases (decide (a<=b)&&decide (b<=(l.length:Int)))<;>simp[hl]
  ·simp[hb0,ha0]
 ·have:(decide (0<=a)&&decide (a<=b)&&decide (b<=(l.length:Int)))=false:=by
   rw[ZQ]; intro hh; simp only[XQ,XV] at hh; omega
  simp[hb0,this]
theorem nG (hf:cq f) {H:aC} {b n:Nat} {l:List T} (h:H[b]? = some (.row false es (l.map f))):iv (n+1) H b 0 l.length=.imm (l.map f) false:=by
 unfold iv
 rw[h]
 simp only[Yn]
 rw[YA r8,cA hf]
theorem bI (hf:cq f) {H:aC} {b n:Nat} {wr:Bool} {l:List T} (h:H[b]? = some (.row wr es (l.map f))):iE (n+1) H b 0 l.length=.imm (l.map f) false:=by
 unfold iE
 rw[h]
 simp only[Yn]
 rw[YA r8,cA hf]
theorem fO (hf:cq f) {H:aC} {b n o m:Nat} {wr:Bool} {l:List T} (h:H[b]? = some (.row wr es (l.map f))):iE (n+1) H b o m=.imm (((l.drop o).take m).map f) false:=by
 unfold iE
 rw[h]
 simp only[<-qas,<-ZX]
 rw[cA hf]
def l0 (n:Nat) (i:Int):Option Nat:=bif decide (0<=i)&&decide (i<n) then some i.toNat else none
def oz (l:List T) (i:Nat) (u:T->T):Option (List T):=match l[i]? with | some y=>some (l.set i (u y)) | none=>none
def RW (b:Nat) (n:Int) (z:T):Option (List T):=bif decide (0<=n)&&decide (n*b<=dF)&&decide (n<=dF) then some (List.replicate n.toNat z) else none
theorem Ft {n:Nat} {i:Int}:(bif decide (0<=i) then some i.toNat else none:Option Nat).bind (fun j=>bif decide (j<n) then some j else none)=l0 n i:=by
 unfold l0
 by_cases h:0<=i
 ·have:decide (i.toNat<n)=decide (i<n):=by rw[qaw]; omega
  simp[h,this]
 ·simp[h]
theorem EM {H:aC} {b o n:Nat} {l:List T} {c:Bool} {k:IntKind} {i:Int} (h1:P.underlying t=some (.slice e)) (h2:cQ P e=some es) (h:H[b]? = some (.row true es (l.map f))) :
  dj P t (.sl b o n c) (.v (.int k i)) H=(l0 n i).map fun j=>.ep b (o+j) 0:=by
 unfold dj idx
 rw[h1,<-Ft]
 by_cases hi:0<=i
 ·simp only[hi,Y6,XR,XM,gw,h2,h,Y5]
  cases decide (i.toNat<n)<;>rfl
 ·simp only[hi,Zp,XO,qav,Option.map_none]
theorem jF {H:aC} {b n:Nat} {l:List T} {c:Bool} {k:IntKind} {i:Int} (h1:P.underlying t=some (.slice e)) (h2:cQ P e=some es) (h:H[b]? = some (.row true es (l.map f))) :
  dj P t (.sl b 0 n c) (.v (.int k i)) H=(l0 n i).map fun j=>.ep b j 0:=by
 rw[EM h1 h2 h]
 cases l0 n i<;>simp
theorem BO {H:aC} {b i o n:Nat} {l:List T} {g:T->A} (h2:cQ P t=some n) (h0:n≠0) (hl:∀ x,(f x).length=es) (ho:o+n<=es) (h:H[b]? = some (.row true es (l.map f))) (hg:∀ x,join P t (((f x).drop o).take n)=some (g x)) :
  lh P t (.ep b i o) H=(l[i]?).map g:=by
 unfold lh
 rw[h2,XM]
 have:(n==0)=false:=by simpa using h0
 simp only[this,XO,h,Yq]
 cases l[i]? with
 | none=>rfl
 | some x=>simp only[YH,hl,XT ho,XR,hg]
theorem jW {H:aC} {b i o n lo:Nat} {l:List T} {x:A} {xs:List A} {u:T->T} (h2:cQ P t=some n) (hx:x.cells? = some xs) (h0:n≠0) (hxl:xs.length=n) (hl:∀ x,(f x).length=es) (ho:o+n<=es) (hlo:lo<=b) (h:H[b]? = some (.row true es (l.map f))) (hu:∀ y,bz (f y) o xs=f (u y)) :
  ji P t (.ep b i o) x H lo=(oz l i u).map fun r=>H.set b (.row true es (r.map f)):=by
 unfold ji oz
 rw[h2,XM,hx,XM]
 have:(n==0 || !(xs.length==n))=false:=by simp[h0,hxl]
 simp only[this,XO,h,Yq]
 cases l[i]? with
 | none=>rfl
 | some y=>simp only[YH,hl,XT ho,XT hlo,Zq,XR,hu,List.map_set]
theorem zK {H:aC} {k1 k2:IntKind} {n:Int} {z:T} (h1:kb P t=some e) (h2:cQ P e=some es) (h3:jN P e=some by_) {z':List A} (h4:gR P e=some z') (hz:z'.map wk=f z) (h0:es≠0) (hl:∀ x,(f x).length=es) :
  gW P t (.v (.int k1 n)) (.v (.int k2 n)) H=(RW by_ n z).map fun r=>(.imm (r.map f) false,H):=by
 unfold gW RW idx
 rw[h1,XM,h2,XM,h3,XM,h4,XM]
 have hzl:z'.length=es:=by have:=hl z; rw[<-hz] at this; simpa using this
 by_cases hn:0<=n
 ·have e1:decide (n.toNat*by_<=dF)=decide (n*by_<=dF):=by
   obtain ⟨m,rfl⟩:∃ m:Nat,n=m:=⟨n.toNat,o3⟩
   rw[qaw,Y9]
   exact⟨fun h=>by exact_mod_cast h,fun h=>by exact_mod_cast h⟩
  have e2:decide (n.toNat<=dF)=decide (n<=dF):=XG
  simp only[hn,Y6,XR,XM,hz,hzl,Y5,X7,qbn,e1,e2,Yi]
  have:(es==0)=false:=by simpa using h0
  rw[this]
  cases decide (n*by_<=dF)<;>cases decide (n<=dF)<;>simp
 ·simp[hn]
theorem lN {t2:Nat} {z:List A} (h1:kb P t=some e) (h2:cQ P e=some es) (h3:jN P e=some by_) (h4:gR P e=some z) (hz:z.length=es) (h0:es≠0) (hb:by_≠0) (hn:kC P t2=true)
  (hl:∀ x,(f x).length=es) (hc:kJ f) {H:aC} {lo:Nat} {l2:List T} {y:A} (hy:oO H y f l2) :
  bK P t t2 true (.imm [] true) y H lo=(cz by_ [] l2).map fun r=>(.sl H.length 0 r.length false,H++[.row true es (r.map f)]):=by
 unfold bK
 rw[h1,XM,h2,XM,h3,XM,h4,XM,vy hn,show els? H y=_ from hy,XM,pV hl hc h0 hb hz,XO]
 simp only[Z3,Zx,YB,List.isEmpty_nil,Zq,XR,cz,YR]
 cases decide (l2.length*by_<=dF)<;>simp
theorem DJ (hf:cq f) {H:aC} {b o n lo:Nat} {c:Bool} {l:List T} (h:H[b]? = some (.row true es (l.map f))) (hlo:lo<=b):mP lo (.sl b o n c) H=some (.imm (((l.drop o).take n).map f) false,H.set b .dead):=by
 unfold mP
 simp only[h,XT hlo,XR,<-qas,<-ZX,cA hf]
end
def gn (l:List UInt8):ByteArray:=⟨l.toArray⟩
def ln (s:ByteArray):List UInt8:=s.data.toList
theorem rz:∀ l:List UInt8,bytesOf (l.map c8)=some l
 | []=>rfl
 | a :: l=>by
  rw[YW]
  show (bytesOf (l.map c8)).map (((a.toNat:Int).toNat.toUInt8) :: ·)=_
  rw[rz l]
  simp
theorem nw {P:Program} {s d e:Nat} (h1:P.underlying s=some (.slice e)) (h2:P.underlying d=some .string) (h3:P.underlying e=some (.int .u8)) (h4:cQ P e=some 1) {H:aC} {x:A} {l:List UInt8} (hx:oO H x c8 l) (hn:xc H x=els? H x) :
  bt P s d x H=some (.v (.string (gn l))):=by
 unfold bt
 rw[h1,h2]
 simp only[h3,h4,hn]
 rw[show els? H x=_ from hx,XM,rz]
 rfl
def EF (y:Nat):A:=bif Nat.beq y 0 then .v .nilFunc else .fn (.func y) [] []
theorem zG (L e:Nat):A.under L (EF e)=true:=by unfold EF; cases Nat.beq e 0<;>rfl
theorem ig:(∀ (L e:Nat),A.under L (EF e)=true)/\(∀ {T:Type} {f:T->List A} (hf:dp f) (L:Nat) (l:List T),bk L (l.map f)=true)/\(∀ (L:Nat) (a b:List A),bq L (a++b)=(bq L a&&bq L b))/\(∀ k,dp (cI k))/\dp c8/\dp cB/\dp cS/\(∀ {T:Type} {f:T->List A} (hf:dp f),dp (cL f))/\(∀ b:Bool,(b&&true)=b)/\(∀ b:Bool,(true&&b)=b)/\(∀ {β:Type} (x y:β),(bif true then x else y)=x):=
 ⟨zG,dg,tf,mD,mB,mC,mF,mE,fun b=>YY b,fun b=>Yi b,fun _ _=>rfl⟩
theorem uB:(∀ (L:Nat) (cs:List A),aO.under L (.box cs)=bq L cs)/\(∀ (L:Nat) (b:Bool) (e:Nat) (l:List (List A)),aO.under L (.row b e l)=bk L l)/\(∀ (L:Nat) (r:E9),aO.under L (.rng r)=true)/\(∀ L:Nat,aO.under L .dead=true)/\(∀ (L:Nat) (k:IntKind) (ks:List Int) (vs:List A),aO.under L (.mp k ks vs)=bq L vs) ∧
  (∀ L:Nat,bq L []=true)/\(∀ (L:Nat) (a:A) (as:List A),bq L (a :: as)=(A.under L a&&bq L as))/\(∀ L:Nat,bk L []=true)/\(∀ (L:Nat) (a:List A) (as:List (List A)),bk L (a :: as)=(bq L a&&bk L as)) ∧
  (∀ L:Nat,A.under L .any=true)/\(∀ (L:Nat) (v:Value),A.under L (.v v)=true)/\(∀ L b o:Nat,A.under L (.ptr b o)=decide (b<L))/\(∀ L b i o:Nat,A.under L (.ep b i o)=decide (b<L))/\(∀ (L b o n:Nat) (c:Bool),A.under L (.sl b o n c)=decide (b<L))/\(∀ L b:Nat,A.under L (.mr b)=decide (b<L)) ∧
  (∀ (L:Nat) (cs:List A),A.under L (.ip cs)=bq L cs)/\(∀ (L:Nat) (cs:List A),A.under L (.agg cs)=bq L cs)/\(∀ (L:Nat) (cs:List A),A.under L (.tup cs)=bq L cs)/\(∀ (L:Nat) (l:List (List A)) (c:Bool),A.under L (.imm l c)=bk L l)/\(∀ (L:Nat) (f:Fn) (a b:List A),A.under L (.fn f a b)=(bq L a&&bq L b))/\(∀ (L:Nat) (t:TypeId) (x:A),A.under L (.ifc t x)=A.under L x) ∧
  (∀ f:aO->Bool,[].all f=true)/\(∀ (f:aO->Bool) (b:aO) (H:aC),(b :: H).all f=(f b&&H.all f)):=by
 refine⟨?_,?_,?_,?_,?_,?_,?_,?_,?_,?_,?_,?_,?_,?_,?_,?_,?_,?_,?_,?_,?_,?_,?_⟩<;>intros<;>first | rfl | (simp only[aO.under,A.under,bq,bk]; done)
theorem fa {L:Nat} {H H':aC} (h:H.take L=H') (hu:H'.all (aO.under L)=true):trim L H=some H':=by
 unfold trim
 rw[h,hu]
 cases hL:H.length==L with
 | false=>rfl
 | true=>rw[<-h,YA (qam (eq_of_beq hL))]; rfl
theorem J.ds {cx:Cx} {call:bo} {e:Nat} (q:Nat) {args:List A} {H:aC} {lo:Nat} {k pan:A->aC->Option Go.Proofs.YtebkhfhcipnfgaaGreat.R} {kL:Go.Proofs.YtebkhfhcipnfgaaGreat.R->Option ρ} (h:decide (e=q)=true) (hq:Nat.beq q 0=false)
  (hk:J φ (dP cx call (.fn (.func q) [] []) args H lo k pan) kL R K):J φ (dP cx call (EF e) args H lo k pan) kL R K:=by
 rw[XY h]
 unfold EF
 rw[hq]
 exact hk
abbrev iA (n:Int):A:=A.v (Value.int .i64 n)
abbrev uA (n:Int):A:=A.v (Value.int .u8 n)
abbrev bA (b:Bool):A:=A.v (Value.bool b)
theorem Dm {β:Type} {cx:Cx} {k m n lo:Nat} {args:List A} {H5 X:aC} {Y:Option β} {o:β->Out} {H':β->aC} (hk:Nat.ble cx.P.funcs.size k=false) (hm:cx.cut k=m) (hm0:Nat.beq m 0=false) (hl:H5.length=m) (ha:bq m args=true) (hh:H5.all (aO.under m)=true)
  (hl':∀ y,(H' y).length=m) (hv:∀ y,lG m (o y)=true) (hh':∀ y,(H' y).all (aO.under m)=true) (h:J (fun (r:Out×aC) y=>∃ Z,r=(o y,H' y++Z)) (aF cx (dZ cx n) (bF cx n) n k args H5 lo) some Y some) :
  J (fun (r:Out×aC) y=>r=(o y,H' y++X)) (dZ cx (n+1) k args (H5++X) lo) some Y some:=by
 intro r hr
 obtain ⟨s,h1,Z,rfl⟩:=h r hr
 refine⟨_,?_,rfl⟩
 have h2:aF cx (bF cx n EY) (bF cx n) n k args H5 lo=some (o r,H' r++Z):=by
  rw[Option.bind_fun_some] at h1
  exact h1
 have hc:fT cx k (H5++X)=true:=by
  unfold fT
  rw[hm,hm0,YU XH]
  rfl
 have hc2:cutAt cx k (H5++X)=m:=by
  unfold cutAt
  rw[hm,YU XH]
  rfl
 have t1:(H5++X).take m=H5:=by rw[<-hl,List.take_left]
 have t2:(H5++X).drop m=X:=by rw[<-hl,List.drop_left]
 have t3:(H' r++Z).take m=H' r:=by rw[<-hl' r,List.take_left]
 have t4:Nat.ble m (H' r++Z).length=true:=YU (by rw[X9,hl']; omega)
 unfold dZ
 rw[bF,hk,hc]
 simp only[XR,XO]
 unfold nx
 rw[hc2,t1,t2,ha,hh]
 show ((bif true&&true then (aF cx (bF cx n EY) (bF cx n) n k args H5 lo).bind _ else none).bind some)=_
 rw[h2]
 simp only[Zq,XR,XM,t4,t3,hh',hv]
def pJ {β:Type} (m:Nat) (r:Go.Proofs.YtebkhfhcipnfgaaGreat.R) (k:Go.Proofs.YtebkhfhcipnfgaaGreat.R->Option β):Option β:=bif Nat.ble m r.2.length&&(r.2.take m).all (aO.under m)&&lG m r.1 then k (r.1,r.2.take m) else none
theorem J.td {m:Nat} {x:Option Go.Proofs.YtebkhfhcipnfgaaGreat.R} {k:Go.Proofs.YtebkhfhcipnfgaaGreat.R->Option σ} (h:J φ x (fun r=>(pJ m r k).bind kL) R K):J φ ((x.bind fun r=>pJ m r some).bind k) kL R K:=by
 refine J.lp ?_ (J.bb h)
 cases x with
 | none=>rfl
 | some r=>
  show (pJ m r some).bind k=pJ m r k
  unfold pJ
  cases Nat.ble m r.2.length&&(r.2.take m).all (aO.under m)&&lG m r.1<;>rfl
theorem J.VZ {m k n lo:Nat} {cx:Cx} {base:bo} {args:List A} {H:aC} {x:Option Go.Proofs.YtebkhfhcipnfgaaGreat.R} {k':Go.Proofs.YtebkhfhcipnfgaaGreat.R->Option σ} (h:bF cx (n+1) base k args H lo=x.bind fun r=>pJ m r some) (hk:J φ x (fun r=>(pJ m r k').bind kL) R K):J φ ((bF cx (n+1) base k args H lo).bind k') kL R K:=J.lp (YF (fun z=>Option.bind z k') h) (J.td hk)
theorem J.ct {m k n lo:Nat} {cx:Cx} {args:List A} {H:aC} {x:Option Go.Proofs.YtebkhfhcipnfgaaGreat.R} {k':Go.Proofs.YtebkhfhcipnfgaaGreat.R->Option σ} (h:bF cx (n+1) EY k args H lo=x.bind fun r=>pJ m r some) (hk:J φ x (fun r=>(pJ m r k').bind kL) R K):J φ ((dZ cx (n+1) k args H lo).bind k') kL R K:=J.VZ h hk
theorem AW {α:Type} (x:α):∀ (a l:List α) (b:Nat),a.length<=b->(a++l).set b x=a++l.set (b - a.length) x
 | [],l,b,_=>rfl
 | y :: a,l,0,h=>by simp at h
 | y :: a,l,b+1,h=>by
  rw[Yz,List.set_cons_succ,AW x a l b (by simpa using h),X8,Nat.add_sub_add_right,Yz]
theorem gm {o:Out} {lo off b p:Nat} {H2 X:aC} (h:H2.length<=b):∃ Z,(o,eM lo off 0 (.ptr b p) (H2++X))=(o,H2++Z):=by
 have key:∃ Z,eM lo off 0 (.ptr b p) (H2++X)=H2++Z:=by
  unfold eM
  simp only[]
  split
  ·split
   ·cases decide (lo<=b) with
    | false=>exact⟨X,rfl⟩
    | true=>exact⟨_,AW _ _ _ _ h⟩
   ·exact⟨X,rfl⟩
  ·exact⟨X,rfl⟩
 obtain ⟨Z,hZ⟩:=key
 exact⟨Z,by rw[hZ]⟩
theorem wT {T:Type} {f:T->List A} (hf:cq f) {H:aC} {lo off b o b' es:Nat} {l:List T} {cs:List A} {c:Bool} (h1:H[b]? = some (.box cs)) (h2:cs[o+off]? = some (.sl b' 0 l.length c)) (h3:H[b']? = some (.row false es (l.map f))) (h4:lo<=b) :
  eM lo off 0 (.ptr b o) H=H.set b (.box (cs.set (o+off) (.imm (l.map f) false))):=by
 unfold eM
 simp only[h1,h2,XT h4,XR]
 rw[show HX H (.sl b' 0 l.length c)=.imm (l.map f) false from nG (n:=3) hf h3]
def DG {T:Type} (l:List T) (i:Int) (x:T):Option (List T):=bif decide (0<=i)&&decide (i<=(l.length:Int))&&decide (l.length<4294967296) then some (l.take i.toNat++x :: l.drop i.toNat) else none
theorem Jr {T:Type} {cx:Cx} {k n lo es b:Nat} {base:bo} {cl cl2:Bool} {i:Int} {v:List A} {H:aC} {f:T->List A} {l:List T} {x:T} (hk:Nat.ble cx.P.funcs.size k=false) (hc:fT cx k H=false) (hd:gp cx k H=false) (hi:cx.ins k=es) (h0:Nat.beq es 0=false) (hl:∀ x,(f x).length=es) (hcf:kJ f)
  (hB:H[b]? = some (.row true es (l.map f))) (hlo:lo<=b) (hv:f x=v) :
  bF cx (n+1) base k [.sl b 0 l.length cl,.v (.int .i64 i),.imm [v] cl2] H lo=(DG l i x).map fun r=>(.ret (.imm (r.map f) false),H.set b .dead):=by
 rw[bF,hk,hc,hd]
 show aF cx (bF cx n base) (bF cx n) n k _ H lo=_
 have hlt:k<cx.P.funcs.size:=Y1 fun h=>by rw[YU h] at hk; cases hk
 unfold aF
 rw[YD hlt,XM,hi,h0]
 simp only[Zj,XR]
 subst hv
 have hall:(l.map f).all (fun cs=>cs.all A.cell)=true:=by
  rw[List.all_map]
  exact X0.2 fun y _=>hcf y
 have hb1:Nat.beq es es=true:=qaC es
 have hb2:Nat.beq l.length l.length=true:=qaC _
 unfold qT DG
 simp only[hB,Zx,hl,hb1,hb2,h0,hcf x,hall,hlo,Y6,Zj,YY,Yi]
 cases hc:(decide (0<=i)&&decide (i<=(l.length:Int))&&decide (l.length<4294967296)) with
 | false=>rfl
 | true=>simp[ZX,qas]
theorem J.Xi {β:Type} {k n lo:Nat} {cx:Cx} {base:bo} {args:List A} {H:aC} {X:Option β} {o:β->Go.Proofs.YtebkhfhcipnfgaaGreat.R} {Y:β->Option α} {k':Go.Proofs.YtebkhfhcipnfgaaGreat.R->Option σ} (h:bF cx (n+1) base k args H lo=X.map o) (hk:∀ y,J φ (k' (o y)) kL (Y y) K):J φ ((bF cx (n+1) base k args H lo).bind k') kL (X.bind Y) K:=by
 rw[h]
 cases X with
 | none=>exact J.nn
 | some y=>exact hk y
theorem J.is {β:Type} {k n lo:Nat} {cx:Cx} {args:List A} {H:aC} {X:Option β} {o:β->Go.Proofs.YtebkhfhcipnfgaaGreat.R} {Y:β->Option α} {k':Go.Proofs.YtebkhfhcipnfgaaGreat.R->Option σ} (h:bF cx (n+1) EY k args H lo=X.map o) (hk:∀ y,J φ (k' (o y)) kL (Y y) K):J φ ((dZ cx (n+1) k args H lo).bind k') kL (X.bind Y) K:=J.Xi h hk
end
section
open Go.RowKit Go.ChangeShapes Go.WideShapes Go.ChangeAt Go.Deep
theorem ym (k o:Nat):eF [] (G0 fun _ _=>True) k o:=⟨trivial,fun b hb=>by cases hb⟩
def mL (P:Program) (t:TypeId) (T:List A->Prop):Prop:=
 ∀ {H:Type} (enc:TypeId×Value->H) (w:World) (held:Bool) (fuel:Nat) (cs:List Value) (x:DataW H×List MemPlace),DataW.trod enc P w 0 (fun _=>true) held fuel t cs=some x->∃ as,T as/\bB [] (G0 fun _ _=>True) w as cs
def Qp (as:List A):Prop:=∃ n:Int,as=[.v (.int .i64 n)]/\-9223372036854775808<=n/\n<=9223372036854775807
theorem Ag {H:aC} {g:Gh} {w:World} (x:Value):bB H g w [.v x] [x]:=by rw[bB]; exact⟨x,[],rfl,s6,u3⟩
theorem zA {P:Program} {t:TypeId} (ht:P.underlying t=some (.int .i64)):mL P t Qp:=by
 intro H enc w held fuel cs x h
 obtain ⟨n,rfl,_,hw⟩:=DataW.trod_int ht h
 exact⟨_,⟨n,rfl,(qbk hw).1,(qbk hw).2⟩,Ag _⟩
theorem wN {H:aC} {g:Gh} {w:World} {a:A} {as:List A} {c:Value} {cs:List Value} (h:VR H g w a c) (k:bB H g w as cs):bB H g w (a :: as) (c :: cs):=by rw[bB]; exact⟨c,cs,rfl,h,k⟩
def Da:List (List A->Prop)->List A->Prop
 | [],as=>as=[]
 | T :: Ts,as=>∃ a b,as=a++b/\T a/\Da Ts b
def DK (P:Program) (N:Nat):List Field->Nat->Bool
 | [],o=>Nat.beq o N
 | f :: fs,o=>Nat.beq f.offset o&&DK P N fs (o+P.cellsOf f.type)
def ReadsAll (P:Program):List Field->List (List A->Prop)->Prop
 | [],[]=>True
 | f :: fs,T :: Ts=>mL P f.type T/\ReadsAll P fs Ts
 | _,_=>False
theorem nX {H:aC} {g:Gh} {w:World}:∀ {a:List A} {c:List Value} {b:List A} {d:List Value},bB H g w a c->bB H g w b d->bB H g w (a++b) (c++d)
 | [],c,b,d,h,k=>by rw[bB] at h; subst h; exact k
 | x :: a,c,b,d,h,k=>by
  rw[bB] at h
  obtain ⟨y,c',rfl,h1,h2⟩:=h
  rw[Yz,Yz,bB]
  exact⟨y,_,rfl,h1,nX h2 k⟩
theorem pF {P:Program} {H:Type} (enc:TypeId×Value->H) (w:World) (held:Bool) (cs:List Value) {N:Nat} (hN:cs.length=N):∀ (fs:List Field) (Ts:List (List A->Prop)) (o:Nat),DK P N fs o=true->ReadsAll P fs Ts ->
  (∀ (i:Nat) f,fs[i]? = some f->∃ n x,DataW.trod enc P w 0 (fun _=>true) held n f.type ((cs.drop f.offset).take (P.cellsOf f.type))=some x)->∃ as,Da Ts as/\bB [] (G0 fun _ _=>True) w as (cs.drop o)
 | [],[],o,hl,_,_=>by
  rw[DK] at hl
  have:o=N:=X3 hl
  refine⟨[],rfl,?_⟩
  rw[bB,Yd.2 o3]
 | f :: fs,T :: Ts,o,hl,hr,hx=>by
  rw[DK,XQ] at hl
  obtain ⟨hl1,hl⟩:=hl
  have ho:f.offset=o:=X3 hl1
  obtain ⟨n,x,h0⟩:=hx 0 f rfl
  obtain ⟨a,ha,hv⟩:=hr.1 enc w held n _ x h0
  obtain ⟨b,hb,hvb⟩:=pF enc w held cs hN fs Ts (o+P.cellsOf f.type) hl hr.2 fun i f' hf'=>hx (i+1) f' (by simpa using hf')
  refine⟨a++b,⟨a,b,rfl,ha,hb⟩,?_⟩
  have e:cs.drop o=(cs.drop o).take (P.cellsOf f.type)++cs.drop (o+P.cellsOf f.type):=by
   rw[<-qaK]; exact(Zb _ _).symm
  rw[e,<-ho]
  rw[<-ho] at hvb
  exact nX hv hvb
 | [],_ :: _,_,_,hr,_=>hr.elim
 | _ :: _,[],_,_,hr,_=>hr.elim
theorem gv {P:Program} {t:TypeId} {fs:Array Field} {Ts:List (List A->Prop)} (ht:P.underlying t=some (.struct fs)) (hl:DK P (P.cellsOf t) fs.toList 0=true) (hr:ReadsAll P fs.toList Ts):mL P t (Da Ts):=by
 intro H enc w held fuel cs x h
 obtain ⟨xs,n,_,rfl,hlen,hxs,hf⟩:=DataW.trod_struct ht h
 obtain ⟨as,h1,h2⟩:=pF enc w held cs hlen fs.toList Ts 0 hl hr fun i f hi=>by
  have hi':i<xs.length:=by
   have:=(XS.1 hi).1
   simp at this; omega
  exact⟨n,xs[i],by rw[hf i f (by simpa using hi)]; exact XN hi'⟩
 exact⟨as,h1,by simpa using h2⟩
theorem tE {H:Type} {enc:TypeId×Value->H} {P:Program} {W:World} {base:Nat} {ts:Array TypeId} {args:Array Value} (h:qZ enc P W base ts args) (j:Nat) {t:TypeId} {v:Value} (hj:ts[j]? = some t) (hv:args[j]? = some v) {fs:Array Field} (ht:P.underlying t=some (.struct fs)) {T:List A->Prop} (hT:mL P t T) :
  ∃ as,T as/\VR [] (G0 fun _ _=>True) W (.agg as) v:=by
 obtain ⟨ok,d,p,fuel,htr⟩:=h.2 j t v hj hv
 unfold Value.okWide at ok
 rw[ht] at ok
 obtain ⟨cs,rfl,_,_⟩:=ok
 obtain ⟨as,h1,h2⟩:=hT enc W _ _ _ _ htr
 refine⟨as,h1,?_⟩
 rw[VR]
 exact⟨cs,rfl,h2⟩
theorem zh {H:Type} {enc:TypeId×Value->H} {P:Program} {W:World} {base:Nat} {ts:Array TypeId} {args:Array Value} (h:qZ enc P W base ts args) (j:Nat) {t:TypeId} {v:Value} (hj:ts[j]? = some t) (hv:args[j]? = some v) (ht:P.underlying t=some (.int .i64)) :
  ∃ n:Int,(-9223372036854775808<=n/\n<=9223372036854775807)/\VR [] (G0 fun _ _=>True) W (.v (.int .i64 n)) v:=by
 obtain ⟨n,rfl,h1,h2⟩:=Bx h j hj hv ht
 exact⟨n,⟨h1,h2⟩,s6⟩
def qE (P:Program) (t:TypeId) {T:Type} (c:T->List A) (ok:T->Prop):Prop:=mL P t fun as=>∃ x,as=c x/\ok x
def jh (n:Int):Prop:=-9223372036854775808<=n/\n<=9223372036854775807
theorem kE {P:Program} {t:TypeId} (ht:P.underlying t=some (.int .i64)):qE P t (cI .i64) jh:=fun enc w held fuel cs x h=>by
 obtain ⟨as,⟨n,rfl,h1⟩,h2⟩:=zA ht enc w held fuel cs x h
 exact⟨_,⟨n,rfl,h1⟩,h2⟩
theorem qE.of {P:Program} {t:TypeId} {T:Type} {c:T->List A} {ok:T->Prop} {S:List A->Prop} (h:mL P t S) (hs:∀ as,S as->∃ x,as=c x/\ok x):qE P t c ok:=fun enc w held fuel cs x h0=>by
 obtain ⟨as,h1,h2⟩:=h enc w held fuel cs x h0
 exact⟨as,hs as h1,h2⟩
theorem Jp {H:Type} {enc:TypeId×Value->H} {P:Program} {W:World} {base:Nat} {ts:Array TypeId} {args:Array Value} (h:qZ enc P W base ts args) (j:Nat) {t:TypeId} {v:Value} (hj:ts[j]? = some t) (hv:args[j]? = some v) (ht:P.underlying t=some (.int .i64)) :
  ∃ n:Int,jh n/\VR [] (G0 fun _ _=>True) W (.v (.int .i64 n)) v:=zh h j hj hv ht
theorem Bz {H:Type} {enc:TypeId×Value->H} {P:Program} {W:World} {base:Nat} {ts:Array TypeId} {args:Array Value} (h:qZ enc P W base ts args) (j:Nat) {t:TypeId} {v:Value} (hj:ts[j]? = some t) (hv:args[j]? = some v) {fs:Array Field} (ht:P.underlying t=some (.struct fs)) {T:Type} {c:T->List A} {ok:T->Prop} (hT:qE P t c ok) :
  ∃ x,ok x/\VR [] (G0 fun _ _=>True) W (.agg (c x)) v:=by
 obtain ⟨as,⟨x,rfl,h1⟩,h2⟩:=tE h j hj hv ht hT
 exact⟨x,h1,h2⟩
def mI:Nat:=9223372036854775807
section
variable {P:Program} {t e:TypeId} {T:Type} {c:T->List A} {ok:T->Prop}
theorem ML (ht:P.underlying t=some (.int .u8)):qE P t c8 (fun _=>True):=fun enc w held fuel cs x h=>by
 obtain ⟨n,rfl,_,hw⟩:=DataW.trod_int ht h
 obtain ⟨h1,h2⟩:=bounds_u8 hw
 refine⟨c8 (UInt8.ofNat n.toNat),⟨_,rfl,trivial⟩,?_⟩
 have:((UInt8.ofNat n.toNat).toNat:Int)=n:=by
  rw[UInt8.toNat_ofNat']
  omega
 unfold c8
 rw[this]
 exact Ag _
theorem jV {es:Nat} (ht:P.underlying t=some (.slice e)) (hk:P.cellsOf e=es) (hpos:0<es) (hlen:∀ x,(c x).length=es) (hL:qE P e c ok):qE P t (cL c) (fun l=>l.length<=mI/\∀ z∈l,ok z):=by
 intro H enc w held fuel cs x h
 rcases open_slice ht h with ⟨rfl,_⟩ | ⟨a,len,cap,m,n,D,Pl,rfl,_,hle,hcap,hm,hxd,hel⟩
 ·refine⟨_,⟨[],rfl,Ya _,fun z hz=>(by cases hz)⟩,?_⟩
  rw[cL,bB]
  refine⟨_,[],rfl,?_,u3⟩
  rw[VR]
  exact⟨none,0,[],es,rfl,XP _,fun h=>(by cases h),fun d hd=>(by cases hd),fun h=>absurd h (ZI 0),by rw[qaE,bw]⟩
 ·simp only[ZS] at hm
  have each:∀ i,i<len->∃ y:T,ok y/\∃ vs,bB [] (G0 fun _ _=>True) w (c y) vs/\vs.length=es/\∀ j,j<es->w.cell? (a.add (i*es+j))=vs[j]?:=fun i hi=>by
   obtain ⟨cs',h1,h2⟩:=hel i o3
   obtain ⟨as,⟨y,rfl,hok⟩,hv⟩:=hL enc w held n cs' _ h2
   obtain ⟨_,hl,hc⟩:=World.cells?_some h1
   have hvl:=hv.length
   rw[hlen] at hvl
   refine⟨y,hok,cs',hv,hvl,fun j hj=>?_⟩
   have:=hc j o3
   rw[hk,add_add] at this
   exact this
  obtain ⟨l,ds,hl,hdl,hall⟩:∃ (l:List T) (ds:List (List Value)),l.length=len/\ds.length=len/\∀ i y d,l[i]? = some y->ds[i]? = some d->ok y/\bB [] (G0 fun _ _=>True) w (c y) d/\d.length=es/\∀ j,j<es->w.cell? (a.add (i*es+j))=d[j]?:=by
   clear hel hm hle hcap hxd h
   induction len with
   | zero=>exact⟨[],[],rfl,rfl,fun i y d h=>by simp at h⟩
   | succ len ih=>
    obtain ⟨l,ds,hl,hdl,hall⟩:=ih (fun i hi=>each i o3)
    obtain ⟨y,hok,d,hd⟩:=each len o3
    refine⟨l++[y],ds++[d],by simp[hl],by simp[hdl],fun i y' d' hy' hd'=>?_⟩
    by_cases e:i<len
    ·rw[X6 o3] at hy' hd'
     exact hall i y' d' hy' hd'
    ·have hi:i<(l++[y]).length:=(XS.1 hy').1
     have e2:i=len:=by simp at hi; omega
     subst e2
     rw[Yr o3] at hy' hd'
     simp[hl,hdl] at hy' hd'
     subst hy'; subst hd'
     exact⟨hok,hd⟩
  have hds:∀ d∈ds,d.length=es:=fun d hd=>by
   obtain ⟨i,hi,rfl⟩:=YI hd
   exact(hall i l[i] ds[i] (XN o3) (XN hi)).2.2.1
  have hcapL:cap<=mI:=hcap
  refine⟨_,⟨l,rfl,o3,fun z hz=>?_⟩,?_⟩
  ·obtain ⟨i,hi,rfl⟩:=YI hz
   exact(hall i l[i] ds[i] (XN hi) (XN o3)).1
  ·rw[cL,bB]
   refine⟨_,[],rfl,?_,u3⟩
   rw[VR]
   refine⟨some a,cap,ds,es,by simp[hl],by simp[hl]; exact hle,fun h=>(by cases h),hds,fun hp=>?_,?_⟩
   ·have hp:0<len:=by simpa [hl] using hp
    obtain ⟨ab,ao,asp⟩:=a
    obtain ⟨_,_,h0l,h0⟩:=hall 0 l[0] ds[0] (XN o3) (XN o3)
    have h4:=h0 0 hpos
    rw[XN o3] at h4
    have hsp:asp=none:=by simpa [Addr.add] using World.cell?_spot h4
    subst hsp
    refine⟨ab,ao,rfl,fun j v hj=>⟨?_,ym _ _⟩⟩
    have hjl:j<ds.flatten.length:=(XS.1 hj).1
    rw[b7 hds] at hjl
    have hi:j / es<len:=by
     rw[qaa hpos]; rw[hdl] at hjl; exact hjl
    obtain ⟨_,_,hil,hi2⟩:=hall (j / es) l[j / es] ds[j / es] (XN o3) (XN o3)
    have h5:=hi2 (j % es) (qac _ hpos)
    have e1:j / es*es+j % es=j:=by rw[YZ]; exact qaB j es
    have h6:=jQ hds (XN (show j / es<ds.length by omega)) (j % es) (qac _ hpos)
    rw[e1] at h5 h6
    rw[add_plain] at h5
    rw[h5,<-h6]
    exact hj
   ·refine cR.2 ⟨by simp[hl,hdl],fun i y d hy hd=>?_⟩
    rw[Yq] at hy
    cases hx:l[i]? with
    | none=>rw[hx] at hy; cases hy
    | some z=>
     rw[hx] at hy; cases hy
     exact(hall i z d hx hd).2.1
theorem qE.S9 {ok':T->Prop} (h:qE P t c ok) (hw:∀ x,ok x->ok' x):qE P t c ok':=fun enc w held fuel cs x h0=>by
 obtain ⟨as,⟨y,h1,h2⟩,h3⟩:=h enc w held fuel cs x h0
 exact⟨as,⟨y,h1,hw y h2⟩,h3⟩
theorem BI {es:Nat} (ht:P.underlying t=some (.slice e)) (hk:P.cellsOf e=es) (hpos:0<es) (hlen:∀ x,(c x).length=es) (hL:qE P e c (fun _=>True)):qE P t (cL c) (fun l=>l.length<=mI):=qE.S9 (T:=List T) (c:=cL c) (ok:=fun (l:List T)=>l.length<=mI/\∀ z∈l,True) (jV ht hk hpos hlen hL) fun _ h=>h.1
theorem wi {n:Nat} {T:List A->Prop} (ht:P.underlying t=some (.array n e)) (hk:P.cellsOf t=n*P.cellsOf e) (hr:mL P e T):mL P t (Da (List.replicate n T)):=by
 intro H enc w held fuel cs x h
 obtain ⟨xs,m,_,rfl,hlen,hxs,hf⟩:=DataW.trod_array ht h
 rw[hk] at hlen
 have go:∀ q,q<=n->∃ as,Da (List.replicate q T) as/\bB [] (G0 fun _ _=>True) w as (cs.drop ((n - q)*P.cellsOf e)):=by
  intro q
  induction q with
  | zero=>intro _; exact⟨[],rfl,by rw[bB,Yd.2 (by simp[hlen])]⟩
  | succ q ih=>
   intro hq
   obtain ⟨bs,h1,h2⟩:=ih o3
   have hi:n - (q+1)<xs.length:=o3
   have:=hf (n - (q+1)) o3
   rw[XN hi] at this
   obtain ⟨as,ha,hv⟩:=hr enc w held m _ _ this
   refine⟨as++bs,⟨as,bs,rfl,ha,h1⟩,?_⟩
   have e1:(n - q)*P.cellsOf e=(n - (q+1))*P.cellsOf e+P.cellsOf e:=by
    rw[show n - q=n - (q+1)+1 by omega,YL,qa7]
   have e2:cs.drop ((n - (q+1))*P.cellsOf e)=(cs.drop ((n - (q+1))*P.cellsOf e)).take (P.cellsOf e)++cs.drop ((n - q)*P.cellsOf e):=by
    rw[e1,<-qaK]; exact(Zb _ _).symm
   rw[e2]
   exact nX hv h2
 obtain ⟨as,h1,h2⟩:=go n (XP _)
 exact⟨as,h1,by simpa using h2⟩
variable {H:Type} {enc:TypeId×Value->H} {W:World} {base:Nat} {ts:Array TypeId} {args:Array Value}
end
theorem Ju {P:Program} {glob:Nat->Option (List Value)} {k:Nat} {as:List A} {args:Array Value} {W:World} (h:eQ P glob k as (.v (.bool true))) (hg:∀ (G:Nat) (vs:List Value),glob G=some vs->∀ (j:Nat) (v:Value),vs[j]? = some v->W.cell? ⟨G,j,none⟩=some v)
  (hv:bB [] (G0 fun _ _=>True) W as args.toList):Calls P k args W fun e W'=>e=.returned (.bool true)/\Below W.heap.size W W':=by
 refine(h (fun _ _=>True) W args.toList (fun _ _ _=>trivial) (fun G vs hG j v hj=>⟨by rw[YB]; exact hg G vs hG j v hj,ym _ _⟩) hv).mono ?_
 rintro e W' ⟨c,rfl,hb,hc⟩
 rw[VR] at hc
 subst hc
 exact⟨rfl,hb⟩
end
end Go.Proofs.YtebkhfhcipnfgaaGreat
