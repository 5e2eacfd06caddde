/-
 From what the interpreter answers to a law's statement: how arguments that came in are read as the interpreter's data.
-/
import Derived.Test.YtebkhfhcipnfgaaGreatEvSimp
namespace Go.Proofs.YtebkhfhcipnfgaaGreat
set_option linter.unusedVariables false
set_option linter.unusedSimpArgs false
set_option linter.defProp false
theorem X3 {p:Prop} (h:p:=by rw[decide_eq_decide]; omega):p:=h
theorem X5 {p:Prop} (h:p:=by rw[List.length_append]; omega):p:=h
def Ys:=@decide_eq_false
def YB:=@List.drop_eq_nil_iff
def YW:=@decide_true
def Zk:=@beq_self_eq_true
def Zt:=@Bool.and_true
def Zw:=@decide_false
def Zy:=@Value.string.injEq
def ZE:=@Value.int.injEq
def ZF:=@Value.bool.injEq
def Z0:=@Bool.and_self
def Z7:=@true_and
def qaq:=@and_true
def qaB:=@Int.toNat_natCast
def qaC:=@Nat.div_lt_iff_lt_mul
def qaI:=@Nat.mod_eq_of_lt
def qaJ:=@decide_eq_decide
def qaT:=@List.map_append
def qbh:=@List.map_drop
def qbi:=@Bool.or_false
def qby:=@Option.map_none
def qbF:=@Bool.false_and
section
variable {ρ γ σ α β τ:Type}
def J (φ:ρ->γ->Prop) (L:Option σ) (kL:σ->Option ρ) (R:Option α) (K:α->Option γ):Prop:=∀ r,R.bind K=some r->∃ s,L.bind kL=some s/\φ s r
variable {φ:ρ->γ->Prop} {kL:σ->Option ρ} {K:α->Option γ} {R X Y:Option α}
theorem J.st {x:Option τ} {v:τ} {k:τ->Option σ} (h:x=some v) (hk:J φ (k v) kL R K):J φ (x.bind k) kL R K:=by
 rw[h]; exact hk
theorem J.s {x:Option τ} {k:τ->Option σ} (v:τ) (hk:J φ (k v) kL R K) (h:x=some v:=by kernel_rfl):J φ (x.bind k) kL R K:=J.st h hk
theorem J.s2 {τ':Type} {x:Option τ'} {y:τ'->Option τ} {k:τ->Option σ} (v:τ) (hk:J φ (k v) kL R K) (h:x.bind y=some v:=by kernel_rfl):J φ (x.bind fun a=>(y a).bind k) kL R K:=by
 rw[<-YU]; exact J.st h hk
def M3 (x:Option (A×aB)):A×aB:=match x with | some p=>p | none=>(.any,[])
def M1 (x:Option aB):aB:=match x with | some p=>p | none=>[]
theorem J.sq {x:Option (A×aB)} {k:A×aB->Option σ} (p:A) (hk:J φ (k (p,(M3 x).2)) kL R K) (h:x=some (p,(M3 x).2):=by kernel_rfl):J φ (x.bind k) kL R K:=J.st h hk
theorem J.sh {x:Option aB} {k:aB->Option σ} (hk:J φ (k (M1 x)) kL R K) (h:x=some (M1 x):=by kernel_rfl):J φ (x.bind k) kL R K:=J.st h hk
theorem J.bd {x:Option τ} {k:τ->Option σ} {X:Option β} {Y:β->Option α} {g:β->τ} (h:x=X.map g) (hk:∀ y,J φ (k (g y)) kL (Y y) K):J φ (x.bind k) kL (X.bind Y) K:=by
 intro r hr
 rw[YU] at hr
 cases X with
 | none=>cases hr
 | some y=>rw[h]; exact hk y r hr
theorem J.bg {x:Option τ} {k:τ->Option σ} {X:Option β} {Y:β->Option α} (ψ:τ->β->Prop) (h:J ψ x some X some) (hk:∀ t y,ψ t y->J φ (k t) kL (Y y) K):J φ (x.bind k) kL (X.bind Y) K:=by
 intro r hr
 rw[YU] at hr
 cases X with
 | none=>cases hr
 | some y=>
  obtain ⟨s,h1,h2⟩:=h y rfl
  have:x=some s:=by cases x<;>simp_all
  rw[this]
  exact hk s y h2 r hr
theorem J.bi {x y:Option σ} {b:Bool} (h1:J φ x kL X K) (h2:J φ y kL Y K):J φ (cu (.v (.bool b)) x y) kL (cond b X Y) K:=by
 cases b
 ·exact h2
 ·exact h1
theorem J.Lr {x y:Option Go.Proofs.YtebkhfhcipnfgaaGreat.R} {kL:Go.Proofs.YtebkhfhcipnfgaaGreat.R->Option ρ} (h1:J φ x kL R K):J φ (aX (.v (.bool true)) x y) kL R K:=h1
theorem J.Kd {x y:Option Go.Proofs.YtebkhfhcipnfgaaGreat.R} {kL:Go.Proofs.YtebkhfhcipnfgaaGreat.R->Option ρ} (h1:J φ y kL R K):J φ (aX (.v (.bool false)) x y) kL R K:=h1
theorem J.bQ {x y:Option Go.Proofs.YtebkhfhcipnfgaaGreat.R} {kL:Go.Proofs.YtebkhfhcipnfgaaGreat.R->Option ρ} {b:Bool} (h1:J φ x kL X K) (h2:J φ y kL Y K):J φ (aX (.v (.bool b)) x y) kL (cond b X Y) K:=by
 cases b
 ·exact h2
 ·exact h1
theorem J.nq {T:Type} {f:T->List A} {l:List T} {x y:Option Go.Proofs.YtebkhfhcipnfgaaGreat.R} {kL:Go.Proofs.YtebkhfhcipnfgaaGreat.R->Option ρ} (h:l=[]->x=y) (hy:J φ y kL R K):J φ (aX (.nq (l.map f)) x y) kL R K:=by
 cases l with
 | nil=>
  have e:aX (A.nq (List.map f [])) x y=y:=by
   exact DG (h rfl)
  rw[e]; exact hy
 | cons a l=>exact hy
theorem J.gf {x y:Option σ} {b:Bool} (h1:J φ x kL X K) (h2:J φ y kL Y K):J φ (pY (.v (.bool b)) false x y) kL (cond b Y X) K:=by
 cases b
 ·exact h1
 ·exact h2
theorem J.cT {x y:Option σ} {c:Bool} (h:c=true) (h1:J φ x kL R K):J φ (cond c x y) kL R K:=by rw[h]; exact h1
def T1 {T:Type} (i:Int) (a b:T):Option T:=bif decide (i=0) then some a else bif decide (i=1) then some b else none
theorem J.a2 {T:Type} {x:Option τ} {k:τ->Option σ} {i:Int} {f:T->τ} {a b:T} {Y:T->Option α} (h0:i.toNat=0->x=some (f a)) (h1:i.toNat=1->x=some (f b)) (hk:∀ y,J φ (k (f y)) kL (Y y) K):J φ (x.bind k) kL ((T1 i a b).bind Y) K:=by
 unfold T1
 by_cases h:i=0
 ·rw[h0 (by rw[h]; rfl),Yl h]; exact hk a
 ·rw[Ys h]
  by_cases h':i=1
  ·rw[h1 (by rw[h']; rfl),Yl h']; exact hk b
  ·rw[Ys h']; intro r hr; cases hr
theorem J.gd {L:Option σ} {b:Bool} (h:b=true->J φ L kL R K):J φ L kL (cond b R none) K:=by
 cases b
 ·intro r hr; cases hr
 ·exact h rfl
theorem J.sp {L:Option σ} {b:Bool} (h1:b=true->J φ L kL X K) (h2:b=false->J φ L kL Y K):J φ L kL (cond b X Y) K:=by
 cases b
 ·exact h2 rfl
 ·exact h1 rfl
theorem J.nn {L:Option σ}:J φ L kL none K:=fun r hr=>by cases hr
theorem J.uc {a:A} {r:List A} {k:A->List A->Option σ} (h:J φ (k a r) kL R K):J φ (bk (a :: r) k) kL R K:=h
theorem J.u4 {a b c d:A} {r:List A} {k:A->A->A->A->List A->Option σ} (h:J φ (k a b c d r) kL R K):J φ (bk (a :: b :: c :: d :: r) fun a l=>bk l fun b l=>bk l fun c l=>bk l fun d l=>k a b c d l) kL R K:=h
theorem gA {β γ:Type} (l:List A) (f:A->List A->Option β) (k:β->Option γ):(bk l f).bind k=bk l fun a r=>(f a r).bind k:=by
 cases l<;>rfl
theorem J.kl {a:A} {f g:A->Option Go.Proofs.YtebkhfhcipnfgaaGreat.R} {kL:Go.Proofs.YtebkhfhcipnfgaaGreat.R->Option ρ} (h:J φ (g a) kL R K):J φ (ee (.pan a) f g) kL R K:=h
theorem J.pk {t:TypeId} {y:A} {k:A->Option σ} (h:J φ (k (.ifc t y)) kL R K):J φ (HH (.ifc t y) k) kL R K:=h
theorem J.ob {b:Bool} {v p:A} {f g:A->Option Go.Proofs.YtebkhfhcipnfgaaGreat.R} {kL:Go.Proofs.YtebkhfhcipnfgaaGreat.R->Option ρ} (h1:J φ (ee (.ret v) f g) kL X K) (h2:J φ (ee (.pan p) f g) kL Y K):J φ (ee (bif b then Out.ret v else Out.pan p) f g) kL (cond b X Y) K:=by
 cases b
 ·exact h2
 ·exact h1
theorem J.lf {s:σ} {x:α} {r:ρ} {y:γ} (h1:kL s=some r) (h2:K x=some y) (h:φ r y):J φ (some s) kL (some x) K:=fun z hz=>by
 rw[Yf,h2] at hz
 cases hz
 exact⟨r,h1,h⟩
theorem J.lg {ψ:τ->β->Prop} {s:τ} {x:β} (h:ψ s x):J ψ (some s) some (some x) some:=fun r hr=>by cases hr; exact⟨s,rfl,h⟩
theorem J.lv {T:Type} {f:T->A} {v:A} {H:aB} {y:T} (h:br H v=f y):J (fun (o:Go.Proofs.YtebkhfhcipnfgaaGreat.R) y=>∃ v,o.1=.ret v/\br o.2 v=f y) (some (Out.ret v,H)) some (some y) some:=.lf rfl rfl ⟨_,rfl,h⟩
theorem J.cl {x:Option τ} {x':Option τ} {k:τ->Option σ} (h:x=x') (hk:J φ x' (fun r=>(k r).bind kL) R K):J φ (x.bind k) kL R K:=by
 intro r hr
 obtain ⟨s,h1,h2⟩:=hk r hr
 exact⟨s,by rw[YU,h]; exact h1,h2⟩
theorem J.bb {x:Option τ} {k:τ->Option σ} (h:J φ x (fun r=>(k r).bind kL) R K):J φ (x.bind k) kL R K:=by
 intro r hr
 obtain ⟨s,h1,h2⟩:=h r hr
 exact⟨s,by rw[YU]; exact h1,h2⟩
theorem J.as {L:Option σ} {X:Option β} {Y:β->Option α} (h:J φ L kL X (fun x=>(Y x).bind K)):J φ L kL (X.bind Y) K:=by
 intro r hr
 rw[YU] at hr
 exact h r hr
theorem J.un {L:Option σ} {K':γ->Option γ} (hK:K'=some) (h:J φ L kL R K):J φ L kL (R.bind K) K':=by
 intro r hr
 subst hK
 exact h r (by simpa using hr)
theorem J.ex {L:Option σ} {x:α} (h:J φ L kL (K x) some):J φ L kL (some x) K:=by
 intro r hr
 exact h r (by simpa using hr)
theorem J.lp {L:Option σ} {L':Option σ} (h:L=L') (hk:J φ L' kL R K):J φ L kL R K:=h ▸ hk
theorem J.gU {x y:Option σ} {w:Bool} (h:J φ y kL R K):J φ (pY (.v undef) w x y) kL R K:=h
theorem J.ok {a:A} {f g:A->Option Go.Proofs.YtebkhfhcipnfgaaGreat.R} {kL:Go.Proofs.YtebkhfhcipnfgaaGreat.R->Option ρ} (h:J φ (f a) kL R K):J φ (ee (.ret a) f g) kL R K:=h
theorem J.cr {s:τ} {k:τ->Option σ} (h:J φ (k s) kL R K):J φ (some s) (fun r=>(k r).bind kL) R K:=h
theorem J.qs {x y:Option σ} {b:Bool} (h:b=true) (h1:J φ x kL R K):J φ (cu (.v (.bool b)) x y) kL R K:=by subst h; exact h1
theorem J.qb {x y:Option σ} {b:Bool} (h:b=false) (h1:J φ y kL R K):J φ (cu (.v (.bool b)) x y) kL R K:=by subst h; exact h1
theorem J.B4 {x y:Option τ} {k:τ->Option σ} {b:Bool} (h1:b=true->J φ (x.bind k) kL X K) (h2:b=false->J φ (y.bind k) kL Y K):J φ ((pY (.v (.bool b)) true x y).bind k) kL (cond b X Y) K:=by
 cases b
 ·exact h2 rfl
 ·exact h1 rfl
theorem J.FA {x y:Option τ} {k:τ->Option σ} {b:Bool} (h1:b=false->J φ (x.bind k) kL X K) (h2:b=true->J φ (y.bind k) kL Y K):J φ ((pY (.v (.bool b)) false x y).bind k) kL (cond b Y X) K:=by
 cases b
 ·exact h1 rfl
 ·exact h2 rfl
theorem bX {β:Type} {x y:Option β} {b:Bool} (h:b=true):pY (.v (.bool b)) true x y=x:=by subst h; rfl
theorem bW {β:Type} {x y:Option β} {b:Bool} (h:b=false):pY (.v (.bool b)) true x y=y:=by subst h; rfl
theorem xK {β:Type} {x y:Option β} {b:Bool} (h:b=true):pY (.v (.bool b)) false x y=y:=by subst h; rfl
theorem ra {β:Type} {x y:Option β} {b:Bool} (h:b=false):pY (.v (.bool b)) false x y=x:=by subst h; rfl
def aA:Nat:=1208925819614629174706176
def cI (k:IntKind) (n:Int):List A:=[.v (.int k n)]
def c8 (c:UInt8):List A:=[.v (.int .u8 (c.toNat:Int))]
def cB (b:Bool):List A:=[.v (.bool b)]
def cS (s:ByteArray):List A:=[.v (.string s)]
def cL {T:Type} (f:T->List A) (l:List T):List A:=[.imm (l.map f) false]
def cj {T:Type} (f:T->List A):Prop:=∀ g x,bq g (f x)=f x
theorem cJ {T:Type} {f:T->List A} (hf:cj f) (g:Nat->Nat->Nat->A) (l:List T):dm g (l.map f)=l.map f:=by
 induction l with
 | nil=>rfl
 | cons x l ih=>rw[Zc,dm,hf,ih]
def dv {T:Type} (f:T->List A):Prop:=∀ L x,bt L (f x)=true
theorem dk {T:Type} {f:T->List A} (hf:dv f) (L:Nat) (l:List T):aM L (l.map f)=true:=by
 induction l with
 | nil=>rfl
 | cons x l ih=>rw[Zc,aM,hf,ih]; rfl
theorem mQ (k:IntKind):dv (cI k):=fun _ _=>rfl
theorem mO:dv c8:=fun _ _=>rfl
theorem mP:dv cB:=fun _ _=>rfl
theorem mS:dv cS:=fun _ _=>rfl
theorem mR {T:Type} {f:T->List A} (hf:dv f):dv (cL f):=fun L x=>by
 show (aM L (x.map f)&&true)=true
 rw[dk hf]; rfl
theorem tu (g:Nat->Nat->Nat->A):∀ (a b:List A),bq g (a++b)=bq g a++bq g b
 | [],b=>by simp only[Zs,bq]
 | x :: a,b=>by simp only[Y5,bq,tu g a b]
theorem tB (L:Nat):∀ (a b:List A),bt L (a++b)=(bt L a&&bt L b)
 | [],b=>by simp only[Zs,bt,YP]
 | x :: a,b=>by simp only[Y5,bt,tB L a b,Bool.and_assoc]
theorem dW (k:IntKind):cj (cI k):=fun _ _=>rfl
theorem fg:cj c8:=fun _ _=>rfl
theorem mM:cj cB:=fun _ _=>rfl
theorem mN:cj cS:=fun _ _=>rfl
theorem lH {T:Type} {f:T->List A} (hf:cj f):cj (cL f):=fun g x=>by
 show [cE g (.imm (x.map f) false)]=_
 simp only[cE,cJ hf]; rfl
theorem cf:(∀ (H:aB) (a:A),snap H a=cE (iI 4 H) a)/\(∀ (g:Nat->Nat->Nat->A) (b o m:Nat) (c:Bool),cE g (.sl b o m c)=g b o m)/\(∀ (g:Nat->Nat->Nat->A) (els:List (List A)) (c:Bool),cE g (.imm els c)=.imm (dm g els) false)/\(∀ (g:Nat->Nat->Nat->A) (cs:List A),cE g (.agg cs)=.agg (bq g cs))/\(∀ (g:Nat->Nat->Nat->A) (cs:List A),cE g (.tup cs)=.tup (bq g cs))/\(∀ (g:Nat->Nat->Nat->A) (t:TypeId) (x:A),cE g (.ifc t x)=.ifc t (cE g x))/\(∀ (g:Nat->Nat->Nat->A) (k:IntKind) (ks:List Int) (vs:List A),cE g (.mv k ks vs)=.mv k ks (bq g vs))/\(∀ (g:Nat->Nat->Nat->A) (x:Value),cE g (.v x)=.v x)/\(∀ (g:Nat->Nat->Nat->A) (f:Fn),cE g (.fn f [] [])=.fn f [] [])/\(∀ (g:Nat->Nat->Nat->A),bq g []=[])/\(∀ (g:Nat->Nat->Nat->A) (a:A) (as:List A),bq g (a :: as)=cE g a :: bq g as)/\(∀ (g:Nat->Nat->Nat->A),dm g []=[])/\(∀ (g:Nat->Nat->Nat->A) (a:List A) (as:List (List A)),dm g (a :: as)=bq g a :: dm g as)/\(∀ {T:Type} {f:T->List A} (hf:cj f) (g:Nat->Nat->Nat->A) (l:List T),dm g (l.map f)=l.map f)/\(∀ (g:Nat->Nat->Nat->A) (a b:List A),bq g (a++b)=bq g a++bq g b)/\(∀ k,cj (cI k))/\cj c8/\cj cB/\cj cS/\(∀ {T:Type} {f:T->List A} (hf:cj f),cj (cL f)):=
 ⟨fun _ _=>rfl,fun _ _ _ _ _=>rfl,fun _ _ _=>rfl,fun _ _=>rfl,fun _ _=>rfl,fun _ _ _=>rfl,fun _ _ _ _=>rfl,fun _ _=>rfl,fun _ _=>rfl,fun _=>rfl,fun _ _ _=>rfl,fun _=>rfl,fun _ _ _=>rfl,cJ,tu,dW,fg,mM,mN,lH⟩
def eh {T U:Type} (f:T->U):Prop:=∀ x y,f x=f y->x=y
theorem map_inj {T:Type} {f:T->List A} (hf:eh f):∀ (l l':List T),l.map f=l'.map f↔l=l'
 | [],[]=>r9
 | [],_ :: _=>r9
 | _ :: _,[]=>r9
 | x :: l,y :: l'=>by
  simp only[Zc,Y8,map_inj hf l l']
  exact⟨fun h=>⟨hf x y h.1,h.2⟩,fun h=>⟨by rw[h.1],h.2⟩⟩
theorem gg (k:IntKind):eh (cI k):=fun x y h=>by simpa [cI] using h
theorem nD:eh c8:=fun x y h=>by
 simp only[c8,Y8,A.v.injEq,ZE,qaq,Z7] at h
 exact UInt8.toNat_inj.1 r7
noncomputable def bG {X:Type} (e:X->List A) (G:X->Option A) (args:List A):Option A:=open Classical in if h:∃ x,e x=args then G h.choose else none
theorem aP {X:Type} {e:X->List A} (G:X->Option A) (inj:eh e) (x:X):bG e G (e x)=G x:=by
 unfold bG
 have h:∃ y,e y=e x:=⟨x,rfl⟩
 rw[dif_pos h,inj _ _ h.choose_spec]
theorem E6 {X:Type} {e:X->List A} {G:X->Option A} {args:List A} {r:A} (h:bG e G args=some r):∃ x,e x=args/\G x=some r:=by
 unfold bG at h
 split at h
 ·rename_i hx; exact⟨_,hx.choose_spec,h⟩
 ·cases h
theorem ed {X Y:Type} {e:X->List A} {F:X->Option Y} {f:Y->A} {args:List A} {r:A} (h:bG e (fun x=>(F x).map f) args=some r):∃ x y,e x=args/\F x=some y/\f y=r:=by
 obtain ⟨x,hx,h⟩:=E6 h
 simp only[Y2] at h
 obtain ⟨y,hy,h⟩:=h
 exact⟨x,y,hx,hy,h⟩
theorem Ue:(∀ {T:Type} (a:T) (as:List T) (b:T) (bs:List T),(a :: as=b :: bs)=(a=b/\as=bs))/\(∀ a b:Value,(A.v a=A.v b)=(a=b))/\(∀ a b:List A,(A.agg a=A.agg b)=(a=b))/\(∀ (a:List (List A)) (c:Bool) (b:List (List A)) (d:Bool),(A.imm a c=A.imm b d)=(a=b/\c=d))/\(∀ (k:IntKind) (n:Int) (k':IntKind) (n':Int),(Value.int k n=Value.int k' n')=(k=k'/\n=n'))/\(∀ a b:Bool,(Value.bool a=Value.bool b)=(a=b))/\(∀ a b:ByteArray,(Value.string a=Value.string b)=(a=b))/\(∀ p:Prop,(p/\True)=p)/\(∀ p:Prop,(True/\p)=p):=
 ⟨fun a as b bs=>Y8 a as b bs,fun a b=>A.v.injEq a b,fun a b=>A.agg.injEq a b,fun a c b d=>A.imm.injEq a c b d,fun k n k' n'=>ZE k n k' n',fun a b=>ZF a b,fun a b=>Zy a b,fun p=>qaq p,fun p=>Z7 p⟩
def fw (C:Nat->List A->Option A) (k:Nat) (c:List A->Option A):Nat->List A->Option A:=fun j args=>bif Nat.beq j k then c args else C j args
theorem oJ {cx:Cx} {n k:Nat} {base:bn} {args:List A} {H:aB} {lo:Nat} (h:Nat.ble cx.P.funcs.size k=false) (h2:gD cx k H=false:=by rfl) (h3:il cx k H=false:=by rfl):bw cx (n+1) base k args H lo=aG cx (bw cx n base) (bw cx n) n k args H lo:=by
 rw[bw,h,h2,h3]; rfl
theorem bl {cx:Cx} {n k:Nat} {args:List A} {H:aB} {lo:Nat} (h:Nat.ble cx.P.funcs.size k=false) (h2:gD cx k H=false:=by rfl) (h3:il cx k H=false:=by rfl):dH cx (n+1) k args H lo=aG cx (dH cx n) (bw cx n) n k args H lo:=oJ h h2 h3
theorem xk {cx:Cx} {k:Nat}:gD cx k []=false:=by
 unfold gD
 cases hb:Nat.beq (cx.cut k) 0 with
 | true=>rfl
 | false=>cases hk:cx.cut k with
  | zero=>rw[hk] at hb; cases hb
  | succ m=>rfl
theorem vF {cx:Cx} {k:Nat}:il cx k []=false:=by
 unfold il
 cases cx.deep k<;>rfl
theorem zy {cx:Cx} {n k:Nat} {args:List A} {lo:Nat} {r:Go.Proofs.YtebkhfhcipnfgaaGreat.R} (h:aG cx (dH cx n) (bw cx n) n k args [] lo=some r):dH cx (n+1) k args [] lo=some r:=by
 refine(bl (rV ?_) xk vF).trans h
 unfold aG at h
 cases hf:cx.P.funcs[k]? with
 | none=>rw[hf] at h; cases h
 | some fn=>exact(Yo.1 hf).1
theorem Bv {q b:Nat} {call:bn} {rnd:List A->aB->Nat->Option Go.Proofs.YtebkhfhcipnfgaaGreat.R} {args:List A} {H:aB} {lo:Nat}:tZ q call b rnd (q+b) args H lo=rnd args H lo:=by
 unfold tZ; rw[show Nat.beq (q+b) (q+b)=true from r9]; rfl
theorem BP {cx:Cx} {b:Nat} {base:bn} {args:List A} {H:aB} {lo:Nat}:∀ {m:Nat},bw cx m base (cx.P.funcs.size+b) args H lo=base (cx.P.funcs.size+b) args H lo:=fun {m}=>by
 cases m<;>rw[bw,show Nat.ble cx.P.funcs.size (cx.P.funcs.size+b)=true from by simp[qaG]]<;>rfl
theorem wC {β:Type} {H:aB} {b:Nat} {x:Option β} (h:H[b]? = some (.rng .ready)):JC H b x=x:=by unfold JC; rw[h]
theorem vA {β:Type} {H:aB} {b:Nat} {x:Option β} (h:H[b]? = some (.rng .busy)):Fz H b x=x:=by unfold Fz; rw[h]
section
variable {β:Type} {H:aB} {b:Nat} {kn:aB->Option β} {kx kg:Nat->aB->Option β} {kr:aB->Option β}
theorem Od (h:H[b]? = some (.rng .ready)):ph b H kn kx kg kr=kn (H.set b .dead):=by unfold ph; rw[h]
theorem Oe (h:H[b]? = some (.rng (.done .ret))):ph b H kn kx kg kr=kr (H.set b .dead):=by unfold ph; rw[h]
end
section
variable {cx:Cx} {call:bn} {q lo b:Nat} {first cap args:List A} {H:aB} {k pan:A->aB->Option Go.Proofs.YtebkhfhcipnfgaaGreat.R} {kL:Go.Proofs.YtebkhfhcipnfgaaGreat.R->Option ρ}
theorem J.dC (h1:cY cx.P q=true) (h2:cx.isOrc q=false) (h:J φ ((call q (first++args++cap) H lo).bind fun r=>ee r.1 (fun a=>k a r.2) (fun a=>pan a r.2)) kL R K):J φ (dA cx call (.fn (.func q) first cap) args H lo k pan) kL R K:=by
 unfold dA; simp only[h1,h2,Yi,Yh]; exact h
theorem J.dO (h1:cY cx.P q=true) (h2:cx.isOrc q=true) (h:J φ ((cx.C q ((first++args++cap).map (snap H))).bind fun a=>k a H) kL R K):J φ (dA cx call (.fn (.func q) first cap) args H lo k pan) kL R K:=by
 unfold dA; simp only[h1,h2,Yi]; exact h
theorem J.dY (h1:xY H b=true) (h:J φ ((call (cx.P.funcs.size+b) args H lo).bind fun r=>ee r.1 (fun a=>k a r.2) (fun _=>none)) kL R K):J φ (dA cx call (.yld b) args H lo k pan) kL R K:=by
 unfold dA; simp only[h1,Yi]; exact h
end
theorem zZ {cx:Cx} (horc:jV cx) (hmx:cx.P.follows .mixedOrders=true) {γ:Type} {n k:Nat} {args:List A} {f:γ->A} {F:Option γ} {y:γ}
  (h:J (fun (o:Go.Proofs.YtebkhfhcipnfgaaGreat.R) y=>∃ v,o.1=.ret v/\br o.2 v=f y) (aG cx (dH cx (n+8)) (bw cx (n+8)) (n+8) k args [] 0) some F some) (hF:F=some y):fm cx.P cx.glob k args (f y):=by
 obtain ⟨s,h1,v,h2,h3⟩:=h y (by rw[hF]; rfl)
 obtain ⟨o,H⟩:=s
 have h2:o=.ret v:=h2
 subst h2
 rw[show ∀ x:Option Go.Proofs.YtebkhfhcipnfgaaGreat.R,x.bind some=x from fun x=>by cases x<;>rfl] at h1
 have h1:dH cx (n+9) k args [] 0=some (.ret v,H):=zy h1
 have:=pI horc hmx h1
 rwa [show br H v=f y from h3] at this
abbrev wr (k:IntKind) (n:Int):Int:=k.wrap n
def po (k:IntKind) (x y:Int):Int:=k.wrap (x*2 ^ (min y.toNat k.bits))
def nM (k:IntKind) (x y:Int):Int:=x.fdiv (2 ^ (min y.toNat k.bits))
def pE (k:IntKind) (x y:Int):Int:=k.wrap ((BitVec.ofInt k.bits x &&& BitVec.ofInt k.bits y).toNat:Int)
def mX (k:IntKind) (x y:Int):Int:=k.wrap ((BitVec.ofInt k.bits x ||| BitVec.ofInt k.bits y).toNat:Int)
def ru (k:IntKind) (x y:Int):Int:=k.wrap ((BitVec.ofInt k.bits x ^^^ BitVec.ofInt k.bits y).toNat:Int)
section
variable {P:Program} {t:TypeId} {i j:Bool} {k k2:IntKind} {a b:Int}
theorem rJ (hb:0<=b):km P .shl t i j (.v (.int k a)) (.v (.int k2 b))=some (.v (.int k (po k a b))):=by
 have h:cP P (do eqGuard .shl t (rep i) (rep j) (.int k a) (.int k2 b); binOp .shl t (.int k a) (.int k2 b))=some (.int k (po k a b)):=by
  show cP P (binOp .shl t (.int k a) (.int k2 b))=_
  simp only[binOp,Op.shift,Yp (Int.not_lt.2 hb)]; rfl
 show (cP P _).map tR=_
 rw[h]; rfl
theorem lB (hb:0<=b):km P .shr t i j (.v (.int k a)) (.v (.int k2 b))=some (.v (.int k (nM k a b))):=by
 have h:cP P (do eqGuard .shr t (rep i) (rep j) (.int k a) (.int k2 b); binOp .shr t (.int k a) (.int k2 b))=some (.int k (nM k a b)):=by
  show cP P (binOp .shr t (.int k a) (.int k2 b))=_
  simp only[binOp,Op.shift,Yp (Int.not_lt.2 hb)]; rfl
 show (cP P _).map tR=_
 rw[h]; rfl
theorem n9:km P .and t i j (.v (.int k a)) (.v (.int k b))=some (.v (.int k (pE k a b))):=by
 have h:cP P (do eqGuard .and t (rep i) (rep j) (.int k a) (.int k b); binOp .and t (.int k a) (.int k b))=some (.int k (pE k a b)):=by
  show cP P (binOp .and t (.int k a) (.int k b))=_
  simp only[binOp,ne_eq,qaA,qap,Op.intBits]; rfl
 show (cP P _).map tR=_
 rw[h]; rfl
theorem ic:km P .or t i j (.v (.int k a)) (.v (.int k b))=some (.v (.int k (mX k a b))):=by
 have h:cP P (do eqGuard .or t (rep i) (rep j) (.int k a) (.int k b); binOp .or t (.int k a) (.int k b))=some (.int k (mX k a b)):=by
  show cP P (binOp .or t (.int k a) (.int k b))=_
  simp only[binOp,ne_eq,qaA,qap,Op.intBits]; rfl
 show (cP P _).map tR=_
 rw[h]; rfl
theorem oa:km P .xor t i j (.v (.int k a)) (.v (.int k b))=some (.v (.int k (ru k a b))):=by
 have h:cP P (do eqGuard .xor t (rep i) (rep j) (.int k a) (.int k b); binOp .xor t (.int k a) (.int k b))=some (.int k (ru k a b)):=by
  show cP P (binOp .xor t (.int k a) (.int k b))=_
  simp only[binOp,ne_eq,qaA,qap,Op.intBits]; rfl
 show (cP P _).map tR=_
 rw[h]; rfl
end
theorem fF {n:Int} (h:(decide (0<=n)&&decide (n<256))=true):((UInt8.ofNat n.toNat).toNat:Int)=n:=by
 simp only[Yj,Yn] at h
 rw[UInt8.toNat_ofNat',qaI r7]
 omega
def bf {T:Type} (l:List T) (i:Int):Option T:=bif decide (0<=i) then l[i.toNat]? else none
def imm {T:Type} (f:T->List A) (l:List T):A:=.imm (l.map f) false
theorem Gl {P:Program} {t e:TypeId} {es:Nat} {T:Type} (f:T->List A) (l:List T) (c:Bool) (k:IntKind) (i:Int) (H:aB) (h1:P.underlying t=some (.slice e)) (h2:cM P e=some es) (h3:∀ x,(f x).length=es) :
  c9 P t (.imm (l.map f) c) (.v (.int k i)) H=(bf l i).map fun x=>.ip (f x):=by
 unfold c9 idx bf
 rw[h1]
 by_cases hi:0<=i
 ·simp only[hi,YW,Yi,Yf,gh,h2,YJ]
  cases l[i.toNat]? with
  | none=>rfl
  | some x=>simp[h3]
 ·simp only[hi,Zw,Yh,qaF,qby]
theorem Gs {P:Program} {t e:TypeId} {T:Type} (f:T->List A) (l:List T) (c:Bool) (H:aB) (h1:P.underlying t=some (.slice e)):rM P t (.imm (l.map f) c) H=some (.v (.int .i64 l.length)):=by
 unfold rM
 rw[h1]
 simp[gh]
section
variable {P:Program} {t e es by_:Nat} {T:Type} {f:T->List A}
def iB (l:List T) (lo hi:Int):Option (List T):=bif decide (0<=lo)&&decide (lo<=hi)&&decide (hi<=l.length) then some ((l.drop lo.toNat).take (hi.toNat - lo.toNat)) else none
def cQ (b:Nat) (l l2:List T):Option (List T):=bif decide ((l.length+l2.length)*b<=di) then some (l++l2) else none
def mI (f:T->List A):Prop:=∀ x,(f x).all A.cell=true
theorem I0 (k:IntKind):mI (cI k):=fun _=>rfl
theorem IZ:mI c8:=fun _=>rfl
theorem qu (hl:∀ x,(f x).length=es) (hc:mI f) (l:List T):((l.map f).all fun cs=>cs.length==es&&cs.all A.cell)=true:=by
 rw[List.all_map]
 exact Yw.2 fun x _=>by simp[hl,hc x]
def pv (H:aB) (y:A) (f:T->List A) (l:List T):Prop:=els? H y=some (l.map f)
theorem bH (l:List T) (c:Bool) (H:aB):pv H (.imm (l.map f) c) f l:=rfl
theorem ry (s:ByteArray) (H:aB):pv H (.v (.string s)) c8 s.data.toList:=rfl
theorem AM {P:Program} {H:aB} {t2 by_:Nat} {z:List A} {y:A} (h:nK P t2=true):zv P H t2 by_ z y=els? H y:=by unfold zv; rw[h]; rfl
theorem uo (hl:∀ x,(f x).length=es) (hc:mI f) (h0:es≠0) (hb:by_≠0) {z:List A} (hz:z.length=es) (l2:List T) :
  (es==0 || by_==0 || !(z.length==es) || !((l2.map f).all fun cs=>cs.length==es&&cs.all A.cell))=false:=by
 rw[qu hl hc]
 simp[h0,hb,hz]
theorem FV {t2:Nat} {z:List A} (h1:j0 P t=some e) (h2:cM P e=some es) (h3:jY P e=some by_) (h4:hU P e=some z) (hz:z.length=es) (h0:es≠0) (hb:by_≠0) (hn:nK P t2=true)
  (hl:∀ x,(f x).length=es) (hc:mI f) {H:aB} {lo:Nat} {l l2:List T} {y:A} (hy:pv H y f l2) :
  bN P t t2 false (.imm (l.map f) true) y H lo=(cQ by_ l l2).map fun r=>(.sl H.length 0 r.length false,H++[.row false es (r.map f)]):=by
 unfold bN
 rw[h1,Yf,h2,Yf,h3,Yf,h4,Yf,AM hn,show els? H y=_ from hy,Yf,uo hl hc h0 hb hz,Yh]
 simp only[ZR,qbF,Yh,qu hl hc,Yi,cQ]
 cases decide ((l.length+l2.length)*by_<=di)<;>simp
theorem FW {t2:Nat} {z:List A} (h1:j0 P t=some e) (h2:cM P e=some es) (h3:jY P e=some by_) (h4:hU P e=some z) (hz:z.length=es) (h0:es≠0) (hb:by_≠0) (hn:nK P t2=true)
  (hl:∀ x,(f x).length=es) (hc:mI f) {wr:Bool} {H:aB} {lo b:Nat} {l l2:List T} {y:A} (hH:H[b]? = some (.row false es (l.map f))) (hlo:lo<=b) (hy:pv H y f l2) :
  bN P t t2 wr (.sl b 0 l.length false) y H lo=(cQ by_ l l2).map fun r=>(.sl b 0 r.length false,H.set b (.row false es (r.map f))):=by
 unfold bN
 rw[h1,Yf,h2,Yf,h3,Yf,h4,Yf,AM hn,show els? H y=_ from hy,Yf,uo hl hc h0 hb hz,Yh]
 simp only[hH,ZR,cQ]
 cases hd:decide ((l.length+l2.length)*by_<=di)<;>simp[hlo]
structure uZ (P:Program) (t t2 e es by_:Nat) (z:List A) (f:T->List A):Prop where
 h1:j0 P t=some e
 h2:cM P e=some es
 h3:jY P e=some by_
 h4:hU P e=some z
 hz:z.length=es
 h0:es≠0
 hb:by_≠0
 hn:nK P t2=true
 hl:∀ x,(f x).length=es
 hc:mI f
theorem kF {t2:Nat} {z:List A} (a:uZ P t t2 e es by_ z f) {H:aB} {lo:Nat} {l l2:List T} {y:A} (hy:pv H y f l2) :
  bN P t t2 false (.imm (l.map f) true) y H lo=(cQ by_ l l2).map fun r=>(.sl H.length 0 r.length false,H++[.row false es (r.map f)]):=FV a.h1 a.h2 a.h3 a.h4 a.hz a.h0 a.hb a.hn a.hl a.hc hy
theorem bZ {t2:Nat} {z:List A} (a:uZ P t t2 e es by_ z f) {wr:Bool} {H:aB} {lo b:Nat} {l l2:List T} {y:A} (hH:H[b]? = some (.row false es (l.map f))) (hlo:lo<=b) (hy:pv H y f l2) :
  bN P t t2 wr (.sl b 0 l.length false) y H lo=(cQ by_ l l2).map fun r=>(.sl b 0 r.length false,H.set b (.row false es (r.map f))):=FW a.h1 a.h2 a.h3 a.h4 a.hz a.h0 a.hb a.hn a.hl a.hc hH hlo hy
theorem B8 {d:Nat} {k:IntKind} {n:Int}:kN d (some (.v (.int k n)))=bif decide (0<=n) then some n.toNat else none:=rfl
theorem dr {P:Program} {t e:TypeId} {es:Nat} {T:Type} {f:T->List A} {l:List T} {c:Bool} {k:IntKind} {i:Int} {H:aB} (h1:P.underlying t=some (.slice e):=by kernel_rfl) (h2:cM P e=some es:=by kernel_rfl) (h3:∀ x,(f x).length=es:=by exact fun _=>rfl) :
  c9 P t (.imm (l.map f) c) (.v (.int k i)) H=(bf l i).map fun x=>.ip (f x):=Gl f l c k i H h1 h2 h3
theorem dn {P:Program} {t e:TypeId} {T:Type} {f:T->List A} {l:List T} {c:Bool} {H:aB} (h1:P.underlying t=some (.slice e):=by kernel_rfl):rM P t (.imm (l.map f) c) H=some (.v (.int .i64 l.length)):=Gs f l c H h1
theorem pL (h1:P.underlying t=some (.slice e)) (h2:cM P e=some es) (hl:∀ x,(f x).length=es) {H:aB} {l:List T} {lo hi:Option A} {a b:Int} (ha:(lo=none/\a=0)∨∃ k,lo=some (.v (.int k a))) (hb:(hi=none/\b=l.length)∨∃ k,hi=some (.v (.int k b))) :
  fb P t (.imm (l.map f) false) lo hi none H=(iB l a b).map fun r=>.imm (r.map f) false:=by
 unfold fb
 rw[h1]
 simp only[h2,Yf,ZR,qbF]
 have e1:kN l.length hi=bif decide (0<=b) then some b.toNat else none:=by
  rcases hb with ⟨rfl,rfl⟩ | ⟨k,rfl⟩
  ·simp[kN]
  ·rfl
 have e2:kN 0 lo=bif decide (0<=a) then some a.toNat else none:=by
  rcases ha with ⟨rfl,rfl⟩ | ⟨k,rfl⟩
  ·simp[kN]
  ·rfl
 have e3:∀ i:Nat,(i==0 || match (l.map f)[i]? with | some cs=>cs.length==es | none=>true)=true:=fun i=>by
  rw[YJ]
  cases l[i]?<;>simp[hl]
 rw[e1,e2]
 unfold iB
 by_cases hb0:0<=b
 ·by_cases ha0:0<=a
  ·have q1:(decide (a.toNat<=b.toNat))=decide (a<=b):=by rw[qaJ]; omega
   have q2:(decide (b.toNat<=l.length))=decide (b<=(l.length:Int)):=X3
   simp only[hb0,ha0,YW,Yi,Yf,YP,q1,q2,qaL,qbh]
   have e4:=e3 a.toNat
   rw[YJ] at e4 ⊢
   cases hx:l[a.toNat]?<;>rw[hx] at e4<;>cases (decide (a<=b)&&decide (b<=(l.length:Int)))<;>simp[hl]
  ·simp[hb0,ha0]
 ·have:(decide (0<=a)&&decide (a<=b)&&decide (b<=(l.length:Int)))=false:=by
   rw[ZP]; intro hh; simp only[Yj,Yn] at hh; omega
  simp[hb0,this]
theorem pM (h1:P.underlying t=some (.slice e)) (h2:cM P e=some es) (hl:∀ x,(f x).length=es) {H:aB} {l:List T} {lo:Option A} {a b:Int} {k1 k2:IntKind} {c:Bool} (ha:(lo=none/\a=0)∨∃ k,lo=some (.v (.int k a))) :
  fb P t (.imm (l.map f) c) lo (some (.v (.int k1 b))) (some (.v (.int k2 b))) H=(iB l a b).map fun r=>.imm (r.map f) true:=by
 unfold fb
 rw[h1]
 simp only[h2,Yf,ZR,B8,idx]
 have e2:kN 0 lo=bif decide (0<=a) then some a.toNat else none:=by
  rcases ha with ⟨rfl,rfl⟩ | ⟨k,rfl⟩
  ·simp[kN]
  ·rfl
 have e3:∀ i:Nat,(i==0 || match (l.map f)[i]? with | some cs=>cs.length==es | none=>true)=true:=fun i=>by
  rw[YJ]
  cases l[i]?<;>simp[hl]
 rw[e2]
 unfold iB
 by_cases hb0:0<=b
 ·by_cases ha0:0<=a
  ·have q1:(decide (a.toNat<=b.toNat))=decide (a<=b):=by rw[qaJ]; omega
   have q2:(decide (b.toNat<=l.length))=decide (b<=(l.length:Int)):=X3
   simp only[hb0,ha0,YW,Yi,Yf,YP,q1,q2,qaL,qbh,Zk]
   rw[YJ]
   cases hx:l[a.toNat]?<;>cases (decide (a<=b)&&decide (b<=(l.length:Int)))<;>simp[hl]
  ·simp[hb0,ha0]
 ·have:(decide (0<=a)&&decide (a<=b)&&decide (b<=(l.length:Int)))=false:=by
   rw[ZP]; intro hh; simp only[Yj,Yn] at hh; omega
  simp[hb0,this]
theorem bU (hf:cj f) {H:aB} {b n:Nat} {l:List T} (h:H[b]? = some (.row false es (l.map f))):iI (n+1) H b 0 l.length=.imm (l.map f) false:=by
 unfold iI
 rw[h]
 simp only[YL]
 rw[Y3 r9,cJ hf]
theorem bP (hf:cj f) {H:aB} {b n:Nat} {wr:Bool} {l:List T} (h:H[b]? = some (.row wr es (l.map f))):iz (n+1) H b 0 l.length=.imm (l.map f) false:=by
 unfold iz
 rw[h]
 simp only[YL]
 rw[Y3 r9,cJ hf]
theorem tr (hf:cj f) {H:aB} {b n o m:Nat} {wr:Bool} {l:List T} (h:H[b]? = some (.row wr es (l.map f))):iz (n+1) H b o m=.imm (((l.drop o).take m).map f) false:=by
 unfold iz
 rw[h]
 simp only[<-qbh,<-qaL]
 rw[cJ hf]
def nB (n:Nat) (i:Int):Option Nat:=bif decide (0<=i)&&decide (i<n) then some i.toNat else none
def yc (l:List T) (i:Nat) (u:T->T):Option (List T):=match l[i]? with | some y=>some (l.set i (u y)) | none=>none
def EK (b:Nat) (n:Int) (z:T):Option (List T):=bif decide (0<=n)&&decide (n*b<=di)&&decide (n<=di) then some (List.replicate n.toNat z) else none
def qY (l:List T) (o n:Nat) (l2:List T):List T:=bB l o (l2.take n)
theorem Gk {n:Nat} {i:Int}:(bif decide (0<=i) then some i.toNat else none:Option Nat).bind (fun j=>bif decide (j<n) then some j else none)=nB n i:=by
 unfold nB
 by_cases h:0<=i
 ·have:decide (i.toNat<n)=decide (i<n):=by rw[qaJ]; omega
  simp[h,this]
 ·simp[h]
theorem Ft {H:aB} {b o n:Nat} {l:List T} {c:Bool} {k:IntKind} {i:Int} (h1:P.underlying t=some (.slice e)) (h2:cM P e=some es) (h:H[b]? = some (.row true es (l.map f))) :
  c9 P t (.sl b o n c) (.v (.int k i)) H=(nB n i).map fun j=>.ep b (o+j) 0:=by
 unfold c9 idx
 rw[h1,<-Gk]
 by_cases hi:0<=i
 ·simp only[hi,YW,Yi,Yf,gh,h2,h,Zk]
  cases decide (i.toNat<n)<;>rfl
 ·simp only[hi,Zw,Yh,qaF,qby]
theorem hJ {H:aB} {b n:Nat} {l:List T} {c:Bool} {k:IntKind} {i:Int} (h1:P.underlying t=some (.slice e)) (h2:cM P e=some es) (h:H[b]? = some (.row true es (l.map f))) :
  c9 P t (.sl b 0 n c) (.v (.int k i)) H=(nB n i).map fun j=>.ep b j 0:=by
 rw[Ft h1 h2 h]
 cases nB n i<;>simp
theorem jS {H:aB} {b i o n:Nat} {l:List T} {g:T->A} (h2:cM P t=some n) (h0:n≠0) (hl:∀ x,(f x).length=es) (ho:o+n<=es) (h:H[b]? = some (.row true es (l.map f))) (hg:∀ x,join P t (((f x).drop o).take n)=some (g x)) :
  lC P t (.ep b i o) H=(l[i]?).map g:=by
 unfold lC
 rw[h2,Yf]
 have:(n==0)=false:=by simpa using h0
 simp only[this,Yh,h,YJ]
 cases l[i]? with
 | none=>rfl
 | some x=>simp only[Y6,hl,Yl ho,Yi,hg]
theorem tE {H:aB} {b i o n lo:Nat} {l:List T} {x:A} {xs:List A} {u:T->T} (h2:cM P t=some n) (hx:x.cells? = some xs) (h0:n≠0) (hxl:xs.length=n) (hl:∀ x,(f x).length=es) (ho:o+n<=es) (hlo:lo<=b) (h:H[b]? = some (.row true es (l.map f))) (hu:∀ y,bB (f y) o xs=f (u y)) :
  jz P t (.ep b i o) x H lo=(yc l i u).map fun r=>H.set b (.row true es (r.map f)):=by
 unfold jz yc
 rw[h2,Yf,hx,Yf]
 have:(n==0 || !(xs.length==n))=false:=by simp[h0,hxl]
 simp only[this,Yh,h,YJ]
 cases l[i]? with
 | none=>rfl
 | some y=>simp only[Y6,hl,Yl ho,Yl hlo,Z0,Yi,hu,List.map_set]
theorem Cf {H:aB} {b o n lo:Nat} {l l2:List T} {c:Bool} {y:A} (h1:j0 P t=some e) (h2:cM P e=some es) (h0:es≠0) (hl:∀ x,(f x).length=es) (hc:mI f) (hlo:lo<=b) (h:H[b]? = some (.row true es (l.map f))) (hy:pv H y f l2) :
  m8 P t (.sl b o n c) y H lo=some (.v (.int .i64 ((min l2.length n:Nat):Int)),H.set b (.row true es ((qY l o n l2).map f))):=by
 unfold m8
 rw[h1,Yf,h2,Yf,show els? H y=_ from hy,Yf]
 have:(es==0 || !((l2.map f).all fun cs=>cs.length==es&&cs.all A.cell))=false:=by rw[qu hl hc]; simp[h0]
 simp only[this,Yh,h,Yl hlo,YP,Zk,Yi,ZR,qY,bB,qaT,qaL,qbh,Zq]
theorem uY {H:aB} {k1 k2:IntKind} {n:Int} {z:T} (h1:j0 P t=some e) (h2:cM P e=some es) (h3:jY P e=some by_) {z':List A} (h4:hU P e=some z') (hz:z'.map tX=f z) (h0:es≠0) (hl:∀ x,(f x).length=es) :
  ek P t (.v (.int k1 n)) (.v (.int k2 n)) H=(EK by_ n z).map fun r=>(.sl H.length 0 r.length false,H++[.row true es (r.map f)]):=by
 unfold ek fj EK idx
 rw[h1,Yf,h2,Yf,h3,Yf,h4,Yf]
 have hzl:z'.length=es:=by have:=hl z; rw[<-hz] at this; simpa using this
 by_cases hn:0<=n
 ·have e1:decide (n.toNat*by_<=di)=decide (n*by_<=di):=by
   obtain ⟨m,rfl⟩:∃ m:Nat,n=m:=⟨n.toNat,r7⟩
   rw[qaJ,qaB]
   exact⟨fun h=>by exact_mod_cast h,fun h=>by exact_mod_cast h⟩
  have e2:decide (n.toNat<=di)=decide (n<=di):=X3
  simp only[hn,YW,Yi,Yf,hz,hzl,Zk,Yv,qbi,e1,e2,Yk,YP]
  have:(es==0)=false:=by simpa using h0
  rw[this]
  cases decide (n*by_<=di)<;>cases decide (n<=di)<;>simp
 ·simp[hn]
theorem Ao {H:aB} {k1 k2:IntKind} {n:Int} {z:T} (h1:j0 P t=some e) (h2:cM P e=some es) (h3:jY P e=some by_) {z':List A} (h4:hU P e=some z') (hz:z'.map tX=f z) (h0:es≠0) (hl:∀ x,(f x).length=es) :
  ig P t (.v (.int k1 n)) (.v (.int k2 n)) H=(EK by_ n z).map fun r=>(.imm (r.map f) false,H):=by
 unfold ig EK idx
 rw[h1,Yf,h2,Yf,h3,Yf,h4,Yf]
 have hzl:z'.length=es:=by have:=hl z; rw[<-hz] at this; simpa using this
 by_cases hn:0<=n
 ·have e1:decide (n.toNat*by_<=di)=decide (n*by_<=di):=by
   obtain ⟨m,rfl⟩:∃ m:Nat,n=m:=⟨n.toNat,r7⟩
   rw[qaJ,qaB]
   exact⟨fun h=>by exact_mod_cast h,fun h=>by exact_mod_cast h⟩
  have e2:decide (n.toNat<=di)=decide (n<=di):=X3
  simp only[hn,YW,Yi,Yf,hz,hzl,Zk,Yv,qbi,e1,e2,YP]
  have:(es==0)=false:=by simpa using h0
  rw[this]
  cases decide (n*by_<=di)<;>cases decide (n<=di)<;>simp
 ·simp[hn]
theorem HK {H:aB} {b:Nat} {l:List T} {c:Bool} {k:IntKind} {i:Int} (h1:P.underlying t=some (.slice e)) (h2:cM P e=some es) (h:H[b]? = some (.row false es (l.map f))) :
  c9 P t (.sl b 0 l.length c) (.v (.int k i)) H=(bf l i).map fun x=>.ip (f x):=by
 unfold c9 idx bf
 rw[h1]
 by_cases hi:0<=i
 ·simp only[hi,YW,Yi,Yf,gh,h2,h,Y9,Zk,YJ,Option.map_map]
  by_cases hl:i.toNat<l.length
  ·simp[hl,Function.comp_def]
  ·simp[hl,Nat.not_lt.1 hl]
 ·simp only[hi,Zw,Yh,qaF,qby]
end
def gp (l:List UInt8):ByteArray:=⟨l.toArray⟩
def lF (s:ByteArray):List UInt8:=s.data.toList
theorem rW:∀ l:List UInt8,bytesOf (l.map c8)=some l
 | []=>rfl
 | a :: l=>by
  rw[Zc]
  show (bytesOf (l.map c8)).map (((a.toNat:Int).toNat.toUInt8) :: ·)=_
  rw[rW l]
  simp
theorem nV {P:Program} {s d e:Nat} (h1:P.underlying s=some (.slice e)) (h2:P.underlying d=some .string) (h3:P.underlying e=some (.int .u8)) (h4:cM P e=some 1) {H:aB} {x:A} {l:List UInt8} (hx:pv H x c8 l) (hn:xm H x=els? H x) :
  bz P s d x H=some (.v (.string (gp l))):=by
 unfold bz
 rw[h1,h2]
 simp only[h3,h4,hn]
 rw[show els? H x=_ from hx,Yf,rW]
 rfl
def Fm (y:Nat):A:=bif Nat.beq y 0 then .v .nilFunc else .fn (.func y) [] []
theorem Ai (L e:Nat):A.under L (Fm e)=true:=by unfold Fm; cases Nat.beq e 0<;>rfl
theorem eY:(∀ (L e:Nat),A.under L (Fm e)=true)/\(∀ {T:Type} {f:T->List A} (hf:dv f) (L:Nat) (l:List T),aM L (l.map f)=true)/\(∀ (L:Nat) (a b:List A),bt L (a++b)=(bt L a&&bt L b))/\(∀ k,dv (cI k))/\dv c8/\dv cB/\dv cS/\(∀ {T:Type} {f:T->List A} (hf:dv f),dv (cL f))/\(∀ b:Bool,(b&&true)=b)/\(∀ b:Bool,(true&&b)=b)/\(∀ {β:Type} (x y:β),(bif true then x else y)=x):=
 ⟨Ai,dk,tB,mQ,mO,mP,mS,mR,fun b=>Zt b,fun b=>YP b,fun _ _=>rfl⟩
theorem uB:(∀ (L:Nat) (cs:List A),aC.under L (.box cs)=bt L cs)/\(∀ (L:Nat) (b:Bool) (e:Nat) (l:List (List A)),aC.under L (.row b e l)=aM L l)/\(∀ (L:Nat) (r:jW),aC.under L (.rng r)=true)/\(∀ L:Nat,aC.under L .dead=true)/\(∀ (L:Nat) (k:IntKind) (ks:List Int) (vs:List A),aC.under L (.mp k ks vs)=bt L vs) ∧
  (∀ L:Nat,bt L []=true)/\(∀ (L:Nat) (a:A) (as:List A),bt L (a :: as)=(A.under L a&&bt L as))/\(∀ L:Nat,aM L []=true)/\(∀ (L:Nat) (a:List A) (as:List (List A)),aM L (a :: as)=(bt L a&&aM L as)) ∧
  (∀ L:Nat,A.under L .any=true)/\(∀ (L:Nat) (v:Value),A.under L (.v v)=true)/\(∀ L b o:Nat,A.under L (.ptr b o)=decide (b<L))/\(∀ L b i o:Nat,A.under L (.ep b i o)=decide (b<L))/\(∀ (L b o n:Nat) (c:Bool),A.under L (.sl b o n c)=decide (b<L))/\(∀ L b:Nat,A.under L (.mr b)=decide (b<L)) ∧
  (∀ (L:Nat) (cs:List A),A.under L (.ip cs)=bt L cs)/\(∀ (L:Nat) (cs:List A),A.under L (.agg cs)=bt L cs)/\(∀ (L:Nat) (cs:List A),A.under L (.tup cs)=bt L cs)/\(∀ (L:Nat) (l:List (List A)) (c:Bool),A.under L (.imm l c)=aM L l)/\(∀ (L:Nat) (f:Fn) (a b:List A),A.under L (.fn f a b)=(bt L a&&bt L b))/\(∀ (L:Nat) (t:TypeId) (x:A),A.under L (.ifc t x)=A.under L x) ∧
  (∀ f:aC->Bool,[].all f=true)/\(∀ (f:aC->Bool) (b:aC) (H:aB),(b :: H).all f=(f b&&H.all f)):=by
 refine⟨?_,?_,?_,?_,?_,?_,?_,?_,?_,?_,?_,?_,?_,?_,?_,?_,?_,?_,?_,?_,?_,?_,?_⟩<;>intros<;>first | rfl | (simp only[aC.under,A.under,bt,aM]; done)
theorem dB {L:Nat} {H H':aB} (h:H.take L=H') (hu:H'.all (aC.under L)=true):trim L H=some H':=by
 unfold trim
 rw[h,hu]
 cases hL:H.length==L with
 | false=>rfl
 | true=>rw[<-h,Y3 (qaV (eq_of_beq hL))]; rfl
theorem HJ {L:Nat} {v:A} {H:aB} (h:A.under L v=true):Ae L (Out.ret v,H)=some v:=by
 unfold Ae
 simp only[h,Yi]
theorem J.ds {cx:Cx} {call:bn} {e:Nat} (q:Nat) {args:List A} {H:aB} {lo:Nat} {k pan:A->aB->Option Go.Proofs.YtebkhfhcipnfgaaGreat.R} {kL:Go.Proofs.YtebkhfhcipnfgaaGreat.R->Option ρ} (h:decide (e=q)=true) (hq:Nat.beq q 0=false)
  (hk:J φ (dA cx call (.fn (.func q) [] []) args H lo k pan) kL R K):J φ (dA cx call (Fm e) args H lo k pan) kL R K:=by
 rw[Yr h]
 unfold Fm
 rw[hq]
 exact hk
abbrev iA (n:Int):A:=A.v (Value.int .i64 n)
abbrev uA (n:Int):A:=A.v (Value.int .u8 n)
abbrev bA (b:Bool):A:=A.v (Value.bool b)
def getM {T:Type}:List (Int×T)->Int->Option T
 | [],_=>none
 | p :: l,a=>bif decide (a=p.1) then some p.2 else getM l a
def iG {T:Type}:List (Int×T)->Int->T->List (Int×T)
 | [],a,x=>[(a,x)]
 | p :: l,a,x=>bif decide (a=p.1) then (p.1,x) :: l else p :: iG l a x
abbrev gP {T:Type} (k:IntKind) (f:T->A) (l:List (Int×T)):aC:=.mp k (l.map Prod.fst) (l.map fun p=>f p.2)
theorem oG {T:Type} {f:T->A} {a:Int}:∀ l:List (Int×T),mh a (l.map Prod.fst) (l.map fun p=>f p.2)=(getM l a).map f
 | []=>rfl
 | p :: l=>by
  show (bif decide (a=p.1) then some (f p.2) else mh a (l.map Prod.fst) (l.map fun p=>f p.2))=(bif decide (a=p.1) then some p.2 else getM l a).map f
  cases decide (a=p.1)
  ·exact oG l
  ·rfl
theorem yn {T:Type} {f:T->A} {a:Int} {x:T}:∀ l:List (Int×T),wx a (f x) (l.map Prod.fst) (l.map fun p=>f p.2)=((iG l a x).map Prod.fst,(iG l a x).map fun p=>f p.2)
 | []=>rfl
 | p :: l=>by
  show (bif decide (a=p.1) then (p.1 :: l.map Prod.fst,f x :: l.map fun p=>f p.2) else (p.1 :: (wx a (f x) (l.map Prod.fst) (l.map fun p=>f p.2)).1,f p.2 :: (wx a (f x) (l.map Prod.fst) (l.map fun p=>f p.2)).2))=((bif decide (a=p.1) then (p.1,x) :: l else p :: iG l a x).map Prod.fst,(bif decide (a=p.1) then (p.1,x) :: l else p :: iG l a x).map fun p=>f p.2)
  cases decide (a=p.1)
  ·rw[yn l]; rfl
  ·rfl
theorem wi {P:Program} {t vt:TypeId} {k:IntKind} {T:Type} {f:T->A} {l:List (Int×T)} {a:Int} {x:T} {H:aB} {b lo:Nat} (hk:wc P t=some (k,vt)) (hb:H[b]? = some (gP k f l)) (hl:Nat.ble lo b=true) :
  iZ P t (.mr b) (.v (.int k a)) (f x) H lo=some (H.set b (gP k f (iG l a x))):=by
 unfold iZ
 rw[hk]
 simp only[Yf,keyOf,YW,Yi,hb,Yl (YK hl),Z0,yn]
theorem EL {P:Program} {t vt:TypeId} {k:IntKind} {T:Type} {f:T->A} {l:List (Int×T)} {a:Int} {z:T} {v:Value} {H:aB} {b:Nat} (hk:wc P t=some (k,vt)) (hb:H[b]? = some (gP k f l)) (hz:((P.info? vt).bind fun i=>i.zero)=some v) (hv:tR v=f z) :
  fp P t (.mr b) (.v (.int k a)) true H=some (.tup [f ((getM l a).getD z),.v (.bool (getM l a).isSome)]):=by
 unfold fp
 rw[hk]
 simp only[Yf,keyOf,YW,Yi,hb,oG]
 cases getM l a with
 | some y=>rfl
 | none=>
  show ((P.info? vt).bind fun i=>i.zero.map fun z=>A.tup [tR z,.v (.bool false)])=_
  cases hi:P.info? vt with
  | none=>rw[hi] at hz; cases hz
  | some i=>
   rw[hi] at hz
   rw[Yf,show i.zero=some v from hz,Y6,hv]; rfl
theorem A3 {P:Program} {t vt:TypeId} {k:IntKind} {T:Type} {f:T->A} {l:List (Int×T)} {a:Int} {z:T} {v:Value} {H:aB} {b:Nat} (hk:wc P t=some (k,vt)) (hb:H[b]? = some (gP k f l)) (hz:((P.info? vt).bind fun i=>i.zero)=some v) (hv:tR v=f z) :
  fp P t (.mr b) (.v (.int k a)) false H=some (f ((getM l a).getD z)):=by
 unfold fp
 rw[hk]
 simp only[Yf,keyOf,YW,Yi,hb,oG]
 cases getM l a with
 | some y=>rfl
 | none=>
  show ((P.info? vt).bind fun i=>i.zero.map fun z=>tR z)=_
  cases hi:P.info? vt with
  | none=>rw[hi] at hz; cases hz
  | some i=>
   rw[hi] at hz
   rw[Yf,show i.zero=some v from hz,Y6,hv]; rfl
theorem wG (L:Nat):∀ l:List (Int×Int),bt L (l.map fun p=>A.v (Value.int .i64 p.2))=true
 | []=>rfl
 | p :: l=>wG L l
theorem DM {β:Type} {cx:Cx} {k m n lo:Nat} {args:List A} {H5 X:aB} {Y:Option β} {o:β->Out} {H':β->aB} (hk:Nat.ble cx.P.funcs.size k=false) (hm:cx.cut k=m) (hm0:Nat.beq m 0=false) (hl:H5.length=m) (ha:bt m args=true) (hh:H5.all (aC.under m)=true)
  (hl':∀ y,(H' y).length=m) (hv:∀ y,lU m (o y)=true) (hh':∀ y,(H' y).all (aC.under m)=true) (h:J (fun (r:Out×aB) y=>∃ Z,r=(o y,H' y++Z)) (aG cx (dH cx n) (bw cx n) n k args H5 lo) some Y some) :
  J (fun (r:Out×aB) y=>r=(o y,H' y++X)) (dH cx (n+1) k args (H5++X) lo) some Y some:=by
 intro r hr
 obtain ⟨s,h1,Z,rfl⟩:=h r hr
 refine⟨_,?_,rfl⟩
 have h2:aG cx (bw cx n Gx) (bw cx n) n k args H5 lo=some (o r,H' r++Z):=by
  rw[Option.bind_fun_some] at h1
  exact h1
 have hc:gD cx k (H5++X)=true:=by
  unfold gD
  rw[hm,hm0,Zm X5]
  rfl
 have hc2:cutAt cx k (H5++X)=m:=by
  unfold cutAt
  rw[hm,Zm X5]
  rfl
 have t1:(H5++X).take m=H5:=by rw[<-hl,List.take_left]
 have t2:(H5++X).drop m=X:=by rw[<-hl,List.drop_left]
 have t3:(H' r++Z).take m=H' r:=by rw[<-hl' r,List.take_left]
 have t4:Nat.ble m (H' r++Z).length=true:=Zm (by rw[YF,hl']; omega)
 unfold dH
 rw[bw,hk,hc]
 simp only[Yi,Yh]
 unfold nW
 rw[hc2,t1,t2,ha,hh]
 show ((bif true&&true then (aG cx (bw cx n Gx) (bw cx n) n k args H5 lo).bind _ else none).bind some)=_
 rw[h2]
 simp only[Z0,Yi,Yf,t4,t3,hh',hv]
def p8 {β:Type} (m:Nat) (r:Go.Proofs.YtebkhfhcipnfgaaGreat.R) (k:Go.Proofs.YtebkhfhcipnfgaaGreat.R->Option β):Option β:=bif Nat.ble m r.2.length&&(r.2.take m).all (aC.under m)&&lU m r.1 then k (r.1,r.2.take m) else none
theorem J.td {m:Nat} {x:Option Go.Proofs.YtebkhfhcipnfgaaGreat.R} {k:Go.Proofs.YtebkhfhcipnfgaaGreat.R->Option σ} (h:J φ x (fun r=>(p8 m r k).bind kL) R K):J φ ((x.bind fun r=>p8 m r some).bind k) kL R K:=by
 refine J.lp ?_ (J.bb h)
 cases x with
 | none=>rfl
 | some r=>
  show (p8 m r some).bind k=p8 m r k
  unfold p8
  cases Nat.ble m r.2.length&&(r.2.take m).all (aC.under m)&&lU m r.1<;>rfl
theorem J.Wr {m k n lo:Nat} {cx:Cx} {base:bn} {args:List A} {H:aB} {x:Option Go.Proofs.YtebkhfhcipnfgaaGreat.R} {k':Go.Proofs.YtebkhfhcipnfgaaGreat.R->Option σ} (h:bw cx (n+1) base k args H lo=x.bind fun r=>p8 m r some) (hk:J φ x (fun r=>(p8 m r k').bind kL) R K):J φ ((bw cx (n+1) base k args H lo).bind k') kL R K:=J.lp (YX (fun z=>Option.bind z k') h) (J.td hk)
theorem J.ct {m k n lo:Nat} {cx:Cx} {args:List A} {H:aB} {x:Option Go.Proofs.YtebkhfhcipnfgaaGreat.R} {k':Go.Proofs.YtebkhfhcipnfgaaGreat.R->Option σ} (h:bw cx (n+1) Gx k args H lo=x.bind fun r=>p8 m r some) (hk:J φ x (fun r=>(p8 m r k').bind kL) R K):J φ ((dH cx (n+1) k args H lo).bind k') kL R K:=J.Wr h hk
def T0 {T:Type} (f:T->List A):Prop:=∀ x,(f x).all (fun a=>match a with | .v _=>true | .imm _ _=>true | _=>false)=true
theorem yB {T:Type} {f:T->List A} (hf:cj f) (hp:T0 f) (n:Nat) (H:aB) (x:T):(f x).map (jx (n+1) H)=f x:=by
 have h1:=hf (iz 4 H) x
 have h2:=hp x
 generalize f x=l at h1 h2
 induction l with
 | nil=>rfl
 | cons a as ih=>
  rw[bq,Y8] at h1
  rw[Z8,Yj] at h2
  rw[Zc,ih h1.2 h2.2]
  congr 1
  cases a with
  | v x=>exact h1.1
  | imm x y=>exact h1.1
  | _=>cases h2.1
theorem qL {T:Type} {f:T->List A} (hf:cj f) (hp:T0 f) {H:aB} {b n:Nat} {cs:List A} (x:T) (h:H[b]? = some (.box cs)) (hx:cs=f x):jx (n+2) H (.ptr b 0)=.ip (f x):=by
 subst hx
 show (match H[b]? with | some (.box cs)=>A.ip ((cs.drop 0).map (jx (n+1) H)) | _=>.any)=_
 rw[h]
 exact YX A.ip (yB hf hp n H x)
theorem DP {T U:Type} {f:T->U} {a:T} {b:U} {l:List T} {m:List U} (h:f a=b) (t:l.map f=m):(a :: l).map f=b :: m:=by rw[Zc,h,t]
theorem Bj {α:Type} (x:α):∀ (a l:List α) (b:Nat),a.length<=b->(a++l).set b x=a++l.set (b - a.length) x
 | [],l,b,_=>rfl
 | y :: a,l,0,h=>by simp at h
 | y :: a,l,b+1,h=>by
  rw[Y5,List.set_cons_succ,Bj x a l b (by simpa using h),YD,Nat.add_sub_add_right,Y5]
theorem gn {o:Out} {lo off b p:Nat} {H2 X:aB} (h:H2.length<=b):∃ Z,(o,dG lo off 0 (.ptr b p) (H2++X))=(o,H2++Z):=by
 have key:∃ Z,dG lo off 0 (.ptr b p) (H2++X)=H2++Z:=by
  unfold dG
  simp only[]
  split
  ·split
   ·cases decide (lo<=b) with
    | false=>exact⟨X,rfl⟩
    | true=>exact⟨_,Bj _ _ _ _ h⟩
   ·exact⟨X,rfl⟩
  ·exact⟨X,rfl⟩
 obtain ⟨Z,hZ⟩:=key
 exact⟨Z,by rw[hZ]⟩
theorem rQ {T:Type} {f:T->List A} (hf:cj f) {H:aB} {lo off b o b' es:Nat} {l:List T} {cs:List A} {c:Bool} (h1:H[b]? = some (.box cs)) (h2:cs[o+off]? = some (.sl b' 0 l.length c)) (h3:H[b']? = some (.row false es (l.map f))) (h4:lo<=b) :
  dG lo off 0 (.ptr b o) H=H.set b (.box (cs.set (o+off) (.imm (l.map f) false))):=by
 unfold dG
 simp only[h1,h2,Yl h4,Yi]
 rw[show I9 H (.sl b' 0 l.length c)=.imm (l.map f) false from bU (n:=3) hf h3]
end
section
open Go.RowKit Go.ChangeShapes Go.WideShapes Go.ChangeAt Go.Deep
theorem yD (k o:Nat):fi [] (G0 fun _ _=>True) k o:=⟨trivial,fun b hb=>by cases hb⟩
def m5 (P:Program) (t:TypeId) (T:List A->Prop):Prop:=
 ∀ {H:Type} (enc:TypeId×Value->H) (w:World) (held:Bool) (fuel:Nat) (cs:List Value) (x:DataW H×List MemPlace),DataW.trod enc P w 0 (fun _=>true) held fuel t cs=some x->∃ as,T as/\bE [] (G0 fun _ _=>True) w as cs
def Q7 (as:List A):Prop:=∃ n:Int,as=[.v (.int .i64 n)]/\-9223372036854775808<=n/\n<=9223372036854775807
theorem AD {H:aB} {g:Gh} {w:World} (x:Value):bE H g w [.v x] [x]:=by rw[bE]; exact⟨x,[],rfl,y7,H7⟩
theorem Ab {P:Program} {t:TypeId} (ht:P.underlying t=some (.int .i64)):m5 P t Q7:=by
 intro H enc w held fuel cs x h
 obtain ⟨n,rfl,_,hw⟩:=DataW.trod_int ht h
 exact⟨_,⟨n,rfl,(qbJ hw).1,(qbJ hw).2⟩,AD _⟩
theorem py {H:aB} {g:Gh} {w:World} {a:A} {as:List A} {c:Value} {cs:List Value} (h:VR H g w a c) (k:bE H g w as cs):bE H g w (a :: as) (c :: cs):=by rw[bE]; exact⟨c,cs,rfl,h,k⟩
def Dz:List (List A->Prop)->List A->Prop
 | [],as=>as=[]
 | T :: Ts,as=>∃ a b,as=a++b/\T a/\Dz Ts b
def Ea (P:Program) (N:Nat):List Field->Nat->Bool
 | [],o=>Nat.beq o N
 | f :: fs,o=>Nat.beq f.offset o&&Ea P N fs (o+P.cellsOf f.type)
def ReadsAll (P:Program):List Field->List (List A->Prop)->Prop
 | [],[]=>True
 | f :: fs,T :: Ts=>m5 P f.type T/\ReadsAll P fs Ts
 | _,_=>False
theorem oA {H:aB} {g:Gh} {w:World}:∀ {a:List A} {c:List Value} {b:List A} {d:List Value},bE H g w a c->bE H g w b d->bE H g w (a++b) (c++d)
 | [],c,b,d,h,k=>by rw[bE] at h; subst h; exact k
 | x :: a,c,b,d,h,k=>by
  rw[bE] at h
  obtain ⟨y,c',rfl,h1,h2⟩:=h
  rw[Y5,Y5,bE]
  exact⟨y,_,rfl,h1,oA h2 k⟩
theorem p4 {P:Program} {H:Type} (enc:TypeId×Value->H) (w:World) (held:Bool) (cs:List Value) {N:Nat} (hN:cs.length=N):∀ (fs:List Field) (Ts:List (List A->Prop)) (o:Nat),Ea P N fs o=true->ReadsAll P fs Ts ->
  (∀ (i:Nat) f,fs[i]? = some f->∃ n x,DataW.trod enc P w 0 (fun _=>true) held n f.type ((cs.drop f.offset).take (P.cellsOf f.type))=some x)->∃ as,Dz Ts as/\bE [] (G0 fun _ _=>True) w as (cs.drop o)
 | [],[],o,hl,_,_=>by
  rw[Ea] at hl
  have:o=N:=Yy hl
  refine⟨[],rfl,?_⟩
  rw[bE,YB.2 r7]
 | f :: fs,T :: Ts,o,hl,hr,hx=>by
  rw[Ea,Yj] at hl
  obtain ⟨hl1,hl⟩:=hl
  have ho:f.offset=o:=Yy hl1
  obtain ⟨n,x,h0⟩:=hx 0 f rfl
  obtain ⟨a,ha,hv⟩:=hr.1 enc w held n _ x h0
  obtain ⟨b,hb,hvb⟩:=p4 enc w held cs hN fs Ts (o+P.cellsOf f.type) hl hr.2 fun i f' hf'=>hx (i+1) f' (by simpa using hf')
  refine⟨a++b,⟨a,b,rfl,ha,hb⟩,?_⟩
  have e:cs.drop o=(cs.drop o).take (P.cellsOf f.type)++cs.drop (o+P.cellsOf f.type):=by
   rw[<-qbe]; exact(ZH _ _).symm
  rw[e,<-ho]
  rw[<-ho] at hvb
  exact oA hv hvb
 | [],_ :: _,_,_,hr,_=>hr.elim
 | _ :: _,[],_,_,hr,_=>hr.elim
theorem gz {P:Program} {t:TypeId} {fs:Array Field} {Ts:List (List A->Prop)} (ht:P.underlying t=some (.struct fs)) (hl:Ea P (P.cellsOf t) fs.toList 0=true) (hr:ReadsAll P fs.toList Ts):m5 P t (Dz Ts):=by
 intro H enc w held fuel cs x h
 obtain ⟨xs,n,_,rfl,hlen,hxs,hf⟩:=DataW.trod_struct ht h
 obtain ⟨as,h1,h2⟩:=p4 enc w held cs hlen fs.toList Ts 0 hl hr fun i f hi=>by
  have hi':i<xs.length:=by
   have:=(Ym.1 hi).1
   simp at this; omega
  exact⟨n,xs[i],by rw[hf i f (by simpa using hi)]; exact Yg hi'⟩
 exact⟨as,h1,by simpa using h2⟩
theorem tN {H:Type} {enc:TypeId×Value->H} {P:Program} {W:World} {base:Nat} {ts:Array TypeId} {args:Array Value} (h:qS enc P W base ts args) (j:Nat) {t:TypeId} {v:Value} (hj:ts[j]? = some t) (hv:args[j]? = some v) {fs:Array Field} (ht:P.underlying t=some (.struct fs)) {T:List A->Prop} (hT:m5 P t T) :
  ∃ as,T as/\VR [] (G0 fun _ _=>True) W (.agg as) v:=by
 obtain ⟨ok,d,p,fuel,htr⟩:=h.2 j t v hj hv
 unfold Value.okWide at ok
 rw[ht] at ok
 obtain ⟨cs,rfl,_,_⟩:=ok
 obtain ⟨as,h1,h2⟩:=hT enc W _ _ _ _ htr
 refine⟨as,h1,?_⟩
 rw[VR]
 exact⟨cs,rfl,h2⟩
theorem zH {H:Type} {enc:TypeId×Value->H} {P:Program} {W:World} {base:Nat} {ts:Array TypeId} {args:Array Value} (h:qS enc P W base ts args) (j:Nat) {t:TypeId} {v:Value} (hj:ts[j]? = some t) (hv:args[j]? = some v) (ht:P.underlying t=some (.int .i64)) :
  ∃ n:Int,(-9223372036854775808<=n/\n<=9223372036854775807)/\VR [] (G0 fun _ _=>True) W (.v (.int .i64 n)) v:=by
 obtain ⟨n,rfl,h1,h2⟩:=BZ h j hj hv ht
 exact⟨n,⟨h1,h2⟩,y7⟩
def qV (P:Program) (t:TypeId) {T:Type} (c:T->List A) (ok:T->Prop):Prop:=m5 P t fun as=>∃ x,as=c x/\ok x
def dg (n:Int):Prop:=-9223372036854775808<=n/\n<=9223372036854775807
theorem jF {P:Program} {t:TypeId} (ht:P.underlying t=some (.int .i64)):qV P t (cI .i64) dg:=fun enc w held fuel cs x h=>by
 obtain ⟨as,⟨n,rfl,h1⟩,h2⟩:=Ab ht enc w held fuel cs x h
 exact⟨_,⟨n,rfl,h1⟩,h2⟩
theorem qV.of {P:Program} {t:TypeId} {T:Type} {c:T->List A} {ok:T->Prop} {S:List A->Prop} (h:m5 P t S) (hs:∀ as,S as->∃ x,as=c x/\ok x):qV P t c ok:=fun enc w held fuel cs x h0=>by
 obtain ⟨as,h1,h2⟩:=h enc w held fuel cs x h0
 exact⟨as,hs as h1,h2⟩
theorem KA {H:Type} {enc:TypeId×Value->H} {P:Program} {W:World} {base:Nat} {ts:Array TypeId} {args:Array Value} (h:qS enc P W base ts args) (j:Nat) {t:TypeId} {v:Value} (hj:ts[j]? = some t) (hv:args[j]? = some v) (ht:P.underlying t=some (.int .i64)) :
  ∃ n:Int,dg n/\VR [] (G0 fun _ _=>True) W (.v (.int .i64 n)) v:=zH h j hj hv ht
theorem B5 {H:Type} {enc:TypeId×Value->H} {P:Program} {W:World} {base:Nat} {ts:Array TypeId} {args:Array Value} (h:qS enc P W base ts args) (j:Nat) {t:TypeId} {v:Value} (hj:ts[j]? = some t) (hv:args[j]? = some v) {fs:Array Field} (ht:P.underlying t=some (.struct fs)) {T:Type} {c:T->List A} {ok:T->Prop} (hT:qV P t c ok) :
  ∃ x,ok x/\VR [] (G0 fun _ _=>True) W (.agg (c x)) v:=by
 obtain ⟨as,⟨x,rfl,h1⟩,h2⟩:=tN h j hj hv ht hT
 exact⟨x,h1,h2⟩
def lO:Nat:=9223372036854775807
section
variable {P:Program} {t e:TypeId} {T:Type} {c:T->List A} {ok:T->Prop}
theorem NQ (ht:P.underlying t=some (.int .u8)):qV P t c8 (fun _=>True):=fun enc w held fuel cs x h=>by
 obtain ⟨n,rfl,_,hw⟩:=DataW.trod_int ht h
 obtain ⟨h1,h2⟩:=bounds_u8 hw
 refine⟨c8 (UInt8.ofNat n.toNat),⟨_,rfl,trivial⟩,?_⟩
 have:((UInt8.ofNat n.toNat).toNat:Int)=n:=by
  rw[UInt8.toNat_ofNat']
  omega
 unfold c8
 rw[this]
 exact AD _
theorem iw {es:Nat} (ht:P.underlying t=some (.slice e)) (hk:P.cellsOf e=es) (hpos:0<es) (hlen:∀ x,(c x).length=es) (hL:qV P e c ok):qV P t (cL c) (fun l=>l.length<=lO/\∀ z∈l,ok z):=by
 intro H enc w held fuel cs x h
 rcases open_slice ht h with ⟨rfl,_⟩ | ⟨a,len,cap,m,n,D,Pl,rfl,_,hle,hcap,hm,hxd,hel⟩
 ·refine⟨_,⟨[],rfl,Yx _,fun z hz=>(by cases hz)⟩,?_⟩
  rw[cL,bE]
  refine⟨_,[],rfl,?_,H7⟩
  rw[VR]
  exact⟨none,0,[],es,rfl,Yk _,fun h=>(by cases h),fun d hd=>(by cases hd),fun h=>absurd h (ZZ 0),by rw[qaW,bC]⟩
 ·simp only[qas] at hm
  have each:∀ i,i<len->∃ y:T,ok y/\∃ vs,bE [] (G0 fun _ _=>True) w (c y) vs/\vs.length=es/\∀ j,j<es->w.cell? (a.add (i*es+j))=vs[j]?:=fun i hi=>by
   obtain ⟨cs',h1,h2⟩:=hel i r7
   obtain ⟨as,⟨y,rfl,hok⟩,hv⟩:=hL enc w held n cs' _ h2
   obtain ⟨_,hl,hc⟩:=World.cells?_some h1
   have hvl:=hv.length
   rw[hlen] at hvl
   refine⟨y,hok,cs',hv,hvl,fun j hj=>?_⟩
   have:=hc j r7
   rw[hk,add_add] at this
   exact this
  obtain ⟨l,ds,hl,hdl,hall⟩:∃ (l:List T) (ds:List (List Value)),l.length=len/\ds.length=len/\∀ i y d,l[i]? = some y->ds[i]? = some d->ok y/\bE [] (G0 fun _ _=>True) w (c y) d/\d.length=es/\∀ j,j<es->w.cell? (a.add (i*es+j))=d[j]?:=by
   clear hel hm hle hcap hxd h
   induction len with
   | zero=>exact⟨[],[],rfl,rfl,fun i y d h=>by simp at h⟩
   | succ len ih=>
    obtain ⟨l,ds,hl,hdl,hall⟩:=ih (fun i hi=>each i r7)
    obtain ⟨y,hok,d,hd⟩:=each len r7
    refine⟨l++[y],ds++[d],by simp[hl],by simp[hdl],fun i y' d' hy' hd'=>?_⟩
    by_cases e:i<len
    ·rw[YE r7] at hy' hd'
     exact hall i y' d' hy' hd'
    ·have hi:i<(l++[y]).length:=(Ym.1 hy').1
     have e2:i=len:=by simp at hi; omega
     subst e2
     rw[YY r7] at hy' hd'
     simp[hl,hdl] at hy' hd'
     subst hy'; subst hd'
     exact⟨hok,hd⟩
  have hds:∀ d∈ds,d.length=es:=fun d hd=>by
   obtain ⟨i,hi,rfl⟩:=Zf hd
   exact(hall i l[i] ds[i] (Yg r7) (Yg hi)).2.2.1
  have hcapL:cap<=lO:=hcap
  refine⟨_,⟨l,rfl,r7,fun z hz=>?_⟩,?_⟩
  ·obtain ⟨i,hi,rfl⟩:=Zf hz
   exact(hall i l[i] ds[i] (Yg hi) (Yg r7)).1
  ·rw[cL,bE]
   refine⟨_,[],rfl,?_,H7⟩
   rw[VR]
   refine⟨some a,cap,ds,es,by simp[hl],by simp[hl]; exact hle,fun h=>(by cases h),hds,fun hp=>?_,?_⟩
   ·have hp:0<len:=by simpa [hl] using hp
    obtain ⟨ab,ao,asp⟩:=a
    obtain ⟨_,_,h0l,h0⟩:=hall 0 l[0] ds[0] (Yg r7) (Yg r7)
    have h4:=h0 0 hpos
    rw[Yg r7] at h4
    have hsp:asp=none:=by simpa [Addr.add] using World.cell?_spot h4
    subst hsp
    refine⟨ab,ao,rfl,fun j v hj=>⟨?_,yD _ _⟩⟩
    have hjl:j<ds.flatten.length:=(Ym.1 hj).1
    rw[cp hds] at hjl
    have hi:j / es<len:=by
     rw[qaC hpos]; rw[hdl] at hjl; exact hjl
    obtain ⟨_,_,hil,hi2⟩:=hall (j / es) l[j / es] ds[j / es] (Yg r7) (Yg r7)
    have h5:=hi2 (j % es) (qaD _ hpos)
    have e1:j / es*es+j % es=j:=by rw[Zr]; exact qa7 j es
    have h6:=kb hds (Yg (show j / es<ds.length by omega)) (j % es) (qaD _ hpos)
    rw[e1] at h5 h6
    rw[add_plain] at h5
    rw[h5,<-h6]
    exact hj
   ·refine cX.2 ⟨by simp[hl,hdl],fun i y d hy hd=>?_⟩
    rw[YJ] at hy
    cases hx:l[i]? with
    | none=>rw[hx] at hy; cases hy
    | some z=>
     rw[hx] at hy; cases hy
     exact(hall i z d hx hd).2.1
theorem qV.TY {ok':T->Prop} (h:qV P t c ok) (hw:∀ x,ok x->ok' x):qV P t c ok':=fun enc w held fuel cs x h0=>by
 obtain ⟨as,⟨y,h1,h2⟩,h3⟩:=h enc w held fuel cs x h0
 exact⟨as,⟨y,h1,hw y h2⟩,h3⟩
theorem B9 {es:Nat} (ht:P.underlying t=some (.slice e)) (hk:P.cellsOf e=es) (hpos:0<es) (hlen:∀ x,(c x).length=es) (hL:qV P e c (fun _=>True)):qV P t (cL c) (fun l=>l.length<=lO):=qV.TY (T:=List T) (c:=cL c) (ok:=fun (l:List T)=>l.length<=lO/\∀ z∈l,True) (iw ht hk hpos hlen hL) fun _ h=>h.1
theorem wD {n:Nat} {T:List A->Prop} (ht:P.underlying t=some (.array n e)) (hk:P.cellsOf t=n*P.cellsOf e) (hr:m5 P e T):m5 P t (Dz (List.replicate n T)):=by
 intro H enc w held fuel cs x h
 obtain ⟨xs,m,_,rfl,hlen,hxs,hf⟩:=DataW.trod_array ht h
 rw[hk] at hlen
 have go:∀ q,q<=n->∃ as,Dz (List.replicate q T) as/\bE [] (G0 fun _ _=>True) w as (cs.drop ((n - q)*P.cellsOf e)):=by
  intro q
  induction q with
  | zero=>intro _; exact⟨[],rfl,by rw[bE,YB.2 (by simp[hlen])]⟩
  | succ q ih=>
   intro hq
   obtain ⟨bs,h1,h2⟩:=ih r7
   have hi:n - (q+1)<xs.length:=r7
   have:=hf (n - (q+1)) r7
   rw[Yg hi] at this
   obtain ⟨as,ha,hv⟩:=hr enc w held m _ _ this
   refine⟨as++bs,⟨as,bs,rfl,ha,h1⟩,?_⟩
   have e1:(n - q)*P.cellsOf e=(n - (q+1))*P.cellsOf e+P.cellsOf e:=by
    rw[show n - q=n - (q+1)+1 by omega,Zi,qbA]
   have e2:cs.drop ((n - (q+1))*P.cellsOf e)=(cs.drop ((n - (q+1))*P.cellsOf e)).take (P.cellsOf e)++cs.drop ((n - q)*P.cellsOf e):=by
    rw[e1,<-qbe]; exact(ZH _ _).symm
   rw[e2]
   exact oA hv h2
 obtain ⟨as,h1,h2⟩:=go n (Yk _)
 exact⟨as,h1,by simpa using h2⟩
variable {H:Type} {enc:TypeId×Value->H} {W:World} {base:Nat} {ts:Array TypeId} {args:Array Value}
theorem uH {l:List T->Prop} (h:qS enc P W base ts args) (j:Nat) {t:TypeId} {v:Value} (hj:ts[j]? = some t) (hv:args[j]? = some v) (ht:P.underlying t=some (.slice e)) (hT:qV P t (cL c) l) :
  ∃ x,l x/\VR [] (G0 fun _ _=>True) W (.imm (x.map c) false) v:=by
 obtain ⟨okw,d,p,fuel,htr⟩:=h.2 j t v hj hv
 obtain ⟨a0,len,cap,rfl⟩:=okWide_slice ht okw
 obtain ⟨as,⟨x,rfl,hx⟩,hvr⟩:=hT enc W _ _ _ _ htr
 rw[cL,bE] at hvr
 obtain ⟨d0,ds,e0,h1,h2⟩:=hvr
 simp[Value.cells] at e0
 obtain ⟨rfl,_⟩:=e0
 exact⟨x,hx,h1⟩
end
theorem KC {P:Program} {glob:Nat->Option (List Value)} {k:Nat} {as:List A} {args:Array Value} {W:World} (h:fm P glob k as (.v (.bool true))) (hg:∀ (G:Nat) (vs:List Value),glob G=some vs->∀ (j:Nat) (v:Value),vs[j]? = some v->W.cell? ⟨G,j,none⟩=some v)
  (hv:bE [] (G0 fun _ _=>True) W as args.toList):Calls P k args W fun e W'=>e=.returned (.bool true)/\Below W.heap.size W W':=by
 refine(h (fun _ _=>True) W args.toList (fun _ _ _=>trivial) (fun G vs hG j v hj=>⟨by rw[Y9]; exact hg G vs hG j v hj,yD _ _⟩) hv).mono ?_
 rintro e W' ⟨c,rfl,hb,hc⟩
 rw[VR] at hc
 subst hc
 exact⟨rfl,hb⟩
end
end Go.Proofs.YtebkhfhcipnfgaaGreat
