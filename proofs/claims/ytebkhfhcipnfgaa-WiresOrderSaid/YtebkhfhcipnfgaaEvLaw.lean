/-
 From what the interpreter answers to a law's statement: how arguments that came in are read as the interpreter's data.
-/
import Derived.Test.YtebkhfhcipnfgaaEvSimp
namespace Go.Proofs.Ytebkhfhcipnfgaa
set_option linter.unusedVariables false
set_option linter.unusedSimpArgs false
set_option linter.defProp false
theorem Sp {p:Prop} (h:p:=by rw[decide_eq_decide]; omega):p:=h
theorem Sq {p:Prop} (h:p:=by rw[List.length_append]; omega):p:=h
def SK:=@decide_eq_false
def S8:=@List.drop_eq_nil_iff
def TT:=@Bool.and_true
def TZ:=@decide_true
def T0:=@Value.string.injEq
def T5:=@Value.int.injEq
def T6:=@Value.bool.injEq
def Ua:=@beq_self_eq_true
def Uk:=@decide_false
def Ut:=@Bool.and_self
def UD:=@Nat.mod_eq_of_lt
def UJ:=@true_and
def UM:=@Bool.not_false
def U2:=@and_true
def U5:=@Nat.div_lt_iff_lt_mul
def Vq:=@List.map_drop
def Vt:=@decide_eq_decide
section
variable {ρ γ σ α β τ:Type}
def J (φ:ρ->γ->Prop) (L:Option σ) (kL:σ->Option ρ) (R:Option α) (K:α->Option γ):Prop:=∀ r,R.bind K=some r->∃ s,L.bind kL=some s/\φ s r
variable {φ:ρ->γ->Prop} {kL:σ->Option ρ} {K:α->Option γ} {R X Y:Option α}
theorem J.st {x:Option τ} {v:τ} {k:τ->Option σ} (h:x=some v) (hk:J φ (k v) kL R K):J φ (x.bind k) kL R K:=by
 rw[h]; exact hk
theorem J.s {x:Option τ} {k:τ->Option σ} (v:τ) (hk:J φ (k v) kL R K) (h:x=some v:=by kernel_rfl):J φ (x.bind k) kL R K:=J.st h hk
theorem J.s2 {τ':Type} {x:Option τ'} {y:τ'->Option τ} {k:τ->Option σ} (v:τ) (hk:J φ (k v) kL R K) (h:x.bind y=some v:=by kernel_rfl):J φ (x.bind fun a=>(y a).bind k) kL R K:=by
 rw[<-Tx]; exact J.st h hk
def JN (x:Option (A×ar)):A×ar:=match x with | some p=>p | none=>(.any,[])
def JM (x:Option ar):ar:=match x with | some p=>p | none=>[]
theorem J.sq {x:Option (A×ar)} {k:A×ar->Option σ} (p:A) (hk:J φ (k (p,(JN x).2)) kL R K) (h:x=some (p,(JN x).2):=by kernel_rfl):J φ (x.bind k) kL R K:=J.st h hk
theorem J.sh {x:Option ar} {k:ar->Option σ} (hk:J φ (k (JM x)) kL R K) (h:x=some (JM x):=by kernel_rfl):J φ (x.bind k) kL R K:=J.st h hk
theorem J.bd {x:Option τ} {k:τ->Option σ} {X:Option β} {Y:β->Option α} {g:β->τ} (h:x=X.map g) (hk:∀ y,J φ (k (g y)) kL (Y y) K):J φ (x.bind k) kL (X.bind Y) K:=by
 intro r hr
 rw[Tx] at hr
 cases X with
 | none=>cases hr
 | some y=>rw[h]; exact hk y r hr
theorem J.bg {x:Option τ} {k:τ->Option σ} {X:Option β} {Y:β->Option α} (ψ:τ->β->Prop) (h:J ψ x some X some) (hk:∀ t y,ψ t y->J φ (k t) kL (Y y) K):J φ (x.bind k) kL (X.bind Y) K:=by
 intro r hr
 rw[Tx] at hr
 cases X with
 | none=>cases hr
 | some y=>
  obtain ⟨s,h1,h2⟩:=h y rfl
  have:x=some s:=by cases x<;>simp_all
  rw[this]
  exact hk s y h2 r hr
theorem J.bi {x y:Option σ} {b:Bool} (h1:J φ x kL X K) (h2:J φ y kL Y K):J φ (cJ (.v (.bool b)) x y) kL (cond b X Y) K:=by
 cases b
 ·exact h2
 ·exact h1
theorem J.Ly {x y:Option Go.Proofs.Ytebkhfhcipnfgaa.R} {kL:Go.Proofs.Ytebkhfhcipnfgaa.R->Option ρ} (h1:J φ x kL R K):J φ (bh (.v (.bool true)) x y) kL R K:=h1
theorem J.MR {x y:Option Go.Proofs.Ytebkhfhcipnfgaa.R} {kL:Go.Proofs.Ytebkhfhcipnfgaa.R->Option ρ} (h1:J φ y kL R K):J φ (bh (.v (.bool false)) x y) kL R K:=h1
theorem J.cd {x y:Option Go.Proofs.Ytebkhfhcipnfgaa.R} {kL:Go.Proofs.Ytebkhfhcipnfgaa.R->Option ρ} {b:Bool} (h1:J φ x kL X K) (h2:J φ y kL Y K):J φ (bh (.v (.bool b)) x y) kL (cond b X Y) K:=by
 cases b
 ·exact h2
 ·exact h1
theorem J.nq {T:Type} {f:T->List A} {l:List T} {x y:Option Go.Proofs.Ytebkhfhcipnfgaa.R} {kL:Go.Proofs.Ytebkhfhcipnfgaa.R->Option ρ} (h:l=[]->x=y) (hy:J φ y kL R K):J φ (bh (.nq (l.map f)) x y) kL R K:=by
 cases l with
 | nil=>
  have e:bh (A.nq (List.map f [])) x y=y:=by
   exact B1 (h rfl)
  rw[e]; exact hy
 | cons a l=>exact hy
theorem rY {P:Program} {t e:TypeId} {T:Type} {f:T->List A} {l:List T} {c:Bool} (h:P.underlying t=some (.slice e)):G3 P t (.imm (l.map f) c)=some (.nq (l.map f)):=by
 unfold G3
 rw[h]
theorem J.gf {x y:Option σ} {b:Bool} (h1:J φ x kL X K) (h2:J φ y kL Y K):J φ (qa (.v (.bool b)) false x y) kL (cond b Y X) K:=by
 cases b
 ·exact h1
 ·exact h2
theorem J.cT {x y:Option σ} {c:Bool} (h:c=true) (h1:J φ x kL R K):J φ (cond c x y) kL R K:=by rw[h]; exact h1
def Pc {T:Type} (i:Int) (a b:T):Option T:=bif decide (i=0) then some a else bif decide (i=1) then some b else none
theorem J.a2 {T:Type} {x:Option τ} {k:τ->Option σ} {i:Int} {f:T->τ} {a b:T} {Y:T->Option α} (h0:i.toNat=0->x=some (f a)) (h1:i.toNat=1->x=some (f b)) (hk:∀ y,J φ (k (f y)) kL (Y y) K):J φ (x.bind k) kL ((Pc i a b).bind Y) K:=by
 unfold Pc
 by_cases h:i=0
 ·rw[h0 (by rw[h]; rfl),SD h]; exact hk a
 ·rw[SK h]
  by_cases h':i=1
  ·rw[h1 (by rw[h']; rfl),SD h']; exact hk b
  ·rw[SK h']; intro r hr; cases hr
theorem J.gd {L:Option σ} {b:Bool} (h:b=true->J φ L kL R K):J φ L kL (cond b R none) K:=by
 cases b
 ·intro r hr; cases hr
 ·exact h rfl
theorem J.sp {L:Option σ} {b:Bool} (h1:b=true->J φ L kL X K) (h2:b=false->J φ L kL Y K):J φ L kL (cond b X Y) K:=by
 cases b
 ·exact h2 rfl
 ·exact h1 rfl
theorem J.nn {L:Option σ}:J φ L kL none K:=fun r hr=>by cases hr
theorem J.uc {a:A} {r:List A} {k:A->List A->Option σ} (h:J φ (k a r) kL R K):J φ (cf (a :: r) k) kL R K:=h
theorem J.u4 {a b c d:A} {r:List A} {k:A->A->A->A->List A->Option σ} (h:J φ (k a b c d r) kL R K):J φ (cf (a :: b :: c :: d :: r) fun a l=>cf l fun b l=>cf l fun c l=>cf l fun d l=>k a b c d l) kL R K:=h
theorem po {β γ:Type} (l:List A) (f:A->List A->Option β) (k:β->Option γ):(cf l f).bind k=cf l fun a r=>(f a r).bind k:=by
 cases l<;>rfl
theorem J.mc {a:A} {f g:A->Option Go.Proofs.Ytebkhfhcipnfgaa.R} {kL:Go.Proofs.Ytebkhfhcipnfgaa.R->Option ρ} (h:J φ (g a) kL R K):J φ (dj (.pan a) f g) kL R K:=h
theorem J.pk {t:TypeId} {y:A} {k:A->Option σ} (h:J φ (k (.ifc t y)) kL R K):J φ (Fk (.ifc t y) k) kL R K:=h
theorem J.ob {b:Bool} {v p:A} {f g:A->Option Go.Proofs.Ytebkhfhcipnfgaa.R} {kL:Go.Proofs.Ytebkhfhcipnfgaa.R->Option ρ} (h1:J φ (dj (.ret v) f g) kL X K) (h2:J φ (dj (.pan p) f g) kL Y K):J φ (dj (bif b then Out.ret v else Out.pan p) f g) kL (cond b X Y) K:=by
 cases b
 ·exact h2
 ·exact h1
theorem J.lf {s:σ} {x:α} {r:ρ} {y:γ} (h1:kL s=some r) (h2:K x=some y) (h:φ r y):J φ (some s) kL (some x) K:=fun z hz=>by
 rw[Sw,h2] at hz
 cases hz
 exact⟨r,h1,h⟩
theorem J.lg {ψ:τ->β->Prop} {s:τ} {x:β} (h:ψ s x):J ψ (some s) some (some x) some:=fun r hr=>by cases hr; exact⟨s,rfl,h⟩
theorem J.lv {T:Type} {f:T->A} {v:A} {H:ar} {y:T} (h:br H v=f y):J (fun (o:Go.Proofs.Ytebkhfhcipnfgaa.R) y=>∃ v,o.1=.ret v/\br o.2 v=f y) (some (Out.ret v,H)) some (some y) some:=.lf rfl rfl ⟨_,rfl,h⟩
theorem J.cl {x:Option τ} {x':Option τ} {k:τ->Option σ} (h:x=x') (hk:J φ x' (fun r=>(k r).bind kL) R K):J φ (x.bind k) kL R K:=by
 intro r hr
 obtain ⟨s,h1,h2⟩:=hk r hr
 exact⟨s,by rw[Tx,h]; exact h1,h2⟩
theorem J.bb {x:Option τ} {k:τ->Option σ} (h:J φ x (fun r=>(k r).bind kL) R K):J φ (x.bind k) kL R K:=by
 intro r hr
 obtain ⟨s,h1,h2⟩:=h r hr
 exact⟨s,by rw[Tx]; exact h1,h2⟩
theorem J.as {L:Option σ} {X:Option β} {Y:β->Option α} (h:J φ L kL X (fun x=>(Y x).bind K)):J φ L kL (X.bind Y) K:=by
 intro r hr
 rw[Tx] at hr
 exact h r hr
theorem J.un {L:Option σ} {K':γ->Option γ} (hK:K'=some) (h:J φ L kL R K):J φ L kL (R.bind K) K':=by
 intro r hr
 subst hK
 exact h r (by simpa using hr)
theorem J.ex {L:Option σ} {x:α} (h:J φ L kL (K x) some):J φ L kL (some x) K:=by
 intro r hr
 exact h r (by simpa using hr)
theorem J.lp {L:Option σ} {L':Option σ} (h:L=L') (hk:J φ L' kL R K):J φ L kL R K:=h ▸ hk
theorem J.gU {x y:Option σ} {w:Bool} (h:J φ y kL R K):J φ (qa (.v undef) w x y) kL R K:=h
theorem J.ok {a:A} {f g:A->Option Go.Proofs.Ytebkhfhcipnfgaa.R} {kL:Go.Proofs.Ytebkhfhcipnfgaa.R->Option ρ} (h:J φ (f a) kL R K):J φ (dj (.ret a) f g) kL R K:=h
theorem J.cr {s:τ} {k:τ->Option σ} (h:J φ (k s) kL R K):J φ (some s) (fun r=>(k r).bind kL) R K:=h
theorem J.Hd {x y:Option σ} {b:Bool} (h:b=true) (h1:J φ x kL R K):J φ (cJ (.v (.bool b)) x y) kL R K:=by subst h; exact h1
theorem J.Gd {x y:Option σ} {b:Bool} (h:b=false) (h1:J φ y kL R K):J φ (cJ (.v (.bool b)) x y) kL R K:=by subst h; exact h1
theorem J.Ph {x y:Option τ} {k:τ->Option σ} {b:Bool} (h1:b=true->J φ (x.bind k) kL X K) (h2:b=false->J φ (y.bind k) kL Y K):J φ ((qa (.v (.bool b)) true x y).bind k) kL (cond b X Y) K:=by
 cases b
 ·exact h2 rfl
 ·exact h1 rfl
theorem J.JP {x y:Option τ} {k:τ->Option σ} {b:Bool} (h1:b=false->J φ (x.bind k) kL X K) (h2:b=true->J φ (y.bind k) kL Y K):J φ ((qa (.v (.bool b)) false x y).bind k) kL (cond b Y X) K:=by
 cases b
 ·exact h1 rfl
 ·exact h2 rfl
theorem qc {β:Type} {x y:Option β} {b:Bool} (h:b=true):qa (.v (.bool b)) true x y=x:=by subst h; rfl
theorem qb {β:Type} {x y:Option β} {b:Bool} (h:b=false):qa (.v (.bool b)) true x y=y:=by subst h; rfl
def az:Nat:=1208925819614629174706176
def cI (k:IntKind) (n:Int):List A:=[.v (.int k n)]
def c8 (c:UInt8):List A:=[.v (.int .u8 (c.toNat:Int))]
def cB (b:Bool):List A:=[.v (.bool b)]
def cS (s:ByteArray):List A:=[.v (.string s)]
def cL {T:Type} (f:T->List A) (l:List T):List A:=[.imm (l.map f) false]
def bQ {T:Type} (f:T->List A):Prop:=∀ g x,aX g (f x)=f x
theorem bX {T:Type} {f:T->List A} (hf:bQ f) (g:Nat->Nat->Nat->A) (l:List T):cP g (l.map f)=l.map f:=by
 induction l with
 | nil=>rfl
 | cons x l ih=>rw[TS,cP,hf,ih]
def cV {T:Type} (f:T->List A):Prop:=∀ L x,aZ L (f x)=true
theorem cO {T:Type} {f:T->List A} (hf:cV f) (L:Nat) (l:List T):aQ L (l.map f)=true:=by
 induction l with
 | nil=>rfl
 | cons x l ih=>rw[TS,aQ,hf,ih]; rfl
theorem lV (k:IntKind):cV (cI k):=fun _ _=>rfl
theorem lT:cV c8:=fun _ _=>rfl
theorem lU:cV cB:=fun _ _=>rfl
theorem lX:cV cS:=fun _ _=>rfl
theorem lW {T:Type} {f:T->List A} (hf:cV f):cV (cL f):=fun L x=>by
 show (aQ L (x.map f)&&true)=true
 rw[cO hf]; rfl
theorem sD (g:Nat->Nat->Nat->A):∀ (a b:List A),aX g (a++b)=aX g a++aX g b
 | [],b=>by simp only[TN,aX]
 | x :: a,b=>by simp only[Tg,aX,sD g a b]
theorem sJ (L:Nat):∀ (a b:List A),aZ L (a++b)=(aZ L a&&aZ L b)
 | [],b=>by simp only[TN,aZ,Tm]
 | x :: a,b=>by simp only[Tg,aZ,sJ L a b,Bool.and_assoc]
theorem jK (k:IntKind):bQ (cI k):=fun _ _=>rfl
theorem et:bQ c8:=fun _ _=>rfl
theorem lQ:bQ cB:=fun _ _=>rfl
theorem lS:bQ cS:=fun _ _=>rfl
theorem lR {T:Type} {f:T->List A} (hf:bQ f):bQ (cL f):=fun g x=>by
 show [bZ g (.imm (x.map f) false)]=_
 simp only[bZ,bX hf]; rfl
theorem cD:(∀ (H:ar) (a:A),snap H a=bZ (gS 4 H) a)/\(∀ (g:Nat->Nat->Nat->A) (b o m:Nat) (c:Bool),bZ g (.sl b o m c)=g b o m)/\(∀ (g:Nat->Nat->Nat->A) (els:List (List A)) (c:Bool),bZ g (.imm els c)=.imm (cP g els) false)/\(∀ (g:Nat->Nat->Nat->A) (cs:List A),bZ g (.agg cs)=.agg (aX g cs))/\(∀ (g:Nat->Nat->Nat->A) (cs:List A),bZ g (.tup cs)=.tup (aX g cs))/\(∀ (g:Nat->Nat->Nat->A) (t:TypeId) (x:A),bZ g (.ifc t x)=.ifc t (bZ g x))/\(∀ (g:Nat->Nat->Nat->A) (k:IntKind) (ks:List Int) (vs:List A),bZ g (.mv k ks vs)=.mv k ks (aX g vs))/\(∀ (g:Nat->Nat->Nat->A) (x:Value),bZ g (.v x)=.v x)/\(∀ (g:Nat->Nat->Nat->A) (f:Fn),bZ g (.fn f [] [])=.fn f [] [])/\(∀ (g:Nat->Nat->Nat->A),aX g []=[])/\(∀ (g:Nat->Nat->Nat->A) (a:A) (as:List A),aX g (a :: as)=bZ g a :: aX g as)/\(∀ (g:Nat->Nat->Nat->A),cP g []=[])/\(∀ (g:Nat->Nat->Nat->A) (a:List A) (as:List (List A)),cP g (a :: as)=aX g a :: cP g as)/\(∀ {T:Type} {f:T->List A} (hf:bQ f) (g:Nat->Nat->Nat->A) (l:List T),cP g (l.map f)=l.map f)/\(∀ (g:Nat->Nat->Nat->A) (a b:List A),aX g (a++b)=aX g a++aX g b)/\(∀ k,bQ (cI k))/\bQ c8/\bQ cB/\bQ cS/\(∀ {T:Type} {f:T->List A} (hf:bQ f),bQ (cL f)):=
 ⟨fun _ _=>rfl,fun _ _ _ _ _=>rfl,fun _ _ _=>rfl,fun _ _=>rfl,fun _ _=>rfl,fun _ _ _=>rfl,fun _ _ _ _=>rfl,fun _ _=>rfl,fun _ _=>rfl,fun _=>rfl,fun _ _ _=>rfl,fun _=>rfl,fun _ _ _=>rfl,bX,sD,jK,et,lQ,lS,lR⟩
def eT {T U:Type} (f:T->U):Prop:=∀ x y,f x=f y->x=y
theorem map_inj {T:Type} {f:T->List A} (hf:eT f):∀ (l l':List T),l.map f=l'.map f↔l=l'
 | [],[]=>r8
 | [],_ :: _=>r8
 | _ :: _,[]=>r8
 | x :: l,y :: l'=>by
  simp only[TS,TA,map_inj hf l l']
  exact⟨fun h=>⟨hf x y h.1,h.2⟩,fun h=>⟨by rw[h.1],h.2⟩⟩
theorem tX (k:IntKind):eT (cI k):=fun x y h=>by simpa [cI] using h
theorem nD:eT c8:=fun x y h=>by
 simp only[c8,TA,A.v.injEq,T5,U2,UJ] at h
 exact UInt8.toNat_inj.1 o3
noncomputable def bD {X:Type} (e:X->List A) (G:X->Option A) (args:List A):Option A:=open Classical in if h:∃ x,e x=args then G h.choose else none
theorem aL {X:Type} {e:X->List A} (G:X->Option A) (inj:eT e) (x:X):bD e G (e x)=G x:=by
 unfold bD
 have h:∃ y,e y=e x:=⟨x,rfl⟩
 rw[dif_pos h,inj _ _ h.choose_spec]
theorem Dm {X:Type} {e:X->List A} {G:X->Option A} {args:List A} {r:A} (h:bD e G args=some r):∃ x,e x=args/\G x=some r:=by
 unfold bD at h
 split at h
 ·rename_i hx; exact⟨_,hx.choose_spec,h⟩
 ·cases h
theorem dq {X Y:Type} {e:X->List A} {F:X->Option Y} {f:Y->A} {args:List A} {r:A} (h:bD e (fun x=>(F x).map f) args=some r):∃ x y,e x=args/\F x=some y/\f y=r:=by
 obtain ⟨x,hx,h⟩:=Dm h
 simp only[Te] at h
 obtain ⟨y,hy,h⟩:=h
 exact⟨x,y,hx,hy,h⟩
theorem Ng:(∀ {T:Type} (a:T) (as:List T) (b:T) (bs:List T),(a :: as=b :: bs)=(a=b/\as=bs))/\(∀ a b:Value,(A.v a=A.v b)=(a=b))/\(∀ a b:List A,(A.agg a=A.agg b)=(a=b))/\(∀ (a:List (List A)) (c:Bool) (b:List (List A)) (d:Bool),(A.imm a c=A.imm b d)=(a=b/\c=d))/\(∀ (k:IntKind) (n:Int) (k':IntKind) (n':Int),(Value.int k n=Value.int k' n')=(k=k'/\n=n'))/\(∀ a b:Bool,(Value.bool a=Value.bool b)=(a=b))/\(∀ a b:ByteArray,(Value.string a=Value.string b)=(a=b))/\(∀ p:Prop,(p/\True)=p)/\(∀ p:Prop,(True/\p)=p):=
 ⟨fun a as b bs=>TA a as b bs,fun a b=>A.v.injEq a b,fun a b=>A.agg.injEq a b,fun a c b d=>A.imm.injEq a c b d,fun k n k' n'=>T5 k n k' n',fun a b=>T6 a b,fun a b=>T0 a b,fun p=>U2 p,fun p=>UJ p⟩
def gO (C:Nat->List A->Option A) (k:Nat) (c:List A->Option A):Nat->List A->Option A:=fun j args=>bif Nat.beq j k then c args else C j args
theorem yr {cx:Cx} {n k:Nat} {base:aU} {args:List A} {H:ar} {lo:Nat} (h:Nat.ble cx.P.funcs.size k=false) (h2:fH cx k H=false:=by rfl) (h3:fS cx k H=false:=by rfl):bo cx (n+1) base k args H lo=aB cx (bo cx n base) (bo cx n) n k args H lo:=by
 rw[bo,h,h2,h3]; rfl
theorem aK {cx:Cx} {n k:Nat} {args:List A} {H:ar} {lo:Nat} (h:Nat.ble cx.P.funcs.size k=false) (h2:fH cx k H=false:=by rfl) (h3:fS cx k H=false:=by rfl):dx cx (n+1) k args H lo=aB cx (dx cx n) (bo cx n) n k args H lo:=yr h h2 h3
theorem wB {cx:Cx} {k:Nat}:fH cx k []=false:=by
 unfold fH
 cases hb:Nat.beq (cx.cut k) 0 with
 | true=>rfl
 | false=>cases hk:cx.cut k with
  | zero=>rw[hk] at hb; cases hb
  | succ m=>rfl
theorem uU {cx:Cx} {k:Nat}:fS cx k []=false:=by
 unfold fS
 cases cx.deep k<;>rfl
theorem yt {cx:Cx} {n k:Nat} {args:List A} {lo:Nat} {r:Go.Proofs.Ytebkhfhcipnfgaa.R} (h:aB cx (dx cx n) (bo cx n) n k args [] lo=some r):dx cx (n+1) k args [] lo=some r:=by
 refine(aK (qY ?_) wB uU).trans h
 unfold aB at h
 cases hf:cx.P.funcs[k]? with
 | none=>rw[hf] at h; cases h
 | some fn=>exact(SE.1 hf).1
section
variable {β:Type} {H:ar} {b:Nat} {kn:ar->Option β} {kx kg:Nat->ar->Option β} {kr:ar->Option β}
end
section
variable {cx:Cx} {call:aU} {q lo b:Nat} {first cap args:List A} {H:ar} {k pan:A->ar->Option Go.Proofs.Ytebkhfhcipnfgaa.R} {kL:Go.Proofs.Ytebkhfhcipnfgaa.R->Option ρ}
theorem J.dC (h1:cp cx.P q=true) (h2:cx.isOrc q=false) (h:J φ ((call q (first++args++cap) H lo).bind fun r=>dj r.1 (fun a=>k a r.2) (fun a=>pan a r.2)) kL R K):J φ (dn cx call (.fn (.func q) first cap) args H lo k pan) kL R K:=by
 unfold dn; simp only[h1,h2,SC,SA]; exact h
theorem J.dO (h1:cp cx.P q=true) (h2:cx.isOrc q=true) (h:J φ ((cx.C q ((first++args++cap).map (snap H))).bind fun a=>k a H) kL R K):J φ (dn cx call (.fn (.func q) first cap) args H lo k pan) kL R K:=by
 unfold dn; simp only[h1,h2,SC]; exact h
end
theorem J.vO {cx:Cx} {call:aU} {q:Nat} {first cap args:List A} {H:ar} {k:A->Option σ} (h1:cp cx.P q=true) (h2:cx.isOrcV q=true) (h:J φ ((cx.C q ((first++args++cap).map (snap H))).bind k) kL R K):J φ (qn cx call (.fn (.func q) first cap) args H k) kL R K:=by
 unfold qn; simp only[h1,h2,SC]; exact h
theorem yO {cx:Cx} (horc:jr cx) (hmx:cx.P.follows .mixedOrders=true) {γ:Type} {n k:Nat} {args:List A} {f:γ->A} {F:Option γ} {y:γ}
  (h:J (fun (o:Go.Proofs.Ytebkhfhcipnfgaa.R) y=>∃ v,o.1=.ret v/\br o.2 v=f y) (aB cx (dx cx (n+8)) (bo cx (n+8)) (n+8) k args [] 0) some F some) (hF:F=some y):eh cx.P cx.glob k args (f y):=by
 obtain ⟨s,h1,v,h2,h3⟩:=h y (by rw[hF]; rfl)
 obtain ⟨o,H⟩:=s
 have h2:o=.ret v:=h2
 subst h2
 rw[show ∀ x:Option Go.Proofs.Ytebkhfhcipnfgaa.R,x.bind some=x from fun x=>by cases x<;>rfl] at h1
 have h1:dx cx (n+9) k args [] 0=some (.ret v,H):=yt h1
 have:=oH horc hmx h1
 rwa [show br H v=f y from h3] at this
abbrev wr (k:IntKind) (n:Int):Int:=k.wrap n
def ot (k:IntKind) (x y:Int):Int:=k.wrap (x*2 ^ (min y.toNat k.bits))
def je (k:IntKind) (x y:Int):Int:=x.fdiv (2 ^ (min y.toNat k.bits))
def oB (k:IntKind) (x y:Int):Int:=k.wrap ((BitVec.ofInt k.bits x &&& BitVec.ofInt k.bits y).toNat:Int)
def me (k:IntKind) (x y:Int):Int:=k.wrap ((BitVec.ofInt k.bits x ||| BitVec.ofInt k.bits y).toNat:Int)
def qs (k:IntKind) (x y:Int):Int:=k.wrap ((BitVec.ofInt k.bits x ^^^ BitVec.ofInt k.bits y).toNat:Int)
section
variable {P:Program} {t:TypeId} {i j:Bool} {k k2:IntKind} {a b:Int}
theorem qM (hb:0<=b):jE P .shl t i j (.v (.int k a)) (.v (.int k2 b))=some (.v (.int k (ot k a b))):=by
 have h:cj P (do eqGuard .shl t (rep i) (rep j) (.int k a) (.int k2 b); binOp .shl t (.int k a) (.int k2 b))=some (.int k (ot k a b)):=by
  show cj P (binOp .shl t (.int k a) (.int k2 b))=_
  simp only[binOp,Op.shift,SI (Int.not_lt.2 hb)]; rfl
 show (cj P _).map xf=_
 rw[h]; rfl
theorem ju (hb:0<=b):jE P .shr t i j (.v (.int k a)) (.v (.int k2 b))=some (.v (.int k (je k a b))):=by
 have h:cj P (do eqGuard .shr t (rep i) (rep j) (.int k a) (.int k2 b); binOp .shr t (.int k a) (.int k2 b))=some (.int k (je k a b)):=by
  show cj P (binOp .shr t (.int k a) (.int k2 b))=_
  simp only[binOp,Op.shift,SI (Int.not_lt.2 hb)]; rfl
 show (cj P _).map xf=_
 rw[h]; rfl
theorem nw:jE P .and t i j (.v (.int k a)) (.v (.int k b))=some (.v (.int k (oB k a b))):=by
 have h:cj P (do eqGuard .and t (rep i) (rep j) (.int k a) (.int k b); binOp .and t (.int k a) (.int k b))=some (.int k (oB k a b)):=by
  show cj P (binOp .and t (.int k a) (.int k b))=_
  simp only[binOp,ne_eq,U4,Vk,Op.intBits]; rfl
 show (cj P _).map xf=_
 rw[h]; rfl
theorem gF:jE P .or t i j (.v (.int k a)) (.v (.int k b))=some (.v (.int k (me k a b))):=by
 have h:cj P (do eqGuard .or t (rep i) (rep j) (.int k a) (.int k b); binOp .or t (.int k a) (.int k b))=some (.int k (me k a b)):=by
  show cj P (binOp .or t (.int k a) (.int k b))=_
  simp only[binOp,ne_eq,U4,Vk,Op.intBits]; rfl
 show (cj P _).map xf=_
 rw[h]; rfl
theorem nx:jE P .xor t i j (.v (.int k a)) (.v (.int k b))=some (.v (.int k (qs k a b))):=by
 have h:cj P (do eqGuard .xor t (rep i) (rep j) (.int k a) (.int k b); binOp .xor t (.int k a) (.int k b))=some (.int k (qs k a b)):=by
  show cj P (binOp .xor t (.int k a) (.int k b))=_
  simp only[binOp,ne_eq,U4,Vk,Op.intBits]; rfl
 show (cj P _).map xf=_
 rw[h]; rfl
end
theorem fc {n:Int} (h:(decide (0<=n)&&decide (n<256))=true):((UInt8.ofNat n.toNat).toNat:Int)=n:=by
 simp only[Sz,SG] at h
 rw[UInt8.toNat_ofNat',UD o3]
 omega
def bE {T:Type} (l:List T) (i:Int):Option T:=bif decide (0<=i) then l[i.toNat]? else none
def imm {T:Type} (f:T->List A) (l:List T):A:=.imm (l.map f) false
theorem Es {P:Program} {t e:TypeId} {es:Nat} {T:Type} (f:T->List A) (l:List T) (c:Bool) (k:IntKind) (i:Int) (H:ar) (h1:P.underlying t=some (.slice e)) (h2:cz P e=some es) (h3:∀ x,(f x).length=es) :
  cQ P t (.imm (l.map f) c) (.v (.int k i)) H=(bE l i).map fun x=>.ip (f x):=by
 unfold cQ idx bE
 rw[h1]
 by_cases hi:0<=i
 ·simp only[hi,TZ,SC,Sw,fY,h2,Td]
  cases l[i.toNat]? with
  | none=>rfl
  | some x=>simp[h3]
 ·simp only[hi,Uk,SA,Vs,Option.map_none]
theorem EA {P:Program} {t e:TypeId} {T:Type} (f:T->List A) (l:List T) (c:Bool) (H:ar) (h1:P.underlying t=some (.slice e)):qP P t (.imm (l.map f) c) H=some (.v (.int .i64 l.length)):=by
 unfold qP
 rw[h1]
 simp[fY]
section
variable {P:Program} {t e es by_:Nat} {T:Type} {f:T->List A}
def gD (l:List T) (lo hi:Int):Option (List T):=bif decide (0<=lo)&&decide (lo<=hi)&&decide (hi<=l.length) then some ((l.drop lo.toNat).take (hi.toNat - lo.toNat)) else none
def cF (b:Nat) (l l2:List T):Option (List T):=bif decide ((l.length+l2.length)*b<=db) then some (l++l2) else none
def ka (f:T->List A):Prop:=∀ x,(f x).all A.cell=true
theorem Jf (k:IntKind):ka (cI k):=fun _=>rfl
theorem Gf:ka c8:=fun _=>rfl
theorem tE (hl:∀ x,(f x).length=es) (hc:ka f) (l:List T):((l.map f).all fun cs=>cs.length==es&&cs.all A.cell)=true:=by
 rw[List.all_map]
 exact SJ.2 fun x _=>by simp[hl,hc x]
def ow (H:ar) (y:A) (f:T->List A) (l:List T):Prop:=els? H y=some (l.map f)
theorem bz (l:List T) (c:Bool) (H:ar):ow H (.imm (l.map f) c) f l:=rfl
theorem qw (s:ByteArray) (H:ar):ow H (.v (.string s)) c8 s.data.toList:=rfl
theorem uX {P:Program} {H:ar} {t2 by_:Nat} {z:List A} {y:A} (h:jW P t2=true):yo P H t2 by_ z y=els? H y:=by unfold yo; rw[h]; rfl
theorem pE (hl:∀ x,(f x).length=es) (hc:ka f) (h0:es≠0) (hb:by_≠0) {z:List A} (hz:z.length=es) (l2:List T) :
  (es==0 || by_==0 || !(z.length==es) || !((l2.map f).all fun cs=>cs.length==es&&cs.all A.cell))=false:=by
 rw[tE hl hc]
 simp[h0,hb,hz]
theorem D9 {t2:Nat} {z:List A} (h1:jI P t=some e) (h2:cz P e=some es) (h3:jv P e=some by_) (h4:gB P e=some z) (hz:z.length=es) (h0:es≠0) (hb:by_≠0) (hn:jW P t2=true)
  (hl:∀ x,(f x).length=es) (hc:ka f) {H:ar} {lo:Nat} {l l2:List T} {y:A} (hy:ow H y f l2) :
  bG P t t2 false (.imm (l.map f) true) y H lo=(cF by_ l l2).map fun r=>(.sl H.length 0 r.length false,H++[.row false es (r.map f)]):=by
 unfold bG
 rw[h1,Sw,h2,Sw,h3,Sw,h4,Sw,uX hn,show els? H y=_ from hy,Sw,pE hl hc h0 hb hz,SA]
 simp only[Uq,Bool.false_and,SA,tE hl hc,SC,cF]
 cases decide ((l.length+l2.length)*by_<=db)<;>simp
theorem Ea {t2:Nat} {z:List A} (h1:jI P t=some e) (h2:cz P e=some es) (h3:jv P e=some by_) (h4:gB P e=some z) (hz:z.length=es) (h0:es≠0) (hb:by_≠0) (hn:jW P t2=true)
  (hl:∀ x,(f x).length=es) (hc:ka f) {wr:Bool} {H:ar} {lo b:Nat} {l l2:List T} {y:A} (hH:H[b]? = some (.row false es (l.map f))) (hlo:lo<=b) (hy:ow H y f l2) :
  bG P t t2 wr (.sl b 0 l.length false) y H lo=(cF by_ l l2).map fun r=>(.sl b 0 r.length false,H.set b (.row false es (r.map f))):=by
 unfold bG
 rw[h1,Sw,h2,Sw,h3,Sw,h4,Sw,uX hn,show els? H y=_ from hy,Sw,pE hl hc h0 hb hz,SA]
 simp only[hH,Uq,cF]
 cases hd:decide ((l.length+l2.length)*by_<=db)<;>simp[hlo]
structure xI (P:Program) (t t2 e es by_:Nat) (z:List A) (f:T->List A):Prop where
 h1:jI P t=some e
 h2:cz P e=some es
 h3:jv P e=some by_
 h4:gB P e=some z
 hz:z.length=es
 h0:es≠0
 hb:by_≠0
 hn:jW P t2=true
 hl:∀ x,(f x).length=es
 hc:ka f
theorem k9 {t2:Nat} {z:List A} (a:xI P t t2 e es by_ z f) {H:ar} {lo:Nat} {l l2:List T} {y:A} (hy:ow H y f l2) :
  bG P t t2 false (.imm (l.map f) true) y H lo=(cF by_ l l2).map fun r=>(.sl H.length 0 r.length false,H++[.row false es (r.map f)]):=D9 a.h1 a.h2 a.h3 a.h4 a.hz a.h0 a.hb a.hn a.hl a.hc hy
theorem cA {t2:Nat} {z:List A} (a:xI P t t2 e es by_ z f) {wr:Bool} {H:ar} {lo b:Nat} {l l2:List T} {y:A} (hH:H[b]? = some (.row false es (l.map f))) (hlo:lo<=b) (hy:ow H y f l2) :
  bG P t t2 wr (.sl b 0 l.length false) y H lo=(cF by_ l l2).map fun r=>(.sl b 0 r.length false,H.set b (.row false es (r.map f))):=Ea a.h1 a.h2 a.h3 a.h4 a.hz a.h0 a.hb a.hn a.hl a.hc hH hlo hy
theorem AW {d:Nat} {k:IntKind} {n:Int}:jX d (some (.v (.int k n)))=bif decide (0<=n) then some n.toNat else none:=rfl
theorem gp {P:Program} {t e:TypeId} {es:Nat} {T:Type} {f:T->List A} {l:List T} {c:Bool} {k:IntKind} {i:Int} {H:ar} (h1:P.underlying t=some (.slice e):=by kernel_rfl) (h2:cz P e=some es:=by kernel_rfl) (h3:∀ x,(f x).length=es:=by exact fun _=>rfl) :
  cQ P t (.imm (l.map f) c) (.v (.int k i)) H=(bE l i).map fun x=>.ip (f x):=Es f l c k i H h1 h2 h3
theorem eE {P:Program} {t e:TypeId} {T:Type} {f:T->List A} {l:List T} {c:Bool} {H:ar} (h1:P.underlying t=some (.slice e):=by kernel_rfl):qP P t (.imm (l.map f) c) H=some (.v (.int .i64 l.length)):=EA f l c H h1
theorem oM (h1:P.underlying t=some (.slice e)) (h2:cz P e=some es) (hl:∀ x,(f x).length=es) {H:ar} {l:List T} {lo hi:Option A} {a b:Int} (ha:(lo=none/\a=0)∨∃ k,lo=some (.v (.int k a))) (hb:(hi=none/\b=l.length)∨∃ k,hi=some (.v (.int k b))) :
  eb P t (.imm (l.map f) false) lo hi none H=(gD l a b).map fun r=>.imm (r.map f) false:=by
 unfold eb
 rw[h1]
 simp only[h2,Sw,Uq,Bool.false_and]
 have e1:jX l.length hi=bif decide (0<=b) then some b.toNat else none:=by
  rcases hb with ⟨rfl,rfl⟩ | ⟨k,rfl⟩
  ·simp[jX]
  ·rfl
 have e2:jX 0 lo=bif decide (0<=a) then some a.toNat else none:=by
  rcases ha with ⟨rfl,rfl⟩ | ⟨k,rfl⟩
  ·simp[jX]
  ·rfl
 have e3:∀ i:Nat,(i==0 || match (l.map f)[i]? with | some cs=>cs.length==es | none=>true)=true:=fun i=>by
  rw[Td]
  cases l[i]?<;>simp[hl]
 rw[e1,e2]
 unfold gD
 by_cases hb0:0<=b
 ·by_cases ha0:0<=a
  ·have q1:(decide (a.toNat<=b.toNat))=decide (a<=b):=by rw[Vt]; omega
   have q2:(decide (b.toNat<=l.length))=decide (b<=(l.length:Int)):=Sp
   simp only[hb0,ha0,TZ,SC,Sw,Tm,q1,q2,UT,Vq]
   have e4:=e3 a.toNat
   rw[Td] at e4 ⊢
   cases hx:l[a.toNat]?<;>rw[hx] at e4<;>cases (decide (a<=b)&&decide (b<=(l.length:Int)))<;>simp[hl]
  ·simp[hb0,ha0]
 ·have:(decide (0<=a)&&decide (a<=b)&&decide (b<=(l.length:Int)))=false:=by
   rw[U3]; intro hh; simp only[Sz,SG] at hh; omega
  simp[hb0,this]
theorem mo (h1:P.underlying t=some (.slice e)) (h2:cz P e=some es) (hl:∀ x,(f x).length=es) {H:ar} {l:List T} {lo:Option A} {a b:Int} {k1 k2:IntKind} {c:Bool} (ha:(lo=none/\a=0)∨∃ k,lo=some (.v (.int k a))) :
  eb P t (.imm (l.map f) c) lo (some (.v (.int k1 b))) (some (.v (.int k2 b))) H=(gD l a b).map fun r=>.imm (r.map f) true:=by
 unfold eb
 rw[h1]
 simp only[h2,Sw,Uq,AW,idx]
 have e2:jX 0 lo=bif decide (0<=a) then some a.toNat else none:=by
  rcases ha with ⟨rfl,rfl⟩ | ⟨k,rfl⟩
  ·simp[jX]
  ·rfl
 have e3:∀ i:Nat,(i==0 || match (l.map f)[i]? with | some cs=>cs.length==es | none=>true)=true:=fun i=>by
  rw[Td]
  cases l[i]?<;>simp[hl]
 rw[e2]
 unfold gD
 by_cases hb0:0<=b
 ·by_cases ha0:0<=a
  ·have q1:(decide (a.toNat<=b.toNat))=decide (a<=b):=by rw[Vt]; omega
   have q2:(decide (b.toNat<=l.length))=decide (b<=(l.length:Int)):=Sp
   simp only[hb0,ha0,TZ,SC,Sw,Tm,q1,q2,UT,Vq,Ua]
   rw[Td]
   cases hx:l[a.toNat]?<;>cases (decide (a<=b)&&decide (b<=(l.length:Int)))<;>simp[hl]
  ·simp[hb0,ha0]
 ·have:(decide (0<=a)&&decide (a<=b)&&decide (b<=(l.length:Int)))=false:=by
   rw[U3]; intro hh; simp only[Sz,SG] at hh; omega
  simp[hb0,this]
theorem ng (hf:bQ f) {H:ar} {b n:Nat} {l:List T} (h:H[b]? = some (.row false es (l.map f))):gS (n+1) H b 0 l.length=.imm (l.map f) false:=by
 unfold gS
 rw[h]
 simp only[Tq]
 rw[Tj r8,bX hf]
theorem bS (hf:bQ f) {H:ar} {b n:Nat} {wr:Bool} {l:List T} (h:H[b]? = some (.row wr es (l.map f))):hJ (n+1) H b 0 l.length=.imm (l.map f) false:=by
 unfold hJ
 rw[h]
 simp only[Tq]
 rw[Tj r8,bX hf]
theorem hU (hf:bQ f) {H:ar} {b n o m:Nat} {wr:Bool} {l:List T} (h:H[b]? = some (.row wr es (l.map f))):hJ (n+1) H b o m=.imm (((l.drop o).take m).map f) false:=by
 unfold hJ
 rw[h]
 simp only[<-Vq,<-UT]
 rw[bX hf]
def nZ (n:Nat) (i:Int):Option Nat:=bif decide (0<=i)&&decide (i<n) then some i.toNat else none
def qo (l:List T) (i:Nat) (u:T->T):Option (List T):=match l[i]? with | some y=>some (l.set i (u y)) | none=>none
def NW (b:Nat) (n:Int) (z:T):Option (List T):=bif decide (0<=n)&&decide (n*b<=db)&&decide (n<=db) then some (List.replicate n.toNat z) else none
theorem Er {n:Nat} {i:Int}:(bif decide (0<=i) then some i.toNat else none:Option Nat).bind (fun j=>bif decide (j<n) then some j else none)=nZ n i:=by
 unfold nZ
 by_cases h:0<=i
 ·have:decide (i.toNat<n)=decide (i<n):=by rw[Vt]; omega
  simp[h,this]
 ·simp[h]
theorem DK {H:ar} {b o n:Nat} {l:List T} {c:Bool} {k:IntKind} {i:Int} (h1:P.underlying t=some (.slice e)) (h2:cz P e=some es) (h:H[b]? = some (.row true es (l.map f))) :
  cQ P t (.sl b o n c) (.v (.int k i)) H=(nZ n i).map fun j=>.ep b (o+j) 0:=by
 unfold cQ idx
 rw[h1,<-Er]
 by_cases hi:0<=i
 ·simp only[hi,TZ,SC,Sw,fY,h2,h,Ua]
  cases decide (i.toNat<n)<;>rfl
 ·simp only[hi,Uk,SA,Vs,Option.map_none]
theorem nh {H:ar} {b n:Nat} {l:List T} {c:Bool} {k:IntKind} {i:Int} (h1:P.underlying t=some (.slice e)) (h2:cz P e=some es) (h:H[b]? = some (.row true es (l.map f))) :
  cQ P t (.sl b 0 n c) (.v (.int k i)) H=(nZ n i).map fun j=>.ep b j 0:=by
 rw[DK h1 h2 h]
 cases nZ n i<;>simp
theorem lN {H:ar} {b i o n lo:Nat} {l:List T} {x:A} {xs:List A} {u:T->T} (h2:cz P t=some n) (hx:x.cells? = some xs) (h0:n≠0) (hxl:xs.length=n) (hl:∀ x,(f x).length=es) (ho:o+n<=es) (hlo:lo<=b) (h:H[b]? = some (.row true es (l.map f))) (hu:∀ y,bk (f y) o xs=f (u y)) :
  iL P t (.ep b i o) x H lo=(qo l i u).map fun r=>H.set b (.row true es (r.map f)):=by
 unfold iL qo
 rw[h2,Sw,hx,Sw]
 have:(n==0 || !(xs.length==n))=false:=by simp[h0,hxl]
 simp only[this,SA,h,Td]
 cases l[i]? with
 | none=>rfl
 | some y=>simp only[Tp,hl,SD ho,SD hlo,Ut,SC,hu,List.map_set]
theorem zb {H:ar} {k1 k2:IntKind} {n:Int} {z:T} (h1:jI P t=some e) (h2:cz P e=some es) (h3:jv P e=some by_) {z':List A} (h4:gB P e=some z') (hz:z'.map vJ=f z) (h0:es≠0) (hl:∀ x,(f x).length=es) :
  gG P t (.v (.int k1 n)) (.v (.int k2 n)) H=(NW by_ n z).map fun r=>(.imm (r.map f) false,H):=by
 unfold gG NW idx
 rw[h1,Sw,h2,Sw,h3,Sw,h4,Sw]
 have hzl:z'.length=es:=by have:=hl z; rw[<-hz] at this; simpa using this
 by_cases hn:0<=n
 ·have e1:decide (n.toNat*by_<=db)=decide (n*by_<=db):=by
   obtain ⟨m,rfl⟩:∃ m:Nat,n=m:=⟨n.toNat,o3⟩
   rw[Vt,T1]
   exact⟨fun h=>by exact_mod_cast h,fun h=>by exact_mod_cast h⟩
  have e2:decide (n.toNat<=db)=decide (n<=db):=Sp
  simp only[hn,TZ,SC,Sw,hz,hzl,Ua,S0,Bool.or_false,e1,e2,Tm]
  have:(es==0)=false:=by simpa using h0
  rw[this]
  cases decide (n*by_<=db)<;>cases decide (n<=db)<;>simp
 ·simp[hn]
theorem mT {t2:Nat} {z:List A} (h1:jI P t=some e) (h2:cz P e=some es) (h3:jv P e=some by_) (h4:gB P e=some z) (hz:z.length=es) (h0:es≠0) (hb:by_≠0) (hn:jW P t2=true)
  (hl:∀ x,(f x).length=es) (hc:ka f) {H:ar} {lo:Nat} {l2:List T} {y:A} (hy:ow H y f l2) :
  bG P t t2 true (.imm [] true) y H lo=(cF by_ [] l2).map fun r=>(.sl H.length 0 r.length false,H++[.row true es (r.map f)]):=by
 unfold bG
 rw[h1,Sw,h2,Sw,h3,Sw,h4,Sw,uX hn,show els? H y=_ from hy,Sw,pE hl hc h0 hb hz,SA]
 simp only[Vg,Uq,Th,List.isEmpty_nil,Ut,SC,cF,TN]
 cases decide (l2.length*by_<=db)<;>simp
theorem CG (hf:bQ f) {H:ar} {b o n lo:Nat} {c:Bool} {l:List T} (h:H[b]? = some (.row true es (l.map f))) (hlo:lo<=b):mj lo (.sl b o n c) H=some (.imm (((l.drop o).take n).map f) false,H.set b .dead):=by
 unfold mj
 simp only[h,SD hlo,SC,<-Vq,<-UT,bX hf]
end
def fR (l:List UInt8):ByteArray:=⟨l.toArray⟩
def kF (s:ByteArray):List UInt8:=s.data.toList
theorem qZ:∀ l:List UInt8,bytesOf (l.map c8)=some l
 | []=>rfl
 | a :: l=>by
  rw[TS]
  show (bytesOf (l.map c8)).map (((a.toNat:Int).toNat.toUInt8) :: ·)=_
  rw[qZ l]
  simp
theorem mW {P:Program} {s d e:Nat} (h1:P.underlying s=some (.slice e)) (h2:P.underlying d=some .string) (h3:P.underlying e=some (.int .u8)) (h4:cz P e=some 1) {H:ar} {x:A} {l:List UInt8} (hx:ow H x c8 l) (hn:wD H x=els? H x) :
  aW P s d x H=some (.v (.string (fR l))):=by
 unfold aW
 rw[h1,h2]
 simp only[h3,h4,hn]
 rw[show els? H x=_ from hx,Sw,qZ]
 rfl
def DE (y:Nat):A:=bif Nat.beq y 0 then .v .nilFunc else .fn (.func y) [] []
theorem yW (L e:Nat):A.under L (DE e)=true:=by unfold DE; cases Nat.beq e 0<;>rfl
theorem gT:(∀ (L e:Nat),A.under L (DE e)=true)/\(∀ {T:Type} {f:T->List A} (hf:cV f) (L:Nat) (l:List T),aQ L (l.map f)=true)/\(∀ (L:Nat) (a b:List A),aZ L (a++b)=(aZ L a&&aZ L b))/\(∀ k,cV (cI k))/\cV c8/\cV cB/\cV cS/\(∀ {T:Type} {f:T->List A} (hf:cV f),cV (cL f))/\(∀ b:Bool,(b&&true)=b)/\(∀ b:Bool,(true&&b)=b)/\(∀ {β:Type} (x y:β),(bif true then x else y)=x):=
 ⟨yW,cO,sJ,lV,lT,lU,lX,lW,fun b=>TT b,fun b=>Tm b,fun _ _=>rfl⟩
theorem uB:(∀ (L:Nat) (cs:List A),aD.under L (.box cs)=aZ L cs)/\(∀ (L:Nat) (b:Bool) (e:Nat) (l:List (List A)),aD.under L (.row b e l)=aQ L l)/\(∀ (L:Nat) (r:D5),aD.under L (.rng r)=true)/\(∀ L:Nat,aD.under L .dead=true)/\(∀ (L:Nat) (k:IntKind) (ks:List Int) (vs:List A),aD.under L (.mp k ks vs)=aZ L vs) ∧
  (∀ L:Nat,aZ L []=true)/\(∀ (L:Nat) (a:A) (as:List A),aZ L (a :: as)=(A.under L a&&aZ L as))/\(∀ L:Nat,aQ L []=true)/\(∀ (L:Nat) (a:List A) (as:List (List A)),aQ L (a :: as)=(aZ L a&&aQ L as)) ∧
  (∀ L:Nat,A.under L .any=true)/\(∀ (L:Nat) (v:Value),A.under L (.v v)=true)/\(∀ L b o:Nat,A.under L (.ptr b o)=decide (b<L))/\(∀ L b i o:Nat,A.under L (.ep b i o)=decide (b<L))/\(∀ (L b o n:Nat) (c:Bool),A.under L (.sl b o n c)=decide (b<L))/\(∀ L b:Nat,A.under L (.mr b)=decide (b<L)) ∧
  (∀ (L:Nat) (cs:List A),A.under L (.ip cs)=aZ L cs)/\(∀ (L:Nat) (cs:List A),A.under L (.agg cs)=aZ L cs)/\(∀ (L:Nat) (cs:List A),A.under L (.tup cs)=aZ L cs)/\(∀ (L:Nat) (l:List (List A)) (c:Bool),A.under L (.imm l c)=aQ L l)/\(∀ (L:Nat) (f:Fn) (a b:List A),A.under L (.fn f a b)=(aZ L a&&aZ L b))/\(∀ (L:Nat) (t:TypeId) (x:A),A.under L (.ifc t x)=A.under L x) ∧
  (∀ f:aD->Bool,[].all f=true)/\(∀ (f:aD->Bool) (b:aD) (H:ar),(b :: H).all f=(f b&&H.all f)):=by
 refine⟨?_,?_,?_,?_,?_,?_,?_,?_,?_,?_,?_,?_,?_,?_,?_,?_,?_,?_,?_,?_,?_,?_,?_⟩<;>intros<;>first | rfl | (simp only[aD.under,A.under,aZ,aQ]; done)
theorem fb {L:Nat} {H H':ar} (h:H.take L=H') (hu:H'.all (aD.under L)=true):trim L H=some H':=by
 unfold trim
 rw[h,hu]
 cases hL:H.length==L with
 | false=>rfl
 | true=>rw[<-h,Tj (Vj (eq_of_beq hL))]; rfl
theorem J.ds {cx:Cx} {call:aU} {e:Nat} (q:Nat) {args:List A} {H:ar} {lo:Nat} {k pan:A->ar->Option Go.Proofs.Ytebkhfhcipnfgaa.R} {kL:Go.Proofs.Ytebkhfhcipnfgaa.R->Option ρ} (h:decide (e=q)=true) (hq:Nat.beq q 0=false)
  (hk:J φ (dn cx call (.fn (.func q) [] []) args H lo k pan) kL R K):J φ (dn cx call (DE e) args H lo k pan) kL R K:=by
 rw[SF h]
 unfold DE
 rw[hq]
 exact hk
abbrev iA (n:Int):A:=A.v (Value.int .i64 n)
abbrev uA (n:Int):A:=A.v (Value.int .u8 n)
abbrev bA (b:Bool):A:=A.v (Value.bool b)
theorem B9 {β:Type} {cx:Cx} {k m n lo:Nat} {args:List A} {H5 X:ar} {Y:Option β} {o:β->Out} {H':β->ar} (hk:Nat.ble cx.P.funcs.size k=false) (hm:cx.cut k=m) (hm0:Nat.beq m 0=false) (hl:H5.length=m) (ha:aZ m args=true) (hh:H5.all (aD.under m)=true)
  (hl':∀ y,(H' y).length=m) (hv:∀ y,kR m (o y)=true) (hh':∀ y,(H' y).all (aD.under m)=true) (h:J (fun (r:Out×ar) y=>∃ Z,r=(o y,H' y++Z)) (aB cx (dx cx n) (bo cx n) n k args H5 lo) some Y some) :
  J (fun (r:Out×ar) y=>r=(o y,H' y++X)) (dx cx (n+1) k args (H5++X) lo) some Y some:=by
 intro r hr
 obtain ⟨s,h1,Z,rfl⟩:=h r hr
 refine⟨_,?_,rfl⟩
 have h2:aB cx (bo cx n DT) (bo cx n) n k args H5 lo=some (o r,H' r++Z):=by
  rw[Option.bind_fun_some] at h1
  exact h1
 have hc:fH cx k (H5++X)=true:=by
  unfold fH
  rw[hm,hm0,TI Sq]
  rfl
 have hc2:cutAt cx k (H5++X)=m:=by
  unfold cutAt
  rw[hm,TI Sq]
  rfl
 have t1:(H5++X).take m=H5:=by rw[<-hl,List.take_left]
 have t2:(H5++X).drop m=X:=by rw[<-hl,List.drop_left]
 have t3:(H' r++Z).take m=H' r:=by rw[<-hl' r,List.take_left]
 have t4:Nat.ble m (H' r++Z).length=true:=TI (by rw[SX,hl']; omega)
 unfold dx
 rw[bo,hk,hc]
 simp only[SC,SA]
 unfold mX
 rw[hc2,t1,t2,ha,hh]
 show ((bif true&&true then (aB cx (bo cx n DT) (bo cx n) n k args H5 lo).bind _ else none).bind some)=_
 rw[h2]
 simp only[Ut,SC,Sw,t4,t3,hh',hv]
def pn {β:Type} (m:Nat) (r:Go.Proofs.Ytebkhfhcipnfgaa.R) (k:Go.Proofs.Ytebkhfhcipnfgaa.R->Option β):Option β:=bif Nat.ble m r.2.length&&(r.2.take m).all (aD.under m)&&kR m r.1 then k (r.1,r.2.take m) else none
theorem J.td {m:Nat} {x:Option Go.Proofs.Ytebkhfhcipnfgaa.R} {k:Go.Proofs.Ytebkhfhcipnfgaa.R->Option σ} (h:J φ x (fun r=>(pn m r k).bind kL) R K):J φ ((x.bind fun r=>pn m r some).bind k) kL R K:=by
 refine J.lp ?_ (J.bb h)
 cases x with
 | none=>rfl
 | some r=>
  show (pn m r some).bind k=pn m r k
  unfold pn
  cases Nat.ble m r.2.length&&(r.2.take m).all (aD.under m)&&kR m r.1<;>rfl
theorem J.Q7 {m k n lo:Nat} {cx:Cx} {base:aU} {args:List A} {H:ar} {x:Option Go.Proofs.Ytebkhfhcipnfgaa.R} {k':Go.Proofs.Ytebkhfhcipnfgaa.R->Option σ} (h:bo cx (n+1) base k args H lo=x.bind fun r=>pn m r some) (hk:J φ x (fun r=>(pn m r k').bind kL) R K):J φ ((bo cx (n+1) base k args H lo).bind k') kL R K:=J.lp (Ty (fun z=>Option.bind z k') h) (J.td hk)
theorem J.ct {m k n lo:Nat} {cx:Cx} {args:List A} {H:ar} {x:Option Go.Proofs.Ytebkhfhcipnfgaa.R} {k':Go.Proofs.Ytebkhfhcipnfgaa.R->Option σ} (h:bo cx (n+1) DT k args H lo=x.bind fun r=>pn m r some) (hk:J φ x (fun r=>(pn m r k').bind kL) R K):J φ ((dx cx (n+1) k args H lo).bind k') kL R K:=J.Q7 h hk
theorem Ae {α:Type} (x:α):∀ (a l:List α) (b:Nat),a.length<=b->(a++l).set b x=a++l.set (b - a.length) x
 | [],l,b,_=>rfl
 | y :: a,l,0,h=>by simp at h
 | y :: a,l,b+1,h=>by
  rw[Tg,List.set_cons_succ,Ae x a l b (by simpa using h),SW,Nat.add_sub_add_right,Tg]
theorem fQ {o:Out} {lo off b p:Nat} {H2 X:ar} (h:H2.length<=b):∃ Z,(o,ed lo off 0 (.ptr b p) (H2++X))=(o,H2++Z):=by
 have key:∃ Z,ed lo off 0 (.ptr b p) (H2++X)=H2++Z:=by
  unfold ed
  simp only[]
  split
  ·split
   ·cases decide (lo<=b) with
    | false=>exact⟨X,rfl⟩
    | true=>exact⟨_,Ae _ _ _ _ h⟩
   ·exact⟨X,rfl⟩
  ·exact⟨X,rfl⟩
 obtain ⟨Z,hZ⟩:=key
 exact⟨Z,by rw[hZ]⟩
theorem wi {T:Type} {f:T->List A} (hf:bQ f) {H:ar} {lo off b o b' es:Nat} {l:List T} {cs:List A} {c:Bool} (h1:H[b]? = some (.box cs)) (h2:cs[o+off]? = some (.sl b' 0 l.length c)) (h3:H[b']? = some (.row false es (l.map f))) (h4:lo<=b) :
  ed lo off 0 (.ptr b o) H=H.set b (.box (cs.set (o+off) (.imm (l.map f) false))):=by
 unfold ed
 simp only[h1,h2,SD h4,SC]
 rw[show Gm H (.sl b' 0 l.length c)=.imm (l.map f) false from ng (n:=3) hf h3]
def CD {T:Type} (l:List T) (i:Int) (x:T):Option (List T):=bif decide (0<=i)&&decide (i<=(l.length:Int))&&decide (l.length<4294967296) then some (l.take i.toNat++x :: l.drop i.toNat) else none
theorem Hu {T:Type} {cx:Cx} {k n lo es b:Nat} {base:aU} {cl cl2:Bool} {i:Int} {v:List A} {H:ar} {f:T->List A} {l:List T} {x:T} (hk:Nat.ble cx.P.funcs.size k=false) (hc:fH cx k H=false) (hd:fS cx k H=false) (hi:cx.ins k=es) (h0:Nat.beq es 0=false) (hl:∀ x,(f x).length=es) (hcf:ka f)
  (hB:H[b]? = some (.row true es (l.map f))) (hlo:lo<=b) (hv:f x=v) :
  bo cx (n+1) base k [.sl b 0 l.length cl,.v (.int .i64 i),.imm [v] cl2] H lo=(CD l i x).map fun r=>(.ret (.imm (r.map f) false),H.set b .dead):=by
 rw[bo,hk,hc,hd]
 show aB cx (bo cx n base) (bo cx n) n k _ H lo=_
 have hlt:k<cx.P.funcs.size:=TV fun h=>by rw[TI h] at hk; cases hk
 unfold aB
 rw[Tl hlt,Sw,hi,h0]
 simp only[UM,SC]
 subst hv
 have hall:(l.map f).all (fun cs=>cs.all A.cell)=true:=by
  rw[List.all_map]
  exact SJ.2 fun y _=>hcf y
 have hb1:Nat.beq es es=true:=Vz es
 have hb2:Nat.beq l.length l.length=true:=Vz _
 unfold qz CD
 simp only[hB,Uq,hl,hb1,hb2,h0,hcf x,hall,hlo,TZ,UM,TT,Tm]
 cases hc:(decide (0<=i)&&decide (i<=(l.length:Int))&&decide (l.length<4294967296)) with
 | false=>rfl
 | true=>simp[UT,Vq]
theorem J.R1 {β:Type} {k n lo:Nat} {cx:Cx} {base:aU} {args:List A} {H:ar} {X:Option β} {o:β->Go.Proofs.Ytebkhfhcipnfgaa.R} {Y:β->Option α} {k':Go.Proofs.Ytebkhfhcipnfgaa.R->Option σ} (h:bo cx (n+1) base k args H lo=X.map o) (hk:∀ y,J φ (k' (o y)) kL (Y y) K):J φ ((bo cx (n+1) base k args H lo).bind k') kL (X.bind Y) K:=by
 rw[h]
 cases X with
 | none=>exact J.nn
 | some y=>exact hk y
theorem J.is {β:Type} {k n lo:Nat} {cx:Cx} {args:List A} {H:ar} {X:Option β} {o:β->Go.Proofs.Ytebkhfhcipnfgaa.R} {Y:β->Option α} {k':Go.Proofs.Ytebkhfhcipnfgaa.R->Option σ} (h:bo cx (n+1) DT k args H lo=X.map o) (hk:∀ y,J φ (k' (o y)) kL (Y y) K):J φ ((dx cx (n+1) k args H lo).bind k') kL (X.bind Y) K:=J.R1 h hk
def four {α:Type} (k:Nat) (a b c d:α):α:=match k with | 0=>a | 1=>b | 2=>c | _=>d
end
section
open Go.RowKit Go.ChangeShapes Go.WideShapes Go.ChangeAt Go.Deep
theorem xB (k o:Nat):dP [] (G0 fun _ _=>True) k o:=⟨trivial,fun b hb=>by cases hb⟩
def mg (P:Program) (t:TypeId) (T:List A->Prop):Prop:=
 ∀ {H:Type} (enc:TypeId×Value->H) (w:World) (held:Bool) (fuel:Nat) (cs:List Value) (x:DataW H×List MemPlace),DataW.trod enc P w 0 (fun _=>true) held fuel t cs=some x->∃ as,T as/\bl [] (G0 fun _ _=>True) w as cs
def MN (as:List A):Prop:=∃ n:Int,as=[.v (.int .i64 n)]/\-9223372036854775808<=n/\n<=9223372036854775807
theorem zs {H:ar} {g:Gh} {w:World} (x:Value):bl H g w [.v x] [x]:=by rw[bl]; exact⟨x,[],rfl,s6,u3⟩
theorem yP {P:Program} {t:TypeId} (ht:P.underlying t=some (.int .i64)):mg P t MN:=by
 intro H enc w held fuel cs x h
 obtain ⟨n,rfl,_,hw⟩:=DataW.trod_int ht h
 exact⟨_,⟨n,rfl,(bounds_i64 hw).1,(bounds_i64 hw).2⟩,zs _⟩
theorem qJ {H:ar} {g:Gh} {w:World} {a:A} {as:List A} {c:Value} {cs:List Value} (h:VR H g w a c) (k:bl H g w as cs):bl H g w (a :: as) (c :: cs):=by rw[bl]; exact⟨c,cs,rfl,h,k⟩
def BO:List (List A->Prop)->List A->Prop
 | [],as=>as=[]
 | T :: Ts,as=>∃ a b,as=a++b/\T a/\BO Ts b
def CI (P:Program) (N:Nat):List Field->Nat->Bool
 | [],o=>Nat.beq o N
 | f :: fs,o=>Nat.beq f.offset o&&CI P N fs (o+P.cellsOf f.type)
def ReadsAll (P:Program):List Field->List (List A->Prop)->Prop
 | [],[]=>True
 | f :: fs,T :: Ts=>mg P f.type T/\ReadsAll P fs Ts
 | _,_=>False
theorem nJ {H:ar} {g:Gh} {w:World}:∀ {a:List A} {c:List Value} {b:List A} {d:List Value},bl H g w a c->bl H g w b d->bl H g w (a++b) (c++d)
 | [],c,b,d,h,k=>by rw[bl] at h; subst h; exact k
 | x :: a,c,b,d,h,k=>by
  rw[bl] at h
  obtain ⟨y,c',rfl,h1,h2⟩:=h
  rw[Tg,Tg,bl]
  exact⟨y,_,rfl,h1,nJ h2 k⟩
theorem pf {P:Program} {H:Type} (enc:TypeId×Value->H) (w:World) (held:Bool) (cs:List Value) {N:Nat} (hN:cs.length=N):∀ (fs:List Field) (Ts:List (List A->Prop)) (o:Nat),CI P N fs o=true->ReadsAll P fs Ts ->
  (∀ (i:Nat) f,fs[i]? = some f->∃ n x,DataW.trod enc P w 0 (fun _=>true) held n f.type ((cs.drop f.offset).take (P.cellsOf f.type))=some x)->∃ as,BO Ts as/\bl [] (G0 fun _ _=>True) w as (cs.drop o)
 | [],[],o,hl,_,_=>by
  rw[CI] at hl
  have:o=N:=SM hl
  refine⟨[],rfl,?_⟩
  rw[bl,S8.2 o3]
 | f :: fs,T :: Ts,o,hl,hr,hx=>by
  rw[CI,Sz] at hl
  obtain ⟨hl1,hl⟩:=hl
  have ho:f.offset=o:=SM hl1
  obtain ⟨n,x,h0⟩:=hx 0 f rfl
  obtain ⟨a,ha,hv⟩:=hr.1 enc w held n _ x h0
  obtain ⟨b,hb,hvb⟩:=pf enc w held cs hN fs Ts (o+P.cellsOf f.type) hl hr.2 fun i f' hf'=>hx (i+1) f' (by simpa using hf')
  refine⟨a++b,⟨a,b,rfl,ha,hb⟩,?_⟩
  have e:cs.drop o=(cs.drop o).take (P.cellsOf f.type)++cs.drop (o+P.cellsOf f.type):=by
   rw[<-VI]; exact(T3 _ _).symm
  rw[e,<-ho]
  rw[<-ho] at hvb
  exact nJ hv hvb
 | [],_ :: _,_,_,hr,_=>hr.elim
 | _ :: _,[],_,_,hr,_=>hr.elim
theorem fX {P:Program} {t:TypeId} {fs:Array Field} {Ts:List (List A->Prop)} (ht:P.underlying t=some (.struct fs)) (hl:CI P (P.cellsOf t) fs.toList 0=true) (hr:ReadsAll P fs.toList Ts):mg P t (BO Ts):=by
 intro H enc w held fuel cs x h
 obtain ⟨xs,n,_,rfl,hlen,hxs,hf⟩:=DataW.trod_struct ht h
 obtain ⟨as,h1,h2⟩:=pf enc w held cs hlen fs.toList Ts 0 hl hr fun i f hi=>by
  have hi':i<xs.length:=by
   have:=(SB.1 hi).1
   simp at this; omega
  exact⟨n,xs[i],by rw[hf i f (by simpa using hi)]; exact Sx hi'⟩
 exact⟨as,h1,by simpa using h2⟩
theorem sY {H:Type} {enc:TypeId×Value->H} {P:Program} {W:World} {base:Nat} {ts:Array TypeId} {args:Array Value} (h:qF enc P W base ts args) (j:Nat) {t:TypeId} {v:Value} (hj:ts[j]? = some t) (hv:args[j]? = some v) {fs:Array Field} (ht:P.underlying t=some (.struct fs)) {T:List A->Prop} (hT:mg P t T) :
  ∃ as,T as/\VR [] (G0 fun _ _=>True) W (.agg as) v:=by
 obtain ⟨ok,d,p,fuel,htr⟩:=h.2 j t v hj hv
 unfold Value.okWide at ok
 rw[ht] at ok
 obtain ⟨cs,rfl,_,_⟩:=ok
 obtain ⟨as,h1,h2⟩:=hT enc W _ _ _ _ htr
 refine⟨as,h1,?_⟩
 rw[VR]
 exact⟨cs,rfl,h2⟩
theorem AP {H:Type} {enc:TypeId×Value->H} {P:Program} {W:World} {base:Nat} {ts:Array TypeId} {args:Array Value} (h:qF enc P W base ts args) (j:Nat) {t:TypeId} {v:Value} (hj:ts[j]? = some t) (hv:args[j]? = some v) (ht:P.underlying t=some (.int .u8)) :
  ∃ n:Int,(0<=n/\n<=255)/\VR [] (G0 fun _ _=>True) W (.v (.int .u8 n)) v:=by
 obtain ⟨n,rfl,h1,h2⟩:=Cu h j hj hv ht
 exact⟨n,⟨h1,h2⟩,s6⟩
def qj (P:Program) (t:TypeId) {T:Type} (c:T->List A) (ok:T->Prop):Prop:=mg P t fun as=>∃ x,as=c x/\ok x
def jq (n:Int):Prop:=-9223372036854775808<=n/\n<=9223372036854775807
def GW (n:Int):Prop:=0<=n/\n<=255
theorem jY {P:Program} {t:TypeId} (ht:P.underlying t=some (.int .i64)):qj P t (cI .i64) jq:=fun enc w held fuel cs x h=>by
 obtain ⟨as,⟨n,rfl,h1⟩,h2⟩:=yP ht enc w held fuel cs x h
 exact⟨_,⟨n,rfl,h1⟩,h2⟩
theorem qj.of {P:Program} {t:TypeId} {T:Type} {c:T->List A} {ok:T->Prop} {S:List A->Prop} (h:mg P t S) (hs:∀ as,S as->∃ x,as=c x/\ok x):qj P t c ok:=fun enc w held fuel cs x h0=>by
 obtain ⟨as,h1,h2⟩:=h enc w held fuel cs x h0
 exact⟨as,hs as h1,h2⟩
theorem Gn {H:Type} {enc:TypeId×Value->H} {P:Program} {W:World} {base:Nat} {ts:Array TypeId} {args:Array Value} (h:qF enc P W base ts args) (j:Nat) {t:TypeId} {v:Value} (hj:ts[j]? = some t) (hv:args[j]? = some v) (ht:P.underlying t=some (.int .u8)) :
  ∃ n:Int,GW n/\VR [] (G0 fun _ _=>True) W (.v (.int .u8 n)) v:=AP h j hj hv ht
theorem AQ {H:Type} {enc:TypeId×Value->H} {P:Program} {W:World} {base:Nat} {ts:Array TypeId} {args:Array Value} (h:qF enc P W base ts args) (j:Nat) {t:TypeId} {v:Value} (hj:ts[j]? = some t) (hv:args[j]? = some v) {fs:Array Field} (ht:P.underlying t=some (.struct fs)) {T:Type} {c:T->List A} {ok:T->Prop} (hT:qj P t c ok) :
  ∃ x,ok x/\VR [] (G0 fun _ _=>True) W (.agg (c x)) v:=by
 obtain ⟨as,⟨x,rfl,h1⟩,h2⟩:=sY h j hj hv ht hT
 exact⟨x,h1,h2⟩
def ma:Nat:=9223372036854775807
section
variable {P:Program} {t e:TypeId} {T:Type} {c:T->List A} {ok:T->Prop}
theorem Ku (ht:P.underlying t=some (.int .u8)):qj P t c8 (fun _=>True):=fun enc w held fuel cs x h=>by
 obtain ⟨n,rfl,_,hw⟩:=DataW.trod_int ht h
 obtain ⟨h1,h2⟩:=bounds_u8 hw
 refine⟨c8 (UInt8.ofNat n.toNat),⟨_,rfl,trivial⟩,?_⟩
 have:((UInt8.ofNat n.toNat).toNat:Int)=n:=by
  rw[UInt8.toNat_ofNat']
  omega
 unfold c8
 rw[this]
 exact zs _
theorem jD {es:Nat} (ht:P.underlying t=some (.slice e)) (hk:P.cellsOf e=es) (hpos:0<es) (hlen:∀ x,(c x).length=es) (hL:qj P e c ok):qj P t (cL c) (fun l=>l.length<=ma/\∀ z∈l,ok z):=by
 intro H enc w held fuel cs x h
 rcases open_slice ht h with ⟨rfl,_⟩ | ⟨a,len,cap,m,n,D,Pl,rfl,_,hle,hcap,hm,hxd,hel⟩
 ·refine⟨_,⟨[],rfl,Tk _,fun z hz=>(by cases hz)⟩,?_⟩
  rw[cL,bl]
  refine⟨_,[],rfl,?_,u3⟩
  rw[VR]
  exact⟨none,0,[],es,rfl,Sy _,fun h=>(by cases h),fun d hd=>(by cases hd),fun h=>absurd h (UI 0),by rw[V0,bf]⟩
 ·simp only[Vd] at hm
  have each:∀ i,i<len->∃ y:T,ok y/\∃ vs,bl [] (G0 fun _ _=>True) w (c y) vs/\vs.length=es/\∀ j,j<es->w.cell? (a.add (i*es+j))=vs[j]?:=fun i hi=>by
   obtain ⟨cs',h1,h2⟩:=hel i o3
   obtain ⟨as,⟨y,rfl,hok⟩,hv⟩:=hL enc w held n cs' _ h2
   obtain ⟨_,hl,hc⟩:=World.cells?_some h1
   have hvl:=hv.length
   rw[hlen] at hvl
   refine⟨y,hok,cs',hv,hvl,fun j hj=>?_⟩
   have:=hc j o3
   rw[hk,add_add] at this
   exact this
  obtain ⟨l,ds,hl,hdl,hall⟩:∃ (l:List T) (ds:List (List Value)),l.length=len/\ds.length=len/\∀ i y d,l[i]? = some y->ds[i]? = some d->ok y/\bl [] (G0 fun _ _=>True) w (c y) d/\d.length=es/\∀ j,j<es->w.cell? (a.add (i*es+j))=d[j]?:=by
   clear hel hm hle hcap hxd h
   induction len with
   | zero=>exact⟨[],[],rfl,rfl,fun i y d h=>by simp at h⟩
   | succ len ih=>
    obtain ⟨l,ds,hl,hdl,hall⟩:=ih (fun i hi=>each i o3)
    obtain ⟨y,hok,d,hd⟩:=each len o3
    refine⟨l++[y],ds++[d],by simp[hl],by simp[hdl],fun i y' d' hy' hd'=>?_⟩
    by_cases e:i<len
    ·rw[SP o3] at hy' hd'
     exact hall i y' d' hy' hd'
    ·have hi:i<(l++[y]).length:=(SB.1 hy').1
     have e2:i=len:=by simp at hi; omega
     subst e2
     rw[S3 o3] at hy' hd'
     simp[hl,hdl] at hy' hd'
     subst hy'; subst hd'
     exact⟨hok,hd⟩
  have hds:∀ d∈ds,d.length=es:=fun d hd=>by
   obtain ⟨i,hi,rfl⟩:=Tu hd
   exact(hall i l[i] ds[i] (Sx o3) (Sx hi)).2.2.1
  have hcapL:cap<=ma:=hcap
  refine⟨_,⟨l,rfl,o3,fun z hz=>?_⟩,?_⟩
  ·obtain ⟨i,hi,rfl⟩:=Tu hz
   exact(hall i l[i] ds[i] (Sx hi) (Sx o3)).1
  ·rw[cL,bl]
   refine⟨_,[],rfl,?_,u3⟩
   rw[VR]
   refine⟨some a,cap,ds,es,by simp[hl],by simp[hl]; exact hle,fun h=>(by cases h),hds,fun hp=>?_,?_⟩
   ·have hp:0<len:=by simpa [hl] using hp
    obtain ⟨ab,ao,asp⟩:=a
    obtain ⟨_,_,h0l,h0⟩:=hall 0 l[0] ds[0] (Sx o3) (Sx o3)
    have h4:=h0 0 hpos
    rw[Sx o3] at h4
    have hsp:asp=none:=by simpa [Addr.add] using World.cell?_spot h4
    subst hsp
    refine⟨ab,ao,rfl,fun j v hj=>⟨?_,xB _ _⟩⟩
    have hjl:j<ds.flatten.length:=(SB.1 hj).1
    rw[bH hds] at hjl
    have hi:j / es<len:=by
     rw[U5 hpos]; rw[hdl] at hjl; exact hjl
    obtain ⟨_,_,hil,hi2⟩:=hall (j / es) l[j / es] ds[j / es] (Sx o3) (Sx o3)
    have h5:=hi2 (j % es) (UF _ hpos)
    have e1:j / es*es+j % es=j:=by rw[TU]; exact Vy j es
    have h6:=jz hds (Sx (show j / es<ds.length by omega)) (j % es) (UF _ hpos)
    rw[e1] at h5 h6
    rw[add_plain] at h5
    rw[h5,<-h6]
    exact hj
   ·refine b9.2 ⟨by simp[hl,hdl],fun i y d hy hd=>?_⟩
    rw[Td] at hy
    cases hx:l[i]? with
    | none=>rw[hx] at hy; cases hy
    | some z=>
     rw[hx] at hy; cases hy
     exact(hall i z d hx hd).2.1
theorem qj.O8 {ok':T->Prop} (h:qj P t c ok) (hw:∀ x,ok x->ok' x):qj P t c ok':=fun enc w held fuel cs x h0=>by
 obtain ⟨as,⟨y,h1,h2⟩,h3⟩:=h enc w held fuel cs x h0
 exact⟨as,⟨y,h1,hw y h2⟩,h3⟩
theorem A0 {es:Nat} (ht:P.underlying t=some (.slice e)) (hk:P.cellsOf e=es) (hpos:0<es) (hlen:∀ x,(c x).length=es) (hL:qj P e c (fun _=>True)):qj P t (cL c) (fun l=>l.length<=ma):=qj.O8 (T:=List T) (c:=cL c) (ok:=fun (l:List T)=>l.length<=ma/\∀ z∈l,True) (jD ht hk hpos hlen hL) fun _ h=>h.1
theorem vH {n:Nat} {T:List A->Prop} (ht:P.underlying t=some (.array n e)) (hk:P.cellsOf t=n*P.cellsOf e) (hr:mg P e T):mg P t (BO (List.replicate n T)):=by
 intro H enc w held fuel cs x h
 obtain ⟨xs,m,_,rfl,hlen,hxs,hf⟩:=DataW.trod_array ht h
 rw[hk] at hlen
 have go:∀ q,q<=n->∃ as,BO (List.replicate q T) as/\bl [] (G0 fun _ _=>True) w as (cs.drop ((n - q)*P.cellsOf e)):=by
  intro q
  induction q with
  | zero=>intro _; exact⟨[],rfl,by rw[bl,S8.2 (by simp[hlen])]⟩
  | succ q ih=>
   intro hq
   obtain ⟨bs,h1,h2⟩:=ih o3
   have hi:n - (q+1)<xs.length:=o3
   have:=hf (n - (q+1)) o3
   rw[Sx hi] at this
   obtain ⟨as,ha,hv⟩:=hr enc w held m _ _ this
   refine⟨as++bs,⟨as,bs,rfl,ha,h1⟩,?_⟩
   have e1:(n - q)*P.cellsOf e=(n - (q+1))*P.cellsOf e+P.cellsOf e:=by
    rw[show n - q=n - (q+1)+1 by omega,TB,V7]
   have e2:cs.drop ((n - (q+1))*P.cellsOf e)=(cs.drop ((n - (q+1))*P.cellsOf e)).take (P.cellsOf e)++cs.drop ((n - q)*P.cellsOf e):=by
    rw[e1,<-VI]; exact(T3 _ _).symm
   rw[e2]
   exact nJ hv h2
 obtain ⟨as,h1,h2⟩:=go n (Sy _)
 exact⟨as,h1,by simpa using h2⟩
variable {H:Type} {enc:TypeId×Value->H} {W:World} {base:Nat} {ts:Array TypeId} {args:Array Value}
end
theorem Hx {P:Program} {glob:Nat->Option (List Value)} {k:Nat} {as:List A} {args:Array Value} {W:World} (h:eh P glob k as (.v (.bool true))) (hg:∀ (G:Nat) (vs:List Value),glob G=some vs->∀ (j:Nat) (v:Value),vs[j]? = some v->W.cell? ⟨G,j,none⟩=some v)
  (hv:bl [] (G0 fun _ _=>True) W as args.toList):Calls P k args W fun e W'=>e=.returned (.bool true)/\Below W.heap.size W W':=by
 refine(h (fun _ _=>True) W args.toList (fun _ _ _=>trivial) (fun G vs hG j v hj=>⟨by rw[Th]; exact hg G vs hG j v hj,xB _ _⟩) hv).mono ?_
 rintro e W' ⟨c,rfl,hb,hc⟩
 rw[VR] at hc
 subst hc
 exact⟨rfl,hb⟩
end
end Go.Proofs.Ytebkhfhcipnfgaa
