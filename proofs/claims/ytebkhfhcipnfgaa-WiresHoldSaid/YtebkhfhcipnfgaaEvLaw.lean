/-
 From what the interpreter answers to a law's statement: how arguments that came in are read as the interpreter's data.
-/
import Derived.Test.YtebkhfhcipnfgaaEvSimp
namespace Go.Proofs.Ytebkhfhcipnfgaa
set_option linter.unusedVariables false
set_option linter.unusedSimpArgs false
set_option linter.defProp false
theorem H7 {p:Prop} (h:p:=by rw[decide_eq_decide]; omega):p:=h
theorem N0 {p:Prop} (h:p:=by rw[List.length_append]; omega):p:=h
def Ov:=@decide_eq_false
def OV:=@List.drop_eq_nil_iff
def OW:=@decide_true
def Pr:=@decide_false
def Pv:=@Value.string.injEq
def Pw:=@Bool.and_true
def PC:=@Value.int.injEq
def PG:=@Value.bool.injEq
def PH:=@beq_self_eq_true
def Qc:=@Bool.and_self
def Qh:=@true_and
def Qr:=@and_true
def Qy:=@decide_eq_decide
def QJ:=@Int.toNat_natCast
def QQ:=@Nat.div_lt_iff_lt_mul
def Q7:=@List.map_drop
def Ra:=@not_true_eq_false
def Rk:=@Nat.mod_eq_of_lt
def Ro:=@List.map_append
section
variable {ρ γ σ α β τ:Type}
def J (φ:ρ->γ->Prop) (L:Option σ) (kL:σ->Option ρ) (R:Option α) (K:α->Option γ):Prop:=∀ r,R.bind K=some r->∃ s,L.bind kL=some s/\φ s r
variable {φ:ρ->γ->Prop} {kL:σ->Option ρ} {K:α->Option γ} {R X Y:Option α}
theorem J.st {x:Option τ} {v:τ} {k:τ->Option σ} (h:x=some v) (hk:J φ (k v) kL R K):J φ (x.bind k) kL R K:=by
 rw[h]; exact hk
theorem J.s {x:Option τ} {k:τ->Option σ} (v:τ) (hk:J φ (k v) kL R K) (h:x=some v:=by kernel_rfl):J φ (x.bind k) kL R K:=J.st h hk
theorem J.s2 {τ':Type} {x:Option τ'} {y:τ'->Option τ} {k:τ->Option σ} (v:τ) (hk:J φ (k v) kL R K) (h:x.bind y=some v:=by kernel_rfl):J φ (x.bind fun a=>(y a).bind k) kL R K:=by
 rw[<-O1]; exact J.st h hk
def He (x:Option (A×ar)):A×ar:=match x with | some p=>p | none=>(.any,[])
def Hd (x:Option ar):ar:=match x with | some p=>p | none=>[]
theorem J.sq {x:Option (A×ar)} {k:A×ar->Option σ} (p:A) (hk:J φ (k (p,(He x).2)) kL R K) (h:x=some (p,(He x).2):=by kernel_rfl):J φ (x.bind k) kL R K:=J.st h hk
theorem J.sh {x:Option ar} {k:ar->Option σ} (hk:J φ (k (Hd x)) kL R K) (h:x=some (Hd x):=by kernel_rfl):J φ (x.bind k) kL R K:=J.st h hk
theorem J.bd {x:Option τ} {k:τ->Option σ} {X:Option β} {Y:β->Option α} {g:β->τ} (h:x=X.map g) (hk:∀ y,J φ (k (g y)) kL (Y y) K):J φ (x.bind k) kL (X.bind Y) K:=by
 intro r hr
 rw[O1] at hr
 cases X with
 | none=>cases hr
 | some y=>rw[h]; exact hk y r hr
theorem J.bg {x:Option τ} {k:τ->Option σ} {X:Option β} {Y:β->Option α} (ψ:τ->β->Prop) (h:J ψ x some X some) (hk:∀ t y,ψ t y->J φ (k t) kL (Y y) K):J φ (x.bind k) kL (X.bind Y) K:=by
 intro r hr
 rw[O1] at hr
 cases X with
 | none=>cases hr
 | some y=>
  obtain ⟨s,h1,h2⟩:=h y rfl
  have:x=some s:=by cases x<;>simp_all
  rw[this]
  exact hk s y h2 r hr
theorem J.bi {x y:Option σ} {b:Bool} (h1:J φ x kL X K) (h2:J φ y kL Y K):J φ (c7 (.v (.bool b)) x y) kL (cond b X Y) K:=by
 cases b
 ·exact h2
 ·exact h1
theorem J.Gw {x y:Option Go.Proofs.Ytebkhfhcipnfgaa.R} {kL:Go.Proofs.Ytebkhfhcipnfgaa.R->Option ρ} (h1:J φ x kL R K):J φ (bh (.v (.bool true)) x y) kL R K:=h1
theorem J.Gt {x y:Option Go.Proofs.Ytebkhfhcipnfgaa.R} {kL:Go.Proofs.Ytebkhfhcipnfgaa.R->Option ρ} (h1:J φ y kL R K):J φ (bh (.v (.bool false)) x y) kL R K:=h1
theorem J.cj {x y:Option Go.Proofs.Ytebkhfhcipnfgaa.R} {kL:Go.Proofs.Ytebkhfhcipnfgaa.R->Option ρ} {b:Bool} (h1:J φ x kL X K) (h2:J φ y kL Y K):J φ (bh (.v (.bool b)) x y) kL (cond b X Y) K:=by
 cases b
 ·exact h2
 ·exact h1
theorem J.nq {T:Type} {f:T->List A} {l:List T} {x y:Option Go.Proofs.Ytebkhfhcipnfgaa.R} {kL:Go.Proofs.Ytebkhfhcipnfgaa.R->Option ρ} (h:l=[]->x=y) (hy:J φ y kL R K):J φ (bh (.nq (l.map f)) x y) kL R K:=by
 cases l with
 | nil=>
  have e:bh (A.nq (List.map f [])) x y=y:=by
   exact AD (h rfl)
  rw[e]; exact hy
 | cons a l=>exact hy
theorem J.gf {x y:Option σ} {b:Bool} (h1:J φ x kL X K) (h2:J φ y kL Y K):J φ (nT (.v (.bool b)) false x y) kL (cond b Y X) K:=by
 cases b
 ·exact h1
 ·exact h2
theorem J.cT {x y:Option σ} {c:Bool} (h:c=true) (h1:J φ x kL R K):J φ (cond c x y) kL R K:=by rw[h]; exact h1
def Lw {T:Type} (i:Int) (a b:T):Option T:=bif decide (i=0) then some a else bif decide (i=1) then some b else none
theorem J.a2 {T:Type} {x:Option τ} {k:τ->Option σ} {i:Int} {f:T->τ} {a b:T} {Y:T->Option α} (h0:i.toNat=0->x=some (f a)) (h1:i.toNat=1->x=some (f b)) (hk:∀ y,J φ (k (f y)) kL (Y y) K):J φ (x.bind k) kL ((Lw i a b).bind Y) K:=by
 unfold Lw
 by_cases h:i=0
 ·rw[h0 (by rw[h]; rfl),Oc h]; exact hk a
 ·rw[Ov h]
  by_cases h':i=1
  ·rw[h1 (by rw[h']; rfl),Oc h']; exact hk b
  ·rw[Ov h']; intro r hr; cases hr
theorem J.gd {L:Option σ} {b:Bool} (h:b=true->J φ L kL R K):J φ L kL (cond b R none) K:=by
 cases b
 ·intro r hr; cases hr
 ·exact h rfl
theorem J.sp {L:Option σ} {b:Bool} (h1:b=true->J φ L kL X K) (h2:b=false->J φ L kL Y K):J φ L kL (cond b X Y) K:=by
 cases b
 ·exact h2 rfl
 ·exact h1 rfl
theorem J.nn {L:Option σ}:J φ L kL none K:=fun r hr=>by cases hr
theorem J.uc {a:A} {r:List A} {k:A->List A->Option σ} (h:J φ (k a r) kL R K):J φ (bO (a :: r) k) kL R K:=h
theorem J.u4 {a b c d:A} {r:List A} {k:A->A->A->A->List A->Option σ} (h:J φ (k a b c d r) kL R K):J φ (bO (a :: b :: c :: d :: r) fun a l=>bO l fun b l=>bO l fun c l=>bO l fun d l=>k a b c d l) kL R K:=h
theorem lX {β γ:Type} (l:List A) (f:A->List A->Option β) (k:β->Option γ):(bO l f).bind k=bO l fun a r=>(f a r).bind k:=by
 cases l<;>rfl
theorem J.ky {a:A} {f g:A->Option Go.Proofs.Ytebkhfhcipnfgaa.R} {kL:Go.Proofs.Ytebkhfhcipnfgaa.R->Option ρ} (h:J φ (g a) kL R K):J φ (dX (.pan a) f g) kL R K:=h
theorem J.pk {t:TypeId} {y:A} {k:A->Option σ} (h:J φ (k (.ifc t y)) kL R K):J φ (Du (.ifc t y) k) kL R K:=h
theorem J.ob {b:Bool} {v p:A} {f g:A->Option Go.Proofs.Ytebkhfhcipnfgaa.R} {kL:Go.Proofs.Ytebkhfhcipnfgaa.R->Option ρ} (h1:J φ (dX (.ret v) f g) kL X K) (h2:J φ (dX (.pan p) f g) kL Y K):J φ (dX (bif b then Out.ret v else Out.pan p) f g) kL (cond b X Y) K:=by
 cases b
 ·exact h2
 ·exact h1
theorem J.lf {s:σ} {x:α} {r:ρ} {y:γ} (h1:kL s=some r) (h2:K x=some y) (h:φ r y):J φ (some s) kL (some x) K:=fun z hz=>by
 rw[N4,h2] at hz
 cases hz
 exact⟨r,h1,h⟩
theorem J.lg {ψ:τ->β->Prop} {s:τ} {x:β} (h:ψ s x):J ψ (some s) some (some x) some:=fun r hr=>by cases hr; exact⟨s,rfl,h⟩
theorem J.lv {T:Type} {f:T->A} {v:A} {H:ar} {y:T} (h:bR H v=f y):J (fun (o:Go.Proofs.Ytebkhfhcipnfgaa.R) y=>∃ v,o.1=.ret v/\bR o.2 v=f y) (some (Out.ret v,H)) some (some y) some:=.lf rfl rfl ⟨_,rfl,h⟩
theorem J.cl {x:Option τ} {x':Option τ} {k:τ->Option σ} (h:x=x') (hk:J φ x' (fun r=>(k r).bind kL) R K):J φ (x.bind k) kL R K:=by
 intro r hr
 obtain ⟨s,h1,h2⟩:=hk r hr
 exact⟨s,by rw[O1,h]; exact h1,h2⟩
theorem J.bb {x:Option τ} {k:τ->Option σ} (h:J φ x (fun r=>(k r).bind kL) R K):J φ (x.bind k) kL R K:=by
 intro r hr
 obtain ⟨s,h1,h2⟩:=h r hr
 exact⟨s,by rw[O1]; exact h1,h2⟩
theorem J.as {L:Option σ} {X:Option β} {Y:β->Option α} (h:J φ L kL X (fun x=>(Y x).bind K)):J φ L kL (X.bind Y) K:=by
 intro r hr
 rw[O1] at hr
 exact h r hr
theorem J.un {L:Option σ} {K':γ->Option γ} (hK:K'=some) (h:J φ L kL R K):J φ L kL (R.bind K) K':=by
 intro r hr
 subst hK
 exact h r (by simpa using hr)
theorem J.ex {L:Option σ} {x:α} (h:J φ L kL (K x) some):J φ L kL (some x) K:=by
 intro r hr
 exact h r (by simpa using hr)
theorem J.lp {L:Option σ} {L':Option σ} (h:L=L') (hk:J φ L' kL R K):J φ L kL R K:=h ▸ hk
theorem J.gU {x y:Option σ} {w:Bool} (h:J φ y kL R K):J φ (nT (.v undef) w x y) kL R K:=h
theorem J.ok {a:A} {f g:A->Option Go.Proofs.Ytebkhfhcipnfgaa.R} {kL:Go.Proofs.Ytebkhfhcipnfgaa.R->Option ρ} (h:J φ (f a) kL R K):J φ (dX (.ret a) f g) kL R K:=h
theorem J.cr {s:τ} {k:τ->Option σ} (h:J φ (k s) kL R K):J φ (some s) (fun r=>(k r).bind kL) R K:=h
theorem J.AB {x y:Option σ} {b:Bool} (h:b=true) (h1:J φ x kL R K):J φ (c7 (.v (.bool b)) x y) kL R K:=by subst h; exact h1
theorem J.B7 {x y:Option σ} {b:Bool} (h:b=false) (h1:J φ y kL R K):J φ (c7 (.v (.bool b)) x y) kL R K:=by subst h; exact h1
theorem J.FY {x y:Option τ} {k:τ->Option σ} {b:Bool} (h1:b=true->J φ (x.bind k) kL X K) (h2:b=false->J φ (y.bind k) kL Y K):J φ ((nT (.v (.bool b)) true x y).bind k) kL (cond b X Y) K:=by
 cases b
 ·exact h2 rfl
 ·exact h1 rfl
theorem J.J3 {x y:Option τ} {k:τ->Option σ} {b:Bool} (h1:b=false->J φ (x.bind k) kL X K) (h2:b=true->J φ (y.bind k) kL Y K):J φ ((nT (.v (.bool b)) false x y).bind k) kL (cond b Y X) K:=by
 cases b
 ·exact h1 rfl
 ·exact h2 rfl
theorem dH {β:Type} {x y:Option β} {b:Bool} (h:b=true):nT (.v (.bool b)) true x y=x:=by subst h; rfl
theorem dG {β:Type} {x y:Option β} {b:Bool} (h:b=false):nT (.v (.bool b)) true x y=y:=by subst h; rfl
theorem vA {β:Type} {x y:Option β} {b:Bool} (h:b=true):nT (.v (.bool b)) false x y=y:=by subst h; rfl
theorem vz {β:Type} {x y:Option β} {b:Bool} (h:b=false):nT (.v (.bool b)) false x y=x:=by subst h; rfl
def aE:Nat:=1208925819614629174706176
def cI (k:IntKind) (n:Int):List A:=[.v (.int k n)]
def c8 (c:UInt8):List A:=[.v (.int .u8 (c.toNat:Int))]
def cB (b:Bool):List A:=[.v (.bool b)]
def cS (s:ByteArray):List A:=[.v (.string s)]
def cL {T:Type} (f:T->List A) (l:List T):List A:=[.imm (l.map f) false]
def bK {T:Type} (f:T->List A):Prop:=∀ g x,aM g (f x)=f x
theorem bZ {T:Type} {f:T->List A} (hf:bK f) (g:Nat->Nat->Nat->A) (l:List T):cw g (l.map f)=l.map f:=by
 induction l with
 | nil=>rfl
 | cons x l ih=>rw[O9,cw,hf,ih]
def cR {T:Type} (f:T->List A):Prop:=∀ L x,aN L (f x)=true
theorem cM {T:Type} {f:T->List A} (hf:cR f) (L:Nat) (l:List T):ax L (l.map f)=true:=by
 induction l with
 | nil=>rfl
 | cons x l ih=>rw[O9,ax,hf,ih]; rfl
theorem lB (k:IntKind):cR (cI k):=fun _ _=>rfl
theorem lz:cR c8:=fun _ _=>rfl
theorem lA:cR cB:=fun _ _=>rfl
theorem lD:cR cS:=fun _ _=>rfl
theorem lC {T:Type} {f:T->List A} (hf:cR f):cR (cL f):=fun L x=>by
 show (ax L (x.map f)&&true)=true
 rw[cM hf]; rfl
theorem rp (g:Nat->Nat->Nat->A):∀ (a b:List A),aM g (a++b)=aM g a++aM g b
 | [],b=>by simp only[PA,aM]
 | x :: a,b=>by simp only[OU,aM,rp g a b]
theorem rz (L:Nat):∀ (a b:List A),aN L (a++b)=(aN L a&&aN L b)
 | [],b=>by simp only[PA,aN,ON]
 | x :: a,b=>by simp only[OU,aN,rz L a b,Bool.and_assoc]
theorem eZ (k:IntKind):bK (cI k):=fun _ _=>rfl
theorem gX:bK c8:=fun _ _=>rfl
theorem lh:bK cB:=fun _ _=>rfl
theorem lj:bK cS:=fun _ _=>rfl
theorem kJ {T:Type} {f:T->List A} (hf:bK f):bK (cL f):=fun g x=>by
 show [bQ g (.imm (x.map f) false)]=_
 simp only[bQ,bZ hf]; rfl
theorem dQ:(∀ (H:ar) (a:A),snap H a=bQ (gk 4 H) a)/\(∀ (g:Nat->Nat->Nat->A) (b o m:Nat) (c:Bool),bQ g (.sl b o m c)=g b o m)/\(∀ (g:Nat->Nat->Nat->A) (els:List (List A)) (c:Bool),bQ g (.imm els c)=.imm (cw g els) false)/\(∀ (g:Nat->Nat->Nat->A) (cs:List A),bQ g (.agg cs)=.agg (aM g cs))/\(∀ (g:Nat->Nat->Nat->A) (cs:List A),bQ g (.tup cs)=.tup (aM g cs))/\(∀ (g:Nat->Nat->Nat->A) (t:TypeId) (x:A),bQ g (.ifc t x)=.ifc t (bQ g x))/\(∀ (g:Nat->Nat->Nat->A) (k:IntKind) (ks:List Int) (vs:List A),bQ g (.mv k ks vs)=.mv k ks (aM g vs))/\(∀ (g:Nat->Nat->Nat->A) (x:Value),bQ g (.v x)=.v x)/\(∀ (g:Nat->Nat->Nat->A) (f:Fn),bQ g (.fn f [] [])=.fn f [] [])/\(∀ (g:Nat->Nat->Nat->A),aM g []=[])/\(∀ (g:Nat->Nat->Nat->A) (a:A) (as:List A),aM g (a :: as)=bQ g a :: aM g as)/\(∀ (g:Nat->Nat->Nat->A),cw g []=[])/\(∀ (g:Nat->Nat->Nat->A) (a:List A) (as:List (List A)),cw g (a :: as)=aM g a :: cw g as)/\(∀ {T:Type} {f:T->List A} (hf:bK f) (g:Nat->Nat->Nat->A) (l:List T),cw g (l.map f)=l.map f)/\(∀ (g:Nat->Nat->Nat->A) (a b:List A),aM g (a++b)=aM g a++aM g b)/\(∀ k,bK (cI k))/\bK c8/\bK cB/\bK cS/\(∀ {T:Type} {f:T->List A} (hf:bK f),bK (cL f)):=
 ⟨fun _ _=>rfl,fun _ _ _ _ _=>rfl,fun _ _ _=>rfl,fun _ _=>rfl,fun _ _=>rfl,fun _ _ _=>rfl,fun _ _ _ _=>rfl,fun _ _=>rfl,fun _ _=>rfl,fun _=>rfl,fun _ _ _=>rfl,fun _=>rfl,fun _ _ _=>rfl,bZ,rp,eZ,gX,lh,lj,kJ⟩
def fF {T U:Type} (f:T->U):Prop:=∀ x y,f x=f y->x=y
theorem map_inj {T:Type} {f:T->List A} (hf:fF f):∀ (l l':List T),l.map f=l'.map f↔l=l'
 | [],[]=>r9
 | [],_ :: _=>r9
 | _ :: _,[]=>r9
 | x :: l,y :: l'=>by
  simp only[O9,O2,map_inj hf l l']
  exact⟨fun h=>⟨hf x y h.1,h.2⟩,fun h=>⟨by rw[h.1],h.2⟩⟩
theorem jK (k:IntKind):fF (cI k):=fun x y h=>by simpa [cI] using h
theorem qL:fF c8:=fun x y h=>by
 simp only[c8,O2,A.v.injEq,PC,Qr,Qh] at h
 exact UInt8.toNat_inj.1 r7
noncomputable def cb {X:Type} (e:X->List A) (G:X->Option A) (args:List A):Option A:=open Classical in if h:∃ x,e x=args then G h.choose else none
theorem bf {X:Type} {e:X->List A} (G:X->Option A) (inj:fF e) (x:X):cb e G (e x)=G x:=by
 unfold cb
 have h:∃ y,e y=e x:=⟨x,rfl⟩
 rw[dif_pos h,inj _ _ h.choose_spec]
theorem BD {X:Type} {e:X->List A} {G:X->Option A} {args:List A} {r:A} (h:cb e G args=some r):∃ x,e x=args/\G x=some r:=by
 unfold cb at h
 split at h
 ·rename_i hx; exact⟨_,hx.choose_spec,h⟩
 ·cases h
theorem iD {X Y:Type} {e:X->List A} {F:X->Option Y} {f:Y->A} {args:List A} {r:A} (h:cb e (fun x=>(F x).map f) args=some r):∃ x y,e x=args/\F x=some y/\f y=r:=by
 obtain ⟨x,hx,h⟩:=BD h
 simp only[OO] at h
 obtain ⟨y,hy,h⟩:=h
 exact⟨x,y,hx,hy,h⟩
theorem LA:(∀ {T:Type} (a:T) (as:List T) (b:T) (bs:List T),(a :: as=b :: bs)=(a=b/\as=bs))/\(∀ a b:Value,(A.v a=A.v b)=(a=b))/\(∀ a b:List A,(A.agg a=A.agg b)=(a=b))/\(∀ (a:List (List A)) (c:Bool) (b:List (List A)) (d:Bool),(A.imm a c=A.imm b d)=(a=b/\c=d))/\(∀ (k:IntKind) (n:Int) (k':IntKind) (n':Int),(Value.int k n=Value.int k' n')=(k=k'/\n=n'))/\(∀ a b:Bool,(Value.bool a=Value.bool b)=(a=b))/\(∀ a b:ByteArray,(Value.string a=Value.string b)=(a=b))/\(∀ p:Prop,(p/\True)=p)/\(∀ p:Prop,(True/\p)=p):=
 ⟨fun a as b bs=>O2 a as b bs,fun a b=>A.v.injEq a b,fun a b=>A.agg.injEq a b,fun a c b d=>A.imm.injEq a c b d,fun k n k' n'=>PC k n k' n',fun a b=>PG a b,fun a b=>Pv a b,fun p=>Qr p,fun p=>Qh p⟩
def jX (C:Nat->List A->Option A) (k:Nat) (c:List A->Option A):Nat->List A->Option A:=fun j args=>bif Nat.beq j k then c args else C j args
theorem ql {cx:Cx} {n k:Nat} {base:aK} {args:List A} {H:ar} {lo:Nat} (h:Nat.ble cx.P.funcs.size k=false) (h2:fj cx k H=false:=by rfl) (h3:fP cx k H=false:=by rfl):aX cx (n+1) base k args H lo=aJ cx (aX cx n base) (aX cx n) n k args H lo:=by
 rw[aX,h,h2,h3]; rfl
theorem aO {cx:Cx} {n k:Nat} {args:List A} {H:ar} {lo:Nat} (h:Nat.ble cx.P.funcs.size k=false) (h2:fj cx k H=false:=by rfl) (h3:fP cx k H=false:=by rfl):di cx (n+1) k args H lo=aJ cx (di cx n) (aX cx n) n k args H lo:=ql h h2 h3
theorem u0 {cx:Cx} {k:Nat}:fj cx k []=false:=by
 unfold fj
 cases hb:Nat.beq (cx.cut k) 0 with
 | true=>rfl
 | false=>cases hk:cx.cut k with
  | zero=>rw[hk] at hb; cases hb
  | succ m=>rfl
theorem tz {cx:Cx} {k:Nat}:fP cx k []=false:=by
 unfold fP
 cases cx.deep k<;>rfl
theorem wZ {cx:Cx} {n k:Nat} {args:List A} {lo:Nat} {r:Go.Proofs.Ytebkhfhcipnfgaa.R} (h:aJ cx (di cx n) (aX cx n) n k args [] lo=some r):di cx (n+1) k args [] lo=some r:=by
 refine(aO (qb ?_) u0 tz).trans h
 unfold aJ at h
 cases hf:cx.P.funcs[k]? with
 | none=>rw[hf] at h; cases h
 | some fn=>exact(Ob.1 hf).1
theorem DJ {q b:Nat} {call:aK} {rnd:List A->ar->Nat->Option Go.Proofs.Ytebkhfhcipnfgaa.R} {args:List A} {H:ar} {lo:Nat}:wy q call b rnd (q+b) args H lo=rnd args H lo:=by
 unfold wy; rw[show Nat.beq (q+b) (q+b)=true from r9]; rfl
theorem zi {cx:Cx} {b:Nat} {base:aK} {args:List A} {H:ar} {lo:Nat}:∀ {m:Nat},aX cx m base (cx.P.funcs.size+b) args H lo=base (cx.P.funcs.size+b) args H lo:=fun {m}=>by
 cases m<;>rw[aX,show Nat.ble cx.P.funcs.size (cx.P.funcs.size+b)=true from by simp[Qw]]<;>rfl
theorem BG {β:Type} {H:ar} {b:Nat} {x:Option β} (h:H[b]? = some (.rng .ready)):Ez H b x=x:=by unfold Ez; rw[h]
theorem AE {β:Type} {H:ar} {b:Nat} {x:Option β} (h:H[b]? = some (.rng .busy)):B8 H b x=x:=by unfold B8; rw[h]
section
variable {β:Type} {H:ar} {b:Nat} {kn:ar->Option β} {kx kg:Nat->ar->Option β} {kr:ar->Option β}
theorem Le (h:H[b]? = some (.rng .ready)):nd b H kn kx kg kr=kn (H.set b .dead):=by unfold nd; rw[h]
theorem Lf (h:H[b]? = some (.rng (.done .ret))):nd b H kn kx kg kr=kr (H.set b .dead):=by unfold nd; rw[h]
end
section
variable {cx:Cx} {call:aK} {q lo b:Nat} {first cap args:List A} {H:ar} {k pan:A->ar->Option Go.Proofs.Ytebkhfhcipnfgaa.R} {kL:Go.Proofs.Ytebkhfhcipnfgaa.R->Option ρ}
theorem J.dC (h1:b8 cx.P q=true) (h2:cx.isOrc q=false) (h:J φ ((call q (first++args++cap) H lo).bind fun r=>dX r.1 (fun a=>k a r.2) (fun a=>pan a r.2)) kL R K):J φ (cN cx call (.fn (.func q) first cap) args H lo k pan) kL R K:=by
 unfold cN; simp only[h1,h2,N9,N8]; exact h
theorem J.dO (h1:b8 cx.P q=true) (h2:cx.isOrc q=true) (h:J φ ((cx.C q ((first++args++cap).map (snap H))).bind fun a=>k a H) kL R K):J φ (cN cx call (.fn (.func q) first cap) args H lo k pan) kL R K:=by
 unfold cN; simp only[h1,h2,N9]; exact h
theorem J.dY (h1:vM H b=true) (h:J φ ((call (cx.P.funcs.size+b) args H lo).bind fun r=>dX r.1 (fun a=>k a r.2) (fun _=>none)) kL R K):J φ (cN cx call (.yld b) args H lo k pan) kL R K:=by
 unfold cN; simp only[h1,N9]; exact h
end
theorem Fq {cx:Cx} (horc:iP cx) (hmx:cx.P.follows .mixedOrders=true) {γ:Type} {n k:Nat} {args:List A} {f:γ->A} {F:Option γ} {y:γ}
  (h:J (fun (o:Go.Proofs.Ytebkhfhcipnfgaa.R) y=>∃ v,o.1=.ret v/\bR o.2 v=f y) (aJ cx (di cx (n+8)) (aX cx (n+8)) (n+8) k args [] 0) some F some) (hF:F=some y):ib cx.P cx.glob k args (f y):=by
 obtain ⟨s,h1,v,h2,h3⟩:=h y (by rw[hF]; rfl)
 obtain ⟨o,H⟩:=s
 have h2:o=.ret v:=h2
 subst h2
 rw[show ∀ x:Option Go.Proofs.Ytebkhfhcipnfgaa.R,x.bind some=x from fun x=>by cases x<;>rfl] at h1
 have h1:di cx (n+9) k args [] 0=some (.ret v,H):=wZ h1
 have:=nD horc hmx h1
 rwa [show bR H v=f y from h3] at this
abbrev wr (k:IntKind) (n:Int):Int:=k.wrap n
def rk (k:IntKind) (x y:Int):Int:=k.wrap (x*2 ^ (min y.toNat k.bits))
def lS (k:IntKind) (x y:Int):Int:=x.fdiv (2 ^ (min y.toNat k.bits))
def ny (k:IntKind) (x y:Int):Int:=k.wrap ((BitVec.ofInt k.bits x &&& BitVec.ofInt k.bits y).toNat:Int)
def kN (k:IntKind) (x y:Int):Int:=k.wrap ((BitVec.ofInt k.bits x ||| BitVec.ofInt k.bits y).toNat:Int)
def pL (k:IntKind) (x y:Int):Int:=k.wrap ((BitVec.ofInt k.bits x ^^^ BitVec.ofInt k.bits y).toNat:Int)
section
variable {P:Program} {t:TypeId} {i j:Bool} {k k2:IntKind} {a b:Int}
theorem uM (hb:0<=b):ka P .shl t i j (.v (.int k a)) (.v (.int k2 b))=some (.v (.int k (rk k a b))):=by
 have h:cf P (do eqGuard .shl t (rep i) (rep j) (.int k a) (.int k2 b); binOp .shl t (.int k a) (.int k2 b))=some (.int k (rk k a b)):=by
  show cf P (binOp .shl t (.int k a) (.int k2 b))=_
  simp only[binOp,Op.shift,Oh (Int.not_lt.2 hb)]; rfl
 show (cf P _).map ui=_
 rw[h]; rfl
theorem jF (hb:0<=b):ka P .shr t i j (.v (.int k a)) (.v (.int k2 b))=some (.v (.int k (lS k a b))):=by
 have h:cf P (do eqGuard .shr t (rep i) (rep j) (.int k a) (.int k2 b); binOp .shr t (.int k a) (.int k2 b))=some (.int k (lS k a b)):=by
  show cf P (binOp .shr t (.int k a) (.int k2 b))=_
  simp only[binOp,Op.shift,Oh (Int.not_lt.2 hb)]; rfl
 show (cf P _).map ui=_
 rw[h]; rfl
theorem mA:ka P .and t i j (.v (.int k a)) (.v (.int k b))=some (.v (.int k (ny k a b))):=by
 have h:cf P (do eqGuard .and t (rep i) (rep j) (.int k a) (.int k b); binOp .and t (.int k a) (.int k b))=some (.int k (ny k a b)):=by
  show cf P (binOp .and t (.int k a) (.int k b))=_
  simp only[binOp,ne_eq,Ra,Q3,Op.intBits]; rfl
 show (cf P _).map ui=_
 rw[h]; rfl
theorem fL:ka P .or t i j (.v (.int k a)) (.v (.int k b))=some (.v (.int k (kN k a b))):=by
 have h:cf P (do eqGuard .or t (rep i) (rep j) (.int k a) (.int k b); binOp .or t (.int k a) (.int k b))=some (.int k (kN k a b)):=by
  show cf P (binOp .or t (.int k a) (.int k b))=_
  simp only[binOp,ne_eq,Ra,Q3,Op.intBits]; rfl
 show (cf P _).map ui=_
 rw[h]; rfl
theorem mB:ka P .xor t i j (.v (.int k a)) (.v (.int k b))=some (.v (.int k (pL k a b))):=by
 have h:cf P (do eqGuard .xor t (rep i) (rep j) (.int k a) (.int k b); binOp .xor t (.int k a) (.int k b))=some (.int k (pL k a b)):=by
  show cf P (binOp .xor t (.int k a) (.int k b))=_
  simp only[binOp,ne_eq,Ra,Q3,Op.intBits]; rfl
 show (cf P _).map ui=_
 rw[h]; rfl
end
theorem fk {n:Int} (h:(decide (0<=n)&&decide (n<256))=true):((UInt8.ofNat n.toNat).toNat:Int)=n:=by
 simp only[N7,Od] at h
 rw[UInt8.toNat_ofNat',Rk r7]
 omega
def bl {T:Type} (l:List T) (i:Int):Option T:=bif decide (0<=i) then l[i.toNat]? else none
def imm {T:Type} (f:T->List A) (l:List T):A:=.imm (l.map f) false
theorem CF {P:Program} {t e:TypeId} {es:Nat} {T:Type} (f:T->List A) (l:List T) (c:Bool) (k:IntKind) (i:Int) (H:ar) (h1:P.underlying t=some (.slice e)) (h2:bU P e=some es) (h3:∀ x,(f x).length=es) :
  cC P t (.imm (l.map f) c) (.v (.int k i)) H=(bl l i).map fun x=>.ip (f x):=by
 unfold cC idx bl
 rw[h1]
 by_cases hi:0<=i
 ·simp only[hi,OW,N9,N4,fh,h2,OB]
  cases l[i.toNat]? with
  | none=>rfl
  | some x=>simp[h3]
 ·simp only[hi,Pr,N8,QN,Option.map_none]
theorem CL {P:Program} {t e:TypeId} {T:Type} (f:T->List A) (l:List T) (c:Bool) (H:ar) (h1:P.underlying t=some (.slice e)):p3 P t (.imm (l.map f) c) H=some (.v (.int .i64 l.length)):=by
 unfold p3
 rw[h1]
 simp[fh]
section
variable {P:Program} {t e es by_:Nat} {T:Type} {f:T->List A}
def gD (l:List T) (lo hi:Int):Option (List T):=bif decide (0<=lo)&&decide (lo<=hi)&&decide (hi<=l.length) then some ((l.drop lo.toNat).take (hi.toNat - lo.toNat)) else none
def cO (b:Nat) (l l2:List T):Option (List T):=bif decide ((l.length+l2.length)*b<=cq) then some (l++l2) else none
def kO (f:T->List A):Prop:=∀ x,(f x).all A.cell=true
theorem D6 (k:IntKind):kO (cI k):=fun _=>rfl
theorem D5:kO c8:=fun _=>rfl
theorem oD (hl:∀ x,(f x).length=es) (hc:kO f) (l:List T):((l.map f).all fun cs=>cs.length==es&&cs.all A.cell)=true:=by
 rw[List.all_map]
 exact Oj.2 fun x _=>by simp[hl,hc x]
def nk (H:ar) (y:A) (f:T->List A) (l:List T):Prop:=els? H y=some (l.map f)
theorem bN (l:List T) (c:Bool) (H:ar):nk H (.imm (l.map f) c) f l:=rfl
theorem tD (s:ByteArray) (H:ar):nk H (.v (.string s)) c8 s.data.toList:=rfl
theorem yb {P:Program} {H:ar} {t2 by_:Nat} {z:List A} {y:A} (h:lN P t2=true):wX P H t2 by_ z y=els? H y:=by unfold wX; rw[h]; rfl
theorem sj (hl:∀ x,(f x).length=es) (hc:kO f) (h0:es≠0) (hb:by_≠0) {z:List A} (hz:z.length=es) (l2:List T) :
  (es==0 || by_==0 || !(z.length==es) || !((l2.map f).all fun cs=>cs.length==es&&cs.all A.cell))=false:=by
 rw[oD hl hc]
 simp[h0,hb,hz]
theorem Ck {t2:Nat} {z:List A} (h1:iT P t=some e) (h2:bU P e=some es) (h3:iQ P e=some by_) (h4:fE P e=some z) (hz:z.length=es) (h0:es≠0) (hb:by_≠0) (hn:lN P t2=true)
  (hl:∀ x,(f x).length=es) (hc:kO f) {H:ar} {lo:Nat} {l l2:List T} {y:A} (hy:nk H y f l2) :
  bV P t t2 false (.imm (l.map f) true) y H lo=(cO by_ l l2).map fun r=>(.sl H.length 0 r.length false,H++[.row false es (r.map f)]):=by
 unfold bV
 rw[h1,N4,h2,N4,h3,N4,h4,N4,yb hn,show els? H y=_ from hy,N4,sj hl hc h0 hb hz,N8]
 simp only[PV,Bool.false_and,N8,oD hl hc,N9,cO]
 cases decide ((l.length+l2.length)*by_<=cq)<;>simp
theorem Cl {t2:Nat} {z:List A} (h1:iT P t=some e) (h2:bU P e=some es) (h3:iQ P e=some by_) (h4:fE P e=some z) (hz:z.length=es) (h0:es≠0) (hb:by_≠0) (hn:lN P t2=true)
  (hl:∀ x,(f x).length=es) (hc:kO f) {wr:Bool} {H:ar} {lo b:Nat} {l l2:List T} {y:A} (hH:H[b]? = some (.row false es (l.map f))) (hlo:lo<=b) (hy:nk H y f l2) :
  bV P t t2 wr (.sl b 0 l.length false) y H lo=(cO by_ l l2).map fun r=>(.sl b 0 r.length false,H.set b (.row false es (r.map f))):=by
 unfold bV
 rw[h1,N4,h2,N4,h3,N4,h4,N4,yb hn,show els? H y=_ from hy,N4,sj hl hc h0 hb hz,N8]
 simp only[hH,PV,cO]
 cases hd:decide ((l.length+l2.length)*by_<=cq)<;>simp[hlo]
structure uz (P:Program) (t t2 e es by_:Nat) (z:List A) (f:T->List A):Prop where
 h1:iT P t=some e
 h2:bU P e=some es
 h3:iQ P e=some by_
 h4:fE P e=some z
 hz:z.length=es
 h0:es≠0
 hb:by_≠0
 hn:lN P t2=true
 hl:∀ x,(f x).length=es
 hc:kO f
theorem tq {t2:Nat} {z:List A} (a:uz P t t2 e es by_ z f) {H:ar} {lo:Nat} {l l2:List T} {y:A} (hy:nk H y f l2) :
  bV P t t2 false (.imm (l.map f) true) y H lo=(cO by_ l l2).map fun r=>(.sl H.length 0 r.length false,H++[.row false es (r.map f)]):=Ck a.h1 a.h2 a.h3 a.h4 a.hz a.h0 a.hb a.hn a.hl a.hc hy
theorem bS {t2:Nat} {z:List A} (a:uz P t t2 e es by_ z f) {wr:Bool} {H:ar} {lo b:Nat} {l l2:List T} {y:A} (hH:H[b]? = some (.row false es (l.map f))) (hlo:lo<=b) (hy:nk H y f l2) :
  bV P t t2 wr (.sl b 0 l.length false) y H lo=(cO by_ l l2).map fun r=>(.sl b 0 r.length false,H.set b (.row false es (r.map f))):=Cl a.h1 a.h2 a.h3 a.h4 a.hz a.h0 a.hb a.hn a.hl a.hc hH hlo hy
theorem zx {d:Nat} {k:IntKind} {n:Int}:jt d (some (.v (.int k n)))=bif decide (0<=n) then some n.toNat else none:=rfl
theorem eR {P:Program} {t e:TypeId} {es:Nat} {T:Type} {f:T->List A} {l:List T} {c:Bool} {k:IntKind} {i:Int} {H:ar} (h1:P.underlying t=some (.slice e):=by kernel_rfl) (h2:bU P e=some es:=by kernel_rfl) (h3:∀ x,(f x).length=es:=by exact fun _=>rfl) :
  cC P t (.imm (l.map f) c) (.v (.int k i)) H=(bl l i).map fun x=>.ip (f x):=CF f l c k i H h1 h2 h3
theorem dV {P:Program} {t e:TypeId} {T:Type} {f:T->List A} {l:List T} {c:Bool} {H:ar} (h1:P.underlying t=some (.slice e):=by kernel_rfl):p3 P t (.imm (l.map f) c) H=some (.v (.int .i64 l.length)):=CL f l c H h1
theorem pO (h1:P.underlying t=some (.slice e)) (h2:bU P e=some es) (hl:∀ x,(f x).length=es) {H:ar} {l:List T} {lo hi:Option A} {a b:Int} (ha:(lo=none/\a=0)∨∃ k,lo=some (.v (.int k a))) (hb:(hi=none/\b=l.length)∨∃ k,hi=some (.v (.int k b))) :
  ef P t (.imm (l.map f) false) lo hi none H=(gD l a b).map fun r=>.imm (r.map f) false:=by
 unfold ef
 rw[h1]
 simp only[h2,N4,PV,Bool.false_and]
 have e1:jt l.length hi=bif decide (0<=b) then some b.toNat else none:=by
  rcases hb with ⟨rfl,rfl⟩ | ⟨k,rfl⟩
  ·simp[jt]
  ·rfl
 have e2:jt 0 lo=bif decide (0<=a) then some a.toNat else none:=by
  rcases ha with ⟨rfl,rfl⟩ | ⟨k,rfl⟩
  ·simp[jt]
  ·rfl
 have e3:∀ i:Nat,(i==0 || match (l.map f)[i]? with | some cs=>cs.length==es | none=>true)=true:=fun i=>by
  rw[OB]
  cases l[i]?<;>simp[hl]
 rw[e1,e2]
 unfold gD
 by_cases hb0:0<=b
 ·by_cases ha0:0<=a
  ·have q1:(decide (a.toNat<=b.toNat))=decide (a<=b):=by rw[Qy]; omega
   have q2:(decide (b.toNat<=l.length))=decide (b<=(l.length:Int)):=H7
   simp only[hb0,ha0,OW,N9,N4,ON,q1,q2,QA,Q7]
   have e4:=e3 a.toNat
   rw[OB] at e4 ⊢
   cases hx:l[a.toNat]?<;>rw[hx] at e4<;>cases (decide (a<=b)&&decide (b<=(l.length:Int)))<;>simp[hl]
  ·simp[hb0,ha0]
 ·have:(decide (0<=a)&&decide (a<=b)&&decide (b<=(l.length:Int)))=false:=by
   rw[Qs]; intro hh; simp only[N7,Od] at hh; omega
  simp[hb0,this]
theorem nH (h1:P.underlying t=some (.slice e)) (h2:bU P e=some es) (hl:∀ x,(f x).length=es) {H:ar} {l:List T} {lo:Option A} {a b:Int} {k1 k2:IntKind} {c:Bool} (ha:(lo=none/\a=0)∨∃ k,lo=some (.v (.int k a))) :
  ef P t (.imm (l.map f) c) lo (some (.v (.int k1 b))) (some (.v (.int k2 b))) H=(gD l a b).map fun r=>.imm (r.map f) true:=by
 unfold ef
 rw[h1]
 simp only[h2,N4,PV,zx,idx]
 have e2:jt 0 lo=bif decide (0<=a) then some a.toNat else none:=by
  rcases ha with ⟨rfl,rfl⟩ | ⟨k,rfl⟩
  ·simp[jt]
  ·rfl
 have e3:∀ i:Nat,(i==0 || match (l.map f)[i]? with | some cs=>cs.length==es | none=>true)=true:=fun i=>by
  rw[OB]
  cases l[i]?<;>simp[hl]
 rw[e2]
 unfold gD
 by_cases hb0:0<=b
 ·by_cases ha0:0<=a
  ·have q1:(decide (a.toNat<=b.toNat))=decide (a<=b):=by rw[Qy]; omega
   have q2:(decide (b.toNat<=l.length))=decide (b<=(l.length:Int)):=H7
   simp only[hb0,ha0,OW,N9,N4,ON,q1,q2,QA,Q7,PH]
   rw[OB]
   cases hx:l[a.toNat]?<;>cases (decide (a<=b)&&decide (b<=(l.length:Int)))<;>simp[hl]
  ·simp[hb0,ha0]
 ·have:(decide (0<=a)&&decide (a<=b)&&decide (b<=(l.length:Int)))=false:=by
   rw[Qs]; intro hh; simp only[N7,Od] at hh; omega
  simp[hb0,this]
theorem cG (hf:bK f) {H:ar} {b n:Nat} {l:List T} (h:H[b]? = some (.row false es (l.map f))):gk (n+1) H b 0 l.length=.imm (l.map f) false:=by
 unfold gk
 rw[h]
 simp only[OS]
 rw[O0 r9,bZ hf]
theorem dN (hf:bK f) {H:ar} {b n:Nat} {wr:Bool} {l:List T} (h:H[b]? = some (.row wr es (l.map f))):gg (n+1) H b 0 l.length=.imm (l.map f) false:=by
 unfold gg
 rw[h]
 simp only[OS]
 rw[O0 r9,bZ hf]
theorem rm (hf:bK f) {H:ar} {b n o m:Nat} {wr:Bool} {l:List T} (h:H[b]? = some (.row wr es (l.map f))):gg (n+1) H b o m=.imm (((l.drop o).take m).map f) false:=by
 unfold gg
 rw[h]
 simp only[<-Q7,<-QA]
 rw[bZ hf]
def lJ (n:Nat) (i:Int):Option Nat:=bif decide (0<=i)&&decide (i<n) then some i.toNat else none
def vQ (l:List T) (i:Nat) (u:T->T):Option (List T):=match l[i]? with | some y=>some (l.set i (u y)) | none=>none
def Br (b:Nat) (n:Int) (z:T):Option (List T):=bif decide (0<=n)&&decide (n*b<=cq)&&decide (n<=cq) then some (List.replicate n.toNat z) else none
def pv (l:List T) (o n:Nat) (l2:List T):List T:=aR l o (l2.take n)
theorem CE {n:Nat} {i:Int}:(bif decide (0<=i) then some i.toNat else none:Option Nat).bind (fun j=>bif decide (j<n) then some j else none)=lJ n i:=by
 unfold lJ
 by_cases h:0<=i
 ·have:decide (i.toNat<n)=decide (i<n):=by rw[Qy]; omega
  simp[h,this]
 ·simp[h]
theorem BZ {H:ar} {b o n:Nat} {l:List T} {c:Bool} {k:IntKind} {i:Int} (h1:P.underlying t=some (.slice e)) (h2:bU P e=some es) (h:H[b]? = some (.row true es (l.map f))) :
  cC P t (.sl b o n c) (.v (.int k i)) H=(lJ n i).map fun j=>.ep b (o+j) 0:=by
 unfold cC idx
 rw[h1,<-CE]
 by_cases hi:0<=i
 ·simp only[hi,OW,N9,N4,fh,h2,h,PH]
  cases decide (i.toNat<n)<;>rfl
 ·simp only[hi,Pr,N8,QN,Option.map_none]
theorem fD {H:ar} {b n:Nat} {l:List T} {c:Bool} {k:IntKind} {i:Int} (h1:P.underlying t=some (.slice e)) (h2:bU P e=some es) (h:H[b]? = some (.row true es (l.map f))) :
  cC P t (.sl b 0 n c) (.v (.int k i)) H=(lJ n i).map fun j=>.ep b j 0:=by
 rw[BZ h1 h2 h]
 cases lJ n i<;>simp
theorem iG {H:ar} {b i o n:Nat} {l:List T} {g:T->A} (h2:bU P t=some n) (h0:n≠0) (hl:∀ x,(f x).length=es) (ho:o+n<=es) (h:H[b]? = some (.row true es (l.map f))) (hg:∀ x,join P t (((f x).drop o).take n)=some (g x)) :
  kI P t (.ep b i o) H=(l[i]?).map g:=by
 unfold kI
 rw[h2,N4]
 have:(n==0)=false:=by simpa using h0
 simp only[this,N8,h,OB]
 cases l[i]? with
 | none=>rfl
 | some x=>simp only[OX,hl,Oc ho,N9,hg]
theorem rD {H:ar} {b i o n lo:Nat} {l:List T} {x:A} {xs:List A} {u:T->T} (h2:bU P t=some n) (hx:x.cells? = some xs) (h0:n≠0) (hxl:xs.length=n) (hl:∀ x,(f x).length=es) (ho:o+n<=es) (hlo:lo<=b) (h:H[b]? = some (.row true es (l.map f))) (hu:∀ y,aR (f y) o xs=f (u y)) :
  ic P t (.ep b i o) x H lo=(vQ l i u).map fun r=>H.set b (.row true es (r.map f)):=by
 unfold ic vQ
 rw[h2,N4,hx,N4]
 have:(n==0 || !(xs.length==n))=false:=by simp[h0,hxl]
 simp only[this,N8,h,OB]
 cases l[i]? with
 | none=>rfl
 | some y=>simp only[OX,hl,Oc ho,Oc hlo,Qc,N9,hu,List.map_set]
theorem zG {H:ar} {b o n lo:Nat} {l l2:List T} {c:Bool} {y:A} (h1:iT P t=some e) (h2:bU P e=some es) (h0:es≠0) (hl:∀ x,(f x).length=es) (hc:kO f) (hlo:lo<=b) (h:H[b]? = some (.row true es (l.map f))) (hy:nk H y f l2) :
  kT P t (.sl b o n c) y H lo=some (.v (.int .i64 ((min l2.length n:Nat):Int)),H.set b (.row true es ((pv l o n l2).map f))):=by
 unfold kT
 rw[h1,N4,h2,N4,show els? H y=_ from hy,N4]
 have:(es==0 || !((l2.map f).all fun cs=>cs.length==es&&cs.all A.cell))=false:=by rw[oD hl hc]; simp[h0]
 simp only[this,N8,h,Oc hlo,ON,PH,N9,PV,pv,aR,Ro,QA,Q7,Pg]
theorem sV {H:ar} {k1 k2:IntKind} {n:Int} {z:T} (h1:iT P t=some e) (h2:bU P e=some es) (h3:iQ P e=some by_) {z':List A} (h4:fE P e=some z') (hz:z'.map rT=f z) (h0:es≠0) (hl:∀ x,(f x).length=es) :
  dq P t (.v (.int k1 n)) (.v (.int k2 n)) H=(Br by_ n z).map fun r=>(.sl H.length 0 r.length false,H++[.row true es (r.map f)]):=by
 unfold dq ed Br idx
 rw[h1,N4,h2,N4,h3,N4,h4,N4]
 have hzl:z'.length=es:=by have:=hl z; rw[<-hz] at this; simpa using this
 by_cases hn:0<=n
 ·have e1:decide (n.toNat*by_<=cq)=decide (n*by_<=cq):=by
   obtain ⟨m,rfl⟩:∃ m:Nat,n=m:=⟨n.toNat,r7⟩
   rw[Qy,QJ]
   exact⟨fun h=>by exact_mod_cast h,fun h=>by exact_mod_cast h⟩
  have e2:decide (n.toNat<=cq)=decide (n<=cq):=H7
  simp only[hn,OW,N9,N4,hz,hzl,PH,Ow,Bool.or_false,e1,e2,N6,ON]
  have:(es==0)=false:=by simpa using h0
  rw[this]
  cases decide (n*by_<=cq)<;>cases decide (n<=cq)<;>simp
 ·simp[hn]
theorem xC {H:ar} {k1 k2:IntKind} {n:Int} {z:T} (h1:iT P t=some e) (h2:bU P e=some es) (h3:iQ P e=some by_) {z':List A} (h4:fE P e=some z') (hz:z'.map rT=f z) (h0:es≠0) (hl:∀ x,(f x).length=es) :
  fM P t (.v (.int k1 n)) (.v (.int k2 n)) H=(Br by_ n z).map fun r=>(.imm (r.map f) false,H):=by
 unfold fM Br idx
 rw[h1,N4,h2,N4,h3,N4,h4,N4]
 have hzl:z'.length=es:=by have:=hl z; rw[<-hz] at this; simpa using this
 by_cases hn:0<=n
 ·have e1:decide (n.toNat*by_<=cq)=decide (n*by_<=cq):=by
   obtain ⟨m,rfl⟩:∃ m:Nat,n=m:=⟨n.toNat,r7⟩
   rw[Qy,QJ]
   exact⟨fun h=>by exact_mod_cast h,fun h=>by exact_mod_cast h⟩
  have e2:decide (n.toNat<=cq)=decide (n<=cq):=H7
  simp only[hn,OW,N9,N4,hz,hzl,PH,Ow,Bool.or_false,e1,e2,ON]
  have:(es==0)=false:=by simpa using h0
  rw[this]
  cases decide (n*by_<=cq)<;>cases decide (n<=cq)<;>simp
 ·simp[hn]
end
def nB (l:List UInt8):ByteArray:=⟨l.toArray⟩
def kV (s:ByteArray):List UInt8:=s.data.toList
theorem qd:∀ l:List UInt8,bytesOf (l.map c8)=some l
 | []=>rfl
 | a :: l=>by
  rw[O9]
  show (bytesOf (l.map c8)).map (((a.toNat:Int).toNat.toUInt8) :: ·)=_
  rw[qd l]
  simp
theorem Cq {P:Program} {s d e:Nat} (h1:P.underlying s=some (.slice e)) (h2:P.underlying d=some .string) (h3:P.underlying e=some (.int .u8)) (h4:bU P e=some 1) {H:ar} {x:A} {l:List UInt8} (hx:nk H x c8 l) (hn:u1 H x=els? H x) :
  bH P s d x H=some (.v (.string (nB l))):=by
 unfold bH
 rw[h1,h2]
 simp only[h3,h4,hn]
 rw[show els? H x=_ from hx,N4,qd]
 rfl
def BR (y:Nat):A:=bif Nat.beq y 0 then .v .nilFunc else .fn (.func y) [] []
theorem xy (L e:Nat):A.under L (BR e)=true:=by unfold BR; cases Nat.beq e 0<;>rfl
theorem eo:(∀ (L e:Nat),A.under L (BR e)=true)/\(∀ {T:Type} {f:T->List A} (hf:cR f) (L:Nat) (l:List T),ax L (l.map f)=true)/\(∀ (L:Nat) (a b:List A),aN L (a++b)=(aN L a&&aN L b))/\(∀ k,cR (cI k))/\cR c8/\cR cB/\cR cS/\(∀ {T:Type} {f:T->List A} (hf:cR f),cR (cL f))/\(∀ b:Bool,(b&&true)=b)/\(∀ b:Bool,(true&&b)=b)/\(∀ {β:Type} (x y:β),(bif true then x else y)=x):=
 ⟨xy,cM,rz,lB,lz,lA,lD,lC,fun b=>Pw b,fun b=>ON b,fun _ _=>rfl⟩
theorem uB:(∀ (L:Nat) (cs:List A),aw.under L (.box cs)=aN L cs)/\(∀ (L:Nat) (b:Bool) (e:Nat) (l:List (List A)),aw.under L (.row b e l)=ax L l)/\(∀ (L:Nat) (r:ml),aw.under L (.rng r)=true)/\(∀ L:Nat,aw.under L .dead=true)/\(∀ (L:Nat) (k:IntKind) (ks:List Int) (vs:List A),aw.under L (.mp k ks vs)=aN L vs) ∧
  (∀ L:Nat,aN L []=true)/\(∀ (L:Nat) (a:A) (as:List A),aN L (a :: as)=(A.under L a&&aN L as))/\(∀ L:Nat,ax L []=true)/\(∀ (L:Nat) (a:List A) (as:List (List A)),ax L (a :: as)=(aN L a&&ax L as)) ∧
  (∀ L:Nat,A.under L .any=true)/\(∀ (L:Nat) (v:Value),A.under L (.v v)=true)/\(∀ L b o:Nat,A.under L (.ptr b o)=decide (b<L))/\(∀ L b i o:Nat,A.under L (.ep b i o)=decide (b<L))/\(∀ (L b o n:Nat) (c:Bool),A.under L (.sl b o n c)=decide (b<L))/\(∀ L b:Nat,A.under L (.mr b)=decide (b<L)) ∧
  (∀ (L:Nat) (cs:List A),A.under L (.ip cs)=aN L cs)/\(∀ (L:Nat) (cs:List A),A.under L (.agg cs)=aN L cs)/\(∀ (L:Nat) (cs:List A),A.under L (.tup cs)=aN L cs)/\(∀ (L:Nat) (l:List (List A)) (c:Bool),A.under L (.imm l c)=ax L l)/\(∀ (L:Nat) (f:Fn) (a b:List A),A.under L (.fn f a b)=(aN L a&&aN L b))/\(∀ (L:Nat) (t:TypeId) (x:A),A.under L (.ifc t x)=A.under L x) ∧
  (∀ f:aw->Bool,[].all f=true)/\(∀ (f:aw->Bool) (b:aw) (H:ar),(b :: H).all f=(f b&&H.all f)):=by
 refine⟨?_,?_,?_,?_,?_,?_,?_,?_,?_,?_,?_,?_,?_,?_,?_,?_,?_,?_,?_,?_,?_,?_,?_⟩<;>intros<;>first | rfl | (simp only[aw.under,A.under,aN,ax]; done)
theorem cU {L:Nat} {H H':ar} (h:H.take L=H') (hu:H'.all (aw.under L)=true):trim L H=some H':=by
 unfold trim
 rw[h,hu]
 cases hL:H.length==L with
 | false=>rfl
 | true=>rw[<-h,O0 (QG (eq_of_beq hL))]; rfl
theorem HO {L:Nat} {v:A} {H:ar} (h:A.under L v=true):zC L (Out.ret v,H)=some v:=by
 unfold zC
 simp only[h,N9]
theorem J.ds {cx:Cx} {call:aK} {e:Nat} (q:Nat) {args:List A} {H:ar} {lo:Nat} {k pan:A->ar->Option Go.Proofs.Ytebkhfhcipnfgaa.R} {kL:Go.Proofs.Ytebkhfhcipnfgaa.R->Option ρ} (h:decide (e=q)=true) (hq:Nat.beq q 0=false)
  (hk:J φ (cN cx call (.fn (.func q) [] []) args H lo k pan) kL R K):J φ (cN cx call (BR e) args H lo k pan) kL R K:=by
 rw[Oe h]
 unfold BR
 rw[hq]
 exact hk
abbrev iA (n:Int):A:=A.v (Value.int .i64 n)
abbrev uA (n:Int):A:=A.v (Value.int .u8 n)
abbrev bA (b:Bool):A:=A.v (Value.bool b)
def getM {T:Type}:List (Int×T)->Int->Option T
 | [],_=>none
 | p :: l,a=>bif decide (a=p.1) then some p.2 else getM l a
def gi {T:Type}:List (Int×T)->Int->T->List (Int×T)
 | [],a,x=>[(a,x)]
 | p :: l,a,x=>bif decide (a=p.1) then (p.1,x) :: l else p :: gi l a x
abbrev fq {T:Type} (k:IntKind) (f:T->A) (l:List (Int×T)):aw:=.mp k (l.map Prod.fst) (l.map fun p=>f p.2)
theorem mQ {T:Type} {f:T->A} {a:Int}:∀ l:List (Int×T),kd a (l.map Prod.fst) (l.map fun p=>f p.2)=(getM l a).map f
 | []=>rfl
 | p :: l=>by
  show (bif decide (a=p.1) then some (f p.2) else kd a (l.map Prod.fst) (l.map fun p=>f p.2))=(bif decide (a=p.1) then some p.2 else getM l a).map f
  cases decide (a=p.1)
  ·exact mQ l
  ·rfl
theorem v5 {T:Type} {f:T->A} {a:Int} {x:T}:∀ l:List (Int×T),um a (f x) (l.map Prod.fst) (l.map fun p=>f p.2)=((gi l a x).map Prod.fst,(gi l a x).map fun p=>f p.2)
 | []=>rfl
 | p :: l=>by
  show (bif decide (a=p.1) then (p.1 :: l.map Prod.fst,f x :: l.map fun p=>f p.2) else (p.1 :: (um a (f x) (l.map Prod.fst) (l.map fun p=>f p.2)).1,f p.2 :: (um a (f x) (l.map Prod.fst) (l.map fun p=>f p.2)).2))=((bif decide (a=p.1) then (p.1,x) :: l else p :: gi l a x).map Prod.fst,(bif decide (a=p.1) then (p.1,x) :: l else p :: gi l a x).map fun p=>f p.2)
  cases decide (a=p.1)
  ·rw[v5 l]; rfl
  ·rfl
theorem uf {P:Program} {t vt:TypeId} {k:IntKind} {T:Type} {f:T->A} {l:List (Int×T)} {a:Int} {x:T} {H:ar} {b lo:Nat} (hk:tZ P t=some (k,vt)) (hb:H[b]? = some (fq k f l)) (hl:Nat.ble lo b=true) :
  gG P t (.mr b) (.v (.int k a)) (f x) H lo=some (H.set b (fq k f (gi l a x))):=by
 unfold gG
 rw[hk]
 simp only[N4,keyOf,OW,N9,hb,Oc (Pc hl),Qc,v5]
theorem Bt {P:Program} {t vt:TypeId} {k:IntKind} {T:Type} {f:T->A} {l:List (Int×T)} {a:Int} {z:T} {v:Value} {H:ar} {b:Nat} (hk:tZ P t=some (k,vt)) (hb:H[b]? = some (fq k f l)) (hz:((P.info? vt).bind fun i=>i.zero)=some v) (hv:ui v=f z) :
  ee P t (.mr b) (.v (.int k a)) true H=some (.tup [f ((getM l a).getD z),.v (.bool (getM l a).isSome)]):=by
 unfold ee
 rw[hk]
 simp only[N4,keyOf,OW,N9,hb,mQ]
 cases getM l a with
 | some y=>rfl
 | none=>
  show ((P.info? vt).bind fun i=>i.zero.map fun z=>A.tup [ui z,.v (.bool false)])=_
  cases hi:P.info? vt with
  | none=>rw[hi] at hz; cases hz
  | some i=>
   rw[hi] at hz
   rw[N4,show i.zero=some v from hz,OX,hv]; rfl
theorem yr {P:Program} {t vt:TypeId} {k:IntKind} {T:Type} {f:T->A} {l:List (Int×T)} {a:Int} {z:T} {v:Value} {H:ar} {b:Nat} (hk:tZ P t=some (k,vt)) (hb:H[b]? = some (fq k f l)) (hz:((P.info? vt).bind fun i=>i.zero)=some v) (hv:ui v=f z) :
  ee P t (.mr b) (.v (.int k a)) false H=some (f ((getM l a).getD z)):=by
 unfold ee
 rw[hk]
 simp only[N4,keyOf,OW,N9,hb,mQ]
 cases getM l a with
 | some y=>rfl
 | none=>
  show ((P.info? vt).bind fun i=>i.zero.map fun z=>ui z)=_
  cases hi:P.info? vt with
  | none=>rw[hi] at hz; cases hz
  | some i=>
   rw[hi] at hz
   rw[N4,show i.zero=some v from hz,OX,hv]; rfl
theorem ux (L:Nat):∀ l:List (Int×Int),aN L (l.map fun p=>A.v (Value.int .i64 p.2))=true
 | []=>rfl
 | p :: l=>ux L l
theorem D8 {β:Type} {cx:Cx} {k m n lo:Nat} {args:List A} {H5 X:ar} {Y:Option β} {o:β->Out} {H':β->ar} (hk:Nat.ble cx.P.funcs.size k=false) (hm:cx.cut k=m) (hm0:Nat.beq m 0=false) (hl:H5.length=m) (ha:aN m args=true) (hh:H5.all (aw.under m)=true)
  (hl':∀ y,(H' y).length=m) (hv:∀ y,jT m (o y)=true) (hh':∀ y,(H' y).all (aw.under m)=true) (h:J (fun (r:Out×ar) y=>∃ Z,r=(o y,H' y++Z)) (aJ cx (di cx n) (aX cx n) n k args H5 lo) some Y some) :
  J (fun (r:Out×ar) y=>r=(o y,H' y++X)) (di cx (n+1) k args (H5++X) lo) some Y some:=by
 intro r hr
 obtain ⟨s,h1,Z,rfl⟩:=h r hr
 refine⟨_,?_,rfl⟩
 have h2:aJ cx (aX cx n CP) (aX cx n) n k args H5 lo=some (o r,H' r++Z):=by
  rw[Option.bind_fun_some] at h1
  exact h1
 have hc:fj cx k (H5++X)=true:=by
  unfold fj
  rw[hm,hm0,Ph N0]
  rfl
 have hc2:cutAt cx k (H5++X)=m:=by
  unfold cutAt
  rw[hm,Ph N0]
  rfl
 have t1:(H5++X).take m=H5:=by rw[<-hl,List.take_left]
 have t2:(H5++X).drop m=X:=by rw[<-hl,List.drop_left]
 have t3:(H' r++Z).take m=H' r:=by rw[<-hl' r,List.take_left]
 have t4:Nat.ble m (H' r++Z).length=true:=Ph (by rw[Oq,hl']; omega)
 unfold di
 rw[aX,hk,hc]
 simp only[N9,N8]
 unfold ma
 rw[hc2,t1,t2,ha,hh]
 show ((bif true&&true then (aJ cx (aX cx n CP) (aX cx n) n k args H5 lo).bind _ else none).bind some)=_
 rw[h2]
 simp only[Qc,N9,N4,t4,t3,hh',hv]
def n9 {β:Type} (m:Nat) (r:Go.Proofs.Ytebkhfhcipnfgaa.R) (k:Go.Proofs.Ytebkhfhcipnfgaa.R->Option β):Option β:=bif Nat.ble m r.2.length&&(r.2.take m).all (aw.under m)&&jT m r.1 then k (r.1,r.2.take m) else none
theorem J.td {m:Nat} {x:Option Go.Proofs.Ytebkhfhcipnfgaa.R} {k:Go.Proofs.Ytebkhfhcipnfgaa.R->Option σ} (h:J φ x (fun r=>(n9 m r k).bind kL) R K):J φ ((x.bind fun r=>n9 m r some).bind k) kL R K:=by
 refine J.lp ?_ (J.bb h)
 cases x with
 | none=>rfl
 | some r=>
  show (n9 m r some).bind k=n9 m r k
  unfold n9
  cases Nat.ble m r.2.length&&(r.2.take m).all (aw.under m)&&jT m r.1<;>rfl
theorem J.MR {m k n lo:Nat} {cx:Cx} {base:aK} {args:List A} {H:ar} {x:Option Go.Proofs.Ytebkhfhcipnfgaa.R} {k':Go.Proofs.Ytebkhfhcipnfgaa.R->Option σ} (h:aX cx (n+1) base k args H lo=x.bind fun r=>n9 m r some) (hk:J φ x (fun r=>(n9 m r k').bind kL) R K):J φ ((aX cx (n+1) base k args H lo).bind k') kL R K:=J.lp (Po (fun z=>Option.bind z k') h) (J.td hk)
theorem J.ct {m k n lo:Nat} {cx:Cx} {args:List A} {H:ar} {x:Option Go.Proofs.Ytebkhfhcipnfgaa.R} {k':Go.Proofs.Ytebkhfhcipnfgaa.R->Option σ} (h:aX cx (n+1) CP k args H lo=x.bind fun r=>n9 m r some) (hk:J φ x (fun r=>(n9 m r k').bind kL) R K):J φ ((di cx (n+1) k args H lo).bind k') kL R K:=J.MR h hk
def Lv {T:Type} (f:T->List A):Prop:=∀ x,(f x).all (fun a=>match a with | .v _=>true | .imm _ _=>true | _=>false)=true
theorem wm {T:Type} {f:T->List A} (hf:bK f) (hp:Lv f) (n:Nat) (H:ar) (x:T):(f x).map (hY (n+1) H)=f x:=by
 have h1:=hf (gg 4 H) x
 have h2:=hp x
 generalize f x=l at h1 h2
 induction l with
 | nil=>rfl
 | cons a as ih=>
  rw[aM,O2] at h1
  rw[Qa,N7] at h2
  rw[O9,ih h1.2 h2.2]
  congr 1
  cases a with
  | v x=>exact h1.1
  | imm x y=>exact h1.1
  | _=>cases h2.1
theorem pb {T:Type} {f:T->List A} (hf:bK f) (hp:Lv f) {H:ar} {b n:Nat} {cs:List A} (x:T) (h:H[b]? = some (.box cs)) (hx:cs=f x):hY (n+2) H (.ptr b 0)=.ip (f x):=by
 subst hx
 show (match H[b]? with | some (.box cs)=>A.ip ((cs.drop 0).map (hY (n+1) H)) | _=>.any)=_
 rw[h]
 exact Po A.ip (wm hf hp n H x)
theorem AM {T U:Type} {f:T->U} {a:T} {b:U} {l:List T} {m:List U} (h:f a=b) (t:l.map f=m):(a :: l).map f=b :: m:=by rw[O9,h,t]
theorem yC {α:Type} (x:α):∀ (a l:List α) (b:Nat),a.length<=b->(a++l).set b x=a++l.set (b - a.length) x
 | [],l,b,_=>rfl
 | y :: a,l,0,h=>by simp at h
 | y :: a,l,b+1,h=>by
  rw[OU,List.set_cons_succ,yC x a l b (by simpa using h),On,Nat.add_sub_add_right,OU]
theorem p7 {o:Out} {lo off b p:Nat} {H2 X:ar} (h:H2.length<=b):∃ Z,(o,ig lo off 0 (.ptr b p) (H2++X))=(o,H2++Z):=by
 have key:∃ Z,ig lo off 0 (.ptr b p) (H2++X)=H2++Z:=by
  unfold ig
  simp only[]
  split
  ·split
   ·cases decide (lo<=b) with
    | false=>exact⟨X,rfl⟩
    | true=>exact⟨_,yC _ _ _ _ h⟩
   ·exact⟨X,rfl⟩
  ·exact⟨X,rfl⟩
 obtain ⟨Z,hZ⟩:=key
 exact⟨Z,by rw[hZ]⟩
theorem Ay {T:Type} {f:T->List A} (hf:bK f) {H:ar} {lo off b o b' es:Nat} {l:List T} {cs:List A} {c:Bool} (h1:H[b]? = some (.box cs)) (h2:cs[o+off]? = some (.sl b' 0 l.length c)) (h3:H[b']? = some (.row false es (l.map f))) (h4:lo<=b) :
  ig lo off 0 (.ptr b o) H=H.set b (.box (cs.set (o+off) (.imm (l.map f) false))):=by
 unfold ig
 simp only[h1,h2,Oc h4,N9]
 rw[show Ee H (.sl b' 0 l.length c)=.imm (l.map f) false from cG (n:=3) hf h3]
end
section
open Go.RowKit Go.ChangeShapes Go.WideShapes Go.ChangeAt Go.Deep
theorem wq (k o:Nat):dZ [] (G0 fun _ _=>True) k o:=⟨trivial,fun b hb=>by cases hb⟩
def kQ (P:Program) (t:TypeId) (T:List A->Prop):Prop:=
 ∀ {H:Type} (enc:TypeId×Value->H) (w:World) (held:Bool) (fuel:Nat) (cs:List Value) (x:DataW H×List MemPlace),DataW.trod enc P w 0 (fun _=>true) held fuel t cs=some x->∃ as,T as/\aY [] (G0 fun _ _=>True) w as cs
def JG (as:List A):Prop:=∃ n:Int,as=[.v (.int .i64 n)]/\-9223372036854775808<=n/\n<=9223372036854775807
theorem xQ {H:ar} {g:Gh} {w:World} (x:Value):aY H g w [.v x] [x]:=by rw[aY]; exact⟨x,[],rfl,u2,y2⟩
theorem xp {P:Program} {t:TypeId} (ht:P.underlying t=some (.int .i64)):kQ P t JG:=by
 intro H enc w held fuel cs x h
 obtain ⟨n,rfl,_,hw⟩:=DataW.trod_int ht h
 exact⟨_,⟨n,rfl,(bounds_i64 hw).1,(bounds_i64 hw).2⟩,xQ _⟩
theorem pW {H:ar} {g:Gh} {w:World} {a:A} {as:List A} {c:Value} {cs:List Value} (h:VR H g w a c) (k:aY H g w as cs):aY H g w (a :: as) (c :: cs):=by rw[aY]; exact⟨c,cs,rfl,h,k⟩
def As:List (List A->Prop)->List A->Prop
 | [],as=>as=[]
 | T :: Ts,as=>∃ a b,as=a++b/\T a/\As Ts b
def A6 (P:Program) (N:Nat):List Field->Nat->Bool
 | [],o=>Nat.beq o N
 | f :: fs,o=>Nat.beq f.offset o&&A6 P N fs (o+P.cellsOf f.type)
def ReadsAll (P:Program):List Field->List (List A->Prop)->Prop
 | [],[]=>True
 | f :: fs,T :: Ts=>kQ P f.type T/\ReadsAll P fs Ts
 | _,_=>False
theorem mM {H:ar} {g:Gh} {w:World}:∀ {a:List A} {c:List Value} {b:List A} {d:List Value},aY H g w a c->aY H g w b d->aY H g w (a++b) (c++d)
 | [],c,b,d,h,k=>by rw[aY] at h; subst h; exact k
 | x :: a,c,b,d,h,k=>by
  rw[aY] at h
  obtain ⟨y,c',rfl,h1,h2⟩:=h
  rw[OU,OU,aY]
  exact⟨y,_,rfl,h1,mM h2 k⟩
theorem n0 {P:Program} {H:Type} (enc:TypeId×Value->H) (w:World) (held:Bool) (cs:List Value) {N:Nat} (hN:cs.length=N):∀ (fs:List Field) (Ts:List (List A->Prop)) (o:Nat),A6 P N fs o=true->ReadsAll P fs Ts ->
  (∀ (i:Nat) f,fs[i]? = some f->∃ n x,DataW.trod enc P w 0 (fun _=>true) held n f.type ((cs.drop f.offset).take (P.cellsOf f.type))=some x)->∃ as,As Ts as/\aY [] (G0 fun _ _=>True) w as (cs.drop o)
 | [],[],o,hl,_,_=>by
  rw[A6] at hl
  have:o=N:=Ok hl
  refine⟨[],rfl,?_⟩
  rw[aY,OV.2 r7]
 | f :: fs,T :: Ts,o,hl,hr,hx=>by
  rw[A6,N7] at hl
  obtain ⟨hl1,hl⟩:=hl
  have ho:f.offset=o:=Ok hl1
  obtain ⟨n,x,h0⟩:=hx 0 f rfl
  obtain ⟨a,ha,hv⟩:=hr.1 enc w held n _ x h0
  obtain ⟨b,hb,hvb⟩:=n0 enc w held cs hN fs Ts (o+P.cellsOf f.type) hl hr.2 fun i f' hf'=>hx (i+1) f' (by simpa using hf')
  refine⟨a++b,⟨a,b,rfl,ha,hb⟩,?_⟩
  have e:cs.drop o=(cs.drop o).take (P.cellsOf f.type)++cs.drop (o+P.cellsOf f.type):=by
   rw[<-Rv]; exact(Py _ _).symm
  rw[e,<-ho]
  rw[<-ho] at hvb
  exact mM hv hvb
 | [],_ :: _,_,_,hr,_=>hr.elim
 | _ :: _,[],_,_,hr,_=>hr.elim
theorem fg {P:Program} {t:TypeId} {fs:Array Field} {Ts:List (List A->Prop)} (ht:P.underlying t=some (.struct fs)) (hl:A6 P (P.cellsOf t) fs.toList 0=true) (hr:ReadsAll P fs.toList Ts):kQ P t (As Ts):=by
 intro H enc w held fuel cs x h
 obtain ⟨xs,n,_,rfl,hlen,hxs,hf⟩:=DataW.trod_struct ht h
 obtain ⟨as,h1,h2⟩:=n0 enc w held cs hlen fs.toList Ts 0 hl hr fun i f hi=>by
  have hi':i<xs.length:=by
   have:=(Oa.1 hi).1
   simp at this; omega
  exact⟨n,xs[i],by rw[hf i f (by simpa using hi)]; exact N5 hi'⟩
 exact⟨as,h1,by simpa using h2⟩
theorem rN {H:Type} {enc:TypeId×Value->H} {P:Program} {W:World} {base:Nat} {ts:Array TypeId} {args:Array Value} (h:uF enc P W base ts args) (j:Nat) {t:TypeId} {v:Value} (hj:ts[j]? = some t) (hv:args[j]? = some v) {fs:Array Field} (ht:P.underlying t=some (.struct fs)) {T:List A->Prop} (hT:kQ P t T) :
  ∃ as,T as/\VR [] (G0 fun _ _=>True) W (.agg as) v:=by
 obtain ⟨ok,d,p,fuel,htr⟩:=h.2 j t v hj hv
 unfold Value.okWide at ok
 rw[ht] at ok
 obtain ⟨cs,rfl,_,_⟩:=ok
 obtain ⟨as,h1,h2⟩:=hT enc W _ _ _ _ htr
 refine⟨as,h1,?_⟩
 rw[VR]
 exact⟨cs,rfl,h2⟩
def pn (P:Program) (t:TypeId) {T:Type} (c:T->List A) (ok:T->Prop):Prop:=kQ P t fun as=>∃ x,as=c x/\ok x
def dg (n:Int):Prop:=-9223372036854775808<=n/\n<=9223372036854775807
theorem iq {P:Program} {t:TypeId} (ht:P.underlying t=some (.int .i64)):pn P t (cI .i64) dg:=fun enc w held fuel cs x h=>by
 obtain ⟨as,⟨n,rfl,h1⟩,h2⟩:=xp ht enc w held fuel cs x h
 exact⟨_,⟨n,rfl,h1⟩,h2⟩
theorem pn.of {P:Program} {t:TypeId} {T:Type} {c:T->List A} {ok:T->Prop} {S:List A->Prop} (h:kQ P t S) (hs:∀ as,S as->∃ x,as=c x/\ok x):pn P t c ok:=fun enc w held fuel cs x h0=>by
 obtain ⟨as,h1,h2⟩:=h enc w held fuel cs x h0
 exact⟨as,hs as h1,h2⟩
theorem zv {H:Type} {enc:TypeId×Value->H} {P:Program} {W:World} {base:Nat} {ts:Array TypeId} {args:Array Value} (h:uF enc P W base ts args) (j:Nat) {t:TypeId} {v:Value} (hj:ts[j]? = some t) (hv:args[j]? = some v) {fs:Array Field} (ht:P.underlying t=some (.struct fs)) {T:Type} {c:T->List A} {ok:T->Prop} (hT:pn P t c ok) :
  ∃ x,ok x/\VR [] (G0 fun _ _=>True) W (.agg (c x)) v:=by
 obtain ⟨as,⟨x,rfl,h1⟩,h2⟩:=rN h j hj hv ht hT
 exact⟨x,h1,h2⟩
def jN:Nat:=9223372036854775807
section
variable {P:Program} {t e:TypeId} {T:Type} {c:T->List A} {ok:T->Prop}
theorem HN (ht:P.underlying t=some (.int .u8)):pn P t c8 (fun _=>True):=fun enc w held fuel cs x h=>by
 obtain ⟨n,rfl,_,hw⟩:=DataW.trod_int ht h
 obtain ⟨h1,h2⟩:=bounds_u8 hw
 refine⟨c8 (UInt8.ofNat n.toNat),⟨_,rfl,trivial⟩,?_⟩
 have:((UInt8.ofNat n.toNat).toNat:Int)=n:=by
  rw[UInt8.toNat_ofNat']
  omega
 unfold c8
 rw[this]
 exact xQ _
theorem fX {es:Nat} (ht:P.underlying t=some (.slice e)) (hk:P.cellsOf e=es) (hpos:0<es) (hlen:∀ x,(c x).length=es) (hL:pn P e c ok):pn P t (cL c) (fun l=>l.length<=jN/\∀ z∈l,ok z):=by
 intro H enc w held fuel cs x h
 rcases open_slice ht h with ⟨rfl,_⟩ | ⟨a,len,cap,m,n,D,Pl,rfl,_,hle,hcap,hm,hxd,hel⟩
 ·refine⟨_,⟨[],rfl,OC _,fun z hz=>(by cases hz)⟩,?_⟩
  rw[cL,aY]
  refine⟨_,[],rfl,?_,y2⟩
  rw[VR]
  exact⟨none,0,[],es,rfl,N6 _,fun h=>(by cases h),fun d hd=>(by cases hd),fun h=>absurd h (Qb 0),by rw[RL,aU]⟩
 ·simp only[QH] at hm
  have each:∀ i,i<len->∃ y:T,ok y/\∃ vs,aY [] (G0 fun _ _=>True) w (c y) vs/\vs.length=es/\∀ j,j<es->w.cell? (a.add (i*es+j))=vs[j]?:=fun i hi=>by
   obtain ⟨cs',h1,h2⟩:=hel i r7
   obtain ⟨as,⟨y,rfl,hok⟩,hv⟩:=hL enc w held n cs' _ h2
   obtain ⟨_,hl,hc⟩:=World.cells?_some h1
   have hvl:=hv.length
   rw[hlen] at hvl
   refine⟨y,hok,cs',hv,hvl,fun j hj=>?_⟩
   have:=hc j r7
   rw[hk,add_add] at this
   exact this
  obtain ⟨l,ds,hl,hdl,hall⟩:∃ (l:List T) (ds:List (List Value)),l.length=len/\ds.length=len/\∀ i y d,l[i]? = some y->ds[i]? = some d->ok y/\aY [] (G0 fun _ _=>True) w (c y) d/\d.length=es/\∀ j,j<es->w.cell? (a.add (i*es+j))=d[j]?:=by
   clear hel hm hle hcap hxd h
   induction len with
   | zero=>exact⟨[],[],rfl,rfl,fun i y d h=>by simp at h⟩
   | succ len ih=>
    obtain ⟨l,ds,hl,hdl,hall⟩:=ih (fun i hi=>each i r7)
    obtain ⟨y,hok,d,hd⟩:=each len r7
    refine⟨l++[y],ds++[d],by simp[hl],by simp[hdl],fun i y' d' hy' hd'=>?_⟩
    by_cases e:i<len
    ·rw[Oo r7] at hy' hd'
     exact hall i y' d' hy' hd'
    ·have hi:i<(l++[y]).length:=(Oa.1 hy').1
     have e2:i=len:=by simp at hi; omega
     subst e2
     rw[OI r7] at hy' hd'
     simp[hl,hdl] at hy' hd'
     subst hy'; subst hd'
     exact⟨hok,hd⟩
  have hds:∀ d∈ds,d.length=es:=fun d hd=>by
   obtain ⟨i,hi,rfl⟩:=O4 hd
   exact(hall i l[i] ds[i] (N5 r7) (N5 hi)).2.2.1
  have hcapL:cap<=jN:=hcap
  refine⟨_,⟨l,rfl,r7,fun z hz=>?_⟩,?_⟩
  ·obtain ⟨i,hi,rfl⟩:=O4 hz
   exact(hall i l[i] ds[i] (N5 hi) (N5 r7)).1
  ·rw[cL,aY]
   refine⟨_,[],rfl,?_,y2⟩
   rw[VR]
   refine⟨some a,cap,ds,es,by simp[hl],by simp[hl]; exact hle,fun h=>(by cases h),hds,fun hp=>?_,?_⟩
   ·have hp:0<len:=by simpa [hl] using hp
    obtain ⟨ab,ao,asp⟩:=a
    obtain ⟨_,_,h0l,h0⟩:=hall 0 l[0] ds[0] (N5 r7) (N5 r7)
    have h4:=h0 0 hpos
    rw[N5 r7] at h4
    have hsp:asp=none:=by simpa [Addr.add] using World.cell?_spot h4
    subst hsp
    refine⟨ab,ao,rfl,fun j v hj=>⟨?_,wq _ _⟩⟩
    have hjl:j<ds.flatten.length:=(Oa.1 hj).1
    rw[bF hds] at hjl
    have hi:j / es<len:=by
     rw[QQ hpos]; rw[hdl] at hjl; exact hjl
    obtain ⟨_,_,hil,hi2⟩:=hall (j / es) l[j / es] ds[j / es] (N5 r7) (N5 r7)
    have h5:=hi2 (j % es) (Qt _ hpos)
    have e1:j / es*es+j % es=j:=by rw[Pm]; exact QV j es
    have h6:=iV hds (N5 (show j / es<ds.length by omega)) (j % es) (Qt _ hpos)
    rw[e1] at h5 h6
    rw[add_plain] at h5
    rw[h5,<-h6]
    exact hj
   ·refine b7.2 ⟨by simp[hl,hdl],fun i y d hy hd=>?_⟩
    rw[OB] at hy
    cases hx:l[i]? with
    | none=>rw[hx] at hy; cases hy
    | some z=>
     rw[hx] at hy; cases hy
     exact(hall i z d hx hd).2.1
theorem pn.Lr {ok':T->Prop} (h:pn P t c ok) (hw:∀ x,ok x->ok' x):pn P t c ok':=fun enc w held fuel cs x h0=>by
 obtain ⟨as,⟨y,h1,h2⟩,h3⟩:=h enc w held fuel cs x h0
 exact⟨as,⟨y,h1,hw y h2⟩,h3⟩
theorem zA {es:Nat} (ht:P.underlying t=some (.slice e)) (hk:P.cellsOf e=es) (hpos:0<es) (hlen:∀ x,(c x).length=es) (hL:pn P e c (fun _=>True)):pn P t (cL c) (fun l=>l.length<=jN):=pn.Lr (T:=List T) (c:=cL c) (ok:=fun (l:List T)=>l.length<=jN/\∀ z∈l,True) (fX ht hk hpos hlen hL) fun _ h=>h.1
theorem ur {n:Nat} {T:List A->Prop} (ht:P.underlying t=some (.array n e)) (hk:P.cellsOf t=n*P.cellsOf e) (hr:kQ P e T):kQ P t (As (List.replicate n T)):=by
 intro H enc w held fuel cs x h
 obtain ⟨xs,m,_,rfl,hlen,hxs,hf⟩:=DataW.trod_array ht h
 rw[hk] at hlen
 have go:∀ q,q<=n->∃ as,As (List.replicate q T) as/\aY [] (G0 fun _ _=>True) w as (cs.drop ((n - q)*P.cellsOf e)):=by
  intro q
  induction q with
  | zero=>intro _; exact⟨[],rfl,by rw[aY,OV.2 (by simp[hlen])]⟩
  | succ q ih=>
   intro hq
   obtain ⟨bs,h1,h2⟩:=ih r7
   have hi:n - (q+1)<xs.length:=r7
   have:=hf (n - (q+1)) r7
   rw[N5 hi] at this
   obtain ⟨as,ha,hv⟩:=hr enc w held m _ _ this
   refine⟨as++bs,⟨as,bs,rfl,ha,h1⟩,?_⟩
   have e1:(n - q)*P.cellsOf e=(n - (q+1))*P.cellsOf e+P.cellsOf e:=by
    rw[show n - q=n - (q+1)+1 by omega,O5,Rs]
   have e2:cs.drop ((n - (q+1))*P.cellsOf e)=(cs.drop ((n - (q+1))*P.cellsOf e)).take (P.cellsOf e)++cs.drop ((n - q)*P.cellsOf e):=by
    rw[e1,<-Rv]; exact(Py _ _).symm
   rw[e2]
   exact mM hv h2
 obtain ⟨as,h1,h2⟩:=go n (N6 _)
 exact⟨as,h1,by simpa using h2⟩
variable {H:Type} {enc:TypeId×Value->H} {W:World} {base:Nat} {ts:Array TypeId} {args:Array Value}
theorem sE {l:List T->Prop} (h:uF enc P W base ts args) (j:Nat) {t:TypeId} {v:Value} (hj:ts[j]? = some t) (hv:args[j]? = some v) (ht:P.underlying t=some (.slice e)) (hT:pn P t (cL c) l) :
  ∃ x,l x/\VR [] (G0 fun _ _=>True) W (.imm (x.map c) false) v:=by
 obtain ⟨okw,d,p,fuel,htr⟩:=h.2 j t v hj hv
 obtain ⟨a0,len,cap,rfl⟩:=okWide_slice ht okw
 obtain ⟨as,⟨x,rfl,hx⟩,hvr⟩:=hT enc W _ _ _ _ htr
 rw[cL,aY] at hvr
 obtain ⟨d0,ds,e0,h1,h2⟩:=hvr
 simp[Value.cells] at e0
 obtain ⟨rfl,_⟩:=e0
 exact⟨x,hx,h1⟩
end
theorem Fe {P:Program} {glob:Nat->Option (List Value)} {k:Nat} {as:List A} {args:Array Value} {W:World} (h:ib P glob k as (.v (.bool true))) (hg:∀ (G:Nat) (vs:List Value),glob G=some vs->∀ (j:Nat) (v:Value),vs[j]? = some v->W.cell? ⟨G,j,none⟩=some v)
  (hv:aY [] (G0 fun _ _=>True) W as args.toList):Calls P k args W fun e W'=>e=.returned (.bool true)/\Below W.heap.size W W':=by
 refine(h (fun _ _=>True) W args.toList (fun _ _ _=>trivial) (fun G vs hG j v hj=>⟨by rw[OZ]; exact hg G vs hG j v hj,wq _ _⟩) hv).mono ?_
 rintro e W' ⟨c,rfl,hb,hc⟩
 rw[VR] at hc
 subst hc
 exact⟨rfl,hb⟩
end
end Go.Proofs.Ytebkhfhcipnfgaa
