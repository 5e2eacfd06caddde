/-
 From what the interpreter does to plain functions on plain data: rules by which the one is followed along the other.
-/
import Derived.Test.YtdmgdjnadbakfaaEvSimp
import Derived.KernelRfl
namespace Go.Proofs.Ytdmgdjnadbakfaa
set_option linter.unusedVariables false
set_option linter.unusedSimpArgs false
variable {ρ γ σ α β τ:Type}
def J (φ:ρ->γ->Prop) (L:Option σ) (kL:σ->Option ρ) (R:Option α) (K:α->Option γ):Prop:=∀ r,R.bind K=some r->∃ s,L.bind kL=some s/\φ s r
variable {φ:ρ->γ->Prop} {kL:σ->Option ρ} {K:α->Option γ} {R X Y:Option α}
theorem J.st {x:Option τ} {v:τ} {k:τ->Option σ} (h:x=some v) (hk:J φ (k v) kL R K):J φ (x.bind k) kL R K:=by
 rw[h]; exact hk
theorem J.s {x:Option τ} {k:τ->Option σ} (v:τ) (hk:J φ (k v) kL R K) (h:x=some v:=by kernel_rfl):J φ (x.bind k) kL R K:=J.st h hk
def getP (x:Option (A×Heap)):A×Heap:=match x with | some p=>p | none=>(.any,[])
def getH (x:Option Heap):Heap:=match x with | some p=>p | none=>[]
theorem J.sq {x:Option (A×Heap)} {k:A×Heap->Option σ} (p:A) (hk:J φ (k (p,(getP x).2)) kL R K) (h:x=some (p,(getP x).2):=by kernel_rfl):J φ (x.bind k) kL R K:=J.st h hk
theorem J.sh {x:Option Heap} {k:Heap->Option σ} (hk:J φ (k (getH x)) kL R K) (h:x=some (getH x):=by kernel_rfl):J φ (x.bind k) kL R K:=J.st h hk
theorem J.bd {x:Option τ} {k:τ->Option σ} {X:Option β} {Y:β->Option α} {g:β->τ} (h:x=X.map g) (hk:∀ y,J φ (k (g y)) kL (Y y) K):J φ (x.bind k) kL (X.bind Y) K:=by
 intro r hr
 rw[Option.bind_assoc] at hr
 cases X with
 | none=>cases hr
 | some y=>rw[h]; exact hk y r hr
theorem J.bg {x:Option τ} {k:τ->Option σ} {X:Option β} {Y:β->Option α} (ψ:τ->β->Prop) (h:J ψ x some X some) (hk:∀ t y,ψ t y->J φ (k t) kL (Y y) K):J φ (x.bind k) kL (X.bind Y) K:=by
 intro r hr
 rw[Option.bind_assoc] at hr
 cases X with
 | none=>cases hr
 | some y =>
  obtain ⟨s,h1,h2⟩:=h y rfl
  have:x=some s:=by cases x<;>simp_all
  rw[this]
  exact hk s y h2 r hr
theorem J.bTN {x y:Option σ} (h1:J φ x kL R K):J φ (bIfN (.v (.bool true)) x y) kL R K:=h1
theorem J.bFN {x y:Option σ} (h1:J φ y kL R K):J φ (bIfN (.v (.bool false)) x y) kL R K:=h1
theorem J.biHN {x y:Option σ} {b:Bool} (h1:b=true->J φ x kL X K) (h2:b=false->J φ y kL Y K):J φ (bIfN (.v (.bool b)) x y) kL (cond b X Y) K:=by
 cases b
 ·exact h2 rfl
 ·exact h1 rfl
theorem J.nq {T:Type} {f:T->List A} {l:List T} {x y:Option σ} (h:l=[]->x=y) (hy:J φ y kL R K):J φ (bIfN (.nq (l.map f)) x y) kL R K:=by
 cases l with
 | nil =>
  have e:bIfN (A.nq (List.map f [])) x y=y:=by
   show both x y=y
   unfold both
   rw[if_pos (h rfl)]
  rw[e]; exact hy
 | cons a l=>exact hy
theorem J.gf {x y:Option σ} {b:Bool} (h1:J φ x kL X K) (h2:J φ y kL Y K):J φ (gIf (.v (.bool b)) false x y) kL (cond b Y X) K:=by
 cases b
 ·exact h1
 ·exact h2
theorem J.biH {x y:Option σ} {b:Bool} (h1:b=true->J φ x kL X K) (h2:b=false->J φ y kL Y K):J φ (bIf (.v (.bool b)) x y) kL (cond b X Y) K:=by
 cases b
 ·exact h2 rfl
 ·exact h1 rfl
theorem J.cT {x y:Option σ} {c:Bool} (h:c=true) (h1:J φ x kL R K):J φ (cond c x y) kL R K:=by rw[h]; exact h1
theorem J.gd {L:Option σ} {b:Bool} (h:b=true->J φ L kL R K):J φ L kL (cond b R none) K:=by
 cases b
 ·intro r hr; cases hr
 ·exact h rfl
theorem J.sp {L:Option σ} {b:Bool} (h1:b=true->J φ L kL X K) (h2:b=false->J φ L kL Y K):J φ L kL (cond b X Y) K:=by
 cases b
 ·exact h2 rfl
 ·exact h1 rfl
theorem J.nn {L:Option σ}:J φ L kL none K:=fun r hr=>by cases hr
theorem J.uc {a:A} {r:List A} {k:A->List A->Option σ} (h:J φ (k a r) kL R K):J φ (unc (a :: r) k) kL R K:=h
theorem J.okP {a:A} {f g:A->Option Go.Proofs.Ytdmgdjnadbakfaa.R} {kL:Go.Proofs.Ytdmgdjnadbakfaa.R->Option ρ} (h:J φ (g a) kL R K):J φ (outK (.pan a) f g) kL R K:=h
theorem J.pk {t:TypeId} {y:A} {k:A->Option σ} (h:J φ (k (.ifc t y)) kL R K):J φ (panK (.ifc t y) k) kL R K:=h
theorem J.ob {b:Bool} {v p:A} {f g:A->Option Go.Proofs.Ytdmgdjnadbakfaa.R} {kL:Go.Proofs.Ytdmgdjnadbakfaa.R->Option ρ} (h1:J φ (outK (.ret v) f g) kL X K) (h2:J φ (outK (.pan p) f g) kL Y K):J φ (outK (bif b then Out.ret v else Out.pan p) f g) kL (cond b X Y) K:=by
 cases b
 ·exact h2
 ·exact h1
theorem J.lf {s:σ} {x:α} {r:ρ} {y:γ} (h1:kL s=some r) (h2:K x=some y) (h:φ r y):J φ (some s) kL (some x) K:=fun z hz=>by
 rw[Option.bind_some,h2] at hz
 cases hz
 exact⟨r,h1,h⟩
theorem J.lg {ψ:τ->β->Prop} {s:τ} {x:β} (h:ψ s x):J ψ (some s) some (some x) some:=fun r hr=>by cases hr; exact⟨s,rfl,h⟩
theorem J.lv {T:Type} {f:T->A} {v:A} {H:Heap} {y:T} (h:snapE H v=f y):J (fun (o:Go.Proofs.Ytdmgdjnadbakfaa.R) y=>∃ v,o.1=.ret v/\snapE o.2 v=f y) (some (Out.ret v,H)) some (some y) some:=.lf rfl rfl ⟨_,rfl,h⟩
theorem J.cl {x:Option τ} {x':Option τ} {k:τ->Option σ} (h:x=x') (hk:J φ x' (fun r=>(k r).bind kL) R K):J φ (x.bind k) kL R K:=by
 intro r hr
 obtain ⟨s,h1,h2⟩:=hk r hr
 exact⟨s,by rw[Option.bind_assoc,h]; exact h1,h2⟩
theorem J.bb {x:Option τ} {k:τ->Option σ} (h:J φ x (fun r=>(k r).bind kL) R K):J φ (x.bind k) kL R K:=by
 intro r hr
 obtain ⟨s,h1,h2⟩:=h r hr
 exact⟨s,by rw[Option.bind_assoc]; exact h1,h2⟩
theorem J.as {L:Option σ} {X:Option β} {Y:β->Option α} (h:J φ L kL X (fun x=>(Y x).bind K)):J φ L kL (X.bind Y) K:=by
 intro r hr
 rw[Option.bind_assoc] at hr
 exact h r hr
theorem J.un {L:Option σ} {K':γ->Option γ} (hK:K'=some) (h:J φ L kL R K):J φ L kL (R.bind K) K':=by
 intro r hr
 subst hK
 exact h r (by simpa using hr)
theorem J.ex {L:Option σ} {x:α} (h:J φ L kL (K x) some):J φ L kL (some x) K:=by
 intro r hr
 exact h r (by simpa using hr)
theorem J.lp {L:Option σ} {L':Option σ} (h:L=L') (hk:J φ L' kL R K):J φ L kL R K:=h ▸ hk
theorem J.gU {x y:Option σ} {w:Bool} (h:J φ y kL R K):J φ (gIf (.v undef) w x y) kL R K:=h
theorem J.ok {a:A} {f g:A->Option Go.Proofs.Ytdmgdjnadbakfaa.R} {kL:Go.Proofs.Ytdmgdjnadbakfaa.R->Option ρ} (h:J φ (f a) kL R K):J φ (outK (.ret a) f g) kL R K:=h
theorem J.cr {s:τ} {k:τ->Option σ} (h:J φ (k s) kL R K):J φ (some s) (fun r=>(k r).bind kL) R K:=h
theorem J.bKT {x y:Option σ} {b:Bool} (h:b=true) (h1:J φ x kL R K):J φ (bIf (.v (.bool b)) x y) kL R K:=by subst h; exact h1
theorem J.bKF {x y:Option σ} {b:Bool} (h:b=false) (h1:J φ y kL R K):J φ (bIf (.v (.bool b)) x y) kL R K:=by subst h; exact h1
theorem J.gst {x y:Option τ} {k:τ->Option σ} {b:Bool} (h1:b=true->J φ (x.bind k) kL X K) (h2:b=false->J φ (y.bind k) kL Y K):J φ ((gIf (.v (.bool b)) true x y).bind k) kL (cond b X Y) K:=by
 cases b
 ·exact h2 rfl
 ·exact h1 rfl
theorem J.gsf {x y:Option τ} {k:τ->Option σ} {b:Bool} (h1:b=false->J φ (x.bind k) kL X K) (h2:b=true->J φ (y.bind k) kL Y K):J φ ((gIf (.v (.bool b)) false x y).bind k) kL (cond b Y X) K:=by
 cases b
 ·exact h1 rfl
 ·exact h2 rfl
theorem gIf_knownFT {β:Type} {x y:Option β} {b:Bool} (h:b=true):gIf (.v (.bool b)) false x y=y:=by subst h; rfl
theorem gIf_knownFF {β:Type} {x y:Option β} {b:Bool} (h:b=false):gIf (.v (.bool b)) false x y=x:=by subst h; rfl
def fuel0:Nat:=1208925819614629174706176
def cI (k:IntKind) (n:Int):List A:=[.v (.int k n)]
def c8 (c:UInt8):List A:=[.v (.int .u8 (c.toNat:Int))]
def cB (b:Bool):List A:=[.v (.bool b)]
def cS (s:ByteArray):List A:=[.v (.string s)]
def cL {T:Type} (f:T->List A) (l:List T):List A:=[.imm (l.map f) false]
def FlatS {T:Type} (f:T->List A):Prop:=∀ g x,snapWs g (f x)=f x
theorem snapWss_map {T:Type} {f:T->List A} (hf:FlatS f) (g:Nat->Nat->Nat->A) (l:List T):snapWss g (l.map f)=l.map f:=by
 induction l with
 | nil=>rfl
 | cons x l ih=>rw[List.map_cons,snapWss,hf,ih]
def FlatU {T:Type} (f:T->List A):Prop:=∀ L x,unders L (f x)=true
theorem underss_map {T:Type} {f:T->List A} (hf:FlatU f) (L:Nat) (l:List T):underss L (l.map f)=true:=by
 induction l with
 | nil=>rfl
 | cons x l ih=>rw[List.map_cons,underss,hf,ih]; rfl
theorem fu_cI (k:IntKind):FlatU (cI k):=fun _ _=>rfl
theorem fu_c8:FlatU c8:=fun _ _=>rfl
theorem fu_cB:FlatU cB:=fun _ _=>rfl
theorem fu_cS:FlatU cS:=fun _ _=>rfl
theorem fu_cL {T:Type} {f:T->List A} (hf:FlatU f):FlatU (cL f):=fun L x=>by
 show (underss L (x.map f)&&true)=true
 rw[underss_map hf]; rfl
theorem snapWs_app (g:Nat->Nat->Nat->A):∀ (a b:List A),snapWs g (a++b)=snapWs g a++snapWs g b
 | [],b=>by simp only[List.nil_append,snapWs]
 | x :: a,b=>by simp only[List.cons_append,snapWs,snapWs_app g a b]
theorem unders_app (L:Nat):∀ (a b:List A),unders L (a++b)=(unders L a&&unders L b)
 | [],b=>by simp only[List.nil_append,unders,Bool.true_and]
 | x :: a,b=>by simp only[List.cons_append,unders,unders_app L a b,Bool.and_assoc]
theorem fl_cI (k:IntKind):FlatS (cI k):=fun _ _=>rfl
theorem fl_c8:FlatS c8:=fun _ _=>rfl
theorem fl_cB:FlatS cB:=fun _ _=>rfl
theorem fl_cS:FlatS cS:=fun _ _=>rfl
theorem fl_cL {T:Type} {f:T->List A} (hf:FlatS f):FlatS (cL f):=fun g x=>by
 show [snapW g (.imm (x.map f) false)]=_
 simp only[snapW,snapWss_map hf]; rfl
theorem sn0:(∀ (H:Heap) (a:A),snap H a=snapW (snapG 4 H) a)/\(∀ (g:Nat->Nat->Nat->A) (b o m:Nat) (c:Bool),snapW g (.sl b o m c)=g b o m)/\(∀ (g:Nat->Nat->Nat->A) (els:List (List A)) (c:Bool),snapW g (.imm els c)=.imm (snapWss g els) false)/\(∀ (g:Nat->Nat->Nat->A) (cs:List A),snapW g (.agg cs)=.agg (snapWs g cs))/\(∀ (g:Nat->Nat->Nat->A) (cs:List A),snapW g (.tup cs)=.tup (snapWs g cs))/\(∀ (g:Nat->Nat->Nat->A) (t:TypeId) (x:A),snapW g (.ifc t x)=.ifc t (snapW g x))/\(∀ (g:Nat->Nat->Nat->A) (k:IntKind) (ks:List Int) (vs:List A),snapW g (.mv k ks vs)=.mv k ks (snapWs g vs))/\(∀ (g:Nat->Nat->Nat->A) (x:Value),snapW g (.v x)=.v x)/\(∀ (g:Nat->Nat->Nat->A) (f:Fn),snapW g (.fn f [] [])=.fn f [] [])/\(∀ (g:Nat->Nat->Nat->A),snapWs g []=[])/\(∀ (g:Nat->Nat->Nat->A) (a:A) (as:List A),snapWs g (a :: as)=snapW g a :: snapWs g as)/\(∀ (g:Nat->Nat->Nat->A),snapWss g []=[])/\(∀ (g:Nat->Nat->Nat->A) (a:List A) (as:List (List A)),snapWss g (a :: as)=snapWs g a :: snapWss g as)/\(∀ {T:Type} {f:T->List A} (hf:FlatS f) (g:Nat->Nat->Nat->A) (l:List T),snapWss g (l.map f)=l.map f)/\(∀ (g:Nat->Nat->Nat->A) (a b:List A),snapWs g (a++b)=snapWs g a++snapWs g b)/\(∀ k,FlatS (cI k))/\FlatS c8/\FlatS cB/\FlatS cS/\(∀ {T:Type} {f:T->List A} (hf:FlatS f),FlatS (cL f)) :=
 ⟨fun _ _=>rfl,fun _ _ _ _ _=>rfl,fun _ _ _=>rfl,fun _ _=>rfl,fun _ _=>rfl,fun _ _ _=>rfl,fun _ _ _ _=>rfl,fun _ _=>rfl,fun _ _=>rfl,fun _=>rfl,fun _ _ _=>rfl,fun _=>rfl,fun _ _ _=>rfl,snapWss_map,snapWs_app,fl_cI,fl_c8,fl_cB,fl_cS,fl_cL⟩
def Inj {T U:Type} (f:T->U):Prop:=∀ x y,f x=f y->x=y
theorem map_inj {T:Type} {f:T->List A} (hf:Inj f):∀ (l l':List T),l.map f=l'.map f↔l=l'
 | [],[]=>by simp
 | [],_ :: _=>by simp
 | _ :: _,[]=>by simp
 | x :: l,y :: l'=>by
  simp only[List.map_cons,List.cons.injEq,map_inj hf l l']
  exact⟨fun h=>⟨hf x y h.1,h.2⟩,fun h=>⟨by rw[h.1],h.2⟩⟩
theorem in_cI (k:IntKind):Inj (cI k):=fun x y h=>by simpa [cI] using h
theorem in_c8:Inj c8:=fun x y h=>by
 simp only[c8,List.cons.injEq,A.v.injEq,Value.int.injEq,and_true,true_and] at h
 exact UInt8.toNat_inj.1 (by omega)
theorem in_cB:Inj cB:=fun x y h=>by simpa [cB] using h
theorem in_cL {T:Type} {f:T->List A} (hf:Inj f):Inj (cL f):=fun x y h=>by
 simp only[cL,List.cons.injEq,A.imm.injEq,and_true,map_inj hf] at h
 exact h
noncomputable def orcOf {X:Type} (e:X->List A) (G:X->Option A) (args:List A):Option A:=open Classical in if h:∃ x,e x=args then G h.choose else none
theorem orcOf_eq {X:Type} {e:X->List A} (G:X->Option A) (inj:Inj e) (x:X):orcOf e G (e x)=G x:=by
 unfold orcOf
 have h:∃ y,e y=e x:=⟨x,rfl⟩
 rw[dif_pos h,inj _ _ h.choose_spec]
theorem orcOf_ok {X:Type} {e:X->List A} {G:X->Option A} {args:List A} {r:A} (h:orcOf e G args=some r):∃ x,e x=args/\G x=some r:=by
 unfold orcOf at h
 split at h
 ·rename_i hx; exact⟨_,hx.choose_spec,h⟩
 ·cases h
theorem orcOf_map {X Y:Type} {e:X->List A} {F:X->Option Y} {f:Y->A} {args:List A} {r:A} (h:orcOf e (fun x=>(F x).map f) args=some r):∃ x y,e x=args/\F x=some y/\f y=r:=by
 obtain ⟨x,hx,h⟩:=orcOf_ok h
 simp only[Option.map_eq_some_iff] at h
 obtain ⟨y,hy,h⟩:=h
 exact⟨x,y,hx,hy,h⟩
theorem in0:(∀ {T:Type} (a:T) (as:List T) (b:T) (bs:List T),(a :: as=b :: bs)=(a=b/\as=bs))/\(∀ a b:Value,(A.v a=A.v b)=(a=b))/\(∀ a b:List A,(A.agg a=A.agg b)=(a=b))/\(∀ (a:List (List A)) (c:Bool) (b:List (List A)) (d:Bool),(A.imm a c=A.imm b d)=(a=b/\c=d))/\(∀ (k:IntKind) (n:Int) (k':IntKind) (n':Int),(Value.int k n=Value.int k' n')=(k=k'/\n=n'))/\(∀ a b:Bool,(Value.bool a=Value.bool b)=(a=b))/\(∀ a b:ByteArray,(Value.string a=Value.string b)=(a=b))/\(∀ p:Prop,(p/\True)=p)/\(∀ p:Prop,(True/\p)=p) :=
 ⟨fun a as b bs=>List.cons.injEq a as b bs,fun a b=>A.v.injEq a b,fun a b=>A.agg.injEq a b,fun a c b d=>A.imm.injEq a c b d,fun k n k' n'=>Value.int.injEq k n k' n',fun a b=>Value.bool.injEq a b,fun a b=>Value.string.injEq a b,fun p=>and_true p,fun p=>true_and p⟩
def upd (C:Nat->List A->Option A) (k:Nat) (c:List A->Option A):Nat->List A->Option A:=fun j args=>bif Nat.beq j k then c args else C j args
theorem evCallY_in {cx:Cx} {n k:Nat} {base:CallT} {args:List A} {H:Heap} {lo:Nat} (h:Nat.ble cx.P.funcs.size k=false) (h2:cutHere cx k H=false:=by rfl) (h3:deepHere cx k H=false:=by rfl):evCallY cx (n+1) base k args H lo=evCall1 cx (evCallY cx n base) (evCallY cx n) n k args H lo:=by
 rw[evCallY,h,h2,h3]; rfl
theorem evCall_in {cx:Cx} {n k:Nat} {args:List A} {H:Heap} {lo:Nat} (h:Nat.ble cx.P.funcs.size k=false) (h2:cutHere cx k H=false:=by rfl) (h3:deepHere cx k H=false:=by rfl):evCall cx (n+1) k args H lo=evCall1 cx (evCall cx n) (evCallY cx n) n k args H lo:=evCallY_in h h2 h3
theorem cutHere_nil {cx:Cx} {k:Nat}:cutHere cx k []=false:=by
 unfold cutHere
 cases hb:Nat.beq (cx.cut k) 0 with
 | true=>rfl
 | false=>cases hk:cx.cut k with
  | zero=>rw[hk] at hb; cases hb
  | succ m=>rfl
theorem deepHere_nil {cx:Cx} {k:Nat}:deepHere cx k []=false:=by
 unfold deepHere
 cases cx.deep k<;>rfl
theorem evCall_of1 {cx:Cx} {n k:Nat} {args:List A} {lo:Nat} {r:Go.Proofs.Ytdmgdjnadbakfaa.R} (h:evCall1 cx (evCall cx n) (evCallY cx n) n k args [] lo=some r):evCall cx (n+1) k args [] lo=some r:=by
 refine(evCall_in (ble_lt ?_) cutHere_nil deepHere_nil).trans h
 unfold evCall1 at h
 cases hf:cx.P.funcs[k]? with
 | none=>rw[hf] at h; cases h
 | some fn=>exact(Array.getElem?_eq_some_iff.1 hf).1
theorem yext_at {q b:Nat} {call:CallT} {rnd:List A->Heap->Nat->Option Go.Proofs.Ytdmgdjnadbakfaa.R} {args:List A} {H:Heap} {lo:Nat}:yext q call b rnd (q+b) args H lo=rnd args H lo:=by
 unfold yext; rw[show Nat.beq (q+b) (q+b)=true from by simp]; rfl
theorem evCallY_y {cx:Cx} {b:Nat} {base:CallT} {args:List A} {H:Heap} {lo:Nat}:∀ {m:Nat},evCallY cx m base (cx.P.funcs.size+b) args H lo=base (cx.P.funcs.size+b) args H lo:=fun {m}=>by
 cases m<;>rw[evCallY,show Nat.ble cx.P.funcs.size (cx.P.funcs.size+b)=true from by simp[Nat.ble_eq]]<;>rfl
theorem rdy_at {β:Type} {H:Heap} {b:Nat} {x:Option β} (h:H[b]? = some (.rng .ready)):rdy H b x=x:=by unfold rdy; rw[h]
theorem bsy_at {β:Type} {H:Heap} {b:Nat} {x:Option β} (h:H[b]? = some (.rng .busy)):bsy H b x=x:=by unfold bsy; rw[h]
section
variable {β:Type} {H:Heap} {b:Nat} {kn:Heap->Option β} {kx kg:Nat->Heap->Option β} {kr:Heap->Option β}
theorem rs_n (h:H[b]? = some (.rng .ready)):rngSel b H kn kx kg kr=kn (H.set b .dead):=by unfold rngSel; rw[h]
theorem rs_r (h:H[b]? = some (.rng (.done .ret))):rngSel b H kn kx kg kr=kr (H.set b .dead):=by unfold rngSel; rw[h]
end
section
variable {cx:Cx} {call:CallT} {q lo b:Nat} {first cap args:List A} {H:Heap} {k pan:A->Heap->Option Go.Proofs.Ytdmgdjnadbakfaa.R} {kL:Go.Proofs.Ytdmgdjnadbakfaa.R->Option ρ}
theorem J.dC (h1:callable cx.P q=true) (h2:cx.isOrc q=false) (h:J φ ((call q (first++args++cap) H lo).bind fun r=>outK r.1 (fun a=>k a r.2) (fun a=>pan a r.2)) kL R K):J φ (dynCall cx call (.fn (.func q) first cap) args H lo k pan) kL R K:=by
 unfold dynCall; simp only[h1,h2,cond_true,cond_false]; exact h
theorem J.dY (h1:isRng H b=true) (h:J φ ((call (cx.P.funcs.size+b) args H lo).bind fun r=>outK r.1 (fun a=>k a r.2) (fun _=>none)) kL R K):J φ (dynCall cx call (.yld b) args H lo k pan) kL R K:=by
 unfold dynCall; simp only[h1,cond_true]; exact h
end
theorem ok_J {cx:Cx} (horc:OrcOK cx) (hmx:cx.P.follows .mixedOrders=true) {γ:Type} {n k:Nat} {args:List A} {f:γ->A} {F:Option γ} {y:γ}
  (h:J (fun (o:Go.Proofs.Ytdmgdjnadbakfaa.R) y=>∃ v,o.1=.ret v/\snapE o.2 v=f y) (evCall1 cx (evCall cx (n+8)) (evCallY cx (n+8)) (n+8) k args [] 0) some F some) (hF:F=some y):CallOK cx.P cx.glob k args (f y):=by
 obtain ⟨s,h1,v,h2,h3⟩:=h y (by rw[hF]; rfl)
 obtain ⟨o,H⟩:=s
 have h2:o=.ret v:=h2
 subst h2
 rw[show ∀ x:Option Go.Proofs.Ytdmgdjnadbakfaa.R,x.bind some=x from fun x=>by cases x<;>rfl] at h1
 have h1:evCall cx (n+9) k args [] 0=some (.ret v,H):=evCall_of1 h1
 have:=callOK_of_ev horc hmx h1
 rwa [show snapE H v=f y from h3] at this
abbrev wr (k:IntKind) (n:Int):Int:=k.wrap n
def shlI (k:IntKind) (x y:Int):Int:=k.wrap (x*2 ^ (min y.toNat k.bits))
def shrI (k:IntKind) (x y:Int):Int:=x.fdiv (2 ^ (min y.toNat k.bits))
def andI (k:IntKind) (x y:Int):Int:=k.wrap ((BitVec.ofInt k.bits x &&& BitVec.ofInt k.bits y).toNat:Int)
def orI (k:IntKind) (x y:Int):Int:=k.wrap ((BitVec.ofInt k.bits x ||| BitVec.ofInt k.bits y).toNat:Int)
def xorI (k:IntKind) (x y:Int):Int:=k.wrap ((BitVec.ofInt k.bits x ^^^ BitVec.ofInt k.bits y).toNat:Int)
section
variable {P:Program} {t:TypeId} {i j:Bool} {k k2:IntKind} {a b:Int}
theorem aBin_shl (hb:0<=b):aBin P .shl t i j (.v (.int k a)) (.v (.int k2 b))=some (.v (.int k (shlI k a b))):=by
 have h:pureV P (do eqGuard .shl t (rep i) (rep j) (.int k a) (.int k2 b); binOp .shl t (.int k a) (.int k2 b))=some (.int k (shlI k a b)):=by
  show pureV P (binOp .shl t (.int k a) (.int k2 b))=_
  simp only[binOp,Op.shift,if_neg (Int.not_lt.2 hb)]; rfl
 show (pureV P _).map ofV=_
 rw[h]; rfl
theorem aBin_shr (hb:0<=b):aBin P .shr t i j (.v (.int k a)) (.v (.int k2 b))=some (.v (.int k (shrI k a b))):=by
 have h:pureV P (do eqGuard .shr t (rep i) (rep j) (.int k a) (.int k2 b); binOp .shr t (.int k a) (.int k2 b))=some (.int k (shrI k a b)):=by
  show pureV P (binOp .shr t (.int k a) (.int k2 b))=_
  simp only[binOp,Op.shift,if_neg (Int.not_lt.2 hb)]; rfl
 show (pureV P _).map ofV=_
 rw[h]; rfl
theorem aBin_bits_and:aBin P .and t i j (.v (.int k a)) (.v (.int k b))=some (.v (.int k (andI k a b))):=by
 have h:pureV P (do eqGuard .and t (rep i) (rep j) (.int k a) (.int k b); binOp .and t (.int k a) (.int k b))=some (.int k (andI k a b)):=by
  show pureV P (binOp .and t (.int k a) (.int k b))=_
  simp only[binOp,ne_eq,not_true_eq_false,if_false,Op.intBits]; rfl
 show (pureV P _).map ofV=_
 rw[h]; rfl
theorem aBin_bits_or:aBin P .or t i j (.v (.int k a)) (.v (.int k b))=some (.v (.int k (orI k a b))):=by
 have h:pureV P (do eqGuard .or t (rep i) (rep j) (.int k a) (.int k b); binOp .or t (.int k a) (.int k b))=some (.int k (orI k a b)):=by
  show pureV P (binOp .or t (.int k a) (.int k b))=_
  simp only[binOp,ne_eq,not_true_eq_false,if_false,Op.intBits]; rfl
 show (pureV P _).map ofV=_
 rw[h]; rfl
theorem aBin_bits_xor:aBin P .xor t i j (.v (.int k a)) (.v (.int k b))=some (.v (.int k (xorI k a b))):=by
 have h:pureV P (do eqGuard .xor t (rep i) (rep j) (.int k a) (.int k b); binOp .xor t (.int k a) (.int k b))=some (.int k (xorI k a b)):=by
  show pureV P (binOp .xor t (.int k a) (.int k b))=_
  simp only[binOp,ne_eq,not_true_eq_false,if_false,Op.intBits]; rfl
 show (pureV P _).map ofV=_
 rw[h]; rfl
end
theorem u8_back {n:Int} (h:(decide (0<=n)&&decide (n<256))=true):((UInt8.ofNat n.toNat).toNat:Int)=n:=by
 simp only[Bool.and_eq_true,decide_eq_true_eq] at h
 rw[UInt8.toNat_ofNat',Nat.mod_eq_of_lt (by omega)]
 omega
def getI {T:Type} (l:List T) (i:Int):Option T:=bif decide (0<=i) then l[i.toNat]? else none
def imm {T:Type} (f:T->List A) (l:List T):A:=.imm (l.map f) false
theorem idx_imm {P:Program} {t e:TypeId} {es:Nat} {T:Type} (f:T->List A) (l:List T) (c:Bool) (k:IntKind) (i:Int) (H:Heap) (h1:P.underlying t=some (.slice e)) (h2:sizeT P e=some es) (h3:∀ x,(f x).length=es) :
  aIndexAddr P t (.imm (l.map f) c) (.v (.int k i)) H=(getI l i).map fun x=>.ip (f x):=by
 unfold aIndexAddr idx getI
 rw[h1]
 by_cases hi:0<=i
 ·simp only[hi,decide_true,cond_true,Option.bind_some,refOK,h2,List.getElem?_map]
  cases l[i.toNat]? with
  | none=>rfl
  | some x=>simp[h3]
 ·simp only[hi,decide_false,cond_false,Option.bind_none,Option.map_none]
theorem len_imm {P:Program} {t e:TypeId} {T:Type} (f:T->List A) (l:List T) (c:Bool) (H:Heap) (h1:P.underlying t=some (.slice e)):aLen P t (.imm (l.map f) c) H=some (.v (.int .i64 l.length)):=by
 unfold aLen
 rw[h1]
 simp[refOK]
section
variable {P:Program} {t e es by_:Nat} {T:Type} {f:T->List A}
def subI (l:List T) (lo hi:Int):Option (List T):=bif decide (0<=lo)&&decide (lo<=hi)&&decide (hi<=l.length) then some ((l.drop lo.toNat).take (hi.toNat - lo.toNat)) else none
def appI (b:Nat) (l l2:List T):Option (List T):=bif decide ((l.length+l2.length)*b<=limit) then some (l++l2) else none
def CellF (f:T->List A):Prop:=∀ x,(f x).all A.cell=true
theorem ce_cI (k:IntKind):CellF (cI k):=fun _=>rfl
theorem ce_c8:CellF c8:=fun _=>rfl
theorem ce_cB:CellF cB:=fun _=>rfl
theorem ce_cL {U:Type} {g:U->List A}:CellF (cL g):=fun _=>rfl
theorem cells_all (hl:∀ x,(f x).length=es) (hc:CellF f) (l:List T):((l.map f).all fun cs=>cs.length==es&&cs.all A.cell)=true:=by
 rw[List.all_map]
 exact List.all_eq_true.2 fun x _=>by simp[hl,hc x]
def ElsOf (H:Heap) (y:A) (f:T->List A) (l:List T):Prop:=els? H y=some (l.map f)
theorem els_imm (l:List T) (c:Bool) (H:Heap):ElsOf H (.imm (l.map f) c) f l:=rfl
theorem els_str (s:ByteArray) (H:Heap):ElsOf H (.v (.string s)) c8 s.data.toList:=rfl
theorem elsZ_of {P:Program} {H:Heap} {t2 by_:Nat} {z:List A} {y:A} (h:notInt P t2=true):elsZ P H t2 by_ z y=els? H y:=by unfold elsZ; rw[h]; rfl
theorem app_guard (hl:∀ x,(f x).length=es) (hc:CellF f) (h0:es≠0) (hb:by_≠0) {z:List A} (hz:z.length=es) (l2:List T) :
  (es==0 || by_==0 || !(z.length==es) || !((l2.map f).all fun cs=>cs.length==es&&cs.all A.cell))=false:=by
 rw[cells_all hl hc]
 simp[h0,hb,hz]
theorem app_imm {t2:Nat} {z:List A} (h1:elemT P t=some e) (h2:sizeT P e=some es) (h3:bytesT P e=some by_) (h4:zeroT P e=some z) (hz:z.length=es) (h0:es≠0) (hb:by_≠0) (hn:notInt P t2=true)
  (hl:∀ x,(f x).length=es) (hc:CellF f) {H:Heap} {lo:Nat} {l l2:List T} {y:A} (hy:ElsOf H y f l2) :
  aAppend P t t2 false (.imm (l.map f) true) y H lo=(appI by_ l l2).map fun r=>(.sl H.length 0 r.length false,H++[.row false es (r.map f)]):=by
 unfold aAppend
 rw[h1,Option.bind_some,h2,Option.bind_some,h3,Option.bind_some,h4,Option.bind_some,elsZ_of hn,show els? H y=_ from hy,Option.bind_some,app_guard hl hc h0 hb hz,cond_false]
 simp only[List.length_map,Bool.false_and,cond_false,cells_all hl hc,cond_true,appI]
 cases decide ((l.length+l2.length)*by_<=limit)<;>simp
theorem app_row {t2:Nat} {z:List A} (h1:elemT P t=some e) (h2:sizeT P e=some es) (h3:bytesT P e=some by_) (h4:zeroT P e=some z) (hz:z.length=es) (h0:es≠0) (hb:by_≠0) (hn:notInt P t2=true)
  (hl:∀ x,(f x).length=es) (hc:CellF f) {wr:Bool} {H:Heap} {lo b:Nat} {l l2:List T} {y:A} (hH:H[b]? = some (.row false es (l.map f))) (hlo:lo<=b) (hy:ElsOf H y f l2) :
  aAppend P t t2 wr (.sl b 0 l.length false) y H lo=(appI by_ l l2).map fun r=>(.sl b 0 r.length false,H.set b (.row false es (r.map f))):=by
 unfold aAppend
 rw[h1,Option.bind_some,h2,Option.bind_some,h3,Option.bind_some,h4,Option.bind_some,elsZ_of hn,show els? H y=_ from hy,Option.bind_some,app_guard hl hc h0 hb hz,cond_false]
 simp only[hH,List.length_map,appI]
 cases hd:decide ((l.length+l2.length)*by_<=limit)<;>simp[hlo]
theorem oIdx_some {d:Nat} {k:IntKind} {n:Int}:oIdx d (some (.v (.int k n)))=bif decide (0<=n) then some n.toNat else none:=rfl
theorem cut_imm (h1:P.underlying t=some (.slice e)) (h2:sizeT P e=some es) (hl:∀ x,(f x).length=es) {H:Heap} {l:List T} {lo hi:Option A} {a b:Int} (ha:(lo=none/\a=0)∨∃ k,lo=some (.v (.int k a))) (hb:(hi=none/\b=l.length)∨∃ k,hi=some (.v (.int k b))) :
  aSlice P t (.imm (l.map f) false) lo hi none H=(subI l a b).map fun r=>.imm (r.map f) false:=by
 unfold aSlice
 rw[h1]
 simp only[h2,Option.bind_some,List.length_map,Bool.false_and]
 have e1:oIdx l.length hi=bif decide (0<=b) then some b.toNat else none:=by
  rcases hb with ⟨rfl,rfl⟩ | ⟨k,rfl⟩
  ·simp[oIdx]
  ·rfl
 have e2:oIdx 0 lo=bif decide (0<=a) then some a.toNat else none:=by
  rcases ha with ⟨rfl,rfl⟩ | ⟨k,rfl⟩
  ·simp[oIdx]
  ·rfl
 have e3:∀ i:Nat,(i==0 || match (l.map f)[i]? with | some cs=>cs.length==es | none=>true)=true:=fun i=>by
  rw[List.getElem?_map]
  cases l[i]?<;>simp[hl]
 rw[e1,e2]
 unfold subI
 by_cases hb0:0<=b
 ·by_cases ha0:0<=a
  ·have q1:(decide (a.toNat<=b.toNat))=decide (a<=b):=by rw[decide_eq_decide]; omega
   have q2:(decide (b.toNat<=l.length))=decide (b<=(l.length:Int)):=by rw[decide_eq_decide]; omega
   simp only[hb0,ha0,decide_true,cond_true,Option.bind_some,Bool.true_and,q1,q2,List.map_take,List.map_drop]
   have e4:=e3 a.toNat
   rw[List.getElem?_map] at e4 ⊢
   cases hx:l[a.toNat]?<;>rw[hx] at e4<;>cases (decide (a<=b)&&decide (b<=(l.length:Int)))<;>simp[hl]
  ·simp[hb0,ha0]
 ·have:(decide (0<=a)&&decide (a<=b)&&decide (b<=(l.length:Int)))=false:=by
   rw[Bool.eq_false_iff]; intro hh; simp only[Bool.and_eq_true,decide_eq_true_eq] at hh; omega
  simp[hb0,this]
theorem cut_imm3 (h1:P.underlying t=some (.slice e)) (h2:sizeT P e=some es) (hl:∀ x,(f x).length=es) {H:Heap} {l:List T} {lo:Option A} {a b:Int} {k1 k2:IntKind} {c:Bool} (ha:(lo=none/\a=0)∨∃ k,lo=some (.v (.int k a))) :
  aSlice P t (.imm (l.map f) c) lo (some (.v (.int k1 b))) (some (.v (.int k2 b))) H=(subI l a b).map fun r=>.imm (r.map f) true:=by
 unfold aSlice
 rw[h1]
 simp only[h2,Option.bind_some,List.length_map,oIdx_some,idx]
 have e2:oIdx 0 lo=bif decide (0<=a) then some a.toNat else none:=by
  rcases ha with ⟨rfl,rfl⟩ | ⟨k,rfl⟩
  ·simp[oIdx]
  ·rfl
 have e3:∀ i:Nat,(i==0 || match (l.map f)[i]? with | some cs=>cs.length==es | none=>true)=true:=fun i=>by
  rw[List.getElem?_map]
  cases l[i]?<;>simp[hl]
 rw[e2]
 unfold subI
 by_cases hb0:0<=b
 ·by_cases ha0:0<=a
  ·have q1:(decide (a.toNat<=b.toNat))=decide (a<=b):=by rw[decide_eq_decide]; omega
   have q2:(decide (b.toNat<=l.length))=decide (b<=(l.length:Int)):=by rw[decide_eq_decide]; omega
   simp only[hb0,ha0,decide_true,cond_true,Option.bind_some,Bool.true_and,q1,q2,List.map_take,List.map_drop,beq_self_eq_true]
   rw[List.getElem?_map]
   cases hx:l[a.toNat]?<;>cases (decide (a<=b)&&decide (b<=(l.length:Int)))<;>simp[hl]
  ·simp[hb0,ha0]
 ·have:(decide (0<=a)&&decide (a<=b)&&decide (b<=(l.length:Int)))=false:=by
   rw[Bool.eq_false_iff]; intro hh; simp only[Bool.and_eq_true,decide_eq_true_eq] at hh; omega
  simp[hb0,this]
theorem snapG_row (hf:FlatS f) {H:Heap} {b n:Nat} {l:List T} (h:H[b]? = some (.row false es (l.map f))):snapG (n+1) H b 0 l.length=.imm (l.map f) false:=by
 unfold snapG
 rw[h]
 simp only[List.drop_zero]
 rw[List.take_of_length_le (by simp),snapWss_map hf]
theorem snapGE_row (hf:FlatS f) {H:Heap} {b n:Nat} {wr:Bool} {l:List T} (h:H[b]? = some (.row wr es (l.map f))):snapGE (n+1) H b 0 l.length=.imm (l.map f) false:=by
 unfold snapGE
 rw[h]
 simp only[List.drop_zero]
 rw[List.take_of_length_le (by simp),snapWss_map hf]
theorem row_idx {H:Heap} {b:Nat} {l:List T} {c:Bool} {k:IntKind} {i:Int} (h1:P.underlying t=some (.slice e)) (h2:sizeT P e=some es) (h:H[b]? = some (.row false es (l.map f))) :
  aIndexAddr P t (.sl b 0 l.length c) (.v (.int k i)) H=(getI l i).map fun x=>.ip (f x):=by
 unfold aIndexAddr idx getI
 rw[h1]
 by_cases hi:0<=i
 ·simp only[hi,decide_true,cond_true,Option.bind_some,refOK,h2,h,Nat.zero_add,beq_self_eq_true,List.getElem?_map,Option.map_map]
  by_cases hl:i.toNat<l.length
  ·simp[hl,Function.comp_def]
  ·simp[hl,Nat.not_lt.1 hl]
 ·simp only[hi,decide_false,cond_false,Option.bind_none,Option.map_none]
theorem row_len {H:Heap} {b o n:Nat} {B:Blk} {c:Bool} (h1:P.underlying t=some (.slice e)) (h:H[b]? = some B) (hB:refOK H (.sl b o n c)=true):aLen P t (.sl b o n c) H=some (.v (.int .i64 n)):=by
 unfold aLen
 rw[h1,hB]; rfl
end
def bstr (l:List UInt8):ByteArray:=⟨l.toArray⟩
def bstrL (s:ByteArray):List UInt8:=s.data.toList
theorem bytesOf_c8:∀ l:List UInt8,bytesOf (l.map c8)=some l
 | []=>rfl
 | a :: l=>by
  rw[List.map_cons]
  show (bytesOf (l.map c8)).map (((a.toNat:Int).toNat.toUInt8) :: ·)=_
  rw[bytesOf_c8 l]
  simp
theorem conv_bs {P:Program} {s d e:Nat} (h1:P.underlying s=some (.slice e)) (h2:P.underlying d=some .string) (h3:P.underlying e=some (.int .u8)) (h4:sizeT P e=some 1) {H:Heap} {x:A} {l:List UInt8} (hx:ElsOf H x c8 l) (hn:elsB H x=els? H x) :
  aConvert P s d x H=some (.v (.string (bstr l))):=by
 unfold aConvert
 rw[h1,h2]
 simp only[h3,h4,hn]
 rw[show els? H x=_ from hx,Option.bind_some,bytesOf_c8]
 rfl
def selF (y:Nat):A:=bif Nat.beq y 0 then .v .nilFunc else .fn (.func y) [] []
theorem under_selF (L e:Nat):A.under L (selF e)=true:=by unfold selF; cases Nat.beq e 0<;>rfl
theorem un0:(∀ (L e:Nat),A.under L (selF e)=true)/\(∀ {T:Type} {f:T->List A} (hf:FlatU f) (L:Nat) (l:List T),underss L (l.map f)=true)/\(∀ (L:Nat) (a b:List A),unders L (a++b)=(unders L a&&unders L b))/\(∀ k,FlatU (cI k))/\FlatU c8/\FlatU cB/\FlatU cS/\(∀ {T:Type} {f:T->List A} (hf:FlatU f),FlatU (cL f))/\(∀ b:Bool,(b&&true)=b)/\(∀ b:Bool,(true&&b)=b)/\(∀ {β:Type} (x y:β),(bif true then x else y)=x) :=
 ⟨under_selF,underss_map,unders_app,fu_cI,fu_c8,fu_cB,fu_cS,fu_cL,fun b=>Bool.and_true b,fun b=>Bool.true_and b,fun _ _=>rfl⟩
theorem J.ds {cx:Cx} {call:CallT} {e:Nat} (q:Nat) {args:List A} {H:Heap} {lo:Nat} {k pan:A->Heap->Option Go.Proofs.Ytdmgdjnadbakfaa.R} {kL:Go.Proofs.Ytdmgdjnadbakfaa.R->Option ρ} (h:decide (e=q)=true) (hq:Nat.beq q 0=false)
  (hk:J φ (dynCall cx call (.fn (.func q) [] []) args H lo k pan) kL R K):J φ (dynCall cx call (selF e) args H lo k pan) kL R K:=by
 rw[of_decide_eq_true h]
 unfold selF
 rw[hq]
 exact hk
abbrev iA (n:Int):A:=A.v (Value.int .i64 n)
abbrev uA (n:Int):A:=A.v (Value.int .u8 n)
abbrev bA (b:Bool):A:=A.v (Value.bool b)
theorem cut_J {β:Type} {cx:Cx} {k m n lo:Nat} {args:List A} {H5 X:Heap} {Y:Option β} {o:β->Out} {H':β->Heap} (hk:Nat.ble cx.P.funcs.size k=false) (hm:cx.cut k=m) (hm0:Nat.beq m 0=false) (hl:H5.length=m) (ha:unders m args=true) (hh:H5.all (Blk.under m)=true)
  (hl':∀ y,(H' y).length=m) (hv:∀ y,outUnder m (o y)=true) (hh':∀ y,(H' y).all (Blk.under m)=true) (h:J (fun (r:Out×Heap) y=>∃ Z,r=(o y,H' y++Z)) (evCall1 cx (evCall cx n) (evCallY cx n) n k args H5 lo) some Y some) :
  J (fun (r:Out×Heap) y=>r=(o y,H' y++X)) (evCall cx (n+1) k args (H5++X) lo) some Y some:=by
 intro r hr
 obtain ⟨s,h1,Z,rfl⟩:=h r hr
 refine⟨_,?_,rfl⟩
 have h2:evCall1 cx (evCallY cx n noY) (evCallY cx n) n k args H5 lo=some (o r,H' r++Z):=by
  rw[Option.bind_fun_some] at h1
  exact h1
 have hc:cutHere cx k (H5++X)=true:=by
  unfold cutHere
  rw[hm,hm0,Nat.ble_eq_true_of_le (by rw[List.length_append]; omega)]
  rfl
 have hc2:cutAt cx k (H5++X)=m:=by
  unfold cutAt
  rw[hm,Nat.ble_eq_true_of_le (by rw[List.length_append]; omega)]
  rfl
 have t1:(H5++X).take m=H5:=by rw[<-hl,List.take_left]
 have t2:(H5++X).drop m=X:=by rw[<-hl,List.drop_left]
 have t3:(H' r++Z).take m=H' r:=by rw[<-hl' r,List.take_left]
 have t4:Nat.ble m (H' r++Z).length=true:=Nat.ble_eq_true_of_le (by rw[List.length_append,hl']; omega)
 unfold evCall
 rw[evCallY,hk,hc]
 simp only[cond_true,cond_false]
 unfold cutCall
 rw[hc2,t1,t2,ha,hh]
 show ((bif true&&true then (evCall1 cx (evCallY cx n noY) (evCallY cx n) n k args H5 lo).bind _ else none).bind some)=_
 rw[h2]
 simp only[Bool.and_self,cond_true,Option.bind_some,t4,t3,hh',hv]
def tidyK {β:Type} (m:Nat) (r:Go.Proofs.Ytdmgdjnadbakfaa.R) (k:Go.Proofs.Ytdmgdjnadbakfaa.R->Option β):Option β:=bif Nat.ble m r.2.length&&(r.2.take m).all (Blk.under m)&&outUnder m r.1 then k (r.1,r.2.take m) else none
theorem J.td {m:Nat} {x:Option Go.Proofs.Ytdmgdjnadbakfaa.R} {k:Go.Proofs.Ytdmgdjnadbakfaa.R->Option σ} (h:J φ x (fun r=>(tidyK m r k).bind kL) R K):J φ ((x.bind fun r=>tidyK m r some).bind k) kL R K:=by
 refine J.lp ?_ (J.bb h)
 cases x with
 | none=>rfl
 | some r =>
  show (tidyK m r some).bind k=tidyK m r k
  unfold tidyK
  cases Nat.ble m r.2.length&&(r.2.take m).all (Blk.under m)&&outUnder m r.1<;>rfl
theorem J.ctY {m k n lo:Nat} {cx:Cx} {base:CallT} {args:List A} {H:Heap} {x:Option Go.Proofs.Ytdmgdjnadbakfaa.R} {k':Go.Proofs.Ytdmgdjnadbakfaa.R->Option σ} (h:evCallY cx (n+1) base k args H lo=x.bind fun r=>tidyK m r some) (hk:J φ x (fun r=>(tidyK m r k').bind kL) R K):J φ ((evCallY cx (n+1) base k args H lo).bind k') kL R K:=J.lp (congrArg (fun z=>Option.bind z k') h) (J.td hk)
theorem J.ct {m k n lo:Nat} {cx:Cx} {args:List A} {H:Heap} {x:Option Go.Proofs.Ytdmgdjnadbakfaa.R} {k':Go.Proofs.Ytdmgdjnadbakfaa.R->Option σ} (h:evCallY cx (n+1) noY k args H lo=x.bind fun r=>tidyK m r some) (hk:J φ x (fun r=>(tidyK m r k').bind kL) R K):J φ ((evCall cx (n+1) k args H lo).bind k') kL R K:=J.ctY h hk
theorem set_app {α:Type} (x:α):∀ (a l:List α) (b:Nat),a.length<=b->(a++l).set b x=a++l.set (b - a.length) x
 | [],l,b,_=>rfl
 | y :: a,l,0,h=>by simp at h
 | y :: a,l,b+1,h=>by
  rw[List.cons_append,List.set_cons_succ,set_app x a l b (by simpa using h),List.length_cons,Nat.add_sub_add_right,List.cons_append]
theorem actC_low {o:Out} {lo off b p:Nat} {H2 X:Heap} (h:H2.length<=b):∃ Z,(o,actC lo off 0 (.ptr b p) (H2++X))=(o,H2++Z):=by
 have key:∃ Z,actC lo off 0 (.ptr b p) (H2++X)=H2++Z:=by
  unfold actC
  simp only[]
  split
  ·split
   ·cases decide (lo<=b) with
    | false=>exact⟨X,rfl⟩
    | true=>exact⟨_,set_app _ _ _ _ h⟩
   ·exact⟨X,rfl⟩
  ·exact⟨X,rfl⟩
 obtain ⟨Z,hZ⟩:=key
 exact⟨Z,by rw[hZ]⟩
theorem actC_row {T:Type} {f:T->List A} (hf:FlatS f) {H:Heap} {lo off b o b' es:Nat} {l:List T} {cs:List A} {c:Bool} (h1:H[b]? = some (.box cs)) (h2:cs[o+off]? = some (.sl b' 0 l.length c)) (h3:H[b']? = some (.row false es (l.map f))) (h4:lo<=b) :
  actC lo off 0 (.ptr b o) H=H.set b (.box (cs.set (o+off) (.imm (l.map f) false))):=by
 unfold actC
 simp only[h1,h2,decide_eq_true h4,cond_true]
 rw[show frz H (.sl b' 0 l.length c)=.imm (l.map f) false from snapG_row (n:=3) hf h3]
end Go.Proofs.Ytdmgdjnadbakfaa
