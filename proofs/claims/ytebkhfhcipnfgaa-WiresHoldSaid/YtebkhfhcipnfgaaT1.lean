/-
 The program's functions as plain functions: by a tool; each follows the interpreter.
-/
import Derived.Test.YtebkhfhcipnfgaaE
namespace Go.Proofs.Ytebkhfhcipnfgaa
open Go.Proofs.Try (prog)
set_option linter.unusedVariables false
set_option linter.unusedSimpArgs false
set_option maxHeartbeats 4000000
set_option maxRecDepth 100000
set_option linter.defProp false
theorem s5 {p:Prop} (h:p:=by simp only[eo,er]):p:=h
theorem u3 {p:Prop} (h:p:=by simp only[dQ,og,bR]; first | done | rfl):p:=h
theorem x6 {p:Prop} (h:p:=by simp only[uB,eo,er,Nat.reduceLT,decide_true]):p:=h
theorem y6 {p:Prop} (h:p:=by simp only[List.map_cons,List.map_nil,cD]):p:=h
theorem H8 {p:Prop} (h:p:=by simp only[uB,eo,er,Nat.reduceLT,decide_true,aH]):p:=h
variable (C:Nat->List A->Option A) (n:Nat) {ρ γ:Type} {φ:ρ->γ->Prop} {kL:R->Option ρ} (kx kg:Nat->St->Option R) (kr:St->Option R) (kp:A->St->Option R)
abbrev OT:=Nat->List A->Option A
abbrev jv:=ByteArray.empty
abbrev sA (s:ByteArray):A:=.v (.string s)
abbrev se:A:=sA jv
abbrev im:=A.imm
abbrev N3:A:=im [] true
abbrev ag:=A.agg
abbrev pt:=A.ptr
abbrev tp:=A.tup
abbrev bL:=A.sl
abbrev bx:=aw.box
abbrev rK (k:Nat) (a b:List A):A:=A.fn (Fn.func k) a b
abbrev NV:aw:=aw.box [(A.imm [] true),(A.imm [] true),(iA 0),(bA false)]
abbrev NU:aw:=aw.box [(A.imm [] true),(iA 0),(iA 0)]
noncomputable abbrev ec (C:Nat->List A->Option A) (n k:Nat):=di (cx C) (n+k)
noncomputable abbrev ey (C:Nat->List A->Option A) (n k:Nat):=aX (cx C) (n+k)
structure af where
 Kind:Int
 N:Int
 S:ByteArray
 L:(List af)
 deriving Inhabited
mutual
def cE:af->A
 | .mk _ _ _ l=>.imm (bI l) false
def bI:List af->List (List A)
 | []=>[]
 | x :: r=>[(iA x.Kind),(iA x.N),(sA x.S),cE x] :: bI r
end
def ak (x:af):List A:=[(iA x.Kind),(iA x.N),(sA x.S),cE x]
theorem qR:∀ (l:List af),bI l=l.map ak
 | []=>by rw[bI]; rfl
 | x :: r=>by rw[bI,qR r]; rfl
theorem xf (x:af):cE x=.imm (x.L.map ak) false:=by
 cases x; rw[cE,qR]
abbrev ae (x:af):List A:=[(iA x.Kind),(iA x.N),(sA x.S),.imm (x.L.map ak) false]
theorem cD (x:af):ak x=[(iA x.Kind),(iA x.N),(sA x.S),.imm (x.L.map ak) false]:=by
 show [(iA x.Kind),(iA x.N),(sA x.S),cE x]=_
 rw[xf]
theorem gu (o:Option af):(o.map fun x=>A.ip (ak x))=o.map fun x=>A.ip [(iA x.Kind),(iA x.N),(sA x.S),.imm (x.L.map ak) false]:=by
 cases o with
 | none=>rfl
 | some x=>exact Po (fun z=>some (A.ip z)) (cD x)
theorem wR:kO ak:=fun x=>by rw[cD]; rfl
mutual
theorem rv (L:Nat):∀ (x:af),A.under L (cE x)=true
 | .mk _ _ _ l=>by rw[cE,A.under]; exact rA L l
theorem rA (L:Nat):∀ (l:List af),ax L (bI l)=true
 | []=>by rw[bI]; rfl
 | x :: r=>by rw[bI,ax,rA L r]; simp only[aN,A.under,rv L x,Pw,Qc]
end
mutual
theorem re (g:Nat->Nat->Nat->A):∀ (x:af),bQ g (cE x)=cE x
 | .mk _ _ _ l=>by rw[cE,bQ,rr g l]
theorem rr (g:Nat->Nat->Nat->A):∀ (l:List af),cw g (bI l)=bI l
 | []=>by rw[bI]; rfl
 | x :: r=>by rw[bI,cw,rr g r]; simp only[aM,bQ,re g x]
end
theorem de:cR ak:=fun L x=>by unfold ak; simp only[aN,A.under,rv L x,Pw,Qc]
theorem cg:bK ak:=fun g x=>by unfold ak; simp only[aM,bQ,re g x]
mutual
theorem qH:∀ (x y:af),cE x=cE y->x.L=y.L
 | .mk xKind xN xS l,.mk yKind yN yS l'=>fun h=>by
  rw[cE,cE,A.imm.injEq] at h
  exact qN l l' h.1
theorem qN:∀ (l l':List af),bI l=bI l'->l=l'
 | [],[]=>fun _=>rfl
 | [],y :: r=>fun h=>by rw[bI,bI] at h; cases h
 | x :: r,[]=>fun h=>by rw[bI,bI] at h; cases h
 | x :: r,y :: r'=>fun h=>by
  rw[bI,bI,O2] at h
  have h2:=qN r r' h.2
  have h1:=h.1
  simp only[O2,A.v.injEq,PC,PG,Pv,Qr,Qh] at h1
  have h3:=qH x y (by simp[h1])
  rw[h2]
  congr 1
  obtain ⟨xKind,xN,xS,lx⟩:=x; obtain ⟨yKind,yN,yS,ly⟩:=y
  simp_all
end
theorem gI {T:Type} {f:T->List A} {H:ar} {l:List T} {rows:List (List A)} {c:Bool} (h:l.map f=rows):nk H (.imm rows c) f l:=by
 rw[<-h]; exact bN ..
structure av where
 From:Int
 To:Int
 Data:(List UInt8)
 deriving DecidableEq,Inhabited
def ah (x:av):List A:=[(iA x.From),(iA x.To),(im (List.map c8 x.Data) false)]
theorem uY:kO ah:=fun _=>rfl
theorem cX:cR ah:=fun _ _=>by simp only[ah,aN,A.under,cM,lB,lz,lA,lD,lC,Pw,ON,de]
theorem cp:bK ah:=fun _ _=>by simp only[ah,bQ,aM,bZ,eZ,gX,lh,lj,kJ,cg]
def ai (x:(Int×Int)):List A:=[(iA x.1),(iA x.2)]
theorem cA:cR ai:=fun _ _=>by simp only[ai,aN,A.under,cM,lB,lz,lA,lD,lC,Pw,ON,de,cX]
theorem cz:bK ai:=fun _ _=>by simp only[ai,bQ,aM,bZ,eZ,gX,lh,lj,kJ,cg,cp]
theorem rL (g:Nat->Nat->Nat->A) (x:(Int×Int)):aM g (ai x)=ai x:=cz g x
theorem qF (L:Nat) (x:(Int×Int)):aN L (ai x)=true:=cA L x
structure bq where
 Queue:(List av)
 Apart:(List (Int×Int))
 deriving DecidableEq,Inhabited
def bW (x:bq):List A:=[(im (List.map ah x.Queue) false),(im (List.map ai x.Apart) false)]
theorem fS:cR bW:=fun _ _=>by simp only[bW,aN,A.under,cM,lB,lz,lA,lD,lC,Pw,ON,de,cX,cA]
theorem fQ:bK bW:=fun _ _=>by simp only[bW,bQ,aM,bZ,eZ,gX,lh,lj,kJ,cg,cp,cz]
structure bM where
 No:Int
 Role:Int
 Bar:Int
 Program:Int
 deriving DecidableEq,Inhabited
def aD (x:bM):List A:=[(iA x.No),(iA x.Role),(iA x.Bar),(iA x.Program)]
theorem gY:cR aD:=fun _ _=>by simp only[aD,aN,A.under,cM,lB,lz,lA,lD,lC,Pw,ON,de,cX,cA,fS]
theorem gV:bK aD:=fun _ _=>by simp only[aD,bQ,aM,bZ,eZ,gX,lh,lj,kJ,cg,cp,cz,fQ]
structure aG where
 Cues:(List bM)
 Got:(List Int)
 Did:(List Int)
 deriving DecidableEq,Inhabited
def aj (x:aG):List A:=[(im (List.map aD x.Cues) false),(im (List.map (cI .i64) x.Got) false),(im (List.map (cI .i64) x.Did) false)]
theorem AF:kO aj:=fun _=>rfl
theorem iW:cR aj:=fun _ _=>by simp only[aj,aN,A.under,cM,lB,lz,lA,lD,lC,Pw,ON,de,cX,cA,fS,gY]
theorem du:bK aj:=fun _ _=>by simp only[aj,bQ,aM,bZ,eZ,gX,lh,lj,kJ,cg,cp,cz,fQ,gV]
structure al where
 Net:bq
 Ears:(List aG)
 Bar:Int
 deriving DecidableEq,Inhabited
def aa (x:al):List A:=[(im (List.map ah x.Net.Queue) false),(im (List.map ai x.Net.Apart) false),(im (List.map aj x.Ears) false),(iA x.Bar)]
theorem gy:cR aa:=fun _ _=>by simp only[aa,aN,A.under,cM,lB,lz,lA,lD,lC,Pw,ON,de,cX,cA,fS,gY,iW]
theorem fp:bK aa:=fun _ _=>by simp only[aa,bQ,aM,bZ,eZ,gX,lh,lj,kJ,cg,cp,cz,fQ,gV,du]
structure ba where
 Role:Int
 Bar:Int
 Program:Int
 deriving DecidableEq,Inhabited
def au (x:ba):List A:=[(iA x.Role),(iA x.Bar),(iA x.Program)]
theorem gZ:cR au:=fun _ _=>by simp only[au,aN,A.under,cM,lB,lz,lA,lD,lC,Pw,ON,de,cX,cA,fS,gY,iW,gy]
theorem gW:bK au:=fun _ _=>by simp only[au,bQ,aM,bZ,eZ,gX,lh,lj,kJ,cg,cp,cz,fQ,gV,du,fp]
structure aC where
 kind:Int
 cue:bM
 report:ba
 deriving DecidableEq,Inhabited
def aq (x:aC):List A:=[(iA x.kind),(iA x.cue.No),(iA x.cue.Role),(iA x.cue.Bar),(iA x.cue.Program),(iA x.report.Role),(iA x.report.Bar),(iA x.report.Program)]
theorem ek:cR aq:=fun _ _=>by simp only[aq,aN,A.under,cM,lB,lz,lA,lD,lC,Pw,ON,de,cX,cA,fS,gY,iW,gy,gZ]
theorem ei:bK aq:=fun _ _=>by simp only[aq,bQ,aM,bZ,eZ,gX,lh,lj,kJ,cg,cp,cz,fQ,gV,du,fp,gW]
structure dR where
 rest:(List UInt8)
 deriving DecidableEq,Inhabited
def aL (x:dR):List A:=[(im (List.map c8 x.rest) false)]
theorem fT:cR aL:=fun _ _=>by simp only[aL,aN,A.under,cM,lB,lz,lA,lD,lC,Pw,ON,de,cX,cA,fS,gY,iW,gy,gZ,ek]
theorem fR:bK aL:=fun _ _=>by simp only[aL,bQ,aM,bZ,eZ,gX,lh,lj,kJ,cg,cp,cz,fQ,gV,du,fp,gW,ei]
def bP (x:(Bool×Bool×Bool×Bool)):List A:=[(bA x.1),(bA x.2.1),(bA x.2.2.1),(bA x.2.2.2)]
theorem qE:cR bP:=fun _ _=>by simp only[bP,aN,A.under,cM,lB,lz,lA,lD,lC,Pw,ON,de,cX,cA,fS,gY,iW,gy,gZ,ek,fT]
theorem qy:bK bP:=fun _ _=>by simp only[bP,bQ,aM,bZ,eZ,gX,lh,lj,kJ,cg,cp,cz,fQ,gV,du,fp,gW,ei,fR]
theorem w6 (g:Nat->Nat->Nat->A) (x:(Bool×Bool×Bool×Bool)):aM g (bP x)=bP x:=qy g x
theorem vw (L:Nat) (x:(Bool×Bool×Bool×Bool)):aN L (bP x)=true:=qE L x
theorem w7 (g:Nat->Nat->Nat->A) (x:af):aM g (ak x)=ak x:=cg g x
theorem vx (L:Nat) (x:af):aN L (ak x)=true:=de L x
theorem vp (g:Nat->Nat->Nat->A) (x:av):aM g (ah x)=ah x:=cp g x
theorem tQ (L:Nat) (x:av):aN L (ah x)=true:=cX L x
theorem AV (g:Nat->Nat->Nat->A) (x:bq):aM g (bW x)=bW x:=fQ g x
theorem zs (L:Nat) (x:bq):aN L (bW x)=true:=fS L x
theorem AS (g:Nat->Nat->Nat->A) (x:bM):aM g (aD x)=aD x:=gV g x
theorem zq (L:Nat) (x:bM):aN L (aD x)=true:=gY L x
theorem AU (g:Nat->Nat->Nat->A) (x:aG):aM g (aj x)=aj x:=du g x
theorem zr (L:Nat) (x:aG):aN L (aj x)=true:=iW L x
theorem w8 (g:Nat->Nat->Nat->A) (x:al):aM g (aa x)=aa x:=fp g x
theorem vy (L:Nat) (x:al):aN L (aa x)=true:=gy L x
theorem vq (g:Nat->Nat->Nat->A) (x:ba):aM g (au x)=au x:=gW g x
theorem tR (L:Nat) (x:ba):aN L (au x)=true:=gZ L x
theorem mW (g:Nat->Nat->Nat->A) (x:aC):aM g (aq x)=aq x:=ei g x
theorem mo (L:Nat) (x:aC):aN L (aq x)=true:=ek L x
theorem nR (g:Nat->Nat->Nat->A) (x:dR):aM g (aL x)=aL x:=fR g x
theorem mY (L:Nat) (x:dR):aN L (aL x)=true:=fT L x
theorem ew:uz prog 105 105 107 4 56 [(iA 0),(iA 0),se,N3] ak:=⟨r8,r8,r8,r8,rfl,by decide,by decide,r8,fun _=>rfl,wR⟩
theorem da:uz prog 46 46 5 1 1 [(uA 0)] c8:=⟨r8,r8,r8,r8,rfl,by decide,by decide,r8,fun _=>rfl,D5⟩
theorem wN:uz prog 46 9 5 1 1 [(uA 0)] c8:=⟨r8,r8,r8,r8,rfl,by decide,by decide,r8,fun _=>rfl,D5⟩
theorem Cm:uz prog 22 22 48 3 40 [(iA 0),(iA 0),N3] ah:=⟨r8,r8,r8,r8,rfl,by decide,by decide,r8,fun _=>rfl,uY⟩
theorem pN:uz prog 50 50 3 1 8 [(iA 0)] (cI .i64):=⟨r8,r8,r8,r8,rfl,by decide,by decide,r8,fun _=>rfl,(D6 _)⟩
theorem xV:uz prog 26 26 55 3 72 [N3,N3,N3] aj:=⟨r8,r8,r8,r8,rfl,by decide,by decide,r8,fun _=>rfl,AF⟩
abbrev TJ {T:Type} (C:OT) (n k:Nat) (args:List A) (X:Option T) (f:T->A):Prop:=J (fun (o:R) y=>∃ v,o.1=.ret v/\bR o.2 v=f y) (aJ (cx C) (ec C n 8) (ey C n 8) (n+8) k args [] 0) some X some
theorem nI {P:Nat->Prop} (h0:P 0) (hs:∀ m,P m->P (m+1)) (m:Nat):P m:=by
 induction m with
 | zero=>exact h0
 | succ m ih=>exact hs m ih
section
variable {ρ γ σ α τ:Type} {φ:ρ->γ->Prop} {kL:σ->Option ρ} {K:α->Option γ} {R:Option α} {k:τ->Option σ}
theorem J.Ld {X:Option (List A)} {F:A->A->A->A->A->A->A->A->A->A->A->A->A->Option τ} (h:J φ (((X).bind fun l=>bO l fun a l=>bO l fun b l=>bO l fun c l=>bO l fun d l=>bO l fun e l=>bO l fun f l=>bO l fun g l=>bO l fun h l=>bO l fun i l=>bO l fun j l=>bO l fun m l=>bO l fun n l=>bO l fun o l=>F a b c d e f g h i j m n o).bind k) kL R K):J φ ((X).bind fun l=>bO l fun a l=>bO l fun b l=>bO l fun c l=>bO l fun d l=>bO l fun e l=>bO l fun f l=>bO l fun g l=>bO l fun h l=>bO l fun i l=>bO l fun j l=>bO l fun m l=>bO l fun n l=>bO l fun o l=>(F a b c d e f g h i j m n o).bind k) kL R K:=by simpa only [O1,lX] using h
theorem J.NL {X:Option (List A)} {F:A->A->Option τ} (h:J φ (((X).bind fun l=>bO l fun a l=>bO l fun b l=>F a b).bind k) kL R K):J φ ((X).bind fun l=>bO l fun a l=>bO l fun b l=>(F a b).bind k) kL R K:=by simpa only [O1,lX] using h
theorem J.NM {X:Option (List A)} {F:A->A->A->A->A->A->Option τ} (h:J φ (((X).bind fun l=>bO l fun a l=>bO l fun b l=>bO l fun c l=>bO l fun d l=>bO l fun e l=>bO l fun f l=>F a b c d e f).bind k) kL R K):J φ ((X).bind fun l=>bO l fun a l=>bO l fun b l=>bO l fun c l=>bO l fun d l=>bO l fun e l=>bO l fun f l=>(F a b c d e f).bind k) kL R K:=by simpa only [O1,lX] using h
theorem J.Lc {X:Option (List A)} {F:A->A->A->A->A->A->A->A->A->A->Option τ} (h:J φ (((X).bind fun l=>bO l fun a l=>bO l fun b l=>bO l fun c l=>bO l fun d l=>bO l fun e l=>bO l fun f l=>bO l fun g l=>bO l fun h l=>bO l fun i l=>bO l fun j l=>F a b c d e f g h i j).bind k) kL R K):J φ ((X).bind fun l=>bO l fun a l=>bO l fun b l=>bO l fun c l=>bO l fun d l=>bO l fun e l=>bO l fun f l=>bO l fun g l=>bO l fun h l=>bO l fun i l=>bO l fun j l=>(F a b c d e f g h i j).bind k) kL R K:=by simpa only [O1,lX] using h
theorem J.FI {X:Option (List A)} {Y:A->A->A->A->A->A->A->A->A->A->A->A->Option (List A)} {F:A->A->A->A->A->A->A->A->A->A->A->A->A->A->A->Option τ} (h:J φ (((X).bind fun l=>bO l fun a l=>bO l fun b l=>bO l fun c l=>bO l fun d l=>bO l fun e l=>bO l fun f l=>bO l fun g l=>bO l fun h l=>bO l fun i l=>bO l fun j l=>bO l fun m l=>bO l fun n l=>(Y a b c d e f g h i j m n).bind fun l=>bO l fun o l=>bO l fun p l=>bO l fun q l=>F a b c d e f g h i j m n o p q).bind k) kL R K):J φ ((X).bind fun l=>bO l fun a l=>bO l fun b l=>bO l fun c l=>bO l fun d l=>bO l fun e l=>bO l fun f l=>bO l fun g l=>bO l fun h l=>bO l fun i l=>bO l fun j l=>bO l fun m l=>bO l fun n l=>(Y a b c d e f g h i j m n).bind fun l=>bO l fun o l=>bO l fun p l=>bO l fun q l=>(F a b c d e f g h i j m n o p q).bind k) kL R K:=by simpa only [O1,lX] using h
end
theorem og:bK ak/\bK ah/\bK ai/\bK bW/\bK aD/\bK aj/\bK aa/\bK au/\bK aq/\bK aL/\bK bP/\(∀ (g:Nat->Nat->Nat->A) (x:af),aM g (ak x)=ak x)/\(∀ (g:Nat->Nat->Nat->A) (x:av),aM g (ah x)=ah x)/\(∀ (g:Nat->Nat->Nat->A) (x:(Int×Int)),aM g (ai x)=ai x)/\(∀ (g:Nat->Nat->Nat->A) (x:bq),aM g (bW x)=bW x)/\(∀ (g:Nat->Nat->Nat->A) (x:bM),aM g (aD x)=aD x)/\(∀ (g:Nat->Nat->Nat->A) (x:aG),aM g (aj x)=aj x)/\(∀ (g:Nat->Nat->Nat->A) (x:al),aM g (aa x)=aa x)/\(∀ (g:Nat->Nat->Nat->A) (x:ba),aM g (au x)=au x)/\(∀ (g:Nat->Nat->Nat->A) (x:aC),aM g (aq x)=aq x)/\(∀ (g:Nat->Nat->Nat->A) (x:dR),aM g (aL x)=aL x)/\(∀ (g:Nat->Nat->Nat->A) (x:(Bool×Bool×Bool×Bool)),aM g (bP x)=bP x)/\True:=⟨cg,cp,cz,fQ,gV,du,fp,gW,ei,fR,qy,w7,vp,rL,AV,AS,AU,w8,vq,mW,nR,w6,trivial⟩
theorem gb:(bK ak/\bK ah/\bK ai/\bK bW/\bK aD/\bK aj/\bK aa/\bK au/\bK aq/\bK aL/\bK bP/\(∀ (g:Nat->Nat->Nat->A) (x:af),aM g (ak x)=ak x)/\(∀ (g:Nat->Nat->Nat->A) (x:av),aM g (ah x)=ah x)/\(∀ (g:Nat->Nat->Nat->A) (x:(Int×Int)),aM g (ai x)=ai x)/\(∀ (g:Nat->Nat->Nat->A) (x:bq),aM g (bW x)=bW x)/\(∀ (g:Nat->Nat->Nat->A) (x:bM),aM g (aD x)=aD x)/\(∀ (g:Nat->Nat->Nat->A) (x:aG),aM g (aj x)=aj x)/\(∀ (g:Nat->Nat->Nat->A) (x:al),aM g (aa x)=aa x)/\(∀ (g:Nat->Nat->Nat->A) (x:ba),aM g (au x)=au x)/\(∀ (g:Nat->Nat->Nat->A) (x:aC),aM g (aq x)=aq x)/\(∀ (g:Nat->Nat->Nat->A) (x:dR),aM g (aL x)=aL x)/\(∀ (g:Nat->Nat->Nat->A) (x:(Bool×Bool×Bool×Bool)),aM g (bP x)=bP x)/\True)/\(∀ {T U:Type} (f:T->U) (a:T) (l:List T),(a :: l).map f=f a :: l.map f)/\(∀ {T U:Type} (f:T->U),[].map f=[]):=⟨og,fun _ _ _=>rfl,fun _=>rfl⟩
theorem er:cR ak/\cR ah/\cR ai/\cR bW/\cR aD/\cR aj/\cR aa/\cR au/\cR aq/\cR aL/\cR bP/\(∀ (L:Nat) (x:af),aN L (ak x)=true)/\(∀ (L:Nat) (x:av),aN L (ah x)=true)/\(∀ (L:Nat) (x:(Int×Int)),aN L (ai x)=true)/\(∀ (L:Nat) (x:bq),aN L (bW x)=true)/\(∀ (L:Nat) (x:bM),aN L (aD x)=true)/\(∀ (L:Nat) (x:aG),aN L (aj x)=true)/\(∀ (L:Nat) (x:al),aN L (aa x)=true)/\(∀ (L:Nat) (x:ba),aN L (au x)=true)/\(∀ (L:Nat) (x:aC),aN L (aq x)=true)/\(∀ (L:Nat) (x:dR),aN L (aL x)=true)/\(∀ (L:Nat) (x:(Bool×Bool×Bool×Bool)),aN L (bP x)=true)/\True:=⟨de,cX,cA,fS,gY,iW,gy,gZ,ek,fT,qE,vx,tQ,qF,zs,zq,zr,vy,tR,mo,mY,vw,trivial⟩
def BX {X Y:Type} [DecidableEq X]:List (X×Y)->X->Option Y
 | [],_=>none
 | e :: t,z=>if e.1=z then some e.2 else BX t z
theorem ru {X Y:Type} [DecidableEq X]:∀ {t:List (X×Y)} {z:X} {y:Y},BX t z=some y->(z,y)∈t
 | [],_,_,h=>by cases h
 | e :: t,z,y,h=>by
  unfold BX at h
  split at h
  ·rename_i he
   cases h; subst he
   exact PO ..
  ·exact PF _ (ru h)
noncomputable def JN (C:OT) (N:Nat) (k:Nat) (args:List A):Option A:=match di (cx C) N k args [] 0 with
 | some (.ret x,H)=>some (bR H x)
 | _=>none
noncomputable def Cn:Nat->Nat->List A->Option A
 | 0=>fun _ _=>none
 | m+1=>JN (Cn m) 1000
def Ix (n:Nat) (a:Int) (b:Int) (a2:Int):Option Bool:=
 (bif (decide (b<=a)) then (some (decide (a<=a2))) else (some false)).bind fun c=>some c
theorem Mx (C:OT) (n:Nat) (a:Int) (b:Int) (a2:Int):TJ C n 30 [(iA a),(iA b),(iA a2)] (Ix n a b a2) (fun y=>(bA y)):=by
 refine .lp (M1 ..) ?_
 unfold Ix
 refine .st (eH ..) (.bg (fun t (y:Bool)=>∃ c d e:A,t=[(bA y),c,d,e]) ?_ ?_)
 ·refine .bi ?_ ?_
  ·exact .st (eH ..) (.lg ⟨_,_,_,rfl⟩)
  exact .lg ⟨_,_,_,rfl⟩
 rintro _ f ⟨c,d,e,rfl⟩
 exact .u4 (.lv rfl)
def wz (a:Int) (b:Int) (a2:Int):Option Bool:=Ix aE a b a2
def my (C:OT):Prop:=∀ (a:Int) (b:Int) (a2:Int),C 30 [(iA a),(iA b),(iA a2)]=(wz a b a2).map fun y=>(bA y)
def Jy (n:Nat)  : Option bq:=
 some ((bq.mk ([]) ([])))
theorem My (C:OT) (n:Nat):TJ C n 31 [] (Jy n ) (fun y=>(ag [(im (y.Queue.map ah) false),(im (y.Apart.map ai) false)])):=by
 refine .lp (M3 ..) ?_
 unfold Jy
 exact .s ((pt 0 0),[bx [N3,N3]]) (.s (ag [N3,N3]) (.s [bx [N3,N3]] (.s (ag [N3,N3]) (.lv u3))))
def JC  : Option bq:=Jy aE
def DU (C:OT):Prop:=∀ (_:Unit),C 31 []=(JC ).map fun y=>(ag [(im (y.Queue.map ah) false),(im (y.Apart.map ai) false)])
def Jw (n:Nat) (a:Int):Option (al×Int):=
 (wz a 1 12).bind fun b=>bif (!b) then (some (((al.mk ((bq.mk ([]) ([]))) ([]) 0),1))) else ((JC ).bind fun c=>(Br 72 a ((aG.mk ([]) ([]) ([])))).bind fun d=>some (((al.mk c d 0),0)))
theorem Mo (C:OT) (n:Nat) (d:my C) (h:DU C) (b:Int):TJ C n 11 [(iA b)] (Jw n b) (fun y=>(tp [(ag (aa y.1)),(iA y.2)])):=by
 refine .lp (MS ..) ?_
 unfold Jw
 refine .s ((pt 0 0),[bx [N3,N3,N3,(iA 0)]]) (.bd (d b 1 12) fun i=>.s (bA (!i)) (.cj ?_ ?_))
 ·exact .s (ag [N3,N3,N3,(iA 0)]) (.s [bx [N3,N3,N3,(iA 0)]] (.s (ag [N3,N3,N3,(iA 0)]) (.lv u3)))
 exact .bd (h ()) fun a=>.bd (g:=fun (y:List aG)=>((im (y.map aj) false),[bx [N3,N3,N3,(iA 0)]])) (xC (e:=55) (es:=3) (f:=aj) (z:=(aG.mk ([]) ([]) ([]))) (z':=[N3,N3,N3]) r8 r8 r8 r8 rfl (by decide) (fun _=>rfl)) fun c=>.s (ag [(im (a.Queue.map ah) false),(im (a.Apart.map ai) false),(im (c.map aj) false),(iA 0)]) (.s [bx [(im (a.Queue.map ah) false),(im (a.Apart.map ai) false),(im (c.map aj) false),(iA 0)]] (.s (ag [(im (a.Queue.map ah) false),(im (a.Apart.map ai) false),(im (c.map aj) false),(iA 0)]) (.lv u3)))
def Ga (a:Int):Option (al×Int):=Jw aE a
def DN (C:OT):Prop:=∀ (a:Int),C 11 [(iA a)]=(Ga a).map fun y=>(tp [(ag (aa y.1)),(iA y.2)])
def JB (n:Nat) (a:Int) (b:Int):Option (Int×Int):=
 some (((if b<a then b else a),(if a<b then b else a)))
theorem ML (C:OT) (n:Nat) (a:Int) (b:Int):TJ C n 72 [(iA a),(iA b)] (JB n a b) (fun y=>(ag [(iA y.1),(iA y.2)])):=by
 refine .lp (Nk ..) ?_
 unfold JB
 exact .s ((pt 0 0),[bx [(iA 0),(iA 0)]]) (.s (iA ((if b<a then b else a))) (.s (iA ((if a<b then b else a))) (.s (ag [(iA ((if b<a then b else a))),(iA ((if a<b then b else a)))]) (.s [bx [(iA ((if b<a then b else a))),(iA ((if a<b then b else a)))]] (.s (ag [(iA ((if b<a then b else a))),(iA ((if a<b then b else a)))]) (.lv rfl))))))
def IT (a:Int) (b:Int):Option (Int×Int):=JB aE a b
def DY (C:OT):Prop:=∀ (a:Int) (b:Int),C 72 [(iA a),(iA b)]=(IT a b).map fun y=>(ag [(iA y.1),(iA y.2)])
def IH (n:Nat) (a:(Int×Int)):Option Bool:=
 (bif (decide (0<=a.1)) then (some (decide (a.1<a.2))) else (some false)).bind fun b=>(bif b then (some (decide (a.2<24))) else (some false)).bind fun c=>some c
theorem MJ (C:OT) (n:Nat) (a:(Int×Int)):TJ C n 64 [(ag [(iA a.1),(iA a.2)])] (IH n a) (fun y=>(bA y)):=by
 refine .lp (Nh ..) ?_
 unfold IH
 refine .s ((pt 0 0),[bx [(iA a.1),(iA a.2)]]) (.s (pt 0 0) (.s (iA a.1) (.st (fe ..) (.bg (fun t (y:Bool)=>∃ b c d e f:A,t=[(bA y),b,c,d,e,f]) ?_ ?_))))
 ·refine .bi ?_ ?_
  ·exact .s (pt 0 0) (.s (iA a.1) (.s (pt 0 1) (.s (iA a.2) (.st (aV ..) (.lg ⟨_,_,_,_,_,rfl⟩)))))
  exact .lg ⟨_,_,_,_,_,rfl⟩
 rintro _ j ⟨b,c,d,e,f,rfl⟩
 refine .u4 (.uc (.uc (.bg (fun t (y:Bool)=>∃ g h i:A,t=[(bA y),g,h,i]) ?_ ?_)))
 ·refine .bi ?_ ?_
  ·exact .s (pt 0 1) (.s (iA a.2) (.st (aV ..) (.lg ⟨_,_,_,rfl⟩)))
  exact .lg ⟨_,_,_,rfl⟩
 rintro _ k ⟨g,h,i,rfl⟩
 exact .u4 (.lv rfl)
def FQ (a:(Int×Int)):Option Bool:=IH aE a
def xO (C:OT):Prop:=∀ (a:(Int×Int)),C 64 [(ag [(iA a.1),(iA a.2)])]=(FQ a).map fun y=>(bA y)
def ID (n:Nat) (a:av):Option Bool:=
 (IT a.From a.To).bind fun b=>(FQ b).bind fun c=>(bif c then (some (decide (((a.Data.length:Int))<=1048576))) else (some false)).bind fun d=>some d
theorem MG (C:OT) (n:Nat) (g:xO C) (h:DY C) (a:av):TJ C n 56 [(ag (ah a))] (ID n a) (fun y=>(bA y)):=by
 refine .lp (Nc ..) ?_
 unfold ID
 refine .s ((pt 0 0),[bx (ah a)]) (.s2 (iA a.From) (.s2 (iA a.To) (.bd (h a.From a.To) fun i=>.bd (g i) fun j=>.bg (fun t (y:Bool)=>∃ b c d f:A,t=[(bA y),b,c,d,f]) ?_ ?_)))
 ·refine .bi ?_ ?_
  ·exact .s (pt 0 2) (.s (im (a.Data.map c8) false) (.st (dV (e:=5)) (.st (eH ..) (.lg ⟨_,_,_,_,rfl⟩))))
  exact .lg ⟨_,_,_,_,rfl⟩
 rintro _ k ⟨b,c,d,f,rfl⟩
 exact .u4 (.uc (.lv rfl))
def FP (a:av):Option Bool:=ID aE a
def zU (C:OT):Prop:=∀ (a:av),C 56 [(ag (ah a))]=(FP a).map fun y=>(bA y)
def IG (n:Nat) (a:av):Option Bool:=
 (FP a).bind fun b=>some (!b)
theorem MI (C:OT) (n:Nat) (b:zU C) (a:av):TJ C n 63 [(ag (ah a))] (IG n a) (fun y=>(bA y)):=by
 refine .lp (Ng ..) ?_
 unfold IG
 exact .s ((pt 0 0),[bx (ah a)]) (.s (ag (ah a)) (.bd (g:=fun (y:Bool)=>(bA y)) (by simp only[dQ,gb]; exact b a) fun c=>.s (bA (!c)) (.lv rfl)))
def Gf (a:av):Option Bool:=IG aE a
def zV (C:OT):Prop:=∀ (a:av),C 63 [(ag (ah a))]=(Gf a).map fun y=>(bA y)
def eE (n:Nat) (b:(List av)) (c:Int):Nat->Int->Option ((Int)⊕(Unit))
 | 0,_=>none
 | m+1,a=>bif (decide (a<c)) then ((bl b a).bind fun d=>(Gf d).bind fun e=>bif e then (some ((Sum.inl a))) else (eE n b c m (wr .i64 (a+1)))) else (some ((Sum.inr (()))))
theorem uL (l:zV C) {w24:A} (h:(List av)) (i:Int) {K:((Int)⊕(Unit))->Option γ} (o:∀ (j:Int) (a:A) (b:A) (c:A) (d:A),J φ (kr (St.mk [(0,a),(1,b),(4,(iA j)),(7,c),(8,d)] [])) kL (K (Sum.inl j)) some) (p:∀ (a:A) (b:A) (q:A) (c:A) (d:A),J φ (kx 0 (St.mk [(0,a),(1,b),(4,q),(7,c),(8,d)] [])) kL (K (Sum.inr (()))) some) :
  ∀ (m:Nat) (f:Int),J φ (aA (cx C) (ec C n 8) (ey C n 8) (n+8) 88 0 0 0 kx kg kr kp m (St.mk [(0,(im (h.map ah) false)),(1,(rK 63 [] [])),(4,w24),(7,(iA i)),(8,(iA f))] [])) kL (eE n h i m f) K:=by
  refine nI (fun _=>.nn) fun m ih f=>.lp (GW ..) ?_
  unfold eE
  refine .st (aV ..) (.cj ?_ ?_)
  ·refine .bd (eR (e:=48) (es:=3)) fun k=>.s (ag (ah k)) (.dO r8 r8 (.bd (g:=fun (y:Bool)=>(bA y)) (by simp only[PA,OU,PB,dQ,gb]; exact l k) fun r=>.cj ?_ ?_))
   ·exact .ex (o _ _ _ _ _)
   refine .st (az ..) (.s [] (.cT r8 ?_))
   exact ih _
  exact .ex (p _ _ _ _ _)
def sX (n:Nat) (a:(List av)):Option Int:=
 (eE n a ((a.length:Int)) (n+8) 0).bind fun b=>match b with | (Sum.inl c)=>some c | (Sum.inr _)=>some (-1)
theorem EN (C:OT) (n:Nat) (b:zV C) (a:(List av)):TJ C n 88 [(im (a.map ah) false),(rK 63 [] [])] (sX n a) (fun y=>(iA y)):=by
 refine .lp (Nq ..) ?_
 unfold sX
 refine .st (dV (e:=48)) (.as (uL C n _ _ _ _ b a ((a.length:Int)) ?_ ?_ _ 0))
 ·intro c d f g h
  exact .un rfl (.lv rfl)
 ·intro i j k l o
  exact .un rfl (.cT r8 (.lv rfl))
def sY (a:(List av)):Option Int:=sX aE a
def uJ (C:OT):Prop:=∀ (a:(List av)),C 88 [(im (a.map ah) false),(rK 63 [] [])]=(sY a).map fun y=>(iA y)
def sW (n:Nat) (a:(List av)):Option Bool:=
 (sY a).bind fun b=>some (decide (0<=b))
theorem EM (C:OT) (n:Nat) (h88_63:uJ C) (a:(List av)):TJ C n 62 [(im (a.map ah) false),(rK 63 [] [])] (sW n a) (fun y=>(bA y)):=by
 refine .lp (Nf ..) ?_
 unfold sW
 exact .bd (g:=fun (y:Int)=>(iA y)) (by simp only[dQ,gb]; exact h88_63 a) fun b=>.st (fe ..) (.lv rfl)
def pU (a:(List av)):Option Bool:=sW aE a
def uI (C:OT):Prop:=∀ (a:(List av)),C 62 [(im (a.map ah) false),(rK 63 [] [])]=(pU a).map fun y=>(bA y)
def Cc (n:Nat) (a:Int):Option Bool:=
 some (a != a)
theorem JD (C:OT) (n:Nat) (a:Int):TJ C n 106 [(iA a)] (Cc n a) (fun y=>(bA y)):=by
 refine .lp (JR ..) ?_
 unfold Cc
 exact .st (aB ..) (.lv rfl)
def uE (a:Int):Option Bool:=Cc aE a
def sZ (C:OT):Prop:=∀ (a:Int),C 106 [(iA a)]=(uE a).map fun y=>(bA y)
def mZ (a:(List av)) (b:(List (Int×Int))):aw:=bx [(im (a.map ah) false),(im (b.map ai) false)]
def fc (n:Nat) (e:(List Int)) (f:Int) (c:Int) (d:Int):Nat->Int->Option ((Int)⊕(Unit))
 | 0,_=>none
 | m+1,a=>bif (decide (a<f)) then ((bl e a).bind fun b=>bif (decide (2<=a)) then (some ((Sum.inl 1))) else (bif decide (a=0) then (((uE b).bind fun k=>(uE c).bind fun g=>bif k then (bif g then (some 0) else (some (-1))) else (bif g then (some 1) else (bif (decide (b<c)) then (some (-1)) else (bif (decide (c<b)) then (some 1) else (some 0))))).bind fun h=>bif (h != 0) then (some ((Sum.inl h))) else (fc n e f c d m (wr .i64 (a+1)))) else bif decide (a=1) then (((uE b).bind fun l=>(uE d).bind fun i=>bif l then (bif i then (some 0) else (some (-1))) else (bif i then (some 1) else (bif (decide (b<d)) then (some (-1)) else (bif (decide (d<b)) then (some 1) else (some 0))))).bind fun j=>bif (j != 0) then (some ((Sum.inl j))) else (fc n e f c d m (wr .i64 (a+1)))) else none)) else (some ((Sum.inr (()))))
theorem Ak (c:sZ C) {w227 w228:A} {w229:aw} (k:(List Int)) (l:Int) (a:Int) (b:Int) {K:((Int)⊕(Unit))->Option γ} (d:∀ (o:Int) (p:A) (q:A) (f:A) (g:A) (h:A) (q1:aw),J φ (kr (St.mk [(0,p),(1,q),(4,(iA o)),(9,f),(10,g),(11,h)] [w229,q1])) kL (K (Sum.inl o)) some) (r:∀ (u:A) (f:A) (g:A) (h:A),J φ (kx 0 (St.mk [(0,w227),(1,(bL 1 0 2 true)),(4,u),(9,f),(10,g),(11,h)] [w229,aw.row true 1 [[(iA a)],[(iA b)]]])) kL (K (Sum.inr (()))) some) :
  ∀ (m:Nat) (i:Int),J φ (aA (cx C) (ec C n 7) (ey C n 7) (n+7) 65 0 0 2 kx kg kr kp m (St.mk [(0,w227),(1,(bL 1 0 2 true)),(4,w228),(9,(im (k.map (cI .i64)) true)),(10,(iA l)),(11,(iA i))] [w229,aw.row true 1 [[(iA a)],[(iA b)]]])) kL (fc n k l a b m i) K:=by
  refine nI (fun _=>.nn) fun m ih i=>.lp (GR ..) ?_
  unfold fc
  refine .st (aV ..) (.cj ?_ ?_)
  ·refine .bd (eR (e:=3) (es:=1)) fun j=>.s (iA j) (.s (iA 2) (.st (fe ..) (.cj ?_ ?_)))
   ·exact .ex (d _ _ _ _ _ _ _)
   refine .sp (fun w=>?_) (fun _=>?_)
   ·refine .st (v:=(A.ep 1 0 0)) (by rw[Oe w]; kernel_rfl) (.s (iA a) (.bg (fun (t:Out×ar) (y:Int)=>t=(Out.ret (iA y),[w229,aw.row true 1 [[(iA a)],[(iA b)]]])) ?_ ?_))
    ·refine .lp ((aO Es).trans (Ly ..)) (.bd (c j) fun z=>.bd (c a) fun a0=>.cj ?_ ?_)
     ·refine .cj ?_ ?_
      ·exact .lg rfl
      exact .lg rfl
     refine .cj ?_ ?_
     ·exact .lg rfl
     refine .st (aV ..) (.cj ?_ ?_)
     ·exact .lg rfl
     refine .st (dh ..) (.cj ?_ ?_)
     ·exact .lg rfl
     exact .lg rfl
    rintro _ a1 rfl
    refine .ok (.st (aB ..) (.cj ?_ ?_))
    ·exact .ex (d _ _ _ _ _ _ _)
    refine .st (az ..) (.s [w229,aw.row true 1 [[(iA a)],[(iA b)]]] (.cT r8 ?_))
    exact ih _
   refine .sp (fun x=>?_) (fun _=>?_)
   ·refine .st (v:=(A.ep 1 1 0)) (by rw[Oe x]; kernel_rfl) (.s (iA b) (.bg (fun (t:Out×ar) (y:Int)=>t=(Out.ret (iA y),[w229,aw.row true 1 [[(iA a)],[(iA b)]]])) ?_ ?_))
    ·refine .lp ((aO Es).trans (Ly ..)) (.bd (c j) fun a2=>.bd (c b) fun a3=>.cj ?_ ?_)
     ·refine .cj ?_ ?_
      ·exact .lg rfl
      exact .lg rfl
     refine .cj ?_ ?_
     ·exact .lg rfl
     refine .st (aV ..) (.cj ?_ ?_)
     ·exact .lg rfl
     refine .st (dh ..) (.cj ?_ ?_)
     ·exact .lg rfl
     exact .lg rfl
    rintro _ a4 rfl
    refine .ok (.st (aB ..) (.cj ?_ ?_))
    ·exact .ex (d _ _ _ _ _ _ _)
    refine .st (az ..) (.s [w229,aw.row true 1 [[(iA a)],[(iA b)]]] (.cT r8 ?_))
    exact ih _
   exact .nn
  exact .ex (r _ _ _ _)
def fJ (n:Nat) (f:Int) (b:(List (Int×Int))) (c:Int) (g:(List av)) (d:(List (Int×Int))):Nat->Int->Option ((Int)⊕(Unit))
 | 0,_=>none
 | m+1,a=>bif (decide (a<c)) then ((bl b a).bind fun e=>(FQ e).bind fun i=>bif (!i) then ((some (())).bind fun r=>(some (())).bind fun s=>some ((Sum.inl 60))) else (bif (decide (0<a)) then ((bl d (wr .i64 (a - 1))).bind fun h=>((fc n ([h.1,h.2]) 2 e.1 e.2 (n+7) 0).bind fun j=>match j with | (Sum.inl k)=>some k | (Sum.inr _)=>some 0).bind fun l=>(some (decide (0<=l))).bind fun o=>((some o).bind fun p=>some p).bind fun q=>bif q then (some ((Sum.inl 60))) else (fJ n f b c g d m (wr .i64 (a+1)))) else ((some (())).bind fun t=>((some (())).bind fun u=>some (())).bind fun v=>fJ n f b c g d m (wr .i64 (a+1))))) else (some ((Sum.inr (()))))
theorem Aj (a0:sZ C) (a1:xO C) (p:Int) (f:(List (Int×Int))) (q:Int) (d:(List av)) (b:(List (Int×Int))) {K:((Int)⊕(Unit))->Option γ} (r:∀ (u:Int) (i:A) (j:A) (k:A) (l:A) (q0:aw) (q1:aw),J φ (kr (St.mk [(1,i),(2,(iA u)),(15,j),(16,k),(17,l)] [q0,q1])) kL (K (Sum.inl u)) some) (x1:∀ (i:A) (s2:A) (j:A) (k:A) (l:A) (q0:aw),J φ (kx 0 (St.mk [(1,i),(2,s2),(15,j),(16,k),(17,l)] [q0])) kL (K (Sum.inr (()))) some) :
  ∀ (m:Nat) (o:Int),J φ (aA (cx C) (ec C n 8) (ey C n 8) (n+8) 33 0 0 1 kx kg kr kp m (St.mk [(1,(pt 0 0)),(2,(iA p)),(15,(im (f.map ai) false)),(16,(iA q)),(17,(iA o))] [(mZ d b)])) kL (fJ n p f q d b m o) K:=by
  refine nI (fun _=>.nn) fun m ih o=>.lp (GN ..) ?_
  unfold fJ
  refine .st (aV ..) (.cj ?_ ?_)
  ·refine .bd (eR (e:=115) (es:=2)) fun a=>.s (ag [(iA a.1),(iA a.2)]) (.sq (A.ep 1 0 0) (.s [(mZ d b),aw.row true 1 [[(iA a.1)],[(iA a.2)]]] (.s (ag [(iA a.1),(iA a.2)]) (.bd (a1 a) fun a3=>.s (bA (!a3)) (.J3 (fun g=>?_) (fun g=>?_))))))
   ·refine .bb (.st (dh ..) (.FY (fun c=>?_) (fun c=>?_)))
    ·refine .bb (.s (pt 0 1) (.s (im (b.map ai) false) (.st (kS ..) (.bd (eR (e:=115) (es:=2)) fun h=>.s (im [[(iA h.1)],[(iA h.2)]] true) (.s (bL 1 0 2 true) (.cr (.u4 (.uc (.uc (.uc (.cr (.u4 (.u4 (.uc (.uc (.lp (dH c) (.bg (fun (t:Out×ar) (y:Int)=>∃ w271:aw,t=(Out.ret (iA y),[(mZ d b),w271])) ?_ ?_)))))))))))))))))
     ·refine .lp ((aO Hn).trans (Ni ..)) (.s (iA 2) (.as (Ak C n _ _ _ _ a0 ([h.1,h.2]) 2 a.1 a.2 ?_ ?_ _ 0)))
      ·intro a4 a5 a6 a7 a8 a9 w265
       exact .un rfl (.lg ⟨_,rfl⟩)
      ·intro aa ab ad ae
       exact .un rfl (.cT r8 (.s (iA 2) (.s (iA 2) (.s (bA false) (.Gt (.lg ⟨_,rfl⟩))))))
     rintro _ af ⟨w271,rfl⟩
     refine .ok (.bg (fun t (y:Bool) =>  t=[(bA y)]) ?_ ?_)
     ·exact .lp (dH c) (.st (fe ..) (.lg rfl))
     rintro _ ah rfl
     refine .uc (.bg (fun t (y:Bool)=>∃ w:A,t=[(bA y),w]) ?_ ?_)
     ·refine .B7 g (.bg (fun t (y:Bool) =>  t=(bA y)) ?_ ?_)
      ·exact .AB c (.lg rfl)
      rintro _ aj rfl
      exact .lg ⟨_,rfl⟩
     rintro _ ak ⟨w,rfl⟩
     refine .uc (.uc (.cj ?_ ?_))
     ·exact .ex (r _ _ _ _ _ _ _)
     refine .st (az ..) (.st (v:=[(mZ d b)]) (cU r8 (by simp only[uB,eo,er,Nat.reduceLT,OW,mZ])) (.cT ((by kernel_rfl:_=(bif ax 1 (f.map ai) then true else false)).trans s5) ?_))
     exact ih _
    refine .bb (.cr (.u4 (.uc (.uc (.uc (.cr (.u4 (.u4 (.uc (.uc (.lp (dG c) (.bg (fun t (y:Unit) =>  t=[(A.v undef)]) ?_ ?_))))))))))))
    ·exact .lp (dG c) (.lg rfl)
    rintro _ al rfl
    refine .uc (.bg (fun t (y:Unit)=>∃ x:A,t=[(bA false),x]) ?_ ?_)
    ·refine .B7 g (.bg (fun t (y:Unit) =>  t=(bA false)) ?_ ?_)
     ·exact .B7 c (.lg rfl)
     rintro _ am rfl
     exact .lg ⟨_,rfl⟩
    rintro _ an ⟨x,rfl⟩
    refine .uc (.uc (.Gt (.st (az ..) (.st (v:=[(mZ d b)]) (cU r8 (by simp only[uB,eo,er,Nat.reduceLT,OW,mZ])) (.cT ((by kernel_rfl:_=(bif ax 1 (f.map ai) then true else false)).trans s5) ?_)))))
    exact ih _
   refine .bb (.cr (.u4 (.u4 (.uc (.uc (.gU (.bg (fun t (y:Unit) =>  t=[(A.v undef)]) ?_ ?_)))))))
   ·exact .gU (.lg rfl)
   rintro _ ao rfl
   refine .uc (.bg (fun t (y:Unit)=>∃ z:A,t=[(bA true),z]) ?_ ?_)
   ·exact .AB g (.lg ⟨_,rfl⟩)
   rintro _ ap ⟨z,rfl⟩
   exact .uc (.uc (.Gw (.ex (r _ _ _ _ _ _ _))))
  exact .ex (x1 _ _ _ _ _ _)
def Iy (n:Nat) (a:bq):Option Int:=
 (bif (decide (4096<((a.Queue.length:Int)))) then (some true) else ((pU a.Queue).bind fun b=>some b)).bind fun c=>bif c then (some 60) else ((fJ n 0 a.Apart ((a.Apart.length:Int)) a.Queue a.Apart (n+8) 0).bind fun d=>match d with | (Sum.inl e)=>some e | (Sum.inr _)=>some 0)
theorem Mz (C:OT) (n:Nat) (f:sZ C) (h62_63:uI C) (h:xO C) (a:bq):TJ C n 33 [(ag [(im (a.Queue.map ah) false),(im (a.Apart.map ai) false)])] (Iy n a) (fun y=>(iA y)):=by
 refine .lp (M4 ..) ?_
 unfold Iy
 refine .s ((pt 0 0),[bx [(im (a.Queue.map ah) false),(im (a.Apart.map ai) false)]]) (.s2 (im (a.Queue.map ah) false) (.st (dV (e:=48)) (.st (dh ..) (.bg (fun t (y:Bool)=>∃ b c d:A,t=[(bA y),b,c,d]) ?_ ?_))))
 ·refine .bi ?_ ?_
  ·exact .lg ⟨_,_,_,rfl⟩
  exact .s (pt 0 0) (.s (im (a.Queue.map ah) false) (.bd (g:=fun (y:Bool)=>(bA y)) (by simp only[dQ,gb]; exact h62_63 a.Queue) fun i=>.lg ⟨_,_,_,rfl⟩))
 rintro _ j ⟨b,c,d,rfl⟩
 refine .u4 (.cj ?_ ?_)
 ·exact .lv rfl
 refine .s2 (im (a.Apart.map ai) false) (.st (dV (e:=115)) (.as (Aj C n _ _ _ _ f h 0 a.Apart ((a.Apart.length:Int)) a.Queue a.Apart ?_ ?_ _ 0)))
 ·intro k l o p q w290 w291
  exact .un rfl (.lv rfl)
 ·intro r u v w x w297
  exact .un rfl (.cT r8 (.lv rfl))
def FO (a:bq):Option Int:=Iy aE a
def zO (C:OT):Prop:=∀ (a:bq),C 33 [(ag [(im (a.Queue.map ah) false),(im (a.Apart.map ai) false)])]=(FO a).map fun y=>(iA y)
def Iu (n:Nat) (a:bM) (b:Int):Option Bool:=
 (wz a.No 0 1048576).bind fun c=>(bif c then ((wz a.Role 0 (wr .i64 (b - 1))).bind fun d=>some d) else (some false)).bind fun e=>(bif e then ((wz a.Bar 0 4095).bind fun f=>some f) else (some false)).bind fun g=>(bif g then ((wz a.Program 1 8).bind fun h=>some h) else (some false)).bind fun i=>some i
theorem Mu (C:OT) (n:Nat) (b:my C) (a:bM) (c:Int):TJ C n 24 [(ag (aD a)),(iA c)] (Iu n a c) (fun y=>(bA y)):=by
 refine .lp (MY ..) ?_
 unfold Iu
 refine .s ((pt 0 0),[bx (aD a)]) (.s2 (iA a.No) (.bd (b a.No 0 1048576) fun q=>.bg (fun t (y:Bool)=>∃ d e f g h:A,t=[(bA y),d,e,f,g,h]) ?_ ?_))
 ·refine .bi ?_ ?_
  ·exact .s (pt 0 1) (.s (iA a.Role) (.st (kS ..) (.bd (b a.Role 0 (wr .i64 (c - 1))) fun r=>.lg ⟨_,_,_,_,_,rfl⟩)))
  exact .lg ⟨_,_,_,_,_,rfl⟩
 rintro _ u ⟨d,e,f,g,h,rfl⟩
 refine .u4 (.uc (.uc (.bg (fun t (y:Bool)=>∃ i j k:A,t=[(bA y),i,j,k]) ?_ ?_)))
 ·refine .bi ?_ ?_
  ·exact .s (pt 0 2) (.s (iA a.Bar) (.bd (b a.Bar 0 4095) fun v=>.lg ⟨_,_,_,rfl⟩))
  exact .lg ⟨_,_,_,rfl⟩
 rintro _ w ⟨i,j,k,rfl⟩
 refine .u4 (.bg (fun t (y:Bool)=>∃ l o p:A,t=[(bA y),l,o,p]) ?_ ?_)
 ·refine .bi ?_ ?_
  ·exact .s (pt 0 3) (.s (iA a.Program) (.bd (b a.Program 1 8) fun x=>.lg ⟨_,_,_,rfl⟩))
  exact .lg ⟨_,_,_,rfl⟩
 rintro _ z ⟨l,o,p,rfl⟩
 exact .u4 (.lv rfl)
def EE (a:bM) (b:Int):Option Bool:=Iu aE a b
def rX (C:OT):Prop:=∀ (a:bM) (b:Int),C 24 [(ag (aD a)),(iA b)]=(EE a b).map fun y=>(bA y)
def jC (n:Nat) (c:(List Int)) (d:Int) (b:aG):Nat->Int->Option ((Bool)⊕(Unit))
 | 0,_=>none
 | m+1,a=>bif (decide (a<d)) then ((bl c a).bind fun e=>(wz e 0 8).bind fun f=>(bif (!f) then (some true) else ((bl b.Did a).bind fun g=>(bif (g != e) then ((bl b.Did a).bind fun h=>some (h != 0)) else (some false)).bind fun i=>some i)).bind fun j=>bif j then (some ((Sum.inl false))) else (jC n c d b m (wr .i64 (a+1)))) else (some ((Sum.inr (()))))
theorem Al (aa:my C) {w115 w116 w117 w118:A} (g:(List Int)) (h:Int) (a:aG) {K:((Bool)⊕(Unit))->Option γ} (x0:∀ (i:Bool) (s1:A) (s2:A) (s3:A) (s4:A) (b:A) (c:A) (d:A) (q0:aw),J φ (kr (St.mk [(1,s1),(2,s2),(3,s3),(4,s4),(8,(bA i)),(27,b),(28,c),(29,d)] [q0])) kL (K (Sum.inl i)) some) (x1:∀ (b:A) (c:A) (d:A),J φ (kx 0 (St.mk [(1,w115),(2,w116),(3,w117),(4,(pt 0 0)),(8,w118),(27,b),(28,c),(29,d)] [bx (aj a)])) kL (K (Sum.inr (()))) some) :
  ∀ (m:Nat) (f:Int),J φ (aA (cx C) (ec C n 8) (ey C n 8) (n+8) 34 0 0 1 kx kg kr kp m (St.mk [(1,w115),(2,w116),(3,w117),(4,(pt 0 0)),(8,w118),(27,(im (g.map (cI .i64)) false)),(28,(iA h)),(29,(iA f))] [bx (aj a)])) kL (jC n g h a m f) K:=by
  refine nI (fun _=>.nn) fun m ih f=>.lp (GO ..) ?_
  unfold jC
  refine .st (aV ..) (.cj ?_ ?_)
  ·refine .bd (eR (e:=3) (es:=1)) fun j=>.s (iA j) (.bd (aa j 0 8) fun ah=>.s (bA (!ah)) (.bg (fun t (y:Bool)=>∃ k l o p q r u v w x z a0 a1 a2 a3:A,t=[(bA y),k,l,o,p,q,r,u,v,w,x,z,a0,a1,a2,a3]) ?_ ?_))
   ·refine .bi ?_ ?_
    ·exact .lg ⟨_,_,_,_,_,_,_,_,_,_,_,_,_,_,_,rfl⟩
    refine .s (pt 0 2) (.s (im (a.Did.map (cI .i64)) false) (.bd (eR (e:=3) (es:=1)) fun ai=>.s (iA ai) (.st (aB ..) (.bg (fun t (y:Bool)=>∃ a4 a5 a6 a7 a8 a9:A,t=[(bA y),a4,a5,a6,a7,a8,a9]) ?_ ?_))))
    ·refine .bi ?_ ?_
     ·exact .s (pt 0 2) (.s (im (a.Did.map (cI .i64)) false) (.bd (eR (e:=3) (es:=1)) fun ak=>.s (iA ak) (.st (aB ..) (.lg ⟨_,_,_,_,_,_,rfl⟩))))
     exact .lg ⟨_,_,_,_,_,_,rfl⟩
    rintro _ al ⟨a4,a5,a6,a7,a8,a9,rfl⟩
    exact .u4 (.uc (.uc (.uc (.lg ⟨_,_,_,_,_,_,_,_,_,_,_,_,_,_,_,rfl⟩))))
   rintro _ am ⟨k,l,o,p,q,r,u,v,w,x,z,a0,a1,a2,a3,rfl⟩
   refine .u4 (.u4 (.u4 (.u4 (.cj ?_ ?_))))
   ·exact .ex (x0 _ _ _ _ _ _ _ _ _)
   refine .st (az ..) (.s [bx (aj a)] (.cT r8 ?_))
   exact ih _
  exact .ex (x1 _ _ _)
def jD (n:Nat) (c:Int) (d:Int) (g:Bool) (e:(List bM)) (f:Int) (h:aG):Nat->Int->Int->Option ((Bool)⊕(Unit))
 | 0,_,_=>none
 | m+1,i,b=>bif (decide (b<f)) then ((bl e b).bind fun a=>(EE a d).bind fun j=>(bif (!j) then (some true) else (some (a.Role != c))).bind fun k=>(bif k then (some true) else (some (decide (a.Bar<i)))).bind fun l=>bif l then (some ((Sum.inl false))) else (jD n c d g e f h m (wr .i64 (a.Bar+1)) (wr .i64 (b+1)))) else (some ((Sum.inr (()))))
theorem Am (a4:rX C) (o:Int) (c:Int) (p:Bool) (d:(List bM)) (q:Int) (b:aG) {K:((Bool)⊕(Unit))->Option γ} (x0:∀ (r:Bool) (f:A) (s2:A) (g:A) (h:A) (i:A) (j:A) (q0:aw) (q1:aw),J φ (kr (St.mk [(1,f),(2,s2),(8,(bA r)),(11,g),(57,h),(58,i),(59,j)] [q0,q1])) kL (K (Sum.inl r)) some) (x1:∀ (f:A) (s2:A) (s8:A) (g:A) (h:A) (i:A) (j:A) (q0:aw),J φ (kx 2 (St.mk [(1,f),(2,s2),(8,s8),(11,g),(57,h),(58,i),(59,j)] [q0])) kL (K (Sum.inr (()))) some) :
  ∀ (m:Nat) (k:Int) (l:Int),J φ (aA (cx C) (ec C n 8) (ey C n 8) (n+8) 34 0 1 1 kx kg kr kp m (St.mk [(1,(iA o)),(2,(iA c)),(8,(bA p)),(11,(iA k)),(57,(im (d.map aD) false)),(58,(iA q)),(59,(iA l))] [bx (aj b)])) kL (jD n o c p d q b m k l) K:=by
  refine nI (fun _ _=>.nn) fun m ih k l=>.lp (GP ..) ?_
  unfold jD
  refine .st (aV ..) (.cj ?_ ?_)
  ·refine .bd (eR (e:=30) (es:=4)) fun a=>.s (ag (aD a)) (.sq (pt 1 0) (.s [bx (aj b),bx (aD a)] (.s (ag (aD a)) (.bd (a4 a c) fun a8=>.s (bA (!a8)) (.bg (fun t (y:Bool)=>∃ u w x z:A,t=[(bA y),u,w,x,z]) ?_ ?_)))))
   ·refine .bi ?_ ?_
    ·exact .lg ⟨_,_,_,_,rfl⟩
    exact .s (pt 1 1) (.s (iA a.Role) (.st (aB ..) (.lg ⟨_,_,_,_,rfl⟩)))
   rintro _ a9 ⟨u,w,x,z,rfl⟩
   refine .u4 (.uc (.bg (fun t (y:Bool)=>∃ a0 a1 a2 a3:A,t=[(bA y),a0,a1,a2,a3]) ?_ ?_))
   ·refine .bi ?_ ?_
    ·exact .lg ⟨_,_,_,_,rfl⟩
    exact .s (pt 1 2) (.s (iA a.Bar) (.st (aV ..) (.lg ⟨_,_,_,_,rfl⟩)))
   rintro _ aa ⟨a0,a1,a2,a3,rfl⟩
   refine .u4 (.uc (.cj ?_ ?_))
   ·exact .ex (x0 _ _ _ _ _ _ _ _ _)
   refine .s2 (iA a.Bar) (.st (az ..) (.st (az ..) (.st (v:=[bx (aj b)]) (cU r8 x6) (.cT ((by kernel_rfl:_=(bif ax 1 (d.map aD) then true else false)).trans s5) ?_))))
   exact ih _ _
  exact .ex (x1 _ _ _ _ _ _ _ _)
def Iz (n:Nat) (a:aG) (c:Int) (a2:Int) (b:Int):Option Bool:=
 (bif (((a.Got.length:Int)) != b) then (some true) else (some (((a.Did.length:Int)) != b))).bind fun d=>bif d then (some false) else ((jC n a.Got ((a.Got.length:Int)) a (n+8) 0).bind fun e=>match e with | (Sum.inl f)=>some f | (Sum.inr _)=>(jD n c a2 false a.Cues ((a.Cues.length:Int)) a (n+8) b 0).bind fun g=>match g with | (Sum.inl h)=>some h | (Sum.inr _)=>some true)
theorem MA (C:OT) (n:Nat) (j:rX C) (k:my C) (a:aG) (b:Int) (a2:Int) (c:Int):TJ C n 34 [(ag (aj a)),(iA b),(iA a2),(iA c)] (Iz n a b a2 c) (fun y=>(bA y)):=by
 refine .lp (M5 ..) ?_
 unfold Iz
 refine .s ((pt 0 0),[bx (aj a)]) (.s2 (im (a.Got.map (cI .i64)) false) (.st (dV (e:=3)) (.st (aB ..) (.bg (fun t (y:Bool)=>∃ d f g h i:A,t=[(bA y),d,f,g,h,i]) ?_ ?_))))
 ·refine .bi ?_ ?_
  ·exact .lg ⟨_,_,_,_,_,rfl⟩
  exact .s (pt 0 2) (.s (im (a.Did.map (cI .i64)) false) (.st (dV (e:=3)) (.st (aB ..) (.lg ⟨_,_,_,_,_,rfl⟩))))
 rintro _ l ⟨d,f,g,h,i,rfl⟩
 refine .u4 (.uc (.uc (.cj ?_ ?_)))
 ·exact .lv rfl
 refine .s2 (im (a.Got.map (cI .i64)) false) (.st (dV (e:=3)) (.as (Al C n _ _ _ _ k a.Got ((a.Got.length:Int)) a ?_ ?_ _ 0)))
 ·intro o p q r u v w x w163
  exact .un rfl (.lv rfl)
 ·intro z a4 a5
  refine .un rfl (.cT r8 (.s2 (im (a.Cues.map aD) false) (.st (dV (e:=30)) (.as (Am C n _ _ _ _ j b a2 false a.Cues ((a.Cues.length:Int)) a ?_ ?_ _ c 0)))))
  ·intro a6 a7 a8 a9 aa ab ad w312 w313
   exact .un rfl (.lv rfl)
  ·intro ae af ah ai ak al am w321
   exact .un rfl (.cT r8 (.lv rfl))
def Gc (a:aG) (b:Int) (a2:Int) (c:Int):Option Bool:=Iz aE a b a2 c
def zP (C:OT):Prop:=∀ (a:aG) (b:Int) (a2:Int) (c:Int),C 34 [(ag (aj a)),(iA b),(iA a2),(iA c)]=(Gc a b a2 c).map fun y=>(bA y)
def Cd (n:Nat) (a:Int):Option Int:=
 some (pL .i64 (wr .i64 (lS .u64 a 1)) (wr .i64 (0 - (wr .i64 (ny .u64 a 1)))))
theorem JE (C:OT) (n:Nat) (a:Int):TJ C n 108 [(A.v (.int .u64 a))] (Cd n a) (fun y=>(iA y)):=by
 refine .lp (JS ..) ?_
 unfold Cd
 exact .st (jF (hb:=by decide) ..) (.st (v:=(iA (wr .i64 (lS .u64 a 1)))) (aQ (hs:=by kernel_rfl) (hd:=by kernel_rfl) ..) (.st (mA ..) (.st (v:=(iA (wr .i64 (ny .u64 a 1)))) (aQ (hs:=by kernel_rfl) (hd:=by kernel_rfl) ..) (.s (iA (wr .i64 (0 - (wr .i64 (ny .u64 a 1))))) (.st (mB ..) (.lv rfl))))))
def zJ (a:Int):Option Int:=Cd aE a
def ta (C:OT):Prop:=∀ (a:Int),C 108 [(A.v (.int .u64 a))]=(zJ a).map fun y=>(iA y)
def bw:aw:=bx [(iA 0),(iA 0),se,N3]
def gJ (a:UInt8):aw:=bx [(iA (wr .i64 ((a.toNat:Int)))),(iA 0),se,N3]
def EH (C:OT) (N:Nat) (self:(List UInt8)->Int->Option (Bool×af×(List UInt8))):Prop:=∀ (a2:(List UInt8)) (a:Int) (X:ar),J (fun (o:R) (y:(Bool×af×(List UInt8)))=>o=((bif y.1 then Out.ret (ag [(iA y.2.1.Kind),(iA y.2.1.N),(sA y.2.1.S),(im (y.2.1.L.map ak) false)]) else Out.pan (A.ifc 33 (iA 10))),[bw,bx [(iA 0)],bx [(im (y.2.2.map c8) false)]]++X)) (di (cx C) N 91 [(pt 2 0),(iA a)] ([bw,bx [(iA 0)],bx [(im (a2.map c8) false)]]++X) 0) some (self a2 a) some
def dE (n:Nat):Nat->Int->Int->(List UInt8)->Option (((List UInt8))⊕(Int×(List UInt8)))
 | 0,_,_,_=>none
 | m+1,e,a,b=>bif (!(decide (1<=((b.length:Int))))) then (some ((Sum.inl b))) else ((gD b 0 1).bind fun f=>(gD b 1 ((b.length:Int))).bind fun d=>(bl f 0).bind fun c=>(bif (a==0) then (some true) else (some (((c.toNat:Int)) != 0))).bind fun g=>(bif g then ((bif (decide (a<9)) then (some true) else (some (decide (((c.toNat:Int))<=1)))).bind fun h=>some h) else (some false)).bind fun i=>bif (!i) then (some ((Sum.inl d))) else (bif decide (0<=(wr .i64 (7*a))) then (bif (decide (((c.toNat:Int))<128)) then (some ((Sum.inr ((kN .u64 e (rk .u64 (wr .u64 (ny .u8 ((c.toNat:Int)) 127)) (wr .i64 (7*a))),d))))) else (dE n m (kN .u64 e (rk .u64 (wr .u64 (ny .u8 ((c.toNat:Int)) 127)) (wr .i64 (7*a)))) (wr .i64 (a+1)) d)) else none))
theorem kR {w767:aw} {K:(((List UInt8))⊕(Int×(List UInt8)))->Option γ} (k:∀ (d:(List UInt8)) (g:A) (s2:A) (h:A),J φ (kp (A.ifc 33 (iA 10)) (St.mk [(0,g),(2,s2),(3,h)] [bw,bx [(iA 0)],bx [(im (d.map c8) false)],w767])) kL (K (Sum.inl d)) some) (x1:∀ (d:Int) (o:(List UInt8)) (g:A) (h:A),J φ (kr (St.mk [(0,g),(2,(A.v (.int .u64 d))),(3,h)] [bw,bx [(iA 0)],bx [(im (o.map c8) false)],w767])) kL (K (Sum.inr ((d,o)))) some) :
  ∀ (m:Nat) (i:Int) (j:Int) (c:(List UInt8)),J φ (aA (cx C) (di (cx C) (n+6)) (aX (cx C) (n+6)) (n+6) 109 0 0 4 kx kg kr kp m (St.mk [(0,(pt 2 0)),(2,(A.v (.int .u64 i))),(3,(iA j))] [bw,bx [(iA 0)],bx [(im (c.map c8) false)],w767])) kL (dE n  m i j c) K:=by
  refine nI (fun _ _ _=>.nn) fun m ih i j c=>.lp (E6 ..) ?_
  unfold dE
  refine .cl ((aO xh).trans (E4 ..)) (.s (pt 2 0) (.s2 (im (c.map c8) false) (.st (dV (e:=5)) (.st (eH ..) (.cl ((aO nW).trans (Cu ..)) (.s (bA (!(decide (1<=((c.length:Int)))))) (.cj ?_ ?_)))))))
  ·exact .s (A.ifc 33 (iA 10)) (.pk (.cr (.ky (.cr (.ky (.ex (k _ _ _ _)))))))
  refine .cr (.ok (.s (pt 2 0) (.s2 (im (c.map c8) false) (.bd (nH (e:=5) (es:=1) (f:=c8) (l:=c) (a:=0) (b:=1) r8 r8 (fun _=>rfl) (.inl ⟨rfl,rfl⟩)) fun a7=>.s (pt 2 0) (.s2 (im (c.map c8) false) (.bd (pO (e:=5) (es:=1) (f:=c8) (l:=c) (a:=1) (b:=(c.length:Int)) r8 r8 (fun _=>rfl) (.inr ⟨_,rfl⟩) (.inl ⟨rfl,rfl⟩)) fun p=>.s (pt 2 0) (.s (pt 2 0) (.s [bw,bx [(iA 0)],bx [(im (p.map c8) false)],w767] (.cr (.ok (.bd (eR (e:=5) (es:=1)) fun q=>.s (uA ((q.toNat:Int))) (.st (bt ..) (.bg (fun t (y:Bool)=>∃ r u:A,t=[(bA y),r,u]) ?_ ?_)))))))))))))
  ·refine .bi ?_ ?_
   ·exact .lg ⟨_,_,rfl⟩
   exact .st (aB ..) (.lg ⟨_,_,rfl⟩)
  rintro _ a8 ⟨r,u,rfl⟩
  refine .uc (.uc (.uc (.bg (fun t (y:Bool)=>∃ w x z a0 a1 a2:A,t=[(bA y),w,x,z,a0,a1,a2]) ?_ ?_)))
  ·refine .bi ?_ ?_
   ·refine .st (aV ..) (.bg (fun t (y:Bool)=>∃ a3 a4:A,t=[(bA y),a3,a4]) ?_ ?_)
    ·refine .bi ?_ ?_
     ·exact .lg ⟨_,_,rfl⟩
     exact .st (eH ..) (.lg ⟨_,_,rfl⟩)
    rintro _ a9 ⟨a3,a4,rfl⟩
    exact .uc (.uc (.uc (.lg ⟨_,_,_,_,_,_,rfl⟩)))
   exact .lg ⟨_,_,_,_,_,_,rfl⟩
  rintro _ a6 ⟨w,x,z,a0,a1,a2,rfl⟩
  refine .u4 (.uc (.uc (.uc (.cl ((aO nW).trans (Cu ..)) (.s (bA (!a6)) (.cj ?_ ?_))))))
  ·exact .s (A.ifc 33 (iA 10)) (.pk (.cr (.ky (.ex (k _ _ _ _)))))
  refine .cr (.ok (.st (mA ..) (.st (v:=(A.v (.int .u64 (wr .u64 (ny .u8 ((q.toNat:Int)) 127))))) (aQ (hs:=by kernel_rfl) (hd:=by kernel_rfl) ..) (.st (Au ..) (.gd fun hg=>.st (uM (hb:=Oe hg) ..) (.st (fL ..) (.st (aV ..) (.cj ?_ ?_))))))))
  ·exact .ex (x1 _ _ _ _)
  refine .st (az ..) (.s [bw,bx [(iA 0)],bx [(im (p.map c8) false)],w767] (.cT r8 ?_))
  exact ih _ _ _
def fx (self:(List UInt8)->Int->Option (Bool×af×(List UInt8))) (n:Nat) (b:Int) (c:Int) (g:Int) (h:Int) (i:ByteArray):Nat->Int->(List UInt8)->(List af)->Option (((List UInt8))⊕((List UInt8)×(List af)))
 | 0,_,_,_=>none
 | m+1,d,e,f=>bif (decide (d<c)) then ((self e (wr .i64 (b+1))).bind fun a=>bif a.1 then ((cO 56 f ([a.2.1])).bind fun j=>fx self n b c g h i m (wr .i64 (d+1)) a.2.2 j) else (some ((Sum.inl a.2.2)))) else (some ((Sum.inr ((e,f)))))
theorem yR (self:(List UInt8)->Int->Option (Bool×af×(List UInt8))) (hS:EH C (n+8) self) (k:Int) (w:Int) (d:Int) (e:Int) (h:ByteArray) {K:(((List UInt8))⊕((List UInt8)×(List af)))->Option γ} (z:∀ (i:(List UInt8)) (o:A) (p:A) (s4:A) (q:A) (r:A) (q3:aw) (q4:aw),J φ (kp (A.ifc 33 (iA 10)) (St.mk [(0,o),(1,p),(4,s4),(36,q),(37,r)] [bw,bx [(iA 0)],bx [(im (i.map c8) false)],q3,q4])) kL (K (Sum.inl i)) some) (x1:∀ (i:(List UInt8)) (u:(List af)) (o:A) (p:A) (q:A) (r:A),J φ (kx 1 (St.mk [(0,o),(1,p),(4,(pt 3 0)),(36,q),(37,r)] [bw,bx [(iA 0)],bx [(im (i.map c8) false)],bx [(iA d),(iA e),(sA h),(bL 4 0 u.length false)],aw.row false 4 (u.map ak)])) kL (K (Sum.inr ((i,u)))) some) :
  ∀ (m:Nat) (v:Int) (j:(List UInt8)) (a:(List af)),J φ (aA (cx C) (ec C n 8) (ey C n 8) (n+8) 91 0 0 5 kx kg kr kp m (St.mk [(0,(pt 2 0)),(1,(iA k)),(4,(pt 3 0)),(36,(iA w)),(37,(iA v))] [bw,bx [(iA 0)],bx [(im (j.map c8) false)],bx [(iA d),(iA e),(sA h),(bL 4 0 a.length false)],aw.row false 4 (a.map ak)])) kL (fx self n k w d e h m v j a) K:=by
  refine nI (fun _ _ _=>.nn) fun m ih v j a=>.lp (GX ..) ?_
  unfold fx
  refine .st (aV ..) (.cj ?_ ?_)
  ·refine .s (pt 3 3) (.s (bL 4 0 a.length false) (.st (az ..) (.cT r8 (.bg (fun (t:Out×ar) (y:(Bool×af×(List UInt8)))=>t=((bif y.1 then Out.ret (ag [(iA y.2.1.Kind),(iA y.2.1.N),(sA y.2.1.S),(im (y.2.1.L.map ak) false)]) else Out.pan (A.ifc 33 (iA 10))),[bw,bx [(iA 0)],bx [(im (y.2.2.map c8) false)],bx [(iA d),(iA e),(sA h),(bL 4 0 a.length false)],aw.row false 4 (a.map ak)])) (hS j (wr .i64 (k+1)) [bx [(iA d),(iA e),(sA h),(bL 4 0 a.length false)],aw.row false 4 (a.map ak)]) ?_))))
   rintro _ c rfl
   refine .ob ?_ ?_
   ·refine .ok (.s (im [[(iA c.2.1.Kind),(iA c.2.1.N),(sA c.2.1.S),(im (c.2.1.L.map ak) false)]] true) (.bd (g:=fun (y:List af)=>((bL 4 0 y.length false),[bw,bx [(iA 0)],bx [(im (c.2.2.map c8) false)],bx [(iA d),(iA e),(sA h),(bL 4 0 a.length false)],aw.row false 4 (y.map ak)])) (bS ew (l:=a) (l2:=[c.2.1]) (b:=4) rfl (by decide) (gI (f:=ak) (l:=([c.2.1]:List af)) y6)) fun x=>.s (pt 3 3) (.sh (.st (az ..) (.s [bw,bx [(iA 0)],bx [(im (c.2.2.map c8) false)],bx [(iA d),(iA e),(sA h),(bL 4 0 x.length false)],aw.row false 4 (x.map ak)] (.cT r8 ?_))))))
    exact ih _ _ _
   exact .ky (.ex (z _ _ _ _ _ _ _ _))
  exact .ex (x1 _ _ _ _ _ _)
def uD (self:(List UInt8)->Int->Option (Bool×af×(List UInt8))) (n:Nat) (a2:(List UInt8)) (f:Int):Option (Bool×af×(List UInt8)):=
 bif (!(decide (1<=((a2.length:Int))))) then (some ((false,(default:af),a2))) else ((gD a2 0 1).bind fun h=>(gD a2 1 ((a2.length:Int))).bind fun c=>(bl h 0).bind fun a=>bif ((wr .i64 ((a.toNat:Int)))==1) then ((dE (n+1)  (n+7) 0 0 c).bind fun i=>match i with | (Sum.inl j)=>some ((false,(default:af),j)) | (Sum.inr ((k,l)))=>(zJ k).bind fun o=>some ((true,(af.mk (wr .i64 ((a.toNat:Int))) o jv ([])),l))) else (bif ((wr .i64 ((a.toNat:Int)))==2) then ((dE n  (n+6) 0 0 c).bind fun p=>match p with | (Sum.inl q)=>some ((false,(default:af),q)) | (Sum.inr ((d,b)))=>bif (!(decide (d<=(wr .u64 ((b.length:Int)))))) then (some ((false,(default:af),b))) else (bif (!(decide ((wr .i64 (d))<=((b.length:Int))))) then (some ((false,(default:af),b))) else ((gD b 0 (wr .i64 (d))).bind fun r=>(gD b (wr .i64 (d)) ((b.length:Int))).bind fun s=>some ((true,(af.mk (wr .i64 ((a.toNat:Int))) 0 (nB r) ([])),s))))) else (bif ((wr .i64 ((a.toNat:Int)))==3) then (bif (!(decide (f<16))) then (some ((false,(default:af),c))) else ((dE n  (n+6) 0 0 c).bind fun t=>match t with | (Sum.inl u)=>some ((false,(default:af),u)) | (Sum.inr ((g,e)))=>bif (!(decide (g<=(wr .u64 ((e.length:Int)))))) then (some ((false,(default:af),e))) else ((fx self n f (wr .i64 (g)) (wr .i64 ((a.toNat:Int))) 0 jv (n+8) 0 e (([]:List af))).bind fun v=>match v with | (Sum.inl w)=>some ((false,(default:af),w)) | (Sum.inr ((x,y)))=>some ((true,(af.mk (wr .i64 ((a.toNat:Int))) 0 jv y),x))))) else (some ((false,(default:af),c))))))
theorem JF (C:OT) (n:Nat) (a0:ta C) (self:(List UInt8)->Int->Option (Bool×af×(List UInt8))) (hS:EH C (n+8) self) (a2:(List UInt8)) (q:Int):J (fun (o:R) (y:(Bool×af×(List UInt8)))=>∃ Z,o=((bif y.1 then Out.ret (ag [(iA y.2.1.Kind),(iA y.2.1.N),(sA y.2.1.S),(im (y.2.1.L.map ak) false)]) else Out.pan (A.ifc 33 (iA 10))),[bw,bx [(iA 0)],bx [(im (y.2.2.map c8) false)]]++Z)) (aJ (cx C) (ec C n 8) (ey C n 8) (n+8) 91 [(pt 2 0),(iA q)] [bw,bx [(iA 0)],bx [(im (a2.map c8) false)]] 0) some (uD self n a2 q) some:=by
 refine .lp (Nr ..) ?_
 unfold uD
 refine .s ((pt 3 0),[bw,bx [(iA 0)],bx [(im (a2.map c8) false)],bw]) (.cl ((aO xh).trans (E4 ..)) (.s (pt 2 0) (.s2 (im (a2.map c8) false) (.st (dV (e:=5)) (.st (eH ..) (.cl ((aO nW).trans (Cu ..)) (.s (bA (!(decide (1<=((a2.length:Int)))))) (.cj ?_ ?_))))))))
 ·exact .s (A.ifc 33 (iA 10)) (.pk (.cr (.ky (.cr (.ky (.lf rfl rfl ⟨[bw],rfl⟩))))))
 refine .cr (.ok (.s (pt 2 0) (.s2 (im (a2.map c8) false) (.bd (nH (e:=5) (es:=1) (f:=c8) (l:=a2) (a:=0) (b:=1) r8 r8 (fun _=>rfl) (.inl ⟨rfl,rfl⟩)) fun y5=>.s (pt 2 0) (.s2 (im (a2.map c8) false) (.bd (pO (e:=5) (es:=1) (f:=c8) (l:=a2) (a:=1) (b:=(a2.length:Int)) r8 r8 (fun _=>rfl) (.inr ⟨_,rfl⟩) (.inl ⟨rfl,rfl⟩)) fun i=>.s (pt 2 0) (.s (pt 2 0) (.s [bw,bx [(iA 0)],bx [(im (i.map c8) false)],bw] (.cr (.ok (.bd (eR (e:=5) (es:=1)) fun c=>.s (uA ((c.toNat:Int))) (.st (v:=(iA (wr .i64 ((c.toNat:Int))))) (aQ (hs:=by kernel_rfl) (hd:=by kernel_rfl) ..) (.s (pt 3 0) (.s [bw,bx [(iA 0)],bx [(im (i.map c8) false)],(gJ c)] (.s2 (iA (wr .i64 ((c.toNat:Int)))) (.st (bt ..) (.cj ?_ ?_)))))))))))))))))
 ·refine .cl ((aO xi).trans (E5 ..)) (.as (kR C (n+1) _ _ _ _  ?_ ?_ _ 0 0 i))
  ·intro a5 a6 a7 a8
   exact .un rfl (.cr (.ky (.lf rfl rfl ⟨[(gJ c)],rfl⟩)))
  ·intro a1 x a9 aa
   exact .un rfl (.cr (.ok (.bd (a0 a1) fun j=>.s (pt 3 1) (.sh (.s (ag [(iA (wr .i64 ((c.toNat:Int)))),(iA j),se,N3]) (.s [bw,bx [(iA 0)],bx [(im (x.map c8) false)],bx [(iA (wr .i64 ((c.toNat:Int)))),(iA j),se,N3]] (.s (ag [(iA (wr .i64 ((c.toNat:Int)))),(iA j),se,(im [] false)]) (.lf rfl rfl (p7 (o:=Out.ret (ag [(iA (wr .i64 ((c.toNat:Int)))),(iA j),se,(im [] false)])) (lo:=0) (off:=3) (b:=3) (p:=0) (H2:=[bw,bx [(iA 0)],bx [(im (x.map c8) false)]]) (X:=[bx [(iA (wr .i64 ((c.toNat:Int)))),(iA j),se,N3]]) (Pc rfl))))))))))
 refine .st (bt ..) (.cj ?_ ?_)
 ·refine .cl ((aO Bp).trans (GC ..)) (.cl ((aO xi).trans (E5 ..)) (.as (kR C n _ _ _ _  ?_ ?_ _ 0 0 i)))
  ·intro ab ad ae ah
   exact .un rfl (.cr (.ky (.cr (.ky (.lf rfl rfl ⟨[(gJ c)],rfl⟩)))))
  ·intro k d ai aj
   refine .un rfl (.cr (.ok (.s (pt 2 0) (.s2 (im (d.map c8) false) (.st (dV (e:=5)) (.st (v:=(A.v (.int .u64 (wr .u64 ((d.length:Int)))))) (aQ (hs:=by kernel_rfl) (hd:=by kernel_rfl) ..) (.st (eH ..) (.cl ((aO nW).trans (Cu ..)) (.s (bA (!(decide (k<=(wr .u64 ((d.length:Int))))))) (.cj ?_ ?_))))))))))
   ·exact .s (A.ifc 33 (iA 10)) (.pk (.cr (.ky (.cr (.ky (.lf rfl rfl ⟨[(gJ c)],rfl⟩))))))
   refine .cr (.ok (.st (v:=(iA (wr .i64 (k)))) (aQ (hs:=by kernel_rfl) (hd:=by kernel_rfl) ..) (.cr (.ok (.cl ((aO xh).trans (E4 ..)) (.s (pt 2 0) (.s2 (im (d.map c8) false) (.st (dV (e:=5)) (.st (eH ..) (.cl ((aO nW).trans (Cu ..)) (.s (bA (!(decide ((wr .i64 (k))<=((d.length:Int)))))) (.cj ?_ ?_))))))))))))
   ·exact .s (A.ifc 33 (iA 10)) (.pk (.cr (.ky (.cr (.ky (.lf rfl rfl ⟨[(gJ c)],rfl⟩))))))
   exact .cr (.ok (.s (pt 2 0) (.s2 (im (d.map c8) false) (.bd (nH (e:=5) (es:=1) (f:=c8) (l:=d) (a:=0) (b:=wr .i64 (k)) r8 r8 (fun _=>rfl) (.inl ⟨rfl,rfl⟩)) fun h=>.s (pt 2 0) (.s2 (im (d.map c8) false) (.bd (pO (e:=5) (es:=1) (f:=c8) (l:=d) (a:=wr .i64 (k)) (b:=(d.length:Int)) r8 r8 (fun _=>rfl) (.inr ⟨_,rfl⟩) (.inl ⟨rfl,rfl⟩)) fun t=>.s (pt 2 0) (.s (pt 2 0) (.s [bw,bx [(iA 0)],bx [(im (t.map c8) false)],(gJ c)] (.cr (.ok (.st (v:=(A.v (Value.string (nB h)))) (Cq (e:=5) (l:=h) r8 r8 r8 r8 (bN ..) rfl) (.s (pt 3 2) (.sh (.s (ag [(iA (wr .i64 ((c.toNat:Int)))),(iA 0),(A.v (Value.string (nB h))),N3]) (.s [bw,bx [(iA 0)],bx [(im (t.map c8) false)],bx [(iA (wr .i64 ((c.toNat:Int)))),(iA 0),(A.v (Value.string (nB h))),N3]] (.s (ag [(iA (wr .i64 ((c.toNat:Int)))),(iA 0),(A.v (Value.string (nB h))),(im [] false)]) (.lf rfl rfl (p7 (o:=Out.ret (ag [(iA (wr .i64 ((c.toNat:Int)))),(iA 0),(A.v (Value.string (nB h))),(im [] false)])) (lo:=0) (off:=3) (b:=3) (p:=0) (H2:=[bw,bx [(iA 0)],bx [(im (t.map c8) false)]]) (X:=[bx [(iA (wr .i64 ((c.toNat:Int)))),(iA 0),(A.v (Value.string (nB h))),N3]]) (Pc rfl)))))))))))))))))))
 refine .st (bt ..) (.cj ?_ ?_)
 ·refine .st (aV ..) (.cl ((aO nW).trans (Cu ..)) (.s (bA (!(decide (q<16)))) (.cj ?_ ?_)))
  ·exact .s (A.ifc 33 (iA 10)) (.pk (.cr (.ky (.lf rfl rfl ⟨[(gJ c)],rfl⟩))))
  refine .cr (.ok (.cl ((aO Bp).trans (GC ..)) (.cl ((aO xi).trans (E5 ..)) (.as (kR C n _ _ _ _  ?_ ?_ _ 0 0 i)))))
  ·intro al am an ao
   exact .un rfl (.cr (.ky (.cr (.ky (.lf rfl rfl ⟨[(gJ c)],rfl⟩)))))
  ·intro u r ap aq
   refine .un rfl (.cr (.ok (.s (pt 2 0) (.s2 (im (r.map c8) false) (.st (dV (e:=5)) (.st (v:=(A.v (.int .u64 (wr .u64 ((r.length:Int)))))) (aQ (hs:=by kernel_rfl) (hd:=by kernel_rfl) ..) (.st (eH ..) (.cl ((aO nW).trans (Cu ..)) (.s (bA (!(decide (u<=(wr .u64 ((r.length:Int))))))) (.cj ?_ ?_))))))))))
   ·exact .s (A.ifc 33 (iA 10)) (.pk (.cr (.ky (.cr (.ky (.lf rfl rfl ⟨[(gJ c)],rfl⟩))))))
   refine .cr (.ok (.st (v:=(iA (wr .i64 (u)))) (aQ (hs:=by kernel_rfl) (hd:=by kernel_rfl) ..) (.cr (.ok (.as (yR C n _ _ _ _ self hS q (wr .i64 (u)) (wr .i64 ((c.toNat:Int))) 0 jv ?_ ?_ _ 0 r (([]:List af))))))))
   ·intro ar au av ax ay az w1516 w1517
    exact .un rfl (.lf rfl rfl ⟨[w1516,w1517],rfl⟩)
   ·intro w g b0 b1 b2 b3
    exact .un rfl (.cT r8 (.s (ag [(iA (wr .i64 ((c.toNat:Int)))),(iA 0),se,(bL 4 0 g.length false)]) (.s [bw,bx [(iA 0)],bx [(im (w.map c8) false)],bx [(iA (wr .i64 ((c.toNat:Int)))),(iA 0),se,(bL 4 0 g.length false)],aw.row false 4 (g.map ak)] (.st (v:=(ag [(iA (wr .i64 ((c.toNat:Int)))),(iA 0),se,(im (g.map ak) false)])) ((Po (fun z=>kI prog 107 (pt 3 0) z) (Ay (H:=[bw,bx [(iA 0)],bx [(im (w.map c8) false)],bx [(iA (wr .i64 ((c.toNat:Int)))),(iA 0),se,(bL 4 0 g.length false)],aw.row false 4 (g.map ak)]) (lo:=0) (off:=3) (b:=3) (o:=0) (b':=4) (es:=4) (l:=g) cg rfl rfl rfl (Pc rfl))).trans r8) (.lf rfl rfl (p7 (o:=Out.ret (ag [(iA (wr .i64 ((c.toNat:Int)))),(iA 0),se,(im (g.map ak) false)])) (lo:=0) (off:=3) (b:=3) (p:=0) (H2:=[bw,bx [(iA 0)],bx [(im (w.map c8) false)]]) (X:=[bx [(iA (wr .i64 ((c.toNat:Int)))),(iA 0),se,(bL 4 0 g.length false)],aw.row false 4 (g.map ak)]) (Pc rfl)))))))
 exact .cl ((aO nW).trans (Cu ..)) (.s (bA true) (.Gw (.s (A.ifc 33 (iA 10)) (.pk (.cr (.ky (.lf rfl rfl ⟨[(gJ c)],rfl⟩)))))))
def zI:Nat->(List UInt8)->Int->Option (Bool×af×(List UInt8))
 | 0=>fun _ _=>none
 | N+1=>fun a2 a3=>bif Nat.ble 8 N then uD (zI N) (N - 8) a2 a3 else none
theorem Gj (C:OT) (a:ta C):∀ N,EH C N (zI N)
 | 0=>fun _ _ X r h=>by cases h
 | N+1=>fun a2 b X=>by
  show J _ _ _ (bif Nat.ble 8 N then uD (zI N) (N - 8) a2 b else none) _
  cases h:Nat.ble 8 N with
  | false=>exact fun r h=>by cases h
  | true=>
   obtain ⟨n,rfl⟩:∃ n,N=n+8:=⟨N - 8,by have:=Pc h; omega⟩
   rw[Nat.add_sub_cancel]
   exact D8 (m:=3) r8 r8 (by decide) rfl r8 ((by kernel_rfl:_=((((ax 3 (a2.map c8))&&true))&&true)).trans s5) (fun _=>rfl) (fun y=>(by show jT 3 (bif y.1 then Out.ret (ag [(iA y.2.1.Kind),(iA y.2.1.N),(sA y.2.1.S),(im (y.2.1.L.map ak) false)]) else Out.pan (A.ifc 33 (iA 10)))=true; cases y.1 with | true=>exact((by kernel_rfl:_=((ax 3 (y.2.1.L.map ak))&&true)).trans s5) | false=>rfl)) (fun y=>((by kernel_rfl:_=((((ax 3 (y.2.2.map c8))&&true))&&true)).trans s5)) (JF C n a (zI (n+8)) (Gj C a (n+8)) a2 b)
def II (n:Nat) (b:(List UInt8)):Option (af×Int):=
 (zI (n+8) b 0).bind fun a=>bif a.1 then (bif (!(((a.2.2.length:Int))==0)) then (some (((af.mk 0 0 jv ([])),10))) else (some ((a.2.1,0)))) else (some (((af.mk 0 0 jv ([])),10)))
theorem MK (C:OT) (n:Nat) (c:ta C) (b:(List UInt8)):TJ C n 66 [(im (b.map c8) false)] (II n b) (fun y=>(tp [(ag (ae y.1)),(iA y.2)])):=by
 refine .lp (Nj ..) ?_
 unfold II
 refine .s ((pt 0 0),[bw]) (.s ((pt 1 0),[bw,bx [(iA 0)]]) (.s (ag [(im (b.map c8) false)]) (.s ((pt 2 0),[bw,bx [(iA 0)],bx [(im (b.map c8) false)]]) (.bg (fun (t:Out×ar) (y:(Bool×af×(List UInt8)))=>t=((bif y.1 then Out.ret (ag [(iA y.2.1.Kind),(iA y.2.1.N),(sA y.2.1.S),(im (y.2.1.L.map ak) false)]) else Out.pan (A.ifc 33 (iA 10))),[bw,bx [(iA 0)],bx [(im (y.2.2.map c8) false)]])) (Gj C c (n+8) b 0 []) ?_))))
 rintro _ a rfl
 refine .ob ?_ ?_
 ·refine .ok (.s [bx (ae a.2.1),bx [(iA 0)],bx [(im (a.2.2.map c8) false)]] (.s (pt 2 0) (.s2 (im (a.2.2.map c8) false) (.st (dV (e:=5)) (.st (bt ..) (.cl ((aO nW).trans (Cu ..)) (.s (bA (!(((a.2.2.length:Int))==0))) (.cj ?_ ?_))))))))
  ·exact .s (A.ifc 33 (iA 10)) (.pk (.cr (.ky (.s (bA true) (.Gw (.s (ag [(iA 0),(iA 0),se,N3]) (.s (iA 10) (.sh (.s [bw,bx [(iA 10)],bx [(im (a.2.2.map c8) false)]] (.s (ag [(iA 0),(iA 0),se,N3]) (.s (iA 10) (.lv u3))))))))))))
  exact .cr (.ok (.s (ag (ae a.2.1)) (.sh (.s [bx (ae a.2.1),bx [(iA 0)],bx [(im (a.2.2.map c8) false)]] (.s (bA false) (.Gt (.s (ag (ae a.2.1)) (.s (iA 0) (.lv u3)))))))))
 exact .ky (.s (bA true) (.Gw (.s (ag [(iA 0),(iA 0),se,N3]) (.s (iA 10) (.sh (.s [bw,bx [(iA 10)],bx [(im (a.2.2.map c8) false)]] (.s (ag [(iA 0),(iA 0),se,N3]) (.s (iA 10) (.lv u3)))))))))
def Gg (a:(List UInt8)):Option (af×Int):=II aE a
def DX (C:OT):Prop:=∀ (a:(List UInt8)),C 66 [(im (a.map c8) false)]=(Gg a).map fun y=>(tp [(ag (ae y.1)),(iA y.2)])
def df (n:Nat) (j:Bool) (b:(List af)) (c:Int) (k:Int) (l:Int) (o:Int) (p:af):Nat->Int->Int->Int->Int->Int->Int->Option ((Bool×Int×Int×Int×Int×Int)⊕(Int×Int×Int×Int×Int))
 | 0,_,_,_,_,_,_=>none
 | m+1,a,d,e,f,g,h=>bif (decide (a<c)) then ((bl b a).bind fun i=>bif (i.Kind != 1) then (some ((Sum.inl ((false,d,e,f,g,h))))) else (bif decide (a=0) then (df n j b c k l o p m (wr .i64 (a+1)) i.N e f g h) else bif decide (a=1) then (df n j b c k l o p m (wr .i64 (a+1)) d i.N f g h) else bif decide (a=2) then (df n j b c k l o p m (wr .i64 (a+1)) d e i.N g h) else bif decide (a=3) then (df n j b c k l o p m (wr .i64 (a+1)) d e f i.N h) else bif decide (a=4) then (df n j b c k l o p m (wr .i64 (a+1)) d e f g i.N) else none)) else (some ((Sum.inr ((d,e,f,g,h)))))
theorem Ao (a0:Bool) (l:(List af)) (a1:Int) (b:Int) (c:Int) (d:Int) (f:af) {K:((Bool×Int×Int×Int×Int×Int)⊕(Int×Int×Int×Int×Int))->Option γ} (x0:∀ (o:Bool) (p:Int) (q:Int) (r:Int) (t:Int) (o5:Int) (u:A) (w:A) (x:A) (y:A) (q1:aw) (q2:aw) (q3:aw),J φ (kr (St.mk [(2,(pt 0 0)),(3,(bA o)),(6,u),(53,w),(54,x),(55,y)] [bx [(iA p),(iA q),(iA r),(iA t),(iA o5),(iA b),(iA c),(iA d)],q1,q2,q3])) kL (K (Sum.inl ((o,p,q,r,t,o5)))) some) (x1:∀ (o:Int) (p:Int) (q:Int) (r:Int) (t:Int) (s3:A) (u:A) (w:A) (x:A) (y:A) (q1:aw) (q2:aw),J φ (kx 0 (St.mk [(2,(pt 0 0)),(3,s3),(6,u),(53,w),(54,x),(55,y)] [bx [(iA o),(iA p),(iA q),(iA r),(iA t),(iA b),(iA c),(iA d)],q1,q2])) kL (K (Sum.inr ((o,p,q,r,t)))) some) :
  ∀ (m:Nat) (z:Int) (g:Int) (h:Int) (i:Int) (j:Int) (k:Int),J φ (aA (cx C) (ec C n 8) (ey C n 8) (n+8) 35 0 0 3 kx kg kr kp m (St.mk [(2,(pt 0 0)),(3,(bA a0)),(6,(bL 2 0 5 false)),(53,(im (l.map ak) false)),(54,(iA a1)),(55,(iA z))] [bx [(iA g),(iA h),(iA i),(iA j),(iA k),(iA b),(iA c),(iA d)],bx (ae f),aw.row true 1 [[(pt 0 0)],[(pt 0 1)],[(pt 0 2)],[(pt 0 3)],[(pt 0 4)],[(pt 0 0)],[(pt 0 5)],[(pt 0 6)],[(pt 0 7)]]])) kL (df n a0 l a1 b c d f m z g h i j k) K:=by
  refine nI (fun _ _ _ _ _ _=>.nn) fun m ih z g h i j k=>.lp (Eb ..) ?_
  unfold df
  refine .st (aV ..) (.cj ?_ ?_)
  ·refine .bd ((eR (e:=107) (es:=4)).trans (gu _)) fun a=>.s (ag (ae a)) (.sq (pt 3 0) (.s [bx [(iA g),(iA h),(iA i),(iA j),(iA k),(iA b),(iA c),(iA d)],bx (ae f),aw.row true 1 [[(pt 0 0)],[(pt 0 1)],[(pt 0 2)],[(pt 0 3)],[(pt 0 4)],[(pt 0 0)],[(pt 0 5)],[(pt 0 6)],[(pt 0 7)]],bx (ae a)] (.s2 (iA a.Kind) (.st (aB ..) (.cj ?_ ?_)))))
   ·exact .s (ag [(iA g),(iA h),(iA i),(iA j),(iA k),(iA b),(iA c),(iA d)]) (.s [bx [(iA g),(iA h),(iA i),(iA j),(iA k),(iA b),(iA c),(iA d)],bx (ae f),aw.row true 1 [[(pt 0 0)],[(pt 0 1)],[(pt 0 2)],[(pt 0 3)],[(pt 0 4)],[(pt 0 0)],[(pt 0 5)],[(pt 0 6)],[(pt 0 7)]],bx (ae a)] (.ex (x0 _ _ _ _ _ _ _ _ _ _ _ _ _)))
   refine .sp (fun a5=>?_) (fun _=>?_)
   ·refine .st (v:=(A.ep 2 0 0)) (by rw[Oe a5]; kernel_rfl) (.s (pt 0 0) (.s2 (iA a.N) (.s (pt 0 0) (.s [bx [(iA a.N),(iA h),(iA i),(iA j),(iA k),(iA b),(iA c),(iA d)],bx (ae f),aw.row true 1 [[(pt 0 0)],[(pt 0 1)],[(pt 0 2)],[(pt 0 3)],[(pt 0 4)],[(pt 0 0)],[(pt 0 5)],[(pt 0 6)],[(pt 0 7)]],bx (ae a)] (.st (az ..) (.st (v:=[bx [(iA a.N),(iA h),(iA i),(iA j),(iA k),(iA b),(iA c),(iA d)],bx (ae f),aw.row true 1 [[(pt 0 0)],[(pt 0 1)],[(pt 0 2)],[(pt 0 3)],[(pt 0 4)],[(pt 0 0)],[(pt 0 5)],[(pt 0 6)],[(pt 0 7)]]]) (cU r8 x6) (.cT ((by kernel_rfl:_=(bif ax 3 (l.map ak) then true else false)).trans s5) ?_)))))))
    exact ih _ _ _ _ _ _
   refine .sp (fun a6=>?_) (fun _=>?_)
   ·refine .st (v:=(A.ep 2 1 0)) (by rw[Oe a6]; kernel_rfl) (.s (pt 0 1) (.s2 (iA a.N) (.s (pt 0 1) (.s [bx [(iA g),(iA a.N),(iA i),(iA j),(iA k),(iA b),(iA c),(iA d)],bx (ae f),aw.row true 1 [[(pt 0 0)],[(pt 0 1)],[(pt 0 2)],[(pt 0 3)],[(pt 0 4)],[(pt 0 0)],[(pt 0 5)],[(pt 0 6)],[(pt 0 7)]],bx (ae a)] (.st (az ..) (.st (v:=[bx [(iA g),(iA a.N),(iA i),(iA j),(iA k),(iA b),(iA c),(iA d)],bx (ae f),aw.row true 1 [[(pt 0 0)],[(pt 0 1)],[(pt 0 2)],[(pt 0 3)],[(pt 0 4)],[(pt 0 0)],[(pt 0 5)],[(pt 0 6)],[(pt 0 7)]]]) (cU r8 x6) (.cT ((by kernel_rfl:_=(bif ax 3 (l.map ak) then true else false)).trans s5) ?_)))))))
    exact ih _ _ _ _ _ _
   refine .sp (fun a7=>?_) (fun _=>?_)
   ·refine .st (v:=(A.ep 2 2 0)) (by rw[Oe a7]; kernel_rfl) (.s (pt 0 2) (.s2 (iA a.N) (.s (pt 0 2) (.s [bx [(iA g),(iA h),(iA a.N),(iA j),(iA k),(iA b),(iA c),(iA d)],bx (ae f),aw.row true 1 [[(pt 0 0)],[(pt 0 1)],[(pt 0 2)],[(pt 0 3)],[(pt 0 4)],[(pt 0 0)],[(pt 0 5)],[(pt 0 6)],[(pt 0 7)]],bx (ae a)] (.st (az ..) (.st (v:=[bx [(iA g),(iA h),(iA a.N),(iA j),(iA k),(iA b),(iA c),(iA d)],bx (ae f),aw.row true 1 [[(pt 0 0)],[(pt 0 1)],[(pt 0 2)],[(pt 0 3)],[(pt 0 4)],[(pt 0 0)],[(pt 0 5)],[(pt 0 6)],[(pt 0 7)]]]) (cU r8 x6) (.cT ((by kernel_rfl:_=(bif ax 3 (l.map ak) then true else false)).trans s5) ?_)))))))
    exact ih _ _ _ _ _ _
   refine .sp (fun a8=>?_) (fun _=>?_)
   ·refine .st (v:=(A.ep 2 3 0)) (by rw[Oe a8]; kernel_rfl) (.s (pt 0 3) (.s2 (iA a.N) (.s (pt 0 3) (.s [bx [(iA g),(iA h),(iA i),(iA a.N),(iA k),(iA b),(iA c),(iA d)],bx (ae f),aw.row true 1 [[(pt 0 0)],[(pt 0 1)],[(pt 0 2)],[(pt 0 3)],[(pt 0 4)],[(pt 0 0)],[(pt 0 5)],[(pt 0 6)],[(pt 0 7)]],bx (ae a)] (.st (az ..) (.st (v:=[bx [(iA g),(iA h),(iA i),(iA a.N),(iA k),(iA b),(iA c),(iA d)],bx (ae f),aw.row true 1 [[(pt 0 0)],[(pt 0 1)],[(pt 0 2)],[(pt 0 3)],[(pt 0 4)],[(pt 0 0)],[(pt 0 5)],[(pt 0 6)],[(pt 0 7)]]]) (cU r8 x6) (.cT ((by kernel_rfl:_=(bif ax 3 (l.map ak) then true else false)).trans s5) ?_)))))))
    exact ih _ _ _ _ _ _
   refine .sp (fun a9=>?_) (fun _=>?_)
   ·refine .st (v:=(A.ep 2 4 0)) (by rw[Oe a9]; kernel_rfl) (.s (pt 0 4) (.s2 (iA a.N) (.s (pt 0 4) (.s [bx [(iA g),(iA h),(iA i),(iA j),(iA a.N),(iA b),(iA c),(iA d)],bx (ae f),aw.row true 1 [[(pt 0 0)],[(pt 0 1)],[(pt 0 2)],[(pt 0 3)],[(pt 0 4)],[(pt 0 0)],[(pt 0 5)],[(pt 0 6)],[(pt 0 7)]],bx (ae a)] (.st (az ..) (.st (v:=[bx [(iA g),(iA h),(iA i),(iA j),(iA a.N),(iA b),(iA c),(iA d)],bx (ae f),aw.row true 1 [[(pt 0 0)],[(pt 0 1)],[(pt 0 2)],[(pt 0 3)],[(pt 0 4)],[(pt 0 0)],[(pt 0 5)],[(pt 0 6)],[(pt 0 7)]]]) (cU r8 x6) (.cT ((by kernel_rfl:_=(bif ax 3 (l.map ak) then true else false)).trans s5) ?_)))))))
    exact ih _ _ _ _ _ _
   exact .nn
  exact .ex (x1 _ _ _ _ _ _ _ _ _ _ _ _)
def c9 (n:Nat) (i:Bool) (b:(List af)) (c:Int) (j:Int) (k:Int) (l:Int) (o:Int) (p:af):Nat->Int->Int->Int->Int->Int->Option ((Bool×Int×Int×Int×Int)⊕(Int×Int×Int×Int))
 | 0,_,_,_,_,_=>none
 | m+1,a,d,e,f,g=>bif (decide (a<c)) then ((bl b a).bind fun h=>bif (h.Kind != 1) then (some ((Sum.inl ((false,d,e,f,g))))) else (bif decide (a=0) then (c9 n i b c j k l o p m (wr .i64 (a+1)) h.N e f g) else bif decide (a=1) then (c9 n i b c j k l o p m (wr .i64 (a+1)) d h.N f g) else bif decide (a=2) then (c9 n i b c j k l o p m (wr .i64 (a+1)) d e h.N g) else bif decide (a=3) then (c9 n i b c j k l o p m (wr .i64 (a+1)) d e f h.N) else none)) else (some ((Sum.inr ((d,e,f,g)))))
theorem yP (z:Bool) (l:(List af)) (a0:Int) (b:Int) (c:Int) (d:Int) (f:Int) (g:af) {K:((Bool×Int×Int×Int×Int)⊕(Int×Int×Int×Int))->Option γ} (x0:∀ (o:Bool) (p:Int) (q:Int) (r:Int) (o4:Int) (t:A) (u:A) (w:A) (x:A) (q1:aw) (q2:aw) (q3:aw),J φ (kr (St.mk [(2,(pt 0 0)),(3,(bA o)),(6,t),(53,u),(54,w),(55,x)] [bx [(iA p),(iA b),(iA c),(iA d),(iA f),(iA q),(iA r),(iA o4)],q1,q2,q3])) kL (K (Sum.inl ((o,p,q,r,o4)))) some) (x1:∀ (o:Int) (p:Int) (q:Int) (r:Int) (s3:A) (t:A) (u:A) (w:A) (x:A) (q1:aw) (q2:aw),J φ (kx 0 (St.mk [(2,(pt 0 0)),(3,s3),(6,t),(53,u),(54,w),(55,x)] [bx [(iA o),(iA b),(iA c),(iA d),(iA f),(iA p),(iA q),(iA r)],q1,q2])) kL (K (Sum.inr ((o,p,q,r)))) some) :
  ∀ (m:Nat) (y:Int) (h:Int) (i:Int) (j:Int) (k:Int),J φ (aA (cx C) (ec C n 8) (ey C n 8) (n+8) 35 0 0 3 kx kg kr kp m (St.mk [(2,(pt 0 0)),(3,(bA z)),(6,(bL 2 5 4 true)),(53,(im (l.map ak) false)),(54,(iA a0)),(55,(iA y))] [bx [(iA h),(iA b),(iA c),(iA d),(iA f),(iA i),(iA j),(iA k)],bx (ae g),aw.row true 1 [[(pt 0 0)],[(pt 0 1)],[(pt 0 2)],[(pt 0 3)],[(pt 0 4)],[(pt 0 0)],[(pt 0 5)],[(pt 0 6)],[(pt 0 7)]]])) kL (c9 n z l a0 b c d f g m y h i j k) K:=by
  refine nI (fun _ _ _ _ _=>.nn) fun m ih y h i j k=>.lp (Eb ..) ?_
  unfold c9
  refine .st (aV ..) (.cj ?_ ?_)
  ·refine .bd ((eR (e:=107) (es:=4)).trans (gu _)) fun a=>.s (ag (ae a)) (.sq (pt 3 0) (.s [bx [(iA h),(iA b),(iA c),(iA d),(iA f),(iA i),(iA j),(iA k)],bx (ae g),aw.row true 1 [[(pt 0 0)],[(pt 0 1)],[(pt 0 2)],[(pt 0 3)],[(pt 0 4)],[(pt 0 0)],[(pt 0 5)],[(pt 0 6)],[(pt 0 7)]],bx (ae a)] (.s2 (iA a.Kind) (.st (aB ..) (.cj ?_ ?_)))))
   ·exact .s (ag [(iA h),(iA b),(iA c),(iA d),(iA f),(iA i),(iA j),(iA k)]) (.s [bx [(iA h),(iA b),(iA c),(iA d),(iA f),(iA i),(iA j),(iA k)],bx (ae g),aw.row true 1 [[(pt 0 0)],[(pt 0 1)],[(pt 0 2)],[(pt 0 3)],[(pt 0 4)],[(pt 0 0)],[(pt 0 5)],[(pt 0 6)],[(pt 0 7)]],bx (ae a)] (.ex (x0 _ _ _ _ _ _ _ _ _ _ _ _)))
   refine .sp (fun a5=>?_) (fun _=>?_)
   ·refine .st (v:=(A.ep 2 5 0)) (by rw[Oe a5]; kernel_rfl) (.s (pt 0 0) (.s2 (iA a.N) (.s (pt 0 0) (.s [bx [(iA a.N),(iA b),(iA c),(iA d),(iA f),(iA i),(iA j),(iA k)],bx (ae g),aw.row true 1 [[(pt 0 0)],[(pt 0 1)],[(pt 0 2)],[(pt 0 3)],[(pt 0 4)],[(pt 0 0)],[(pt 0 5)],[(pt 0 6)],[(pt 0 7)]],bx (ae a)] (.st (az ..) (.st (v:=[bx [(iA a.N),(iA b),(iA c),(iA d),(iA f),(iA i),(iA j),(iA k)],bx (ae g),aw.row true 1 [[(pt 0 0)],[(pt 0 1)],[(pt 0 2)],[(pt 0 3)],[(pt 0 4)],[(pt 0 0)],[(pt 0 5)],[(pt 0 6)],[(pt 0 7)]]]) (cU r8 x6) (.cT ((by kernel_rfl:_=(bif ax 3 (l.map ak) then true else false)).trans s5) ?_)))))))
    exact ih _ _ _ _ _
   refine .sp (fun a6=>?_) (fun _=>?_)
   ·refine .st (v:=(A.ep 2 6 0)) (by rw[Oe a6]; kernel_rfl) (.s (pt 0 5) (.s2 (iA a.N) (.s (pt 0 5) (.s [bx [(iA h),(iA b),(iA c),(iA d),(iA f),(iA a.N),(iA j),(iA k)],bx (ae g),aw.row true 1 [[(pt 0 0)],[(pt 0 1)],[(pt 0 2)],[(pt 0 3)],[(pt 0 4)],[(pt 0 0)],[(pt 0 5)],[(pt 0 6)],[(pt 0 7)]],bx (ae a)] (.st (az ..) (.st (v:=[bx [(iA h),(iA b),(iA c),(iA d),(iA f),(iA a.N),(iA j),(iA k)],bx (ae g),aw.row true 1 [[(pt 0 0)],[(pt 0 1)],[(pt 0 2)],[(pt 0 3)],[(pt 0 4)],[(pt 0 0)],[(pt 0 5)],[(pt 0 6)],[(pt 0 7)]]]) (cU r8 x6) (.cT ((by kernel_rfl:_=(bif ax 3 (l.map ak) then true else false)).trans s5) ?_)))))))
    exact ih _ _ _ _ _
   refine .sp (fun a7=>?_) (fun _=>?_)
   ·refine .st (v:=(A.ep 2 7 0)) (by rw[Oe a7]; kernel_rfl) (.s (pt 0 6) (.s2 (iA a.N) (.s (pt 0 6) (.s [bx [(iA h),(iA b),(iA c),(iA d),(iA f),(iA i),(iA a.N),(iA k)],bx (ae g),aw.row true 1 [[(pt 0 0)],[(pt 0 1)],[(pt 0 2)],[(pt 0 3)],[(pt 0 4)],[(pt 0 0)],[(pt 0 5)],[(pt 0 6)],[(pt 0 7)]],bx (ae a)] (.st (az ..) (.st (v:=[bx [(iA h),(iA b),(iA c),(iA d),(iA f),(iA i),(iA a.N),(iA k)],bx (ae g),aw.row true 1 [[(pt 0 0)],[(pt 0 1)],[(pt 0 2)],[(pt 0 3)],[(pt 0 4)],[(pt 0 0)],[(pt 0 5)],[(pt 0 6)],[(pt 0 7)]]]) (cU r8 x6) (.cT ((by kernel_rfl:_=(bif ax 3 (l.map ak) then true else false)).trans s5) ?_)))))))
    exact ih _ _ _ _ _
   refine .sp (fun a8=>?_) (fun _=>?_)
   ·refine .st (v:=(A.ep 2 8 0)) (by rw[Oe a8]; kernel_rfl) (.s (pt 0 7) (.s2 (iA a.N) (.s (pt 0 7) (.s [bx [(iA h),(iA b),(iA c),(iA d),(iA f),(iA i),(iA j),(iA a.N)],bx (ae g),aw.row true 1 [[(pt 0 0)],[(pt 0 1)],[(pt 0 2)],[(pt 0 3)],[(pt 0 4)],[(pt 0 0)],[(pt 0 5)],[(pt 0 6)],[(pt 0 7)]],bx (ae a)] (.st (az ..) (.st (v:=[bx [(iA h),(iA b),(iA c),(iA d),(iA f),(iA i),(iA j),(iA a.N)],bx (ae g),aw.row true 1 [[(pt 0 0)],[(pt 0 1)],[(pt 0 2)],[(pt 0 3)],[(pt 0 4)],[(pt 0 0)],[(pt 0 5)],[(pt 0 6)],[(pt 0 7)]]]) (cU r8 x6) (.cT ((by kernel_rfl:_=(bif ax 3 (l.map ak) then true else false)).trans s5) ?_)))))))
    exact ih _ _ _ _ _
   exact .nn
  exact .ex (x1 _ _ _ _ _ _ _ _ _ _ _)
def IA (n:Nat) (c:(List UInt8)):Option (aC×Bool):=
 (Gg c).bind fun a=>(bif (a.2 != 0) then (some true) else (some (a.1.Kind != 3))).bind fun d=>(bif d then (some true) else (some (((a.1.L.length:Int))==0))).bind fun e=>bif e then (some (((aC.mk 0 ((bM.mk 0 0 0 0)) ((ba.mk 0 0 0))),false))) else ((bl a.1.L 0).bind fun b=>bif (b.N==1) then ((bif (b.N != 1) then (some (b.N != 2)) else (some false)).bind fun f=>(bif f then (some true) else (some (((a.1.L.length:Int)) != 5))).bind fun g=>bif g then (some (((aC.mk b.N ((bM.mk 0 0 0 0)) ((ba.mk 0 0 0))),false))) else ((df n false a.1.L ((a.1.L.length:Int)) 0 0 0 a.1 (n+8) 0 b.N 0 0 0 0).bind fun h=>match h with | (Sum.inl ((i,j,k,l,o,p)))=>some (((aC.mk j ((bM.mk k l o p)) ((ba.mk 0 0 0))),i)) | (Sum.inr ((q,r,s,t,u)))=>some (((aC.mk q ((bM.mk r s t u)) ((ba.mk 0 0 0))),true)))) else ((bif (b.N != 1) then (some (b.N != 2)) else (some false)).bind fun v=>(bif v then (some true) else (some (((a.1.L.length:Int)) != 4))).bind fun w=>bif w then (some (((aC.mk b.N ((bM.mk 0 0 0 0)) ((ba.mk 0 0 0))),false))) else ((c9 n false a.1.L ((a.1.L.length:Int)) 0 0 0 0 a.1 (n+8) 0 b.N 0 0 0).bind fun x=>match x with | (Sum.inl ((y,z,a1,a2,a3)))=>some (((aC.mk z ((bM.mk 0 0 0 0)) ((ba.mk a1 a2 a3))),y)) | (Sum.inr ((a4,a5,a6,a7)))=>some (((aC.mk a4 ((bM.mk 0 0 0 0)) ((ba.mk a5 a6 a7))),true)))))
theorem MB (C:OT) (n:Nat) (ao:DX C) (c:(List UInt8)):TJ C n 35 [(im (c.map c8) false)] (IA n c) (fun y=>(tp [(ag (aq y.1)),(bA y.2)])):=by
 refine .lp (M6 ..) ?_
 unfold IA
 refine .s ((pt 0 0),[bx [(iA 0),(iA 0),(iA 0),(iA 0),(iA 0),(iA 0),(iA 0),(iA 0)]]) (.bd (g:=fun (y:(af×Int))=>(tp [(ag (ae y.1)),(iA y.2)])) (by simp only[dQ,gb]; exact ao c) fun a=>.s (ag (ae a.1)) (.s (iA a.2) (.sq (pt 1 0) (.s [bx [(iA 0),(iA 0),(iA 0),(iA 0),(iA 0),(iA 0),(iA 0),(iA 0)],bx (ae a.1)] (.st (aB ..) (.bg (fun t (y:Bool)=>∃ q r u:A,t=[(bA y),q,r,u]) ?_ ?_))))))
 ·refine .bi ?_ ?_
  ·exact .lg ⟨_,_,_,rfl⟩
  exact .s (pt 1 0) (.s (iA a.1.Kind) (.st (aB ..) (.lg ⟨_,_,_,rfl⟩)))
 rintro _ y3 ⟨q,r,u,rfl⟩
 refine .u4 (.bg (fun t (y:Bool)=>∃ v w x z:A,t=[(bA y),v,w,x,z]) ?_ ?_)
 ·refine .bi ?_ ?_
  ·exact .lg ⟨_,_,_,_,rfl⟩
  exact .s (pt 1 3) (.s (im (a.1.L.map ak) false) (.st (dV (e:=107)) (.st (bt ..) (.lg ⟨_,_,_,_,rfl⟩))))
 rintro _ y8 ⟨v,w,x,z,rfl⟩
 refine .u4 (.uc (.cj ?_ ?_))
 ·exact .s (ag [(iA 0),(iA 0),(iA 0),(iA 0),(iA 0),(iA 0),(iA 0),(iA 0)]) (.s [bx [(iA 0),(iA 0),(iA 0),(iA 0),(iA 0),(iA 0),(iA 0),(iA 0)],bx (ae a.1)] (.s (ag [(iA 0),(iA 0),(iA 0),(iA 0),(iA 0),(iA 0),(iA 0),(iA 0)]) (.lv rfl)))
 refine .s2 (im (a.1.L.map ak) false) (.bd ((eR (e:=107) (es:=4)).trans (gu _)) fun b=>.s2 (iA b.N) (.s (pt 0 0) (.sh (.cl ((aO Er).trans (Lx ..)) (.s (pt 0 0) (.s (pt 0 0) (.s (pt 0 0) (.s (pt 0 1) (.s (pt 0 1) (.s (pt 0 0) (.s (pt 0 1) (.s (pt 0 2) (.s (pt 0 0) (.s (pt 0 1) (.s (pt 0 3) (.s (pt 0 0) (.s (pt 0 1) (.s (pt 0 4) (.s (pt 0 0) (.s (pt 0 0) (.s (pt 0 0) (.s (pt 0 5) ?_))))))))))))))))))))))
 refine .s (pt 0 5) (.s (pt 0 0) (.s (pt 0 5) (.s (pt 0 6) (.s (pt 0 0) (.s (pt 0 5) (.s (pt 0 7) (.s (ag [(pt 0 0),(pt 0 1),(pt 0 2),(pt 0 3),(pt 0 4),(pt 0 0),(pt 0 5),(pt 0 6),(pt 0 7)]) (.cT r8 (.sq (A.ep 2 0 0) (.s [bx [(iA b.N),(iA 0),(iA 0),(iA 0),(iA 0),(iA 0),(iA 0),(iA 0)],bx (ae a.1),aw.row true 1 [[(pt 0 0)],[(pt 0 1)],[(pt 0 2)],[(pt 0 3)],[(pt 0 4)],[(pt 0 0)],[(pt 0 5)],[(pt 0 6)],[(pt 0 7)]]] (.s (pt 0 0) (.s2 (iA b.N) (.st (bt ..) (.cj ?_ ?_))))))))))))))
 ·refine .s (bL 2 0 5 false) (.cr (.ok (.s2 (iA b.N) (.st (aB ..) (.bg (fun t (y:Bool)=>∃ a1 a2 a3:A,t=[(bA y),a1,a2,a3]) ?_ ?_)))))
  ·refine .bi ?_ ?_
   ·exact .s (pt 0 0) (.s (iA b.N) (.st (aB ..) (.lg ⟨_,_,_,rfl⟩)))
   exact .lg ⟨_,_,_,rfl⟩
  rintro _ b4 ⟨a1,a2,a3,rfl⟩
  refine .u4 (.bg (fun t (y:Bool)=>∃ a4 a5 a6 a7 a8 a9:A,t=[(bA y),a4,a5,a6,a7,a8,a9]) ?_ ?_)
  ·refine .bi ?_ ?_
   ·exact .lg ⟨_,_,_,_,_,_,rfl⟩
   exact .s (pt 1 3) (.s (im (a.1.L.map ak) false) (.st (dV (e:=107)) (.s (iA 5) (.st (aB ..) (.lg ⟨_,_,_,_,_,_,rfl⟩)))))
  rintro _ b5 ⟨a4,a5,a6,a7,a8,a9,rfl⟩
  refine .u4 (.uc (.uc (.uc (.cj ?_ ?_))))
  ·exact .s (ag [(iA b.N),(iA 0),(iA 0),(iA 0),(iA 0),(iA 0),(iA 0),(iA 0)]) (.s [bx [(iA b.N),(iA 0),(iA 0),(iA 0),(iA 0),(iA 0),(iA 0),(iA 0)],bx (ae a.1),aw.row true 1 [[(pt 0 0)],[(pt 0 1)],[(pt 0 2)],[(pt 0 3)],[(pt 0 4)],[(pt 0 0)],[(pt 0 5)],[(pt 0 6)],[(pt 0 7)]]] (.s (ag [(iA b.N),(iA 0),(iA 0),(iA 0),(iA 0),(iA 0),(iA 0),(iA 0)]) (.lv rfl)))
  refine .s2 (im (a.1.L.map ak) false) (.st (dV (e:=107)) (.as (Ao C n _ _ _ _ false a.1.L ((a.1.L.length:Int)) 0 0 0 a.1 ?_ ?_ _ 0 b.N 0 0 0 0)))
  ·intro b6 ap ar au av ax b7 b8 b9 ba w243 w244 w245
   exact .un rfl (.s (ag [(iA ap),(iA ar),(iA au),(iA av),(iA ax),(iA 0),(iA 0),(iA 0)]) (.lv rfl))
  ·intro d f h i j bb bc be bf bh w256 w257
   exact .un rfl (.cT r8 (.s (ag [(iA d),(iA f),(iA h),(iA i),(iA j),(iA 0),(iA 0),(iA 0)]) (.s [bx [(iA d),(iA f),(iA h),(iA i),(iA j),(iA 0),(iA 0),(iA 0)],w256,w257] (.s (ag [(iA d),(iA f),(iA h),(iA i),(iA j),(iA 0),(iA 0),(iA 0)]) (.lv rfl)))))
 refine .s (bL 2 5 4 true) (.cr (.ok (.s2 (iA b.N) (.st (aB ..) (.bg (fun t (y:Bool)=>∃ aa ab ad:A,t=[(bA y),aa,ab,ad]) ?_ ?_)))))
 ·refine .bi ?_ ?_
  ·exact .s (pt 0 0) (.s (iA b.N) (.st (aB ..) (.lg ⟨_,_,_,rfl⟩)))
  exact .lg ⟨_,_,_,rfl⟩
 rintro _ bj ⟨aa,ab,ad,rfl⟩
 refine .u4 (.bg (fun t (y:Bool)=>∃ ah ai aj al am an:A,t=[(bA y),ah,ai,aj,al,am,an]) ?_ ?_)
 ·refine .bi ?_ ?_
  ·exact .lg ⟨_,_,_,_,_,_,rfl⟩
  exact .s (pt 1 3) (.s (im (a.1.L.map ak) false) (.st (dV (e:=107)) (.s (iA 4) (.st (aB ..) (.lg ⟨_,_,_,_,_,_,rfl⟩)))))
 rintro _ bk ⟨ah,ai,aj,al,am,an,rfl⟩
 refine .u4 (.uc (.uc (.uc (.cj ?_ ?_))))
 ·exact .s (ag [(iA b.N),(iA 0),(iA 0),(iA 0),(iA 0),(iA 0),(iA 0),(iA 0)]) (.s [bx [(iA b.N),(iA 0),(iA 0),(iA 0),(iA 0),(iA 0),(iA 0),(iA 0)],bx (ae a.1),aw.row true 1 [[(pt 0 0)],[(pt 0 1)],[(pt 0 2)],[(pt 0 3)],[(pt 0 4)],[(pt 0 0)],[(pt 0 5)],[(pt 0 6)],[(pt 0 7)]]] (.s (ag [(iA b.N),(iA 0),(iA 0),(iA 0),(iA 0),(iA 0),(iA 0),(iA 0)]) (.lv rfl)))
 refine .s2 (im (a.1.L.map ak) false) (.st (dV (e:=107)) (.as (yP C n _ _ _ _ false a.1.L ((a.1.L.length:Int)) 0 0 0 0 a.1 ?_ ?_ _ 0 b.N 0 0 0)))
 ·intro bl ay az b0 b1 bm bn bo bp w479 w480 w481
  exact .un rfl (.s (ag [(iA ay),(iA 0),(iA 0),(iA 0),(iA 0),(iA az),(iA b0),(iA b1)]) (.lv rfl))
 ·intro k l o p bq br bs bu bv w491 w492
  exact .un rfl (.cT r8 (.s (ag [(iA k),(iA 0),(iA 0),(iA 0),(iA 0),(iA l),(iA o),(iA p)]) (.s [bx [(iA k),(iA 0),(iA 0),(iA 0),(iA 0),(iA l),(iA o),(iA p)],w491,w492] (.s (ag [(iA k),(iA 0),(iA 0),(iA 0),(iA 0),(iA l),(iA o),(iA p)]) (.lv rfl)))))
def Gd (a:(List UInt8)):Option (aC×Bool):=IA aE a
def zQ (C:OT):Prop:=∀ (a:(List UInt8)),C 35 [(im (a.map c8) false)]=(Gd a).map fun y=>(tp [(ag (aq y.1)),(bA y.2)])
def jx (n:Nat) (f:Int) (b:Int) (c:(List aG)) (d:Int) (e:al):Nat->Int->Option ((Int)⊕(Unit))
 | 0,_=>none
 | m+1,a=>bif (decide (a<d)) then ((bl c a).bind fun g=>(Gc g a b e.Bar).bind fun h=>bif (!h) then (some ((Sum.inl 490))) else (jx n f b c d e m (wr .i64 (a+1)))) else (some ((Sum.inr (()))))
theorem zX (p:zP C) (f:Int) (b:Int) (h:(List aG)) (l:Int) (a:al) {K:((Int)⊕(Unit))->Option γ} (q:∀ (o:Int) (r:A) (t:A) (i:A) (j:A) (k:A) (q0:aw) (q1:aw),J φ (kr (St.mk [(1,r),(2,(iA o)),(3,t),(31,i),(32,j),(33,k)] [q0,q1])) kL (K (Sum.inl o)) some) (u:∀ (i:A) (j:A) (k:A),J φ (kx 0 (St.mk [(1,(pt 0 0)),(2,(iA f)),(3,(iA b)),(31,i),(32,j),(33,k)] [bx (aa a)])) kL (K (Sum.inr (()))) some) :
  ∀ (m:Nat) (c:Int),J φ (aA (cx C) (ec C n 8) (ey C n 8) (n+8) 13 0 0 1 kx kg kr kp m (St.mk [(1,(pt 0 0)),(2,(iA f)),(3,(iA b)),(31,(im (h.map aj) false)),(32,(iA l)),(33,(iA c))] [bx (aa a)])) kL (jx n f b h l a m c) K:=by
  refine nI (fun _=>.nn) fun m ih c=>.lp (GD ..) ?_
  unfold jx
  refine .st (aV ..) (.cj ?_ ?_)
  ·refine .bd (eR (e:=55) (es:=3)) fun d=>.s (ag (aj d)) (.sq (pt 1 0) (.s [bx (aa a),bx (aj d)] (.s (ag (aj d)) (.s2 (iA a.Bar) (.bd (g:=fun (y:Bool)=>(bA y)) (by simp only[dQ,gb]; exact p d c b a.Bar) fun w=>.s (bA (!w)) (.cj ?_ ?_))))))
   ·exact .ex (q _ _ _ _ _ _ _ _)
   refine .st (az ..) (.st (v:=[bx (aa a)]) (cU r8 x6) (.cT ((by kernel_rfl:_=(bif ax 1 (h.map aj) then true else false)).trans s5) ?_))
   exact ih _
  exact .ex (u _ _ _)
def gQ (n:Nat) (h:Int) (b:Int) (f:(List av)) (g:Int) (c:al):Nat->Int->Option ((Int)⊕(Unit))
 | 0,_=>none
 | m+1,d=>bif (decide (d<g)) then ((bl f d).bind fun e=>(Gd e.Data).bind fun a=>(bif a.2 then (some (a.1.kind==1)) else (some false)).bind fun i=>bif i then ((EE a.1.cue b).bind fun j=>(bif j then (some (e.From==0)) else (some false)).bind fun k=>(bif k then (some (e.To==(wr .i64 (a.1.cue.Role+1)))) else (some false)).bind fun l=>bif (!l) then (some ((Sum.inl 490))) else (gQ n h b f g c m (wr .i64 (d+1)))) else (bif a.2 then ((wz a.1.report.Role 0 (wr .i64 (b - 1))).bind fun o=>(bif o then ((wz a.1.report.Bar 0 (wr .i64 (c.Bar - 1))).bind fun p=>some p) else (some false)).bind fun q=>(bif q then (some (e.From==(wr .i64 (a.1.report.Role+1)))) else (some false)).bind fun r=>(bif r then (some (e.To==0)) else (some false)).bind fun s=>(bif s then ((bl c.Ears a.1.report.Role).bind fun t=>(bl t.Did a.1.report.Bar).bind fun u=>some (u==a.1.report.Program)) else (some false)).bind fun v=>bif (!v) then (some ((Sum.inl 490))) else (gQ n h b f g c m (wr .i64 (d+1)))) else (bif (!a.2) then (some ((Sum.inl 490))) else (gQ n h b f g c m (wr .i64 (d+1)))))) else (some ((Sum.inr (()))))
theorem zY (b6:rX C) (r:my C) (b7:zQ C) (u:Int) (f:Int) (d:(List av)) (w:Int) (b:al) {K:((Int)⊕(Unit))->Option γ} (h:∀ (x:Int) (i:A) (j:A) (k:A) (l:A) (o:A) (q0:aw) (q1:aw) (q2:aw) (q3:aw) (q4:aw),J φ (kr (St.mk [(1,i),(2,(iA x)),(3,j),(48,k),(49,l),(50,o)] [q0,q1,q2,q3,q4])) kL (K (Sum.inl x)) some) (x1:∀ (i:A) (s2:A) (j:A) (k:A) (l:A) (o:A) (q0:aw),J φ (kx 2 (St.mk [(1,i),(2,s2),(3,j),(48,k),(49,l),(50,o)] [q0])) kL (K (Sum.inr (()))) some) :
  ∀ (m:Nat) (p:Int),J φ (aA (cx C) (ec C n 8) (ey C n 8) (n+8) 13 0 1 1 kx kg kr kp m (St.mk [(1,(pt 0 0)),(2,(iA u)),(3,(iA f)),(48,(im (d.map ah) false)),(49,(iA w)),(50,(iA p))] [bx (aa b)])) kL (gQ n u f d w b m p) K:=by
  refine nI (fun _=>.nn) fun m ih p=>.lp (GF ..) ?_
  unfold gQ
  refine .st (aV ..) (.cj ?_ ?_)
  ·refine .bd (eR (e:=48) (es:=3)) fun c=>.s (ag (ah c)) (.sq (pt 1 0) (.s [bx (aa b),bx (ah c)] (.s2 (im (c.Data.map c8) false) (.bd (g:=fun (y:(aC×Bool))=>(tp [(ag (aq y.1)),(bA y.2)])) (by simp only[dQ,gb]; exact b7 c.Data) fun a=>.s (ag (aq a.1)) (.s (bA a.2) (.sq (pt 2 0) (.sh (.sq (pt 3 0) (.s ((pt 4 0),[bx (aa b),bx (ah c),bx (aq a.1),bx [(iA 0),(iA 0),(iA 0),(iA 0)],bx [(iA 0),(iA 0),(iA 0)]]) (.s2 (ag (aD a.1.cue)) (.s (pt 2 5) (.s (ag (au a.1.report)) (.cT r8 (.sh (.s [bx (aa b),bx (ah c),bx (aq a.1),bx (aD a.1.cue),bx (au a.1.report)] (.bg (fun t (y:Bool)=>∃ z a0 a1:A,t=[(bA y),z,a0,a1]) ?_ ?_))))))))))))))))
   ·refine .bi ?_ ?_
    ·exact .s (pt 2 0) (.s (iA a.1.kind) (.st (bt ..) (.lg ⟨_,_,_,rfl⟩)))
    exact .lg ⟨_,_,_,rfl⟩
   rintro _ be ⟨z,a0,a1,rfl⟩
   refine .u4 (.cj ?_ ?_)
   ·refine .s (ag (aD a.1.cue)) (.bd (b6 a.1.cue f) fun bf=>.bg (fun t (y:Bool)=>∃ a2 a3 a4:A,t=[(bA y),a2,a3,a4]) ?_ ?_)
    ·refine .bi ?_ ?_
     ·exact .s (pt 1 0) (.s (iA c.From) (.st (bt ..) (.lg ⟨_,_,_,rfl⟩)))
     exact .lg ⟨_,_,_,rfl⟩
    rintro _ bh ⟨a2,a3,a4,rfl⟩
    refine .u4 (.bg (fun t (y:Bool)=>∃ a5 a6 a7 a8 a9 ab:A,t=[(bA y),a5,a6,a7,a8,a9,ab]) ?_ ?_)
    ·refine .bi ?_ ?_
     ·exact .s (pt 1 1) (.s (iA c.To) (.s (pt 3 1) (.s (iA a.1.cue.Role) (.st (az ..) (.st (bt ..) (.lg ⟨_,_,_,_,_,_,rfl⟩))))))
     exact .lg ⟨_,_,_,_,_,_,rfl⟩
    rintro _ b9 ⟨a5,a6,a7,a8,a9,ab,rfl⟩
    refine .u4 (.uc (.uc (.uc (.s (bA (!b9)) (.cj ?_ ?_)))))
    ·exact .ex (h _ _ _ _ _ _ _ _ _ _ _)
    refine .st (az ..) (.st (v:=[bx (aa b)]) (cU r8 x6) (.cT ((by kernel_rfl:_=(bif ax 1 (d.map ah) then true else false)).trans s5) ?_))
    exact ih _
   refine .cj ?_ ?_
   ·refine .s2 (iA a.1.report.Role) (.st (kS ..) (.bd (r a.1.report.Role 0 (wr .i64 (f - 1))) fun bj=>.bg (fun t (y:Bool)=>∃ ad ae af ai ak am:A,t=[(bA y),ad,ae,af,ai,ak,am]) ?_ ?_))
    ·refine .bi ?_ ?_
     ·exact .s (pt 4 1) (.s (iA a.1.report.Bar) (.s (pt 0 3) (.s (iA b.Bar) (.st (kS ..) (.bd (r a.1.report.Bar 0 (wr .i64 (b.Bar - 1))) fun bk=>.lg ⟨_,_,_,_,_,_,rfl⟩)))))
     exact .lg ⟨_,_,_,_,_,_,rfl⟩
    rintro _ bl ⟨ad,ae,af,ai,ak,am,rfl⟩
    refine .u4 (.uc (.uc (.uc (.bg (fun t (y:Bool)=>∃ an ao ap ar ay b0:A,t=[(bA y),an,ao,ap,ar,ay,b0]) ?_ ?_))))
    ·refine .bi ?_ ?_
     ·exact .s (pt 1 0) (.s (iA c.From) (.s (pt 4 0) (.s (iA a.1.report.Role) (.st (az ..) (.st (bt ..) (.lg ⟨_,_,_,_,_,_,rfl⟩))))))
     exact .lg ⟨_,_,_,_,_,_,rfl⟩
    rintro _ bm ⟨an,ao,ap,ar,ay,b0,rfl⟩
    refine .u4 (.uc (.uc (.uc (.bg (fun t (y:Bool)=>∃ b1 b2 b3:A,t=[(bA y),b1,b2,b3]) ?_ ?_))))
    ·refine .bi ?_ ?_
     ·exact .s (pt 1 1) (.s (iA c.To) (.st (bt ..) (.lg ⟨_,_,_,rfl⟩)))
     exact .lg ⟨_,_,_,rfl⟩
    rintro _ bn ⟨b1,b2,b3,rfl⟩
    refine .u4 (.Ld (.bg (fun t (y:Bool)=>∃ b4:A,t=[(bA y),b4]) ?_ ?_))
    ·refine .FY (fun q=>?_) (fun q=>?_)
     ·exact .bb (.s (pt 0 2) (.s (im (b.Ears.map aj) false) (.s (pt 4 0) (.s (iA a.1.report.Role) (.bd (eR (e:=55) (es:=3)) fun b5=>.s (A.ip [(im (b5.Did.map (cI .i64)) false)]) (.s (im (b5.Did.map (cI .i64)) false) (.s (pt 4 1) (.s (iA a.1.report.Bar) (.bd (eR (e:=3) (es:=1)) fun ba=>.s (iA ba) (.s (pt 4 2) (.s (iA a.1.report.Program) (.cr (.u4 (.u4 (.u4 (.uc (.AB q (.st (bt ..) (.lg ⟨_,rfl⟩)))))))))))))))))))
     exact .bb (.cr (.u4 (.u4 (.u4 (.uc (.B7 q (.lg ⟨_,rfl⟩)))))))
    rintro _ bc ⟨b4,rfl⟩
    refine .uc (.uc (.s (bA (!bc)) (.cj ?_ ?_)))
    ·exact .ex (h _ _ _ _ _ _ _ _ _ _ _)
    refine .st (az ..) (.st (v:=[bx (aa b)]) (cU r8 x6) (.cT ((by kernel_rfl:_=(bif ax 1 (d.map ah) then true else false)).trans s5) ?_))
    exact ih _
   refine .s (bA (!a.2)) (.cj ?_ ?_)
   ·exact .ex (h _ _ _ _ _ _ _ _ _ _ _)
   refine .st (az ..) (.st (v:=[bx (aa b)]) (cU r8 x6) (.cT ((by kernel_rfl:_=(bif ax 1 (d.map ah) then true else false)).trans s5) ?_))
   exact ih _
  exact .ex (x1 _ _ _ _ _ _ _)
def Ip (n:Nat) (a:al):Option Int:=
 (wz ((a.Ears.length:Int)) 1 12).bind fun b=>(bif (!b) then (some true) else ((wz a.Bar 0 4096).bind fun c=>some (!c))).bind fun d=>(bif d then (some true) else ((FO a.Net).bind fun e=>some (e != 0))).bind fun f=>bif f then (some 490) else ((jx n 0 ((a.Ears.length:Int)) a.Ears ((a.Ears.length:Int)) a (n+8) 0).bind fun g=>match g with | (Sum.inl h)=>some h | (Sum.inr _)=>(gQ n 0 ((a.Ears.length:Int)) a.Net.Queue ((a.Net.Queue.length:Int)) a (n+8) 0).bind fun i=>match i with | (Sum.inl j)=>some j | (Sum.inr _)=>some 0)
theorem Mp (C:OT) (n:Nat) (o:rX C) (b:my C) (p:zO C) (q:zP C) (r:zQ C) (a:al):TJ C n 13 [(ag (aa a))] (Ip n a) (fun y=>(iA y)):=by
 refine .lp (MT ..) ?_
 unfold Ip
 refine .s ((pt 0 0),[bx (aa a)]) (.s2 (im (a.Ears.map aj) false) (.st (dV (e:=55)) (.bd (b ((a.Ears.length:Int)) 1 12) fun u=>.s (bA (!u)) (.bg (fun t (y:Bool)=>∃ c d f h:A,t=[(bA y),c,d,f,h]) ?_ ?_))))
 ·refine .bi ?_ ?_
  ·exact .lg ⟨_,_,_,_,rfl⟩
  exact .s (pt 0 3) (.s (iA a.Bar) (.bd (b a.Bar 0 4096) fun v=>.s (bA (!v)) (.lg ⟨_,_,_,_,rfl⟩)))
 rintro _ w ⟨c,d,f,h,rfl⟩
 refine .u4 (.uc (.bg (fun t (y:Bool)=>∃ i j k l:A,t=[(bA y),i,j,k,l]) ?_ ?_))
 ·refine .bi ?_ ?_
  ·exact .lg ⟨_,_,_,_,rfl⟩
  exact .s (pt 0 0) (.s (ag [(im (a.Net.Queue.map ah) false),(im (a.Net.Apart.map ai) false)]) (.bd (g:=fun (y:Int)=>(iA y)) (by simp only[dQ,gb]; exact p a.Net) fun x=>.st (aB ..) (.lg ⟨_,_,_,_,rfl⟩)))
 rintro _ z ⟨i,j,k,l,rfl⟩
 refine .u4 (.uc (.cj ?_ ?_))
 ·exact .lv rfl
 refine .s2 (im (a.Ears.map aj) false) (.st (dV (e:=55)) (.as (zX C n _ _ _ _ q 0 ((a.Ears.length:Int)) a.Ears ((a.Ears.length:Int)) a ?_ ?_ _ 0)))
 ·intro a1 a2 a3 a4 a5 a6 w114 w115
  exact .un rfl (.lv rfl)
 ·intro a7 a8 a9
  refine .un rfl (.cT r8 (.s (pt 0 0) (.s2 (im (a.Net.Queue.map ah) false) (.st (dV (e:=48)) (.as (zY C n _ _ _ _ o b r 0 ((a.Ears.length:Int)) a.Net.Queue ((a.Net.Queue.length:Int)) a ?_ ?_ _ 0))))))
  ·intro ab ad ae af ak am w354 w355 w356 w357 w358
   exact .un rfl (.lv rfl)
  ·intro an ao ap aq ar au w365
   exact .un rfl (.cT r8 (.lv rfl))
def DK (a:al):Option Int:=Ip aE a
def xM (C:OT):Prop:=∀ (a:al),C 13 [(ag (aa a))]=(DK a).map fun y=>(iA y)
def wC (C:OT) (self:af->Option (Int×Bool)):Prop:=∀ (a:af),C 96 [(ag (ae a))]=(self a).map fun y=>(tp [(iA y.1),(bA y.2)])
def iM (self:af->Option (Int×Bool)) (n:Nat) (f:Bool) (d:(List af)) (e:Int) (g:af) (h:Bool) (i:Bool) (j:Bool) (k:Bool):Nat->Int->Int->Option ((Int×Bool)⊕(Int))
 | 0,_,_=>none
 | m+1,a,b=>bif (decide (b<e)) then ((bl d b).bind fun l=>(self l).bind fun c=>bif (!c.2) then (some ((Sum.inl ((0,false))))) else (iM self n f d e g h i j k m ((if a<c.1 then c.1 else a)) (wr .i64 (b+1)))) else (some ((Sum.inr a)))
theorem Ar (self:af->Option (Int×Bool)) (hS:wC C self) (t:Bool) (l:(List af)) (u:Int) (f:af) (h:Bool) (i:Bool) (j:Bool) (k:Bool) {K:((Int×Bool)⊕(Int))->Option γ} (x:∀ (a:Int) (w:Bool) (o:A) (p:A) (q:A) (q0:aw) (q1:aw) (q2:aw),J φ (kr (St.mk [(2,(iA a)),(3,(bA w)),(55,o),(56,p),(57,q)] [q0,q1,q2])) kL (K (Sum.inl ((a,w)))) some) (z:∀ (a:Int) (s3:A) (o:A) (p:A) (q:A) (q0:aw) (q1:aw),J φ (kx 0 (St.mk [(2,(iA a)),(3,s3),(55,o),(56,p),(57,q)] [q0,q1])) kL (K (Sum.inr a)) some) :
  ∀ (m:Nat) (b:Int) (r:Int),J φ (aA (cx C) (ec C n 8) (ey C n 8) (n+8) 96 0 0 2 kx kg kr kp m (St.mk [(2,(iA b)),(3,(bA t)),(55,(im (l.map ak) false)),(56,(iA u)),(57,(iA r))] [bx (ae f),bx [(bA h),(bA i),(bA j),(bA k)]])) kL (iM self n t l u f h i j k m b r) K:=by
  refine nI (fun _ _=>.nn) fun m ih b r=>.lp (GY ..) ?_
  unfold iM
  refine .st (aV ..) (.cj ?_ ?_)
  ·refine .bd ((eR (e:=107) (es:=4)).trans (gu _)) fun c=>.s (ag (ae c)) (.sq (pt 2 0) (.s [bx (ae f),bx [(bA h),(bA i),(bA j),(bA k)],bx (ae c)] (.s (ag (ae c)) (.bd (g:=fun (y:(Int×Bool))=>(tp [(iA y.1),(bA y.2)])) (by show C 96 [snap _ (ag (ae c))]=_; simp only[dQ,gb]; exact hS c) fun d=>.s (iA d.1) (.s (bA d.2) (.s (bA (!d.2)) (.cj ?_ ?_)))))))
   ·exact .ex (x _ _ _ _ _ _ _ _)
   refine .s (iA ((if b<d.1 then d.1 else b))) (.st (az ..) (.st (v:=[bx (ae f),bx [(bA h),(bA i),(bA j),(bA k)]]) (cU r8 x6) (.cT ((by kernel_rfl:_=(bif ax 2 (l.map ak) then true else false)).trans s5) ?_)))
   exact ih _ _
  exact .ex (z _ _ _ _ _ _ _)
def F4 (self:af->Option (Int×Bool)) (n:Nat) (a:af):Option (Int×Bool):=
 (bif (n7 a.S ((ByteArray.mk #[]))) then (some (((a.L.length:Int))==0)) else (some false)).bind fun b=>(bif (a.N==0) then (some (((a.L.length:Int))==0)) else (some false)).bind fun c=>(bif (a.N==0) then (some (n7 a.S ((ByteArray.mk #[])))) else (some false)).bind fun d=>(bif (decide (a.Kind<1)) then (some true) else (some (decide (3<a.Kind)))).bind fun e=>(bif e then (some true) else (bif decide (a.Kind=0) then (some true) else bif decide (a.Kind=1) then (some (!b)) else bif decide (a.Kind=2) then (some (!c)) else bif decide (a.Kind=3) then (some (!d)) else none)).bind fun f=>bif f then (some ((0,false))) else (bif (decide (a.Kind<3)) then (some ((0,true))) else ((iM self n false a.L ((a.L.length:Int)) a false b c d (n+8) 0 0).bind fun g=>match g with | (Sum.inl ((h,i)))=>some ((h,i)) | (Sum.inr j)=>some ((wr .i64 (j+1),true))))
theorem MO (C:OT) (n:Nat) (self:af->Option (Int×Bool)) (hS:wC C self) (a:af):TJ C n 96 [(ag (ae a))] (F4 self n a) (fun y=>(tp [(iA y.1),(bA y.2)])):=by
 refine .lp (Ns ..) ?_
 unfold F4
 refine .s ((pt 0 0),[bx (ae a)]) (.s2 (sA a.S) (.st (pY ..) (.bg (fun t (y:Bool)=>∃ f g h i:A,t=[(bA y),f,g,h,i]) ?_ ?_)))
 ·refine .bi ?_ ?_
  ·exact .s (pt 0 3) (.s (im (a.L.map ak) false) (.st (dV (e:=107)) (.st (bt ..) (.lg ⟨_,_,_,_,rfl⟩))))
  exact .lg ⟨_,_,_,_,rfl⟩
 rintro _ b ⟨f,g,h,i,rfl⟩
 refine .u4 (.uc (.s2 (iA a.N) (.st (bt ..) (.bg (fun t (y:Bool)=>∃ j k l o:A,t=[(bA y),j,k,l,o]) ?_ ?_))))
 ·refine .bi ?_ ?_
  ·exact .s (pt 0 3) (.s (im (a.L.map ak) false) (.st (dV (e:=107)) (.st (bt ..) (.lg ⟨_,_,_,_,rfl⟩))))
  exact .lg ⟨_,_,_,_,rfl⟩
 rintro _ c ⟨j,k,l,o,rfl⟩
 refine .u4 (.uc (.s2 (iA a.N) (.st (bt ..) (.bg (fun t (y:Bool)=>∃ p q r:A,t=[(bA y),p,q,r]) ?_ ?_))))
 ·refine .bi ?_ ?_
  ·exact .s (pt 0 2) (.s (sA a.S) (.st (pY ..) (.lg ⟨_,_,_,rfl⟩)))
  exact .lg ⟨_,_,_,rfl⟩
 rintro _ d ⟨p,q,r,rfl⟩
 refine .u4 (.s (ag [(bA false),(bA b),(bA c),(bA d)]) (.sq (pt 1 0) (.s [bx (ae a),bx [(bA false),(bA b),(bA c),(bA d)]] (.s2 (iA a.Kind) (.st (aV ..) (.bg (fun t (y:Bool)=>∃ u w x:A,t=[(bA y),u,w,x]) ?_ ?_))))))
 ·refine .bi ?_ ?_
  ·exact .lg ⟨_,_,_,rfl⟩
  exact .s (pt 0 0) (.s (iA a.Kind) (.st (dh ..) (.lg ⟨_,_,_,rfl⟩)))
 rintro _ a9 ⟨u,w,x,rfl⟩
 refine .u4 (.bg (fun t (y:Bool)=>∃ z a1 a2 a3 a4:A,t=[(bA y),z,a1,a2,a3,a4]) ?_ ?_)
 ·refine .bi ?_ ?_
  ·exact .lg ⟨_,_,_,_,_,rfl⟩
  refine .s (pt 0 0) (.s (iA a.Kind) (.sp (fun a5=>?_) (fun _=>?_)))
  ·exact .st (v:=(pt 1 0)) (by rw[Oe a5]; kernel_rfl) (.s (bA false) (.s (bA true) (.lg ⟨_,_,_,_,_,rfl⟩)))
  refine .sp (fun a6=>?_) (fun _=>?_)
  ·exact .st (v:=(pt 1 1)) (by rw[Oe a6]; kernel_rfl) (.s (bA b) (.s (bA (!b)) (.lg ⟨_,_,_,_,_,rfl⟩)))
  refine .sp (fun a7=>?_) (fun _=>?_)
  ·exact .st (v:=(pt 1 2)) (by rw[Oe a7]; kernel_rfl) (.s (bA c) (.s (bA (!c)) (.lg ⟨_,_,_,_,_,rfl⟩)))
  refine .sp (fun a8=>?_) (fun _=>?_)
  ·exact .st (v:=(pt 1 3)) (by rw[Oe a8]; kernel_rfl) (.s (bA d) (.s (bA (!d)) (.lg ⟨_,_,_,_,_,rfl⟩)))
  exact .nn
 rintro _ aa ⟨z,a1,a2,a3,a4,rfl⟩
 refine .u4 (.uc (.uc (.cj ?_ ?_)))
 ·exact .lv rfl
 refine .s2 (iA a.Kind) (.st (aV ..) (.cj ?_ ?_))
 ·exact .lv rfl
 refine .s2 (im (a.L.map ak) false) (.st (dV (e:=107)) (.as (Ar C n _ _ _ _ self hS false a.L ((a.L.length:Int)) a false b c d ?_ ?_ _ 0 0)))
 ·intro ab ad ah ai aj w128 w129 w130
  exact .un rfl (.lv rfl)
 ·intro al am an ao ap w136 w137
  exact .un rfl (.cT r8 (.st (az ..) (.lv rfl)))
def D3:Nat->af->Option (Int×Bool)
 | 0=>fun _=>none
 | q+1=>fun a0=>F4 (D3 q) aE a0
def IV (a:af):Option (Int×Bool):=D3 aE a
def D1 (C:OT):Prop:=∀ (a:af),C 96 [(ag (ae a))]=(IV a).map fun y=>(tp [(iA y.1),(bA y.2)])
def IK (n:Nat) (b:af):Option Int:=
 (IV b).bind fun a=>bif (!a.2) then (some 1) else (bif (decide (16<a.1)) then (some 2) else (some 0))
theorem MN (C:OT) (n:Nat) (c:D1 C) (a:af):TJ C n 83 [(ag (ae a))] (IK n a) (fun y=>(iA y)):=by
 refine .lp (Nn ..) ?_
 unfold IK
 refine .s ((pt 0 0),[bx (ae a)]) (.s (ag (ae a)) (.bd (g:=fun (y:(Int×Bool))=>(tp [(iA y.1),(bA y.2)])) (by simp only[dQ,gb]; exact c a) fun b=>.s (iA b.1) (.s (bA b.2) (.s (bA (!b.2)) (.cj ?_ ?_)))))
 ·exact .lv rfl
 refine .st (dh ..) (.cj ?_ ?_)
 ·exact .lv rfl
 exact .lv rfl
def Gi (a:af):Option Int:=IK aE a
def D0 (C:OT):Prop:=∀ (a:af),C 83 [(ag (ae a))]=(Gi a).map fun y=>(iA y)
def IL (n:Nat) (a:Int):Option Int:=
 some (pL .u64 (rk .u64 (wr .u64 (a)) 1) (wr .u64 (lS .i64 a 63)))
theorem MP (C:OT) (n:Nat) (a:Int):TJ C n 99 [(iA a)] (IL n a) (fun y=>(A.v (.int .u64 y))):=by
 refine .lp (Nt ..) ?_
 unfold IL
 exact .st (v:=(A.v (.int .u64 (wr .u64 (a))))) (aQ (hs:=by kernel_rfl) (hd:=by kernel_rfl) ..) (.st (uM (hb:=by decide) ..) (.st (jF (hb:=by decide) ..) (.st (v:=(A.v (.int .u64 (wr .u64 (lS .i64 a 63))))) (aQ (hs:=by kernel_rfl) (hd:=by kernel_rfl) ..) (.st (mB ..) (.lv rfl)))))
def EG (a:Int):Option Int:=IL aE a
def rY (C:OT):Prop:=∀ (a:Int),C 99 [(iA a)]=(EG a).map fun y=>(A.v (.int .u64 y))
def aH:aw:=bx [(A.v Value.nilFunc),(rK 97 [] []),(rK 100 [] []),(rK 101 [] [(pt 2 0)])]
def zK (C:OT) (N:Nat) (self:af->af->(List UInt8)->af->Option (List UInt8)):Prop:=∀ (a:af) (b:af) (a2:(List UInt8)) (c:af) (X:ar),J (fun (o:R) (y:(List UInt8))=>o=(Out.ret (bL 4 0 y.length false),[bx (ae a),aH,bx [(pt 1 0)],bx (ae b),aw.row false 1 (y.map c8)]++X)) (di (cx C) N 101 [(bL 4 0 a2.length false),(ag (ae c)),(pt 2 0)] ([bx (ae a),aH,bx [(pt 1 0)],bx (ae b),aw.row false 1 (a2.map c8)]++X) 0) some (self a b a2 c) some
def iI (n:Nat):Nat->Int->(List UInt8)->Option (Int×(List UInt8))
 | 0,_,_=>none
 | m+1,a,b=>bif (decide (128<=a)) then (bif (decide (0<=(kN .u8 (wr .u8 (a)) 128))&&decide ((kN .u8 (wr .u8 (a)) 128)<256)) then ((cO 1 b ([(UInt8.ofNat (Int.toNat (kN .u8 (wr .u8 (a)) 128)))])).bind fun c=>iI n m (lS .u64 a 7) c) else none) else (some ((a,b)))
theorem wD {w44:A} {w45 w46 w47 w48 w49:aw} {K:(Int×(List UInt8))->Option γ} (h:∀ (e:Int) (d:(List UInt8)) (i:A),J φ (kx 0 (St.mk [(0,(bL 4 0 d.length false)),(1,(A.v (.int .u64 e))),(4,i)] [w45,w46,w47,w48,aw.row false 1 (d.map c8),w49])) kL (K (e,d)) some) :
  ∀ (m:Nat) (a:Int) (c:(List UInt8)),J φ (aA (cx C) (ec C n 7) (ey C n 7) (n+7) 98 0 0 6 kx kg kr kp m (St.mk [(0,(bL 4 0 c.length false)),(1,(A.v (.int .u64 a))),(4,w44)] [w45,w46,w47,w48,aw.row false 1 (c.map c8),w49])) kL (iI n  m a c) K:=by
  refine nI (fun _ _=>.nn) fun m ih a c=>.lp (ya ..) ?_
  unfold iI
  refine .st (fe ..) (.cj ?_ ?_)
  ·refine .st (v:=(uA (wr .u8 (a)))) (aQ (hs:=by kernel_rfl) (hd:=by kernel_rfl) ..) (.st (fL ..) (.gd fun hg=>.st (v:=(im [[(uA (((UInt8.ofNat (Int.toNat (kN .u8 (wr .u8 (a)) 128))).toNat:Int)))]] true)) (by rw[fk hg]; kernel_rfl) (.bd (g:=fun (y:List UInt8)=>((bL 4 0 y.length false),[w45,w46,w47,w48,aw.row false 1 (y.map c8),w49])) (bS da (l:=c) (l2:=[(UInt8.ofNat (Int.toNat (kN .u8 (wr .u8 (a)) 128)))]) (b:=4) rfl (by decide) (bN (f:=c8) ([(UInt8.ofNat (Int.toNat (kN .u8 (wr .u8 (a)) 128)))]:List UInt8) _ _)) fun j=>.st (jF (hb:=by decide) ..) (.s [w45,w46,w47,w48,aw.row false 1 (j.map c8),w49] (.cT r8 ?_)))))
   exact ih _ _
  exact .ex (h _ _ _)
def eD (n:Nat):Nat->Int->(List UInt8)->Option (Int×(List UInt8))
 | 0,_,_=>none
 | m+1,a,b=>bif (decide (128<=a)) then (bif (decide (0<=(kN .u8 (wr .u8 (a)) 128))&&decide ((kN .u8 (wr .u8 (a)) 128)<256)) then ((cO 1 b ([(UInt8.ofNat (Int.toNat (kN .u8 (wr .u8 (a)) 128)))])).bind fun c=>eD n m (lS .u64 a 7) c) else none) else (some ((a,b)))
theorem po {w1301:A} {w1302 w1303 w1304 w1305 w1306 w1307 w1308:aw} {K:(Int×(List UInt8))->Option γ} (h:∀ (e:Int) (d:(List UInt8)) (i:A),J φ (kx 0 (St.mk [(0,(bL 4 0 d.length false)),(1,(A.v (.int .u64 e))),(4,i)] [w1302,w1303,w1304,w1305,aw.row false 1 (d.map c8),w1306,w1307,w1308])) kL (K (e,d)) some) :
  ∀ (m:Nat) (a:Int) (c:(List UInt8)),J φ (aA (cx C) (di (cx C) (n+6)) (aX (cx C) (n+6)) (n+6) 98 0 0 8 kx kg kr kp m (St.mk [(0,(bL 4 0 c.length false)),(1,(A.v (.int .u64 a))),(4,w1301)] [w1302,w1303,w1304,w1305,aw.row false 1 (c.map c8),w1306,w1307,w1308])) kL (eD n  m a c) K:=by
  refine nI (fun _ _=>.nn) fun m ih a c=>.lp (ya ..) ?_
  unfold eD
  refine .st (fe ..) (.cj ?_ ?_)
  ·refine .st (v:=(uA (wr .u8 (a)))) (aQ (hs:=by kernel_rfl) (hd:=by kernel_rfl) ..) (.st (fL ..) (.gd fun hg=>.st (v:=(im [[(uA (((UInt8.ofNat (Int.toNat (kN .u8 (wr .u8 (a)) 128))).toNat:Int)))]] true)) (by rw[fk hg]; kernel_rfl) (.bd (g:=fun (y:List UInt8)=>((bL 4 0 y.length false),[w1302,w1303,w1304,w1305,aw.row false 1 (y.map c8),w1306,w1307,w1308])) (bS da (l:=c) (l2:=[(UInt8.ofNat (Int.toNat (kN .u8 (wr .u8 (a)) 128)))]) (b:=4) rfl (by decide) (bN (f:=c8) ([(UInt8.ofNat (Int.toNat (kN .u8 (wr .u8 (a)) 128)))]:List UInt8) _ _)) fun j=>.st (jF (hb:=by decide) ..) (.s [w1302,w1303,w1304,w1305,aw.row false 1 (j.map c8),w1306,w1307,w1308] (.cT r8 ?_)))))
   exact ih _ _
  exact .ex (h _ _ _)
def dD (self:af->af->(List UInt8)->af->Option (List UInt8)) (n:Nat) (h:(List UInt8)) (c:(List af)) (d:Int) (e:af) (f:af) (i:af):Nat->Int->(List UInt8)->Option ((List UInt8))
 | 0,_,_=>none
 | m+1,b,g=>bif (decide (b<d)) then ((bl c b).bind fun a=>bif decide (a.Kind=0) then (none) else bif decide (a.Kind=1) then ((cO 1 g ([(1:UInt8)])).bind fun l=>(EG a.N).bind fun o=>(eD n  (n+6) o l).bind fun p=>match p with | (j,q)=>bif (decide (0<=(wr .u8 (j)))&&decide ((wr .u8 (j))<256)) then ((cO 1 q ([(UInt8.ofNat (Int.toNat (wr .u8 (j))))])).bind fun r=>dD self n h c d e f i m (wr .i64 (b+1)) r) else none) else bif decide (a.Kind=2) then ((cO 1 g ([(2:UInt8)])).bind fun s=>(eD n  (n+6) (wr .u64 ((a.S.size:Int))) s).bind fun t=>match t with | (k,u)=>bif (decide (0<=(wr .u8 (k)))&&decide ((wr .u8 (k))<256)) then ((cO 1 u ([(UInt8.ofNat (Int.toNat (wr .u8 (k))))])).bind fun v=>(cO 1 v (kV a.S)).bind fun w=>dD self n h c d e f i m (wr .i64 (b+1)) w) else none) else bif decide (a.Kind=3) then ((self e f g a).bind fun x=>dD self n h c d e f i m (wr .i64 (b+1)) x) else none) else (some g)
theorem uK (w:rY C) (self:af->af->(List UInt8)->af->Option (List UInt8)) (hS:zK C (n+8) self) (j:(List UInt8)) (k:(List af)) (u:Int) (c:af) (d:af) (h:af) {K:((List UInt8))->Option γ} (x:∀ (q:(List UInt8)) (s2:A) (z:A) (a0:A) (a1:A) (a2:A) (q5:aw),J φ (kx 0 (St.mk [(0,(bL 4 0 q.length false)),(2,s2),(5,z),(17,a0),(18,a1),(19,a2)] [bx (ae c),aH,bx [(pt 1 0)],bx (ae d),aw.row false 1 (q.map c8),q5])) kL (K q) some) :
  ∀ (m:Nat) (r:Int) (i:(List UInt8)),J φ (aA (cx C) (ec C n 8) (ey C n 8) (n+8) 101 0 0 6 kx kg kr kp m (St.mk [(0,(bL 4 0 i.length false)),(2,(pt 2 0)),(5,(im (j.map c8) true)),(17,(im (k.map ak) false)),(18,(iA u)),(19,(iA r))] [bx (ae c),aH,bx [(pt 1 0)],bx (ae d),aw.row false 1 (i.map c8),bx (ae h)])) kL (dD self n j k u c d h m r i) K:=by
  refine nI (fun _ _=>.nn) fun m ih r i=>.lp (AN ..) ?_
  unfold dD
  refine .st (aV ..) (.cj ?_ ?_)
  ·refine .bd ((eR (e:=107) (es:=4)).trans (gu _)) fun a=>.s (ag (ae a)) (.sq (pt 6 0) (.s [bx (ae c),aH,bx [(pt 1 0)],bx (ae d),aw.row false 1 (i.map c8),bx (ae h),bx (ae a)] (.s (pt 1 0) (.s2 (iA a.Kind) (.s (pt 1 0) (.sp (fun a3=>?_) (fun _=>?_)))))))
   ·exact .st (v:=(pt 1 0)) (by rw[Oe a3]; kernel_rfl) (.s2 (A.v Value.nilFunc) (.s (ag (ae a)) (.nn)))
   refine .sp (fun a4=>?_) (fun _=>?_)
   ·refine .st (v:=(pt 1 1)) (by rw[Oe a4]; kernel_rfl) (.s2 (rK 97 [] []) (.s (ag (ae a)) (.dC r8 r8 (.cl ((aO Bq).trans (JY ..)) (.s ((pt 7 0),[bx (ae c),aH,bx [(pt 1 0)],bx (ae d),aw.row false 1 (i.map c8),bx (ae h),bx (ae a),bx (ae a)]) (.s (im [[(uA 1)]] true) (.bd (g:=fun (y:List UInt8)=>((bL 4 0 y.length false),[bx (ae c),aH,bx [(pt 1 0)],bx (ae d),aw.row false 1 (y.map c8),bx (ae h),bx (ae a),bx (ae a)])) (bS da (l:=i) (l2:=[(1:UInt8)]) (b:=4) rfl (by decide) (bN (f:=c8) ([(1:UInt8)]:List UInt8) _ _)) fun a5=>.cT r8 (.s (pt 7 1) (.cT r8 (.s (iA a.N) (.bd (w a.N) fun a6=>.cl ((aO pz).trans (Ec ..)) (.as (po C n _ _ _ _  ?_ _ a6 a5)))))))))))))
    ·intro o a7 al
     refine .un rfl (.cT r8 (.st (v:=(uA (wr .u8 (o)))) (aQ (hs:=by kernel_rfl) (hd:=by kernel_rfl) ..) (.gd fun hg=>.st (v:=(im [[(uA (((UInt8.ofNat (Int.toNat (wr .u8 (o)))).toNat:Int)))]] true)) (by rw[fk hg]; kernel_rfl) (.bd (g:=fun (y:List UInt8)=>((bL 4 0 y.length false),[bx (ae c),aH,bx [(pt 1 0)],bx (ae d),aw.row false 1 (y.map c8),bx (ae h),bx (ae a),bx (ae a)])) (bS da (l:=a7) (l2:=[(UInt8.ofNat (Int.toNat (wr .u8 (o))))]) (b:=4) rfl (by decide) (bN (f:=c8) ([(UInt8.ofNat (Int.toNat (wr .u8 (o))))]:List UInt8) _ _)) fun a8=>.cr (.ok (.cr (.ok (.st (az ..) (.st (v:=[bx (ae c),aH,bx [(pt 1 0)],bx (ae d),aw.row false 1 (a8.map c8),bx (ae h)]) (cU r8 H8) (.cT ((by kernel_rfl:_=(bif ax 6 (j.map c8) then (bif ax 6 (k.map ak) then true else false) else false)).trans s5) ?_))))))))))
     exact ih _ _
   refine .sp (fun a9=>?_) (fun _=>?_)
   ·refine .st (v:=(pt 1 2)) (by rw[Oe a9]; kernel_rfl) (.s2 (rK 100 [] []) (.s (ag (ae a)) (.dC r8 r8 (.cl ((aO xg).trans (E3 ..)) (.s ((pt 7 0),[bx (ae c),aH,bx [(pt 1 0)],bx (ae d),aw.row false 1 (i.map c8),bx (ae h),bx (ae a),bx (ae a)]) (.s ((A.ip (ae a)),[bx (ae c),aH,bx [(pt 1 0)],bx (ae d),aw.row false 1 (i.map c8),bx (ae h),bx (ae a),aw.dead]) (.cT r8 (.s (im [[(uA 2)]] true) (.s (A.ip [(sA a.S),(im (a.L.map ak) false)]) (.s (sA a.S) (.s (iA ((a.S.size:Int))) (.st (v:=(A.v (.int .u64 (wr .u64 ((a.S.size:Int)))))) (aQ (hs:=by kernel_rfl) (hd:=by kernel_rfl) ..) (.s (A.ip [(sA a.S),(im (a.L.map ak) false)]) (.s (sA a.S) (.cT r8 (.bd (g:=fun (y:List UInt8)=>((bL 4 0 y.length false),[bx (ae c),aH,bx [(pt 1 0)],bx (ae d),aw.row false 1 (y.map c8),bx (ae h),bx (ae a),aw.dead])) (bS da (l:=i) (l2:=[(2:UInt8)]) (b:=4) rfl (by decide) (bN (f:=c8) ([(2:UInt8)]:List UInt8) _ _)) fun aa=>.cT r8 (.cl ((aO pz).trans (Ec ..)) (.as (po C n _ _ _ _  ?_ _ (wr .u64 ((a.S.size:Int))) aa)))))))))))))))))))
    ·intro p ab am
     refine .un rfl (.cT r8 (.st (v:=(uA (wr .u8 (p)))) (aQ (hs:=by kernel_rfl) (hd:=by kernel_rfl) ..) (.gd fun hg=>.st (v:=(im [[(uA (((UInt8.ofNat (Int.toNat (wr .u8 (p)))).toNat:Int)))]] true)) (by rw[fk hg]; kernel_rfl) (.bd (g:=fun (y:List UInt8)=>((bL 4 0 y.length false),[bx (ae c),aH,bx [(pt 1 0)],bx (ae d),aw.row false 1 (y.map c8),bx (ae h),bx (ae a),aw.dead])) (bS da (l:=ab) (l2:=[(UInt8.ofNat (Int.toNat (wr .u8 (p))))]) (b:=4) rfl (by decide) (bN (f:=c8) ([(UInt8.ofNat (Int.toNat (wr .u8 (p))))]:List UInt8) _ _)) fun ad=>.cr (.ok (.bd (g:=fun (y:List UInt8)=>((bL 4 0 y.length false),[bx (ae c),aH,bx [(pt 1 0)],bx (ae d),aw.row false 1 (y.map c8),bx (ae h),bx (ae a),aw.dead])) (bS wN (l:=ad) (l2:=kV a.S) (b:=4) rfl (by decide) (tD ..)) fun ah=>.cr (.ok (.st (az ..) (.st (v:=[bx (ae c),aH,bx [(pt 1 0)],bx (ae d),aw.row false 1 (ah.map c8),bx (ae h)]) (cU r8 H8) (.cT ((by kernel_rfl:_=(bif ax 6 (j.map c8) then (bif ax 6 (k.map ak) then true else false) else false)).trans s5) ?_))))))))))
     exact ih _ _
   refine .sp (fun ai=>?_) (fun _=>?_)
   ·refine .st (v:=(pt 1 3)) (by rw[Oe ai]; kernel_rfl) (.s2 (rK 101 [] [(pt 2 0)]) (.s (ag (ae a)) (.dC r8 r8 (.bg (fun (t:R) (y:(List UInt8))=>t=(Out.ret (bL 4 0 y.length false),[bx (ae c),aH,bx [(pt 1 0)],bx (ae d),aw.row false 1 (y.map c8),bx (ae h),bx (ae a)])) (hS c d i a [bx (ae h),bx (ae a)]) ?_))))
    rintro _ aj rfl
    refine .ok (.st (az ..) (.st (v:=[bx (ae c),aH,bx [(pt 1 0)],bx (ae d),aw.row false 1 (aj.map c8),bx (ae h)]) (cU r8 H8) (.cT ((by kernel_rfl:_=(bif ax 6 (j.map c8) then (bif ax 6 (k.map ak) then true else false) else false)).trans s5) ?_)))
    exact ih _ _
   exact .nn
  exact .ex (x _ _ _ _ _ _ _)
def rW (self:af->af->(List UInt8)->af->Option (List UInt8)) (n:Nat) (c:af) (d:af) (a2:(List UInt8)) (a:af):Option (List UInt8):=
 (cO 1 a2 ([(3:UInt8)])).bind fun e=>(iI n  (n+7) (wr .u64 ((a.L.length:Int))) e).bind fun f=>match f with | (b,g)=>bif (decide (0<=(wr .u8 (b)))&&decide ((wr .u8 (b))<256)) then ((cO 1 g ([(UInt8.ofNat (Int.toNat (wr .u8 (b))))])).bind fun h=>(dD self n ([]) a.L ((a.L.length:Int)) c d a (n+8) 0 h).bind fun i=>match i with | j=>some j) else none
theorem Gq (C:OT) (n:Nat) (i:rY C) (self:af->af->(List UInt8)->af->Option (List UInt8)) (hS:zK C (n+8) self) (c:af) (d:af) (a2:(List UInt8)) (a:af):J (fun (o:R) (y:(List UInt8))=>∃ Z,o=(Out.ret (bL 4 0 y.length false),[bx (ae c),aH,bx [(pt 1 0)],bx (ae d),aw.row false 1 (y.map c8)]++Z)) (aJ (cx C) (ec C n 8) (ey C n 8) (n+8) 101 [(bL 4 0 a2.length false),(ag (ae a)),(pt 2 0)] [bx (ae c),aH,bx [(pt 1 0)],bx (ae d),aw.row false 1 (a2.map c8)] 0) some (rW self n c d a2 a) some:=by
 refine .lp (GB ..) ?_
 unfold rW
 refine .s ((pt 5 0),[bx (ae c),aH,bx [(pt 1 0)],bx (ae d),aw.row false 1 (a2.map c8),bx (ae a)]) (.s (im [[(uA 3)]] true) (.bd (g:=fun (y:List UInt8)=>((bL 4 0 y.length false),[bx (ae c),aH,bx [(pt 1 0)],bx (ae d),aw.row false 1 (y.map c8),bx (ae a)])) (bS da (l:=a2) (l2:=[(3:UInt8)]) (b:=4) rfl (by decide) (bN (f:=c8) ([(3:UInt8)]:List UInt8) _ _)) fun j=>.cT r8 (.s (pt 5 3) (.cT r8 (.s (im (a.L.map ak) false) (.cT r8 (.st (dV (e:=107)) (.cT r8 (.st (v:=(A.v (.int .u64 (wr .u64 ((a.L.length:Int)))))) (aQ (hs:=by kernel_rfl) (hd:=by kernel_rfl) ..) (.cl ((aO pz).trans (Ec ..)) (.as (wD C n _ _ _ _  ?_ _ (wr .u64 ((a.L.length:Int))) j))))))))))))
 ·intro h k q
  refine .un rfl (.cT r8 (.st (v:=(uA (wr .u8 (h)))) (aQ (hs:=by kernel_rfl) (hd:=by kernel_rfl) ..) (.gd fun hg=>.st (v:=(im [[(uA (((UInt8.ofNat (Int.toNat (wr .u8 (h)))).toNat:Int)))]] true)) (by rw[fk hg]; kernel_rfl) (.bd (g:=fun (y:List UInt8)=>((bL 4 0 y.length false),[bx (ae c),aH,bx [(pt 1 0)],bx (ae d),aw.row false 1 (y.map c8),bx (ae a)])) (bS da (l:=k) (l2:=[(UInt8.ofNat (Int.toNat (wr .u8 (h))))]) (b:=4) rfl (by decide) (bN (f:=c8) ([(UInt8.ofNat (Int.toNat (wr .u8 (h))))]:List UInt8) _ _)) fun p=>.cr (.ok (.s2 (im (a.L.map ak) false) (.st (dV (e:=107)) (.as (uK C n _ _ _ _ i self hS ([]) a.L ((a.L.length:Int)) c d a ?_ _ 0 p)))))))))
  ·intro r t u w x z w1400
   exact .un rfl (.cT r8 (.lf rfl rfl ⟨[w1400],rfl⟩))
def tc:Nat->af->af->(List UInt8)->af->Option (List UInt8)
 | 0=>fun _ _ _ _=>none
 | N+1=>fun a0 a1 a2 a3=>bif Nat.ble 8 N then rW (tc N) (N - 8) a0 a1 a2 a3 else none
theorem DM (C:OT) (d:rY C):∀ N,zK C N (tc N)
 | 0=>fun _ _ _ _ X r h=>by cases h
 | N+1=>fun a b a2 c X=>by
  show J _ _ _ (bif Nat.ble 8 N then rW (tc N) (N - 8) a b a2 c else none) _
  cases h:Nat.ble 8 N with
  | false=>exact fun r h=>by cases h
  | true=>
   obtain ⟨n,rfl⟩:∃ n,N=n+8:=⟨N - 8,by have:=Pc h; omega⟩
   rw[Nat.add_sub_cancel]
   exact D8 (m:=5) r8 r8 (by decide) rfl ((by kernel_rfl:_=((((ax 5 (c.L.map ak))&&true))&&true)).trans s5) ((by kernel_rfl:_=((((ax 5 (a.L.map ak))&&true))&&((((ax 5 (b.L.map ak))&&true))&&((ax 5 (a2.map c8))&&true)))).trans s5) (fun _=>rfl) (fun y=>r8) (fun y=>((by kernel_rfl:_=((((ax 5 (a.L.map ak))&&true))&&((((ax 5 (b.L.map ak))&&true))&&((ax 5 (y.map c8))&&true)))).trans s5)) (Gq C n d (tc (n+8)) (DM C d (n+8)) a b a2 c)
def fK (n:Nat):Nat->Int->(List UInt8)->Option (Int×(List UInt8))
 | 0,_,_=>none
 | m+1,a,b=>bif (decide (128<=a)) then (bif (decide (0<=(kN .u8 (wr .u8 (a)) 128))&&decide ((kN .u8 (wr .u8 (a)) 128)<256)) then ((cO 1 b ([(UInt8.ofNat (Int.toNat (kN .u8 (wr .u8 (a)) 128)))])).bind fun c=>fK n m (lS .u64 a 7) c) else none) else (some ((a,b)))
theorem pV {w75:A} {w76 w77 w78 w79:aw} {K:(Int×(List UInt8))->Option γ} (h:∀ (e:Int) (d:(List UInt8)) (i:A),J φ (kx 0 (St.mk [(0,(bL 4 0 d.length false)),(1,(A.v (.int .u64 e))),(4,i)] [w76,w77,w78,w79,aw.row false 1 (d.map c8)])) kL (K (e,d)) some) :
  ∀ (m:Nat) (a:Int) (c:(List UInt8)),J φ (aA (cx C) (di (cx C) (n+6)) (aX (cx C) (n+6)) (n+6) 98 0 0 5 kx kg kr kp m (St.mk [(0,(bL 4 0 c.length false)),(1,(A.v (.int .u64 a))),(4,w75)] [w76,w77,w78,w79,aw.row false 1 (c.map c8)])) kL (fK n  m a c) K:=by
  refine nI (fun _ _=>.nn) fun m ih a c=>.lp (ya ..) ?_
  unfold fK
  refine .st (fe ..) (.cj ?_ ?_)
  ·refine .st (v:=(uA (wr .u8 (a)))) (aQ (hs:=by kernel_rfl) (hd:=by kernel_rfl) ..) (.st (fL ..) (.gd fun hg=>.st (v:=(im [[(uA (((UInt8.ofNat (Int.toNat (kN .u8 (wr .u8 (a)) 128))).toNat:Int)))]] true)) (by rw[fk hg]; kernel_rfl) (.bd (g:=fun (y:List UInt8)=>((bL 4 0 y.length false),[w76,w77,w78,w79,aw.row false 1 (y.map c8)])) (bS da (l:=c) (l2:=[(UInt8.ofNat (Int.toNat (kN .u8 (wr .u8 (a)) 128)))]) (b:=4) rfl (by decide) (bN (f:=c8) ([(UInt8.ofNat (Int.toNat (kN .u8 (wr .u8 (a)) 128)))]:List UInt8) _ _)) fun j=>.st (jF (hb:=by decide) ..) (.s [w76,w77,w78,w79,aw.row false 1 (j.map c8)] (.cT r8 ?_)))))
   exact ih _ _
  exact .ex (h _ _ _)
def gn (n:Nat):Nat->Int->(List UInt8)->Option (Int×(List UInt8))
 | 0,_,_=>none
 | m+1,a,b=>bif (decide (128<=a)) then (bif (decide (0<=(kN .u8 (wr .u8 (a)) 128))&&decide ((kN .u8 (wr .u8 (a)) 128)<256)) then ((cO 1 b ([(UInt8.ofNat (Int.toNat (kN .u8 (wr .u8 (a)) 128)))])).bind fun c=>gn n m (lS .u64 a 7) c) else none) else (some ((a,b)))
theorem sb {w865:A} {w866 w867 w868 w869 w870 w871:aw} {K:(Int×(List UInt8))->Option γ} (h:∀ (e:Int) (d:(List UInt8)) (i:A),J φ (kx 0 (St.mk [(0,(bL 4 0 d.length false)),(1,(A.v (.int .u64 e))),(4,i)] [w866,w867,w868,w869,aw.row false 1 (d.map c8),w870,w871])) kL (K (e,d)) some) :
  ∀ (m:Nat) (a:Int) (c:(List UInt8)),J φ (aA (cx C) (di (cx C) (n+5)) (aX (cx C) (n+5)) (n+5) 98 0 0 7 kx kg kr kp m (St.mk [(0,(bL 4 0 c.length false)),(1,(A.v (.int .u64 a))),(4,w865)] [w866,w867,w868,w869,aw.row false 1 (c.map c8),w870,w871])) kL (gn n  m a c) K:=by
  refine nI (fun _ _=>.nn) fun m ih a c=>.lp (ya ..) ?_
  unfold gn
  refine .st (fe ..) (.cj ?_ ?_)
  ·refine .st (v:=(uA (wr .u8 (a)))) (aQ (hs:=by kernel_rfl) (hd:=by kernel_rfl) ..) (.st (fL ..) (.gd fun hg=>.st (v:=(im [[(uA (((UInt8.ofNat (Int.toNat (kN .u8 (wr .u8 (a)) 128))).toNat:Int)))]] true)) (by rw[fk hg]; kernel_rfl) (.bd (g:=fun (y:List UInt8)=>((bL 4 0 y.length false),[w866,w867,w868,w869,aw.row false 1 (y.map c8),w870,w871])) (bS da (l:=c) (l2:=[(UInt8.ofNat (Int.toNat (kN .u8 (wr .u8 (a)) 128)))]) (b:=4) rfl (by decide) (bN (f:=c8) ([(UInt8.ofNat (Int.toNat (kN .u8 (wr .u8 (a)) 128)))]:List UInt8) _ _)) fun j=>.st (jF (hb:=by decide) ..) (.s [w866,w867,w868,w869,aw.row false 1 (j.map c8),w870,w871] (.cT r8 ?_)))))
   exact ih _ _
  exact .ex (h _ _ _)
def eS (n:Nat) (h:(List UInt8)) (c:(List af)) (d:Int) (e:af) (f:af):Nat->Int->(List UInt8)->Option ((List UInt8))
 | 0,_,_=>none
 | m+1,b,g=>bif (decide (b<d)) then ((bl c b).bind fun a=>bif decide (a.Kind=0) then (none) else bif decide (a.Kind=1) then ((cO 1 g ([(1:UInt8)])).bind fun k=>(EG a.N).bind fun l=>(gn n  (n+5) l k).bind fun o=>match o with | (i,p)=>bif (decide (0<=(wr .u8 (i)))&&decide ((wr .u8 (i))<256)) then ((cO 1 p ([(UInt8.ofNat (Int.toNat (wr .u8 (i))))])).bind fun q=>eS n h c d e f m (wr .i64 (b+1)) q) else none) else bif decide (a.Kind=2) then ((cO 1 g ([(2:UInt8)])).bind fun r=>(gn n  (n+5) (wr .u64 ((a.S.size:Int))) r).bind fun s=>match s with | (j,t)=>bif (decide (0<=(wr .u8 (j)))&&decide ((wr .u8 (j))<256)) then ((cO 1 t ([(UInt8.ofNat (Int.toNat (wr .u8 (j))))])).bind fun u=>(cO 1 u (kV a.S)).bind fun v=>eS n h c d e f m (wr .i64 (b+1)) v) else none) else bif decide (a.Kind=3) then ((tc (n+7) e f g a).bind fun w=>eS n h c d e f m (wr .i64 (b+1)) w) else none) else (some g)
theorem yQ (r:rY C) (i:(List UInt8)) (j:(List af)) (u:Int) (c:af) (d:af) {K:((List UInt8))->Option γ} (w:∀ (p:(List UInt8)) (s2:A) (x:A) (z:A) (a0:A) (a1:A) (q0:aw) (q1:aw) (q2:aw) (q3:aw),J φ (kx 0 (St.mk [(0,(bL 4 0 p.length false)),(2,s2),(5,x),(17,z),(18,a0),(19,a1)] [q0,q1,q2,q3,aw.row false 1 (p.map c8)])) kL (K p) some) :
  ∀ (m:Nat) (q:Int) (h:(List UInt8)),J φ (aA (cx C) (ec C n 7) (ey C n 7) (n+7) 101 0 0 5 kx kg kr kp m (St.mk [(0,(bL 4 0 h.length false)),(2,(pt 2 0)),(5,(im (i.map c8) true)),(17,(im (j.map ak) false)),(18,(iA u)),(19,(iA q))] [bx (ae c),aH,bx [(pt 1 0)],bx (ae d),aw.row false 1 (h.map c8)])) kL (eS n i j u c d m q h) K:=by
  refine nI (fun _ _=>.nn) fun m ih q h=>.lp (AN ..) ?_
  unfold eS
  refine .st (aV ..) (.cj ?_ ?_)
  ·refine .bd ((eR (e:=107) (es:=4)).trans (gu _)) fun a=>.s (ag (ae a)) (.sq (pt 5 0) (.s [bx (ae c),aH,bx [(pt 1 0)],bx (ae d),aw.row false 1 (h.map c8),bx (ae a)] (.s (pt 1 0) (.s2 (iA a.Kind) (.s (pt 1 0) (.sp (fun a2=>?_) (fun _=>?_)))))))
   ·exact .st (v:=(pt 1 0)) (by rw[Oe a2]; kernel_rfl) (.s2 (A.v Value.nilFunc) (.s (ag (ae a)) (.nn)))
   refine .sp (fun a3=>?_) (fun _=>?_)
   ·refine .st (v:=(pt 1 1)) (by rw[Oe a3]; kernel_rfl) (.s2 (rK 97 [] []) (.s (ag (ae a)) (.dC r8 r8 (.cl ((aO Bq).trans (JY ..)) (.s ((pt 6 0),[bx (ae c),aH,bx [(pt 1 0)],bx (ae d),aw.row false 1 (h.map c8),bx (ae a),bx (ae a)]) (.s (im [[(uA 1)]] true) (.bd (g:=fun (y:List UInt8)=>((bL 4 0 y.length false),[bx (ae c),aH,bx [(pt 1 0)],bx (ae d),aw.row false 1 (y.map c8),bx (ae a),bx (ae a)])) (bS da (l:=h) (l2:=[(1:UInt8)]) (b:=4) rfl (by decide) (bN (f:=c8) ([(1:UInt8)]:List UInt8) _ _)) fun a4=>.cT r8 (.s (pt 6 1) (.cT r8 (.s (iA a.N) (.bd (r a.N) fun a5=>.cl ((aO pz).trans (Ec ..)) (.as (sb C n _ _ _ _  ?_ _ a5 a4)))))))))))))
    ·intro k a6 aj
     refine .un rfl (.cT r8 (.st (v:=(uA (wr .u8 (k)))) (aQ (hs:=by kernel_rfl) (hd:=by kernel_rfl) ..) (.gd fun hg=>.st (v:=(im [[(uA (((UInt8.ofNat (Int.toNat (wr .u8 (k)))).toNat:Int)))]] true)) (by rw[fk hg]; kernel_rfl) (.bd (g:=fun (y:List UInt8)=>((bL 4 0 y.length false),[bx (ae c),aH,bx [(pt 1 0)],bx (ae d),aw.row false 1 (y.map c8),bx (ae a),bx (ae a)])) (bS da (l:=a6) (l2:=[(UInt8.ofNat (Int.toNat (wr .u8 (k))))]) (b:=4) rfl (by decide) (bN (f:=c8) ([(UInt8.ofNat (Int.toNat (wr .u8 (k))))]:List UInt8) _ _)) fun a7=>.cr (.ok (.cr (.ok (.st (az ..) (.st (v:=[bx (ae c),aH,bx [(pt 1 0)],bx (ae d),aw.row false 1 (a7.map c8)]) (cU r8 H8) (.cT ((by kernel_rfl:_=(bif ax 5 (i.map c8) then (bif ax 5 (j.map ak) then true else false) else false)).trans s5) ?_))))))))))
     exact ih _ _
   refine .sp (fun a8=>?_) (fun _=>?_)
   ·refine .st (v:=(pt 1 2)) (by rw[Oe a8]; kernel_rfl) (.s2 (rK 100 [] []) (.s (ag (ae a)) (.dC r8 r8 (.cl ((aO xg).trans (E3 ..)) (.s ((pt 6 0),[bx (ae c),aH,bx [(pt 1 0)],bx (ae d),aw.row false 1 (h.map c8),bx (ae a),bx (ae a)]) (.s ((A.ip (ae a)),[bx (ae c),aH,bx [(pt 1 0)],bx (ae d),aw.row false 1 (h.map c8),bx (ae a),aw.dead]) (.cT r8 (.s (im [[(uA 2)]] true) (.s (A.ip [(sA a.S),(im (a.L.map ak) false)]) (.s (sA a.S) (.s (iA ((a.S.size:Int))) (.st (v:=(A.v (.int .u64 (wr .u64 ((a.S.size:Int)))))) (aQ (hs:=by kernel_rfl) (hd:=by kernel_rfl) ..) (.s (A.ip [(sA a.S),(im (a.L.map ak) false)]) (.s (sA a.S) (.cT r8 (.bd (g:=fun (y:List UInt8)=>((bL 4 0 y.length false),[bx (ae c),aH,bx [(pt 1 0)],bx (ae d),aw.row false 1 (y.map c8),bx (ae a),aw.dead])) (bS da (l:=h) (l2:=[(2:UInt8)]) (b:=4) rfl (by decide) (bN (f:=c8) ([(2:UInt8)]:List UInt8) _ _)) fun a9=>.cT r8 (.cl ((aO pz).trans (Ec ..)) (.as (sb C n _ _ _ _  ?_ _ (wr .u64 ((a.S.size:Int))) a9)))))))))))))))))))
    ·intro o aa al
     refine .un rfl (.cT r8 (.st (v:=(uA (wr .u8 (o)))) (aQ (hs:=by kernel_rfl) (hd:=by kernel_rfl) ..) (.gd fun hg=>.st (v:=(im [[(uA (((UInt8.ofNat (Int.toNat (wr .u8 (o)))).toNat:Int)))]] true)) (by rw[fk hg]; kernel_rfl) (.bd (g:=fun (y:List UInt8)=>((bL 4 0 y.length false),[bx (ae c),aH,bx [(pt 1 0)],bx (ae d),aw.row false 1 (y.map c8),bx (ae a),aw.dead])) (bS da (l:=aa) (l2:=[(UInt8.ofNat (Int.toNat (wr .u8 (o))))]) (b:=4) rfl (by decide) (bN (f:=c8) ([(UInt8.ofNat (Int.toNat (wr .u8 (o))))]:List UInt8) _ _)) fun ab=>.cr (.ok (.bd (g:=fun (y:List UInt8)=>((bL 4 0 y.length false),[bx (ae c),aH,bx [(pt 1 0)],bx (ae d),aw.row false 1 (y.map c8),bx (ae a),aw.dead])) (bS wN (l:=ab) (l2:=kV a.S) (b:=4) rfl (by decide) (tD ..)) fun ad=>.cr (.ok (.st (az ..) (.st (v:=[bx (ae c),aH,bx [(pt 1 0)],bx (ae d),aw.row false 1 (ad.map c8)]) (cU r8 H8) (.cT ((by kernel_rfl:_=(bif ax 5 (i.map c8) then (bif ax 5 (j.map ak) then true else false) else false)).trans s5) ?_))))))))))
     exact ih _ _
   refine .sp (fun ah=>?_) (fun _=>?_)
   ·refine .st (v:=(pt 1 3)) (by rw[Oe ah]; kernel_rfl) (.s2 (rK 101 [] [(pt 2 0)]) (.s (ag (ae a)) (.dC r8 r8 (.bg (fun (t:R) (y:(List UInt8))=>t=(Out.ret (bL 4 0 y.length false),[bx (ae c),aH,bx [(pt 1 0)],bx (ae d),aw.row false 1 (y.map c8),bx (ae a)])) (DM C r (n+7) c d h a [bx (ae a)]) ?_))))
    rintro _ ai rfl
    refine .ok (.st (az ..) (.st (v:=[bx (ae c),aH,bx [(pt 1 0)],bx (ae d),aw.row false 1 (ai.map c8)]) (cU r8 H8) (.cT ((by kernel_rfl:_=(bif ax 5 (i.map c8) then (bif ax 5 (j.map ak) then true else false) else false)).trans s5) ?_)))
    exact ih _ _
   exact .nn
  exact .ex (w _ _ _ _ _ _ _ _ _ _)
def IE (n:Nat) (a:af):Option ((List UInt8)×Int):=
 (Gi a).bind fun e=>bif (e != 0) then (some (([],e))) else (bif decide (a.Kind=0) then (none) else bif decide (a.Kind=1) then ((cO 1 ([]) ([(1:UInt8)])).bind fun f=>(EG a.N).bind fun g=>(fK n  (n+6) g f).bind fun h=>match h with | (b,i)=>bif (decide (0<=(wr .u8 (b)))&&decide ((wr .u8 (b))<256)) then ((cO 1 i ([(UInt8.ofNat (Int.toNat (wr .u8 (b))))])).bind fun j=>some ((j,0))) else none) else bif decide (a.Kind=2) then ((cO 1 ([]) ([(2:UInt8)])).bind fun k=>(fK n  (n+6) (wr .u64 ((a.S.size:Int))) k).bind fun l=>match l with | (c,o)=>bif (decide (0<=(wr .u8 (c)))&&decide ((wr .u8 (c))<256)) then ((cO 1 o ([(UInt8.ofNat (Int.toNat (wr .u8 (c))))])).bind fun p=>(cO 1 p (kV a.S)).bind fun q=>some ((q,0))) else none) else bif decide (a.Kind=3) then ((cO 1 ([]) ([(3:UInt8)])).bind fun r=>(fK n  (n+6) (wr .u64 ((a.L.length:Int))) r).bind fun s=>match s with | (d,t)=>bif (decide (0<=(wr .u8 (d)))&&decide ((wr .u8 (d))<256)) then ((cO 1 t ([(UInt8.ofNat (Int.toNat (wr .u8 (d))))])).bind fun u=>(eS n ([]) a.L ((a.L.length:Int)) a a (n+7) 0 u).bind fun v=>match v with | w=>some ((w,0))) else none) else none)
theorem MH (C:OT) (n:Nat) (p:D0 C) (o:rY C) (a:af):TJ C n 58 [(ag (ae a))] (IE n a) (fun y=>(tp [(im (y.1.map c8) false),(iA y.2)])):=by
 refine .lp (Nd ..) ?_
 unfold IE
 refine .s ((pt 0 0),[bx (ae a)]) (.s (ag (ae a)) (.bd (g:=fun (y:Int)=>(iA y)) (by simp only[dQ,gb]; exact p a) fun y1=>.st (aB ..) (.cj ?_ ?_)))
 ·exact .lv u3
 refine .s (pt 0 0) (.s (iA a.Kind) (.s (ag (ae a)) (.cT r8 (.cl ((aO Hp).trans (Np ..)) (.s (ag [(A.v Value.nilFunc),(A.v Value.nilFunc),(A.v Value.nilFunc),(A.v Value.nilFunc)]) (.sq (pt 1 0) (.sq (pt 2 0) (.sh (.s (pt 1 0) (.s (pt 1 0) (.s (pt 1 1) (.s (pt 1 1) (.sh (.s (pt 1 0) (.s (pt 1 0) (.s (pt 1 2) (.s (pt 1 2) (.sh (.s (pt 1 0) (.s (pt 1 0) (.s (pt 1 3) (.s (pt 1 3) (.s [bx (ae a),aH,bx [(pt 1 0)]] ?_)))))))))))))))))))))))
 refine .s (pt 1 0) (.cr (.ok (.s (pt 1 0) (.sp (fun q=>?_) (fun _=>?_)))))
 ·exact .st (v:=(pt 1 0)) (by rw[Oe q]; kernel_rfl) (.s2 (A.v Value.nilFunc) (.nn))
 refine .sp (fun r=>?_) (fun _=>?_)
 ·refine .st (v:=(pt 1 1)) (by rw[Oe r]; kernel_rfl) (.s2 (rK 97 [] []) (.dC r8 r8 (.cl ((aO Bq).trans (JY ..)) (.s ((pt 3 0),[bx (ae a),aH,bx [(pt 1 0)],bx (ae a)]) (.s (im [[(uA 1)]] true) (.bd (g:=fun (y:List UInt8)=>((bL 4 0 y.length false),[bx (ae a),aH,bx [(pt 1 0)],bx (ae a),aw.row false 1 (y.map c8)])) (tq da (l:=[]) (l2:=[(1:UInt8)]) (bN (f:=c8) ([(1:UInt8)]:List UInt8) _ _)) fun t=>.cT r8 (.s (pt 3 1) (.cT r8 (.s (iA a.N) (.bd (o a.N) fun u=>.cl ((aO pz).trans (Ec ..)) (.as (pV C n _ _ _ _  ?_ _ u t))))))))))))
  ·intro i w a8
   exact .un rfl (.cT r8 (.st (v:=(uA (wr .u8 (i)))) (aQ (hs:=by kernel_rfl) (hd:=by kernel_rfl) ..) (.gd fun hg=>.st (v:=(im [[(uA (((UInt8.ofNat (Int.toNat (wr .u8 (i)))).toNat:Int)))]] true)) (by rw[fk hg]; kernel_rfl) (.bd (g:=fun (y:List UInt8)=>((bL 4 0 y.length false),[bx (ae a),aH,bx [(pt 1 0)],bx (ae a),aw.row false 1 (y.map c8)])) (bS da (l:=w) (l2:=[(UInt8.ofNat (Int.toNat (wr .u8 (i))))]) (b:=4) rfl (by decide) (bN (f:=c8) ([(UInt8.ofNat (Int.toNat (wr .u8 (i))))]:List UInt8) _ _)) fun c=>.cr (.ok (.cr (.ok (.lv (by show bR [bx (ae a),aH,bx [(pt 1 0)],bx (ae a),aw.row false 1 (c.map c8)] (tp [(bL 4 0 c.length false),(iA 0)])=_; first | (simp only[dQ,gb,bR,dN (H:=[bx (ae a),aH,bx [(pt 1 0)],bx (ae a),aw.row false 1 (c.map c8)]) (b:=4) (es:=1) (wr:=false) (l:=c) gX rfl]; done) | (simp only[dQ,og,bR,dN (H:=[bx (ae a),aH,bx [(pt 1 0)],bx (ae a),aw.row false 1 (c.map c8)]) (b:=4) (es:=1) (wr:=false) (l:=c) gX rfl]; first | done | rfl))))))))))
 refine .sp (fun x=>?_) (fun _=>?_)
 ·refine .st (v:=(pt 1 2)) (by rw[Oe x]; kernel_rfl) (.s2 (rK 100 [] []) (.dC r8 r8 (.cl ((aO xg).trans (E3 ..)) (.s ((pt 3 0),[bx (ae a),aH,bx [(pt 1 0)],bx (ae a)]) (.s ((A.ip (ae a)),[bx (ae a),aH,bx [(pt 1 0)],aw.dead]) (.cT r8 (.s (im [[(uA 2)]] true) (.s (A.ip [(sA a.S),(im (a.L.map ak) false)]) (.s (sA a.S) (.s (iA ((a.S.size:Int))) (.st (v:=(A.v (.int .u64 (wr .u64 ((a.S.size:Int)))))) (aQ (hs:=by kernel_rfl) (hd:=by kernel_rfl) ..) (.s (A.ip [(sA a.S),(im (a.L.map ak) false)]) (.s (sA a.S) (.cT r8 (.bd (g:=fun (y:List UInt8)=>((bL 4 0 y.length false),[bx (ae a),aH,bx [(pt 1 0)],aw.dead,aw.row false 1 (y.map c8)])) (tq da (l:=[]) (l2:=[(2:UInt8)]) (bN (f:=c8) ([(2:UInt8)]:List UInt8) _ _)) fun z=>.cT r8 (.cl ((aO pz).trans (Ec ..)) (.as (pV C n _ _ _ _  ?_ _ (wr .u64 ((a.S.size:Int))) z))))))))))))))))))
  ·intro j a1 a9
   exact .un rfl (.cT r8 (.st (v:=(uA (wr .u8 (j)))) (aQ (hs:=by kernel_rfl) (hd:=by kernel_rfl) ..) (.gd fun hg=>.st (v:=(im [[(uA (((UInt8.ofNat (Int.toNat (wr .u8 (j)))).toNat:Int)))]] true)) (by rw[fk hg]; kernel_rfl) (.bd (g:=fun (y:List UInt8)=>((bL 4 0 y.length false),[bx (ae a),aH,bx [(pt 1 0)],aw.dead,aw.row false 1 (y.map c8)])) (bS da (l:=a1) (l2:=[(UInt8.ofNat (Int.toNat (wr .u8 (j))))]) (b:=4) rfl (by decide) (bN (f:=c8) ([(UInt8.ofNat (Int.toNat (wr .u8 (j))))]:List UInt8) _ _)) fun a2=>.cr (.ok (.bd (g:=fun (y:List UInt8)=>((bL 4 0 y.length false),[bx (ae a),aH,bx [(pt 1 0)],aw.dead,aw.row false 1 (y.map c8)])) (bS wN (l:=a2) (l2:=kV a.S) (b:=4) rfl (by decide) (tD ..)) fun d=>.cr (.ok (.lv (by show bR [bx (ae a),aH,bx [(pt 1 0)],aw.dead,aw.row false 1 (d.map c8)] (tp [(bL 4 0 d.length false),(iA 0)])=_; first | (simp only[dQ,gb,bR,dN (H:=[bx (ae a),aH,bx [(pt 1 0)],aw.dead,aw.row false 1 (d.map c8)]) (b:=4) (es:=1) (wr:=false) (l:=d) gX rfl]; done) | (simp only[dQ,og,bR,dN (H:=[bx (ae a),aH,bx [(pt 1 0)],aw.dead,aw.row false 1 (d.map c8)]) (b:=4) (es:=1) (wr:=false) (l:=d) gX rfl]; first | done | rfl))))))))))
 refine .sp (fun a3=>?_) (fun _=>?_)
 ·refine .st (v:=(pt 1 3)) (by rw[Oe a3]; kernel_rfl) (.s2 (rK 101 [] [(pt 2 0)]) (.dC r8 r8 (.cl ((aO Fg).trans (GB ..)) (.s ((pt 3 0),[bx (ae a),aH,bx [(pt 1 0)],bx (ae a)]) (.s (im [[(uA 3)]] true) (.bd (g:=fun (y:List UInt8)=>((bL 4 0 y.length false),[bx (ae a),aH,bx [(pt 1 0)],bx (ae a),aw.row false 1 (y.map c8)])) (tq da (l:=[]) (l2:=[(3:UInt8)]) (bN (f:=c8) ([(3:UInt8)]:List UInt8) _ _)) fun a4=>.cT r8 (.s (pt 3 3) (.cT r8 (.s (im (a.L.map ak) false) (.cT r8 (.st (dV (e:=107)) (.cT r8 (.st (v:=(A.v (.int .u64 (wr .u64 ((a.L.length:Int)))))) (aQ (hs:=by kernel_rfl) (hd:=by kernel_rfl) ..) (.cl ((aO pz).trans (Ec ..)) (.as (pV C n _ _ _ _  ?_ _ (wr .u64 ((a.L.length:Int))) a4))))))))))))))))
  ·intro k a5 aa
   refine .un rfl (.cT r8 (.st (v:=(uA (wr .u8 (k)))) (aQ (hs:=by kernel_rfl) (hd:=by kernel_rfl) ..) (.gd fun hg=>.st (v:=(im [[(uA (((UInt8.ofNat (Int.toNat (wr .u8 (k)))).toNat:Int)))]] true)) (by rw[fk hg]; kernel_rfl) (.bd (g:=fun (y:List UInt8)=>((bL 4 0 y.length false),[bx (ae a),aH,bx [(pt 1 0)],bx (ae a),aw.row false 1 (y.map c8)])) (bS da (l:=a5) (l2:=[(UInt8.ofNat (Int.toNat (wr .u8 (k))))]) (b:=4) rfl (by decide) (bN (f:=c8) ([(UInt8.ofNat (Int.toNat (wr .u8 (k))))]:List UInt8) _ _)) fun a6=>.cr (.ok (.s2 (im (a.L.map ak) false) (.st (dV (e:=107)) (.as (yQ C n _ _ _ _ o ([]) a.L ((a.L.length:Int)) a a ?_ _ 0 a6)))))))))
   ·intro h ab ad ah ai aj w959 w960 w961 w962
    exact .un rfl (.cT r8 (.cr (.ok (.lv (by show bR [w959,w960,w961,w962,aw.row false 1 (h.map c8)] (tp [(bL 4 0 h.length false),(iA 0)])=_; first | (simp only[dQ,gb,bR,dN (H:=[w959,w960,w961,w962,aw.row false 1 (h.map c8)]) (b:=4) (es:=1) (wr:=false) (l:=h) gX rfl]; done) | (simp only[dQ,og,bR,dN (H:=[w959,w960,w961,w962,aw.row false 1 (h.map c8)]) (b:=4) (es:=1) (wr:=false) (l:=h) gX rfl]; first | done | rfl))))))
 exact .nn
def EF (a:af):Option ((List UInt8)×Int):=IE aE a
def DW (C:OT):Prop:=∀ (a:af),C 58 [(ag (ae a))]=(EF a).map fun y=>(tp [(im (y.1.map c8) false),(iA y.2)])
end Go.Proofs.Ytebkhfhcipnfgaa
