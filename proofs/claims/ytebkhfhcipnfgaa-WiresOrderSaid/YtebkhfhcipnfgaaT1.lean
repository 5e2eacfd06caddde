/-
 The program's functions as plain functions: by a tool; each follows the interpreter.
-/
import Derived.Test.YtebkhfhcipnfgaaE
namespace Go.Proofs.Ytebkhfhcipnfgaa
open Go.Proofs.Try (prog)
set_option linter.unusedVariables false
set_option linter.unusedSimpArgs false
set_option maxHeartbeats 4000000
set_option maxRecDepth 100000
set_option linter.defProp false
theorem so {p:Prop} (h:p:=by simp only[gT,gV]):p:=h
theorem s0 {p:Prop} (h:p:=by simp only[cD,jQ,br]; first | done | rfl):p:=h
theorem An {p:Prop} (h:p:=by simp only[uB,gT,gV,Nat.reduceLT,decide_true]):p:=h
theorem H7 {p:Prop} (h:p:=by simp only[List.map_cons,List.map_nil,cM]):p:=h
theorem Sn {p:Prop} (h:p:=by simp only[uB,gT,gV,Nat.reduceLT,decide_true,aJ]):p:=h
def VM:=@Nat.add_sub_cancel
variable (C:Nat->List A->Option A) (n:Nat) {ρ γ:Type} {φ:ρ->γ->Prop} {kL:R->Option ρ} (kx kg:Nat->St->Option R) (kr:St->Option R) (kp:A->St->Option R)
abbrev OT:=Nat->List A->Option A
abbrev iM:=ByteArray.empty
abbrev sA (s:ByteArray):A:=.v (.string s)
abbrev se:A:=sA iM
abbrev im:=A.imm
abbrev Sv:A:=im [] true
abbrev ag:=A.agg
abbrev pt:=A.ptr
abbrev tp:=A.tup
abbrev bU:=A.sl
abbrev bx:=aD.box
abbrev sV (k:Nat) (a b:List A):A:=A.fn (Fn.func k) a b
abbrev Sk:aD:=aD.box [(A.imm [] true),(A.imm [] true),(iA 0),(bA false)]
abbrev Sj:aD:=aD.box [(A.imm [] true),(iA 0),(iA 0)]
noncomputable abbrev ec (C:Nat->List A->Option A) (n k:Nat):=dx (cx C) (n+k)
noncomputable abbrev ey (C:Nat->List A->Option A) (n k:Nat):=bo (cx C) (n+k)
structure ah where
 Kind:Int
 N:Int
 S:ByteArray
 L:(List ah)
 deriving Inhabited
mutual
def cR:ah->A
 | .mk _ _ _ l=>.imm (bR l) false
def bR:List ah->List (List A)
 | []=>[]
 | x :: r=>[(iA x.Kind),(iA x.N),(sA x.S),cR x] :: bR r
end
def ak (x:ah):List A:=[(iA x.Kind),(iA x.N),(sA x.S),cR x]
theorem rS:∀ (l:List ah),bR l=l.map ak
 | []=>by rw[bR]; rfl
 | x :: r=>by rw[bR,rS r]; rfl
theorem yF (x:ah):cR x=.imm (x.L.map ak) false:=by
 cases x; rw[cR,rS]
abbrev ae (x:ah):List A:=[(iA x.Kind),(iA x.N),(sA x.S),.imm (x.L.map ak) false]
theorem cM (x:ah):ak x=[(iA x.Kind),(iA x.N),(sA x.S),.imm (x.L.map ak) false]:=by
 show [(iA x.Kind),(iA x.N),(sA x.S),cR x]=_
 rw[yF]
theorem dD (o:Option ah):(o.map fun x=>A.ip (ak x))=o.map fun x=>A.ip [(iA x.Kind),(iA x.N),(sA x.S),.imm (x.L.map ak) false]:=by
 cases o with
 | none=>rfl
 | some x=>exact Ty (fun z=>some (A.ip z)) (cM x)
theorem yg:ka ak:=fun x=>by rw[cM]; rfl
mutual
theorem sH (L:Nat):∀ (x:ah),A.under L (cR x)=true
 | .mk _ _ _ l=>by rw[cR,A.under]; exact sK L l
theorem sK (L:Nat):∀ (l:List ah),aQ L (bR l)=true
 | []=>by rw[bR]; rfl
 | x :: r=>by rw[bR,aQ,sK L r]; simp only[aZ,A.under,sH L x,TT,Ut]
end
mutual
theorem sv (g:Nat->Nat->Nat->A):∀ (x:ah),bZ g (cR x)=cR x
 | .mk _ _ _ l=>by rw[cR,bZ,sF g l]
theorem sF (g:Nat->Nat->Nat->A):∀ (l:List ah),cP g (bR l)=bR l
 | []=>by rw[bR]; rfl
 | x :: r=>by rw[bR,cP,sF g r]; simp only[aX,bZ,sv g x]
end
theorem c9:cV ak:=fun L x=>by unfold ak; simp only[aZ,A.under,sH L x,TT,Ut]
theorem cq:bQ ak:=fun g x=>by unfold ak; simp only[aX,bZ,sv g x]
mutual
theorem rL:∀ (x y:ah),cR x=cR y->x.L=y.L
 | .mk xKind xN xS l,.mk yKind yN yS l'=>fun h=>by
  rw[cR,cR,A.imm.injEq] at h
  exact rP l l' h.1
theorem rP:∀ (l l':List ah),bR l=bR l'->l=l'
 | [],[]=>fun _=>rfl
 | [],y :: r=>fun h=>by rw[bR,bR] at h; cases h
 | x :: r,[]=>fun h=>by rw[bR,bR] at h; cases h
 | x :: r,y :: r'=>fun h=>by
  rw[bR,bR,TA] at h
  have h2:=rP r r' h.2
  have h1:=h.1
  simp only[TA,A.v.injEq,T5,T6,T0,U2,UJ] at h1
  have h3:=rL x y (by simp[h1])
  rw[h2]
  congr 1
  obtain ⟨xKind,xN,xS,lx⟩:=x; obtain ⟨yKind,yN,yS,ly⟩:=y
  simp_all
end
theorem gI {T:Type} {f:T->List A} {H:ar} {l:List T} {rows:List (List A)} {c:Bool} (h:l.map f=rows):ow H (.imm rows c) f l:=by
 rw[<-h]; exact bz ..
structure aw where
 From:Int
 To:Int
 Data:(List UInt8)
 deriving DecidableEq,Inhabited
def af (x:aw):List A:=[(iA x.From),(iA x.To),(im (List.map c8 x.Data) false)]
theorem wz:ka af:=fun _=>rfl
theorem cX:cV af:=fun _ _=>by simp only[af,aZ,A.under,cO,lV,lT,lU,lX,lW,TT,Tm,c9]
theorem b8:bQ af:=fun _ _=>by simp only[af,bZ,aX,bX,jK,et,lQ,lS,lR,cq]
def ai (x:(Int×Int)):List A:=[(iA x.1),(iA x.2)]
theorem cH:cV ai:=fun _ _=>by simp only[ai,aZ,A.under,cO,lV,lT,lU,lX,lW,TT,Tm,c9,cX]
theorem cG:bQ ai:=fun _ _=>by simp only[ai,bZ,aX,bX,jK,et,lQ,lS,lR,cq,b8]
theorem sW (g:Nat->Nat->Nat->A) (x:(Int×Int)):aX g (ai x)=ai x:=cG g x
theorem rG (L:Nat) (x:(Int×Int)):aZ L (ai x)=true:=cH L x
structure aM where
 Queue:(List aw)
 Apart:(List (Int×Int))
 deriving DecidableEq,Inhabited
def bO (x:aM):List A:=[(im (List.map af x.Queue) false),(im (List.map ai x.Apart) false)]
theorem fV:cV bO:=fun _ _=>by simp only[bO,aZ,A.under,cO,lV,lT,lU,lX,lW,TT,Tm,c9,cX,cH]
theorem fU:bQ bO:=fun _ _=>by simp only[bO,bZ,aX,bX,jK,et,lQ,lS,lR,cq,b8,cG]
structure aO where
 No:Int
 Role:Int
 Bar:Int
 Program:Int
 deriving DecidableEq,Inhabited
def au (x:aO):List A:=[(iA x.No),(iA x.Role),(iA x.Bar),(iA x.Program)]
theorem q7:ka au:=fun _=>rfl
theorem gJ:cV au:=fun _ _=>by simp only[au,aZ,A.under,cO,lV,lT,lU,lX,lW,TT,Tm,c9,cX,cH,fV]
theorem fT:bQ au:=fun _ _=>by simp only[au,bZ,aX,bX,jK,et,lQ,lS,lR,cq,b8,cG,fU]
structure aP where
 Cues:(List aO)
 Got:(List Int)
 Did:(List Int)
 deriving DecidableEq,Inhabited
def av (x:aP):List A:=[(im (List.map au x.Cues) false),(im (List.map (cI .i64) x.Got) false),(im (List.map (cI .i64) x.Did) false)]
theorem q8:ka av:=fun _=>rfl
theorem iz:cV av:=fun _ _=>by simp only[av,aZ,A.under,cO,lV,lT,lU,lX,lW,TT,Tm,c9,cX,cH,fV,gJ]
theorem dW:bQ av:=fun _ _=>by simp only[av,bZ,aX,bX,jK,et,lQ,lS,lR,cq,b8,cG,fU,fT]
structure aq where
 Net:aM
 Ears:(List aP)
 Bar:Int
 deriving DecidableEq,Inhabited
def aa (x:aq):List A:=[(im (List.map af x.Net.Queue) false),(im (List.map ai x.Net.Apart) false),(im (List.map av x.Ears) false),(iA x.Bar)]
theorem gn:cV aa:=fun _ _=>by simp only[aa,aZ,A.under,cO,lV,lT,lU,lX,lW,TT,Tm,c9,cX,cH,fV,gJ,iz]
theorem gm:bQ aa:=fun _ _=>by simp only[aa,bZ,aX,bX,jK,et,lQ,lS,lR,cq,b8,cG,fU,fT,dW]
structure ba where
 Role:Int
 Bar:Int
 Program:Int
 deriving DecidableEq,Inhabited
def al (x:ba):List A:=[(iA x.Role),(iA x.Bar),(iA x.Program)]
theorem gx:cV al:=fun _ _=>by simp only[al,aZ,A.under,cO,lV,lT,lU,lX,lW,TT,Tm,c9,cX,cH,fV,gJ,iz,gn]
theorem gw:bQ al:=fun _ _=>by simp only[al,bZ,aX,bX,jK,et,lQ,lS,lR,cq,b8,cG,fU,fT,dW,gm]
structure aH where
 kind:Int
 cue:aO
 report:ba
 deriving DecidableEq,Inhabited
def aj (x:aH):List A:=[(iA x.kind),(iA x.cue.No),(iA x.cue.Role),(iA x.cue.Bar),(iA x.cue.Program),(iA x.report.Role),(iA x.report.Bar),(iA x.report.Program)]
theorem dF:cV aj:=fun _ _=>by simp only[aj,aZ,A.under,cO,lV,lT,lU,lX,lW,TT,Tm,c9,cX,cH,fV,gJ,iz,gn,gx]
theorem dE:bQ aj:=fun _ _=>by simp only[aj,bZ,aX,bX,jK,et,lQ,lS,lR,cq,b8,cG,fU,fT,dW,gm,gw]
structure en where
 rest:(List UInt8)
 deriving DecidableEq,Inhabited
def aR (x:en):List A:=[(im (List.map c8 x.rest) false)]
theorem eZ:cV aR:=fun _ _=>by simp only[aR,aZ,A.under,cO,lV,lT,lU,lX,lW,TT,Tm,c9,cX,cH,fV,gJ,iz,gn,gx,dF]
theorem eX:bQ aR:=fun _ _=>by simp only[aR,bZ,aX,bX,jK,et,lQ,lS,lR,cq,b8,cG,fU,fT,dW,gm,gw,dE]
def b7 (x:(Bool×Bool×Bool×Bool)):List A:=[(bA x.1),(bA x.2.1),(bA x.2.2.1),(bA x.2.2.2)]
theorem nV:cV b7:=fun _ _=>by simp only[b7,aZ,A.under,cO,lV,lT,lU,lX,lW,TT,Tm,c9,cX,cH,fV,gJ,iz,gn,gx,dF,eZ]
theorem nT:bQ b7:=fun _ _=>by simp only[b7,bZ,aX,bX,jK,et,lQ,lS,lR,cq,b8,cG,fU,fT,dW,gm,gw,dE,eX]
theorem yw (g:Nat->Nat->Nat->A) (x:(Bool×Bool×Bool×Bool)):aX g (b7 x)=b7 x:=nT g x
theorem wV (L:Nat) (x:(Bool×Bool×Bool×Bool)):aZ L (b7 x)=true:=nV L x
structure b6 where
 B:(List UInt8)
 At:Int
 Bad:Bool
 deriving DecidableEq,Inhabited
def ax (x:b6):List A:=[(im (List.map c8 x.B) false),(iA x.At),(bA x.Bad)]
theorem fa:cV ax:=fun _ _=>by simp only[ax,aZ,A.under,cO,lV,lT,lU,lX,lW,TT,Tm,c9,cX,cH,fV,gJ,iz,gn,gx,dF,eZ,nV]
theorem eY:bQ ax:=fun _ _=>by simp only[ax,bZ,aX,bX,jK,et,lQ,lS,lR,cq,b8,cG,fU,fT,dW,gm,gw,dE,eX,nT]
theorem yx (g:Nat->Nat->Nat->A) (x:ah):aX g (ak x)=ak x:=cq g x
theorem wW (L:Nat) (x:ah):aZ L (ak x)=true:=c9 L x
theorem wQ (g:Nat->Nat->Nat->A) (x:aw):aX g (af x)=af x:=b8 g x
theorem vi (L:Nat) (x:aw):aZ L (af x)=true:=cX L x
theorem Cr (g:Nat->Nat->Nat->A) (x:aM):aX g (bO x)=bO x:=fU g x
theorem AO (L:Nat) (x:aM):aZ L (bO x)=true:=fV L x
theorem Cp (g:Nat->Nat->Nat->A) (x:aO):aX g (au x)=au x:=fT g x
theorem AM (L:Nat) (x:aO):aZ L (au x)=true:=gJ L x
theorem Cq (g:Nat->Nat->Nat->A) (x:aP):aX g (av x)=av x:=dW g x
theorem AN (L:Nat) (x:aP):aZ L (av x)=true:=iz L x
theorem yy (g:Nat->Nat->Nat->A) (x:aq):aX g (aa x)=aa x:=gm g x
theorem wX (L:Nat) (x:aq):aZ L (aa x)=true:=gn L x
theorem wR (g:Nat->Nat->Nat->A) (x:ba):aX g (al x)=al x:=gw g x
theorem vj (L:Nat) (x:ba):aZ L (al x)=true:=gx L x
theorem nU (g:Nat->Nat->Nat->A) (x:aH):aX g (aj x)=aj x:=dE g x
theorem nm (L:Nat) (x:aH):aZ L (aj x)=true:=dF L x
theorem oY (g:Nat->Nat->Nat->A) (x:en):aX g (aR x)=aR x:=eX g x
theorem nW (L:Nat) (x:en):aZ L (aR x)=true:=eZ L x
theorem iZ (g:Nat->Nat->Nat->A) (x:b6):aX g (ax x)=ax x:=eY g x
theorem iP (L:Nat) (x:b6):aZ L (ax x)=true:=fa L x
theorem eo:xI prog 105 105 107 4 56 [(iA 0),(iA 0),se,Sv] ak:=⟨r7,r7,r7,r7,rfl,by decide,by decide,r7,fun _=>rfl,yg⟩
theorem cK:xI prog 46 46 5 1 1 [(uA 0)] c8:=⟨r7,r7,r7,r7,rfl,by decide,by decide,r7,fun _=>rfl,Gf⟩
theorem uP:xI prog 46 9 5 1 1 [(uA 0)] c8:=⟨r7,r7,r7,r7,rfl,by decide,by decide,r7,fun _=>rfl,Gf⟩
theorem zw:xI prog 22 22 48 3 40 [(iA 0),(iA 0),Sv] af:=⟨r7,r7,r7,r7,rfl,by decide,by decide,r7,fun _=>rfl,wz⟩
theorem Eb:xI prog 50 50 3 1 8 [(iA 0)] (cI .i64):=⟨r7,r7,r7,r7,rfl,by decide,by decide,r7,fun _=>rfl,(Jf _)⟩
abbrev TJ {T:Type} (C:OT) (n k:Nat) (args:List A) (X:Option T) (f:T->A):Prop:=J (fun (o:R) y=>∃ v,o.1=.ret v/\br o.2 v=f y) (aB (cx C) (ec C n 8) (ey C n 8) (n+8) k args [] 0) some X some
theorem nI {P:Nat->Prop} (h0:P 0) (hs:∀ m,P m->P (m+1)) (m:Nat):P m:=by
 induction m with
 | zero=>exact h0
 | succ m ih=>exact hs m ih
section
variable {ρ γ σ α τ:Type} {φ:ρ->γ->Prop} {kL:σ->Option ρ} {K:α->Option γ} {R:Option α} {k:τ->Option σ}
theorem J.OU {X:Option (List A)} {F:A->A->A->A->A->A->A->A->A->A->A->A->A->Option τ} (h:J φ (((X).bind fun l=>cf l fun a l=>cf l fun b l=>cf l fun c l=>cf l fun d l=>cf l fun e l=>cf l fun f l=>cf l fun g l=>cf l fun h l=>cf l fun i l=>cf l fun j l=>cf l fun m l=>cf l fun n l=>cf l fun o l=>F a b c d e f g h i j m n o).bind k) kL R K):J φ ((X).bind fun l=>cf l fun a l=>cf l fun b l=>cf l fun c l=>cf l fun d l=>cf l fun e l=>cf l fun f l=>cf l fun g l=>cf l fun h l=>cf l fun i l=>cf l fun j l=>cf l fun m l=>cf l fun n l=>cf l fun o l=>(F a b c d e f g h i j m n o).bind k) kL R K:=by simpa only [Tx,po] using h
theorem J.OS {X:Option (List A)} {F:A->A->A->A->A->A->A->A->A->A->Option τ} (h:J φ (((X).bind fun l=>cf l fun a l=>cf l fun b l=>cf l fun c l=>cf l fun d l=>cf l fun e l=>cf l fun f l=>cf l fun g l=>cf l fun h l=>cf l fun i l=>cf l fun j l=>F a b c d e f g h i j).bind k) kL R K):J φ ((X).bind fun l=>cf l fun a l=>cf l fun b l=>cf l fun c l=>cf l fun d l=>cf l fun e l=>cf l fun f l=>cf l fun g l=>cf l fun h l=>cf l fun i l=>cf l fun j l=>(F a b c d e f g h i j).bind k) kL R K:=by simpa only [Tx,po] using h
theorem J.KG {X:Option (List A)} {F:A->A->A->A->A->A->A->A->A->A->A->A->Option τ} (h:J φ (((X).bind fun l=>cf l fun a l=>cf l fun b l=>cf l fun c l=>cf l fun d l=>cf l fun e l=>cf l fun f l=>cf l fun g l=>cf l fun h l=>cf l fun i l=>cf l fun j l=>cf l fun m l=>cf l fun n l=>F a b c d e f g h i j m n).bind k) kL R K):J φ ((X).bind fun l=>cf l fun a l=>cf l fun b l=>cf l fun c l=>cf l fun d l=>cf l fun e l=>cf l fun f l=>cf l fun g l=>cf l fun h l=>cf l fun i l=>cf l fun j l=>cf l fun m l=>cf l fun n l=>(F a b c d e f g h i j m n).bind k) kL R K:=by simpa only [Tx,po] using h
theorem J.Sc {X:Option (List A)} {F:A->A->A->A->A->Option τ} (h:J φ (((X).bind fun l=>cf l fun a l=>cf l fun b l=>cf l fun c l=>cf l fun d l=>cf l fun e l=>F a b c d e).bind k) kL R K):J φ ((X).bind fun l=>cf l fun a l=>cf l fun b l=>cf l fun c l=>cf l fun d l=>cf l fun e l=>(F a b c d e).bind k) kL R K:=by simpa only [Tx,po] using h
end
theorem jQ:bQ ak/\bQ af/\bQ ai/\bQ bO/\bQ au/\bQ av/\bQ aa/\bQ al/\bQ aj/\bQ aR/\bQ b7/\bQ ax/\(∀ (g:Nat->Nat->Nat->A) (x:ah),aX g (ak x)=ak x)/\(∀ (g:Nat->Nat->Nat->A) (x:aw),aX g (af x)=af x)/\(∀ (g:Nat->Nat->Nat->A) (x:(Int×Int)),aX g (ai x)=ai x)/\(∀ (g:Nat->Nat->Nat->A) (x:aM),aX g (bO x)=bO x)/\(∀ (g:Nat->Nat->Nat->A) (x:aO),aX g (au x)=au x)/\(∀ (g:Nat->Nat->Nat->A) (x:aP),aX g (av x)=av x)/\(∀ (g:Nat->Nat->Nat->A) (x:aq),aX g (aa x)=aa x)/\(∀ (g:Nat->Nat->Nat->A) (x:ba),aX g (al x)=al x)/\(∀ (g:Nat->Nat->Nat->A) (x:aH),aX g (aj x)=aj x)/\(∀ (g:Nat->Nat->Nat->A) (x:en),aX g (aR x)=aR x)/\(∀ (g:Nat->Nat->Nat->A) (x:(Bool×Bool×Bool×Bool)),aX g (b7 x)=b7 x)/\(∀ (g:Nat->Nat->Nat->A) (x:b6),aX g (ax x)=ax x)/\True:=⟨cq,b8,cG,fU,fT,dW,gm,gw,dE,eX,nT,eY,yx,wQ,sW,Cr,Cp,Cq,yy,wR,nU,oY,yw,iZ,trivial⟩
theorem dL:(bQ ak/\bQ af/\bQ ai/\bQ bO/\bQ au/\bQ av/\bQ aa/\bQ al/\bQ aj/\bQ aR/\bQ b7/\bQ ax/\(∀ (g:Nat->Nat->Nat->A) (x:ah),aX g (ak x)=ak x)/\(∀ (g:Nat->Nat->Nat->A) (x:aw),aX g (af x)=af x)/\(∀ (g:Nat->Nat->Nat->A) (x:(Int×Int)),aX g (ai x)=ai x)/\(∀ (g:Nat->Nat->Nat->A) (x:aM),aX g (bO x)=bO x)/\(∀ (g:Nat->Nat->Nat->A) (x:aO),aX g (au x)=au x)/\(∀ (g:Nat->Nat->Nat->A) (x:aP),aX g (av x)=av x)/\(∀ (g:Nat->Nat->Nat->A) (x:aq),aX g (aa x)=aa x)/\(∀ (g:Nat->Nat->Nat->A) (x:ba),aX g (al x)=al x)/\(∀ (g:Nat->Nat->Nat->A) (x:aH),aX g (aj x)=aj x)/\(∀ (g:Nat->Nat->Nat->A) (x:en),aX g (aR x)=aR x)/\(∀ (g:Nat->Nat->Nat->A) (x:(Bool×Bool×Bool×Bool)),aX g (b7 x)=b7 x)/\(∀ (g:Nat->Nat->Nat->A) (x:b6),aX g (ax x)=ax x)/\True)/\(∀ {T U:Type} (f:T->U) (a:T) (l:List T),(a :: l).map f=f a :: l.map f)/\(∀ {T U:Type} (f:T->U),[].map f=[]):=⟨jQ,fun _ _ _=>rfl,fun _=>rfl⟩
theorem gV:cV ak/\cV af/\cV ai/\cV bO/\cV au/\cV av/\cV aa/\cV al/\cV aj/\cV aR/\cV b7/\cV ax/\(∀ (L:Nat) (x:ah),aZ L (ak x)=true)/\(∀ (L:Nat) (x:aw),aZ L (af x)=true)/\(∀ (L:Nat) (x:(Int×Int)),aZ L (ai x)=true)/\(∀ (L:Nat) (x:aM),aZ L (bO x)=true)/\(∀ (L:Nat) (x:aO),aZ L (au x)=true)/\(∀ (L:Nat) (x:aP),aZ L (av x)=true)/\(∀ (L:Nat) (x:aq),aZ L (aa x)=true)/\(∀ (L:Nat) (x:ba),aZ L (al x)=true)/\(∀ (L:Nat) (x:aH),aZ L (aj x)=true)/\(∀ (L:Nat) (x:en),aZ L (aR x)=true)/\(∀ (L:Nat) (x:(Bool×Bool×Bool×Bool)),aZ L (b7 x)=true)/\(∀ (L:Nat) (x:b6),aZ L (ax x)=true)/\True:=⟨c9,cX,cH,fV,gJ,iz,gn,gx,dF,eZ,nV,fa,wW,vi,rG,AO,AM,AN,wX,vj,nm,nW,wV,iP,trivial⟩
def DJ {X Y:Type} [DecidableEq X]:List (X×Y)->X->Option Y
 | [],_=>none
 | e :: t,z=>if e.1=z then some e.2 else DJ t z
theorem sG {X Y:Type} [DecidableEq X]:∀ {t:List (X×Y)} {z:X} {y:Y},DJ t z=some y->(z,y)∈t
 | [],_,_,h=>by cases h
 | e :: t,z,y,h=>by
  unfold DJ at h
  split at h
  ·rename_i he
   cases h; subst he
   exact UH ..
  ·exact Un _ (sG h)
noncomputable def MV (C:OT) (N:Nat) (k:Nat) (args:List A):Option A:=match dx (cx C) N k args [] 0 with
 | some (.ret x,H)=>some (br H x)
 | _=>none
noncomputable def Cn:Nat->Nat->List A->Option A
 | 0=>fun _ _=>none
 | m+1=>MV (Cn m) 1000
def K7 (n:Nat) (a:Int) (b:Int) (a2:Int):Option Bool:=
 (bif (decide (b<=a)) then (some (decide (a<=a2))) else (some false)).bind fun c=>some c
theorem QF (C:OT) (n:Nat) (a:Int) (b:Int) (a2:Int):TJ C n 30 [(iA a),(iA b),(iA a2)] (K7 n a b a2) (fun y=>(bA y)):=by
 refine .lp (Ri ..) ?_
 unfold K7
 refine .st (fm ..) (.bg (fun t (y:Bool)=>∃ c d e:A,t=[(bA y),c,d,e]) ?_ ?_)
 ·refine .bi ?_ ?_
  ·exact .st (fm ..) (.lg ⟨_,_,_,rfl⟩)
  exact .lg ⟨_,_,_,rfl⟩
 rintro _ f ⟨c,d,e,rfl⟩
 exact .u4 (.lv rfl)
def zj (a:Int) (b:Int) (a2:Int):Option Bool:=K7 az a b a2
def qH (C:OT):Prop:=∀ (a:Int) (b:Int) (a2:Int),C 30 [(iA a),(iA b),(iA a2)]=(zj a b a2).map fun y=>(bA y)
def Mv (n:Nat)  : Option aM:=
 some ((aM.mk ([]) ([])))
theorem QG (C:OT) (n:Nat):TJ C n 31 [] (Mv n ) (fun y=>(ag [(im (y.Queue.map af) false),(im (y.Apart.map ai) false)])):=by
 refine .lp (Rj ..) ?_
 unfold Mv
 exact .s ((pt 0 0),[bx [Sv,Sv]]) (.s (ag [Sv,Sv]) (.s [bx [Sv,Sv]] (.s (ag [Sv,Sv]) (.lv s0))))
def MB  : Option aM:=Mv az
def FO (C:OT):Prop:=∀ (_:Unit),C 31 []=(MB ).map fun y=>(ag [(im (y.Queue.map af) false),(im (y.Apart.map ai) false)])
def Ms (n:Nat) (a:Int):Option (aq×Int):=
 (zj a 1 12).bind fun b=>bif (!b) then (some (((aq.mk ((aM.mk ([]) ([]))) ([]) 0),1))) else ((MB ).bind fun c=>(NW 72 a ((aP.mk ([]) ([]) ([])))).bind fun d=>some (((aq.mk c d 0),0)))
theorem Qv (C:OT) (n:Nat) (d:qH C) (h:FO C) (b:Int):TJ C n 11 [(iA b)] (Ms n b) (fun y=>(tp [(ag (aa y.1)),(iA y.2)])):=by
 refine .lp (Q8 ..) ?_
 unfold Ms
 refine .s ((pt 0 0),[bx [Sv,Sv,Sv,(iA 0)]]) (.bd (d b 1 12) fun i=>.s (bA (!i)) (.cd ?_ ?_))
 ·exact .s (ag [Sv,Sv,Sv,(iA 0)]) (.s [bx [Sv,Sv,Sv,(iA 0)]] (.s (ag [Sv,Sv,Sv,(iA 0)]) (.lv s0)))
 exact .bd (h ()) fun a=>.bd (g:=fun (y:List aP)=>((im (y.map av) false),[bx [Sv,Sv,Sv,(iA 0)]])) (zb (e:=55) (es:=3) (f:=av) (z:=(aP.mk ([]) ([]) ([]))) (z':=[Sv,Sv,Sv]) r7 r7 r7 r7 rfl (by decide) (fun _=>rfl)) fun c=>.s (ag [(im (a.Queue.map af) false),(im (a.Apart.map ai) false),(im (c.map av) false),(iA 0)]) (.s [bx [(im (a.Queue.map af) false),(im (a.Apart.map ai) false),(im (c.map av) false),(iA 0)]] (.s (ag [(im (a.Queue.map af) false),(im (a.Apart.map ai) false),(im (c.map av) false),(iA 0)]) (.lv s0)))
def IK (a:Int):Option (aq×Int):=Ms az a
def FG (C:OT):Prop:=∀ (a:Int),C 11 [(iA a)]=(IK a).map fun y=>(tp [(ag (aa y.1)),(iA y.2)])
def Mx (n:Nat) (a:Int) (b:Int):Option (Int×Int):=
 some (((if b<a then b else a),(if a<b then b else a)))
theorem QX (C:OT) (n:Nat) (a:Int) (b:Int):TJ C n 72 [(iA a),(iA b)] (Mx n a b) (fun y=>(ag [(iA y.1),(iA y.2)])):=by
 refine .lp (RF ..) ?_
 unfold Mx
 exact .s ((pt 0 0),[bx [(iA 0),(iA 0)]]) (.s (iA ((if b<a then b else a))) (.s (iA ((if a<b then b else a))) (.s (ag [(iA ((if b<a then b else a))),(iA ((if a<b then b else a)))]) (.s [bx [(iA ((if b<a then b else a))),(iA ((if a<b then b else a)))]] (.s (ag [(iA ((if b<a then b else a))),(iA ((if a<b then b else a)))]) (.lv rfl))))))
def IZ (a:Int) (b:Int):Option (Int×Int):=Mx az a b
def Bv (C:OT):Prop:=∀ (a:Int) (b:Int),C 72 [(iA a),(iA b)]=(IZ a b).map fun y=>(ag [(iA y.1),(iA y.2)])
def Li (n:Nat) (a:(Int×Int)):Option Bool:=
 (bif (decide (0<=a.1)) then (some (decide (a.1<a.2))) else (some false)).bind fun b=>(bif b then (some (decide (a.2<24))) else (some false)).bind fun c=>some c
theorem QS (C:OT) (n:Nat) (a:(Int×Int)):TJ C n 64 [(ag [(iA a.1),(iA a.2)])] (Li n a) (fun y=>(bA y)):=by
 refine .lp (Rz ..) ?_
 unfold Li
 refine .s ((pt 0 0),[bx [(iA a.1),(iA a.2)]]) (.s (pt 0 0) (.s (iA a.1) (.st (dS ..) (.bg (fun t (y:Bool)=>∃ b c d e f:A,t=[(bA y),b,c,d,e,f]) ?_ ?_))))
 ·refine .bi ?_ ?_
  ·exact .s (pt 0 0) (.s (iA a.1) (.s (pt 0 1) (.s (iA a.2) (.st (bj ..) (.lg ⟨_,_,_,_,_,rfl⟩)))))
  exact .lg ⟨_,_,_,_,_,rfl⟩
 rintro _ j ⟨b,c,d,e,f,rfl⟩
 refine .u4 (.uc (.uc (.bg (fun t (y:Bool)=>∃ g h i:A,t=[(bA y),g,h,i]) ?_ ?_)))
 ·refine .bi ?_ ?_
  ·exact .s (pt 0 1) (.s (iA a.2) (.st (bj ..) (.lg ⟨_,_,_,rfl⟩)))
  exact .lg ⟨_,_,_,rfl⟩
 rintro _ k ⟨g,h,i,rfl⟩
 exact .u4 (.lv rfl)
def Ir (a:(Int×Int)):Option Bool:=Li az a
def zp (C:OT):Prop:=∀ (a:(Int×Int)),C 64 [(ag [(iA a.1),(iA a.2)])]=(Ir a).map fun y=>(bA y)
def Lg (n:Nat) (a:aw):Option Bool:=
 (IZ a.From a.To).bind fun b=>(Ir b).bind fun c=>(bif c then (some (decide (((a.Data.length:Int))<=1048576))) else (some false)).bind fun d=>some d
theorem QP (C:OT) (n:Nat) (g:zp C) (h:Bv C) (a:aw):TJ C n 56 [(ag (af a))] (Lg n a) (fun y=>(bA y)):=by
 refine .lp (Rv ..) ?_
 unfold Lg
 refine .s ((pt 0 0),[bx (af a)]) (.s2 (iA a.From) (.s2 (iA a.To) (.bd (h a.From a.To) fun i=>.bd (g i) fun j=>.bg (fun t (y:Bool)=>∃ b c d f:A,t=[(bA y),b,c,d,f]) ?_ ?_)))
 ·refine .bi ?_ ?_
  ·exact .s (pt 0 2) (.s (im (a.Data.map c8) false) (.st (eE (e:=5)) (.st (fm ..) (.lg ⟨_,_,_,_,rfl⟩))))
  exact .lg ⟨_,_,_,_,rfl⟩
 rintro _ k ⟨b,c,d,f,rfl⟩
 exact .u4 (.uc (.lv rfl))
def Iq (a:aw):Option Bool:=Lg az a
def Br (C:OT):Prop:=∀ (a:aw),C 56 [(ag (af a))]=(Iq a).map fun y=>(bA y)
def Lh (n:Nat) (a:aw):Option Bool:=
 (Iq a).bind fun b=>some (!b)
theorem QR (C:OT) (n:Nat) (b:Br C) (a:aw):TJ C n 63 [(ag (af a))] (Lh n a) (fun y=>(bA y)):=by
 refine .lp (Ry ..) ?_
 unfold Lh
 exact .s ((pt 0 0),[bx (af a)]) (.s (ag (af a)) (.bd (g:=fun (y:Bool)=>(bA y)) (by simp only[cD,dL]; exact b a) fun c=>.s (bA (!c)) (.lv rfl)))
def IU (a:aw):Option Bool:=Lh az a
def Bt (C:OT):Prop:=∀ (a:aw),C 63 [(ag (af a))]=(IU a).map fun y=>(bA y)
def fi (n:Nat) (b:(List aw)) (c:Int):Nat->Int->Option ((Int)⊕(Unit))
 | 0,_=>none
 | m+1,a=>bif (decide (a<c)) then ((bE b a).bind fun d=>(IU d).bind fun e=>bif e then (some ((Sum.inl a))) else (fi n b c m (wr .i64 (a+1)))) else (some ((Sum.inr (()))))
theorem wa (l:Bt C) {w24:A} (h:(List aw)) (i:Int) {K:((Int)⊕(Unit))->Option γ} (o:∀ (j:Int) (a:A) (b:A) (c:A) (d:A),J φ (kr (St.mk [(0,a),(1,b),(4,(iA j)),(7,c),(8,d)] [])) kL (K (Sum.inl j)) some) (p:∀ (a:A) (b:A) (q:A) (c:A) (d:A),J φ (kx 0 (St.mk [(0,a),(1,b),(4,q),(7,c),(8,d)] [])) kL (K (Sum.inr (()))) some) :
  ∀ (m:Nat) (f:Int),J φ (aI (cx C) (ec C n 8) (ey C n 8) (n+8) 88 0 0 0 kx kg kr kp m (St.mk [(0,(im (h.map af) false)),(1,(sV 63 [] [])),(4,w24),(7,(iA i)),(8,(iA f))] [])) kL (fi n h i m f) K:=by
  refine nI (fun _=>.nn) fun m ih f=>.lp (Jz ..) ?_
  unfold fi
  refine .st (bj ..) (.cd ?_ ?_)
  ·refine .bd (gp (e:=48) (es:=3)) fun k=>.s (ag (af k)) (.dO r7 r7 (.bd (g:=fun (y:Bool)=>(bA y)) (by simp only[TN,Tg,TG,cD,dL]; exact l k) fun r=>.cd ?_ ?_))
   ·exact .ex (o _ _ _ _ _)
   refine .st (aF ..) (.s [] (.cT r7 ?_))
   exact ih _
  exact .ex (p _ _ _ _ _)
def uz (n:Nat) (a:(List aw)):Option Int:=
 (fi n a ((a.length:Int)) (n+8) 0).bind fun b=>match b with | (Sum.inl c)=>some c | (Sum.inr _)=>some (-1)
theorem GZ (C:OT) (n:Nat) (b:Bt C) (a:(List aw)):TJ C n 88 [(im (a.map af) false),(sV 63 [] [])] (uz n a) (fun y=>(iA y)):=by
 refine .lp (RM ..) ?_
 unfold uz
 refine .st (eE (e:=48)) (.as (wa C n _ _ _ _ b a ((a.length:Int)) ?_ ?_ _ 0))
 ·intro c d f g h
  exact .un rfl (.lv rfl)
 ·intro i j k l o
  exact .un rfl (.cT r7 (.lv rfl))
def uC (a:(List aw)):Option Int:=uz az a
def vW (C:OT):Prop:=∀ (a:(List aw)),C 88 [(im (a.map af) false),(sV 63 [] [])]=(uC a).map fun y=>(iA y)
def uy (n:Nat) (a:(List aw)):Option Bool:=
 (uC a).bind fun b=>some (decide (0<=b))
theorem GY (C:OT) (n:Nat) (h88_63:vW C) (a:(List aw)):TJ C n 62 [(im (a.map af) false),(sV 63 [] [])] (uy n a) (fun y=>(bA y)):=by
 refine .lp (Rx ..) ?_
 unfold uy
 exact .bd (g:=fun (y:Int)=>(iA y)) (by simp only[cD,dL]; exact h88_63 a) fun b=>.st (dS ..) (.lv rfl)
def qE (a:(List aw)):Option Bool:=uy az a
def vV (C:OT):Prop:=∀ (a:(List aw)),C 62 [(im (a.map af) false),(sV 63 [] [])]=(qE a).map fun y=>(bA y)
def DY (n:Nat) (a:Int):Option Bool:=
 some (a != a)
theorem MJ (C:OT) (n:Nat) (a:Int):TJ C n 106 [(iA a)] (DY n a) (fun y=>(bA y)):=by
 refine .lp (M4 ..) ?_
 unfold DY
 exact .st (aC ..) (.lv rfl)
def vS (a:Int):Option Bool:=DY az a
def uD (C:OT):Prop:=∀ (a:Int),C 106 [(iA a)]=(vS a).map fun y=>(bA y)
def nY (a:(List aw)) (b:(List (Int×Int))):aD:=bx [(im (a.map af) false),(im (b.map ai) false)]
def fO (n:Nat) (e:(List Int)) (f:Int) (c:Int) (d:Int):Nat->Int->Option ((Int)⊕(Unit))
 | 0,_=>none
 | m+1,a=>bif (decide (a<f)) then ((bE e a).bind fun b=>bif (decide (2<=a)) then (some ((Sum.inl 1))) else (bif decide (a=0) then (((vS b).bind fun k=>(vS c).bind fun g=>bif k then (bif g then (some 0) else (some (-1))) else (bif g then (some 1) else (bif (decide (b<c)) then (some (-1)) else (bif (decide (c<b)) then (some 1) else (some 0))))).bind fun h=>bif (h != 0) then (some ((Sum.inl h))) else (fO n e f c d m (wr .i64 (a+1)))) else bif decide (a=1) then (((vS b).bind fun l=>(vS d).bind fun i=>bif l then (bif i then (some 0) else (some (-1))) else (bif i then (some 1) else (bif (decide (b<d)) then (some (-1)) else (bif (decide (d<b)) then (some 1) else (some 0))))).bind fun j=>bif (j != 0) then (some ((Sum.inl j))) else (fO n e f c d m (wr .i64 (a+1)))) else none)) else (some ((Sum.inr (()))))
theorem BD (c:uD C) {w227 w228:A} {w229:aD} (k:(List Int)) (l:Int) (a:Int) (b:Int) {K:((Int)⊕(Unit))->Option γ} (d:∀ (o:Int) (p:A) (q:A) (f:A) (g:A) (h:A) (q1:aD),J φ (kr (St.mk [(0,p),(1,q),(4,(iA o)),(9,f),(10,g),(11,h)] [w229,q1])) kL (K (Sum.inl o)) some) (r:∀ (u:A) (f:A) (g:A) (h:A),J φ (kx 0 (St.mk [(0,w227),(1,(bU 1 0 2 true)),(4,u),(9,f),(10,g),(11,h)] [w229,aD.row true 1 [[(iA a)],[(iA b)]]])) kL (K (Sum.inr (()))) some) :
  ∀ (m:Nat) (i:Int),J φ (aI (cx C) (ec C n 7) (ey C n 7) (n+7) 65 0 0 2 kx kg kr kp m (St.mk [(0,w227),(1,(bU 1 0 2 true)),(4,w228),(9,(im (k.map (cI .i64)) true)),(10,(iA l)),(11,(iA i))] [w229,aD.row true 1 [[(iA a)],[(iA b)]]])) kL (fO n k l a b m i) K:=by
  refine nI (fun _=>.nn) fun m ih i=>.lp (Jx ..) ?_
  unfold fO
  refine .st (bj ..) (.cd ?_ ?_)
  ·refine .bd (gp (e:=3) (es:=1)) fun j=>.s (iA j) (.s (iA 2) (.st (dS ..) (.cd ?_ ?_)))
   ·exact .ex (d _ _ _ _ _ _ _)
   refine .sp (fun w=>?_) (fun _=>?_)
   ·refine .st (v:=(A.ep 1 0 0)) (by rw[SF w]; kernel_rfl) (.s (iA a) (.bg (fun (t:Out×ar) (y:Int)=>t=(Out.ret (iA y),[w229,aD.row true 1 [[(iA a)],[(iA b)]]])) ?_ ?_))
    ·refine .lp ((aK GB).trans (Pf ..)) (.bd (c j) fun z=>.bd (c a) fun a0=>.cd ?_ ?_)
     ·refine .cd ?_ ?_
      ·exact .lg rfl
      exact .lg rfl
     refine .cd ?_ ?_
     ·exact .lg rfl
     refine .st (bj ..) (.cd ?_ ?_)
     ·exact .lg rfl
     refine .st (dg ..) (.cd ?_ ?_)
     ·exact .lg rfl
     exact .lg rfl
    rintro _ a1 rfl
    refine .ok (.st (aC ..) (.cd ?_ ?_))
    ·exact .ex (d _ _ _ _ _ _ _)
    refine .st (aF ..) (.s [w229,aD.row true 1 [[(iA a)],[(iA b)]]] (.cT r7 ?_))
    exact ih _
   refine .sp (fun x=>?_) (fun _=>?_)
   ·refine .st (v:=(A.ep 1 1 0)) (by rw[SF x]; kernel_rfl) (.s (iA b) (.bg (fun (t:Out×ar) (y:Int)=>t=(Out.ret (iA y),[w229,aD.row true 1 [[(iA a)],[(iA b)]]])) ?_ ?_))
    ·refine .lp ((aK GB).trans (Pf ..)) (.bd (c j) fun a2=>.bd (c b) fun a3=>.cd ?_ ?_)
     ·refine .cd ?_ ?_
      ·exact .lg rfl
      exact .lg rfl
     refine .cd ?_ ?_
     ·exact .lg rfl
     refine .st (bj ..) (.cd ?_ ?_)
     ·exact .lg rfl
     refine .st (dg ..) (.cd ?_ ?_)
     ·exact .lg rfl
     exact .lg rfl
    rintro _ a4 rfl
    refine .ok (.st (aC ..) (.cd ?_ ?_))
    ·exact .ex (d _ _ _ _ _ _ _)
    refine .st (aF ..) (.s [w229,aD.row true 1 [[(iA a)],[(iA b)]]] (.cT r7 ?_))
    exact ih _
   exact .nn
  exact .ex (r _ _ _ _)
def gE (n:Nat) (f:Int) (b:(List (Int×Int))) (c:Int) (g:(List aw)) (d:(List (Int×Int))):Nat->Int->Option ((Int)⊕(Unit))
 | 0,_=>none
 | m+1,a=>bif (decide (a<c)) then ((bE b a).bind fun e=>(Ir e).bind fun i=>bif (!i) then ((some (())).bind fun r=>(some (())).bind fun s=>some ((Sum.inl 60))) else (bif (decide (0<a)) then ((bE d (wr .i64 (a - 1))).bind fun h=>((fO n ([h.1,h.2]) 2 e.1 e.2 (n+7) 0).bind fun j=>match j with | (Sum.inl k)=>some k | (Sum.inr _)=>some 0).bind fun l=>(some (decide (0<=l))).bind fun o=>((some o).bind fun p=>some p).bind fun q=>bif q then (some ((Sum.inl 60))) else (gE n f b c g d m (wr .i64 (a+1)))) else ((some (())).bind fun t=>((some (())).bind fun u=>some (())).bind fun v=>gE n f b c g d m (wr .i64 (a+1))))) else (some ((Sum.inr (()))))
theorem BC (a0:uD C) (a1:zp C) (p:Int) (f:(List (Int×Int))) (q:Int) (d:(List aw)) (b:(List (Int×Int))) {K:((Int)⊕(Unit))->Option γ} (r:∀ (u:Int) (i:A) (j:A) (k:A) (l:A) (q0:aD) (q1:aD),J φ (kr (St.mk [(1,i),(2,(iA u)),(15,j),(16,k),(17,l)] [q0,q1])) kL (K (Sum.inl u)) some) (x1:∀ (i:A) (s2:A) (j:A) (k:A) (l:A) (q0:aD),J φ (kx 0 (St.mk [(1,i),(2,s2),(15,j),(16,k),(17,l)] [q0])) kL (K (Sum.inr (()))) some) :
  ∀ (m:Nat) (o:Int),J φ (aI (cx C) (ec C n 8) (ey C n 8) (n+8) 33 0 0 1 kx kg kr kp m (St.mk [(1,(pt 0 0)),(2,(iA p)),(15,(im (f.map ai) false)),(16,(iA q)),(17,(iA o))] [(nY d b)])) kL (gE n p f q d b m o) K:=by
  refine nI (fun _=>.nn) fun m ih o=>.lp (Jp ..) ?_
  unfold gE
  refine .st (bj ..) (.cd ?_ ?_)
  ·refine .bd (gp (e:=115) (es:=2)) fun a=>.s (ag [(iA a.1),(iA a.2)]) (.sq (A.ep 1 0 0) (.s [(nY d b),aD.row true 1 [[(iA a.1)],[(iA a.2)]]] (.s (ag [(iA a.1),(iA a.2)]) (.bd (a1 a) fun a3=>.s (bA (!a3)) (.JP (fun g=>?_) (fun g=>?_))))))
   ·refine .bb (.st (dg ..) (.Ph (fun c=>?_) (fun c=>?_)))
    ·refine .bb (.s (pt 0 1) (.s (im (b.map ai) false) (.st (dU ..) (.bd (gp (e:=115) (es:=2)) fun h=>.s (im [[(iA h.1)],[(iA h.2)]] true) (.s (bU 1 0 2 true) (.cr (.u4 (.uc (.uc (.uc (.cr (.u4 (.u4 (.uc (.uc (.lp (qc c) (.bg (fun (t:Out×ar) (y:Int)=>∃ w271:aD,t=(Out.ret (iA y),[(nY d b),w271])) ?_ ?_)))))))))))))))))
     ·refine .lp ((aK J1).trans (RA ..)) (.s (iA 2) (.as (BD C n _ _ _ _ a0 ([h.1,h.2]) 2 a.1 a.2 ?_ ?_ _ 0)))
      ·intro a4 a5 a6 a7 a8 a9 w265
       exact .un rfl (.lg ⟨_,rfl⟩)
      ·intro aa ab ad ae
       exact .un rfl (.cT r7 (.s (iA 2) (.s (iA 2) (.s (bA false) (.MR (.lg ⟨_,rfl⟩))))))
     rintro _ af ⟨w271,rfl⟩
     refine .ok (.bg (fun t (y:Bool) =>  t=[(bA y)]) ?_ ?_)
     ·exact .lp (qc c) (.st (dS ..) (.lg rfl))
     rintro _ ah rfl
     refine .uc (.bg (fun t (y:Bool)=>∃ w:A,t=[(bA y),w]) ?_ ?_)
     ·refine .Gd g (.bg (fun t (y:Bool) =>  t=(bA y)) ?_ ?_)
      ·exact .Hd c (.lg rfl)
      rintro _ aj rfl
      exact .lg ⟨_,rfl⟩
     rintro _ ak ⟨w,rfl⟩
     refine .uc (.uc (.cd ?_ ?_))
     ·exact .ex (r _ _ _ _ _ _ _)
     refine .st (aF ..) (.st (v:=[(nY d b)]) (fb r7 (by simp only[uB,gT,gV,Nat.reduceLT,TZ,nY])) (.cT ((by kernel_rfl:_=(bif aQ 1 (f.map ai) then true else false)).trans so) ?_))
     exact ih _
    refine .bb (.cr (.u4 (.uc (.uc (.uc (.cr (.u4 (.u4 (.uc (.uc (.lp (qb c) (.bg (fun t (y:Unit) =>  t=[(A.v undef)]) ?_ ?_))))))))))))
    ·exact .lp (qb c) (.lg rfl)
    rintro _ al rfl
    refine .uc (.bg (fun t (y:Unit)=>∃ x:A,t=[(bA false),x]) ?_ ?_)
    ·refine .Gd g (.bg (fun t (y:Unit) =>  t=(bA false)) ?_ ?_)
     ·exact .Gd c (.lg rfl)
     rintro _ am rfl
     exact .lg ⟨_,rfl⟩
    rintro _ an ⟨x,rfl⟩
    refine .uc (.uc (.MR (.st (aF ..) (.st (v:=[(nY d b)]) (fb r7 (by simp only[uB,gT,gV,Nat.reduceLT,TZ,nY])) (.cT ((by kernel_rfl:_=(bif aQ 1 (f.map ai) then true else false)).trans so) ?_)))))
    exact ih _
   refine .bb (.cr (.u4 (.u4 (.uc (.uc (.gU (.bg (fun t (y:Unit) =>  t=[(A.v undef)]) ?_ ?_)))))))
   ·exact .gU (.lg rfl)
   rintro _ ao rfl
   refine .uc (.bg (fun t (y:Unit)=>∃ z:A,t=[(bA true),z]) ?_ ?_)
   ·exact .Hd g (.lg ⟨_,rfl⟩)
   rintro _ ap ⟨z,rfl⟩
   exact .uc (.uc (.Ly (.ex (r _ _ _ _ _ _ _))))
  exact .ex (x1 _ _ _ _ _ _)
def K8 (n:Nat) (a:aM):Option Int:=
 (bif (decide (4096<((a.Queue.length:Int)))) then (some true) else ((qE a.Queue).bind fun b=>some b)).bind fun c=>bif c then (some 60) else ((gE n 0 a.Apart ((a.Apart.length:Int)) a.Queue a.Apart (n+8) 0).bind fun d=>match d with | (Sum.inl e)=>some e | (Sum.inr _)=>some 0)
theorem QH (C:OT) (n:Nat) (f:uD C) (h62_63:vV C) (h:zp C) (a:aM):TJ C n 33 [(ag [(im (a.Queue.map af) false),(im (a.Apart.map ai) false)])] (K8 n a) (fun y=>(iA y)):=by
 refine .lp (Rk ..) ?_
 unfold K8
 refine .s ((pt 0 0),[bx [(im (a.Queue.map af) false),(im (a.Apart.map ai) false)]]) (.s2 (im (a.Queue.map af) false) (.st (eE (e:=48)) (.st (dg ..) (.bg (fun t (y:Bool)=>∃ b c d:A,t=[(bA y),b,c,d]) ?_ ?_))))
 ·refine .bi ?_ ?_
  ·exact .lg ⟨_,_,_,rfl⟩
  exact .s (pt 0 0) (.s (im (a.Queue.map af) false) (.bd (g:=fun (y:Bool)=>(bA y)) (by simp only[cD,dL]; exact h62_63 a.Queue) fun i=>.lg ⟨_,_,_,rfl⟩))
 rintro _ j ⟨b,c,d,rfl⟩
 refine .u4 (.cd ?_ ?_)
 ·exact .lv rfl
 refine .s2 (im (a.Apart.map ai) false) (.st (eE (e:=115)) (.as (BC C n _ _ _ _ f h 0 a.Apart ((a.Apart.length:Int)) a.Queue a.Apart ?_ ?_ _ 0)))
 ·intro k l o p q w290 w291
  exact .un rfl (.lv rfl)
 ·intro r u v w x w297
  exact .un rfl (.cT r7 (.lv rfl))
def GR (a:aM):Option Int:=K8 az a
def zl (C:OT):Prop:=∀ (a:aM),C 33 [(ag [(im (a.Queue.map af) false),(im (a.Apart.map ai) false)])]=(GR a).map fun y=>(iA y)
def K6 (n:Nat) (a:aO) (b:Int):Option Bool:=
 (zj a.No 0 1048576).bind fun c=>(bif c then ((zj a.Role 0 (wr .i64 (b - 1))).bind fun d=>some d) else (some false)).bind fun e=>(bif e then ((zj a.Bar 0 4095).bind fun f=>some f) else (some false)).bind fun g=>(bif g then ((zj a.Program 1 8).bind fun h=>some h) else (some false)).bind fun i=>some i
theorem QC (C:OT) (n:Nat) (b:qH C) (a:aO) (c:Int):TJ C n 24 [(ag (au a)),(iA c)] (K6 n a c) (fun y=>(bA y)):=by
 refine .lp (Rf ..) ?_
 unfold K6
 refine .s ((pt 0 0),[bx (au a)]) (.s2 (iA a.No) (.bd (b a.No 0 1048576) fun q=>.bg (fun t (y:Bool)=>∃ d e f g h:A,t=[(bA y),d,e,f,g,h]) ?_ ?_))
 ·refine .bi ?_ ?_
  ·exact .s (pt 0 1) (.s (iA a.Role) (.st (dU ..) (.bd (b a.Role 0 (wr .i64 (c - 1))) fun r=>.lg ⟨_,_,_,_,_,rfl⟩)))
  exact .lg ⟨_,_,_,_,_,rfl⟩
 rintro _ u ⟨d,e,f,g,h,rfl⟩
 refine .u4 (.uc (.uc (.bg (fun t (y:Bool)=>∃ i j k:A,t=[(bA y),i,j,k]) ?_ ?_)))
 ·refine .bi ?_ ?_
  ·exact .s (pt 0 2) (.s (iA a.Bar) (.bd (b a.Bar 0 4095) fun v=>.lg ⟨_,_,_,rfl⟩))
  exact .lg ⟨_,_,_,rfl⟩
 rintro _ w ⟨i,j,k,rfl⟩
 refine .u4 (.bg (fun t (y:Bool)=>∃ l o p:A,t=[(bA y),l,o,p]) ?_ ?_)
 ·refine .bi ?_ ?_
  ·exact .s (pt 0 3) (.s (iA a.Program) (.bd (b a.Program 1 8) fun x=>.lg ⟨_,_,_,rfl⟩))
  exact .lg ⟨_,_,_,rfl⟩
 rintro _ z ⟨l,o,p,rfl⟩
 exact .u4 (.lv rfl)
def GQ (a:aO) (b:Int):Option Bool:=K6 az a b
def tr (C:OT):Prop:=∀ (a:aO) (b:Int),C 24 [(ag (au a)),(iA b)]=(GQ a b).map fun y=>(bA y)
def kf (n:Nat) (c:(List Int)) (d:Int) (b:aP):Nat->Int->Option ((Bool)⊕(Unit))
 | 0,_=>none
 | m+1,a=>bif (decide (a<d)) then ((bE c a).bind fun e=>(zj e 0 8).bind fun f=>(bif (!f) then (some true) else ((bE b.Did a).bind fun g=>(bif (g != e) then ((bE b.Did a).bind fun h=>some (h != 0)) else (some false)).bind fun i=>some i)).bind fun j=>bif j then (some ((Sum.inl false))) else (kf n c d b m (wr .i64 (a+1)))) else (some ((Sum.inr (()))))
theorem BE (aa:qH C) {w115 w116 w117 w118:A} (g:(List Int)) (h:Int) (a:aP) {K:((Bool)⊕(Unit))->Option γ} (x0:∀ (i:Bool) (s1:A) (s2:A) (s3:A) (s4:A) (b:A) (c:A) (d:A) (q0:aD),J φ (kr (St.mk [(1,s1),(2,s2),(3,s3),(4,s4),(8,(bA i)),(27,b),(28,c),(29,d)] [q0])) kL (K (Sum.inl i)) some) (x1:∀ (b:A) (c:A) (d:A),J φ (kx 0 (St.mk [(1,w115),(2,w116),(3,w117),(4,(pt 0 0)),(8,w118),(27,b),(28,c),(29,d)] [bx (av a)])) kL (K (Sum.inr (()))) some) :
  ∀ (m:Nat) (f:Int),J φ (aI (cx C) (ec C n 8) (ey C n 8) (n+8) 34 0 0 1 kx kg kr kp m (St.mk [(1,w115),(2,w116),(3,w117),(4,(pt 0 0)),(8,w118),(27,(im (g.map (cI .i64)) false)),(28,(iA h)),(29,(iA f))] [bx (av a)])) kL (kf n g h a m f) K:=by
  refine nI (fun _=>.nn) fun m ih f=>.lp (Jq ..) ?_
  unfold kf
  refine .st (bj ..) (.cd ?_ ?_)
  ·refine .bd (gp (e:=3) (es:=1)) fun j=>.s (iA j) (.bd (aa j 0 8) fun ah=>.s (bA (!ah)) (.bg (fun t (y:Bool)=>∃ k l o p q r u v w x z a0 a1 a2 a3:A,t=[(bA y),k,l,o,p,q,r,u,v,w,x,z,a0,a1,a2,a3]) ?_ ?_))
   ·refine .bi ?_ ?_
    ·exact .lg ⟨_,_,_,_,_,_,_,_,_,_,_,_,_,_,_,rfl⟩
    refine .s (pt 0 2) (.s (im (a.Did.map (cI .i64)) false) (.bd (gp (e:=3) (es:=1)) fun ai=>.s (iA ai) (.st (aC ..) (.bg (fun t (y:Bool)=>∃ a4 a5 a6 a7 a8 a9:A,t=[(bA y),a4,a5,a6,a7,a8,a9]) ?_ ?_))))
    ·refine .bi ?_ ?_
     ·exact .s (pt 0 2) (.s (im (a.Did.map (cI .i64)) false) (.bd (gp (e:=3) (es:=1)) fun aj=>.s (iA aj) (.st (aC ..) (.lg ⟨_,_,_,_,_,_,rfl⟩))))
     exact .lg ⟨_,_,_,_,_,_,rfl⟩
    rintro _ ak ⟨a4,a5,a6,a7,a8,a9,rfl⟩
    exact .u4 (.uc (.uc (.uc (.lg ⟨_,_,_,_,_,_,_,_,_,_,_,_,_,_,_,rfl⟩))))
   rintro _ al ⟨k,l,o,p,q,r,u,v,w,x,z,a0,a1,a2,a3,rfl⟩
   refine .u4 (.u4 (.u4 (.u4 (.cd ?_ ?_))))
   ·exact .ex (x0 _ _ _ _ _ _ _ _ _)
   refine .st (aF ..) (.s [bx (av a)] (.cT r7 ?_))
   exact ih _
  exact .ex (x1 _ _ _)
def kh (n:Nat) (c:Int) (d:Int) (g:Bool) (e:(List aO)) (f:Int) (h:aP):Nat->Int->Int->Option ((Bool)⊕(Unit))
 | 0,_,_=>none
 | m+1,i,b=>bif (decide (b<f)) then ((bE e b).bind fun a=>(GQ a d).bind fun j=>(bif (!j) then (some true) else (some (a.Role != c))).bind fun k=>(bif k then (some true) else (some (decide (a.Bar<i)))).bind fun l=>bif l then (some ((Sum.inl false))) else (kh n c d g e f h m (wr .i64 (a.Bar+1)) (wr .i64 (b+1)))) else (some ((Sum.inr (()))))
theorem BF (a4:tr C) (o:Int) (c:Int) (p:Bool) (d:(List aO)) (q:Int) (b:aP) {K:((Bool)⊕(Unit))->Option γ} (x0:∀ (r:Bool) (f:A) (s2:A) (g:A) (h:A) (i:A) (j:A) (q0:aD) (q1:aD),J φ (kr (St.mk [(1,f),(2,s2),(8,(bA r)),(11,g),(57,h),(58,i),(59,j)] [q0,q1])) kL (K (Sum.inl r)) some) (x1:∀ (f:A) (s2:A) (s8:A) (g:A) (h:A) (i:A) (j:A) (q0:aD),J φ (kx 2 (St.mk [(1,f),(2,s2),(8,s8),(11,g),(57,h),(58,i),(59,j)] [q0])) kL (K (Sum.inr (()))) some) :
  ∀ (m:Nat) (k:Int) (l:Int),J φ (aI (cx C) (ec C n 8) (ey C n 8) (n+8) 34 0 1 1 kx kg kr kp m (St.mk [(1,(iA o)),(2,(iA c)),(8,(bA p)),(11,(iA k)),(57,(im (d.map au) false)),(58,(iA q)),(59,(iA l))] [bx (av b)])) kL (kh n o c p d q b m k l) K:=by
  refine nI (fun _ _=>.nn) fun m ih k l=>.lp (Jr ..) ?_
  unfold kh
  refine .st (bj ..) (.cd ?_ ?_)
  ·refine .bd (gp (e:=30) (es:=4)) fun a=>.s (ag (au a)) (.sq (pt 1 0) (.s [bx (av b),bx (au a)] (.s (ag (au a)) (.bd (a4 a c) fun a8=>.s (bA (!a8)) (.bg (fun t (y:Bool)=>∃ u w x z:A,t=[(bA y),u,w,x,z]) ?_ ?_)))))
   ·refine .bi ?_ ?_
    ·exact .lg ⟨_,_,_,_,rfl⟩
    exact .s (pt 1 1) (.s (iA a.Role) (.st (aC ..) (.lg ⟨_,_,_,_,rfl⟩)))
   rintro _ a9 ⟨u,w,x,z,rfl⟩
   refine .u4 (.uc (.bg (fun t (y:Bool)=>∃ a0 a1 a2 a3:A,t=[(bA y),a0,a1,a2,a3]) ?_ ?_))
   ·refine .bi ?_ ?_
    ·exact .lg ⟨_,_,_,_,rfl⟩
    exact .s (pt 1 2) (.s (iA a.Bar) (.st (bj ..) (.lg ⟨_,_,_,_,rfl⟩)))
   rintro _ aa ⟨a0,a1,a2,a3,rfl⟩
   refine .u4 (.uc (.cd ?_ ?_))
   ·exact .ex (x0 _ _ _ _ _ _ _ _ _)
   refine .s2 (iA a.Bar) (.st (aF ..) (.st (aF ..) (.st (v:=[bx (av b)]) (fb r7 An) (.cT ((by kernel_rfl:_=(bif aQ 1 (d.map au) then true else false)).trans so) ?_))))
   exact ih _ _
  exact .ex (x1 _ _ _ _ _ _ _ _)
def K9 (n:Nat) (a:aP) (c:Int) (a2:Int) (b:Int):Option Bool:=
 (bif (((a.Got.length:Int)) != b) then (some true) else (some (((a.Did.length:Int)) != b))).bind fun d=>bif d then (some false) else ((kf n a.Got ((a.Got.length:Int)) a (n+8) 0).bind fun e=>match e with | (Sum.inl f)=>some f | (Sum.inr _)=>(kh n c a2 false a.Cues ((a.Cues.length:Int)) a (n+8) b 0).bind fun g=>match g with | (Sum.inl h)=>some h | (Sum.inr _)=>some true)
theorem QI (C:OT) (n:Nat) (j:tr C) (k:qH C) (a:aP) (b:Int) (a2:Int) (c:Int):TJ C n 34 [(ag (av a)),(iA b),(iA a2),(iA c)] (K9 n a b a2 c) (fun y=>(bA y)):=by
 refine .lp (Rl ..) ?_
 unfold K9
 refine .s ((pt 0 0),[bx (av a)]) (.s2 (im (a.Got.map (cI .i64)) false) (.st (eE (e:=3)) (.st (aC ..) (.bg (fun t (y:Bool)=>∃ d f g h i:A,t=[(bA y),d,f,g,h,i]) ?_ ?_))))
 ·refine .bi ?_ ?_
  ·exact .lg ⟨_,_,_,_,_,rfl⟩
  exact .s (pt 0 2) (.s (im (a.Did.map (cI .i64)) false) (.st (eE (e:=3)) (.st (aC ..) (.lg ⟨_,_,_,_,_,rfl⟩))))
 rintro _ l ⟨d,f,g,h,i,rfl⟩
 refine .u4 (.uc (.uc (.cd ?_ ?_)))
 ·exact .lv rfl
 refine .s2 (im (a.Got.map (cI .i64)) false) (.st (eE (e:=3)) (.as (BE C n _ _ _ _ k a.Got ((a.Got.length:Int)) a ?_ ?_ _ 0)))
 ·intro o p q r u v w x w163
  exact .un rfl (.lv rfl)
 ·intro z a4 a5
  refine .un rfl (.cT r7 (.s2 (im (a.Cues.map au) false) (.st (eE (e:=30)) (.as (BF C n _ _ _ _ j b a2 false a.Cues ((a.Cues.length:Int)) a ?_ ?_ _ c 0)))))
  ·intro a6 a7 a8 a9 aa ab ad w312 w313
   exact .un rfl (.lv rfl)
  ·intro ae af ah ai aj ak al w321
   exact .un rfl (.cT r7 (.lv rfl))
def IM (a:aP) (b:Int) (a2:Int) (c:Int):Option Bool:=K9 az a b a2 c
def Bo (C:OT):Prop:=∀ (a:aP) (b:Int) (a2:Int) (c:Int),C 34 [(ag (av a)),(iA b),(iA a2),(iA c)]=(IM a b a2 c).map fun y=>(bA y)
def DZ (n:Nat) (a:Int):Option Int:=
 some (qs .i64 (wr .i64 (je .u64 a 1)) (wr .i64 (0 - (wr .i64 (oB .u64 a 1)))))
theorem MK (C:OT) (n:Nat) (a:Int):TJ C n 108 [(A.v (.int .u64 a))] (DZ n a) (fun y=>(iA y)):=by
 refine .lp (M5 ..) ?_
 unfold DZ
 exact .st (ju (hb:=by decide) ..) (.st (v:=(iA (wr .i64 (je .u64 a 1)))) (aE (hs:=by kernel_rfl) (hd:=by kernel_rfl) ..) (.st (nw ..) (.st (v:=(iA (wr .i64 (oB .u64 a 1)))) (aE (hs:=by kernel_rfl) (hd:=by kernel_rfl) ..) (.s (iA (wr .i64 (0 - (wr .i64 (oB .u64 a 1))))) (.st (nx ..) (.lv rfl))))))
def Be (a:Int):Option Int:=DZ az a
def uE (C:OT):Prop:=∀ (a:Int),C 108 [(A.v (.int .u64 a))]=(Be a).map fun y=>(iA y)
def aA:aD:=bx [(iA 0),(iA 0),se,Sv]
def ib (a:UInt8):aD:=bx [(iA (wr .i64 ((a.toNat:Int)))),(iA 0),se,Sv]
def GU (C:OT) (N:Nat) (self:(List UInt8)->Int->Option (Bool×ah×(List UInt8))):Prop:=∀ (a2:(List UInt8)) (a:Int) (X:ar),J (fun (o:R) (y:(Bool×ah×(List UInt8)))=>o=((bif y.1 then Out.ret (ag [(iA y.2.1.Kind),(iA y.2.1.N),(sA y.2.1.S),(im (y.2.1.L.map ak) false)]) else Out.pan (A.ifc 33 (iA 10))),[aA,bx [(iA 0)],bx [(im (y.2.2.map c8) false)]]++X)) (dx (cx C) N 91 [(pt 2 0),(iA a)] ([aA,bx [(iA 0)],bx [(im (a2.map c8) false)]]++X) 0) some (self a2 a) some
def dR (n:Nat):Nat->Int->Int->(List UInt8)->Option (((List UInt8))⊕(Int×(List UInt8)))
 | 0,_,_,_=>none
 | m+1,e,a,b=>bif (!(decide (1<=((b.length:Int))))) then (some ((Sum.inl b))) else ((gD b 0 1).bind fun f=>(gD b 1 ((b.length:Int))).bind fun d=>(bE f 0).bind fun c=>(bif (a==0) then (some true) else (some (((c.toNat:Int)) != 0))).bind fun g=>(bif g then ((bif (decide (a<9)) then (some true) else (some (decide (((c.toNat:Int))<=1)))).bind fun h=>some h) else (some false)).bind fun i=>bif (!i) then (some ((Sum.inl d))) else (bif decide (0<=(wr .i64 (7*a))) then (bif (decide (((c.toNat:Int))<128)) then (some ((Sum.inr ((me .u64 e (ot .u64 (wr .u64 (oB .u8 ((c.toNat:Int)) 127)) (wr .i64 (7*a))),d))))) else (dR n m (me .u64 e (ot .u64 (wr .u64 (oB .u8 ((c.toNat:Int)) 127)) (wr .i64 (7*a)))) (wr .i64 (a+1)) d)) else none))
theorem mh {w767:aD} {K:(((List UInt8))⊕(Int×(List UInt8)))->Option γ} (k:∀ (d:(List UInt8)) (g:A) (s2:A) (h:A),J φ (kp (A.ifc 33 (iA 10)) (St.mk [(0,g),(2,s2),(3,h)] [aA,bx [(iA 0)],bx [(im (d.map c8) false)],w767])) kL (K (Sum.inl d)) some) (x1:∀ (d:Int) (o:(List UInt8)) (g:A) (h:A),J φ (kr (St.mk [(0,g),(2,(A.v (.int .u64 d))),(3,h)] [aA,bx [(iA 0)],bx [(im (o.map c8) false)],w767])) kL (K (Sum.inr ((d,o)))) some) :
  ∀ (m:Nat) (i:Int) (j:Int) (c:(List UInt8)),J φ (aI (cx C) (dx (cx C) (n+6)) (bo (cx C) (n+6)) (n+6) 109 0 0 4 kx kg kr kp m (St.mk [(0,(pt 2 0)),(2,(A.v (.int .u64 i))),(3,(iA j))] [aA,bx [(iA 0)],bx [(im (c.map c8) false)],w767])) kL (dR n  m i j c) K:=by
  refine nI (fun _ _ _=>.nn) fun m ih i j c=>.lp (Hm ..) ?_
  unfold dR
  refine .cl ((aK yH).trans (Hk ..)) (.s (pt 2 0) (.s2 (im (c.map c8) false) (.st (eE (e:=5)) (.st (fm ..) (.cl ((aK o6).trans (Eg ..)) (.s (bA (!(decide (1<=((c.length:Int)))))) (.cd ?_ ?_)))))))
  ·exact .s (A.ifc 33 (iA 10)) (.pk (.cr (.mc (.cr (.mc (.ex (k _ _ _ _)))))))
  refine .cr (.ok (.s (pt 2 0) (.s2 (im (c.map c8) false) (.bd (mo (e:=5) (es:=1) (f:=c8) (l:=c) (a:=0) (b:=1) r7 r7 (fun _=>rfl) (.inl ⟨rfl,rfl⟩)) fun a7=>.s (pt 2 0) (.s2 (im (c.map c8) false) (.bd (oM (e:=5) (es:=1) (f:=c8) (l:=c) (a:=1) (b:=(c.length:Int)) r7 r7 (fun _=>rfl) (.inr ⟨_,rfl⟩) (.inl ⟨rfl,rfl⟩)) fun p=>.s (pt 2 0) (.s (pt 2 0) (.s [aA,bx [(iA 0)],bx [(im (p.map c8) false)],w767] (.cr (.ok (.bd (gp (e:=5) (es:=1)) fun q=>.s (uA ((q.toNat:Int))) (.st (aV ..) (.bg (fun t (y:Bool)=>∃ r u:A,t=[(bA y),r,u]) ?_ ?_)))))))))))))
  ·refine .bi ?_ ?_
   ·exact .lg ⟨_,_,rfl⟩
   exact .st (aC ..) (.lg ⟨_,_,rfl⟩)
  rintro _ a8 ⟨r,u,rfl⟩
  refine .uc (.uc (.uc (.bg (fun t (y:Bool)=>∃ w x z a0 a1 a2:A,t=[(bA y),w,x,z,a0,a1,a2]) ?_ ?_)))
  ·refine .bi ?_ ?_
   ·refine .st (bj ..) (.bg (fun t (y:Bool)=>∃ a3 a4:A,t=[(bA y),a3,a4]) ?_ ?_)
    ·refine .bi ?_ ?_
     ·exact .lg ⟨_,_,rfl⟩
     exact .st (fm ..) (.lg ⟨_,_,rfl⟩)
    rintro _ a9 ⟨a3,a4,rfl⟩
    exact .uc (.uc (.uc (.lg ⟨_,_,_,_,_,_,rfl⟩)))
   exact .lg ⟨_,_,_,_,_,_,rfl⟩
  rintro _ a6 ⟨w,x,z,a0,a1,a2,rfl⟩
  refine .u4 (.uc (.uc (.uc (.cl ((aK o6).trans (Eg ..)) (.s (bA (!a6)) (.cd ?_ ?_))))))
  ·exact .s (A.ifc 33 (iA 10)) (.pk (.cr (.mc (.ex (k _ _ _ _)))))
  refine .cr (.ok (.st (nw ..) (.st (v:=(A.v (.int .u64 (wr .u64 (oB .u8 ((q.toNat:Int)) 127))))) (aE (hs:=by kernel_rfl) (hd:=by kernel_rfl) ..) (.st (oy ..) (.gd fun hg=>.st (qM (hb:=SF hg) ..) (.st (gF ..) (.st (bj ..) (.cd ?_ ?_))))))))
  ·exact .ex (x1 _ _ _ _)
  refine .st (aF ..) (.s [aA,bx [(iA 0)],bx [(im (p.map c8) false)],w767] (.cT r7 ?_))
  exact ih _ _ _
def gu (self:(List UInt8)->Int->Option (Bool×ah×(List UInt8))) (n:Nat) (b:Int) (c:Int) (g:Int) (h:Int) (i:ByteArray):Nat->Int->(List UInt8)->(List ah)->Option (((List UInt8))⊕((List UInt8)×(List ah)))
 | 0,_,_,_=>none
 | m+1,d,e,f=>bif (decide (d<c)) then ((self e (wr .i64 (b+1))).bind fun a=>bif a.1 then ((cF 56 f ([a.2.1])).bind fun j=>gu self n b c g h i m (wr .i64 (d+1)) a.2.2 j) else (some ((Sum.inl a.2.2)))) else (some ((Sum.inr ((e,f)))))
theorem Ar (self:(List UInt8)->Int->Option (Bool×ah×(List UInt8))) (hS:GU C (n+8) self) (k:Int) (w:Int) (d:Int) (e:Int) (h:ByteArray) {K:(((List UInt8))⊕((List UInt8)×(List ah)))->Option γ} (z:∀ (i:(List UInt8)) (o:A) (p:A) (s4:A) (q:A) (r:A) (q3:aD) (q4:aD),J φ (kp (A.ifc 33 (iA 10)) (St.mk [(0,o),(1,p),(4,s4),(36,q),(37,r)] [aA,bx [(iA 0)],bx [(im (i.map c8) false)],q3,q4])) kL (K (Sum.inl i)) some) (x1:∀ (i:(List UInt8)) (u:(List ah)) (o:A) (p:A) (q:A) (r:A),J φ (kx 1 (St.mk [(0,o),(1,p),(4,(pt 3 0)),(36,q),(37,r)] [aA,bx [(iA 0)],bx [(im (i.map c8) false)],bx [(iA d),(iA e),(sA h),(bU 4 0 u.length false)],aD.row false 4 (u.map ak)])) kL (K (Sum.inr ((i,u)))) some) :
  ∀ (m:Nat) (v:Int) (j:(List UInt8)) (a:(List ah)),J φ (aI (cx C) (ec C n 8) (ey C n 8) (n+8) 91 0 0 5 kx kg kr kp m (St.mk [(0,(pt 2 0)),(1,(iA k)),(4,(pt 3 0)),(36,(iA w)),(37,(iA v))] [aA,bx [(iA 0)],bx [(im (j.map c8) false)],bx [(iA d),(iA e),(sA h),(bU 4 0 a.length false)],aD.row false 4 (a.map ak)])) kL (gu self n k w d e h m v j a) K:=by
  refine nI (fun _ _ _=>.nn) fun m ih v j a=>.lp (JA ..) ?_
  unfold gu
  refine .st (bj ..) (.cd ?_ ?_)
  ·refine .s (pt 3 3) (.s (bU 4 0 a.length false) (.st (aF ..) (.cT r7 (.bg (fun (t:Out×ar) (y:(Bool×ah×(List UInt8)))=>t=((bif y.1 then Out.ret (ag [(iA y.2.1.Kind),(iA y.2.1.N),(sA y.2.1.S),(im (y.2.1.L.map ak) false)]) else Out.pan (A.ifc 33 (iA 10))),[aA,bx [(iA 0)],bx [(im (y.2.2.map c8) false)],bx [(iA d),(iA e),(sA h),(bU 4 0 a.length false)],aD.row false 4 (a.map ak)])) (hS j (wr .i64 (k+1)) [bx [(iA d),(iA e),(sA h),(bU 4 0 a.length false)],aD.row false 4 (a.map ak)]) ?_))))
   rintro _ c rfl
   refine .ob ?_ ?_
   ·refine .ok (.s (im [[(iA c.2.1.Kind),(iA c.2.1.N),(sA c.2.1.S),(im (c.2.1.L.map ak) false)]] true) (.bd (g:=fun (y:List ah)=>((bU 4 0 y.length false),[aA,bx [(iA 0)],bx [(im (c.2.2.map c8) false)],bx [(iA d),(iA e),(sA h),(bU 4 0 a.length false)],aD.row false 4 (y.map ak)])) (cA eo (l:=a) (l2:=[c.2.1]) (b:=4) rfl (by decide) (gI (f:=ak) (l:=([c.2.1]:List ah)) H7)) fun x=>.s (pt 3 3) (.sh (.st (aF ..) (.s [aA,bx [(iA 0)],bx [(im (c.2.2.map c8) false)],bx [(iA d),(iA e),(sA h),(bU 4 0 x.length false)],aD.row false 4 (x.map ak)] (.cT r7 ?_))))))
    exact ih _ _ _
   exact .mc (.ex (z _ _ _ _ _ _ _ _))
  exact .ex (x1 _ _ _ _ _ _)
def vQ (self:(List UInt8)->Int->Option (Bool×ah×(List UInt8))) (n:Nat) (a2:(List UInt8)) (f:Int):Option (Bool×ah×(List UInt8)):=
 bif (!(decide (1<=((a2.length:Int))))) then (some ((false,(default:ah),a2))) else ((gD a2 0 1).bind fun h=>(gD a2 1 ((a2.length:Int))).bind fun c=>(bE h 0).bind fun a=>bif ((wr .i64 ((a.toNat:Int)))==1) then ((dR (n+1)  (n+7) 0 0 c).bind fun i=>match i with | (Sum.inl j)=>some ((false,(default:ah),j)) | (Sum.inr ((k,l)))=>(Be k).bind fun o=>some ((true,(ah.mk (wr .i64 ((a.toNat:Int))) o iM ([])),l))) else (bif ((wr .i64 ((a.toNat:Int)))==2) then ((dR n  (n+6) 0 0 c).bind fun p=>match p with | (Sum.inl q)=>some ((false,(default:ah),q)) | (Sum.inr ((d,b)))=>bif (!(decide (d<=(wr .u64 ((b.length:Int)))))) then (some ((false,(default:ah),b))) else (bif (!(decide ((wr .i64 (d))<=((b.length:Int))))) then (some ((false,(default:ah),b))) else ((gD b 0 (wr .i64 (d))).bind fun r=>(gD b (wr .i64 (d)) ((b.length:Int))).bind fun s=>some ((true,(ah.mk (wr .i64 ((a.toNat:Int))) 0 (fR r) ([])),s))))) else (bif ((wr .i64 ((a.toNat:Int)))==3) then (bif (!(decide (f<16))) then (some ((false,(default:ah),c))) else ((dR n  (n+6) 0 0 c).bind fun t=>match t with | (Sum.inl u)=>some ((false,(default:ah),u)) | (Sum.inr ((g,e)))=>bif (!(decide (g<=(wr .u64 ((e.length:Int)))))) then (some ((false,(default:ah),e))) else ((gu self n f (wr .i64 (g)) (wr .i64 ((a.toNat:Int))) 0 iM (n+8) 0 e (([]:List ah))).bind fun v=>match v with | (Sum.inl w)=>some ((false,(default:ah),w)) | (Sum.inr ((x,y)))=>some ((true,(ah.mk (wr .i64 ((a.toNat:Int))) 0 iM y),x))))) else (some ((false,(default:ah),c))))))
theorem ML (C:OT) (n:Nat) (a0:uE C) (self:(List UInt8)->Int->Option (Bool×ah×(List UInt8))) (hS:GU C (n+8) self) (a2:(List UInt8)) (q:Int):J (fun (o:R) (y:(Bool×ah×(List UInt8)))=>∃ Z,o=((bif y.1 then Out.ret (ag [(iA y.2.1.Kind),(iA y.2.1.N),(sA y.2.1.S),(im (y.2.1.L.map ak) false)]) else Out.pan (A.ifc 33 (iA 10))),[aA,bx [(iA 0)],bx [(im (y.2.2.map c8) false)]]++Z)) (aB (cx C) (ec C n 8) (ey C n 8) (n+8) 91 [(pt 2 0),(iA q)] [aA,bx [(iA 0)],bx [(im (a2.map c8) false)]] 0) some (vQ self n a2 q) some:=by
 refine .lp (RN ..) ?_
 unfold vQ
 refine .s ((pt 3 0),[aA,bx [(iA 0)],bx [(im (a2.map c8) false)],aA]) (.cl ((aK yH).trans (Hk ..)) (.s (pt 2 0) (.s2 (im (a2.map c8) false) (.st (eE (e:=5)) (.st (fm ..) (.cl ((aK o6).trans (Eg ..)) (.s (bA (!(decide (1<=((a2.length:Int)))))) (.cd ?_ ?_))))))))
 ·exact .s (A.ifc 33 (iA 10)) (.pk (.cr (.mc (.cr (.mc (.lf rfl rfl ⟨[aA],rfl⟩))))))
 refine .cr (.ok (.s (pt 2 0) (.s2 (im (a2.map c8) false) (.bd (mo (e:=5) (es:=1) (f:=c8) (l:=a2) (a:=0) (b:=1) r7 r7 (fun _=>rfl) (.inl ⟨rfl,rfl⟩)) fun y5=>.s (pt 2 0) (.s2 (im (a2.map c8) false) (.bd (oM (e:=5) (es:=1) (f:=c8) (l:=a2) (a:=1) (b:=(a2.length:Int)) r7 r7 (fun _=>rfl) (.inr ⟨_,rfl⟩) (.inl ⟨rfl,rfl⟩)) fun i=>.s (pt 2 0) (.s (pt 2 0) (.s [aA,bx [(iA 0)],bx [(im (i.map c8) false)],aA] (.cr (.ok (.bd (gp (e:=5) (es:=1)) fun c=>.s (uA ((c.toNat:Int))) (.st (v:=(iA (wr .i64 ((c.toNat:Int))))) (aE (hs:=by kernel_rfl) (hd:=by kernel_rfl) ..) (.s (pt 3 0) (.s [aA,bx [(iA 0)],bx [(im (i.map c8) false)],(ib c)] (.s2 (iA (wr .i64 ((c.toNat:Int)))) (.st (aV ..) (.cd ?_ ?_)))))))))))))))))
 ·refine .cl ((aK yI).trans (Hl ..)) (.as (mh C (n+1) _ _ _ _  ?_ ?_ _ 0 0 i))
  ·intro a5 a6 a7 a8
   exact .un rfl (.cr (.mc (.lf rfl rfl ⟨[(ib c)],rfl⟩)))
  ·intro a1 x a9 aa
   exact .un rfl (.cr (.ok (.bd (a0 a1) fun j=>.s (pt 3 1) (.sh (.s (ag [(iA (wr .i64 ((c.toNat:Int)))),(iA j),se,Sv]) (.s [aA,bx [(iA 0)],bx [(im (x.map c8) false)],bx [(iA (wr .i64 ((c.toNat:Int)))),(iA j),se,Sv]] (.s (ag [(iA (wr .i64 ((c.toNat:Int)))),(iA j),se,(im [] false)]) (.lf rfl rfl (fQ (o:=Out.ret (ag [(iA (wr .i64 ((c.toNat:Int)))),(iA j),se,(im [] false)])) (lo:=0) (off:=3) (b:=3) (p:=0) (H2:=[aA,bx [(iA 0)],bx [(im (x.map c8) false)]]) (X:=[bx [(iA (wr .i64 ((c.toNat:Int)))),(iA j),se,Sv]]) (S9 rfl))))))))))
 refine .st (aV ..) (.cd ?_ ?_)
 ·refine .cl ((aK CU).trans (Jj ..)) (.cl ((aK yI).trans (Hl ..)) (.as (mh C n _ _ _ _  ?_ ?_ _ 0 0 i)))
  ·intro ab ad ae af
   exact .un rfl (.cr (.mc (.cr (.mc (.lf rfl rfl ⟨[(ib c)],rfl⟩)))))
  ·intro k d ai aj
   refine .un rfl (.cr (.ok (.s (pt 2 0) (.s2 (im (d.map c8) false) (.st (eE (e:=5)) (.st (v:=(A.v (.int .u64 (wr .u64 ((d.length:Int)))))) (aE (hs:=by kernel_rfl) (hd:=by kernel_rfl) ..) (.st (fm ..) (.cl ((aK o6).trans (Eg ..)) (.s (bA (!(decide (k<=(wr .u64 ((d.length:Int))))))) (.cd ?_ ?_))))))))))
   ·exact .s (A.ifc 33 (iA 10)) (.pk (.cr (.mc (.cr (.mc (.lf rfl rfl ⟨[(ib c)],rfl⟩))))))
   refine .cr (.ok (.st (v:=(iA (wr .i64 (k)))) (aE (hs:=by kernel_rfl) (hd:=by kernel_rfl) ..) (.cr (.ok (.cl ((aK yH).trans (Hk ..)) (.s (pt 2 0) (.s2 (im (d.map c8) false) (.st (eE (e:=5)) (.st (fm ..) (.cl ((aK o6).trans (Eg ..)) (.s (bA (!(decide ((wr .i64 (k))<=((d.length:Int)))))) (.cd ?_ ?_))))))))))))
   ·exact .s (A.ifc 33 (iA 10)) (.pk (.cr (.mc (.cr (.mc (.lf rfl rfl ⟨[(ib c)],rfl⟩))))))
   exact .cr (.ok (.s (pt 2 0) (.s2 (im (d.map c8) false) (.bd (mo (e:=5) (es:=1) (f:=c8) (l:=d) (a:=0) (b:=wr .i64 (k)) r7 r7 (fun _=>rfl) (.inl ⟨rfl,rfl⟩)) fun h=>.s (pt 2 0) (.s2 (im (d.map c8) false) (.bd (oM (e:=5) (es:=1) (f:=c8) (l:=d) (a:=wr .i64 (k)) (b:=(d.length:Int)) r7 r7 (fun _=>rfl) (.inr ⟨_,rfl⟩) (.inl ⟨rfl,rfl⟩)) fun t=>.s (pt 2 0) (.s (pt 2 0) (.s [aA,bx [(iA 0)],bx [(im (t.map c8) false)],(ib c)] (.cr (.ok (.st (v:=(A.v (Value.string (fR h)))) (mW (e:=5) (l:=h) r7 r7 r7 r7 (bz ..) rfl) (.s (pt 3 2) (.sh (.s (ag [(iA (wr .i64 ((c.toNat:Int)))),(iA 0),(A.v (Value.string (fR h))),Sv]) (.s [aA,bx [(iA 0)],bx [(im (t.map c8) false)],bx [(iA (wr .i64 ((c.toNat:Int)))),(iA 0),(A.v (Value.string (fR h))),Sv]] (.s (ag [(iA (wr .i64 ((c.toNat:Int)))),(iA 0),(A.v (Value.string (fR h))),(im [] false)]) (.lf rfl rfl (fQ (o:=Out.ret (ag [(iA (wr .i64 ((c.toNat:Int)))),(iA 0),(A.v (Value.string (fR h))),(im [] false)])) (lo:=0) (off:=3) (b:=3) (p:=0) (H2:=[aA,bx [(iA 0)],bx [(im (t.map c8) false)]]) (X:=[bx [(iA (wr .i64 ((c.toNat:Int)))),(iA 0),(A.v (Value.string (fR h))),Sv]]) (S9 rfl)))))))))))))))))))
 refine .st (aV ..) (.cd ?_ ?_)
 ·refine .st (bj ..) (.cl ((aK o6).trans (Eg ..)) (.s (bA (!(decide (q<16)))) (.cd ?_ ?_)))
  ·exact .s (A.ifc 33 (iA 10)) (.pk (.cr (.mc (.lf rfl rfl ⟨[(ib c)],rfl⟩))))
  refine .cr (.ok (.cl ((aK CU).trans (Jj ..)) (.cl ((aK yI).trans (Hl ..)) (.as (mh C n _ _ _ _  ?_ ?_ _ 0 0 i)))))
  ·intro al am an ao
   exact .un rfl (.cr (.mc (.cr (.mc (.lf rfl rfl ⟨[(ib c)],rfl⟩)))))
  ·intro u r ap aq
   refine .un rfl (.cr (.ok (.s (pt 2 0) (.s2 (im (r.map c8) false) (.st (eE (e:=5)) (.st (v:=(A.v (.int .u64 (wr .u64 ((r.length:Int)))))) (aE (hs:=by kernel_rfl) (hd:=by kernel_rfl) ..) (.st (fm ..) (.cl ((aK o6).trans (Eg ..)) (.s (bA (!(decide (u<=(wr .u64 ((r.length:Int))))))) (.cd ?_ ?_))))))))))
   ·exact .s (A.ifc 33 (iA 10)) (.pk (.cr (.mc (.cr (.mc (.lf rfl rfl ⟨[(ib c)],rfl⟩))))))
   refine .cr (.ok (.st (v:=(iA (wr .i64 (u)))) (aE (hs:=by kernel_rfl) (hd:=by kernel_rfl) ..) (.cr (.ok (.as (Ar C n _ _ _ _ self hS q (wr .i64 (u)) (wr .i64 ((c.toNat:Int))) 0 iM ?_ ?_ _ 0 r (([]:List ah))))))))
   ·intro ar au av aw ax ay w1516 w1517
    exact .un rfl (.lf rfl rfl ⟨[w1516,w1517],rfl⟩)
   ·intro w g az b0 b1 b2
    exact .un rfl (.cT r7 (.s (ag [(iA (wr .i64 ((c.toNat:Int)))),(iA 0),se,(bU 4 0 g.length false)]) (.s [aA,bx [(iA 0)],bx [(im (w.map c8) false)],bx [(iA (wr .i64 ((c.toNat:Int)))),(iA 0),se,(bU 4 0 g.length false)],aD.row false 4 (g.map ak)] (.st (v:=(ag [(iA (wr .i64 ((c.toNat:Int)))),(iA 0),se,(im (g.map ak) false)])) ((Ty (fun z=>ml prog 107 (pt 3 0) z) (wi (H:=[aA,bx [(iA 0)],bx [(im (w.map c8) false)],bx [(iA (wr .i64 ((c.toNat:Int)))),(iA 0),se,(bU 4 0 g.length false)],aD.row false 4 (g.map ak)]) (lo:=0) (off:=3) (b:=3) (o:=0) (b':=4) (es:=4) (l:=g) cq rfl rfl rfl (S9 rfl))).trans r7) (.lf rfl rfl (fQ (o:=Out.ret (ag [(iA (wr .i64 ((c.toNat:Int)))),(iA 0),se,(im (g.map ak) false)])) (lo:=0) (off:=3) (b:=3) (p:=0) (H2:=[aA,bx [(iA 0)],bx [(im (w.map c8) false)]]) (X:=[bx [(iA (wr .i64 ((c.toNat:Int)))),(iA 0),se,(bU 4 0 g.length false)],aD.row false 4 (g.map ak)]) (S9 rfl)))))))
 exact .cl ((aK o6).trans (Eg ..)) (.s (bA true) (.Ly (.s (A.ifc 33 (iA 10)) (.pk (.cr (.mc (.lf rfl rfl ⟨[(ib c)],rfl⟩)))))))
def Ba:Nat->(List UInt8)->Int->Option (Bool×ah×(List UInt8))
 | 0=>fun _ _=>none
 | N+1=>fun a2 a3=>bif Nat.ble 8 N then vQ (Ba N) (N - 8) a2 a3 else none
theorem I2 (C:OT) (a:uE C):∀ N,GU C N (Ba N)
 | 0=>fun _ _ X r h=>by cases h
 | N+1=>fun a2 b X=>by
  show J _ _ _ (bif Nat.ble 8 N then vQ (Ba N) (N - 8) a2 b else none) _
  cases h:Nat.ble 8 N with
  | false=>exact fun r h=>by cases h
  | true=>
   obtain ⟨n,rfl⟩:∃ n,N=n+8:=⟨N - 8,by have:=S9 h; omega⟩
   rw[VM]
   exact B9 (m:=3) r7 r7 (by decide) rfl r7 ((by kernel_rfl:_=((((aQ 3 (a2.map c8))&&true))&&true)).trans so) (fun _=>rfl) (fun y=>(by show kR 3 (bif y.1 then Out.ret (ag [(iA y.2.1.Kind),(iA y.2.1.N),(sA y.2.1.S),(im (y.2.1.L.map ak) false)]) else Out.pan (A.ifc 33 (iA 10)))=true; cases y.1 with | true=>exact((by kernel_rfl:_=((aQ 3 (y.2.1.L.map ak))&&true)).trans so) | false=>rfl)) (fun y=>((by kernel_rfl:_=((((aQ 3 (y.2.2.map c8))&&true))&&true)).trans so)) (ML C n a (Ba (n+8)) (I2 C a (n+8)) a2 b)
def Lj (n:Nat) (b:(List UInt8)):Option (ah×Int):=
 (Ba (n+8) b 0).bind fun a=>bif a.1 then (bif (!(((a.2.2.length:Int))==0)) then (some (((ah.mk 0 0 iM ([])),10))) else (some ((a.2.1,0)))) else (some (((ah.mk 0 0 iM ([])),10)))
theorem QT (C:OT) (n:Nat) (c:uE C) (b:(List UInt8)):TJ C n 66 [(im (b.map c8) false)] (Lj n b) (fun y=>(tp [(ag (ae y.1)),(iA y.2)])):=by
 refine .lp (RB ..) ?_
 unfold Lj
 refine .s ((pt 0 0),[aA]) (.s ((pt 1 0),[aA,bx [(iA 0)]]) (.s (ag [(im (b.map c8) false)]) (.s ((pt 2 0),[aA,bx [(iA 0)],bx [(im (b.map c8) false)]]) (.bg (fun (t:Out×ar) (y:(Bool×ah×(List UInt8)))=>t=((bif y.1 then Out.ret (ag [(iA y.2.1.Kind),(iA y.2.1.N),(sA y.2.1.S),(im (y.2.1.L.map ak) false)]) else Out.pan (A.ifc 33 (iA 10))),[aA,bx [(iA 0)],bx [(im (y.2.2.map c8) false)]])) (I2 C c (n+8) b 0 []) ?_))))
 rintro _ a rfl
 refine .ob ?_ ?_
 ·refine .ok (.s [bx (ae a.2.1),bx [(iA 0)],bx [(im (a.2.2.map c8) false)]] (.s (pt 2 0) (.s2 (im (a.2.2.map c8) false) (.st (eE (e:=5)) (.st (aV ..) (.cl ((aK o6).trans (Eg ..)) (.s (bA (!(((a.2.2.length:Int))==0))) (.cd ?_ ?_))))))))
  ·exact .s (A.ifc 33 (iA 10)) (.pk (.cr (.mc (.s (bA true) (.Ly (.s (ag [(iA 0),(iA 0),se,Sv]) (.s (iA 10) (.sh (.s [aA,bx [(iA 10)],bx [(im (a.2.2.map c8) false)]] (.s (ag [(iA 0),(iA 0),se,Sv]) (.s (iA 10) (.lv s0))))))))))))
  exact .cr (.ok (.s (ag (ae a.2.1)) (.sh (.s [bx (ae a.2.1),bx [(iA 0)],bx [(im (a.2.2.map c8) false)]] (.s (bA false) (.MR (.s (ag (ae a.2.1)) (.s (iA 0) (.lv s0)))))))))
 exact .mc (.s (bA true) (.Ly (.s (ag [(iA 0),(iA 0),se,Sv]) (.s (iA 10) (.sh (.s [aA,bx [(iA 10)],bx [(im (a.2.2.map c8) false)]] (.s (ag [(iA 0),(iA 0),se,Sv]) (.s (iA 10) (.lv s0)))))))))
def IV (a:(List UInt8)):Option (ah×Int):=Lj az a
def FU (C:OT):Prop:=∀ (a:(List UInt8)),C 66 [(im (a.map c8) false)]=(IV a).map fun y=>(tp [(ag (ae y.1)),(iA y.2)])
def du (n:Nat) (j:Bool) (b:(List ah)) (c:Int) (k:Int) (l:Int) (o:Int) (p:ah):Nat->Int->Int->Int->Int->Int->Int->Option ((Bool×Int×Int×Int×Int×Int)⊕(Int×Int×Int×Int×Int))
 | 0,_,_,_,_,_,_=>none
 | m+1,a,d,e,f,g,h=>bif (decide (a<c)) then ((bE b a).bind fun i=>bif (i.Kind != 1) then (some ((Sum.inl ((false,d,e,f,g,h))))) else (bif decide (a=0) then (du n j b c k l o p m (wr .i64 (a+1)) i.N e f g h) else bif decide (a=1) then (du n j b c k l o p m (wr .i64 (a+1)) d i.N f g h) else bif decide (a=2) then (du n j b c k l o p m (wr .i64 (a+1)) d e i.N g h) else bif decide (a=3) then (du n j b c k l o p m (wr .i64 (a+1)) d e f i.N h) else bif decide (a=4) then (du n j b c k l o p m (wr .i64 (a+1)) d e f g i.N) else none)) else (some ((Sum.inr ((d,e,f,g,h)))))
theorem BG (z:Bool) (l:(List ah)) (a0:Int) (b:Int) (c:Int) (d:Int) (f:ah) {K:((Bool×Int×Int×Int×Int×Int)⊕(Int×Int×Int×Int×Int))->Option γ} (x0:∀ (o:Bool) (p:Int) (q:Int) (r:Int) (o4:Int) (o5:Int) (t:A) (u:A) (w:A) (x:A) (q1:aD) (q2:aD) (q3:aD),J φ (kr (St.mk [(2,(pt 0 0)),(3,(bA o)),(6,t),(53,u),(54,w),(55,x)] [bx [(iA p),(iA q),(iA r),(iA o4),(iA o5),(iA b),(iA c),(iA d)],q1,q2,q3])) kL (K (Sum.inl ((o,p,q,r,o4,o5)))) some) (x1:∀ (o:Int) (p:Int) (q:Int) (r:Int) (o4:Int) (s3:A) (t:A) (u:A) (w:A) (x:A) (q1:aD) (q2:aD),J φ (kx 0 (St.mk [(2,(pt 0 0)),(3,s3),(6,t),(53,u),(54,w),(55,x)] [bx [(iA o),(iA p),(iA q),(iA r),(iA o4),(iA b),(iA c),(iA d)],q1,q2])) kL (K (Sum.inr ((o,p,q,r,o4)))) some) :
  ∀ (m:Nat) (y:Int) (g:Int) (h:Int) (i:Int) (j:Int) (k:Int),J φ (aI (cx C) (ec C n 8) (ey C n 8) (n+8) 35 0 0 3 kx kg kr kp m (St.mk [(2,(pt 0 0)),(3,(bA z)),(6,(bU 2 0 5 false)),(53,(im (l.map ak) false)),(54,(iA a0)),(55,(iA y))] [bx [(iA g),(iA h),(iA i),(iA j),(iA k),(iA b),(iA c),(iA d)],bx (ae f),aD.row true 1 [[(pt 0 0)],[(pt 0 1)],[(pt 0 2)],[(pt 0 3)],[(pt 0 4)],[(pt 0 0)],[(pt 0 5)],[(pt 0 6)],[(pt 0 7)]]])) kL (du n z l a0 b c d f m y g h i j k) K:=by
  refine nI (fun _ _ _ _ _ _=>.nn) fun m ih y g h i j k=>.lp (Gj ..) ?_
  unfold du
  refine .st (bj ..) (.cd ?_ ?_)
  ·refine .bd ((gp (e:=107) (es:=4)).trans (dD _)) fun a=>.s (ag (ae a)) (.sq (pt 3 0) (.s [bx [(iA g),(iA h),(iA i),(iA j),(iA k),(iA b),(iA c),(iA d)],bx (ae f),aD.row true 1 [[(pt 0 0)],[(pt 0 1)],[(pt 0 2)],[(pt 0 3)],[(pt 0 4)],[(pt 0 0)],[(pt 0 5)],[(pt 0 6)],[(pt 0 7)]],bx (ae a)] (.s2 (iA a.Kind) (.st (aC ..) (.cd ?_ ?_)))))
   ·exact .s (ag [(iA g),(iA h),(iA i),(iA j),(iA k),(iA b),(iA c),(iA d)]) (.s [bx [(iA g),(iA h),(iA i),(iA j),(iA k),(iA b),(iA c),(iA d)],bx (ae f),aD.row true 1 [[(pt 0 0)],[(pt 0 1)],[(pt 0 2)],[(pt 0 3)],[(pt 0 4)],[(pt 0 0)],[(pt 0 5)],[(pt 0 6)],[(pt 0 7)]],bx (ae a)] (.ex (x0 _ _ _ _ _ _ _ _ _ _ _ _ _)))
   refine .sp (fun a5=>?_) (fun _=>?_)
   ·refine .st (v:=(A.ep 2 0 0)) (by rw[SF a5]; kernel_rfl) (.s (pt 0 0) (.s2 (iA a.N) (.s (pt 0 0) (.s [bx [(iA a.N),(iA h),(iA i),(iA j),(iA k),(iA b),(iA c),(iA d)],bx (ae f),aD.row true 1 [[(pt 0 0)],[(pt 0 1)],[(pt 0 2)],[(pt 0 3)],[(pt 0 4)],[(pt 0 0)],[(pt 0 5)],[(pt 0 6)],[(pt 0 7)]],bx (ae a)] (.st (aF ..) (.st (v:=[bx [(iA a.N),(iA h),(iA i),(iA j),(iA k),(iA b),(iA c),(iA d)],bx (ae f),aD.row true 1 [[(pt 0 0)],[(pt 0 1)],[(pt 0 2)],[(pt 0 3)],[(pt 0 4)],[(pt 0 0)],[(pt 0 5)],[(pt 0 6)],[(pt 0 7)]]]) (fb r7 An) (.cT ((by kernel_rfl:_=(bif aQ 3 (l.map ak) then true else false)).trans so) ?_)))))))
    exact ih _ _ _ _ _ _
   refine .sp (fun a6=>?_) (fun _=>?_)
   ·refine .st (v:=(A.ep 2 1 0)) (by rw[SF a6]; kernel_rfl) (.s (pt 0 1) (.s2 (iA a.N) (.s (pt 0 1) (.s [bx [(iA g),(iA a.N),(iA i),(iA j),(iA k),(iA b),(iA c),(iA d)],bx (ae f),aD.row true 1 [[(pt 0 0)],[(pt 0 1)],[(pt 0 2)],[(pt 0 3)],[(pt 0 4)],[(pt 0 0)],[(pt 0 5)],[(pt 0 6)],[(pt 0 7)]],bx (ae a)] (.st (aF ..) (.st (v:=[bx [(iA g),(iA a.N),(iA i),(iA j),(iA k),(iA b),(iA c),(iA d)],bx (ae f),aD.row true 1 [[(pt 0 0)],[(pt 0 1)],[(pt 0 2)],[(pt 0 3)],[(pt 0 4)],[(pt 0 0)],[(pt 0 5)],[(pt 0 6)],[(pt 0 7)]]]) (fb r7 An) (.cT ((by kernel_rfl:_=(bif aQ 3 (l.map ak) then true else false)).trans so) ?_)))))))
    exact ih _ _ _ _ _ _
   refine .sp (fun a7=>?_) (fun _=>?_)
   ·refine .st (v:=(A.ep 2 2 0)) (by rw[SF a7]; kernel_rfl) (.s (pt 0 2) (.s2 (iA a.N) (.s (pt 0 2) (.s [bx [(iA g),(iA h),(iA a.N),(iA j),(iA k),(iA b),(iA c),(iA d)],bx (ae f),aD.row true 1 [[(pt 0 0)],[(pt 0 1)],[(pt 0 2)],[(pt 0 3)],[(pt 0 4)],[(pt 0 0)],[(pt 0 5)],[(pt 0 6)],[(pt 0 7)]],bx (ae a)] (.st (aF ..) (.st (v:=[bx [(iA g),(iA h),(iA a.N),(iA j),(iA k),(iA b),(iA c),(iA d)],bx (ae f),aD.row true 1 [[(pt 0 0)],[(pt 0 1)],[(pt 0 2)],[(pt 0 3)],[(pt 0 4)],[(pt 0 0)],[(pt 0 5)],[(pt 0 6)],[(pt 0 7)]]]) (fb r7 An) (.cT ((by kernel_rfl:_=(bif aQ 3 (l.map ak) then true else false)).trans so) ?_)))))))
    exact ih _ _ _ _ _ _
   refine .sp (fun a8=>?_) (fun _=>?_)
   ·refine .st (v:=(A.ep 2 3 0)) (by rw[SF a8]; kernel_rfl) (.s (pt 0 3) (.s2 (iA a.N) (.s (pt 0 3) (.s [bx [(iA g),(iA h),(iA i),(iA a.N),(iA k),(iA b),(iA c),(iA d)],bx (ae f),aD.row true 1 [[(pt 0 0)],[(pt 0 1)],[(pt 0 2)],[(pt 0 3)],[(pt 0 4)],[(pt 0 0)],[(pt 0 5)],[(pt 0 6)],[(pt 0 7)]],bx (ae a)] (.st (aF ..) (.st (v:=[bx [(iA g),(iA h),(iA i),(iA a.N),(iA k),(iA b),(iA c),(iA d)],bx (ae f),aD.row true 1 [[(pt 0 0)],[(pt 0 1)],[(pt 0 2)],[(pt 0 3)],[(pt 0 4)],[(pt 0 0)],[(pt 0 5)],[(pt 0 6)],[(pt 0 7)]]]) (fb r7 An) (.cT ((by kernel_rfl:_=(bif aQ 3 (l.map ak) then true else false)).trans so) ?_)))))))
    exact ih _ _ _ _ _ _
   refine .sp (fun a9=>?_) (fun _=>?_)
   ·refine .st (v:=(A.ep 2 4 0)) (by rw[SF a9]; kernel_rfl) (.s (pt 0 4) (.s2 (iA a.N) (.s (pt 0 4) (.s [bx [(iA g),(iA h),(iA i),(iA j),(iA a.N),(iA b),(iA c),(iA d)],bx (ae f),aD.row true 1 [[(pt 0 0)],[(pt 0 1)],[(pt 0 2)],[(pt 0 3)],[(pt 0 4)],[(pt 0 0)],[(pt 0 5)],[(pt 0 6)],[(pt 0 7)]],bx (ae a)] (.st (aF ..) (.st (v:=[bx [(iA g),(iA h),(iA i),(iA j),(iA a.N),(iA b),(iA c),(iA d)],bx (ae f),aD.row true 1 [[(pt 0 0)],[(pt 0 1)],[(pt 0 2)],[(pt 0 3)],[(pt 0 4)],[(pt 0 0)],[(pt 0 5)],[(pt 0 6)],[(pt 0 7)]]]) (fb r7 An) (.cT ((by kernel_rfl:_=(bif aQ 3 (l.map ak) then true else false)).trans so) ?_)))))))
    exact ih _ _ _ _ _ _
   exact .nn
  exact .ex (x1 _ _ _ _ _ _ _ _ _ _ _ _)
def dk (n:Nat) (i:Bool) (b:(List ah)) (c:Int) (j:Int) (k:Int) (l:Int) (o:Int) (p:ah):Nat->Int->Int->Int->Int->Int->Option ((Bool×Int×Int×Int×Int)⊕(Int×Int×Int×Int))
 | 0,_,_,_,_,_=>none
 | m+1,a,d,e,f,g=>bif (decide (a<c)) then ((bE b a).bind fun h=>bif (h.Kind != 1) then (some ((Sum.inl ((false,d,e,f,g))))) else (bif decide (a=0) then (dk n i b c j k l o p m (wr .i64 (a+1)) h.N e f g) else bif decide (a=1) then (dk n i b c j k l o p m (wr .i64 (a+1)) d h.N f g) else bif decide (a=2) then (dk n i b c j k l o p m (wr .i64 (a+1)) d e h.N g) else bif decide (a=3) then (dk n i b c j k l o p m (wr .i64 (a+1)) d e f h.N) else none)) else (some ((Sum.inr ((d,e,f,g)))))
theorem Ap (z:Bool) (l:(List ah)) (a0:Int) (b:Int) (c:Int) (d:Int) (f:Int) (g:ah) {K:((Bool×Int×Int×Int×Int)⊕(Int×Int×Int×Int))->Option γ} (x0:∀ (o:Bool) (p:Int) (q:Int) (r:Int) (o4:Int) (t:A) (u:A) (w:A) (x:A) (q1:aD) (q2:aD) (q3:aD),J φ (kr (St.mk [(2,(pt 0 0)),(3,(bA o)),(6,t),(53,u),(54,w),(55,x)] [bx [(iA p),(iA b),(iA c),(iA d),(iA f),(iA q),(iA r),(iA o4)],q1,q2,q3])) kL (K (Sum.inl ((o,p,q,r,o4)))) some) (x1:∀ (o:Int) (p:Int) (q:Int) (r:Int) (s3:A) (t:A) (u:A) (w:A) (x:A) (q1:aD) (q2:aD),J φ (kx 0 (St.mk [(2,(pt 0 0)),(3,s3),(6,t),(53,u),(54,w),(55,x)] [bx [(iA o),(iA b),(iA c),(iA d),(iA f),(iA p),(iA q),(iA r)],q1,q2])) kL (K (Sum.inr ((o,p,q,r)))) some) :
  ∀ (m:Nat) (y:Int) (h:Int) (i:Int) (j:Int) (k:Int),J φ (aI (cx C) (ec C n 8) (ey C n 8) (n+8) 35 0 0 3 kx kg kr kp m (St.mk [(2,(pt 0 0)),(3,(bA z)),(6,(bU 2 5 4 true)),(53,(im (l.map ak) false)),(54,(iA a0)),(55,(iA y))] [bx [(iA h),(iA b),(iA c),(iA d),(iA f),(iA i),(iA j),(iA k)],bx (ae g),aD.row true 1 [[(pt 0 0)],[(pt 0 1)],[(pt 0 2)],[(pt 0 3)],[(pt 0 4)],[(pt 0 0)],[(pt 0 5)],[(pt 0 6)],[(pt 0 7)]]])) kL (dk n z l a0 b c d f g m y h i j k) K:=by
  refine nI (fun _ _ _ _ _=>.nn) fun m ih y h i j k=>.lp (Gj ..) ?_
  unfold dk
  refine .st (bj ..) (.cd ?_ ?_)
  ·refine .bd ((gp (e:=107) (es:=4)).trans (dD _)) fun a=>.s (ag (ae a)) (.sq (pt 3 0) (.s [bx [(iA h),(iA b),(iA c),(iA d),(iA f),(iA i),(iA j),(iA k)],bx (ae g),aD.row true 1 [[(pt 0 0)],[(pt 0 1)],[(pt 0 2)],[(pt 0 3)],[(pt 0 4)],[(pt 0 0)],[(pt 0 5)],[(pt 0 6)],[(pt 0 7)]],bx (ae a)] (.s2 (iA a.Kind) (.st (aC ..) (.cd ?_ ?_)))))
   ·exact .s (ag [(iA h),(iA b),(iA c),(iA d),(iA f),(iA i),(iA j),(iA k)]) (.s [bx [(iA h),(iA b),(iA c),(iA d),(iA f),(iA i),(iA j),(iA k)],bx (ae g),aD.row true 1 [[(pt 0 0)],[(pt 0 1)],[(pt 0 2)],[(pt 0 3)],[(pt 0 4)],[(pt 0 0)],[(pt 0 5)],[(pt 0 6)],[(pt 0 7)]],bx (ae a)] (.ex (x0 _ _ _ _ _ _ _ _ _ _ _ _)))
   refine .sp (fun a4=>?_) (fun _=>?_)
   ·refine .st (v:=(A.ep 2 5 0)) (by rw[SF a4]; kernel_rfl) (.s (pt 0 0) (.s2 (iA a.N) (.s (pt 0 0) (.s [bx [(iA a.N),(iA b),(iA c),(iA d),(iA f),(iA i),(iA j),(iA k)],bx (ae g),aD.row true 1 [[(pt 0 0)],[(pt 0 1)],[(pt 0 2)],[(pt 0 3)],[(pt 0 4)],[(pt 0 0)],[(pt 0 5)],[(pt 0 6)],[(pt 0 7)]],bx (ae a)] (.st (aF ..) (.st (v:=[bx [(iA a.N),(iA b),(iA c),(iA d),(iA f),(iA i),(iA j),(iA k)],bx (ae g),aD.row true 1 [[(pt 0 0)],[(pt 0 1)],[(pt 0 2)],[(pt 0 3)],[(pt 0 4)],[(pt 0 0)],[(pt 0 5)],[(pt 0 6)],[(pt 0 7)]]]) (fb r7 An) (.cT ((by kernel_rfl:_=(bif aQ 3 (l.map ak) then true else false)).trans so) ?_)))))))
    exact ih _ _ _ _ _
   refine .sp (fun a5=>?_) (fun _=>?_)
   ·refine .st (v:=(A.ep 2 6 0)) (by rw[SF a5]; kernel_rfl) (.s (pt 0 5) (.s2 (iA a.N) (.s (pt 0 5) (.s [bx [(iA h),(iA b),(iA c),(iA d),(iA f),(iA a.N),(iA j),(iA k)],bx (ae g),aD.row true 1 [[(pt 0 0)],[(pt 0 1)],[(pt 0 2)],[(pt 0 3)],[(pt 0 4)],[(pt 0 0)],[(pt 0 5)],[(pt 0 6)],[(pt 0 7)]],bx (ae a)] (.st (aF ..) (.st (v:=[bx [(iA h),(iA b),(iA c),(iA d),(iA f),(iA a.N),(iA j),(iA k)],bx (ae g),aD.row true 1 [[(pt 0 0)],[(pt 0 1)],[(pt 0 2)],[(pt 0 3)],[(pt 0 4)],[(pt 0 0)],[(pt 0 5)],[(pt 0 6)],[(pt 0 7)]]]) (fb r7 An) (.cT ((by kernel_rfl:_=(bif aQ 3 (l.map ak) then true else false)).trans so) ?_)))))))
    exact ih _ _ _ _ _
   refine .sp (fun a6=>?_) (fun _=>?_)
   ·refine .st (v:=(A.ep 2 7 0)) (by rw[SF a6]; kernel_rfl) (.s (pt 0 6) (.s2 (iA a.N) (.s (pt 0 6) (.s [bx [(iA h),(iA b),(iA c),(iA d),(iA f),(iA i),(iA a.N),(iA k)],bx (ae g),aD.row true 1 [[(pt 0 0)],[(pt 0 1)],[(pt 0 2)],[(pt 0 3)],[(pt 0 4)],[(pt 0 0)],[(pt 0 5)],[(pt 0 6)],[(pt 0 7)]],bx (ae a)] (.st (aF ..) (.st (v:=[bx [(iA h),(iA b),(iA c),(iA d),(iA f),(iA i),(iA a.N),(iA k)],bx (ae g),aD.row true 1 [[(pt 0 0)],[(pt 0 1)],[(pt 0 2)],[(pt 0 3)],[(pt 0 4)],[(pt 0 0)],[(pt 0 5)],[(pt 0 6)],[(pt 0 7)]]]) (fb r7 An) (.cT ((by kernel_rfl:_=(bif aQ 3 (l.map ak) then true else false)).trans so) ?_)))))))
    exact ih _ _ _ _ _
   refine .sp (fun a7=>?_) (fun _=>?_)
   ·refine .st (v:=(A.ep 2 8 0)) (by rw[SF a7]; kernel_rfl) (.s (pt 0 7) (.s2 (iA a.N) (.s (pt 0 7) (.s [bx [(iA h),(iA b),(iA c),(iA d),(iA f),(iA i),(iA j),(iA a.N)],bx (ae g),aD.row true 1 [[(pt 0 0)],[(pt 0 1)],[(pt 0 2)],[(pt 0 3)],[(pt 0 4)],[(pt 0 0)],[(pt 0 5)],[(pt 0 6)],[(pt 0 7)]],bx (ae a)] (.st (aF ..) (.st (v:=[bx [(iA h),(iA b),(iA c),(iA d),(iA f),(iA i),(iA j),(iA a.N)],bx (ae g),aD.row true 1 [[(pt 0 0)],[(pt 0 1)],[(pt 0 2)],[(pt 0 3)],[(pt 0 4)],[(pt 0 0)],[(pt 0 5)],[(pt 0 6)],[(pt 0 7)]]]) (fb r7 An) (.cT ((by kernel_rfl:_=(bif aQ 3 (l.map ak) then true else false)).trans so) ?_)))))))
    exact ih _ _ _ _ _
   exact .nn
  exact .ex (x1 _ _ _ _ _ _ _ _ _ _ _)
def La (n:Nat) (c:(List UInt8)):Option (aH×Bool):=
 (IV c).bind fun a=>(bif (a.2 != 0) then (some true) else (some (a.1.Kind != 3))).bind fun d=>(bif d then (some true) else (some (((a.1.L.length:Int))==0))).bind fun e=>bif e then (some (((aH.mk 0 ((aO.mk 0 0 0 0)) ((ba.mk 0 0 0))),false))) else ((bE a.1.L 0).bind fun b=>bif (b.N==1) then ((bif (b.N != 1) then (some (b.N != 2)) else (some false)).bind fun f=>(bif f then (some true) else (some (((a.1.L.length:Int)) != 5))).bind fun g=>bif g then (some (((aH.mk b.N ((aO.mk 0 0 0 0)) ((ba.mk 0 0 0))),false))) else ((du n false a.1.L ((a.1.L.length:Int)) 0 0 0 a.1 (n+8) 0 b.N 0 0 0 0).bind fun h=>match h with | (Sum.inl ((i,j,k,l,o,p)))=>some (((aH.mk j ((aO.mk k l o p)) ((ba.mk 0 0 0))),i)) | (Sum.inr ((q,r,s,t,u)))=>some (((aH.mk q ((aO.mk r s t u)) ((ba.mk 0 0 0))),true)))) else ((bif (b.N != 1) then (some (b.N != 2)) else (some false)).bind fun v=>(bif v then (some true) else (some (((a.1.L.length:Int)) != 4))).bind fun w=>bif w then (some (((aH.mk b.N ((aO.mk 0 0 0 0)) ((ba.mk 0 0 0))),false))) else ((dk n false a.1.L ((a.1.L.length:Int)) 0 0 0 0 a.1 (n+8) 0 b.N 0 0 0).bind fun x=>match x with | (Sum.inl ((y,z,a1,a2,a3)))=>some (((aH.mk z ((aO.mk 0 0 0 0)) ((ba.mk a1 a2 a3))),y)) | (Sum.inr ((a4,a5,a6,a7)))=>some (((aH.mk a4 ((aO.mk 0 0 0 0)) ((ba.mk a5 a6 a7))),true)))))
theorem QJ (C:OT) (n:Nat) (ap:FU C) (c:(List UInt8)):TJ C n 35 [(im (c.map c8) false)] (La n c) (fun y=>(tp [(ag (aj y.1)),(bA y.2)])):=by
 refine .lp (Rm ..) ?_
 unfold La
 refine .s ((pt 0 0),[bx [(iA 0),(iA 0),(iA 0),(iA 0),(iA 0),(iA 0),(iA 0),(iA 0)]]) (.bd (g:=fun (y:(ah×Int))=>(tp [(ag (ae y.1)),(iA y.2)])) (by simp only[cD,dL]; exact ap c) fun a=>.s (ag (ae a.1)) (.s (iA a.2) (.sq (pt 1 0) (.s [bx [(iA 0),(iA 0),(iA 0),(iA 0),(iA 0),(iA 0),(iA 0),(iA 0)],bx (ae a.1)] (.st (aC ..) (.bg (fun t (y:Bool)=>∃ q r u:A,t=[(bA y),q,r,u]) ?_ ?_))))))
 ·refine .bi ?_ ?_
  ·exact .lg ⟨_,_,_,rfl⟩
  exact .s (pt 1 0) (.s (iA a.1.Kind) (.st (aC ..) (.lg ⟨_,_,_,rfl⟩)))
 rintro _ y3 ⟨q,r,u,rfl⟩
 refine .u4 (.bg (fun t (y:Bool)=>∃ v w x z:A,t=[(bA y),v,w,x,z]) ?_ ?_)
 ·refine .bi ?_ ?_
  ·exact .lg ⟨_,_,_,_,rfl⟩
  exact .s (pt 1 3) (.s (im (a.1.L.map ak) false) (.st (eE (e:=107)) (.st (aV ..) (.lg ⟨_,_,_,_,rfl⟩))))
 rintro _ y8 ⟨v,w,x,z,rfl⟩
 refine .u4 (.uc (.cd ?_ ?_))
 ·exact .s (ag [(iA 0),(iA 0),(iA 0),(iA 0),(iA 0),(iA 0),(iA 0),(iA 0)]) (.s [bx [(iA 0),(iA 0),(iA 0),(iA 0),(iA 0),(iA 0),(iA 0),(iA 0)],bx (ae a.1)] (.s (ag [(iA 0),(iA 0),(iA 0),(iA 0),(iA 0),(iA 0),(iA 0),(iA 0)]) (.lv rfl)))
 refine .s2 (im (a.1.L.map ak) false) (.bd ((gp (e:=107) (es:=4)).trans (dD _)) fun b=>.s2 (iA b.N) (.s (pt 0 0) (.sh (.cl ((aK GA).trans (Pe ..)) (.s (pt 0 0) (.s (pt 0 0) (.s (pt 0 0) (.s (pt 0 1) (.s (pt 0 1) (.s (pt 0 0) (.s (pt 0 1) (.s (pt 0 2) (.s (pt 0 0) (.s (pt 0 1) (.s (pt 0 3) (.s (pt 0 0) (.s (pt 0 1) (.s (pt 0 4) (.s (pt 0 0) (.s (pt 0 0) (.s (pt 0 0) (.s (pt 0 5) ?_))))))))))))))))))))))
 refine .s (pt 0 5) (.s (pt 0 0) (.s (pt 0 5) (.s (pt 0 6) (.s (pt 0 0) (.s (pt 0 5) (.s (pt 0 7) (.s (ag [(pt 0 0),(pt 0 1),(pt 0 2),(pt 0 3),(pt 0 4),(pt 0 0),(pt 0 5),(pt 0 6),(pt 0 7)]) (.cT r7 (.sq (A.ep 2 0 0) (.s [bx [(iA b.N),(iA 0),(iA 0),(iA 0),(iA 0),(iA 0),(iA 0),(iA 0)],bx (ae a.1),aD.row true 1 [[(pt 0 0)],[(pt 0 1)],[(pt 0 2)],[(pt 0 3)],[(pt 0 4)],[(pt 0 0)],[(pt 0 5)],[(pt 0 6)],[(pt 0 7)]]] (.s (pt 0 0) (.s2 (iA b.N) (.st (aV ..) (.cd ?_ ?_))))))))))))))
 ·refine .s (bU 2 0 5 false) (.cr (.ok (.s2 (iA b.N) (.st (aC ..) (.bg (fun t (y:Bool)=>∃ a1 a2 a3:A,t=[(bA y),a1,a2,a3]) ?_ ?_)))))
  ·refine .bi ?_ ?_
   ·exact .s (pt 0 0) (.s (iA b.N) (.st (aC ..) (.lg ⟨_,_,_,rfl⟩)))
   exact .lg ⟨_,_,_,rfl⟩
  rintro _ b3 ⟨a1,a2,a3,rfl⟩
  refine .u4 (.bg (fun t (y:Bool)=>∃ a4 a5 a6 a7 a8 a9:A,t=[(bA y),a4,a5,a6,a7,a8,a9]) ?_ ?_)
  ·refine .bi ?_ ?_
   ·exact .lg ⟨_,_,_,_,_,_,rfl⟩
   exact .s (pt 1 3) (.s (im (a.1.L.map ak) false) (.st (eE (e:=107)) (.s (iA 5) (.st (aC ..) (.lg ⟨_,_,_,_,_,_,rfl⟩)))))
  rintro _ b4 ⟨a4,a5,a6,a7,a8,a9,rfl⟩
  refine .u4 (.uc (.uc (.uc (.cd ?_ ?_))))
  ·exact .s (ag [(iA b.N),(iA 0),(iA 0),(iA 0),(iA 0),(iA 0),(iA 0),(iA 0)]) (.s [bx [(iA b.N),(iA 0),(iA 0),(iA 0),(iA 0),(iA 0),(iA 0),(iA 0)],bx (ae a.1),aD.row true 1 [[(pt 0 0)],[(pt 0 1)],[(pt 0 2)],[(pt 0 3)],[(pt 0 4)],[(pt 0 0)],[(pt 0 5)],[(pt 0 6)],[(pt 0 7)]]] (.s (ag [(iA b.N),(iA 0),(iA 0),(iA 0),(iA 0),(iA 0),(iA 0),(iA 0)]) (.lv rfl)))
  refine .s2 (im (a.1.L.map ak) false) (.st (eE (e:=107)) (.as (BG C n _ _ _ _ false a.1.L ((a.1.L.length:Int)) 0 0 0 a.1 ?_ ?_ _ 0 b.N 0 0 0 0)))
  ·intro b5 aq ar au av aw b6 b7 b8 b9 w243 w244 w245
   exact .un rfl (.s (ag [(iA aq),(iA ar),(iA au),(iA av),(iA aw),(iA 0),(iA 0),(iA 0)]) (.lv rfl))
  ·intro d f h i j ba bb bc be bf w256 w257
   exact .un rfl (.cT r7 (.s (ag [(iA d),(iA f),(iA h),(iA i),(iA j),(iA 0),(iA 0),(iA 0)]) (.s [bx [(iA d),(iA f),(iA h),(iA i),(iA j),(iA 0),(iA 0),(iA 0)],w256,w257] (.s (ag [(iA d),(iA f),(iA h),(iA i),(iA j),(iA 0),(iA 0),(iA 0)]) (.lv rfl)))))
 refine .s (bU 2 5 4 true) (.cr (.ok (.s2 (iA b.N) (.st (aC ..) (.bg (fun t (y:Bool)=>∃ aa ab ad:A,t=[(bA y),aa,ab,ad]) ?_ ?_)))))
 ·refine .bi ?_ ?_
  ·exact .s (pt 0 0) (.s (iA b.N) (.st (aC ..) (.lg ⟨_,_,_,rfl⟩)))
  exact .lg ⟨_,_,_,rfl⟩
 rintro _ bh ⟨aa,ab,ad,rfl⟩
 refine .u4 (.bg (fun t (y:Bool)=>∃ af ai al am an ao:A,t=[(bA y),af,ai,al,am,an,ao]) ?_ ?_)
 ·refine .bi ?_ ?_
  ·exact .lg ⟨_,_,_,_,_,_,rfl⟩
  exact .s (pt 1 3) (.s (im (a.1.L.map ak) false) (.st (eE (e:=107)) (.s (iA 4) (.st (aC ..) (.lg ⟨_,_,_,_,_,_,rfl⟩)))))
 rintro _ bj ⟨af,ai,al,am,an,ao,rfl⟩
 refine .u4 (.uc (.uc (.uc (.cd ?_ ?_))))
 ·exact .s (ag [(iA b.N),(iA 0),(iA 0),(iA 0),(iA 0),(iA 0),(iA 0),(iA 0)]) (.s [bx [(iA b.N),(iA 0),(iA 0),(iA 0),(iA 0),(iA 0),(iA 0),(iA 0)],bx (ae a.1),aD.row true 1 [[(pt 0 0)],[(pt 0 1)],[(pt 0 2)],[(pt 0 3)],[(pt 0 4)],[(pt 0 0)],[(pt 0 5)],[(pt 0 6)],[(pt 0 7)]]] (.s (ag [(iA b.N),(iA 0),(iA 0),(iA 0),(iA 0),(iA 0),(iA 0),(iA 0)]) (.lv rfl)))
 refine .s2 (im (a.1.L.map ak) false) (.st (eE (e:=107)) (.as (Ap C n _ _ _ _ false a.1.L ((a.1.L.length:Int)) 0 0 0 0 a.1 ?_ ?_ _ 0 b.N 0 0 0)))
 ·intro bk ax ay az b0 bl bm bn bo w479 w480 w481
  exact .un rfl (.s (ag [(iA ax),(iA 0),(iA 0),(iA 0),(iA 0),(iA ay),(iA az),(iA b0)]) (.lv rfl))
 ·intro k l o p bp bq br bs bt w491 w492
  exact .un rfl (.cT r7 (.s (ag [(iA k),(iA 0),(iA 0),(iA 0),(iA 0),(iA l),(iA o),(iA p)]) (.s [bx [(iA k),(iA 0),(iA 0),(iA 0),(iA 0),(iA l),(iA o),(iA p)],w491,w492] (.s (ag [(iA k),(iA 0),(iA 0),(iA 0),(iA 0),(iA l),(iA o),(iA p)]) (.lv rfl)))))
def Il (a:(List UInt8)):Option (aH×Bool):=La az a
def zo (C:OT):Prop:=∀ (a:(List UInt8)),C 35 [(im (a.map c8) false)]=(Il a).map fun y=>(tp [(ag (aj y.1)),(bA y.2)])
def kb (n:Nat) (f:Int) (b:Int) (c:(List aP)) (d:Int) (e:aq):Nat->Int->Option ((Int)⊕(Unit))
 | 0,_=>none
 | m+1,a=>bif (decide (a<d)) then ((bE c a).bind fun g=>(IM g a b e.Bar).bind fun h=>bif (!h) then (some ((Sum.inl 490))) else (kb n f b c d e m (wr .i64 (a+1)))) else (some ((Sum.inr (()))))
theorem Bw (p:Bo C) (f:Int) (b:Int) (h:(List aP)) (l:Int) (a:aq) {K:((Int)⊕(Unit))->Option γ} (q:∀ (o:Int) (r:A) (t:A) (i:A) (j:A) (k:A) (q0:aD) (q1:aD),J φ (kr (St.mk [(1,r),(2,(iA o)),(3,t),(31,i),(32,j),(33,k)] [q0,q1])) kL (K (Sum.inl o)) some) (u:∀ (i:A) (j:A) (k:A),J φ (kx 0 (St.mk [(1,(pt 0 0)),(2,(iA f)),(3,(iA b)),(31,i),(32,j),(33,k)] [bx (aa a)])) kL (K (Sum.inr (()))) some) :
  ∀ (m:Nat) (c:Int),J φ (aI (cx C) (ec C n 8) (ey C n 8) (n+8) 13 0 0 1 kx kg kr kp m (St.mk [(1,(pt 0 0)),(2,(iA f)),(3,(iA b)),(31,(im (h.map av) false)),(32,(iA l)),(33,(iA c))] [bx (aa a)])) kL (kb n f b h l a m c) K:=by
  refine nI (fun _=>.nn) fun m ih c=>.lp (Jl ..) ?_
  unfold kb
  refine .st (bj ..) (.cd ?_ ?_)
  ·refine .bd (gp (e:=55) (es:=3)) fun d=>.s (ag (av d)) (.sq (pt 1 0) (.s [bx (aa a),bx (av d)] (.s (ag (av d)) (.s2 (iA a.Bar) (.bd (g:=fun (y:Bool)=>(bA y)) (by simp only[cD,dL]; exact p d c b a.Bar) fun w=>.s (bA (!w)) (.cd ?_ ?_))))))
   ·exact .ex (q _ _ _ _ _ _ _ _)
   refine .st (aF ..) (.st (v:=[bx (aa a)]) (fb r7 An) (.cT ((by kernel_rfl:_=(bif aQ 1 (h.map av) then true else false)).trans so) ?_))
   exact ih _
  exact .ex (u _ _ _)
def iu (n:Nat) (h:Int) (b:Int) (f:(List aw)) (g:Int) (c:aq):Nat->Int->Option ((Int)⊕(Unit))
 | 0,_=>none
 | m+1,d=>bif (decide (d<g)) then ((bE f d).bind fun e=>(Il e.Data).bind fun a=>(bif a.2 then (some (a.1.kind==1)) else (some false)).bind fun i=>bif i then ((GQ a.1.cue b).bind fun j=>(bif j then (some (e.From==0)) else (some false)).bind fun k=>(bif k then (some (e.To==(wr .i64 (a.1.cue.Role+1)))) else (some false)).bind fun l=>bif (!l) then (some ((Sum.inl 490))) else (iu n h b f g c m (wr .i64 (d+1)))) else (bif a.2 then ((zj a.1.report.Role 0 (wr .i64 (b - 1))).bind fun o=>(bif o then ((zj a.1.report.Bar 0 (wr .i64 (c.Bar - 1))).bind fun p=>some p) else (some false)).bind fun q=>(bif q then (some (e.From==(wr .i64 (a.1.report.Role+1)))) else (some false)).bind fun r=>(bif r then (some (e.To==0)) else (some false)).bind fun s=>(bif s then ((bE c.Ears a.1.report.Role).bind fun t=>(bE t.Did a.1.report.Bar).bind fun u=>some (u==a.1.report.Program)) else (some false)).bind fun v=>bif (!v) then (some ((Sum.inl 490))) else (iu n h b f g c m (wr .i64 (d+1)))) else (bif (!a.2) then (some ((Sum.inl 490))) else (iu n h b f g c m (wr .i64 (d+1)))))) else (some ((Sum.inr (()))))
theorem Bx (b4:tr C) (r:qH C) (b5:zo C) (u:Int) (f:Int) (d:(List aw)) (w:Int) (b:aq) {K:((Int)⊕(Unit))->Option γ} (h:∀ (x:Int) (i:A) (j:A) (k:A) (l:A) (o:A) (q0:aD) (q1:aD) (q2:aD) (q3:aD) (q4:aD),J φ (kr (St.mk [(1,i),(2,(iA x)),(3,j),(48,k),(49,l),(50,o)] [q0,q1,q2,q3,q4])) kL (K (Sum.inl x)) some) (x1:∀ (i:A) (s2:A) (j:A) (k:A) (l:A) (o:A) (q0:aD),J φ (kx 2 (St.mk [(1,i),(2,s2),(3,j),(48,k),(49,l),(50,o)] [q0])) kL (K (Sum.inr (()))) some) :
  ∀ (m:Nat) (p:Int),J φ (aI (cx C) (ec C n 8) (ey C n 8) (n+8) 13 0 1 1 kx kg kr kp m (St.mk [(1,(pt 0 0)),(2,(iA u)),(3,(iA f)),(48,(im (d.map af) false)),(49,(iA w)),(50,(iA p))] [bx (aa b)])) kL (iu n u f d w b m p) K:=by
  refine nI (fun _=>.nn) fun m ih p=>.lp (Jm ..) ?_
  unfold iu
  refine .st (bj ..) (.cd ?_ ?_)
  ·refine .bd (gp (e:=48) (es:=3)) fun c=>.s (ag (af c)) (.sq (pt 1 0) (.s [bx (aa b),bx (af c)] (.s2 (im (c.Data.map c8) false) (.bd (g:=fun (y:(aH×Bool))=>(tp [(ag (aj y.1)),(bA y.2)])) (by simp only[cD,dL]; exact b5 c.Data) fun a=>.s (ag (aj a.1)) (.s (bA a.2) (.sq (pt 2 0) (.sh (.sq (pt 3 0) (.s ((pt 4 0),[bx (aa b),bx (af c),bx (aj a.1),bx [(iA 0),(iA 0),(iA 0),(iA 0)],bx [(iA 0),(iA 0),(iA 0)]]) (.s2 (ag (au a.1.cue)) (.s (pt 2 5) (.s (ag (al a.1.report)) (.cT r7 (.sh (.s [bx (aa b),bx (af c),bx (aj a.1),bx (au a.1.cue),bx (al a.1.report)] (.bg (fun t (y:Bool)=>∃ z a0 a1:A,t=[(bA y),z,a0,a1]) ?_ ?_))))))))))))))))
   ·refine .bi ?_ ?_
    ·exact .s (pt 2 0) (.s (iA a.1.kind) (.st (aV ..) (.lg ⟨_,_,_,rfl⟩)))
    exact .lg ⟨_,_,_,rfl⟩
   rintro _ ba ⟨z,a0,a1,rfl⟩
   refine .u4 (.cd ?_ ?_)
   ·refine .s (ag (au a.1.cue)) (.bd (b4 a.1.cue f) fun bc=>.bg (fun t (y:Bool)=>∃ a2 a3 a4:A,t=[(bA y),a2,a3,a4]) ?_ ?_)
    ·refine .bi ?_ ?_
     ·exact .s (pt 1 0) (.s (iA c.From) (.st (aV ..) (.lg ⟨_,_,_,rfl⟩)))
     exact .lg ⟨_,_,_,rfl⟩
    rintro _ be ⟨a2,a3,a4,rfl⟩
    refine .u4 (.bg (fun t (y:Bool)=>∃ a5 a6 a7 a8 a9 ab:A,t=[(bA y),a5,a6,a7,a8,a9,ab]) ?_ ?_)
    ·refine .bi ?_ ?_
     ·exact .s (pt 1 1) (.s (iA c.To) (.s (pt 3 1) (.s (iA a.1.cue.Role) (.st (aF ..) (.st (aV ..) (.lg ⟨_,_,_,_,_,_,rfl⟩))))))
     exact .lg ⟨_,_,_,_,_,_,rfl⟩
    rintro _ b7 ⟨a5,a6,a7,a8,a9,ab,rfl⟩
    refine .u4 (.uc (.uc (.uc (.s (bA (!b7)) (.cd ?_ ?_)))))
    ·exact .ex (h _ _ _ _ _ _ _ _ _ _ _)
    refine .st (aF ..) (.st (v:=[bx (aa b)]) (fb r7 An) (.cT ((by kernel_rfl:_=(bif aQ 1 (d.map af) then true else false)).trans so) ?_))
    exact ih _
   refine .cd ?_ ?_
   ·refine .s2 (iA a.1.report.Role) (.st (dU ..) (.bd (r a.1.report.Role 0 (wr .i64 (f - 1))) fun bf=>.bg (fun t (y:Bool)=>∃ ad ae ah ai ak am:A,t=[(bA y),ad,ae,ah,ai,ak,am]) ?_ ?_))
    ·refine .bi ?_ ?_
     ·exact .s (pt 4 1) (.s (iA a.1.report.Bar) (.s (pt 0 3) (.s (iA b.Bar) (.st (dU ..) (.bd (r a.1.report.Bar 0 (wr .i64 (b.Bar - 1))) fun bh=>.lg ⟨_,_,_,_,_,_,rfl⟩)))))
     exact .lg ⟨_,_,_,_,_,_,rfl⟩
    rintro _ bk ⟨ad,ae,ah,ai,ak,am,rfl⟩
    refine .u4 (.uc (.uc (.uc (.bg (fun t (y:Bool)=>∃ an ao ap ar ax ay:A,t=[(bA y),an,ao,ap,ar,ax,ay]) ?_ ?_))))
    ·refine .bi ?_ ?_
     ·exact .s (pt 1 0) (.s (iA c.From) (.s (pt 4 0) (.s (iA a.1.report.Role) (.st (aF ..) (.st (aV ..) (.lg ⟨_,_,_,_,_,_,rfl⟩))))))
     exact .lg ⟨_,_,_,_,_,_,rfl⟩
    rintro _ bl ⟨an,ao,ap,ar,ax,ay,rfl⟩
    refine .u4 (.uc (.uc (.uc (.bg (fun t (y:Bool)=>∃ az b0 b1:A,t=[(bA y),az,b0,b1]) ?_ ?_))))
    ·refine .bi ?_ ?_
     ·exact .s (pt 1 1) (.s (iA c.To) (.st (aV ..) (.lg ⟨_,_,_,rfl⟩)))
     exact .lg ⟨_,_,_,rfl⟩
    rintro _ bm ⟨az,b0,b1,rfl⟩
    refine .u4 (.OU (.bg (fun t (y:Bool)=>∃ b2:A,t=[(bA y),b2]) ?_ ?_))
    ·refine .Ph (fun q=>?_) (fun q=>?_)
     ·exact .bb (.s (pt 0 2) (.s (im (b.Ears.map av) false) (.s (pt 4 0) (.s (iA a.1.report.Role) (.bd (gp (e:=55) (es:=3)) fun b3=>.s (A.ip [(im (b3.Did.map (cI .i64)) false)]) (.s (im (b3.Did.map (cI .i64)) false) (.s (pt 4 1) (.s (iA a.1.report.Bar) (.bd (gp (e:=3) (es:=1)) fun b8=>.s (iA b8) (.s (pt 4 2) (.s (iA a.1.report.Program) (.cr (.u4 (.u4 (.u4 (.uc (.Hd q (.st (aV ..) (.lg ⟨_,rfl⟩)))))))))))))))))))
     exact .bb (.cr (.u4 (.u4 (.u4 (.uc (.Gd q (.lg ⟨_,rfl⟩)))))))
    rintro _ b9 ⟨b2,rfl⟩
    refine .uc (.uc (.s (bA (!b9)) (.cd ?_ ?_)))
    ·exact .ex (h _ _ _ _ _ _ _ _ _ _ _)
    refine .st (aF ..) (.st (v:=[bx (aa b)]) (fb r7 An) (.cT ((by kernel_rfl:_=(bif aQ 1 (d.map af) then true else false)).trans so) ?_))
    exact ih _
   refine .s (bA (!a.2)) (.cd ?_ ?_)
   ·exact .ex (h _ _ _ _ _ _ _ _ _ _ _)
   refine .st (aF ..) (.st (v:=[bx (aa b)]) (fb r7 An) (.cT ((by kernel_rfl:_=(bif aQ 1 (d.map af) then true else false)).trans so) ?_))
   exact ih _
  exact .ex (x1 _ _ _ _ _ _ _)
def K0 (n:Nat) (a:aq):Option Int:=
 (zj ((a.Ears.length:Int)) 1 12).bind fun b=>(bif (!b) then (some true) else ((zj a.Bar 0 4096).bind fun c=>some (!c))).bind fun d=>(bif d then (some true) else ((GR a.Net).bind fun e=>some (e != 0))).bind fun f=>bif f then (some 490) else ((kb n 0 ((a.Ears.length:Int)) a.Ears ((a.Ears.length:Int)) a (n+8) 0).bind fun g=>match g with | (Sum.inl h)=>some h | (Sum.inr _)=>(iu n 0 ((a.Ears.length:Int)) a.Net.Queue ((a.Net.Queue.length:Int)) a (n+8) 0).bind fun i=>match i with | (Sum.inl j)=>some j | (Sum.inr _)=>some 0)
theorem Qw (C:OT) (n:Nat) (o:tr C) (b:qH C) (p:zl C) (q:Bo C) (r:zo C) (a:aq):TJ C n 13 [(ag (aa a))] (K0 n a) (fun y=>(iA y)):=by
 refine .lp (Q9 ..) ?_
 unfold K0
 refine .s ((pt 0 0),[bx (aa a)]) (.s2 (im (a.Ears.map av) false) (.st (eE (e:=55)) (.bd (b ((a.Ears.length:Int)) 1 12) fun u=>.s (bA (!u)) (.bg (fun t (y:Bool)=>∃ c d f h:A,t=[(bA y),c,d,f,h]) ?_ ?_))))
 ·refine .bi ?_ ?_
  ·exact .lg ⟨_,_,_,_,rfl⟩
  exact .s (pt 0 3) (.s (iA a.Bar) (.bd (b a.Bar 0 4096) fun v=>.s (bA (!v)) (.lg ⟨_,_,_,_,rfl⟩)))
 rintro _ w ⟨c,d,f,h,rfl⟩
 refine .u4 (.uc (.bg (fun t (y:Bool)=>∃ i j k l:A,t=[(bA y),i,j,k,l]) ?_ ?_))
 ·refine .bi ?_ ?_
  ·exact .lg ⟨_,_,_,_,rfl⟩
  exact .s (pt 0 0) (.s (ag [(im (a.Net.Queue.map af) false),(im (a.Net.Apart.map ai) false)]) (.bd (g:=fun (y:Int)=>(iA y)) (by simp only[cD,dL]; exact p a.Net) fun x=>.st (aC ..) (.lg ⟨_,_,_,_,rfl⟩)))
 rintro _ z ⟨i,j,k,l,rfl⟩
 refine .u4 (.uc (.cd ?_ ?_))
 ·exact .lv rfl
 refine .s2 (im (a.Ears.map av) false) (.st (eE (e:=55)) (.as (Bw C n _ _ _ _ q 0 ((a.Ears.length:Int)) a.Ears ((a.Ears.length:Int)) a ?_ ?_ _ 0)))
 ·intro a1 a2 a3 a4 a5 a6 w114 w115
  exact .un rfl (.lv rfl)
 ·intro a7 a8 a9
  refine .un rfl (.cT r7 (.s (pt 0 0) (.s2 (im (a.Net.Queue.map af) false) (.st (eE (e:=48)) (.as (Bx C n _ _ _ _ o b r 0 ((a.Ears.length:Int)) a.Net.Queue ((a.Net.Queue.length:Int)) a ?_ ?_ _ 0))))))
  ·intro ab ad ae ah aj ak w354 w355 w356 w357 w358
   exact .un rfl (.lv rfl)
  ·intro al am an ao ap ar w365
   exact .un rfl (.cT r7 (.lv rfl))
def D2 (a:aq):Option Int:=K0 az a
def vT (C:OT):Prop:=∀ (a:aq),C 13 [(ag (aa a))]=(D2 a).map fun y=>(iA y)
def xO (C:OT) (self:ah->Option (Int×Bool)):Prop:=∀ (a:ah),C 96 [(ag (ae a))]=(self a).map fun y=>(tp [(iA y.1),(bA y.2)])
def jo (self:ah->Option (Int×Bool)) (n:Nat) (f:Bool) (d:(List ah)) (e:Int) (g:ah) (h:Bool) (i:Bool) (j:Bool) (k:Bool):Nat->Int->Int->Option ((Int×Bool)⊕(Int))
 | 0,_,_=>none
 | m+1,a,b=>bif (decide (b<e)) then ((bE d b).bind fun l=>(self l).bind fun c=>bif (!c.2) then (some ((Sum.inl ((0,false))))) else (jo self n f d e g h i j k m ((if a<c.1 then c.1 else a)) (wr .i64 (b+1)))) else (some ((Sum.inr a)))
theorem BN (self:ah->Option (Int×Bool)) (hS:xO C self) (t:Bool) (l:(List ah)) (u:Int) (f:ah) (h:Bool) (i:Bool) (j:Bool) (k:Bool) {K:((Int×Bool)⊕(Int))->Option γ} (x:∀ (a:Int) (w:Bool) (o:A) (p:A) (q:A) (q0:aD) (q1:aD) (q2:aD),J φ (kr (St.mk [(2,(iA a)),(3,(bA w)),(55,o),(56,p),(57,q)] [q0,q1,q2])) kL (K (Sum.inl ((a,w)))) some) (z:∀ (a:Int) (s3:A) (o:A) (p:A) (q:A) (q0:aD) (q1:aD),J φ (kx 0 (St.mk [(2,(iA a)),(3,s3),(55,o),(56,p),(57,q)] [q0,q1])) kL (K (Sum.inr a)) some) :
  ∀ (m:Nat) (b:Int) (r:Int),J φ (aI (cx C) (ec C n 8) (ey C n 8) (n+8) 96 0 0 2 kx kg kr kp m (St.mk [(2,(iA b)),(3,(bA t)),(55,(im (l.map ak) false)),(56,(iA u)),(57,(iA r))] [bx (ae f),bx [(bA h),(bA i),(bA j),(bA k)]])) kL (jo self n t l u f h i j k m b r) K:=by
  refine nI (fun _ _=>.nn) fun m ih b r=>.lp (JD ..) ?_
  unfold jo
  refine .st (bj ..) (.cd ?_ ?_)
  ·refine .bd ((gp (e:=107) (es:=4)).trans (dD _)) fun c=>.s (ag (ae c)) (.sq (pt 2 0) (.s [bx (ae f),bx [(bA h),(bA i),(bA j),(bA k)],bx (ae c)] (.s (ag (ae c)) (.bd (g:=fun (y:(Int×Bool))=>(tp [(iA y.1),(bA y.2)])) (by show C 96 [snap _ (ag (ae c))]=_; simp only[cD,dL]; exact hS c) fun d=>.s (iA d.1) (.s (bA d.2) (.s (bA (!d.2)) (.cd ?_ ?_)))))))
   ·exact .ex (x _ _ _ _ _ _ _ _)
   refine .s (iA ((if b<d.1 then d.1 else b))) (.st (aF ..) (.st (v:=[bx (ae f),bx [(bA h),(bA i),(bA j),(bA k)]]) (fb r7 An) (.cT ((by kernel_rfl:_=(bif aQ 2 (l.map ak) then true else false)).trans so) ?_)))
   exact ih _ _
  exact .ex (z _ _ _ _ _ _ _)
def IH (self:ah->Option (Int×Bool)) (n:Nat) (a:ah):Option (Int×Bool):=
 (bif (iK a.S ((ByteArray.mk #[]))) then (some (((a.L.length:Int))==0)) else (some false)).bind fun b=>(bif (a.N==0) then (some (((a.L.length:Int))==0)) else (some false)).bind fun c=>(bif (a.N==0) then (some (iK a.S ((ByteArray.mk #[])))) else (some false)).bind fun d=>(bif (decide (a.Kind<1)) then (some true) else (some (decide (3<a.Kind)))).bind fun e=>(bif e then (some true) else (bif decide (a.Kind=0) then (some true) else bif decide (a.Kind=1) then (some (!b)) else bif decide (a.Kind=2) then (some (!c)) else bif decide (a.Kind=3) then (some (!d)) else none)).bind fun f=>bif f then (some ((0,false))) else (bif (decide (a.Kind<3)) then (some ((0,true))) else ((jo self n false a.L ((a.L.length:Int)) a false b c d (n+8) 0 0).bind fun g=>match g with | (Sum.inl ((h,i)))=>some ((h,i)) | (Sum.inr j)=>some ((wr .i64 (j+1),true))))
theorem Q4 (C:OT) (n:Nat) (self:ah->Option (Int×Bool)) (hS:xO C self) (a:ah):TJ C n 96 [(ag (ae a))] (IH self n a) (fun y=>(tp [(iA y.1),(bA y.2)])):=by
 refine .lp (RQ ..) ?_
 unfold IH
 refine .s ((pt 0 0),[bx (ae a)]) (.s2 (sA a.S) (.st (jt ..) (.bg (fun t (y:Bool)=>∃ f g h i:A,t=[(bA y),f,g,h,i]) ?_ ?_)))
 ·refine .bi ?_ ?_
  ·exact .s (pt 0 3) (.s (im (a.L.map ak) false) (.st (eE (e:=107)) (.st (aV ..) (.lg ⟨_,_,_,_,rfl⟩))))
  exact .lg ⟨_,_,_,_,rfl⟩
 rintro _ b ⟨f,g,h,i,rfl⟩
 refine .u4 (.uc (.s2 (iA a.N) (.st (aV ..) (.bg (fun t (y:Bool)=>∃ j k l o:A,t=[(bA y),j,k,l,o]) ?_ ?_))))
 ·refine .bi ?_ ?_
  ·exact .s (pt 0 3) (.s (im (a.L.map ak) false) (.st (eE (e:=107)) (.st (aV ..) (.lg ⟨_,_,_,_,rfl⟩))))
  exact .lg ⟨_,_,_,_,rfl⟩
 rintro _ c ⟨j,k,l,o,rfl⟩
 refine .u4 (.uc (.s2 (iA a.N) (.st (aV ..) (.bg (fun t (y:Bool)=>∃ p q r:A,t=[(bA y),p,q,r]) ?_ ?_))))
 ·refine .bi ?_ ?_
  ·exact .s (pt 0 2) (.s (sA a.S) (.st (jt ..) (.lg ⟨_,_,_,rfl⟩)))
  exact .lg ⟨_,_,_,rfl⟩
 rintro _ d ⟨p,q,r,rfl⟩
 refine .u4 (.s (ag [(bA false),(bA b),(bA c),(bA d)]) (.sq (pt 1 0) (.s [bx (ae a),bx [(bA false),(bA b),(bA c),(bA d)]] (.s2 (iA a.Kind) (.st (bj ..) (.bg (fun t (y:Bool)=>∃ u w x:A,t=[(bA y),u,w,x]) ?_ ?_))))))
 ·refine .bi ?_ ?_
  ·exact .lg ⟨_,_,_,rfl⟩
  exact .s (pt 0 0) (.s (iA a.Kind) (.st (dg ..) (.lg ⟨_,_,_,rfl⟩)))
 rintro _ a9 ⟨u,w,x,rfl⟩
 refine .u4 (.bg (fun t (y:Bool)=>∃ z a1 a2 a3 a4:A,t=[(bA y),z,a1,a2,a3,a4]) ?_ ?_)
 ·refine .bi ?_ ?_
  ·exact .lg ⟨_,_,_,_,_,rfl⟩
  refine .s (pt 0 0) (.s (iA a.Kind) (.sp (fun a5=>?_) (fun _=>?_)))
  ·exact .st (v:=(pt 1 0)) (by rw[SF a5]; kernel_rfl) (.s (bA false) (.s (bA true) (.lg ⟨_,_,_,_,_,rfl⟩)))
  refine .sp (fun a6=>?_) (fun _=>?_)
  ·exact .st (v:=(pt 1 1)) (by rw[SF a6]; kernel_rfl) (.s (bA b) (.s (bA (!b)) (.lg ⟨_,_,_,_,_,rfl⟩)))
  refine .sp (fun a7=>?_) (fun _=>?_)
  ·exact .st (v:=(pt 1 2)) (by rw[SF a7]; kernel_rfl) (.s (bA c) (.s (bA (!c)) (.lg ⟨_,_,_,_,_,rfl⟩)))
  refine .sp (fun a8=>?_) (fun _=>?_)
  ·exact .st (v:=(pt 1 3)) (by rw[SF a8]; kernel_rfl) (.s (bA d) (.s (bA (!d)) (.lg ⟨_,_,_,_,_,rfl⟩)))
  exact .nn
 rintro _ aa ⟨z,a1,a2,a3,a4,rfl⟩
 refine .u4 (.uc (.uc (.cd ?_ ?_)))
 ·exact .lv rfl
 refine .s2 (iA a.Kind) (.st (bj ..) (.cd ?_ ?_))
 ·exact .lv rfl
 refine .s2 (im (a.L.map ak) false) (.st (eE (e:=107)) (.as (BN C n _ _ _ _ self hS false a.L ((a.L.length:Int)) a false b c d ?_ ?_ _ 0 0)))
 ·intro ab ad af ai aj w128 w129 w130
  exact .un rfl (.lv rfl)
 ·intro al am an ao ap w136 w137
  exact .un rfl (.cT r7 (.st (aF ..) (.lv rfl)))
def Gc:Nat->ah->Option (Int×Bool)
 | 0=>fun _=>none
 | q+1=>fun a0=>IH (Gc q) az a0
def MD (a:ah):Option (Int×Bool):=Gc az a
def F6 (C:OT):Prop:=∀ (a:ah),C 96 [(ag (ae a))]=(MD a).map fun y=>(tp [(iA y.1),(bA y.2)])
def My (n:Nat) (b:ah):Option Int:=
 (MD b).bind fun a=>bif (!a.2) then (some 1) else (bif (decide (16<a.1)) then (some 2) else (some 0))
theorem Q0 (C:OT) (n:Nat) (c:F6 C) (a:ah):TJ C n 83 [(ag (ae a))] (My n a) (fun y=>(iA y)):=by
 refine .lp (RI ..) ?_
 unfold My
 refine .s ((pt 0 0),[bx (ae a)]) (.s (ag (ae a)) (.bd (g:=fun (y:(Int×Bool))=>(tp [(iA y.1),(bA y.2)])) (by simp only[cD,dL]; exact c a) fun b=>.s (iA b.1) (.s (bA b.2) (.s (bA (!b.2)) (.cd ?_ ?_)))))
 ·exact .lv rfl
 refine .st (dg ..) (.cd ?_ ?_)
 ·exact .lv rfl
 exact .lv rfl
def MC (a:ah):Option Int:=My az a
def FZ (C:OT):Prop:=∀ (a:ah),C 83 [(ag (ae a))]=(MC a).map fun y=>(iA y)
def Lr (n:Nat) (a:Int):Option Int:=
 some (qs .u64 (ot .u64 (wr .u64 (a)) 1) (wr .u64 (je .i64 a 63)))
theorem Q5 (C:OT) (n:Nat) (a:Int):TJ C n 99 [(iA a)] (Lr n a) (fun y=>(A.v (.int .u64 y))):=by
 refine .lp (RR ..) ?_
 unfold Lr
 exact .st (v:=(A.v (.int .u64 (wr .u64 (a))))) (aE (hs:=by kernel_rfl) (hd:=by kernel_rfl) ..) (.st (qM (hb:=by decide) ..) (.st (ju (hb:=by decide) ..) (.st (v:=(A.v (.int .u64 (wr .u64 (je .i64 a 63))))) (aE (hs:=by kernel_rfl) (hd:=by kernel_rfl) ..) (.st (nx ..) (.lv rfl)))))
def GS (a:Int):Option Int:=Lr az a
def tt (C:OT):Prop:=∀ (a:Int),C 99 [(iA a)]=(GS a).map fun y=>(A.v (.int .u64 y))
def aJ:aD:=bx [(A.v Value.nilFunc),(sV 97 [] []),(sV 100 [] []),(sV 101 [] [(pt 2 0)])]
def Bf (C:OT) (N:Nat) (self:ah->ah->(List UInt8)->ah->Option (List UInt8)):Prop:=∀ (a:ah) (b:ah) (a2:(List UInt8)) (c:ah) (X:ar),J (fun (o:R) (y:(List UInt8))=>o=(Out.ret (bU 4 0 y.length false),[bx (ae a),aJ,bx [(pt 1 0)],bx (ae b),aD.row false 1 (y.map c8)]++X)) (dx (cx C) N 101 [(bU 4 0 a2.length false),(ag (ae c)),(pt 2 0)] ([bx (ae a),aJ,bx [(pt 1 0)],bx (ae b),aD.row false 1 (a2.map c8)]++X) 0) some (self a b a2 c) some
def jl (n:Nat):Nat->Int->(List UInt8)->Option (Int×(List UInt8))
 | 0,_,_=>none
 | m+1,a,b=>bif (decide (128<=a)) then (bif (decide (0<=(me .u8 (wr .u8 (a)) 128))&&decide ((me .u8 (wr .u8 (a)) 128)<256)) then ((cF 1 b ([(UInt8.ofNat (Int.toNat (me .u8 (wr .u8 (a)) 128)))])).bind fun c=>jl n m (je .u64 a 7) c) else none) else (some ((a,b)))
theorem xP {w44:A} {w45 w46 w47 w48 w49:aD} {K:(Int×(List UInt8))->Option γ} (h:∀ (e:Int) (d:(List UInt8)) (i:A),J φ (kx 0 (St.mk [(0,(bU 4 0 d.length false)),(1,(A.v (.int .u64 e))),(4,i)] [w45,w46,w47,w48,aD.row false 1 (d.map c8),w49])) kL (K (e,d)) some) :
  ∀ (m:Nat) (a:Int) (c:(List UInt8)),J φ (aI (cx C) (ec C n 7) (ey C n 7) (n+7) 98 0 0 6 kx kg kr kp m (St.mk [(0,(bU 4 0 c.length false)),(1,(A.v (.int .u64 a))),(4,w44)] [w45,w46,w47,w48,aD.row false 1 (c.map c8),w49])) kL (jl n  m a c) K:=by
  refine nI (fun _ _=>.nn) fun m ih a c=>.lp (zC ..) ?_
  unfold jl
  refine .st (dS ..) (.cd ?_ ?_)
  ·refine .st (v:=(uA (wr .u8 (a)))) (aE (hs:=by kernel_rfl) (hd:=by kernel_rfl) ..) (.st (gF ..) (.gd fun hg=>.st (v:=(im [[(uA (((UInt8.ofNat (Int.toNat (me .u8 (wr .u8 (a)) 128))).toNat:Int)))]] true)) (by rw[fc hg]; kernel_rfl) (.bd (g:=fun (y:List UInt8)=>((bU 4 0 y.length false),[w45,w46,w47,w48,aD.row false 1 (y.map c8),w49])) (cA cK (l:=c) (l2:=[(UInt8.ofNat (Int.toNat (me .u8 (wr .u8 (a)) 128)))]) (b:=4) rfl (by decide) (bz (f:=c8) ([(UInt8.ofNat (Int.toNat (me .u8 (wr .u8 (a)) 128)))]:List UInt8) _ _)) fun j=>.st (ju (hb:=by decide) ..) (.s [w45,w46,w47,w48,aD.row false 1 (j.map c8),w49] (.cT r7 ?_)))))
   exact ih _ _
  exact .ex (h _ _ _)
def fg (n:Nat):Nat->Int->(List UInt8)->Option (Int×(List UInt8))
 | 0,_,_=>none
 | m+1,a,b=>bif (decide (128<=a)) then (bif (decide (0<=(me .u8 (wr .u8 (a)) 128))&&decide ((me .u8 (wr .u8 (a)) 128)<256)) then ((cF 1 b ([(UInt8.ofNat (Int.toNat (me .u8 (wr .u8 (a)) 128)))])).bind fun c=>fg n m (je .u64 a 7) c) else none) else (some ((a,b)))
theorem pZ {w1301:A} {w1302 w1303 w1304 w1305 w1306 w1307 w1308:aD} {K:(Int×(List UInt8))->Option γ} (h:∀ (e:Int) (d:(List UInt8)) (i:A),J φ (kx 0 (St.mk [(0,(bU 4 0 d.length false)),(1,(A.v (.int .u64 e))),(4,i)] [w1302,w1303,w1304,w1305,aD.row false 1 (d.map c8),w1306,w1307,w1308])) kL (K (e,d)) some) :
  ∀ (m:Nat) (a:Int) (c:(List UInt8)),J φ (aI (cx C) (dx (cx C) (n+6)) (bo (cx C) (n+6)) (n+6) 98 0 0 8 kx kg kr kp m (St.mk [(0,(bU 4 0 c.length false)),(1,(A.v (.int .u64 a))),(4,w1301)] [w1302,w1303,w1304,w1305,aD.row false 1 (c.map c8),w1306,w1307,w1308])) kL (fg n  m a c) K:=by
  refine nI (fun _ _=>.nn) fun m ih a c=>.lp (zC ..) ?_
  unfold fg
  refine .st (dS ..) (.cd ?_ ?_)
  ·refine .st (v:=(uA (wr .u8 (a)))) (aE (hs:=by kernel_rfl) (hd:=by kernel_rfl) ..) (.st (gF ..) (.gd fun hg=>.st (v:=(im [[(uA (((UInt8.ofNat (Int.toNat (me .u8 (wr .u8 (a)) 128))).toNat:Int)))]] true)) (by rw[fc hg]; kernel_rfl) (.bd (g:=fun (y:List UInt8)=>((bU 4 0 y.length false),[w1302,w1303,w1304,w1305,aD.row false 1 (y.map c8),w1306,w1307,w1308])) (cA cK (l:=c) (l2:=[(UInt8.ofNat (Int.toNat (me .u8 (wr .u8 (a)) 128)))]) (b:=4) rfl (by decide) (bz (f:=c8) ([(UInt8.ofNat (Int.toNat (me .u8 (wr .u8 (a)) 128)))]:List UInt8) _ _)) fun j=>.st (ju (hb:=by decide) ..) (.s [w1302,w1303,w1304,w1305,aD.row false 1 (j.map c8),w1306,w1307,w1308] (.cT r7 ?_)))))
   exact ih _ _
  exact .ex (h _ _ _)
def dQ (self:ah->ah->(List UInt8)->ah->Option (List UInt8)) (n:Nat) (h:(List UInt8)) (c:(List ah)) (d:Int) (e:ah) (f:ah) (i:ah):Nat->Int->(List UInt8)->Option ((List UInt8))
 | 0,_,_=>none
 | m+1,b,g=>bif (decide (b<d)) then ((bE c b).bind fun a=>bif decide (a.Kind=0) then (none) else bif decide (a.Kind=1) then ((cF 1 g ([(1:UInt8)])).bind fun l=>(GS a.N).bind fun o=>(fg n  (n+6) o l).bind fun p=>match p with | (j,q)=>bif (decide (0<=(wr .u8 (j)))&&decide ((wr .u8 (j))<256)) then ((cF 1 q ([(UInt8.ofNat (Int.toNat (wr .u8 (j))))])).bind fun r=>dQ self n h c d e f i m (wr .i64 (b+1)) r) else none) else bif decide (a.Kind=2) then ((cF 1 g ([(2:UInt8)])).bind fun s=>(fg n  (n+6) (wr .u64 ((a.S.size:Int))) s).bind fun t=>match t with | (k,u)=>bif (decide (0<=(wr .u8 (k)))&&decide ((wr .u8 (k))<256)) then ((cF 1 u ([(UInt8.ofNat (Int.toNat (wr .u8 (k))))])).bind fun v=>(cF 1 v (kF a.S)).bind fun w=>dQ self n h c d e f i m (wr .i64 (b+1)) w) else none) else bif decide (a.Kind=3) then ((self e f g a).bind fun x=>dQ self n h c d e f i m (wr .i64 (b+1)) x) else none) else (some g)
theorem v3 (w:tt C) (self:ah->ah->(List UInt8)->ah->Option (List UInt8)) (hS:Bf C (n+8) self) (j:(List UInt8)) (k:(List ah)) (u:Int) (c:ah) (d:ah) (h:ah) {K:((List UInt8))->Option γ} (x:∀ (q:(List UInt8)) (s2:A) (z:A) (a0:A) (a1:A) (a2:A) (q5:aD),J φ (kx 0 (St.mk [(0,(bU 4 0 q.length false)),(2,s2),(5,z),(17,a0),(18,a1),(19,a2)] [bx (ae c),aJ,bx [(pt 1 0)],bx (ae d),aD.row false 1 (q.map c8),q5])) kL (K q) some) :
  ∀ (m:Nat) (r:Int) (i:(List UInt8)),J φ (aI (cx C) (ec C n 8) (ey C n 8) (n+8) 101 0 0 6 kx kg kr kp m (St.mk [(0,(bU 4 0 i.length false)),(2,(pt 2 0)),(5,(im (j.map c8) true)),(17,(im (k.map ak) false)),(18,(iA u)),(19,(iA r))] [bx (ae c),aJ,bx [(pt 1 0)],bx (ae d),aD.row false 1 (i.map c8),bx (ae h)])) kL (dQ self n j k u c d h m r i) K:=by
  refine nI (fun _ _=>.nn) fun m ih r i=>.lp (Cf ..) ?_
  unfold dQ
  refine .st (bj ..) (.cd ?_ ?_)
  ·refine .bd ((gp (e:=107) (es:=4)).trans (dD _)) fun a=>.s (ag (ae a)) (.sq (pt 6 0) (.s [bx (ae c),aJ,bx [(pt 1 0)],bx (ae d),aD.row false 1 (i.map c8),bx (ae h),bx (ae a)] (.s (pt 1 0) (.s2 (iA a.Kind) (.s (pt 1 0) (.sp (fun a3=>?_) (fun _=>?_)))))))
   ·exact .st (v:=(pt 1 0)) (by rw[SF a3]; kernel_rfl) (.s2 (A.v Value.nilFunc) (.s (ag (ae a)) (.nn)))
   refine .sp (fun a4=>?_) (fun _=>?_)
   ·refine .st (v:=(pt 1 1)) (by rw[SF a4]; kernel_rfl) (.s2 (sV 97 [] []) (.s (ag (ae a)) (.dC r7 r7 (.cl ((aK CX).trans (M8 ..)) (.s ((pt 7 0),[bx (ae c),aJ,bx [(pt 1 0)],bx (ae d),aD.row false 1 (i.map c8),bx (ae h),bx (ae a),bx (ae a)]) (.s (im [[(uA 1)]] true) (.bd (g:=fun (y:List UInt8)=>((bU 4 0 y.length false),[bx (ae c),aJ,bx [(pt 1 0)],bx (ae d),aD.row false 1 (y.map c8),bx (ae h),bx (ae a),bx (ae a)])) (cA cK (l:=i) (l2:=[(1:UInt8)]) (b:=4) rfl (by decide) (bz (f:=c8) ([(1:UInt8)]:List UInt8) _ _)) fun a5=>.cT r7 (.s (pt 7 1) (.cT r7 (.s (iA a.N) (.bd (w a.N) fun a6=>.cl ((aK qd).trans (Gk ..)) (.as (pZ C n _ _ _ _  ?_ _ a6 a5)))))))))))))
    ·intro o a7 al
     refine .un rfl (.cT r7 (.st (v:=(uA (wr .u8 (o)))) (aE (hs:=by kernel_rfl) (hd:=by kernel_rfl) ..) (.gd fun hg=>.st (v:=(im [[(uA (((UInt8.ofNat (Int.toNat (wr .u8 (o)))).toNat:Int)))]] true)) (by rw[fc hg]; kernel_rfl) (.bd (g:=fun (y:List UInt8)=>((bU 4 0 y.length false),[bx (ae c),aJ,bx [(pt 1 0)],bx (ae d),aD.row false 1 (y.map c8),bx (ae h),bx (ae a),bx (ae a)])) (cA cK (l:=a7) (l2:=[(UInt8.ofNat (Int.toNat (wr .u8 (o))))]) (b:=4) rfl (by decide) (bz (f:=c8) ([(UInt8.ofNat (Int.toNat (wr .u8 (o))))]:List UInt8) _ _)) fun a8=>.cr (.ok (.cr (.ok (.st (aF ..) (.st (v:=[bx (ae c),aJ,bx [(pt 1 0)],bx (ae d),aD.row false 1 (a8.map c8),bx (ae h)]) (fb r7 Sn) (.cT ((by kernel_rfl:_=(bif aQ 6 (j.map c8) then (bif aQ 6 (k.map ak) then true else false) else false)).trans so) ?_))))))))))
     exact ih _ _
   refine .sp (fun a9=>?_) (fun _=>?_)
   ·refine .st (v:=(pt 1 2)) (by rw[SF a9]; kernel_rfl) (.s2 (sV 100 [] []) (.s (ag (ae a)) (.dC r7 r7 (.cl ((aK yG).trans (Hh ..)) (.s ((pt 7 0),[bx (ae c),aJ,bx [(pt 1 0)],bx (ae d),aD.row false 1 (i.map c8),bx (ae h),bx (ae a),bx (ae a)]) (.s ((A.ip (ae a)),[bx (ae c),aJ,bx [(pt 1 0)],bx (ae d),aD.row false 1 (i.map c8),bx (ae h),bx (ae a),aD.dead]) (.cT r7 (.s (im [[(uA 2)]] true) (.s (A.ip [(sA a.S),(im (a.L.map ak) false)]) (.s (sA a.S) (.s (iA ((a.S.size:Int))) (.st (v:=(A.v (.int .u64 (wr .u64 ((a.S.size:Int)))))) (aE (hs:=by kernel_rfl) (hd:=by kernel_rfl) ..) (.s (A.ip [(sA a.S),(im (a.L.map ak) false)]) (.s (sA a.S) (.cT r7 (.bd (g:=fun (y:List UInt8)=>((bU 4 0 y.length false),[bx (ae c),aJ,bx [(pt 1 0)],bx (ae d),aD.row false 1 (y.map c8),bx (ae h),bx (ae a),aD.dead])) (cA cK (l:=i) (l2:=[(2:UInt8)]) (b:=4) rfl (by decide) (bz (f:=c8) ([(2:UInt8)]:List UInt8) _ _)) fun aa=>.cT r7 (.cl ((aK qd).trans (Gk ..)) (.as (pZ C n _ _ _ _  ?_ _ (wr .u64 ((a.S.size:Int))) aa)))))))))))))))))))
    ·intro p ab am
     refine .un rfl (.cT r7 (.st (v:=(uA (wr .u8 (p)))) (aE (hs:=by kernel_rfl) (hd:=by kernel_rfl) ..) (.gd fun hg=>.st (v:=(im [[(uA (((UInt8.ofNat (Int.toNat (wr .u8 (p)))).toNat:Int)))]] true)) (by rw[fc hg]; kernel_rfl) (.bd (g:=fun (y:List UInt8)=>((bU 4 0 y.length false),[bx (ae c),aJ,bx [(pt 1 0)],bx (ae d),aD.row false 1 (y.map c8),bx (ae h),bx (ae a),aD.dead])) (cA cK (l:=ab) (l2:=[(UInt8.ofNat (Int.toNat (wr .u8 (p))))]) (b:=4) rfl (by decide) (bz (f:=c8) ([(UInt8.ofNat (Int.toNat (wr .u8 (p))))]:List UInt8) _ _)) fun ad=>.cr (.ok (.bd (g:=fun (y:List UInt8)=>((bU 4 0 y.length false),[bx (ae c),aJ,bx [(pt 1 0)],bx (ae d),aD.row false 1 (y.map c8),bx (ae h),bx (ae a),aD.dead])) (cA uP (l:=ad) (l2:=kF a.S) (b:=4) rfl (by decide) (qw ..)) fun af=>.cr (.ok (.st (aF ..) (.st (v:=[bx (ae c),aJ,bx [(pt 1 0)],bx (ae d),aD.row false 1 (af.map c8),bx (ae h)]) (fb r7 Sn) (.cT ((by kernel_rfl:_=(bif aQ 6 (j.map c8) then (bif aQ 6 (k.map ak) then true else false) else false)).trans so) ?_))))))))))
     exact ih _ _
   refine .sp (fun ai=>?_) (fun _=>?_)
   ·refine .st (v:=(pt 1 3)) (by rw[SF ai]; kernel_rfl) (.s2 (sV 101 [] [(pt 2 0)]) (.s (ag (ae a)) (.dC r7 r7 (.bg (fun (t:R) (y:(List UInt8))=>t=(Out.ret (bU 4 0 y.length false),[bx (ae c),aJ,bx [(pt 1 0)],bx (ae d),aD.row false 1 (y.map c8),bx (ae h),bx (ae a)])) (hS c d i a [bx (ae h),bx (ae a)]) ?_))))
    rintro _ aj rfl
    refine .ok (.st (aF ..) (.st (v:=[bx (ae c),aJ,bx [(pt 1 0)],bx (ae d),aD.row false 1 (aj.map c8),bx (ae h)]) (fb r7 Sn) (.cT ((by kernel_rfl:_=(bif aQ 6 (j.map c8) then (bif aQ 6 (k.map ak) then true else false) else false)).trans so) ?_)))
    exact ih _ _
   exact .nn
  exact .ex (x _ _ _ _ _ _ _)
def tq (self:ah->ah->(List UInt8)->ah->Option (List UInt8)) (n:Nat) (c:ah) (d:ah) (a2:(List UInt8)) (a:ah):Option (List UInt8):=
 (cF 1 a2 ([(3:UInt8)])).bind fun e=>(jl n  (n+7) (wr .u64 ((a.L.length:Int))) e).bind fun f=>match f with | (b,g)=>bif (decide (0<=(wr .u8 (b)))&&decide ((wr .u8 (b))<256)) then ((cF 1 g ([(UInt8.ofNat (Int.toNat (wr .u8 (b))))])).bind fun h=>(dQ self n ([]) a.L ((a.L.length:Int)) c d a (n+8) 0 h).bind fun i=>match i with | j=>some j) else none
theorem I9 (C:OT) (n:Nat) (i:tt C) (self:ah->ah->(List UInt8)->ah->Option (List UInt8)) (hS:Bf C (n+8) self) (c:ah) (d:ah) (a2:(List UInt8)) (a:ah):J (fun (o:R) (y:(List UInt8))=>∃ Z,o=(Out.ret (bU 4 0 y.length false),[bx (ae c),aJ,bx [(pt 1 0)],bx (ae d),aD.row false 1 (y.map c8)]++Z)) (aB (cx C) (ec C n 8) (ey C n 8) (n+8) 101 [(bU 4 0 a2.length false),(ag (ae a)),(pt 2 0)] [bx (ae c),aJ,bx [(pt 1 0)],bx (ae d),aD.row false 1 (a2.map c8)] 0) some (tq self n c d a2 a) some:=by
 refine .lp (Ji ..) ?_
 unfold tq
 refine .s ((pt 5 0),[bx (ae c),aJ,bx [(pt 1 0)],bx (ae d),aD.row false 1 (a2.map c8),bx (ae a)]) (.s (im [[(uA 3)]] true) (.bd (g:=fun (y:List UInt8)=>((bU 4 0 y.length false),[bx (ae c),aJ,bx [(pt 1 0)],bx (ae d),aD.row false 1 (y.map c8),bx (ae a)])) (cA cK (l:=a2) (l2:=[(3:UInt8)]) (b:=4) rfl (by decide) (bz (f:=c8) ([(3:UInt8)]:List UInt8) _ _)) fun j=>.cT r7 (.s (pt 5 3) (.cT r7 (.s (im (a.L.map ak) false) (.cT r7 (.st (eE (e:=107)) (.cT r7 (.st (v:=(A.v (.int .u64 (wr .u64 ((a.L.length:Int)))))) (aE (hs:=by kernel_rfl) (hd:=by kernel_rfl) ..) (.cl ((aK qd).trans (Gk ..)) (.as (xP C n _ _ _ _  ?_ _ (wr .u64 ((a.L.length:Int))) j))))))))))))
 ·intro h k q
  refine .un rfl (.cT r7 (.st (v:=(uA (wr .u8 (h)))) (aE (hs:=by kernel_rfl) (hd:=by kernel_rfl) ..) (.gd fun hg=>.st (v:=(im [[(uA (((UInt8.ofNat (Int.toNat (wr .u8 (h)))).toNat:Int)))]] true)) (by rw[fc hg]; kernel_rfl) (.bd (g:=fun (y:List UInt8)=>((bU 4 0 y.length false),[bx (ae c),aJ,bx [(pt 1 0)],bx (ae d),aD.row false 1 (y.map c8),bx (ae a)])) (cA cK (l:=k) (l2:=[(UInt8.ofNat (Int.toNat (wr .u8 (h))))]) (b:=4) rfl (by decide) (bz (f:=c8) ([(UInt8.ofNat (Int.toNat (wr .u8 (h))))]:List UInt8) _ _)) fun p=>.cr (.ok (.s2 (im (a.L.map ak) false) (.st (eE (e:=107)) (.as (v3 C n _ _ _ _ i self hS ([]) a.L ((a.L.length:Int)) c d a ?_ _ 0 p)))))))))
  ·intro r t u w x z w1400
   exact .un rfl (.cT r7 (.lf rfl rfl ⟨[w1400],rfl⟩))
def wb:Nat->ah->ah->(List UInt8)->ah->Option (List UInt8)
 | 0=>fun _ _ _ _=>none
 | N+1=>fun a0 a1 a2 a3=>bif Nat.ble 8 N then tq (wb N) (N - 8) a0 a1 a2 a3 else none
theorem FF (C:OT) (d:tt C):∀ N,Bf C N (wb N)
 | 0=>fun _ _ _ _ X r h=>by cases h
 | N+1=>fun a b a2 c X=>by
  show J _ _ _ (bif Nat.ble 8 N then tq (wb N) (N - 8) a b a2 c else none) _
  cases h:Nat.ble 8 N with
  | false=>exact fun r h=>by cases h
  | true=>
   obtain ⟨n,rfl⟩:∃ n,N=n+8:=⟨N - 8,by have:=S9 h; omega⟩
   rw[VM]
   exact B9 (m:=5) r7 r7 (by decide) rfl ((by kernel_rfl:_=((((aQ 5 (c.L.map ak))&&true))&&true)).trans so) ((by kernel_rfl:_=((((aQ 5 (a.L.map ak))&&true))&&((((aQ 5 (b.L.map ak))&&true))&&((aQ 5 (a2.map c8))&&true)))).trans so) (fun _=>rfl) (fun y=>r7) (fun y=>((by kernel_rfl:_=((((aQ 5 (a.L.map ak))&&true))&&((((aQ 5 (b.L.map ak))&&true))&&((aQ 5 (y.map c8))&&true)))).trans so)) (I9 C n d (wb (n+8)) (FF C d (n+8)) a b a2 c)
def kq (n:Nat):Nat->Int->(List UInt8)->Option (Int×(List UInt8))
 | 0,_,_=>none
 | m+1,a,b=>bif (decide (128<=a)) then (bif (decide (0<=(me .u8 (wr .u8 (a)) 128))&&decide ((me .u8 (wr .u8 (a)) 128)<256)) then ((cF 1 b ([(UInt8.ofNat (Int.toNat (me .u8 (wr .u8 (a)) 128)))])).bind fun c=>kq n m (je .u64 a 7) c) else none) else (some ((a,b)))
theorem qI {w75:A} {w76 w77 w78 w79:aD} {K:(Int×(List UInt8))->Option γ} (h:∀ (e:Int) (d:(List UInt8)) (i:A),J φ (kx 0 (St.mk [(0,(bU 4 0 d.length false)),(1,(A.v (.int .u64 e))),(4,i)] [w76,w77,w78,w79,aD.row false 1 (d.map c8)])) kL (K (e,d)) some) :
  ∀ (m:Nat) (a:Int) (c:(List UInt8)),J φ (aI (cx C) (dx (cx C) (n+6)) (bo (cx C) (n+6)) (n+6) 98 0 0 5 kx kg kr kp m (St.mk [(0,(bU 4 0 c.length false)),(1,(A.v (.int .u64 a))),(4,w75)] [w76,w77,w78,w79,aD.row false 1 (c.map c8)])) kL (kq n  m a c) K:=by
  refine nI (fun _ _=>.nn) fun m ih a c=>.lp (zC ..) ?_
  unfold kq
  refine .st (dS ..) (.cd ?_ ?_)
  ·refine .st (v:=(uA (wr .u8 (a)))) (aE (hs:=by kernel_rfl) (hd:=by kernel_rfl) ..) (.st (gF ..) (.gd fun hg=>.st (v:=(im [[(uA (((UInt8.ofNat (Int.toNat (me .u8 (wr .u8 (a)) 128))).toNat:Int)))]] true)) (by rw[fc hg]; kernel_rfl) (.bd (g:=fun (y:List UInt8)=>((bU 4 0 y.length false),[w76,w77,w78,w79,aD.row false 1 (y.map c8)])) (cA cK (l:=c) (l2:=[(UInt8.ofNat (Int.toNat (me .u8 (wr .u8 (a)) 128)))]) (b:=4) rfl (by decide) (bz (f:=c8) ([(UInt8.ofNat (Int.toNat (me .u8 (wr .u8 (a)) 128)))]:List UInt8) _ _)) fun j=>.st (ju (hb:=by decide) ..) (.s [w76,w77,w78,w79,aD.row false 1 (j.map c8)] (.cT r7 ?_)))))
   exact ih _ _
  exact .ex (h _ _ _)
def ku (n:Nat):Nat->Int->(List UInt8)->Option (Int×(List UInt8))
 | 0,_,_=>none
 | m+1,a,b=>bif (decide (128<=a)) then (bif (decide (0<=(me .u8 (wr .u8 (a)) 128))&&decide ((me .u8 (wr .u8 (a)) 128)<256)) then ((cF 1 b ([(UInt8.ofNat (Int.toNat (me .u8 (wr .u8 (a)) 128)))])).bind fun c=>ku n m (je .u64 a 7) c) else none) else (some ((a,b)))
theorem tx {w865:A} {w866 w867 w868 w869 w870 w871:aD} {K:(Int×(List UInt8))->Option γ} (h:∀ (e:Int) (d:(List UInt8)) (i:A),J φ (kx 0 (St.mk [(0,(bU 4 0 d.length false)),(1,(A.v (.int .u64 e))),(4,i)] [w866,w867,w868,w869,aD.row false 1 (d.map c8),w870,w871])) kL (K (e,d)) some) :
  ∀ (m:Nat) (a:Int) (c:(List UInt8)),J φ (aI (cx C) (dx (cx C) (n+5)) (bo (cx C) (n+5)) (n+5) 98 0 0 7 kx kg kr kp m (St.mk [(0,(bU 4 0 c.length false)),(1,(A.v (.int .u64 a))),(4,w865)] [w866,w867,w868,w869,aD.row false 1 (c.map c8),w870,w871])) kL (ku n  m a c) K:=by
  refine nI (fun _ _=>.nn) fun m ih a c=>.lp (zC ..) ?_
  unfold ku
  refine .st (dS ..) (.cd ?_ ?_)
  ·refine .st (v:=(uA (wr .u8 (a)))) (aE (hs:=by kernel_rfl) (hd:=by kernel_rfl) ..) (.st (gF ..) (.gd fun hg=>.st (v:=(im [[(uA (((UInt8.ofNat (Int.toNat (me .u8 (wr .u8 (a)) 128))).toNat:Int)))]] true)) (by rw[fc hg]; kernel_rfl) (.bd (g:=fun (y:List UInt8)=>((bU 4 0 y.length false),[w866,w867,w868,w869,aD.row false 1 (y.map c8),w870,w871])) (cA cK (l:=c) (l2:=[(UInt8.ofNat (Int.toNat (me .u8 (wr .u8 (a)) 128)))]) (b:=4) rfl (by decide) (bz (f:=c8) ([(UInt8.ofNat (Int.toNat (me .u8 (wr .u8 (a)) 128)))]:List UInt8) _ _)) fun j=>.st (ju (hb:=by decide) ..) (.s [w866,w867,w868,w869,aD.row false 1 (j.map c8),w870,w871] (.cT r7 ?_)))))
   exact ih _ _
  exact .ex (h _ _ _)
def jg (n:Nat) (h:(List UInt8)) (c:(List ah)) (d:Int) (e:ah) (f:ah):Nat->Int->(List UInt8)->Option ((List UInt8))
 | 0,_,_=>none
 | m+1,b,g=>bif (decide (b<d)) then ((bE c b).bind fun a=>bif decide (a.Kind=0) then (none) else bif decide (a.Kind=1) then ((cF 1 g ([(1:UInt8)])).bind fun k=>(GS a.N).bind fun l=>(ku n  (n+5) l k).bind fun o=>match o with | (i,p)=>bif (decide (0<=(wr .u8 (i)))&&decide ((wr .u8 (i))<256)) then ((cF 1 p ([(UInt8.ofNat (Int.toNat (wr .u8 (i))))])).bind fun q=>jg n h c d e f m (wr .i64 (b+1)) q) else none) else bif decide (a.Kind=2) then ((cF 1 g ([(2:UInt8)])).bind fun r=>(ku n  (n+5) (wr .u64 ((a.S.size:Int))) r).bind fun s=>match s with | (j,t)=>bif (decide (0<=(wr .u8 (j)))&&decide ((wr .u8 (j))<256)) then ((cF 1 t ([(UInt8.ofNat (Int.toNat (wr .u8 (j))))])).bind fun u=>(cF 1 u (kF a.S)).bind fun v=>jg n h c d e f m (wr .i64 (b+1)) v) else none) else bif decide (a.Kind=3) then ((wb (n+7) e f g a).bind fun w=>jg n h c d e f m (wr .i64 (b+1)) w) else none) else (some g)
theorem Aq (r:tt C) (i:(List UInt8)) (j:(List ah)) (u:Int) (c:ah) (d:ah) {K:((List UInt8))->Option γ} (w:∀ (p:(List UInt8)) (s2:A) (x:A) (z:A) (a0:A) (a1:A) (q0:aD) (q1:aD) (q2:aD) (q3:aD),J φ (kx 0 (St.mk [(0,(bU 4 0 p.length false)),(2,s2),(5,x),(17,z),(18,a0),(19,a1)] [q0,q1,q2,q3,aD.row false 1 (p.map c8)])) kL (K p) some) :
  ∀ (m:Nat) (q:Int) (h:(List UInt8)),J φ (aI (cx C) (ec C n 7) (ey C n 7) (n+7) 101 0 0 5 kx kg kr kp m (St.mk [(0,(bU 4 0 h.length false)),(2,(pt 2 0)),(5,(im (i.map c8) true)),(17,(im (j.map ak) false)),(18,(iA u)),(19,(iA q))] [bx (ae c),aJ,bx [(pt 1 0)],bx (ae d),aD.row false 1 (h.map c8)])) kL (jg n i j u c d m q h) K:=by
  refine nI (fun _ _=>.nn) fun m ih q h=>.lp (Cf ..) ?_
  unfold jg
  refine .st (bj ..) (.cd ?_ ?_)
  ·refine .bd ((gp (e:=107) (es:=4)).trans (dD _)) fun a=>.s (ag (ae a)) (.sq (pt 5 0) (.s [bx (ae c),aJ,bx [(pt 1 0)],bx (ae d),aD.row false 1 (h.map c8),bx (ae a)] (.s (pt 1 0) (.s2 (iA a.Kind) (.s (pt 1 0) (.sp (fun a2=>?_) (fun _=>?_)))))))
   ·exact .st (v:=(pt 1 0)) (by rw[SF a2]; kernel_rfl) (.s2 (A.v Value.nilFunc) (.s (ag (ae a)) (.nn)))
   refine .sp (fun a3=>?_) (fun _=>?_)
   ·refine .st (v:=(pt 1 1)) (by rw[SF a3]; kernel_rfl) (.s2 (sV 97 [] []) (.s (ag (ae a)) (.dC r7 r7 (.cl ((aK CX).trans (M8 ..)) (.s ((pt 6 0),[bx (ae c),aJ,bx [(pt 1 0)],bx (ae d),aD.row false 1 (h.map c8),bx (ae a),bx (ae a)]) (.s (im [[(uA 1)]] true) (.bd (g:=fun (y:List UInt8)=>((bU 4 0 y.length false),[bx (ae c),aJ,bx [(pt 1 0)],bx (ae d),aD.row false 1 (y.map c8),bx (ae a),bx (ae a)])) (cA cK (l:=h) (l2:=[(1:UInt8)]) (b:=4) rfl (by decide) (bz (f:=c8) ([(1:UInt8)]:List UInt8) _ _)) fun a4=>.cT r7 (.s (pt 6 1) (.cT r7 (.s (iA a.N) (.bd (r a.N) fun a5=>.cl ((aK qd).trans (Gk ..)) (.as (tx C n _ _ _ _  ?_ _ a5 a4)))))))))))))
    ·intro k a6 aj
     refine .un rfl (.cT r7 (.st (v:=(uA (wr .u8 (k)))) (aE (hs:=by kernel_rfl) (hd:=by kernel_rfl) ..) (.gd fun hg=>.st (v:=(im [[(uA (((UInt8.ofNat (Int.toNat (wr .u8 (k)))).toNat:Int)))]] true)) (by rw[fc hg]; kernel_rfl) (.bd (g:=fun (y:List UInt8)=>((bU 4 0 y.length false),[bx (ae c),aJ,bx [(pt 1 0)],bx (ae d),aD.row false 1 (y.map c8),bx (ae a),bx (ae a)])) (cA cK (l:=a6) (l2:=[(UInt8.ofNat (Int.toNat (wr .u8 (k))))]) (b:=4) rfl (by decide) (bz (f:=c8) ([(UInt8.ofNat (Int.toNat (wr .u8 (k))))]:List UInt8) _ _)) fun a7=>.cr (.ok (.cr (.ok (.st (aF ..) (.st (v:=[bx (ae c),aJ,bx [(pt 1 0)],bx (ae d),aD.row false 1 (a7.map c8)]) (fb r7 Sn) (.cT ((by kernel_rfl:_=(bif aQ 5 (i.map c8) then (bif aQ 5 (j.map ak) then true else false) else false)).trans so) ?_))))))))))
     exact ih _ _
   refine .sp (fun a8=>?_) (fun _=>?_)
   ·refine .st (v:=(pt 1 2)) (by rw[SF a8]; kernel_rfl) (.s2 (sV 100 [] []) (.s (ag (ae a)) (.dC r7 r7 (.cl ((aK yG).trans (Hh ..)) (.s ((pt 6 0),[bx (ae c),aJ,bx [(pt 1 0)],bx (ae d),aD.row false 1 (h.map c8),bx (ae a),bx (ae a)]) (.s ((A.ip (ae a)),[bx (ae c),aJ,bx [(pt 1 0)],bx (ae d),aD.row false 1 (h.map c8),bx (ae a),aD.dead]) (.cT r7 (.s (im [[(uA 2)]] true) (.s (A.ip [(sA a.S),(im (a.L.map ak) false)]) (.s (sA a.S) (.s (iA ((a.S.size:Int))) (.st (v:=(A.v (.int .u64 (wr .u64 ((a.S.size:Int)))))) (aE (hs:=by kernel_rfl) (hd:=by kernel_rfl) ..) (.s (A.ip [(sA a.S),(im (a.L.map ak) false)]) (.s (sA a.S) (.cT r7 (.bd (g:=fun (y:List UInt8)=>((bU 4 0 y.length false),[bx (ae c),aJ,bx [(pt 1 0)],bx (ae d),aD.row false 1 (y.map c8),bx (ae a),aD.dead])) (cA cK (l:=h) (l2:=[(2:UInt8)]) (b:=4) rfl (by decide) (bz (f:=c8) ([(2:UInt8)]:List UInt8) _ _)) fun a9=>.cT r7 (.cl ((aK qd).trans (Gk ..)) (.as (tx C n _ _ _ _  ?_ _ (wr .u64 ((a.S.size:Int))) a9)))))))))))))))))))
    ·intro o aa al
     refine .un rfl (.cT r7 (.st (v:=(uA (wr .u8 (o)))) (aE (hs:=by kernel_rfl) (hd:=by kernel_rfl) ..) (.gd fun hg=>.st (v:=(im [[(uA (((UInt8.ofNat (Int.toNat (wr .u8 (o)))).toNat:Int)))]] true)) (by rw[fc hg]; kernel_rfl) (.bd (g:=fun (y:List UInt8)=>((bU 4 0 y.length false),[bx (ae c),aJ,bx [(pt 1 0)],bx (ae d),aD.row false 1 (y.map c8),bx (ae a),aD.dead])) (cA cK (l:=aa) (l2:=[(UInt8.ofNat (Int.toNat (wr .u8 (o))))]) (b:=4) rfl (by decide) (bz (f:=c8) ([(UInt8.ofNat (Int.toNat (wr .u8 (o))))]:List UInt8) _ _)) fun ab=>.cr (.ok (.bd (g:=fun (y:List UInt8)=>((bU 4 0 y.length false),[bx (ae c),aJ,bx [(pt 1 0)],bx (ae d),aD.row false 1 (y.map c8),bx (ae a),aD.dead])) (cA uP (l:=ab) (l2:=kF a.S) (b:=4) rfl (by decide) (qw ..)) fun ad=>.cr (.ok (.st (aF ..) (.st (v:=[bx (ae c),aJ,bx [(pt 1 0)],bx (ae d),aD.row false 1 (ad.map c8)]) (fb r7 Sn) (.cT ((by kernel_rfl:_=(bif aQ 5 (i.map c8) then (bif aQ 5 (j.map ak) then true else false) else false)).trans so) ?_))))))))))
     exact ih _ _
   refine .sp (fun af=>?_) (fun _=>?_)
   ·refine .st (v:=(pt 1 3)) (by rw[SF af]; kernel_rfl) (.s2 (sV 101 [] [(pt 2 0)]) (.s (ag (ae a)) (.dC r7 r7 (.bg (fun (t:R) (y:(List UInt8))=>t=(Out.ret (bU 4 0 y.length false),[bx (ae c),aJ,bx [(pt 1 0)],bx (ae d),aD.row false 1 (y.map c8),bx (ae a)])) (FF C r (n+7) c d h a [bx (ae a)]) ?_))))
    rintro _ ai rfl
    refine .ok (.st (aF ..) (.st (v:=[bx (ae c),aJ,bx [(pt 1 0)],bx (ae d),aD.row false 1 (ai.map c8)]) (fb r7 Sn) (.cT ((by kernel_rfl:_=(bif aQ 5 (i.map c8) then (bif aQ 5 (j.map ak) then true else false) else false)).trans so) ?_)))
    exact ih _ _
   exact .nn
  exact .ex (w _ _ _ _ _ _ _ _ _ _)
def Mw (n:Nat) (a:ah):Option ((List UInt8)×Int):=
 (MC a).bind fun e=>bif (e != 0) then (some (([],e))) else (bif decide (a.Kind=0) then (none) else bif decide (a.Kind=1) then ((cF 1 ([]) ([(1:UInt8)])).bind fun f=>(GS a.N).bind fun g=>(kq n  (n+6) g f).bind fun h=>match h with | (b,i)=>bif (decide (0<=(wr .u8 (b)))&&decide ((wr .u8 (b))<256)) then ((cF 1 i ([(UInt8.ofNat (Int.toNat (wr .u8 (b))))])).bind fun j=>some ((j,0))) else none) else bif decide (a.Kind=2) then ((cF 1 ([]) ([(2:UInt8)])).bind fun k=>(kq n  (n+6) (wr .u64 ((a.S.size:Int))) k).bind fun l=>match l with | (c,o)=>bif (decide (0<=(wr .u8 (c)))&&decide ((wr .u8 (c))<256)) then ((cF 1 o ([(UInt8.ofNat (Int.toNat (wr .u8 (c))))])).bind fun p=>(cF 1 p (kF a.S)).bind fun q=>some ((q,0))) else none) else bif decide (a.Kind=3) then ((cF 1 ([]) ([(3:UInt8)])).bind fun r=>(kq n  (n+6) (wr .u64 ((a.L.length:Int))) r).bind fun s=>match s with | (d,t)=>bif (decide (0<=(wr .u8 (d)))&&decide ((wr .u8 (d))<256)) then ((cF 1 t ([(UInt8.ofNat (Int.toNat (wr .u8 (d))))])).bind fun u=>(jg n ([]) a.L ((a.L.length:Int)) a a (n+7) 0 u).bind fun v=>match v with | w=>some ((w,0))) else none) else none)
theorem QQ (C:OT) (n:Nat) (p:FZ C) (o:tt C) (a:ah):TJ C n 58 [(ag (ae a))] (Mw n a) (fun y=>(tp [(im (y.1.map c8) false),(iA y.2)])):=by
 refine .lp (Rw ..) ?_
 unfold Mw
 refine .s ((pt 0 0),[bx (ae a)]) (.s (ag (ae a)) (.bd (g:=fun (y:Int)=>(iA y)) (by simp only[cD,dL]; exact p a) fun y1=>.st (aC ..) (.cd ?_ ?_)))
 ·exact .lv s0
 refine .s (pt 0 0) (.s (iA a.Kind) (.s (ag (ae a)) (.cT r7 (.cl ((aK J2).trans (RJ ..)) (.s (ag [(A.v Value.nilFunc),(A.v Value.nilFunc),(A.v Value.nilFunc),(A.v Value.nilFunc)]) (.sq (pt 1 0) (.sq (pt 2 0) (.sh (.s (pt 1 0) (.s (pt 1 0) (.s (pt 1 1) (.s (pt 1 1) (.sh (.s (pt 1 0) (.s (pt 1 0) (.s (pt 1 2) (.s (pt 1 2) (.sh (.s (pt 1 0) (.s (pt 1 0) (.s (pt 1 3) (.s (pt 1 3) (.s [bx (ae a),aJ,bx [(pt 1 0)]] ?_)))))))))))))))))))))))
 refine .s (pt 1 0) (.cr (.ok (.s (pt 1 0) (.sp (fun q=>?_) (fun _=>?_)))))
 ·exact .st (v:=(pt 1 0)) (by rw[SF q]; kernel_rfl) (.s2 (A.v Value.nilFunc) (.nn))
 refine .sp (fun r=>?_) (fun _=>?_)
 ·refine .st (v:=(pt 1 1)) (by rw[SF r]; kernel_rfl) (.s2 (sV 97 [] []) (.dC r7 r7 (.cl ((aK CX).trans (M8 ..)) (.s ((pt 3 0),[bx (ae a),aJ,bx [(pt 1 0)],bx (ae a)]) (.s (im [[(uA 1)]] true) (.bd (g:=fun (y:List UInt8)=>((bU 4 0 y.length false),[bx (ae a),aJ,bx [(pt 1 0)],bx (ae a),aD.row false 1 (y.map c8)])) (k9 cK (l:=[]) (l2:=[(1:UInt8)]) (bz (f:=c8) ([(1:UInt8)]:List UInt8) _ _)) fun t=>.cT r7 (.s (pt 3 1) (.cT r7 (.s (iA a.N) (.bd (o a.N) fun u=>.cl ((aK qd).trans (Gk ..)) (.as (qI C n _ _ _ _  ?_ _ u t))))))))))))
  ·intro i w a8
   exact .un rfl (.cT r7 (.st (v:=(uA (wr .u8 (i)))) (aE (hs:=by kernel_rfl) (hd:=by kernel_rfl) ..) (.gd fun hg=>.st (v:=(im [[(uA (((UInt8.ofNat (Int.toNat (wr .u8 (i)))).toNat:Int)))]] true)) (by rw[fc hg]; kernel_rfl) (.bd (g:=fun (y:List UInt8)=>((bU 4 0 y.length false),[bx (ae a),aJ,bx [(pt 1 0)],bx (ae a),aD.row false 1 (y.map c8)])) (cA cK (l:=w) (l2:=[(UInt8.ofNat (Int.toNat (wr .u8 (i))))]) (b:=4) rfl (by decide) (bz (f:=c8) ([(UInt8.ofNat (Int.toNat (wr .u8 (i))))]:List UInt8) _ _)) fun c=>.cr (.ok (.cr (.ok (.lv (by show br [bx (ae a),aJ,bx [(pt 1 0)],bx (ae a),aD.row false 1 (c.map c8)] (tp [(bU 4 0 c.length false),(iA 0)])=_; first | (simp only[cD,dL,br,bS (H:=[bx (ae a),aJ,bx [(pt 1 0)],bx (ae a),aD.row false 1 (c.map c8)]) (b:=4) (es:=1) (wr:=false) (l:=c) et rfl]; done) | (simp only[cD,jQ,br,bS (H:=[bx (ae a),aJ,bx [(pt 1 0)],bx (ae a),aD.row false 1 (c.map c8)]) (b:=4) (es:=1) (wr:=false) (l:=c) et rfl]; first | done | rfl))))))))))
 refine .sp (fun x=>?_) (fun _=>?_)
 ·refine .st (v:=(pt 1 2)) (by rw[SF x]; kernel_rfl) (.s2 (sV 100 [] []) (.dC r7 r7 (.cl ((aK yG).trans (Hh ..)) (.s ((pt 3 0),[bx (ae a),aJ,bx [(pt 1 0)],bx (ae a)]) (.s ((A.ip (ae a)),[bx (ae a),aJ,bx [(pt 1 0)],aD.dead]) (.cT r7 (.s (im [[(uA 2)]] true) (.s (A.ip [(sA a.S),(im (a.L.map ak) false)]) (.s (sA a.S) (.s (iA ((a.S.size:Int))) (.st (v:=(A.v (.int .u64 (wr .u64 ((a.S.size:Int)))))) (aE (hs:=by kernel_rfl) (hd:=by kernel_rfl) ..) (.s (A.ip [(sA a.S),(im (a.L.map ak) false)]) (.s (sA a.S) (.cT r7 (.bd (g:=fun (y:List UInt8)=>((bU 4 0 y.length false),[bx (ae a),aJ,bx [(pt 1 0)],aD.dead,aD.row false 1 (y.map c8)])) (k9 cK (l:=[]) (l2:=[(2:UInt8)]) (bz (f:=c8) ([(2:UInt8)]:List UInt8) _ _)) fun z=>.cT r7 (.cl ((aK qd).trans (Gk ..)) (.as (qI C n _ _ _ _  ?_ _ (wr .u64 ((a.S.size:Int))) z))))))))))))))))))
  ·intro j a1 a9
   exact .un rfl (.cT r7 (.st (v:=(uA (wr .u8 (j)))) (aE (hs:=by kernel_rfl) (hd:=by kernel_rfl) ..) (.gd fun hg=>.st (v:=(im [[(uA (((UInt8.ofNat (Int.toNat (wr .u8 (j)))).toNat:Int)))]] true)) (by rw[fc hg]; kernel_rfl) (.bd (g:=fun (y:List UInt8)=>((bU 4 0 y.length false),[bx (ae a),aJ,bx [(pt 1 0)],aD.dead,aD.row false 1 (y.map c8)])) (cA cK (l:=a1) (l2:=[(UInt8.ofNat (Int.toNat (wr .u8 (j))))]) (b:=4) rfl (by decide) (bz (f:=c8) ([(UInt8.ofNat (Int.toNat (wr .u8 (j))))]:List UInt8) _ _)) fun a2=>.cr (.ok (.bd (g:=fun (y:List UInt8)=>((bU 4 0 y.length false),[bx (ae a),aJ,bx [(pt 1 0)],aD.dead,aD.row false 1 (y.map c8)])) (cA uP (l:=a2) (l2:=kF a.S) (b:=4) rfl (by decide) (qw ..)) fun d=>.cr (.ok (.lv (by show br [bx (ae a),aJ,bx [(pt 1 0)],aD.dead,aD.row false 1 (d.map c8)] (tp [(bU 4 0 d.length false),(iA 0)])=_; first | (simp only[cD,dL,br,bS (H:=[bx (ae a),aJ,bx [(pt 1 0)],aD.dead,aD.row false 1 (d.map c8)]) (b:=4) (es:=1) (wr:=false) (l:=d) et rfl]; done) | (simp only[cD,jQ,br,bS (H:=[bx (ae a),aJ,bx [(pt 1 0)],aD.dead,aD.row false 1 (d.map c8)]) (b:=4) (es:=1) (wr:=false) (l:=d) et rfl]; first | done | rfl))))))))))
 refine .sp (fun a3=>?_) (fun _=>?_)
 ·refine .st (v:=(pt 1 3)) (by rw[SF a3]; kernel_rfl) (.s2 (sV 101 [] [(pt 2 0)]) (.dC r7 r7 (.cl ((aK Hz).trans (Ji ..)) (.s ((pt 3 0),[bx (ae a),aJ,bx [(pt 1 0)],bx (ae a)]) (.s (im [[(uA 3)]] true) (.bd (g:=fun (y:List UInt8)=>((bU 4 0 y.length false),[bx (ae a),aJ,bx [(pt 1 0)],bx (ae a),aD.row false 1 (y.map c8)])) (k9 cK (l:=[]) (l2:=[(3:UInt8)]) (bz (f:=c8) ([(3:UInt8)]:List UInt8) _ _)) fun a4=>.cT r7 (.s (pt 3 3) (.cT r7 (.s (im (a.L.map ak) false) (.cT r7 (.st (eE (e:=107)) (.cT r7 (.st (v:=(A.v (.int .u64 (wr .u64 ((a.L.length:Int)))))) (aE (hs:=by kernel_rfl) (hd:=by kernel_rfl) ..) (.cl ((aK qd).trans (Gk ..)) (.as (qI C n _ _ _ _  ?_ _ (wr .u64 ((a.L.length:Int))) a4))))))))))))))))
  ·intro k a5 aa
   refine .un rfl (.cT r7 (.st (v:=(uA (wr .u8 (k)))) (aE (hs:=by kernel_rfl) (hd:=by kernel_rfl) ..) (.gd fun hg=>.st (v:=(im [[(uA (((UInt8.ofNat (Int.toNat (wr .u8 (k)))).toNat:Int)))]] true)) (by rw[fc hg]; kernel_rfl) (.bd (g:=fun (y:List UInt8)=>((bU 4 0 y.length false),[bx (ae a),aJ,bx [(pt 1 0)],bx (ae a),aD.row false 1 (y.map c8)])) (cA cK (l:=a5) (l2:=[(UInt8.ofNat (Int.toNat (wr .u8 (k))))]) (b:=4) rfl (by decide) (bz (f:=c8) ([(UInt8.ofNat (Int.toNat (wr .u8 (k))))]:List UInt8) _ _)) fun a6=>.cr (.ok (.s2 (im (a.L.map ak) false) (.st (eE (e:=107)) (.as (Aq C n _ _ _ _ o ([]) a.L ((a.L.length:Int)) a a ?_ _ 0 a6)))))))))
   ·intro h ab ad af ai aj w959 w960 w961 w962
    exact .un rfl (.cT r7 (.cr (.ok (.lv (by show br [w959,w960,w961,w962,aD.row false 1 (h.map c8)] (tp [(bU 4 0 h.length false),(iA 0)])=_; first | (simp only[cD,dL,br,bS (H:=[w959,w960,w961,w962,aD.row false 1 (h.map c8)]) (b:=4) (es:=1) (wr:=false) (l:=h) et rfl]; done) | (simp only[cD,jQ,br,bS (H:=[w959,w960,w961,w962,aD.row false 1 (h.map c8)]) (b:=4) (es:=1) (wr:=false) (l:=h) et rfl]; first | done | rfl))))))
 exact .nn
def Lt (a:ah):Option ((List UInt8)×Int):=Mw az a
def FT (C:OT):Prop:=∀ (a:ah),C 58 [(ag (ae a))]=(Lt a).map fun y=>(tp [(im (y.1.map c8) false),(iA y.2)])
end Go.Proofs.Ytebkhfhcipnfgaa
