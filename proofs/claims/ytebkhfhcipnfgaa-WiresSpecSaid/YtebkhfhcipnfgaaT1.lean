/-
 The program's functions as plain functions: by a tool; each follows the interpreter.
-/
import Derived.Test.YtebkhfhcipnfgaaE
namespace Go.Proofs.Ytebkhfhcipnfgaa
open Go.Proofs.Try (prog)
set_option linter.unusedVariables false
set_option linter.unusedSimpArgs false
set_option maxHeartbeats 4000000
set_option maxRecDepth 100000
set_option linter.defProp false
theorem s5 {p:Prop} (h:p:=by simp only[cP,jA,bC]; first | done | rfl):p:=h
theorem s6 {p:Prop} (h:p:=by simp only[gu,gv]):p:=h
theorem u3 {p:Prop} (h:p:=by simp only[uB,gu,gv,Nat.reduceLT,decide_true]):p:=h
theorem y6 {p:Prop} (h:p:=by simp only[List.map_cons,List.map_nil,cJ]):p:=h
theorem H7 {p:Prop} (h:p:=by simp only[uB,gu,gv,Nat.reduceLT,decide_true,aQ]):p:=h
theorem Te {p:Prop} (h:p:=by simp only[uB,gu,gv,Nat.reduceLT,decide_true,lh]):p:=h
def VW:=@Nat.add_sub_cancel
variable (C:Nat->List A->Option A) (n:Nat) {ρ γ:Type} {φ:ρ->γ->Prop} {kL:R->Option ρ} (kx kg:Nat->St->Option R) (kr:St->Option R) (kp:A->St->Option R)
abbrev OT:=Nat->List A->Option A
abbrev gS:=ByteArray.empty
abbrev sA (s:ByteArray):A:=.v (.string s)
abbrev se:A:=sA gS
abbrev im:=A.imm
abbrev Th:A:=im [] true
abbrev ag:=A.agg
abbrev pt:=A.ptr
abbrev tp:=A.tup
abbrev cf:=A.sl
abbrev bx:=aO.box
abbrev vw (k:Nat) (a b:List A):A:=A.fn (Fn.func k) a b
abbrev S6:aO:=aO.box [(A.imm [] true),(A.imm [] true),(iA 0),(bA false)]
abbrev S5:aO:=aO.box [(A.imm [] true),(iA 0),(iA 0)]
noncomputable abbrev ec (C:Nat->List A->Option A) (n k:Nat):=dI (cx C) (n+k)
noncomputable abbrev ey (C:Nat->List A->Option A) (n k:Nat):=bF (cx C) (n+k)
structure aq where
 Kind:Int
 N:Int
 S:ByteArray
 L:(List aq)
 deriving Inhabited
mutual
def cY:aq->A
 | .mk _ _ _ l=>.imm (bZ l) false
def bZ:List aq->List (List A)
 | []=>[]
 | x :: r=>[(iA x.Kind),(iA x.N),(sA x.S),cY x] :: bZ r
end
def av (x:aq):List A:=[(iA x.Kind),(iA x.N),(sA x.S),cY x]
theorem qU:∀ (l:List aq),bZ l=l.map av
 | []=>by rw[bZ]; rfl
 | x :: r=>by rw[bZ,qU r]; rfl
theorem xk (x:aq):cY x=.imm (x.L.map av) false:=by
 cases x; rw[cY,qU]
abbrev al (x:aq):List A:=[(iA x.Kind),(iA x.N),(sA x.S),.imm (x.L.map av) false]
theorem cJ (x:aq):av x=[(iA x.Kind),(iA x.N),(sA x.S),.imm (x.L.map av) false]:=by
 show [(iA x.Kind),(iA x.N),(sA x.S),cY x]=_
 rw[xk]
theorem dH (o:Option aq):(o.map fun x=>A.ip (av x))=o.map fun x=>A.ip [(iA x.Kind),(iA x.N),(sA x.S),.imm (x.L.map av) false]:=by
 cases o with
 | none=>rfl
 | some x=>exact Ue (fun z=>some (A.ip z)) (cJ x)
theorem wU:nR av:=fun x=>by rw[cJ]; rfl
mutual
theorem rv (L:Nat):∀ (x:aq),A.under L (cY x)=true
 | .mk _ _ _ l=>by rw[cY,A.under]; exact rA L l
theorem rA (L:Nat):∀ (l:List aq),aW L (bZ l)=true
 | []=>by rw[bZ]; rfl
 | x :: r=>by rw[bZ,aW,rA L r]; simp only[bh,A.under,rv L x,UA,Vx]
end
mutual
theorem rj (g:Nat->Nat->Nat->A):∀ (x:aq),cg g (cY x)=cY x
 | .mk _ _ _ l=>by rw[cY,cg,ru g l]
theorem ru (g:Nat->Nat->Nat->A):∀ (l:List aq),cX g (bZ l)=bZ l
 | []=>by rw[bZ]; rfl
 | x :: r=>by rw[bZ,cX,ru g r]; simp only[bc,cg,rj g x]
end
theorem dg:c9 av:=fun L x=>by unfold av; simp only[bh,A.under,rv L x,UA,Vx]
theorem cb:b8 av:=fun g x=>by unfold av; simp only[bc,cg,rj g x]
mutual
theorem qM:∀ (x y:aq),cY x=cY y->x.L=y.L
 | .mk xKind xN xS l,.mk yKind yN yS l'=>fun h=>by
  rw[cY,cY,A.imm.injEq] at h
  exact qR l l' h.1
theorem qR:∀ (l l':List aq),bZ l=bZ l'->l=l'
 | [],[]=>fun _=>rfl
 | [],y :: r=>fun h=>by rw[bZ,bZ] at h; cases h
 | x :: r,[]=>fun h=>by rw[bZ,bZ] at h; cases h
 | x :: r,y :: r'=>fun h=>by
  rw[bZ,bZ,Uj] at h
  have h2:=qR r r' h.2
  have h1:=h.1
  simp only[Uj,A.v.injEq,UQ,US,UM,VF,Vr] at h1
  have h3:=qM x y (by simp[h1])
  rw[h2]
  congr 1
  obtain ⟨xKind,xN,xS,lx⟩:=x; obtain ⟨yKind,yN,yS,ly⟩:=y
  simp_all
end
theorem fT {T:Type} {f:T->List A} {H:ay} {l:List T} {rows:List (List A)} {c:Bool} (h:l.map f=rows):pr H (.imm rows c) f l:=by
 rw[<-h]; exact bN ..
structure az where
 From:Int
 To:Int
 Data:(List UInt8)
 deriving DecidableEq,Inhabited
def ar (x:az):List A:=[(iA x.From),(iA x.To),(im (List.map c8 x.Data) false)]
theorem vb:nR ar:=fun _=>rfl
theorem db:c9 ar:=fun _ _=>by simp only[ar,bh,A.under,cW,lL,lJ,lK,lN,lM,UA,TU,dg]
theorem cq:b8 ar:=fun _ _=>by simp only[ar,cg,bc,cC,jG,eB,lG,lI,lH,cb]
def au (x:(Int×Int)):List A:=[(iA x.1),(iA x.2)]
theorem cO:c9 au:=fun _ _=>by simp only[au,bh,A.under,cW,lL,lJ,lK,lN,lM,UA,TU,dg,db]
theorem cN:b8 au:=fun _ _=>by simp only[au,cg,bc,cC,jG,eB,lG,lI,lH,cb,cq]
theorem rK (g:Nat->Nat->Nat->A) (x:(Int×Int)):bc g (au x)=au x:=cN g x
theorem qJ (L:Nat) (x:(Int×Int)):bh L (au x)=true:=cO L x
structure bo where
 Queue:(List az)
 Apart:(List (Int×Int))
 deriving DecidableEq,Inhabited
def b6 (x:bo):List A:=[(im (List.map ar x.Queue) false),(im (List.map au x.Apart) false)]
theorem fO:c9 b6:=fun _ _=>by simp only[b6,bh,A.under,cW,lL,lJ,lK,lN,lM,UA,TU,dg,db,cO]
theorem fN:b8 b6:=fun _ _=>by simp only[b6,cg,bc,cC,jG,eB,lG,lI,lH,cb,cq,cN]
structure bw where
 No:Int
 Role:Int
 Bar:Int
 Program:Int
 deriving DecidableEq,Inhabited
def aE (x:bw):List A:=[(iA x.No),(iA x.Role),(iA x.Bar),(iA x.Program)]
theorem gC:c9 aE:=fun _ _=>by simp only[aE,bh,A.under,cW,lL,lJ,lK,lN,lM,UA,TU,dg,db,cO,fO]
theorem gB:b8 aE:=fun _ _=>by simp only[aE,cg,bc,cC,jG,eB,lG,lI,lH,cb,cq,cN,fN]
structure bH where
 Cues:(List bw)
 Got:(List Int)
 Did:(List Int)
 deriving DecidableEq,Inhabited
def aC (x:bH):List A:=[(im (List.map aE x.Cues) false),(im (List.map (cI .i64) x.Got) false),(im (List.map (cI .i64) x.Did) false)]
theorem iw:c9 aC:=fun _ _=>by simp only[aC,bh,A.under,cW,lL,lJ,lK,lN,lM,UA,TU,dg,db,cO,fO,gC]
theorem iv:b8 aC:=fun _ _=>by simp only[aC,cg,bc,cC,jG,eB,lG,lI,lH,cb,cq,cN,fN,gB]
structure aw where
 Net:bo
 Ears:(List bH)
 Bar:Int
 deriving DecidableEq,Inhabited
def ak (x:aw):List A:=[(im (List.map ar x.Net.Queue) false),(im (List.map au x.Net.Apart) false),(im (List.map aC x.Ears) false),(iA x.Bar)]
theorem gb:c9 ak:=fun _ _=>by simp only[ak,bh,A.under,cW,lL,lJ,lK,lN,lM,UA,TU,dg,db,cO,fO,gC,iw]
theorem fZ:b8 ak:=fun _ _=>by simp only[ak,cg,bc,cC,jG,eB,lG,lI,lH,cb,cq,cN,fN,gB,iv]
structure bz where
 Role:Int
 Bar:Int
 Program:Int
 deriving DecidableEq,Inhabited
def aA (x:bz):List A:=[(iA x.Role),(iA x.Bar),(iA x.Program)]
theorem gm:c9 aA:=fun _ _=>by simp only[aA,bh,A.under,cW,lL,lJ,lK,lN,lM,UA,TU,dg,db,cO,fO,gC,iw,gb]
theorem gk:b8 aA:=fun _ _=>by simp only[aA,cg,bc,cC,jG,eB,lG,lI,lH,cb,cq,cN,fN,gB,iv,fZ]
structure aP where
 kind:Int
 cue:bw
 report:bz
 deriving DecidableEq,Inhabited
def ax (x:aP):List A:=[(iA x.kind),(iA x.cue.No),(iA x.cue.Role),(iA x.cue.Bar),(iA x.cue.Program),(iA x.report.Role),(iA x.report.Bar),(iA x.report.Program)]
theorem dK:c9 ax:=fun _ _=>by simp only[ax,bh,A.under,cW,lL,lJ,lK,lN,lM,UA,TU,dg,db,cO,fO,gC,iw,gb,gm]
theorem dJ:b8 ax:=fun _ _=>by simp only[ax,cg,bc,cC,jG,eB,lG,lI,lH,cb,cq,cN,fN,gB,iv,fZ,gk]
structure ez where
 rest:(List UInt8)
 deriving DecidableEq,Inhabited
def aZ (x:ez):List A:=[(im (List.map c8 x.rest) false)]
theorem eS:c9 aZ:=fun _ _=>by simp only[aZ,bh,A.under,cW,lL,lJ,lK,lN,lM,UA,TU,dg,db,cO,fO,gC,iw,gb,gm,dK]
theorem eQ:b8 aZ:=fun _ _=>by simp only[aZ,cg,bc,cC,jG,eB,lG,lI,lH,cb,cq,cN,fN,gB,iv,fZ,gk,dJ]
def cp (x:(Bool×Bool×Bool×Bool)):List A:=[(bA x.1),(bA x.2.1),(bA x.2.2.1),(bA x.2.2.2)]
theorem nA:c9 cp:=fun _ _=>by simp only[cp,bh,A.under,cW,lL,lJ,lK,lN,lM,UA,TU,dg,db,cO,fO,gC,iw,gb,gm,dK,eS]
theorem ny:b8 cp:=fun _ _=>by simp only[cp,cg,bc,cC,jG,eB,lG,lI,lH,cb,cq,cN,fN,gB,iv,fZ,gk,dJ,eQ]
theorem xb (g:Nat->Nat->Nat->A) (x:(Bool×Bool×Bool×Bool)):bc g (cp x)=cp x:=ny g x
theorem vB (L:Nat) (x:(Bool×Bool×Bool×Bool)):bh L (cp x)=true:=nA L x
structure cj where
 B:(List UInt8)
 At:Int
 Bad:Bool
 deriving DecidableEq,Inhabited
def aD (x:cj):List A:=[(im (List.map c8 x.B) false),(iA x.At),(bA x.Bad)]
theorem eT:c9 aD:=fun _ _=>by simp only[aD,bh,A.under,cW,lL,lJ,lK,lN,lM,UA,TU,dg,db,cO,fO,gC,iw,gb,gm,dK,eS,nA]
theorem eR:b8 aD:=fun _ _=>by simp only[aD,cg,bc,cC,jG,eB,lG,lI,lH,cb,cq,cN,fN,gB,iv,fZ,gk,dJ,eQ,ny]
theorem xc (g:Nat->Nat->Nat->A) (x:aq):bc g (av x)=av x:=cb g x
theorem vC (L:Nat) (x:aq):bh L (av x)=true:=dg L x
theorem vx (g:Nat->Nat->Nat->A) (x:az):bc g (ar x)=ar x:=cq g x
theorem tZ (L:Nat) (x:az):bh L (ar x)=true:=db L x
theorem Bl (g:Nat->Nat->Nat->A) (x:bo):bc g (b6 x)=b6 x:=fN g x
theorem zD (L:Nat) (x:bo):bh L (b6 x)=true:=fO L x
theorem Bi (g:Nat->Nat->Nat->A) (x:bw):bc g (aE x)=aE x:=gB g x
theorem zB (L:Nat) (x:bw):bh L (aE x)=true:=gC L x
theorem Bj (g:Nat->Nat->Nat->A) (x:bH):bc g (aC x)=aC x:=iv g x
theorem zC (L:Nat) (x:bH):bh L (aC x)=true:=iw L x
theorem xd (g:Nat->Nat->Nat->A) (x:aw):bc g (ak x)=ak x:=fZ g x
theorem vD (L:Nat) (x:aw):bh L (ak x)=true:=gb L x
theorem vy (g:Nat->Nat->Nat->A) (x:bz):bc g (aA x)=aA x:=gk g x
theorem ua (L:Nat) (x:bz):bh L (aA x)=true:=gm L x
theorem nz (g:Nat->Nat->Nat->A) (x:aP):bc g (ax x)=ax x:=dJ g x
theorem mX (L:Nat) (x:aP):bh L (ax x)=true:=dK L x
theorem oh (g:Nat->Nat->Nat->A) (x:ez):bc g (aZ x)=aZ x:=eQ g x
theorem nB (L:Nat) (x:ez):bh L (aZ x)=true:=eS L x
theorem iY (g:Nat->Nat->Nat->A) (x:cj):bc g (aD x)=aD x:=eR g x
theorem iQ (L:Nat) (x:cj):bh L (aD x)=true:=eT L x
theorem dZ:wA prog 105 105 107 4 56 [(iA 0),(iA 0),se,Th] av:=⟨r8,r8,r8,r8,rfl,by decide,by decide,r8,fun _=>rfl,wU⟩
theorem cQ:wA prog 46 46 5 1 1 [(uA 0)] c8:=⟨r8,r8,r8,r8,rfl,by decide,by decide,r8,fun _=>rfl,E2⟩
theorem tB:wA prog 46 9 5 1 1 [(uA 0)] c8:=⟨r8,r8,r8,r8,rfl,by decide,by decide,r8,fun _=>rfl,E2⟩
theorem tA:wA prog 22 22 48 3 40 [(iA 0),(iA 0),Th] ar:=⟨r8,r8,r8,r8,rfl,by decide,by decide,r8,fun _=>rfl,vb⟩
theorem CP:wA prog 50 50 3 1 8 [(iA 0)] (cI .i64):=⟨r8,r8,r8,r8,rfl,by decide,by decide,r8,fun _=>rfl,(Ix _)⟩
abbrev TJ {T:Type} (C:OT) (n k:Nat) (args:List A) (X:Option T) (f:T->A):Prop:=J (fun (o:R) y=>∃ v,o.1=.ret v/\bC o.2 v=f y) (aF (cx C) (ec C n 8) (ey C n 8) (n+8) k args [] 0) some X some
theorem nI {P:Nat->Prop} (h0:P 0) (hs:∀ m,P m->P (m+1)) (m:Nat):P m:=by
 induction m with
 | zero=>exact h0
 | succ m ih=>exact hs m ih
section
variable {ρ γ σ α τ:Type} {φ:ρ->γ->Prop} {kL:σ->Option ρ} {K:α->Option γ} {R:Option α} {k:τ->Option σ}
theorem J.Kl {X:Option (List A)} {F:A->A->A->A->A->A->A->A->A->A->A->A->A->Option τ} (h:J φ (((X).bind fun l=>bf l fun a l=>bf l fun b l=>bf l fun c l=>bf l fun d l=>bf l fun e l=>bf l fun f l=>bf l fun g l=>bf l fun h l=>bf l fun i l=>bf l fun j l=>bf l fun m l=>bf l fun n l=>bf l fun o l=>F a b c d e f g h i j m n o).bind k) kL R K):J φ ((X).bind fun l=>bf l fun a l=>bf l fun b l=>bf l fun c l=>bf l fun d l=>bf l fun e l=>bf l fun f l=>bf l fun g l=>bf l fun h l=>bf l fun i l=>bf l fun j l=>bf l fun m l=>bf l fun n l=>bf l fun o l=>(F a b c d e f g h i j m n o).bind k) kL R K:=by simpa only [T1,iK] using h
theorem J.OY {X:Option (List A)} {F:A->A->A->A->A->A->A->A->A->A->Option τ} (h:J φ (((X).bind fun l=>bf l fun a l=>bf l fun b l=>bf l fun c l=>bf l fun d l=>bf l fun e l=>bf l fun f l=>bf l fun g l=>bf l fun h l=>bf l fun i l=>bf l fun j l=>F a b c d e f g h i j).bind k) kL R K):J φ ((X).bind fun l=>bf l fun a l=>bf l fun b l=>bf l fun c l=>bf l fun d l=>bf l fun e l=>bf l fun f l=>bf l fun g l=>bf l fun h l=>bf l fun i l=>bf l fun j l=>(F a b c d e f g h i j).bind k) kL R K:=by simpa only [T1,iK] using h
theorem J.Ce {X:Option (List A)} {Y:A->A->A->A->A->A->A->A->A->A->A->A->A->A->A->A->A->A->A->A->A->A->A->A->A->A->A->A->A->A->A->Option (List A)} {Z:A->A->A->A->A->A->A->A->A->A->A->A->A->A->A->A->A->A->A->A->A->A->A->A->A->A->A->A->A->A->A->A->Option (List A)} {F:A->A->A->A->A->A->A->A->A->A->A->A->A->A->A->A->A->A->A->A->A->A->A->A->A->A->A->A->A->A->A->A->A->Option τ} (h:J φ (((X).bind fun l=>bf l fun a l=>bf l fun b l=>bf l fun c l=>bf l fun d l=>bf l fun e l=>bf l fun f l=>bf l fun g l=>bf l fun h l=>bf l fun i l=>bf l fun j l=>bf l fun m l=>bf l fun n l=>bf l fun o l=>bf l fun p l=>bf l fun q l=>bf l fun r l=>bf l fun s l=>bf l fun t l=>bf l fun u l=>bf l fun v l=>bf l fun w l=>bf l fun aa l=>bf l fun ab l=>bf l fun ac l=>bf l fun ad l=>bf l fun ae l=>bf l fun af l=>bf l fun ag l=>bf l fun ah l=>bf l fun ai l=>bf l fun aj l=>(Y a b c d e f g h i j m n o p q r s t u v w aa ab ac ad ae af ag ah ai aj).bind fun l=>bf l fun ba l=>(Z a b c d e f g h i j m n o p q r s t u v w aa ab ac ad ae af ag ah ai aj ba).bind fun l=>bf l fun bb l=>F a b c d e f g h i j m n o p q r s t u v w aa ab ac ad ae af ag ah ai aj ba bb).bind k) kL R K):J φ ((X).bind fun l=>bf l fun a l=>bf l fun b l=>bf l fun c l=>bf l fun d l=>bf l fun e l=>bf l fun f l=>bf l fun g l=>bf l fun h l=>bf l fun i l=>bf l fun j l=>bf l fun m l=>bf l fun n l=>bf l fun o l=>bf l fun p l=>bf l fun q l=>bf l fun r l=>bf l fun s l=>bf l fun t l=>bf l fun u l=>bf l fun v l=>bf l fun w l=>bf l fun aa l=>bf l fun ab l=>bf l fun ac l=>bf l fun ad l=>bf l fun ae l=>bf l fun af l=>bf l fun ag l=>bf l fun ah l=>bf l fun ai l=>bf l fun aj l=>(Y a b c d e f g h i j m n o p q r s t u v w aa ab ac ad ae af ag ah ai aj).bind fun l=>bf l fun ba l=>(Z a b c d e f g h i j m n o p q r s t u v w aa ab ac ad ae af ag ah ai aj ba).bind fun l=>bf l fun bb l=>(F a b c d e f g h i j m n o p q r s t u v w aa ab ac ad ae af ag ah ai aj ba bb).bind k) kL R K:=by simpa only [T1,iK] using h
theorem J.Hd {X:Option (List A)} {Y:A->A->A->A->A->A->A->A->A->A->A->A->A->A->A->A->A->Option (List A)} {F:A->A->A->A->A->A->A->A->A->A->A->A->A->A->A->A->A->A->Option τ} (h:J φ (((X).bind fun l=>bf l fun a l=>bf l fun b l=>bf l fun c l=>bf l fun d l=>bf l fun e l=>bf l fun f l=>bf l fun g l=>bf l fun h l=>bf l fun i l=>bf l fun j l=>bf l fun m l=>bf l fun n l=>bf l fun o l=>bf l fun p l=>bf l fun q l=>bf l fun r l=>bf l fun s l=>(Y a b c d e f g h i j m n o p q r s).bind fun l=>bf l fun t l=>F a b c d e f g h i j m n o p q r s t).bind k) kL R K):J φ ((X).bind fun l=>bf l fun a l=>bf l fun b l=>bf l fun c l=>bf l fun d l=>bf l fun e l=>bf l fun f l=>bf l fun g l=>bf l fun h l=>bf l fun i l=>bf l fun j l=>bf l fun m l=>bf l fun n l=>bf l fun o l=>bf l fun p l=>bf l fun q l=>bf l fun r l=>bf l fun s l=>(Y a b c d e f g h i j m n o p q r s).bind fun l=>bf l fun t l=>(F a b c d e f g h i j m n o p q r s t).bind k) kL R K:=by simpa only [T1,iK] using h
theorem J.Hc {X:Option (List A)} {Y:A->A->A->A->A->A->A->A->A->A->A->A->Option (List A)} {F:A->A->A->A->A->A->A->A->A->A->A->A->A->Option τ} (h:J φ (((X).bind fun l=>bf l fun a l=>bf l fun b l=>bf l fun c l=>bf l fun d l=>bf l fun e l=>bf l fun f l=>bf l fun g l=>bf l fun h l=>bf l fun i l=>bf l fun j l=>bf l fun m l=>bf l fun n l=>(Y a b c d e f g h i j m n).bind fun l=>bf l fun o l=>F a b c d e f g h i j m n o).bind k) kL R K):J φ ((X).bind fun l=>bf l fun a l=>bf l fun b l=>bf l fun c l=>bf l fun d l=>bf l fun e l=>bf l fun f l=>bf l fun g l=>bf l fun h l=>bf l fun i l=>bf l fun j l=>bf l fun m l=>bf l fun n l=>(Y a b c d e f g h i j m n).bind fun l=>bf l fun o l=>(F a b c d e f g h i j m n o).bind k) kL R K:=by simpa only [T1,iK] using h
theorem J.Kk {X:Option (List A)} {F:A->A->A->A->A->A->A->A->A->A->A->A->Option τ} (h:J φ (((X).bind fun l=>bf l fun a l=>bf l fun b l=>bf l fun c l=>bf l fun d l=>bf l fun e l=>bf l fun f l=>bf l fun g l=>bf l fun h l=>bf l fun i l=>bf l fun j l=>bf l fun m l=>bf l fun n l=>F a b c d e f g h i j m n).bind k) kL R K):J φ ((X).bind fun l=>bf l fun a l=>bf l fun b l=>bf l fun c l=>bf l fun d l=>bf l fun e l=>bf l fun f l=>bf l fun g l=>bf l fun h l=>bf l fun i l=>bf l fun j l=>bf l fun m l=>bf l fun n l=>(F a b c d e f g h i j m n).bind k) kL R K:=by simpa only [T1,iK] using h
theorem J.SX {X:Option (List A)} {F:A->A->A->A->A->Option τ} (h:J φ (((X).bind fun l=>bf l fun a l=>bf l fun b l=>bf l fun c l=>bf l fun d l=>bf l fun e l=>F a b c d e).bind k) kL R K):J φ ((X).bind fun l=>bf l fun a l=>bf l fun b l=>bf l fun c l=>bf l fun d l=>bf l fun e l=>(F a b c d e).bind k) kL R K:=by simpa only [T1,iK] using h
theorem J.SW {X:Option (List A)} {F:A->A->Option τ} (h:J φ (((X).bind fun l=>bf l fun a l=>bf l fun b l=>F a b).bind k) kL R K):J φ ((X).bind fun l=>bf l fun a l=>bf l fun b l=>(F a b).bind k) kL R K:=by simpa only [T1,iK] using h
end
theorem jA:b8 av/\b8 ar/\b8 au/\b8 b6/\b8 aE/\b8 aC/\b8 ak/\b8 aA/\b8 ax/\b8 aZ/\b8 cp/\b8 aD/\(∀ (g:Nat->Nat->Nat->A) (x:aq),bc g (av x)=av x)/\(∀ (g:Nat->Nat->Nat->A) (x:az),bc g (ar x)=ar x)/\(∀ (g:Nat->Nat->Nat->A) (x:(Int×Int)),bc g (au x)=au x)/\(∀ (g:Nat->Nat->Nat->A) (x:bo),bc g (b6 x)=b6 x)/\(∀ (g:Nat->Nat->Nat->A) (x:bw),bc g (aE x)=aE x)/\(∀ (g:Nat->Nat->Nat->A) (x:bH),bc g (aC x)=aC x)/\(∀ (g:Nat->Nat->Nat->A) (x:aw),bc g (ak x)=ak x)/\(∀ (g:Nat->Nat->Nat->A) (x:bz),bc g (aA x)=aA x)/\(∀ (g:Nat->Nat->Nat->A) (x:aP),bc g (ax x)=ax x)/\(∀ (g:Nat->Nat->Nat->A) (x:ez),bc g (aZ x)=aZ x)/\(∀ (g:Nat->Nat->Nat->A) (x:(Bool×Bool×Bool×Bool)),bc g (cp x)=cp x)/\(∀ (g:Nat->Nat->Nat->A) (x:cj),bc g (aD x)=aD x)/\True:=⟨cb,cq,cN,fN,gB,iv,fZ,gk,dJ,eQ,ny,eR,xc,vx,rK,Bl,Bi,Bj,xd,vy,nz,oh,xb,iY,trivial⟩
theorem eu:(b8 av/\b8 ar/\b8 au/\b8 b6/\b8 aE/\b8 aC/\b8 ak/\b8 aA/\b8 ax/\b8 aZ/\b8 cp/\b8 aD/\(∀ (g:Nat->Nat->Nat->A) (x:aq),bc g (av x)=av x)/\(∀ (g:Nat->Nat->Nat->A) (x:az),bc g (ar x)=ar x)/\(∀ (g:Nat->Nat->Nat->A) (x:(Int×Int)),bc g (au x)=au x)/\(∀ (g:Nat->Nat->Nat->A) (x:bo),bc g (b6 x)=b6 x)/\(∀ (g:Nat->Nat->Nat->A) (x:bw),bc g (aE x)=aE x)/\(∀ (g:Nat->Nat->Nat->A) (x:bH),bc g (aC x)=aC x)/\(∀ (g:Nat->Nat->Nat->A) (x:aw),bc g (ak x)=ak x)/\(∀ (g:Nat->Nat->Nat->A) (x:bz),bc g (aA x)=aA x)/\(∀ (g:Nat->Nat->Nat->A) (x:aP),bc g (ax x)=ax x)/\(∀ (g:Nat->Nat->Nat->A) (x:ez),bc g (aZ x)=aZ x)/\(∀ (g:Nat->Nat->Nat->A) (x:(Bool×Bool×Bool×Bool)),bc g (cp x)=cp x)/\(∀ (g:Nat->Nat->Nat->A) (x:cj),bc g (aD x)=aD x)/\True)/\(∀ {T U:Type} (f:T->U) (a:T) (l:List T),(a :: l).map f=f a :: l.map f)/\(∀ {T U:Type} (f:T->U),[].map f=[]):=⟨jA,fun _ _ _=>rfl,fun _=>rfl⟩
theorem gv:c9 av/\c9 ar/\c9 au/\c9 b6/\c9 aE/\c9 aC/\c9 ak/\c9 aA/\c9 ax/\c9 aZ/\c9 cp/\c9 aD/\(∀ (L:Nat) (x:aq),bh L (av x)=true)/\(∀ (L:Nat) (x:az),bh L (ar x)=true)/\(∀ (L:Nat) (x:(Int×Int)),bh L (au x)=true)/\(∀ (L:Nat) (x:bo),bh L (b6 x)=true)/\(∀ (L:Nat) (x:bw),bh L (aE x)=true)/\(∀ (L:Nat) (x:bH),bh L (aC x)=true)/\(∀ (L:Nat) (x:aw),bh L (ak x)=true)/\(∀ (L:Nat) (x:bz),bh L (aA x)=true)/\(∀ (L:Nat) (x:aP),bh L (ax x)=true)/\(∀ (L:Nat) (x:ez),bh L (aZ x)=true)/\(∀ (L:Nat) (x:(Bool×Bool×Bool×Bool)),bh L (cp x)=true)/\(∀ (L:Nat) (x:cj),bh L (aD x)=true)/\True:=⟨dg,db,cO,fO,gC,iw,gb,gm,dK,eS,nA,eT,vC,tZ,qJ,zD,zB,zC,vD,ua,mX,nB,vB,iQ,trivial⟩
def zP {X Y:Type} [DecidableEq X]:List (X×Y)->X->Option Y
 | [],_=>none
 | e :: t,z=>if e.1=z then some e.2 else zP t z
theorem oA {X Y:Type} [DecidableEq X]:∀ {t:List (X×Y)} {z:X} {y:Y},zP t z=some y->(z,y)∈t
 | [],_,_,h=>by cases h
 | e :: t,z,y,h=>by
  unfold zP at h
  split at h
  ·rename_i he
   cases h; subst he
   exact Vo ..
  ·exact U3 _ (oA h)
noncomputable def MN (C:OT) (N:Nat) (k:Nat) (args:List A):Option A:=match dI (cx C) N k args [] 0 with
 | some (.ret x,H)=>some (bC H x)
 | _=>none
noncomputable def Cn:Nat->Nat->List A->Option A
 | 0=>fun _ _=>none
 | m+1=>MN (Cn m) 1000
def KQ (n:Nat) (a:Int) (b:Int) (a2:Int):Option Bool:=
 (bif (decide (b<=a)) then (some (decide (a<=a2))) else (some false)).bind fun c=>some c
theorem Q9 (C:OT) (n:Nat) (a:Int) (b:Int) (a2:Int):TJ C n 30 [(iA a),(iA b),(iA a2)] (KQ n a b a2) (fun y=>(bA y)):=by
 refine .lp (RY ..) ?_
 unfold KQ
 refine .st (dE ..) (.bg (fun t (y:Bool)=>∃ c d e:A,t=[(bA y),c,d,e]) ?_ ?_)
 ·refine .bi ?_ ?_
  ·exact .st (dE ..) (.lg ⟨_,_,_,rfl⟩)
  exact .lg ⟨_,_,_,rfl⟩
 rintro _ f ⟨c,d,e,rfl⟩
 exact .u4 (.lv rfl)
def xO (a:Int) (b:Int) (a2:Int):Option Bool:=KQ aB a b a2
def p0 (C:OT):Prop:=∀ (a:Int) (b:Int) (a2:Int),C 30 [(iA a),(iA b),(iA a2)]=(xO a b a2).map fun y=>(bA y)
def Mr (n:Nat)  : Option bo:=
 some ((bo.mk ([]) ([])))
theorem Ra (C:OT) (n:Nat):TJ C n 31 [] (Mr n ) (fun y=>(ag [(im (y.Queue.map ar) false),(im (y.Apart.map au) false)])):=by
 refine .lp (RZ ..) ?_
 unfold Mr
 exact .s ((pt 0 0),[bx [Th,Th]]) (.s (ag [Th,Th]) (.s [bx [Th,Th]] (.s (ag [Th,Th]) (.lv s5))))
def Mv  : Option bo:=Mr aB
def EK (C:OT):Prop:=∀ (_:Unit),C 31 []=(Mv ).map fun y=>(ag [(im (y.Queue.map ar) false),(im (y.Apart.map au) false)])
def KC (n:Nat) (a:Int):Option (aw×Int):=
 (xO a 1 12).bind fun b=>bif (!b) then (some (((aw.mk ((bo.mk ([]) ([]))) ([]) 0),1))) else ((Mv ).bind fun c=>(HE 72 a ((bH.mk ([]) ([]) ([])))).bind fun d=>some (((aw.mk c d 0),0)))
theorem QV (C:OT) (n:Nat) (d:p0 C) (h:EK C) (b:Int):TJ C n 11 [(iA b)] (KC n b) (fun y=>(tp [(ag (ak y.1)),(iA y.2)])):=by
 refine .lp (RK ..) ?_
 unfold KC
 refine .s ((pt 0 0),[bx [Th,Th,Th,(iA 0)]]) (.bd (d b 1 12) fun i=>.s (bA (!i)) (.cd ?_ ?_))
 ·exact .s (ag [Th,Th,Th,(iA 0)]) (.s [bx [Th,Th,Th,(iA 0)]] (.s (ag [Th,Th,Th,(iA 0)]) (.lv s5)))
 exact .bd (h ()) fun a=>.bd (g:=fun (y:List bH)=>((im (y.map aC) false),[bx [Th,Th,Th,(iA 0)]])) (rC (e:=55) (es:=3) (f:=aC) (z:=(bH.mk ([]) ([]) ([]))) (z':=[Th,Th,Th]) r8 r8 r8 r8 rfl (by decide) (fun _=>rfl)) fun c=>.s (ag [(im (a.Queue.map ar) false),(im (a.Apart.map au) false),(im (c.map aC) false),(iA 0)]) (.s [bx [(im (a.Queue.map ar) false),(im (a.Apart.map au) false),(im (c.map aC) false),(iA 0)]] (.s (ag [(im (a.Queue.map ar) false),(im (a.Apart.map au) false),(im (c.map aC) false),(iA 0)]) (.lv s5)))
def Eu (a:Int):Option (aw×Int):=KC aB a
def Ag (C:OT):Prop:=∀ (a:Int),C 11 [(iA a)]=(Eu a).map fun y=>(tp [(ag (ak y.1)),(iA y.2)])
def Mt (n:Nat) (a:Int) (b:Int):Option (Int×Int):=
 some (((if b<a then b else a),(if a<b then b else a)))
theorem Rz (C:OT) (n:Nat) (a:Int) (b:Int):TJ C n 72 [(iA a),(iA b)] (Mt n a b) (fun y=>(ag [(iA y.1),(iA y.2)])):=by
 refine .lp (So ..) ?_
 unfold Mt
 exact .s ((pt 0 0),[bx [(iA 0),(iA 0)]]) (.s (iA ((if b<a then b else a))) (.s (iA ((if a<b then b else a))) (.s (ag [(iA ((if b<a then b else a))),(iA ((if a<b then b else a)))]) (.s [bx [(iA ((if b<a then b else a))),(iA ((if a<b then b else a)))]] (.s (ag [(iA ((if b<a then b else a))),(iA ((if a<b then b else a)))]) (.lv rfl))))))
def Lh (a:Int) (b:Int):Option (Int×Int):=Mt aB a b
def EU (C:OT):Prop:=∀ (a:Int) (b:Int),C 72 [(iA a),(iA b)]=(Lh a b).map fun y=>(ag [(iA y.1),(iA y.2)])
def K7 (n:Nat) (a:(Int×Int)):Option Bool:=
 (bif (decide (0<=a.1)) then (some (decide (a.1<a.2))) else (some false)).bind fun b=>(bif b then (some (decide (a.2<24))) else (some false)).bind fun c=>some c
theorem Ru (C:OT) (n:Nat) (a:(Int×Int)):TJ C n 64 [(ag [(iA a.1),(iA a.2)])] (K7 n a) (fun y=>(bA y)):=by
 refine .lp (Si ..) ?_
 unfold K7
 refine .s ((pt 0 0),[bx [(iA a.1),(iA a.2)]]) (.s (pt 0 0) (.s (iA a.1) (.st (ef ..) (.bg (fun t (y:Bool)=>∃ b c d e f:A,t=[(bA y),b,c,d,e,f]) ?_ ?_))))
 ·refine .bi ?_ ?_
  ·exact .s (pt 0 0) (.s (iA a.1) (.s (pt 0 1) (.s (iA a.2) (.st (aY ..) (.lg ⟨_,_,_,_,_,rfl⟩)))))
  exact .lg ⟨_,_,_,_,_,rfl⟩
 rintro _ j ⟨b,c,d,e,f,rfl⟩
 refine .u4 (.uc (.uc (.bg (fun t (y:Bool)=>∃ g h i:A,t=[(bA y),g,h,i]) ?_ ?_)))
 ·refine .bi ?_ ?_
  ·exact .s (pt 0 1) (.s (iA a.2) (.st (aY ..) (.lg ⟨_,_,_,rfl⟩)))
  exact .lg ⟨_,_,_,rfl⟩
 rintro _ k ⟨g,h,i,rfl⟩
 exact .u4 (.lv rfl)
def Hv (a:(Int×Int)):Option Bool:=K7 aB a
def xU (C:OT):Prop:=∀ (a:(Int×Int)),C 64 [(ag [(iA a.1),(iA a.2)])]=(Hv a).map fun y=>(bA y)
def K1 (n:Nat) (a:az):Option Bool:=
 (Lh a.From a.To).bind fun b=>(Hv b).bind fun c=>(bif c then (some (decide (((a.Data.length:Int))<=1048576))) else (some false)).bind fun d=>some d
theorem Rm (C:OT) (n:Nat) (g:xU C) (h:EU C) (a:az):TJ C n 56 [(ag (ar a))] (K1 n a) (fun y=>(bA y)):=by
 refine .lp (Sb ..) ?_
 unfold K1
 refine .s ((pt 0 0),[bx (ar a)]) (.s2 (iA a.From) (.s2 (iA a.To) (.bd (h a.From a.To) fun i=>.bd (g i) fun j=>.bg (fun t (y:Bool)=>∃ b c d f:A,t=[(bA y),b,c,d,f]) ?_ ?_)))
 ·refine .bi ?_ ?_
  ·exact .s (pt 0 2) (.s (im (a.Data.map c8) false) (.st (dT (e:=5)) (.st (dE ..) (.lg ⟨_,_,_,_,rfl⟩))))
  exact .lg ⟨_,_,_,_,rfl⟩
 rintro _ k ⟨b,c,d,f,rfl⟩
 exact .u4 (.uc (.lv rfl))
def Hs (a:az):Option Bool:=K1 aB a
def As (C:OT):Prop:=∀ (a:az),C 56 [(ag (ar a))]=(Hs a).map fun y=>(bA y)
def K6 (n:Nat) (a:az):Option Bool:=
 (Hs a).bind fun b=>some (!b)
theorem Rt (C:OT) (n:Nat) (b:As C) (a:az):TJ C n 63 [(ag (ar a))] (K6 n a) (fun y=>(bA y)):=by
 refine .lp (Sh ..) ?_
 unfold K6
 exact .s ((pt 0 0),[bx (ar a)]) (.s (ag (ar a)) (.bd (g:=fun (y:Bool)=>(bA y)) (by simp only[cP,eu]; exact b a) fun c=>.s (bA (!c)) (.lv rfl)))
def HZ (a:az):Option Bool:=K6 aB a
def Au (C:OT):Prop:=∀ (a:az),C 63 [(ag (ar a))]=(HZ a).map fun y=>(bA y)
def fb (n:Nat) (b:(List az)) (c:Int):Nat->Int->Option ((Int)⊕(Unit))
 | 0,_=>none
 | m+1,a=>bif (decide (a<c)) then ((bK b a).bind fun d=>(HZ d).bind fun e=>bif e then (some ((Sum.inl a))) else (fb n b c m (wr .i64 (a+1)))) else (some ((Sum.inr (()))))
theorem uQ (l:Au C) {w24:A} (h:(List az)) (i:Int) {K:((Int)⊕(Unit))->Option γ} (o:∀ (j:Int) (a:A) (b:A) (c:A) (d:A),J φ (kr (St.mk [(0,a),(1,b),(4,(iA j)),(7,c),(8,d)] [])) kL (K (Sum.inl j)) some) (p:∀ (a:A) (b:A) (q:A) (c:A) (d:A),J φ (kx 0 (St.mk [(0,a),(1,b),(4,q),(7,c),(8,d)] [])) kL (K (Sum.inr (()))) some) :
  ∀ (m:Nat) (f:Int),J φ (aK (cx C) (ec C n 8) (ey C n 8) (n+8) 88 0 0 0 kx kg kr kp m (St.mk [(0,(im (h.map ar) false)),(1,(vw 63 [] [])),(4,w24),(7,(iA i)),(8,(iA f))] [])) kL (fb n h i m f) K:=by
  refine nI (fun _=>.nn) fun m ih f=>.lp (I3 ..) ?_
  unfold fb
  refine .st (aY ..) (.cd ?_ ?_)
  ·refine .bd (eX (e:=48) (es:=3)) fun k=>.s (ag (ar k)) (.dO r8 r8 (.bd (g:=fun (y:Bool)=>(bA y)) (by simp only[UK,Uc,Uy,cP,eu]; exact l k) fun r=>.cd ?_ ?_))
   ·exact .ex (o _ _ _ _ _)
   refine .st (aH ..) (.s [] (.cT r8 ?_))
   exact ih _
  exact .ex (p _ _ _ _ _)
def te (n:Nat) (a:(List az)):Option Int:=
 (fb n a ((a.length:Int)) (n+8) 0).bind fun Lp=>match Lp with | (Sum.inl b)=>some b | (Sum.inr _)=>some (-1)
theorem FX (C:OT) (n:Nat) (b:Au C) (a:(List az)):TJ C n 88 [(im (a.map ar) false),(vw 63 [] [])] (te n a) (fun y=>(iA y)):=by
 refine .lp (Sw ..) ?_
 unfold te
 refine .st (dT (e:=48)) (.as (uQ C n _ _ _ _ b a ((a.length:Int)) ?_ ?_ _ 0))
 ·intro c d f g h
  exact .un rfl (.lv rfl)
 ·intro i j k l o
  exact .un rfl (.cT r8 (.lv rfl))
def tf (a:(List az)):Option Int:=te aB a
def uL (C:OT):Prop:=∀ (a:(List az)),C 88 [(im (a.map ar) false),(vw 63 [] [])]=(tf a).map fun y=>(iA y)
def tc (n:Nat) (a:(List az)):Option Bool:=
 (tf a).bind fun b=>some (decide (0<=b))
theorem FW (C:OT) (n:Nat) (h88_63:uL C) (a:(List az)):TJ C n 62 [(im (a.map ar) false),(vw 63 [] [])] (tc n a) (fun y=>(bA y)):=by
 refine .lp (Sg ..) ?_
 unfold tc
 exact .bd (g:=fun (y:Int)=>(iA y)) (by simp only[cP,eu]; exact h88_63 a) fun b=>.st (ef ..) (.lv rfl)
def pY (a:(List az)):Option Bool:=tc aB a
def uK (C:OT):Prop:=∀ (a:(List az)),C 62 [(im (a.map ar) false),(vw 63 [] [])]=(pY a).map fun y=>(bA y)
def CE (n:Nat) (a:Int):Option Bool:=
 some (a != a)
theorem MC (C:OT) (n:Nat) (a:Int):TJ C n 106 [(iA a)] (CE n a) (fun y=>(bA y)):=by
 refine .lp (MU ..) ?_
 unfold CE
 exact .st (aI ..) (.lv rfl)
def uI (a:Int):Option Bool:=CE aB a
def tg (C:OT):Prop:=∀ (a:Int),C 106 [(iA a)]=(uI a).map fun y=>(bA y)
def lh (a:(List az)) (b:(List (Int×Int))):aO:=bx [(im (a.map ar) false),(im (b.map au) false)]
def fH (n:Nat) (e:(List Int)) (f:Int) (c:Int) (d:Int):Nat->Int->Option ((Int)⊕(Unit))
 | 0,_=>none
 | m+1,a=>bif (decide (a<f)) then ((bK e a).bind fun b=>bif (decide (2<=a)) then (some ((Sum.inl 1))) else (bif decide (a=0) then (((uI b).bind fun k=>(uI c).bind fun g=>bif k then (bif g then (some 0) else (some (-1))) else (bif g then (some 1) else (bif (decide (b<c)) then (some (-1)) else (bif (decide (c<b)) then (some 1) else (some 0))))).bind fun h=>bif (h != 0) then (some ((Sum.inl h))) else (fH n e f c d m (wr .i64 (a+1)))) else bif decide (a=1) then (((uI b).bind fun l=>(uI d).bind fun i=>bif l then (bif i then (some 0) else (some (-1))) else (bif i then (some 1) else (bif (decide (b<d)) then (some (-1)) else (bif (decide (d<b)) then (some 1) else (some 0))))).bind fun j=>bif (j != 0) then (some ((Sum.inl j))) else (fH n e f c d m (wr .i64 (a+1)))) else none)) else (some ((Sum.inr (()))))
theorem AI (c:tg C) {w227 w228:A} {w229:aO} (k:(List Int)) (l:Int) (a:Int) (b:Int) {K:((Int)⊕(Unit))->Option γ} (d:∀ (o:Int) (p:A) (q:A) (f:A) (g:A) (h:A) (q1:aO),J φ (kr (St.mk [(0,p),(1,q),(4,(iA o)),(9,f),(10,g),(11,h)] [w229,q1])) kL (K (Sum.inl o)) some) (r:∀ (u:A) (f:A) (g:A) (h:A),J φ (kx 0 (St.mk [(0,w227),(1,(cf 1 0 2 true)),(4,u),(9,f),(10,g),(11,h)] [w229,aO.row true 1 [[(iA a)],[(iA b)]]])) kL (K (Sum.inr (()))) some) :
  ∀ (m:Nat) (i:Int),J φ (aK (cx C) (ec C n 7) (ey C n 7) (n+7) 65 0 0 2 kx kg kr kp m (St.mk [(0,w227),(1,(cf 1 0 2 true)),(4,w228),(9,(im (k.map (cI .i64)) true)),(10,(iA l)),(11,(iA i))] [w229,aO.row true 1 [[(iA a)],[(iA b)]]])) kL (fH n k l a b m i) K:=by
  refine nI (fun _=>.nn) fun m ih i=>.lp (I1 ..) ?_
  unfold fH
  refine .st (aY ..) (.cd ?_ ?_)
  ·refine .bd (eX (e:=3) (es:=1)) fun j=>.s (iA j) (.s (iA 2) (.st (ef ..) (.cd ?_ ?_)))
   ·exact .ex (d _ _ _ _ _ _ _)
   refine .sp (fun w=>?_) (fun _=>?_)
   ·refine .st (v:=(A.ep 1 0 0)) (by rw[Tv w]; kernel_rfl) (.s (iA a) (.bg (fun (t:Out×ay) (y:Int)=>t=(Out.ret (iA y),[w229,aO.row true 1 [[(iA a)],[(iA b)]]])) ?_ ?_))
    ·refine .lp ((aV Fs).trans (Pu ..)) (.bd (c j) fun z=>.bd (c a) fun a0=>.cd ?_ ?_)
     ·refine .cd ?_ ?_
      ·exact .lg rfl
      exact .lg rfl
     refine .cd ?_ ?_
     ·exact .lg rfl
     refine .st (aY ..) (.cd ?_ ?_)
     ·exact .lg rfl
     refine .st (cM ..) (.cd ?_ ?_)
     ·exact .lg rfl
     exact .lg rfl
    rintro _ a1 rfl
    refine .ok (.st (aI ..) (.cd ?_ ?_))
    ·exact .ex (d _ _ _ _ _ _ _)
    refine .st (aH ..) (.s [w229,aO.row true 1 [[(iA a)],[(iA b)]]] (.cT r8 ?_))
    exact ih _
   refine .sp (fun x=>?_) (fun _=>?_)
   ·refine .st (v:=(A.ep 1 1 0)) (by rw[Tv x]; kernel_rfl) (.s (iA b) (.bg (fun (t:Out×ay) (y:Int)=>t=(Out.ret (iA y),[w229,aO.row true 1 [[(iA a)],[(iA b)]]])) ?_ ?_))
    ·refine .lp ((aV Fs).trans (Pu ..)) (.bd (c j) fun a2=>.bd (c b) fun a3=>.cd ?_ ?_)
     ·refine .cd ?_ ?_
      ·exact .lg rfl
      exact .lg rfl
     refine .cd ?_ ?_
     ·exact .lg rfl
     refine .st (aY ..) (.cd ?_ ?_)
     ·exact .lg rfl
     refine .st (cM ..) (.cd ?_ ?_)
     ·exact .lg rfl
     exact .lg rfl
    rintro _ a4 rfl
    refine .ok (.st (aI ..) (.cd ?_ ?_))
    ·exact .ex (d _ _ _ _ _ _ _)
    refine .st (aH ..) (.s [w229,aO.row true 1 [[(iA a)],[(iA b)]]] (.cT r8 ?_))
    exact ih _
   exact .nn
  exact .ex (r _ _ _ _)
def fG (n:Nat) (e:Int) (b:(List (Int×Int))) (c:Int) (f:(List az)) (d:(List (Int×Int))):Nat->Int->Option ((Int)⊕(Unit))
 | 0,_=>none
 | m+1,a=>bif (decide (a<c)) then ((bK b a).bind fun g=>(Hv g).bind fun i=>bif (!i) then ((some (())).bind fun u=>(some true).bind fun j=>bif j then (some ((Sum.inl 60))) else (fG n e b c f d m (wr .i64 (a+1)))) else (bif (decide (0<a)) then ((bK d (wr .i64 (a - 1))).bind fun h=>((fH n ([h.1,h.2]) 2 g.1 g.2 (n+7) 0).bind fun k=>match k with | (Sum.inl l)=>some l | (Sum.inr _)=>some 0).bind fun o=>(some (decide (0<=o))).bind fun p=>((some p).bind fun q=>some q).bind fun r=>bif r then (some ((Sum.inl 60))) else (fG n e b c f d m (wr .i64 (a+1)))) else ((some (())).bind fun v=>((some false).bind fun s=>some s).bind fun t=>bif t then (some ((Sum.inl 60))) else (fG n e b c f d m (wr .i64 (a+1)))))) else (some ((Sum.inr (()))))
theorem AH (a0:tg C) (a1:xU C) (q:Int) (f:(List (Int×Int))) (r:Int) (c:(List az)) (b:(List (Int×Int))) {K:((Int)⊕(Unit))->Option γ} (i:∀ (u:Int) (j:A) (k:A) (l:A) (o:A) (q0:aO) (q1:aO),J φ (kr (St.mk [(1,j),(2,(iA u)),(15,k),(16,l),(17,o)] [q0,q1])) kL (K (Sum.inl u)) some) (x1:∀ (j:A) (s2:A) (k:A) (l:A) (o:A) (q0:aO),J φ (kx 0 (St.mk [(1,j),(2,s2),(15,k),(16,l),(17,o)] [q0])) kL (K (Sum.inr (()))) some) :
  ∀ (m:Nat) (p:Int),J φ (aK (cx C) (ec C n 8) (ey C n 8) (n+8) 33 0 0 1 kx kg kr kp m (St.mk [(1,(pt 0 0)),(2,(iA q)),(15,(im (f.map au) false)),(16,(iA r)),(17,(iA p))] [(lh c b)])) kL (fG n q f r c b m p) K:=by
  refine nI (fun _=>.nn) fun m ih p=>.lp (IL ..) ?_
  unfold fG
  refine .st (aY ..) (.cd ?_ ?_)
  ·refine .bd (eX (e:=115) (es:=2)) fun a=>.s (ag [(iA a.1),(iA a.2)]) (.sq (A.ep 1 0 0) (.s [(lh c b),aO.row true 1 [[(iA a.1)],[(iA a.2)]]] (.s (ag [(iA a.1),(iA a.2)]) (.bd (a1 a) fun a3=>.s (bA (!a3)) (.Fa (fun g=>?_) (fun g=>?_))))))
   ·refine .bb (.st (cM ..) (.Fb (fun d=>?_) (fun d=>?_)))
    ·refine .bb (.s (pt 0 1) (.s (im (b.map au) false) (.st (dk ..) (.bd (eX (e:=115) (es:=2)) fun h=>.s (im [[(iA h.1)],[(iA h.2)]] true) (.s (cf 1 0 2 true) (.cr (.u4 (.uc (.uc (.uc (.cr (.u4 (.u4 (.uc (.uc (.lp (iz d) (.bg (fun (t:Out×ay) (y:Int)=>∃ w271:aO,t=(Out.ret (iA y),[(lh c b),w271])) ?_ ?_)))))))))))))))))
     ·refine .lp ((aV Jx).trans (Sj ..)) (.s (iA 2) (.as (AI C n _ _ _ _ a0 ([h.1,h.2]) 2 a.1 a.2 ?_ ?_ _ 0)))
      ·intro a4 a5 a6 a7 a8 a9 w265
       exact .un rfl (.lg ⟨_,rfl⟩)
      ·intro aa ab ad ae
       exact .un rfl (.cT r8 (.s (iA 2) (.s (iA 2) (.s (bA false) (.Ps (.lg ⟨_,rfl⟩))))))
     rintro _ af ⟨w271,rfl⟩
     refine .ok (.bg (fun t (y:Bool) =>  t=[(bA y)]) ?_ ?_)
     ·exact .lp (iz d) (.st (ef ..) (.lg rfl))
     rintro _ ah rfl
     refine .uc (.bg (fun t (y:Bool)=>∃ w:A,t=[(bA y),w]) ?_ ?_)
     ·refine .sm g (.bg (fun t (y:Bool) =>  t=(bA y)) ?_ ?_)
      ·exact .uD d (.lg rfl)
      rintro _ ai rfl
      exact .lg ⟨_,rfl⟩
     rintro _ aj ⟨w,rfl⟩
     refine .uc (.uc (.cd ?_ ?_))
     ·exact .ex (i _ _ _ _ _ _ _)
     refine .st (aH ..) (.st (v:=[(lh c b)]) (eD r8 Te) (.cT ((by kernel_rfl:_=(bif aW 1 (f.map au) then true else false)).trans s6) ?_))
     exact ih _
    refine .bb (.cr (.u4 (.uc (.uc (.uc (.cr (.u4 (.u4 (.uc (.uc (.lp (iy d) (.bg (fun t (y:Unit) =>  t=[(A.v undef)]) ?_ ?_))))))))))))
    ·exact .lp (iy d) (.lg rfl)
    rintro _ ak rfl
    refine .uc (.bg (fun t (y:Bool)=>∃ x:A,t=[(bA y),x]) ?_ ?_)
    ·refine .sm g (.bg (fun t (y:Bool) =>  t=(bA y)) ?_ ?_)
     ·exact .sm d (.lg rfl)
     rintro _ al rfl
     exact .lg ⟨_,rfl⟩
    rintro _ am ⟨x,rfl⟩
    refine .uc (.uc (.cd ?_ ?_))
    ·exact .ex (i _ _ _ _ _ _ _)
    refine .st (aH ..) (.st (v:=[(lh c b)]) (eD r8 Te) (.cT ((by kernel_rfl:_=(bif aW 1 (f.map au) then true else false)).trans s6) ?_))
    exact ih _
   refine .bb (.cr (.u4 (.u4 (.uc (.uc (.gU (.bg (fun t (y:Unit) =>  t=[(A.v undef)]) ?_ ?_)))))))
   ·exact .gU (.lg rfl)
   rintro _ an rfl
   refine .uc (.bg (fun t (y:Bool)=>∃ z:A,t=[(bA y),z]) ?_ ?_)
   ·exact .uD g (.lg ⟨_,rfl⟩)
   rintro _ ao ⟨z,rfl⟩
   refine .uc (.uc (.cd ?_ ?_))
   ·exact .ex (i _ _ _ _ _ _ _)
   refine .st (aH ..) (.st (v:=[(lh c b)]) (eD r8 Te) (.cT ((by kernel_rfl:_=(bif aW 1 (f.map au) then true else false)).trans s6) ?_))
   exact ih _
  exact .ex (x1 _ _ _ _ _ _)
def KR (n:Nat) (a:bo):Option Int:=
 (bif (decide (4096<((a.Queue.length:Int)))) then (some true) else ((pY a.Queue).bind fun b=>some b)).bind fun c=>bif c then (some 60) else ((fG n 0 a.Apart ((a.Apart.length:Int)) a.Queue a.Apart (n+8) 0).bind fun d=>match d with | (Sum.inl e)=>some e | (Sum.inr _)=>some 0)
theorem Rc (C:OT) (n:Nat) (f:tg C) (h62_63:uK C) (h:xU C) (a:bo):TJ C n 33 [(ag [(im (a.Queue.map ar) false),(im (a.Apart.map au) false)])] (KR n a) (fun y=>(iA y)):=by
 refine .lp (R1 ..) ?_
 unfold KR
 refine .s ((pt 0 0),[bx [(im (a.Queue.map ar) false),(im (a.Apart.map au) false)]]) (.s2 (im (a.Queue.map ar) false) (.st (dT (e:=48)) (.st (cM ..) (.bg (fun t (y:Bool)=>∃ b c d:A,t=[(bA y),b,c,d]) ?_ ?_))))
 ·refine .bi ?_ ?_
  ·exact .lg ⟨_,_,_,rfl⟩
  exact .s (pt 0 0) (.s (im (a.Queue.map ar) false) (.bd (g:=fun (y:Bool)=>(bA y)) (by simp only[cP,eu]; exact h62_63 a.Queue) fun i=>.lg ⟨_,_,_,rfl⟩))
 rintro _ j ⟨b,c,d,rfl⟩
 refine .u4 (.cd ?_ ?_)
 ·exact .lv rfl
 refine .s2 (im (a.Apart.map au) false) (.st (dT (e:=115)) (.as (AH C n _ _ _ _ f h 0 a.Apart ((a.Apart.length:Int)) a.Queue a.Apart ?_ ?_ _ 0)))
 ·intro k l o p q w292 w293
  exact .un rfl (.lv rfl)
 ·intro r u v w x w299
  exact .un rfl (.cT r8 (.lv rfl))
def Ho (a:bo):Option Int:=KR aB a
def Aj (C:OT):Prop:=∀ (a:bo),C 33 [(ag [(im (a.Queue.map ar) false),(im (a.Apart.map au) false)])]=(Ho a).map fun y=>(iA y)
def KK (n:Nat) (a:bw) (b:Int):Option Bool:=
 (xO a.No 0 1048576).bind fun c=>(bif c then ((xO a.Role 0 (wr .i64 (b - 1))).bind fun d=>some d) else (some false)).bind fun e=>(bif e then ((xO a.Bar 0 4095).bind fun f=>some f) else (some false)).bind fun g=>(bif g then ((xO a.Program 1 8).bind fun h=>some h) else (some false)).bind fun i=>some i
theorem Q3 (C:OT) (n:Nat) (b:p0 C) (a:bw) (c:Int):TJ C n 24 [(ag (aE a)),(iA c)] (KK n a c) (fun y=>(bA y)):=by
 refine .lp (RS ..) ?_
 unfold KK
 refine .s ((pt 0 0),[bx (aE a)]) (.s2 (iA a.No) (.bd (b a.No 0 1048576) fun q=>.bg (fun t (y:Bool)=>∃ d e f g h:A,t=[(bA y),d,e,f,g,h]) ?_ ?_))
 ·refine .bi ?_ ?_
  ·exact .s (pt 0 1) (.s (iA a.Role) (.st (dk ..) (.bd (b a.Role 0 (wr .i64 (c - 1))) fun r=>.lg ⟨_,_,_,_,_,rfl⟩)))
  exact .lg ⟨_,_,_,_,_,rfl⟩
 rintro _ u ⟨d,e,f,g,h,rfl⟩
 refine .u4 (.uc (.uc (.bg (fun t (y:Bool)=>∃ i j k:A,t=[(bA y),i,j,k]) ?_ ?_)))
 ·refine .bi ?_ ?_
  ·exact .s (pt 0 2) (.s (iA a.Bar) (.bd (b a.Bar 0 4095) fun v=>.lg ⟨_,_,_,rfl⟩))
  exact .lg ⟨_,_,_,rfl⟩
 rintro _ w ⟨i,j,k,rfl⟩
 refine .u4 (.bg (fun t (y:Bool)=>∃ l o p:A,t=[(bA y),l,o,p]) ?_ ?_)
 ·refine .bi ?_ ?_
  ·exact .s (pt 0 3) (.s (iA a.Program) (.bd (b a.Program 1 8) fun x=>.lg ⟨_,_,_,rfl⟩))
  exact .lg ⟨_,_,_,rfl⟩
 rintro _ z ⟨l,o,p,rfl⟩
 exact .u4 (.lv rfl)
def FO (a:bw) (b:Int):Option Bool:=KK aB a b
def rW (C:OT):Prop:=∀ (a:bw) (b:Int),C 24 [(ag (aE a)),(iA b)]=(FO a b).map fun y=>(bA y)
def kb (n:Nat) (c:(List Int)) (d:Int) (b:bH):Nat->Int->Option ((Bool)⊕(Unit))
 | 0,_=>none
 | m+1,a=>bif (decide (a<d)) then ((bK c a).bind fun e=>(xO e 0 8).bind fun f=>(bif (!f) then (some true) else ((bK b.Did a).bind fun g=>(bif (g != e) then ((bK b.Did a).bind fun h=>some (h != 0)) else (some false)).bind fun i=>some i)).bind fun j=>bif j then (some ((Sum.inl false))) else (kb n c d b m (wr .i64 (a+1)))) else (some ((Sum.inr (()))))
theorem AJ (aa:p0 C) {w115 w116 w117 w118:A} (g:(List Int)) (h:Int) (a:bH) {K:((Bool)⊕(Unit))->Option γ} (x0:∀ (i:Bool) (s1:A) (s2:A) (s3:A) (s4:A) (b:A) (c:A) (d:A) (q0:aO),J φ (kr (St.mk [(1,s1),(2,s2),(3,s3),(4,s4),(8,(bA i)),(27,b),(28,c),(29,d)] [q0])) kL (K (Sum.inl i)) some) (x1:∀ (b:A) (c:A) (d:A),J φ (kx 0 (St.mk [(1,w115),(2,w116),(3,w117),(4,(pt 0 0)),(8,w118),(27,b),(28,c),(29,d)] [bx (aC a)])) kL (K (Sum.inr (()))) some) :
  ∀ (m:Nat) (f:Int),J φ (aK (cx C) (ec C n 8) (ey C n 8) (n+8) 34 0 0 1 kx kg kr kp m (St.mk [(1,w115),(2,w116),(3,w117),(4,(pt 0 0)),(8,w118),(27,(im (g.map (cI .i64)) false)),(28,(iA h)),(29,(iA f))] [bx (aC a)])) kL (kb n g h a m f) K:=by
  refine nI (fun _=>.nn) fun m ih f=>.lp (IM ..) ?_
  unfold kb
  refine .st (aY ..) (.cd ?_ ?_)
  ·refine .bd (eX (e:=3) (es:=1)) fun j=>.s (iA j) (.bd (aa j 0 8) fun ah=>.s (bA (!ah)) (.bg (fun t (y:Bool)=>∃ k l o p q r u v w x z a0 a1 a2 a3:A,t=[(bA y),k,l,o,p,q,r,u,v,w,x,z,a0,a1,a2,a3]) ?_ ?_))
   ·refine .bi ?_ ?_
    ·exact .lg ⟨_,_,_,_,_,_,_,_,_,_,_,_,_,_,_,rfl⟩
    refine .s (pt 0 2) (.s (im (a.Did.map (cI .i64)) false) (.bd (eX (e:=3) (es:=1)) fun ai=>.s (iA ai) (.st (aI ..) (.bg (fun t (y:Bool)=>∃ a4 a5 a6 a7 a8 a9:A,t=[(bA y),a4,a5,a6,a7,a8,a9]) ?_ ?_))))
    ·refine .bi ?_ ?_
     ·exact .s (pt 0 2) (.s (im (a.Did.map (cI .i64)) false) (.bd (eX (e:=3) (es:=1)) fun aj=>.s (iA aj) (.st (aI ..) (.lg ⟨_,_,_,_,_,_,rfl⟩))))
     exact .lg ⟨_,_,_,_,_,_,rfl⟩
    rintro _ ak ⟨a4,a5,a6,a7,a8,a9,rfl⟩
    exact .u4 (.uc (.uc (.uc (.lg ⟨_,_,_,_,_,_,_,_,_,_,_,_,_,_,_,rfl⟩))))
   rintro _ al ⟨k,l,o,p,q,r,u,v,w,x,z,a0,a1,a2,a3,rfl⟩
   refine .u4 (.u4 (.u4 (.u4 (.cd ?_ ?_))))
   ·exact .ex (x0 _ _ _ _ _ _ _ _ _)
   refine .st (aH ..) (.s [bx (aC a)] (.cT r8 ?_))
   exact ih _
  exact .ex (x1 _ _ _)
def kd (n:Nat) (c:Int) (d:Int) (g:Bool) (e:(List bw)) (f:Int) (h:bH):Nat->Int->Int->Option ((Bool)⊕(Unit))
 | 0,_,_=>none
 | m+1,i,b=>bif (decide (b<f)) then ((bK e b).bind fun a=>(FO a d).bind fun j=>(bif (!j) then (some true) else (some (a.Role != c))).bind fun k=>(bif k then (some true) else (some (decide (a.Bar<i)))).bind fun l=>bif l then (some ((Sum.inl false))) else (kd n c d g e f h m (wr .i64 (a.Bar+1)) (wr .i64 (b+1)))) else (some ((Sum.inr (()))))
theorem AK (a4:rW C) (o:Int) (c:Int) (p:Bool) (d:(List bw)) (q:Int) (b:bH) {K:((Bool)⊕(Unit))->Option γ} (x0:∀ (r:Bool) (f:A) (s2:A) (g:A) (h:A) (i:A) (j:A) (q0:aO) (q1:aO),J φ (kr (St.mk [(1,f),(2,s2),(8,(bA r)),(11,g),(57,h),(58,i),(59,j)] [q0,q1])) kL (K (Sum.inl r)) some) (x1:∀ (f:A) (s2:A) (s8:A) (g:A) (h:A) (i:A) (j:A) (q0:aO),J φ (kx 2 (St.mk [(1,f),(2,s2),(8,s8),(11,g),(57,h),(58,i),(59,j)] [q0])) kL (K (Sum.inr (()))) some) :
  ∀ (m:Nat) (k:Int) (l:Int),J φ (aK (cx C) (ec C n 8) (ey C n 8) (n+8) 34 0 1 1 kx kg kr kp m (St.mk [(1,(iA o)),(2,(iA c)),(8,(bA p)),(11,(iA k)),(57,(im (d.map aE) false)),(58,(iA q)),(59,(iA l))] [bx (aC b)])) kL (kd n o c p d q b m k l) K:=by
  refine nI (fun _ _=>.nn) fun m ih k l=>.lp (IP ..) ?_
  unfold kd
  refine .st (aY ..) (.cd ?_ ?_)
  ·refine .bd (eX (e:=30) (es:=4)) fun a=>.s (ag (aE a)) (.sq (pt 1 0) (.s [bx (aC b),bx (aE a)] (.s (ag (aE a)) (.bd (a4 a c) fun a8=>.s (bA (!a8)) (.bg (fun t (y:Bool)=>∃ u w x z:A,t=[(bA y),u,w,x,z]) ?_ ?_)))))
   ·refine .bi ?_ ?_
    ·exact .lg ⟨_,_,_,_,rfl⟩
    exact .s (pt 1 1) (.s (iA a.Role) (.st (aI ..) (.lg ⟨_,_,_,_,rfl⟩)))
   rintro _ a9 ⟨u,w,x,z,rfl⟩
   refine .u4 (.uc (.bg (fun t (y:Bool)=>∃ a0 a1 a2 a3:A,t=[(bA y),a0,a1,a2,a3]) ?_ ?_))
   ·refine .bi ?_ ?_
    ·exact .lg ⟨_,_,_,_,rfl⟩
    exact .s (pt 1 2) (.s (iA a.Bar) (.st (aY ..) (.lg ⟨_,_,_,_,rfl⟩)))
   rintro _ aa ⟨a0,a1,a2,a3,rfl⟩
   refine .u4 (.uc (.cd ?_ ?_))
   ·exact .ex (x0 _ _ _ _ _ _ _ _ _)
   refine .s2 (iA a.Bar) (.st (aH ..) (.st (aH ..) (.st (v:=[bx (aC b)]) (eD r8 u3) (.cT ((by kernel_rfl:_=(bif aW 1 (d.map aE) then true else false)).trans s6) ?_))))
   exact ih _ _
  exact .ex (x1 _ _ _ _ _ _ _ _)
def KS (n:Nat) (a:bH) (c:Int) (a2:Int) (b:Int):Option Bool:=
 (bif (((a.Got.length:Int)) != b) then (some true) else (some (((a.Did.length:Int)) != b))).bind fun d=>bif d then (some false) else ((kb n a.Got ((a.Got.length:Int)) a (n+8) 0).bind fun e=>match e with | (Sum.inl f)=>some f | (Sum.inr _)=>(kd n c a2 false a.Cues ((a.Cues.length:Int)) a (n+8) b 0).bind fun g=>match g with | (Sum.inl h)=>some h | (Sum.inr _)=>some true)
theorem Rd (C:OT) (n:Nat) (j:rW C) (k:p0 C) (a:bH) (b:Int) (a2:Int) (c:Int):TJ C n 34 [(ag (aC a)),(iA b),(iA a2),(iA c)] (KS n a b a2 c) (fun y=>(bA y)):=by
 refine .lp (R2 ..) ?_
 unfold KS
 refine .s ((pt 0 0),[bx (aC a)]) (.s2 (im (a.Got.map (cI .i64)) false) (.st (dT (e:=3)) (.st (aI ..) (.bg (fun t (y:Bool)=>∃ d f g h i:A,t=[(bA y),d,f,g,h,i]) ?_ ?_))))
 ·refine .bi ?_ ?_
  ·exact .lg ⟨_,_,_,_,_,rfl⟩
  exact .s (pt 0 2) (.s (im (a.Did.map (cI .i64)) false) (.st (dT (e:=3)) (.st (aI ..) (.lg ⟨_,_,_,_,_,rfl⟩))))
 rintro _ l ⟨d,f,g,h,i,rfl⟩
 refine .u4 (.uc (.uc (.cd ?_ ?_)))
 ·exact .lv rfl
 refine .s2 (im (a.Got.map (cI .i64)) false) (.st (dT (e:=3)) (.as (AJ C n _ _ _ _ k a.Got ((a.Got.length:Int)) a ?_ ?_ _ 0)))
 ·intro o p q r u v w x w163
  exact .un rfl (.lv rfl)
 ·intro z a4 a5
  refine .un rfl (.cT r8 (.s2 (im (a.Cues.map aE) false) (.st (dT (e:=30)) (.as (AK C n _ _ _ _ j b a2 false a.Cues ((a.Cues.length:Int)) a ?_ ?_ _ c 0)))))
  ·intro a6 a7 a8 a9 aa ab ad w312 w313
   exact .un rfl (.lv rfl)
  ·intro ae af ah ai aj ak al w321
   exact .un rfl (.cT r8 (.lv rfl))
def HT (a:bH) (b:Int) (a2:Int) (c:Int):Option Bool:=KS aB a b a2 c
def Ak (C:OT):Prop:=∀ (a:bH) (b:Int) (a2:Int) (c:Int),C 34 [(ag (aC a)),(iA b),(iA a2),(iA c)]=(HT a b a2 c).map fun y=>(bA y)
def CF (n:Nat) (a:Int):Option Int:=
 some (pQ .i64 (wr .i64 (mF .u64 a 1)) (wr .i64 (0 - (wr .i64 (nW .u64 a 1)))))
theorem MD (C:OT) (n:Nat) (a:Int):TJ C n 108 [(A.v (.int .u64 a))] (CF n a) (fun y=>(iA y)):=by
 refine .lp (MV ..) ?_
 unfold CF
 exact .st (kv (hb:=by decide) ..) (.st (v:=(iA (wr .i64 (mF .u64 a 1)))) (aL (hs:=by kernel_rfl) (hd:=by kernel_rfl) ..) (.st (m0 ..) (.st (v:=(iA (wr .i64 (nW .u64 a 1)))) (aL (hs:=by kernel_rfl) (hd:=by kernel_rfl) ..) (.s (iA (wr .i64 (0 - (wr .i64 (nW .u64 a 1))))) (.st (m5 ..) (.lv rfl))))))
def z9 (a:Int):Option Int:=CF aB a
def th (C:OT):Prop:=∀ (a:Int),C 108 [(A.v (.int .u64 a))]=(z9 a).map fun y=>(iA y)
def aG:aO:=bx [(iA 0),(iA 0),se,Th]
def hU (a:UInt8):aO:=bx [(iA (wr .i64 ((a.toNat:Int)))),(iA 0),se,Th]
def FT (C:OT) (N:Nat) (self:(List UInt8)->Int->Option (Bool×aq×(List UInt8))):Prop:=∀ (a2:(List UInt8)) (a:Int) (X:ay),J (fun (o:R) (y:(Bool×aq×(List UInt8)))=>o=((bif y.1 then Out.ret (ag [(iA y.2.1.Kind),(iA y.2.1.N),(sA y.2.1.S),(im (y.2.1.L.map av) false)]) else Out.pan (A.ifc 33 (iA 10))),[aG,bx [(iA 0)],bx [(im (y.2.2.map c8) false)]]++X)) (dI (cx C) N 91 [(pt 2 0),(iA a)] ([aG,bx [(iA 0)],bx [(im (a2.map c8) false)]]++X) 0) some (self a2 a) some
def ed (n:Nat):Nat->Int->Int->(List UInt8)->Option (((List UInt8))⊕(Int×(List UInt8)))
 | 0,_,_,_=>none
 | m+1,e,a,b=>bif (!(decide (1<=((b.length:Int))))) then (some ((Sum.inl b))) else ((iJ b 0 1).bind fun f=>(iJ b 1 ((b.length:Int))).bind fun d=>(bK f 0).bind fun c=>(bif (a==0) then (some true) else (some (((c.toNat:Int)) != 0))).bind fun g=>(bif g then ((bif (decide (a<9)) then (some true) else (some (decide (((c.toNat:Int))<=1)))).bind fun h=>some h) else (some false)).bind fun i=>bif (!i) then (some ((Sum.inl d))) else (bif decide (0<=(wr .i64 (7*a))) then (bif (decide (((c.toNat:Int))<128)) then (some ((Sum.inr ((lT .u64 e (nO .u64 (wr .u64 (nW .u8 ((c.toNat:Int)) 127)) (wr .i64 (7*a))),d))))) else (ed n m (lT .u64 e (nO .u64 (wr .u64 (nW .u8 ((c.toNat:Int)) 127)) (wr .i64 (7*a)))) (wr .i64 (a+1)) d)) else none))
theorem lW {w767:aO} {K:(((List UInt8))⊕(Int×(List UInt8)))->Option γ} (k:∀ (d:(List UInt8)) (g:A) (s2:A) (h:A),J φ (kp (A.ifc 33 (iA 10)) (St.mk [(0,g),(2,s2),(3,h)] [aG,bx [(iA 0)],bx [(im (d.map c8) false)],w767])) kL (K (Sum.inl d)) some) (x1:∀ (d:Int) (o:(List UInt8)) (g:A) (h:A),J φ (kr (St.mk [(0,g),(2,(A.v (.int .u64 d))),(3,h)] [aG,bx [(iA 0)],bx [(im (o.map c8) false)],w767])) kL (K (Sum.inr ((d,o)))) some) :
  ∀ (m:Nat) (i:Int) (j:Int) (c:(List UInt8)),J φ (aK (cx C) (dI (cx C) (n+6)) (bF (cx C) (n+6)) (n+6) 109 0 0 4 kx kg kr kp m (St.mk [(0,(pt 2 0)),(2,(A.v (.int .u64 i))),(3,(iA j))] [aG,bx [(iA 0)],bx [(im (c.map c8) false)],w767])) kL (ed n  m i j c) K:=by
  refine nI (fun _ _ _=>.nn) fun m ih i j c=>.lp (Gm ..) ?_
  unfold ed
  refine .cl ((aV xm).trans (Gk ..)) (.s (pt 2 0) (.s2 (im (c.map c8) false) (.st (dT (e:=5)) (.st (dE ..) (.cl ((aV ov).trans (CU ..)) (.s (bA (!(decide (1<=((c.length:Int)))))) (.cd ?_ ?_)))))))
  ·exact .s (A.ifc 33 (iA 10)) (.pk (.cr (.jz (.cr (.jz (.ex (k _ _ _ _)))))))
  refine .cr (.ok (.s (pt 2 0) (.s2 (im (c.map c8) false) (.bd (n6 (e:=5) (es:=1) (f:=c8) (l:=c) (a:=0) (b:=1) r8 r8 (fun _=>rfl) (.inl ⟨rfl,rfl⟩)) fun a7=>.s (pt 2 0) (.s2 (im (c.map c8) false) (.bd (pT (e:=5) (es:=1) (f:=c8) (l:=c) (a:=1) (b:=(c.length:Int)) r8 r8 (fun _=>rfl) (.inr ⟨_,rfl⟩) (.inl ⟨rfl,rfl⟩)) fun p=>.s (pt 2 0) (.s (pt 2 0) (.s [aG,bx [(iA 0)],bx [(im (p.map c8) false)],w767] (.cr (.ok (.bd (eX (e:=5) (es:=1)) fun q=>.s (uA ((q.toNat:Int))) (.st (aX ..) (.bg (fun t (y:Bool)=>∃ r u:A,t=[(bA y),r,u]) ?_ ?_)))))))))))))
  ·refine .bi ?_ ?_
   ·exact .lg ⟨_,_,rfl⟩
   exact .st (aI ..) (.lg ⟨_,_,rfl⟩)
  rintro _ a8 ⟨r,u,rfl⟩
  refine .uc (.uc (.uc (.bg (fun t (y:Bool)=>∃ w x z a0 a1 a2:A,t=[(bA y),w,x,z,a0,a1,a2]) ?_ ?_)))
  ·refine .bi ?_ ?_
   ·refine .st (aY ..) (.bg (fun t (y:Bool)=>∃ a3 a4:A,t=[(bA y),a3,a4]) ?_ ?_)
    ·refine .bi ?_ ?_
     ·exact .lg ⟨_,_,rfl⟩
     exact .st (dE ..) (.lg ⟨_,_,rfl⟩)
    rintro _ a9 ⟨a3,a4,rfl⟩
    exact .uc (.uc (.uc (.lg ⟨_,_,_,_,_,_,rfl⟩)))
   exact .lg ⟨_,_,_,_,_,_,rfl⟩
  rintro _ a6 ⟨w,x,z,a0,a1,a2,rfl⟩
  refine .u4 (.uc (.uc (.uc (.cl ((aV ov).trans (CU ..)) (.s (bA (!a6)) (.cd ?_ ?_))))))
  ·exact .s (A.ifc 33 (iA 10)) (.pk (.cr (.jz (.ex (k _ _ _ _)))))
  refine .cr (.ok (.st (m0 ..) (.st (v:=(A.v (.int .u64 (wr .u64 (nW .u8 ((q.toNat:Int)) 127))))) (aL (hs:=by kernel_rfl) (hd:=by kernel_rfl) ..) (.st (nT ..) (.gd fun hg=>.st (p8 (hb:=Tv hg) ..) (.st (gy ..) (.st (aY ..) (.cd ?_ ?_))))))))
  ·exact .ex (x1 _ _ _ _)
  refine .st (aH ..) (.s [aG,bx [(iA 0)],bx [(im (p.map c8) false)],w767] (.cT r8 ?_))
  exact ih _ _ _
def gh (self:(List UInt8)->Int->Option (Bool×aq×(List UInt8))) (n:Nat) (b:Int) (c:Int) (g:Int) (h:Int) (i:ByteArray):Nat->Int->(List UInt8)->(List aq)->Option (((List UInt8))⊕((List UInt8)×(List aq)))
 | 0,_,_,_=>none
 | m+1,d,e,f=>bif (decide (d<c)) then ((self e (wr .i64 (b+1))).bind fun a=>bif a.1 then ((c7 56 f ([a.2.1])).bind fun j=>gh self n b c g h i m (wr .i64 (d+1)) a.2.2 j) else (some ((Sum.inl a.2.2)))) else (some ((Sum.inr ((e,f)))))
theorem zf (self:(List UInt8)->Int->Option (Bool×aq×(List UInt8))) (hS:FT C (n+8) self) (k:Int) (w:Int) (d:Int) (e:Int) (h:ByteArray) {K:(((List UInt8))⊕((List UInt8)×(List aq)))->Option γ} (z:∀ (i:(List UInt8)) (o:A) (p:A) (s4:A) (q:A) (r:A) (q3:aO) (q4:aO),J φ (kp (A.ifc 33 (iA 10)) (St.mk [(0,o),(1,p),(4,s4),(36,q),(37,r)] [aG,bx [(iA 0)],bx [(im (i.map c8) false)],q3,q4])) kL (K (Sum.inl i)) some) (x1:∀ (i:(List UInt8)) (u:(List aq)) (o:A) (p:A) (q:A) (r:A),J φ (kx 1 (St.mk [(0,o),(1,p),(4,(pt 3 0)),(36,q),(37,r)] [aG,bx [(iA 0)],bx [(im (i.map c8) false)],bx [(iA d),(iA e),(sA h),(cf 4 0 u.length false)],aO.row false 4 (u.map av)])) kL (K (Sum.inr ((i,u)))) some) :
  ∀ (m:Nat) (v:Int) (j:(List UInt8)) (a:(List aq)),J φ (aK (cx C) (ec C n 8) (ey C n 8) (n+8) 91 0 0 5 kx kg kr kp m (St.mk [(0,(pt 2 0)),(1,(iA k)),(4,(pt 3 0)),(36,(iA w)),(37,(iA v))] [aG,bx [(iA 0)],bx [(im (j.map c8) false)],bx [(iA d),(iA e),(sA h),(cf 4 0 a.length false)],aO.row false 4 (a.map av)])) kL (gh self n k w d e h m v j a) K:=by
  refine nI (fun _ _ _=>.nn) fun m ih v j a=>.lp (I4 ..) ?_
  unfold gh
  refine .st (aY ..) (.cd ?_ ?_)
  ·refine .s (pt 3 3) (.s (cf 4 0 a.length false) (.st (aH ..) (.cT r8 (.bg (fun (t:Out×ay) (y:(Bool×aq×(List UInt8)))=>t=((bif y.1 then Out.ret (ag [(iA y.2.1.Kind),(iA y.2.1.N),(sA y.2.1.S),(im (y.2.1.L.map av) false)]) else Out.pan (A.ifc 33 (iA 10))),[aG,bx [(iA 0)],bx [(im (y.2.2.map c8) false)],bx [(iA d),(iA e),(sA h),(cf 4 0 a.length false)],aO.row false 4 (a.map av)])) (hS j (wr .i64 (k+1)) [bx [(iA d),(iA e),(sA h),(cf 4 0 a.length false)],aO.row false 4 (a.map av)]) ?_))))
   rintro _ c rfl
   refine .ob ?_ ?_
   ·refine .ok (.s (im [[(iA c.2.1.Kind),(iA c.2.1.N),(sA c.2.1.S),(im (c.2.1.L.map av) false)]] true) (.bd (g:=fun (y:List aq)=>((cf 4 0 y.length false),[aG,bx [(iA 0)],bx [(im (c.2.2.map c8) false)],bx [(iA d),(iA e),(sA h),(cf 4 0 a.length false)],aO.row false 4 (y.map av)])) (cw dZ (l:=a) (l2:=[c.2.1]) (b:=4) rfl (by decide) (fT (f:=av) (l:=([c.2.1]:List aq)) y6)) fun x=>.s (pt 3 3) (.sh (.st (aH ..) (.s [aG,bx [(iA 0)],bx [(im (c.2.2.map c8) false)],bx [(iA d),(iA e),(sA h),(cf 4 0 x.length false)],aO.row false 4 (x.map av)] (.cT r8 ?_))))))
    exact ih _ _ _
   exact .jz (.ex (z _ _ _ _ _ _ _ _))
  exact .ex (x1 _ _ _ _ _ _)
def uG (self:(List UInt8)->Int->Option (Bool×aq×(List UInt8))) (n:Nat) (a2:(List UInt8)) (f:Int):Option (Bool×aq×(List UInt8)):=
 bif (!(decide (1<=((a2.length:Int))))) then (some ((false,(default:aq),a2))) else ((iJ a2 0 1).bind fun h=>(iJ a2 1 ((a2.length:Int))).bind fun c=>(bK h 0).bind fun a=>bif ((wr .i64 ((a.toNat:Int)))==1) then ((ed (n+1)  (n+7) 0 0 c).bind fun i=>match i with | (Sum.inl j)=>some ((false,(default:aq),j)) | (Sum.inr ((k,l)))=>(z9 k).bind fun o=>some ((true,(aq.mk (wr .i64 ((a.toNat:Int))) o gS ([])),l))) else (bif ((wr .i64 ((a.toNat:Int)))==2) then ((ed n  (n+6) 0 0 c).bind fun p=>match p with | (Sum.inl q)=>some ((false,(default:aq),q)) | (Sum.inr ((d,b)))=>bif (!(decide (d<=(wr .u64 ((b.length:Int)))))) then (some ((false,(default:aq),b))) else (bif (!(decide ((wr .i64 (d))<=((b.length:Int))))) then (some ((false,(default:aq),b))) else ((iJ b 0 (wr .i64 (d))).bind fun r=>(iJ b (wr .i64 (d)) ((b.length:Int))).bind fun s=>some ((true,(aq.mk (wr .i64 ((a.toNat:Int))) 0 (fK r) ([])),s))))) else (bif ((wr .i64 ((a.toNat:Int)))==3) then (bif (!(decide (f<16))) then (some ((false,(default:aq),c))) else ((ed n  (n+6) 0 0 c).bind fun t=>match t with | (Sum.inl u)=>some ((false,(default:aq),u)) | (Sum.inr ((g,e)))=>bif (!(decide (g<=(wr .u64 ((e.length:Int)))))) then (some ((false,(default:aq),e))) else ((gh self n f (wr .i64 (g)) (wr .i64 ((a.toNat:Int))) 0 gS (n+8) 0 e (([]:List aq))).bind fun v=>match v with | (Sum.inl w)=>some ((false,(default:aq),w)) | (Sum.inr ((x,y)))=>some ((true,(aq.mk (wr .i64 ((a.toNat:Int))) 0 gS y),x))))) else (some ((false,(default:aq),c))))))
theorem ME (C:OT) (n:Nat) (a0:th C) (self:(List UInt8)->Int->Option (Bool×aq×(List UInt8))) (hS:FT C (n+8) self) (a2:(List UInt8)) (q:Int):J (fun (o:R) (y:(Bool×aq×(List UInt8)))=>∃ Z,o=((bif y.1 then Out.ret (ag [(iA y.2.1.Kind),(iA y.2.1.N),(sA y.2.1.S),(im (y.2.1.L.map av) false)]) else Out.pan (A.ifc 33 (iA 10))),[aG,bx [(iA 0)],bx [(im (y.2.2.map c8) false)]]++Z)) (aF (cx C) (ec C n 8) (ey C n 8) (n+8) 91 [(pt 2 0),(iA q)] [aG,bx [(iA 0)],bx [(im (a2.map c8) false)]] 0) some (uG self n a2 q) some:=by
 refine .lp (Sx ..) ?_
 unfold uG
 refine .s ((pt 3 0),[aG,bx [(iA 0)],bx [(im (a2.map c8) false)],aG]) (.cl ((aV xm).trans (Gk ..)) (.s (pt 2 0) (.s2 (im (a2.map c8) false) (.st (dT (e:=5)) (.st (dE ..) (.cl ((aV ov).trans (CU ..)) (.s (bA (!(decide (1<=((a2.length:Int)))))) (.cd ?_ ?_))))))))
 ·exact .s (A.ifc 33 (iA 10)) (.pk (.cr (.jz (.cr (.jz (.lf rfl rfl ⟨[aG],rfl⟩))))))
 refine .cr (.ok (.s (pt 2 0) (.s2 (im (a2.map c8) false) (.bd (n6 (e:=5) (es:=1) (f:=c8) (l:=a2) (a:=0) (b:=1) r8 r8 (fun _=>rfl) (.inl ⟨rfl,rfl⟩)) fun y5=>.s (pt 2 0) (.s2 (im (a2.map c8) false) (.bd (pT (e:=5) (es:=1) (f:=c8) (l:=a2) (a:=1) (b:=(a2.length:Int)) r8 r8 (fun _=>rfl) (.inr ⟨_,rfl⟩) (.inl ⟨rfl,rfl⟩)) fun i=>.s (pt 2 0) (.s (pt 2 0) (.s [aG,bx [(iA 0)],bx [(im (i.map c8) false)],aG] (.cr (.ok (.bd (eX (e:=5) (es:=1)) fun c=>.s (uA ((c.toNat:Int))) (.st (v:=(iA (wr .i64 ((c.toNat:Int))))) (aL (hs:=by kernel_rfl) (hd:=by kernel_rfl) ..) (.s (pt 3 0) (.s [aG,bx [(iA 0)],bx [(im (i.map c8) false)],(hU c)] (.s2 (iA (wr .i64 ((c.toNat:Int)))) (.st (aX ..) (.cd ?_ ?_)))))))))))))))))
 ·refine .cl ((aV xn).trans (Gl ..)) (.as (lW C (n+1) _ _ _ _  ?_ ?_ _ 0 0 i))
  ·intro a5 a6 a7 a8
   exact .un rfl (.cr (.jz (.lf rfl rfl ⟨[(hU c)],rfl⟩)))
  ·intro a1 x a9 aa
   exact .un rfl (.cr (.ok (.bd (a0 a1) fun j=>.s (pt 3 1) (.sh (.s (ag [(iA (wr .i64 ((c.toNat:Int)))),(iA j),se,Th]) (.s [aG,bx [(iA 0)],bx [(im (x.map c8) false)],bx [(iA (wr .i64 ((c.toNat:Int)))),(iA j),se,Th]] (.s (ag [(iA (wr .i64 ((c.toNat:Int)))),(iA j),se,(im [] false)]) (.lf rfl rfl (fJ (o:=Out.ret (ag [(iA (wr .i64 ((c.toNat:Int)))),(iA j),se,(im [] false)])) (lo:=0) (off:=3) (b:=3) (p:=0) (H2:=[aG,bx [(iA 0)],bx [(im (x.map c8) false)]]) (X:=[bx [(iA (wr .i64 ((c.toNat:Int)))),(iA j),se,Th]]) (TR rfl))))))))))
 refine .st (aX ..) (.cd ?_ ?_)
 ·refine .cl ((aV BN).trans (IC ..)) (.cl ((aV xn).trans (Gl ..)) (.as (lW C n _ _ _ _  ?_ ?_ _ 0 0 i)))
  ·intro ab ad ae af
   exact .un rfl (.cr (.jz (.cr (.jz (.lf rfl rfl ⟨[(hU c)],rfl⟩)))))
  ·intro k d ah ai
   refine .un rfl (.cr (.ok (.s (pt 2 0) (.s2 (im (d.map c8) false) (.st (dT (e:=5)) (.st (v:=(A.v (.int .u64 (wr .u64 ((d.length:Int)))))) (aL (hs:=by kernel_rfl) (hd:=by kernel_rfl) ..) (.st (dE ..) (.cl ((aV ov).trans (CU ..)) (.s (bA (!(decide (k<=(wr .u64 ((d.length:Int))))))) (.cd ?_ ?_))))))))))
   ·exact .s (A.ifc 33 (iA 10)) (.pk (.cr (.jz (.cr (.jz (.lf rfl rfl ⟨[(hU c)],rfl⟩))))))
   refine .cr (.ok (.st (v:=(iA (wr .i64 (k)))) (aL (hs:=by kernel_rfl) (hd:=by kernel_rfl) ..) (.cr (.ok (.cl ((aV xm).trans (Gk ..)) (.s (pt 2 0) (.s2 (im (d.map c8) false) (.st (dT (e:=5)) (.st (dE ..) (.cl ((aV ov).trans (CU ..)) (.s (bA (!(decide ((wr .i64 (k))<=((d.length:Int)))))) (.cd ?_ ?_))))))))))))
   ·exact .s (A.ifc 33 (iA 10)) (.pk (.cr (.jz (.cr (.jz (.lf rfl rfl ⟨[(hU c)],rfl⟩))))))
   exact .cr (.ok (.s (pt 2 0) (.s2 (im (d.map c8) false) (.bd (n6 (e:=5) (es:=1) (f:=c8) (l:=d) (a:=0) (b:=wr .i64 (k)) r8 r8 (fun _=>rfl) (.inl ⟨rfl,rfl⟩)) fun h=>.s (pt 2 0) (.s2 (im (d.map c8) false) (.bd (pT (e:=5) (es:=1) (f:=c8) (l:=d) (a:=wr .i64 (k)) (b:=(d.length:Int)) r8 r8 (fun _=>rfl) (.inr ⟨_,rfl⟩) (.inl ⟨rfl,rfl⟩)) fun t=>.s (pt 2 0) (.s (pt 2 0) (.s [aG,bx [(iA 0)],bx [(im (t.map c8) false)],(hU c)] (.cr (.ok (.st (v:=(A.v (Value.string (fK h)))) (mN (e:=5) (l:=h) r8 r8 r8 r8 (bN ..) rfl) (.s (pt 3 2) (.sh (.s (ag [(iA (wr .i64 ((c.toNat:Int)))),(iA 0),(A.v (Value.string (fK h))),Th]) (.s [aG,bx [(iA 0)],bx [(im (t.map c8) false)],bx [(iA (wr .i64 ((c.toNat:Int)))),(iA 0),(A.v (Value.string (fK h))),Th]] (.s (ag [(iA (wr .i64 ((c.toNat:Int)))),(iA 0),(A.v (Value.string (fK h))),(im [] false)]) (.lf rfl rfl (fJ (o:=Out.ret (ag [(iA (wr .i64 ((c.toNat:Int)))),(iA 0),(A.v (Value.string (fK h))),(im [] false)])) (lo:=0) (off:=3) (b:=3) (p:=0) (H2:=[aG,bx [(iA 0)],bx [(im (t.map c8) false)]]) (X:=[bx [(iA (wr .i64 ((c.toNat:Int)))),(iA 0),(A.v (Value.string (fK h))),Th]]) (TR rfl)))))))))))))))))))
 refine .st (aX ..) (.cd ?_ ?_)
 ·refine .st (aY ..) (.cl ((aV ov).trans (CU ..)) (.s (bA (!(decide (q<16)))) (.cd ?_ ?_)))
  ·exact .s (A.ifc 33 (iA 10)) (.pk (.cr (.jz (.lf rfl rfl ⟨[(hU c)],rfl⟩))))
  refine .cr (.ok (.cl ((aV BN).trans (IC ..)) (.cl ((aV xn).trans (Gl ..)) (.as (lW C n _ _ _ _  ?_ ?_ _ 0 0 i)))))
  ·intro aj ak al am
   exact .un rfl (.cr (.jz (.cr (.jz (.lf rfl rfl ⟨[(hU c)],rfl⟩)))))
  ·intro u r an ao
   refine .un rfl (.cr (.ok (.s (pt 2 0) (.s2 (im (r.map c8) false) (.st (dT (e:=5)) (.st (v:=(A.v (.int .u64 (wr .u64 ((r.length:Int)))))) (aL (hs:=by kernel_rfl) (hd:=by kernel_rfl) ..) (.st (dE ..) (.cl ((aV ov).trans (CU ..)) (.s (bA (!(decide (u<=(wr .u64 ((r.length:Int))))))) (.cd ?_ ?_))))))))))
   ·exact .s (A.ifc 33 (iA 10)) (.pk (.cr (.jz (.cr (.jz (.lf rfl rfl ⟨[(hU c)],rfl⟩))))))
   refine .cr (.ok (.st (v:=(iA (wr .i64 (u)))) (aL (hs:=by kernel_rfl) (hd:=by kernel_rfl) ..) (.cr (.ok (.as (zf C n _ _ _ _ self hS q (wr .i64 (u)) (wr .i64 ((c.toNat:Int))) 0 gS ?_ ?_ _ 0 r (([]:List aq))))))))
   ·intro ap ar au aw ax ay w1516 w1517
    exact .un rfl (.lf rfl rfl ⟨[w1516,w1517],rfl⟩)
   ·intro w g az b0 b1 b2
    exact .un rfl (.cT r8 (.s (ag [(iA (wr .i64 ((c.toNat:Int)))),(iA 0),se,(cf 4 0 g.length false)]) (.s [aG,bx [(iA 0)],bx [(im (w.map c8) false)],bx [(iA (wr .i64 ((c.toNat:Int)))),(iA 0),se,(cf 4 0 g.length false)],aO.row false 4 (g.map av)] (.st (v:=(ag [(iA (wr .i64 ((c.toNat:Int)))),(iA 0),se,(im (g.map av) false)])) ((Ue (fun z=>lY prog 107 (pt 3 0) z) (uV (H:=[aG,bx [(iA 0)],bx [(im (w.map c8) false)],bx [(iA (wr .i64 ((c.toNat:Int)))),(iA 0),se,(cf 4 0 g.length false)],aO.row false 4 (g.map av)]) (lo:=0) (off:=3) (b:=3) (o:=0) (b':=4) (es:=4) (l:=g) cb rfl rfl rfl (TR rfl))).trans r8) (.lf rfl rfl (fJ (o:=Out.ret (ag [(iA (wr .i64 ((c.toNat:Int)))),(iA 0),se,(im (g.map av) false)])) (lo:=0) (off:=3) (b:=3) (p:=0) (H2:=[aG,bx [(iA 0)],bx [(im (w.map c8) false)]]) (X:=[bx [(iA (wr .i64 ((c.toNat:Int)))),(iA 0),se,(cf 4 0 g.length false)],aO.row false 4 (g.map av)]) (TR rfl)))))))
 exact .cl ((aV ov).trans (CU ..)) (.s (bA true) (.ML (.s (A.ifc 33 (iA 10)) (.pk (.cr (.jz (.lf rfl rfl ⟨[(hU c)],rfl⟩)))))))
def zU:Nat->(List UInt8)->Int->Option (Bool×aq×(List UInt8))
 | 0=>fun _ _=>none
 | N+1=>fun a2 a3=>bif Nat.ble 8 N then uG (zU N) (N - 8) a2 a3 else none
theorem Ii (C:OT) (a:th C):∀ N,FT C N (zU N)
 | 0=>fun _ _ X r h=>by cases h
 | N+1=>fun a2 b X=>by
  show J _ _ _ (bif Nat.ble 8 N then uG (zU N) (N - 8) a2 b else none) _
  cases h:Nat.ble 8 N with
  | false=>exact fun r h=>by cases h
  | true=>
   obtain ⟨n,rfl⟩:∃ n,N=n+8:=⟨N - 8,by have:=TR h; omega⟩
   rw[VW]
   exact Ba (m:=3) r8 r8 (by decide) rfl r8 ((by kernel_rfl:_=((((aW 3 (a2.map c8))&&true))&&true)).trans s6) (fun _=>rfl) (fun y=>(by show kN 3 (bif y.1 then Out.ret (ag [(iA y.2.1.Kind),(iA y.2.1.N),(sA y.2.1.S),(im (y.2.1.L.map av) false)]) else Out.pan (A.ifc 33 (iA 10)))=true; cases y.1 with | true=>exact((by kernel_rfl:_=((aW 3 (y.2.1.L.map av))&&true)).trans s6) | false=>rfl)) (fun y=>((by kernel_rfl:_=((((aW 3 (y.2.2.map c8))&&true))&&true)).trans s6)) (ME C n a (zU (n+8)) (Ii C a (n+8)) a2 b)
def K8 (n:Nat) (b:(List UInt8)):Option (aq×Int):=
 (zU (n+8) b 0).bind fun a=>bif a.1 then (bif (!(((a.2.2.length:Int))==0)) then (some (((aq.mk 0 0 gS ([])),10))) else (some ((a.2.1,0)))) else (some (((aq.mk 0 0 gS ([])),10)))
theorem Rv (C:OT) (n:Nat) (c:th C) (b:(List UInt8)):TJ C n 66 [(im (b.map c8) false)] (K8 n b) (fun y=>(tp [(ag (al y.1)),(iA y.2)])):=by
 refine .lp (Sk ..) ?_
 unfold K8
 refine .s ((pt 0 0),[aG]) (.s ((pt 1 0),[aG,bx [(iA 0)]]) (.s (ag [(im (b.map c8) false)]) (.s ((pt 2 0),[aG,bx [(iA 0)],bx [(im (b.map c8) false)]]) (.bg (fun (t:Out×ay) (y:(Bool×aq×(List UInt8)))=>t=((bif y.1 then Out.ret (ag [(iA y.2.1.Kind),(iA y.2.1.N),(sA y.2.1.S),(im (y.2.1.L.map av) false)]) else Out.pan (A.ifc 33 (iA 10))),[aG,bx [(iA 0)],bx [(im (y.2.2.map c8) false)]])) (Ii C c (n+8) b 0 []) ?_))))
 rintro _ a rfl
 refine .ob ?_ ?_
 ·refine .ok (.s [bx (al a.2.1),bx [(iA 0)],bx [(im (a.2.2.map c8) false)]] (.s (pt 2 0) (.s2 (im (a.2.2.map c8) false) (.st (dT (e:=5)) (.st (aX ..) (.cl ((aV ov).trans (CU ..)) (.s (bA (!(((a.2.2.length:Int))==0))) (.cd ?_ ?_))))))))
  ·exact .s (A.ifc 33 (iA 10)) (.pk (.cr (.jz (.s (bA true) (.ML (.s (ag [(iA 0),(iA 0),se,Th]) (.s (iA 10) (.sh (.s [aG,bx [(iA 10)],bx [(im (a.2.2.map c8) false)]] (.s (ag [(iA 0),(iA 0),se,Th]) (.s (iA 10) (.lv s5))))))))))))
  exact .cr (.ok (.s (ag (al a.2.1)) (.sh (.s [bx (al a.2.1),bx [(iA 0)],bx [(im (a.2.2.map c8) false)]] (.s (bA false) (.Ps (.s (ag (al a.2.1)) (.s (iA 0) (.lv s5)))))))))
 exact .jz (.s (bA true) (.ML (.s (ag [(iA 0),(iA 0),se,Th]) (.s (iA 10) (.sh (.s [aG,bx [(iA 10)],bx [(im (a.2.2.map c8) false)]] (.s (ag [(iA 0),(iA 0),se,Th]) (.s (iA 10) (.lv s5)))))))))
def Ia (a:(List UInt8)):Option (aq×Int):=K8 aB a
def ES (C:OT):Prop:=∀ (a:(List UInt8)),C 66 [(im (a.map c8) false)]=(Ia a).map fun y=>(tp [(ag (al y.1)),(iA y.2)])
def du (n:Nat) (j:Bool) (b:(List aq)) (c:Int) (k:Int) (l:Int) (o:Int) (p:aq):Nat->Int->Int->Int->Int->Int->Int->Option ((Bool×Int×Int×Int×Int×Int)⊕(Int×Int×Int×Int×Int))
 | 0,_,_,_,_,_,_=>none
 | m+1,a,d,e,f,g,h=>bif (decide (a<c)) then ((bK b a).bind fun i=>bif (i.Kind != 1) then (some ((Sum.inl ((false,d,e,f,g,h))))) else (bif decide (a=0) then (du n j b c k l o p m (wr .i64 (a+1)) i.N e f g h) else bif decide (a=1) then (du n j b c k l o p m (wr .i64 (a+1)) d i.N f g h) else bif decide (a=2) then (du n j b c k l o p m (wr .i64 (a+1)) d e i.N g h) else bif decide (a=3) then (du n j b c k l o p m (wr .i64 (a+1)) d e f i.N h) else bif decide (a=4) then (du n j b c k l o p m (wr .i64 (a+1)) d e f g i.N) else none)) else (some ((Sum.inr ((d,e,f,g,h)))))
theorem AL (z:Bool) (l:(List aq)) (a0:Int) (b:Int) (c:Int) (d:Int) (f:aq) {K:((Bool×Int×Int×Int×Int×Int)⊕(Int×Int×Int×Int×Int))->Option γ} (x0:∀ (o:Bool) (p:Int) (q:Int) (o3:Int) (r:Int) (o5:Int) (t:A) (u:A) (w:A) (x:A) (q1:aO) (q2:aO) (q3:aO),J φ (kr (St.mk [(2,(pt 0 0)),(3,(bA o)),(6,t),(53,u),(54,w),(55,x)] [bx [(iA p),(iA q),(iA o3),(iA r),(iA o5),(iA b),(iA c),(iA d)],q1,q2,q3])) kL (K (Sum.inl ((o,p,q,o3,r,o5)))) some) (x1:∀ (o:Int) (p:Int) (q:Int) (o3:Int) (r:Int) (s3:A) (t:A) (u:A) (w:A) (x:A) (q1:aO) (q2:aO),J φ (kx 0 (St.mk [(2,(pt 0 0)),(3,s3),(6,t),(53,u),(54,w),(55,x)] [bx [(iA o),(iA p),(iA q),(iA o3),(iA r),(iA b),(iA c),(iA d)],q1,q2])) kL (K (Sum.inr ((o,p,q,o3,r)))) some) :
  ∀ (m:Nat) (y:Int) (g:Int) (h:Int) (i:Int) (j:Int) (k:Int),J φ (aK (cx C) (ec C n 8) (ey C n 8) (n+8) 35 0 0 3 kx kg kr kp m (St.mk [(2,(pt 0 0)),(3,(bA z)),(6,(cf 2 0 5 false)),(53,(im (l.map av) false)),(54,(iA a0)),(55,(iA y))] [bx [(iA g),(iA h),(iA i),(iA j),(iA k),(iA b),(iA c),(iA d)],bx (al f),aO.row true 1 [[(pt 0 0)],[(pt 0 1)],[(pt 0 2)],[(pt 0 3)],[(pt 0 4)],[(pt 0 0)],[(pt 0 5)],[(pt 0 6)],[(pt 0 7)]]])) kL (du n z l a0 b c d f m y g h i j k) K:=by
  refine nI (fun _ _ _ _ _ _=>.nn) fun m ih y g h i j k=>.lp (E6 ..) ?_
  unfold du
  refine .st (aY ..) (.cd ?_ ?_)
  ·refine .bd ((eX (e:=107) (es:=4)).trans (dH _)) fun a=>.s (ag (al a)) (.sq (pt 3 0) (.s [bx [(iA g),(iA h),(iA i),(iA j),(iA k),(iA b),(iA c),(iA d)],bx (al f),aO.row true 1 [[(pt 0 0)],[(pt 0 1)],[(pt 0 2)],[(pt 0 3)],[(pt 0 4)],[(pt 0 0)],[(pt 0 5)],[(pt 0 6)],[(pt 0 7)]],bx (al a)] (.s2 (iA a.Kind) (.st (aI ..) (.cd ?_ ?_)))))
   ·exact .s (ag [(iA g),(iA h),(iA i),(iA j),(iA k),(iA b),(iA c),(iA d)]) (.s [bx [(iA g),(iA h),(iA i),(iA j),(iA k),(iA b),(iA c),(iA d)],bx (al f),aO.row true 1 [[(pt 0 0)],[(pt 0 1)],[(pt 0 2)],[(pt 0 3)],[(pt 0 4)],[(pt 0 0)],[(pt 0 5)],[(pt 0 6)],[(pt 0 7)]],bx (al a)] (.ex (x0 _ _ _ _ _ _ _ _ _ _ _ _ _)))
   refine .sp (fun a5=>?_) (fun _=>?_)
   ·refine .st (v:=(A.ep 2 0 0)) (by rw[Tv a5]; kernel_rfl) (.s (pt 0 0) (.s2 (iA a.N) (.s (pt 0 0) (.s [bx [(iA a.N),(iA h),(iA i),(iA j),(iA k),(iA b),(iA c),(iA d)],bx (al f),aO.row true 1 [[(pt 0 0)],[(pt 0 1)],[(pt 0 2)],[(pt 0 3)],[(pt 0 4)],[(pt 0 0)],[(pt 0 5)],[(pt 0 6)],[(pt 0 7)]],bx (al a)] (.st (aH ..) (.st (v:=[bx [(iA a.N),(iA h),(iA i),(iA j),(iA k),(iA b),(iA c),(iA d)],bx (al f),aO.row true 1 [[(pt 0 0)],[(pt 0 1)],[(pt 0 2)],[(pt 0 3)],[(pt 0 4)],[(pt 0 0)],[(pt 0 5)],[(pt 0 6)],[(pt 0 7)]]]) (eD r8 u3) (.cT ((by kernel_rfl:_=(bif aW 3 (l.map av) then true else false)).trans s6) ?_)))))))
    exact ih _ _ _ _ _ _
   refine .sp (fun a6=>?_) (fun _=>?_)
   ·refine .st (v:=(A.ep 2 1 0)) (by rw[Tv a6]; kernel_rfl) (.s (pt 0 1) (.s2 (iA a.N) (.s (pt 0 1) (.s [bx [(iA g),(iA a.N),(iA i),(iA j),(iA k),(iA b),(iA c),(iA d)],bx (al f),aO.row true 1 [[(pt 0 0)],[(pt 0 1)],[(pt 0 2)],[(pt 0 3)],[(pt 0 4)],[(pt 0 0)],[(pt 0 5)],[(pt 0 6)],[(pt 0 7)]],bx (al a)] (.st (aH ..) (.st (v:=[bx [(iA g),(iA a.N),(iA i),(iA j),(iA k),(iA b),(iA c),(iA d)],bx (al f),aO.row true 1 [[(pt 0 0)],[(pt 0 1)],[(pt 0 2)],[(pt 0 3)],[(pt 0 4)],[(pt 0 0)],[(pt 0 5)],[(pt 0 6)],[(pt 0 7)]]]) (eD r8 u3) (.cT ((by kernel_rfl:_=(bif aW 3 (l.map av) then true else false)).trans s6) ?_)))))))
    exact ih _ _ _ _ _ _
   refine .sp (fun a7=>?_) (fun _=>?_)
   ·refine .st (v:=(A.ep 2 2 0)) (by rw[Tv a7]; kernel_rfl) (.s (pt 0 2) (.s2 (iA a.N) (.s (pt 0 2) (.s [bx [(iA g),(iA h),(iA a.N),(iA j),(iA k),(iA b),(iA c),(iA d)],bx (al f),aO.row true 1 [[(pt 0 0)],[(pt 0 1)],[(pt 0 2)],[(pt 0 3)],[(pt 0 4)],[(pt 0 0)],[(pt 0 5)],[(pt 0 6)],[(pt 0 7)]],bx (al a)] (.st (aH ..) (.st (v:=[bx [(iA g),(iA h),(iA a.N),(iA j),(iA k),(iA b),(iA c),(iA d)],bx (al f),aO.row true 1 [[(pt 0 0)],[(pt 0 1)],[(pt 0 2)],[(pt 0 3)],[(pt 0 4)],[(pt 0 0)],[(pt 0 5)],[(pt 0 6)],[(pt 0 7)]]]) (eD r8 u3) (.cT ((by kernel_rfl:_=(bif aW 3 (l.map av) then true else false)).trans s6) ?_)))))))
    exact ih _ _ _ _ _ _
   refine .sp (fun a8=>?_) (fun _=>?_)
   ·refine .st (v:=(A.ep 2 3 0)) (by rw[Tv a8]; kernel_rfl) (.s (pt 0 3) (.s2 (iA a.N) (.s (pt 0 3) (.s [bx [(iA g),(iA h),(iA i),(iA a.N),(iA k),(iA b),(iA c),(iA d)],bx (al f),aO.row true 1 [[(pt 0 0)],[(pt 0 1)],[(pt 0 2)],[(pt 0 3)],[(pt 0 4)],[(pt 0 0)],[(pt 0 5)],[(pt 0 6)],[(pt 0 7)]],bx (al a)] (.st (aH ..) (.st (v:=[bx [(iA g),(iA h),(iA i),(iA a.N),(iA k),(iA b),(iA c),(iA d)],bx (al f),aO.row true 1 [[(pt 0 0)],[(pt 0 1)],[(pt 0 2)],[(pt 0 3)],[(pt 0 4)],[(pt 0 0)],[(pt 0 5)],[(pt 0 6)],[(pt 0 7)]]]) (eD r8 u3) (.cT ((by kernel_rfl:_=(bif aW 3 (l.map av) then true else false)).trans s6) ?_)))))))
    exact ih _ _ _ _ _ _
   refine .sp (fun a9=>?_) (fun _=>?_)
   ·refine .st (v:=(A.ep 2 4 0)) (by rw[Tv a9]; kernel_rfl) (.s (pt 0 4) (.s2 (iA a.N) (.s (pt 0 4) (.s [bx [(iA g),(iA h),(iA i),(iA j),(iA a.N),(iA b),(iA c),(iA d)],bx (al f),aO.row true 1 [[(pt 0 0)],[(pt 0 1)],[(pt 0 2)],[(pt 0 3)],[(pt 0 4)],[(pt 0 0)],[(pt 0 5)],[(pt 0 6)],[(pt 0 7)]],bx (al a)] (.st (aH ..) (.st (v:=[bx [(iA g),(iA h),(iA i),(iA j),(iA a.N),(iA b),(iA c),(iA d)],bx (al f),aO.row true 1 [[(pt 0 0)],[(pt 0 1)],[(pt 0 2)],[(pt 0 3)],[(pt 0 4)],[(pt 0 0)],[(pt 0 5)],[(pt 0 6)],[(pt 0 7)]]]) (eD r8 u3) (.cT ((by kernel_rfl:_=(bif aW 3 (l.map av) then true else false)).trans s6) ?_)))))))
    exact ih _ _ _ _ _ _
   exact .nn
  exact .ex (x1 _ _ _ _ _ _ _ _ _ _ _ _)
def dr (n:Nat) (i:Bool) (b:(List aq)) (c:Int) (j:Int) (k:Int) (l:Int) (o:Int) (p:aq):Nat->Int->Int->Int->Int->Int->Option ((Bool×Int×Int×Int×Int)⊕(Int×Int×Int×Int))
 | 0,_,_,_,_,_=>none
 | m+1,a,d,e,f,g=>bif (decide (a<c)) then ((bK b a).bind fun h=>bif (h.Kind != 1) then (some ((Sum.inl ((false,d,e,f,g))))) else (bif decide (a=0) then (dr n i b c j k l o p m (wr .i64 (a+1)) h.N e f g) else bif decide (a=1) then (dr n i b c j k l o p m (wr .i64 (a+1)) d h.N f g) else bif decide (a=2) then (dr n i b c j k l o p m (wr .i64 (a+1)) d e h.N g) else bif decide (a=3) then (dr n i b c j k l o p m (wr .i64 (a+1)) d e f h.N) else none)) else (some ((Sum.inr ((d,e,f,g)))))
theorem zd (y:Bool) (l:(List aq)) (z:Int) (b:Int) (c:Int) (d:Int) (f:Int) (g:aq) {K:((Bool×Int×Int×Int×Int)⊕(Int×Int×Int×Int))->Option γ} (x0:∀ (o:Bool) (p:Int) (q:Int) (o3:Int) (o4:Int) (r:A) (t:A) (u:A) (w:A) (q1:aO) (q2:aO) (q3:aO),J φ (kr (St.mk [(2,(pt 0 0)),(3,(bA o)),(6,r),(53,t),(54,u),(55,w)] [bx [(iA p),(iA b),(iA c),(iA d),(iA f),(iA q),(iA o3),(iA o4)],q1,q2,q3])) kL (K (Sum.inl ((o,p,q,o3,o4)))) some) (x1:∀ (o:Int) (p:Int) (q:Int) (o3:Int) (s3:A) (r:A) (t:A) (u:A) (w:A) (q1:aO) (q2:aO),J φ (kx 0 (St.mk [(2,(pt 0 0)),(3,s3),(6,r),(53,t),(54,u),(55,w)] [bx [(iA o),(iA b),(iA c),(iA d),(iA f),(iA p),(iA q),(iA o3)],q1,q2])) kL (K (Sum.inr ((o,p,q,o3)))) some) :
  ∀ (m:Nat) (x:Int) (h:Int) (i:Int) (j:Int) (k:Int),J φ (aK (cx C) (ec C n 8) (ey C n 8) (n+8) 35 0 0 3 kx kg kr kp m (St.mk [(2,(pt 0 0)),(3,(bA y)),(6,(cf 2 5 4 true)),(53,(im (l.map av) false)),(54,(iA z)),(55,(iA x))] [bx [(iA h),(iA b),(iA c),(iA d),(iA f),(iA i),(iA j),(iA k)],bx (al g),aO.row true 1 [[(pt 0 0)],[(pt 0 1)],[(pt 0 2)],[(pt 0 3)],[(pt 0 4)],[(pt 0 0)],[(pt 0 5)],[(pt 0 6)],[(pt 0 7)]]])) kL (dr n y l z b c d f g m x h i j k) K:=by
  refine nI (fun _ _ _ _ _=>.nn) fun m ih x h i j k=>.lp (E6 ..) ?_
  unfold dr
  refine .st (aY ..) (.cd ?_ ?_)
  ·refine .bd ((eX (e:=107) (es:=4)).trans (dH _)) fun a=>.s (ag (al a)) (.sq (pt 3 0) (.s [bx [(iA h),(iA b),(iA c),(iA d),(iA f),(iA i),(iA j),(iA k)],bx (al g),aO.row true 1 [[(pt 0 0)],[(pt 0 1)],[(pt 0 2)],[(pt 0 3)],[(pt 0 4)],[(pt 0 0)],[(pt 0 5)],[(pt 0 6)],[(pt 0 7)]],bx (al a)] (.s2 (iA a.Kind) (.st (aI ..) (.cd ?_ ?_)))))
   ·exact .s (ag [(iA h),(iA b),(iA c),(iA d),(iA f),(iA i),(iA j),(iA k)]) (.s [bx [(iA h),(iA b),(iA c),(iA d),(iA f),(iA i),(iA j),(iA k)],bx (al g),aO.row true 1 [[(pt 0 0)],[(pt 0 1)],[(pt 0 2)],[(pt 0 3)],[(pt 0 4)],[(pt 0 0)],[(pt 0 5)],[(pt 0 6)],[(pt 0 7)]],bx (al a)] (.ex (x0 _ _ _ _ _ _ _ _ _ _ _ _)))
   refine .sp (fun a4=>?_) (fun _=>?_)
   ·refine .st (v:=(A.ep 2 5 0)) (by rw[Tv a4]; kernel_rfl) (.s (pt 0 0) (.s2 (iA a.N) (.s (pt 0 0) (.s [bx [(iA a.N),(iA b),(iA c),(iA d),(iA f),(iA i),(iA j),(iA k)],bx (al g),aO.row true 1 [[(pt 0 0)],[(pt 0 1)],[(pt 0 2)],[(pt 0 3)],[(pt 0 4)],[(pt 0 0)],[(pt 0 5)],[(pt 0 6)],[(pt 0 7)]],bx (al a)] (.st (aH ..) (.st (v:=[bx [(iA a.N),(iA b),(iA c),(iA d),(iA f),(iA i),(iA j),(iA k)],bx (al g),aO.row true 1 [[(pt 0 0)],[(pt 0 1)],[(pt 0 2)],[(pt 0 3)],[(pt 0 4)],[(pt 0 0)],[(pt 0 5)],[(pt 0 6)],[(pt 0 7)]]]) (eD r8 u3) (.cT ((by kernel_rfl:_=(bif aW 3 (l.map av) then true else false)).trans s6) ?_)))))))
    exact ih _ _ _ _ _
   refine .sp (fun a5=>?_) (fun _=>?_)
   ·refine .st (v:=(A.ep 2 6 0)) (by rw[Tv a5]; kernel_rfl) (.s (pt 0 5) (.s2 (iA a.N) (.s (pt 0 5) (.s [bx [(iA h),(iA b),(iA c),(iA d),(iA f),(iA a.N),(iA j),(iA k)],bx (al g),aO.row true 1 [[(pt 0 0)],[(pt 0 1)],[(pt 0 2)],[(pt 0 3)],[(pt 0 4)],[(pt 0 0)],[(pt 0 5)],[(pt 0 6)],[(pt 0 7)]],bx (al a)] (.st (aH ..) (.st (v:=[bx [(iA h),(iA b),(iA c),(iA d),(iA f),(iA a.N),(iA j),(iA k)],bx (al g),aO.row true 1 [[(pt 0 0)],[(pt 0 1)],[(pt 0 2)],[(pt 0 3)],[(pt 0 4)],[(pt 0 0)],[(pt 0 5)],[(pt 0 6)],[(pt 0 7)]]]) (eD r8 u3) (.cT ((by kernel_rfl:_=(bif aW 3 (l.map av) then true else false)).trans s6) ?_)))))))
    exact ih _ _ _ _ _
   refine .sp (fun a6=>?_) (fun _=>?_)
   ·refine .st (v:=(A.ep 2 7 0)) (by rw[Tv a6]; kernel_rfl) (.s (pt 0 6) (.s2 (iA a.N) (.s (pt 0 6) (.s [bx [(iA h),(iA b),(iA c),(iA d),(iA f),(iA i),(iA a.N),(iA k)],bx (al g),aO.row true 1 [[(pt 0 0)],[(pt 0 1)],[(pt 0 2)],[(pt 0 3)],[(pt 0 4)],[(pt 0 0)],[(pt 0 5)],[(pt 0 6)],[(pt 0 7)]],bx (al a)] (.st (aH ..) (.st (v:=[bx [(iA h),(iA b),(iA c),(iA d),(iA f),(iA i),(iA a.N),(iA k)],bx (al g),aO.row true 1 [[(pt 0 0)],[(pt 0 1)],[(pt 0 2)],[(pt 0 3)],[(pt 0 4)],[(pt 0 0)],[(pt 0 5)],[(pt 0 6)],[(pt 0 7)]]]) (eD r8 u3) (.cT ((by kernel_rfl:_=(bif aW 3 (l.map av) then true else false)).trans s6) ?_)))))))
    exact ih _ _ _ _ _
   refine .sp (fun a7=>?_) (fun _=>?_)
   ·refine .st (v:=(A.ep 2 8 0)) (by rw[Tv a7]; kernel_rfl) (.s (pt 0 7) (.s2 (iA a.N) (.s (pt 0 7) (.s [bx [(iA h),(iA b),(iA c),(iA d),(iA f),(iA i),(iA j),(iA a.N)],bx (al g),aO.row true 1 [[(pt 0 0)],[(pt 0 1)],[(pt 0 2)],[(pt 0 3)],[(pt 0 4)],[(pt 0 0)],[(pt 0 5)],[(pt 0 6)],[(pt 0 7)]],bx (al a)] (.st (aH ..) (.st (v:=[bx [(iA h),(iA b),(iA c),(iA d),(iA f),(iA i),(iA j),(iA a.N)],bx (al g),aO.row true 1 [[(pt 0 0)],[(pt 0 1)],[(pt 0 2)],[(pt 0 3)],[(pt 0 4)],[(pt 0 0)],[(pt 0 5)],[(pt 0 6)],[(pt 0 7)]]]) (eD r8 u3) (.cT ((by kernel_rfl:_=(bif aW 3 (l.map av) then true else false)).trans s6) ?_)))))))
    exact ih _ _ _ _ _
   exact .nn
  exact .ex (x1 _ _ _ _ _ _ _ _ _ _ _)
def KT (n:Nat) (c:(List UInt8)):Option (aP×Bool):=
 (Ia c).bind fun a=>(bif (a.2 != 0) then (some true) else (some (a.1.Kind != 3))).bind fun d=>(bif d then (some true) else (some (((a.1.L.length:Int))==0))).bind fun e=>bif e then (some (((aP.mk 0 ((bw.mk 0 0 0 0)) ((bz.mk 0 0 0))),false))) else ((bK a.1.L 0).bind fun b=>bif (b.N==1) then ((bif (b.N != 1) then (some (b.N != 2)) else (some false)).bind fun f=>(bif f then (some true) else (some (((a.1.L.length:Int)) != 5))).bind fun g=>bif g then (some (((aP.mk b.N ((bw.mk 0 0 0 0)) ((bz.mk 0 0 0))),false))) else ((du n false a.1.L ((a.1.L.length:Int)) 0 0 0 a.1 (n+8) 0 b.N 0 0 0 0).bind fun h=>match h with | (Sum.inl ((i,j,k,l,o,p)))=>some (((aP.mk j ((bw.mk k l o p)) ((bz.mk 0 0 0))),i)) | (Sum.inr ((q,r,s,t,u)))=>some (((aP.mk q ((bw.mk r s t u)) ((bz.mk 0 0 0))),true)))) else ((bif (b.N != 1) then (some (b.N != 2)) else (some false)).bind fun v=>(bif v then (some true) else (some (((a.1.L.length:Int)) != 4))).bind fun w=>bif w then (some (((aP.mk b.N ((bw.mk 0 0 0 0)) ((bz.mk 0 0 0))),false))) else ((dr n false a.1.L ((a.1.L.length:Int)) 0 0 0 0 a.1 (n+8) 0 b.N 0 0 0).bind fun x=>match x with | (Sum.inl ((y,z,a1,a2,a3)))=>some (((aP.mk z ((bw.mk 0 0 0 0)) ((bz.mk a1 a2 a3))),y)) | (Sum.inr ((a4,a5,a6,a7)))=>some (((aP.mk a4 ((bw.mk 0 0 0 0)) ((bz.mk a5 a6 a7))),true)))))
theorem Re (C:OT) (n:Nat) (am:ES C) (c:(List UInt8)):TJ C n 35 [(im (c.map c8) false)] (KT n c) (fun y=>(tp [(ag (ax y.1)),(bA y.2)])):=by
 refine .lp (R3 ..) ?_
 unfold KT
 refine .s ((pt 0 0),[bx [(iA 0),(iA 0),(iA 0),(iA 0),(iA 0),(iA 0),(iA 0),(iA 0)]]) (.bd (g:=fun (y:(aq×Int))=>(tp [(ag (al y.1)),(iA y.2)])) (by simp only[cP,eu]; exact am c) fun a=>.s (ag (al a.1)) (.s (iA a.2) (.sq (pt 1 0) (.s [bx [(iA 0),(iA 0),(iA 0),(iA 0),(iA 0),(iA 0),(iA 0),(iA 0)],bx (al a.1)] (.st (aI ..) (.bg (fun t (y:Bool)=>∃ q r u:A,t=[(bA y),q,r,u]) ?_ ?_))))))
 ·refine .bi ?_ ?_
  ·exact .lg ⟨_,_,_,rfl⟩
  exact .s (pt 1 0) (.s (iA a.1.Kind) (.st (aI ..) (.lg ⟨_,_,_,rfl⟩)))
 rintro _ y3 ⟨q,r,u,rfl⟩
 refine .u4 (.bg (fun t (y:Bool)=>∃ v w x z:A,t=[(bA y),v,w,x,z]) ?_ ?_)
 ·refine .bi ?_ ?_
  ·exact .lg ⟨_,_,_,_,rfl⟩
  exact .s (pt 1 3) (.s (im (a.1.L.map av) false) (.st (dT (e:=107)) (.st (aX ..) (.lg ⟨_,_,_,_,rfl⟩))))
 rintro _ y8 ⟨v,w,x,z,rfl⟩
 refine .u4 (.uc (.cd ?_ ?_))
 ·exact .s (ag [(iA 0),(iA 0),(iA 0),(iA 0),(iA 0),(iA 0),(iA 0),(iA 0)]) (.s [bx [(iA 0),(iA 0),(iA 0),(iA 0),(iA 0),(iA 0),(iA 0),(iA 0)],bx (al a.1)] (.s (ag [(iA 0),(iA 0),(iA 0),(iA 0),(iA 0),(iA 0),(iA 0),(iA 0)]) (.lv rfl)))
 refine .s2 (im (a.1.L.map av) false) (.bd ((eX (e:=107) (es:=4)).trans (dH _)) fun b=>.s2 (iA b.N) (.s (pt 0 0) (.sh (.cl ((aV Fq).trans (Pt ..)) (.s (pt 0 0) (.s (pt 0 0) (.s (pt 0 0) (.s (pt 0 1) (.s (pt 0 1) (.s (pt 0 0) (.s (pt 0 1) (.s (pt 0 2) (.s (pt 0 0) (.s (pt 0 1) (.s (pt 0 3) (.s (pt 0 0) (.s (pt 0 1) (.s (pt 0 4) (.s (pt 0 0) (.s (pt 0 0) (.s (pt 0 0) (.s (pt 0 5) ?_))))))))))))))))))))))
 refine .s (pt 0 5) (.s (pt 0 0) (.s (pt 0 5) (.s (pt 0 6) (.s (pt 0 0) (.s (pt 0 5) (.s (pt 0 7) (.s (ag [(pt 0 0),(pt 0 1),(pt 0 2),(pt 0 3),(pt 0 4),(pt 0 0),(pt 0 5),(pt 0 6),(pt 0 7)]) (.cT r8 (.sq (A.ep 2 0 0) (.s [bx [(iA b.N),(iA 0),(iA 0),(iA 0),(iA 0),(iA 0),(iA 0),(iA 0)],bx (al a.1),aO.row true 1 [[(pt 0 0)],[(pt 0 1)],[(pt 0 2)],[(pt 0 3)],[(pt 0 4)],[(pt 0 0)],[(pt 0 5)],[(pt 0 6)],[(pt 0 7)]]] (.s (pt 0 0) (.s2 (iA b.N) (.st (aX ..) (.cd ?_ ?_))))))))))))))
 ·refine .s (cf 2 0 5 false) (.cr (.ok (.s2 (iA b.N) (.st (aI ..) (.bg (fun t (y:Bool)=>∃ a1 a2 a3:A,t=[(bA y),a1,a2,a3]) ?_ ?_)))))
  ·refine .bi ?_ ?_
   ·exact .s (pt 0 0) (.s (iA b.N) (.st (aI ..) (.lg ⟨_,_,_,rfl⟩)))
   exact .lg ⟨_,_,_,rfl⟩
  rintro _ b3 ⟨a1,a2,a3,rfl⟩
  refine .u4 (.bg (fun t (y:Bool)=>∃ a4 a5 a6 a7 a8 a9:A,t=[(bA y),a4,a5,a6,a7,a8,a9]) ?_ ?_)
  ·refine .bi ?_ ?_
   ·exact .lg ⟨_,_,_,_,_,_,rfl⟩
   exact .s (pt 1 3) (.s (im (a.1.L.map av) false) (.st (dT (e:=107)) (.s (iA 5) (.st (aI ..) (.lg ⟨_,_,_,_,_,_,rfl⟩)))))
  rintro _ b4 ⟨a4,a5,a6,a7,a8,a9,rfl⟩
  refine .u4 (.uc (.uc (.uc (.cd ?_ ?_))))
  ·exact .s (ag [(iA b.N),(iA 0),(iA 0),(iA 0),(iA 0),(iA 0),(iA 0),(iA 0)]) (.s [bx [(iA b.N),(iA 0),(iA 0),(iA 0),(iA 0),(iA 0),(iA 0),(iA 0)],bx (al a.1),aO.row true 1 [[(pt 0 0)],[(pt 0 1)],[(pt 0 2)],[(pt 0 3)],[(pt 0 4)],[(pt 0 0)],[(pt 0 5)],[(pt 0 6)],[(pt 0 7)]]] (.s (ag [(iA b.N),(iA 0),(iA 0),(iA 0),(iA 0),(iA 0),(iA 0),(iA 0)]) (.lv rfl)))
  refine .s2 (im (a.1.L.map av) false) (.st (dT (e:=107)) (.as (AL C n _ _ _ _ false a.1.L ((a.1.L.length:Int)) 0 0 0 a.1 ?_ ?_ _ 0 b.N 0 0 0 0)))
  ·intro b5 an ao ap ar au b6 b7 b8 b9 w243 w244 w245
   exact .un rfl (.s (ag [(iA an),(iA ao),(iA ap),(iA ar),(iA au),(iA 0),(iA 0),(iA 0)]) (.lv rfl))
  ·intro d f h i j ba bb bc be bf w256 w257
   exact .un rfl (.cT r8 (.s (ag [(iA d),(iA f),(iA h),(iA i),(iA j),(iA 0),(iA 0),(iA 0)]) (.s [bx [(iA d),(iA f),(iA h),(iA i),(iA j),(iA 0),(iA 0),(iA 0)],w256,w257] (.s (ag [(iA d),(iA f),(iA h),(iA i),(iA j),(iA 0),(iA 0),(iA 0)]) (.lv rfl)))))
 refine .s (cf 2 5 4 true) (.cr (.ok (.s2 (iA b.N) (.st (aI ..) (.bg (fun t (y:Bool)=>∃ aa ab ad:A,t=[(bA y),aa,ab,ad]) ?_ ?_)))))
 ·refine .bi ?_ ?_
  ·exact .s (pt 0 0) (.s (iA b.N) (.st (aI ..) (.lg ⟨_,_,_,rfl⟩)))
  exact .lg ⟨_,_,_,rfl⟩
 rintro _ bh ⟨aa,ab,ad,rfl⟩
 refine .u4 (.bg (fun t (y:Bool)=>∃ ae af ah ai aj ak:A,t=[(bA y),ae,af,ah,ai,aj,ak]) ?_ ?_)
 ·refine .bi ?_ ?_
  ·exact .lg ⟨_,_,_,_,_,_,rfl⟩
  exact .s (pt 1 3) (.s (im (a.1.L.map av) false) (.st (dT (e:=107)) (.s (iA 4) (.st (aI ..) (.lg ⟨_,_,_,_,_,_,rfl⟩)))))
 rintro _ bj ⟨ae,af,ah,ai,aj,ak,rfl⟩
 refine .u4 (.uc (.uc (.uc (.cd ?_ ?_))))
 ·exact .s (ag [(iA b.N),(iA 0),(iA 0),(iA 0),(iA 0),(iA 0),(iA 0),(iA 0)]) (.s [bx [(iA b.N),(iA 0),(iA 0),(iA 0),(iA 0),(iA 0),(iA 0),(iA 0)],bx (al a.1),aO.row true 1 [[(pt 0 0)],[(pt 0 1)],[(pt 0 2)],[(pt 0 3)],[(pt 0 4)],[(pt 0 0)],[(pt 0 5)],[(pt 0 6)],[(pt 0 7)]]] (.s (ag [(iA b.N),(iA 0),(iA 0),(iA 0),(iA 0),(iA 0),(iA 0),(iA 0)]) (.lv rfl)))
 refine .s2 (im (a.1.L.map av) false) (.st (dT (e:=107)) (.as (zd C n _ _ _ _ false a.1.L ((a.1.L.length:Int)) 0 0 0 0 a.1 ?_ ?_ _ 0 b.N 0 0 0)))
 ·intro bk aw ay az b0 bl bm bn bo w479 w480 w481
  exact .un rfl (.s (ag [(iA aw),(iA 0),(iA 0),(iA 0),(iA 0),(iA ay),(iA az),(iA b0)]) (.lv rfl))
 ·intro k l o p bp bq br bs bt w491 w492
  exact .un rfl (.cT r8 (.s (ag [(iA k),(iA 0),(iA 0),(iA 0),(iA 0),(iA l),(iA o),(iA p)]) (.s [bx [(iA k),(iA 0),(iA 0),(iA 0),(iA 0),(iA l),(iA o),(iA p)],w491,w492] (.s (ag [(iA k),(iA 0),(iA 0),(iA 0),(iA 0),(iA l),(iA o),(iA p)]) (.lv rfl)))))
def HU (a:(List UInt8)):Option (aP×Bool):=KT aB a
def Al (C:OT):Prop:=∀ (a:(List UInt8)),C 35 [(im (a.map c8) false)]=(HU a).map fun y=>(tp [(ag (ax y.1)),(bA y.2)])
def jX (n:Nat) (f:Int) (b:Int) (c:(List bH)) (d:Int) (e:aw):Nat->Int->Option ((Int)⊕(Unit))
 | 0,_=>none
 | m+1,a=>bif (decide (a<d)) then ((bK c a).bind fun g=>(HT g a b e.Bar).bind fun h=>bif (!h) then (some ((Sum.inl 490))) else (jX n f b c d e m (wr .i64 (a+1)))) else (some ((Sum.inr (()))))
theorem Az (p:Ak C) (f:Int) (b:Int) (h:(List bH)) (l:Int) (a:aw) {K:((Int)⊕(Unit))->Option γ} (q:∀ (o:Int) (r:A) (t:A) (i:A) (j:A) (k:A) (q0:aO) (q1:aO),J φ (kr (St.mk [(1,r),(2,(iA o)),(3,t),(31,i),(32,j),(33,k)] [q0,q1])) kL (K (Sum.inl o)) some) (u:∀ (i:A) (j:A) (k:A),J φ (kx 0 (St.mk [(1,(pt 0 0)),(2,(iA f)),(3,(iA b)),(31,i),(32,j),(33,k)] [bx (ak a)])) kL (K (Sum.inr (()))) some) :
  ∀ (m:Nat) (c:Int),J φ (aK (cx C) (ec C n 8) (ey C n 8) (n+8) 13 0 0 1 kx kg kr kp m (St.mk [(1,(pt 0 0)),(2,(iA f)),(3,(iA b)),(31,(im (h.map aC) false)),(32,(iA l)),(33,(iA c))] [bx (ak a)])) kL (jX n f b h l a m c) K:=by
  refine nI (fun _=>.nn) fun m ih c=>.lp (IE ..) ?_
  unfold jX
  refine .st (aY ..) (.cd ?_ ?_)
  ·refine .bd (eX (e:=55) (es:=3)) fun d=>.s (ag (aC d)) (.sq (pt 1 0) (.s [bx (ak a),bx (aC d)] (.s (ag (aC d)) (.s2 (iA a.Bar) (.bd (g:=fun (y:Bool)=>(bA y)) (by simp only[cP,eu]; exact p d c b a.Bar) fun w=>.s (bA (!w)) (.cd ?_ ?_))))))
   ·exact .ex (q _ _ _ _ _ _ _ _)
   refine .st (aH ..) (.st (v:=[bx (ak a)]) (eD r8 u3) (.cT ((by kernel_rfl:_=(bif aW 1 (h.map aC) then true else false)).trans s6) ?_))
   exact ih _
  exact .ex (u _ _ _)
def ig (n:Nat) (h:Int) (b:Int) (f:(List az)) (g:Int) (c:aw):Nat->Int->Option ((Int)⊕(Unit))
 | 0,_=>none
 | m+1,d=>bif (decide (d<g)) then ((bK f d).bind fun e=>(HU e.Data).bind fun a=>(bif a.2 then (some (a.1.kind==1)) else (some false)).bind fun i=>bif i then ((FO a.1.cue b).bind fun j=>(bif j then (some (e.From==0)) else (some false)).bind fun k=>(bif k then (some (e.To==(wr .i64 (a.1.cue.Role+1)))) else (some false)).bind fun l=>bif (!l) then (some ((Sum.inl 490))) else (ig n h b f g c m (wr .i64 (d+1)))) else (bif a.2 then ((xO a.1.report.Role 0 (wr .i64 (b - 1))).bind fun o=>(bif o then ((xO a.1.report.Bar 0 (wr .i64 (c.Bar - 1))).bind fun p=>some p) else (some false)).bind fun q=>(bif q then (some (e.From==(wr .i64 (a.1.report.Role+1)))) else (some false)).bind fun r=>(bif r then (some (e.To==0)) else (some false)).bind fun s=>(bif s then ((bK c.Ears a.1.report.Role).bind fun t=>(bK t.Did a.1.report.Bar).bind fun u=>some (u==a.1.report.Program)) else (some false)).bind fun v=>bif (!v) then (some ((Sum.inl 490))) else (ig n h b f g c m (wr .i64 (d+1)))) else (bif (!a.2) then (some ((Sum.inl 490))) else (ig n h b f g c m (wr .i64 (d+1)))))) else (some ((Sum.inr (()))))
theorem AA (b1:rW C) (r:p0 C) (b2:Al C) (u:Int) (f:Int) (d:(List az)) (w:Int) (b:aw) {K:((Int)⊕(Unit))->Option γ} (h:∀ (x:Int) (i:A) (j:A) (k:A) (l:A) (o:A) (q0:aO) (q1:aO) (q2:aO) (q3:aO) (q4:aO),J φ (kr (St.mk [(1,i),(2,(iA x)),(3,j),(48,k),(49,l),(50,o)] [q0,q1,q2,q3,q4])) kL (K (Sum.inl x)) some) (x1:∀ (i:A) (s2:A) (j:A) (k:A) (l:A) (o:A) (q0:aO),J φ (kx 2 (St.mk [(1,i),(2,s2),(3,j),(48,k),(49,l),(50,o)] [q0])) kL (K (Sum.inr (()))) some) :
  ∀ (m:Nat) (p:Int),J φ (aK (cx C) (ec C n 8) (ey C n 8) (n+8) 13 0 1 1 kx kg kr kp m (St.mk [(1,(pt 0 0)),(2,(iA u)),(3,(iA f)),(48,(im (d.map ar) false)),(49,(iA w)),(50,(iA p))] [bx (ak b)])) kL (ig n u f d w b m p) K:=by
  refine nI (fun _=>.nn) fun m ih p=>.lp (IG ..) ?_
  unfold ig
  refine .st (aY ..) (.cd ?_ ?_)
  ·refine .bd (eX (e:=48) (es:=3)) fun c=>.s (ag (ar c)) (.sq (pt 1 0) (.s [bx (ak b),bx (ar c)] (.s2 (im (c.Data.map c8) false) (.bd (g:=fun (y:(aP×Bool))=>(tp [(ag (ax y.1)),(bA y.2)])) (by simp only[cP,eu]; exact b2 c.Data) fun a=>.s (ag (ax a.1)) (.s (bA a.2) (.sq (pt 2 0) (.sh (.sq (pt 3 0) (.s ((pt 4 0),[bx (ak b),bx (ar c),bx (ax a.1),bx [(iA 0),(iA 0),(iA 0),(iA 0)],bx [(iA 0),(iA 0),(iA 0)]]) (.s2 (ag (aE a.1.cue)) (.s (pt 2 5) (.s (ag (aA a.1.report)) (.cT r8 (.sh (.s [bx (ak b),bx (ar c),bx (ax a.1),bx (aE a.1.cue),bx (aA a.1.report)] (.bg (fun t (y:Bool)=>∃ z a0 a1:A,t=[(bA y),z,a0,a1]) ?_ ?_))))))))))))))))
   ·refine .bi ?_ ?_
    ·exact .s (pt 2 0) (.s (iA a.1.kind) (.st (aX ..) (.lg ⟨_,_,_,rfl⟩)))
    exact .lg ⟨_,_,_,rfl⟩
   rintro _ b7 ⟨z,a0,a1,rfl⟩
   refine .u4 (.cd ?_ ?_)
   ·refine .s (ag (aE a.1.cue)) (.bd (b1 a.1.cue f) fun b8=>.bg (fun t (y:Bool)=>∃ a2 a3 a4:A,t=[(bA y),a2,a3,a4]) ?_ ?_)
    ·refine .bi ?_ ?_
     ·exact .s (pt 1 0) (.s (iA c.From) (.st (aX ..) (.lg ⟨_,_,_,rfl⟩)))
     exact .lg ⟨_,_,_,rfl⟩
    rintro _ b9 ⟨a2,a3,a4,rfl⟩
    refine .u4 (.bg (fun t (y:Bool)=>∃ a5 a6 a7 a8 a9 aa:A,t=[(bA y),a5,a6,a7,a8,a9,aa]) ?_ ?_)
    ·refine .bi ?_ ?_
     ·exact .s (pt 1 1) (.s (iA c.To) (.s (pt 3 1) (.s (iA a.1.cue.Role) (.st (aH ..) (.st (aX ..) (.lg ⟨_,_,_,_,_,_,rfl⟩))))))
     exact .lg ⟨_,_,_,_,_,_,rfl⟩
    rintro _ b4 ⟨a5,a6,a7,a8,a9,aa,rfl⟩
    refine .u4 (.uc (.uc (.uc (.s (bA (!b4)) (.cd ?_ ?_)))))
    ·exact .ex (h _ _ _ _ _ _ _ _ _ _ _)
    refine .st (aH ..) (.st (v:=[bx (ak b)]) (eD r8 u3) (.cT ((by kernel_rfl:_=(bif aW 1 (d.map ar) then true else false)).trans s6) ?_))
    exact ih _
   refine .cd ?_ ?_
   ·refine .s2 (iA a.1.report.Role) (.st (dk ..) (.bd (r a.1.report.Role 0 (wr .i64 (f - 1))) fun ba=>.bg (fun t (y:Bool)=>∃ ab ad ae af ah ai:A,t=[(bA y),ab,ad,ae,af,ah,ai]) ?_ ?_))
    ·refine .bi ?_ ?_
     ·exact .s (pt 4 1) (.s (iA a.1.report.Bar) (.s (pt 0 3) (.s (iA b.Bar) (.st (dk ..) (.bd (r a.1.report.Bar 0 (wr .i64 (b.Bar - 1))) fun bc=>.lg ⟨_,_,_,_,_,_,rfl⟩)))))
     exact .lg ⟨_,_,_,_,_,_,rfl⟩
    rintro _ be ⟨ab,ad,ae,af,ah,ai,rfl⟩
    refine .u4 (.uc (.uc (.uc (.bg (fun t (y:Bool)=>∃ aj al am an ao ap:A,t=[(bA y),aj,al,am,an,ao,ap]) ?_ ?_))))
    ·refine .bi ?_ ?_
     ·exact .s (pt 1 0) (.s (iA c.From) (.s (pt 4 0) (.s (iA a.1.report.Role) (.st (aH ..) (.st (aX ..) (.lg ⟨_,_,_,_,_,_,rfl⟩))))))
     exact .lg ⟨_,_,_,_,_,_,rfl⟩
    rintro _ bf ⟨aj,al,am,an,ao,ap,rfl⟩
    refine .u4 (.uc (.uc (.uc (.bg (fun t (y:Bool)=>∃ aq au av:A,t=[(bA y),aq,au,av]) ?_ ?_))))
    ·refine .bi ?_ ?_
     ·exact .s (pt 1 1) (.s (iA c.To) (.st (aX ..) (.lg ⟨_,_,_,rfl⟩)))
     exact .lg ⟨_,_,_,rfl⟩
    rintro _ bh ⟨aq,au,av,rfl⟩
    refine .u4 (.Kl (.bg (fun t (y:Bool)=>∃ ay:A,t=[(bA y),ay]) ?_ ?_))
    ·refine .Fb (fun q=>?_) (fun q=>?_)
     ·exact .bb (.s (pt 0 2) (.s (im (b.Ears.map aC) false) (.s (pt 4 0) (.s (iA a.1.report.Role) (.bd (eX (e:=55) (es:=3)) fun b0=>.s (A.ip [(im (b0.Did.map (cI .i64)) false)]) (.s (im (b0.Did.map (cI .i64)) false) (.s (pt 4 1) (.s (iA a.1.report.Bar) (.bd (eX (e:=3) (es:=1)) fun b5=>.s (iA b5) (.s (pt 4 2) (.s (iA a.1.report.Program) (.cr (.u4 (.u4 (.u4 (.uc (.uD q (.st (aX ..) (.lg ⟨_,rfl⟩)))))))))))))))))))
     exact .bb (.cr (.u4 (.u4 (.u4 (.uc (.sm q (.lg ⟨_,rfl⟩)))))))
    rintro _ b6 ⟨ay,rfl⟩
    refine .uc (.uc (.s (bA (!b6)) (.cd ?_ ?_)))
    ·exact .ex (h _ _ _ _ _ _ _ _ _ _ _)
    refine .st (aH ..) (.st (v:=[bx (ak b)]) (eD r8 u3) (.cT ((by kernel_rfl:_=(bif aW 1 (d.map ar) then true else false)).trans s6) ?_))
    exact ih _
   refine .s (bA (!a.2)) (.cd ?_ ?_)
   ·exact .ex (h _ _ _ _ _ _ _ _ _ _ _)
   refine .st (aH ..) (.st (v:=[bx (ak b)]) (eD r8 u3) (.cT ((by kernel_rfl:_=(bif aW 1 (d.map ar) then true else false)).trans s6) ?_))
   exact ih _
  exact .ex (x1 _ _ _ _ _ _ _)
def KE (n:Nat) (a:aw):Option Int:=
 (xO ((a.Ears.length:Int)) 1 12).bind fun b=>(bif (!b) then (some true) else ((xO a.Bar 0 4096).bind fun c=>some (!c))).bind fun d=>(bif d then (some true) else ((Ho a.Net).bind fun e=>some (e != 0))).bind fun f=>bif f then (some 490) else ((jX n 0 ((a.Ears.length:Int)) a.Ears ((a.Ears.length:Int)) a (n+8) 0).bind fun g=>match g with | (Sum.inl h)=>some h | (Sum.inr _)=>(ig n 0 ((a.Ears.length:Int)) a.Net.Queue ((a.Net.Queue.length:Int)) a (n+8) 0).bind fun i=>match i with | (Sum.inl j)=>some j | (Sum.inr _)=>some 0)
theorem QX (C:OT) (n:Nat) (o:rW C) (b:p0 C) (p:Aj C) (q:Ak C) (r:Al C) (a:aw):TJ C n 13 [(ag (ak a))] (KE n a) (fun y=>(iA y)):=by
 refine .lp (RM ..) ?_
 unfold KE
 refine .s ((pt 0 0),[bx (ak a)]) (.s2 (im (a.Ears.map aC) false) (.st (dT (e:=55)) (.bd (b ((a.Ears.length:Int)) 1 12) fun u=>.s (bA (!u)) (.bg (fun t (y:Bool)=>∃ c d f h:A,t=[(bA y),c,d,f,h]) ?_ ?_))))
 ·refine .bi ?_ ?_
  ·exact .lg ⟨_,_,_,_,rfl⟩
  exact .s (pt 0 3) (.s (iA a.Bar) (.bd (b a.Bar 0 4096) fun v=>.s (bA (!v)) (.lg ⟨_,_,_,_,rfl⟩)))
 rintro _ w ⟨c,d,f,h,rfl⟩
 refine .u4 (.uc (.bg (fun t (y:Bool)=>∃ i j k l:A,t=[(bA y),i,j,k,l]) ?_ ?_))
 ·refine .bi ?_ ?_
  ·exact .lg ⟨_,_,_,_,rfl⟩
  exact .s (pt 0 0) (.s (ag [(im (a.Net.Queue.map ar) false),(im (a.Net.Apart.map au) false)]) (.bd (g:=fun (y:Int)=>(iA y)) (by simp only[cP,eu]; exact p a.Net) fun x=>.st (aI ..) (.lg ⟨_,_,_,_,rfl⟩)))
 rintro _ z ⟨i,j,k,l,rfl⟩
 refine .u4 (.uc (.cd ?_ ?_))
 ·exact .lv rfl
 refine .s2 (im (a.Ears.map aC) false) (.st (dT (e:=55)) (.as (Az C n _ _ _ _ q 0 ((a.Ears.length:Int)) a.Ears ((a.Ears.length:Int)) a ?_ ?_ _ 0)))
 ·intro a1 a2 a3 a4 a5 a6 w114 w115
  exact .un rfl (.lv rfl)
 ·intro a7 a8 a9
  refine .un rfl (.cT r8 (.s (pt 0 0) (.s2 (im (a.Net.Queue.map ar) false) (.st (dT (e:=48)) (.as (AA C n _ _ _ _ o b r 0 ((a.Ears.length:Int)) a.Net.Queue ((a.Net.Queue.length:Int)) a ?_ ?_ _ 0))))))
  ·intro aa ab ad ae af ah w354 w355 w356 w357 w358
   exact .un rfl (.lv rfl)
  ·intro ai aj al am an ao w365
   exact .un rfl (.cT r8 (.lv rfl))
def Ev (a:aw):Option Int:=KE aB a
def xQ (C:OT):Prop:=∀ (a:aw),C 13 [(ag (ak a))]=(Ev a).map fun y=>(iA y)
def wE (C:OT) (self:aq->Option (Int×Bool)):Prop:=∀ (a:aq),C 96 [(ag (al a))]=(self a).map fun y=>(tp [(iA y.1),(bA y.2)])
def jk (self:aq->Option (Int×Bool)) (n:Nat) (f:Bool) (d:(List aq)) (e:Int) (g:aq) (h:Bool) (i:Bool) (j:Bool) (k:Bool):Nat->Int->Int->Option ((Int×Bool)⊕(Int))
 | 0,_,_=>none
 | m+1,a,b=>bif (decide (b<e)) then ((bK d b).bind fun l=>(self l).bind fun c=>bif (!c.2) then (some ((Sum.inl ((0,false))))) else (jk self n f d e g h i j k m ((if a<c.1 then c.1 else a)) (wr .i64 (b+1)))) else (some ((Sum.inr a)))
theorem AX (self:aq->Option (Int×Bool)) (hS:wE C self) (t:Bool) (l:(List aq)) (u:Int) (f:aq) (h:Bool) (i:Bool) (j:Bool) (k:Bool) {K:((Int×Bool)⊕(Int))->Option γ} (x:∀ (a:Int) (w:Bool) (o:A) (p:A) (q:A) (q0:aO) (q1:aO) (q2:aO),J φ (kr (St.mk [(2,(iA a)),(3,(bA w)),(55,o),(56,p),(57,q)] [q0,q1,q2])) kL (K (Sum.inl ((a,w)))) some) (z:∀ (a:Int) (s3:A) (o:A) (p:A) (q:A) (q0:aO) (q1:aO),J φ (kx 0 (St.mk [(2,(iA a)),(3,s3),(55,o),(56,p),(57,q)] [q0,q1])) kL (K (Sum.inr a)) some) :
  ∀ (m:Nat) (b:Int) (r:Int),J φ (aK (cx C) (ec C n 8) (ey C n 8) (n+8) 96 0 0 2 kx kg kr kp m (St.mk [(2,(iA b)),(3,(bA t)),(55,(im (l.map av) false)),(56,(iA u)),(57,(iA r))] [bx (al f),bx [(bA h),(bA i),(bA j),(bA k)]])) kL (jk self n t l u f h i j k m b r) K:=by
  refine nI (fun _ _=>.nn) fun m ih b r=>.lp (I6 ..) ?_
  unfold jk
  refine .st (aY ..) (.cd ?_ ?_)
  ·refine .bd ((eX (e:=107) (es:=4)).trans (dH _)) fun c=>.s (ag (al c)) (.sq (pt 2 0) (.s [bx (al f),bx [(bA h),(bA i),(bA j),(bA k)],bx (al c)] (.s (ag (al c)) (.bd (g:=fun (y:(Int×Bool))=>(tp [(iA y.1),(bA y.2)])) (by show C 96 [snap _ (ag (al c))]=_; simp only[cP,eu]; exact hS c) fun d=>.s (iA d.1) (.s (bA d.2) (.s (bA (!d.2)) (.cd ?_ ?_)))))))
   ·exact .ex (x _ _ _ _ _ _ _ _)
   refine .s (iA ((if b<d.1 then d.1 else b))) (.st (aH ..) (.st (v:=[bx (al f),bx [(bA h),(bA i),(bA j),(bA k)]]) (eD r8 u3) (.cT ((by kernel_rfl:_=(bif aW 2 (l.map av) then true else false)).trans s6) ?_)))
   exact ih _ _
  exact .ex (z _ _ _ _ _ _ _)
def HJ (self:aq->Option (Int×Bool)) (n:Nat) (a:aq):Option (Int×Bool):=
 (bif (iI a.S ((ByteArray.mk #[]))) then (some (((a.L.length:Int))==0)) else (some false)).bind fun b=>(bif (a.N==0) then (some (((a.L.length:Int))==0)) else (some false)).bind fun c=>(bif (a.N==0) then (some (iI a.S ((ByteArray.mk #[])))) else (some false)).bind fun d=>(bif (decide (a.Kind<1)) then (some true) else (some (decide (3<a.Kind)))).bind fun e=>(bif e then (some true) else (bif decide (a.Kind=0) then (some true) else bif decide (a.Kind=1) then (some (!b)) else bif decide (a.Kind=2) then (some (!c)) else bif decide (a.Kind=3) then (some (!d)) else none)).bind fun f=>bif f then (some ((0,false))) else (bif (decide (a.Kind<3)) then (some ((0,true))) else ((jk self n false a.L ((a.L.length:Int)) a false b c d (n+8) 0 0).bind fun g=>match g with | (Sum.inl ((h,i)))=>some ((h,i)) | (Sum.inr j)=>some ((wr .i64 (j+1),true))))
theorem RF (C:OT) (n:Nat) (self:aq->Option (Int×Bool)) (hS:wE C self) (a:aq):TJ C n 96 [(ag (al a))] (HJ self n a) (fun y=>(tp [(iA y.1),(bA y.2)])):=by
 refine .lp (Sz ..) ?_
 unfold HJ
 refine .s ((pt 0 0),[bx (al a)]) (.s2 (sA a.S) (.st (jm ..) (.bg (fun t (y:Bool)=>∃ f g h i:A,t=[(bA y),f,g,h,i]) ?_ ?_)))
 ·refine .bi ?_ ?_
  ·exact .s (pt 0 3) (.s (im (a.L.map av) false) (.st (dT (e:=107)) (.st (aX ..) (.lg ⟨_,_,_,_,rfl⟩))))
  exact .lg ⟨_,_,_,_,rfl⟩
 rintro _ b ⟨f,g,h,i,rfl⟩
 refine .u4 (.uc (.s2 (iA a.N) (.st (aX ..) (.bg (fun t (y:Bool)=>∃ j k l o:A,t=[(bA y),j,k,l,o]) ?_ ?_))))
 ·refine .bi ?_ ?_
  ·exact .s (pt 0 3) (.s (im (a.L.map av) false) (.st (dT (e:=107)) (.st (aX ..) (.lg ⟨_,_,_,_,rfl⟩))))
  exact .lg ⟨_,_,_,_,rfl⟩
 rintro _ c ⟨j,k,l,o,rfl⟩
 refine .u4 (.uc (.s2 (iA a.N) (.st (aX ..) (.bg (fun t (y:Bool)=>∃ p q r:A,t=[(bA y),p,q,r]) ?_ ?_))))
 ·refine .bi ?_ ?_
  ·exact .s (pt 0 2) (.s (sA a.S) (.st (jm ..) (.lg ⟨_,_,_,rfl⟩)))
  exact .lg ⟨_,_,_,rfl⟩
 rintro _ d ⟨p,q,r,rfl⟩
 refine .u4 (.s (ag [(bA false),(bA b),(bA c),(bA d)]) (.sq (pt 1 0) (.s [bx (al a),bx [(bA false),(bA b),(bA c),(bA d)]] (.s2 (iA a.Kind) (.st (aY ..) (.bg (fun t (y:Bool)=>∃ u w x:A,t=[(bA y),u,w,x]) ?_ ?_))))))
 ·refine .bi ?_ ?_
  ·exact .lg ⟨_,_,_,rfl⟩
  exact .s (pt 0 0) (.s (iA a.Kind) (.st (cM ..) (.lg ⟨_,_,_,rfl⟩)))
 rintro _ a9 ⟨u,w,x,rfl⟩
 refine .u4 (.bg (fun t (y:Bool)=>∃ z a1 a2 a3 a4:A,t=[(bA y),z,a1,a2,a3,a4]) ?_ ?_)
 ·refine .bi ?_ ?_
  ·exact .lg ⟨_,_,_,_,_,rfl⟩
  refine .s (pt 0 0) (.s (iA a.Kind) (.sp (fun a5=>?_) (fun _=>?_)))
  ·exact .st (v:=(pt 1 0)) (by rw[Tv a5]; kernel_rfl) (.s (bA false) (.s (bA true) (.lg ⟨_,_,_,_,_,rfl⟩)))
  refine .sp (fun a6=>?_) (fun _=>?_)
  ·exact .st (v:=(pt 1 1)) (by rw[Tv a6]; kernel_rfl) (.s (bA b) (.s (bA (!b)) (.lg ⟨_,_,_,_,_,rfl⟩)))
  refine .sp (fun a7=>?_) (fun _=>?_)
  ·exact .st (v:=(pt 1 2)) (by rw[Tv a7]; kernel_rfl) (.s (bA c) (.s (bA (!c)) (.lg ⟨_,_,_,_,_,rfl⟩)))
  refine .sp (fun a8=>?_) (fun _=>?_)
  ·exact .st (v:=(pt 1 3)) (by rw[Tv a8]; kernel_rfl) (.s (bA d) (.s (bA (!d)) (.lg ⟨_,_,_,_,_,rfl⟩)))
  exact .nn
 rintro _ aa ⟨z,a1,a2,a3,a4,rfl⟩
 refine .u4 (.uc (.uc (.cd ?_ ?_)))
 ·exact .lv rfl
 refine .s2 (iA a.Kind) (.st (aY ..) (.cd ?_ ?_))
 ·exact .lv rfl
 refine .s2 (im (a.L.map av) false) (.st (dT (e:=107)) (.as (AX C n _ _ _ _ self hS false a.L ((a.L.length:Int)) a false b c d ?_ ?_ _ 0 0)))
 ·intro ab ad ae af ah w128 w129 w130
  exact .un rfl (.lv rfl)
 ·intro ai aj ak am an w136 w137
  exact .un rfl (.cT r8 (.st (aH ..) (.lv rfl)))
def E0:Nat->aq->Option (Int×Bool)
 | 0=>fun _=>none
 | q+1=>fun a0=>HJ (E0 q) aB a0
def Lj (a:aq):Option (Int×Bool):=E0 aB a
def EX (C:OT):Prop:=∀ (a:aq),C 96 [(ag (al a))]=(Lj a).map fun y=>(tp [(iA y.1),(bA y.2)])
def Ld (n:Nat) (b:aq):Option Int:=
 (Lj b).bind fun a=>bif (!a.2) then (some 1) else (bif (decide (16<a.1)) then (some 2) else (some 0))
theorem RB (C:OT) (n:Nat) (c:EX C) (a:aq):TJ C n 83 [(ag (al a))] (Ld n a) (fun y=>(iA y)):=by
 refine .lp (Sq ..) ?_
 unfold Ld
 refine .s ((pt 0 0),[bx (al a)]) (.s (ag (al a)) (.bd (g:=fun (y:(Int×Bool))=>(tp [(iA y.1),(bA y.2)])) (by simp only[cP,eu]; exact c a) fun b=>.s (iA b.1) (.s (bA b.2) (.s (bA (!b.2)) (.cd ?_ ?_)))))
 ·exact .lv rfl
 refine .st (cM ..) (.cd ?_ ?_)
 ·exact .lv rfl
 exact .lv rfl
def Ig (a:aq):Option Int:=Ld aB a
def EW (C:OT):Prop:=∀ (a:aq),C 83 [(ag (al a))]=(Ig a).map fun y=>(iA y)
def Lf (n:Nat) (a:Int):Option Int:=
 some (pQ .u64 (nO .u64 (wr .u64 (a)) 1) (wr .u64 (mF .i64 a 63)))
theorem RG (C:OT) (n:Nat) (a:Int):TJ C n 99 [(iA a)] (Lf n a) (fun y=>(A.v (.int .u64 y))):=by
 refine .lp (SA ..) ?_
 unfold Lf
 exact .st (v:=(A.v (.int .u64 (wr .u64 (a))))) (aL (hs:=by kernel_rfl) (hd:=by kernel_rfl) ..) (.st (p8 (hb:=by decide) ..) (.st (kv (hb:=by decide) ..) (.st (v:=(A.v (.int .u64 (wr .u64 (mF .i64 a 63))))) (aL (hs:=by kernel_rfl) (hd:=by kernel_rfl) ..) (.st (m5 ..) (.lv rfl)))))
def FR (a:Int):Option Int:=Lf aB a
def rY (C:OT):Prop:=∀ (a:Int),C 99 [(iA a)]=(FR a).map fun y=>(A.v (.int .u64 y))
def aQ:aO:=bx [(A.v Value.nilFunc),(vw 97 [] []),(vw 100 [] []),(vw 101 [] [(pt 2 0)])]
def Aa (C:OT) (N:Nat) (self:aq->aq->(List UInt8)->aq->Option (List UInt8)):Prop:=∀ (a:aq) (b:aq) (a2:(List UInt8)) (c:aq) (X:ay),J (fun (o:R) (y:(List UInt8))=>o=(Out.ret (cf 4 0 y.length false),[bx (al a),aQ,bx [(pt 1 0)],bx (al b),aO.row false 1 (y.map c8)]++X)) (dI (cx C) N 101 [(cf 4 0 a2.length false),(ag (al c)),(pt 2 0)] ([bx (al a),aQ,bx [(pt 1 0)],bx (al b),aO.row false 1 (a2.map c8)]++X) 0) some (self a b a2 c) some
def ji (n:Nat):Nat->Int->(List UInt8)->Option (Int×(List UInt8))
 | 0,_,_=>none
 | m+1,a,b=>bif (decide (128<=a)) then (bif (decide (0<=(lT .u8 (wr .u8 (a)) 128))&&decide ((lT .u8 (wr .u8 (a)) 128)<256)) then ((c7 1 b ([(UInt8.ofNat (Int.toNat (lT .u8 (wr .u8 (a)) 128)))])).bind fun c=>ji n m (mF .u64 a 7) c) else none) else (some ((a,b)))
theorem wF {w44:A} {w45 w46 w47 w48 w49:aO} {K:(Int×(List UInt8))->Option γ} (h:∀ (e:Int) (d:(List UInt8)) (i:A),J φ (kx 0 (St.mk [(0,(cf 4 0 d.length false)),(1,(A.v (.int .u64 e))),(4,i)] [w45,w46,w47,w48,aO.row false 1 (d.map c8),w49])) kL (K (e,d)) some) :
  ∀ (m:Nat) (a:Int) (c:(List UInt8)),J φ (aK (cx C) (ec C n 7) (ey C n 7) (n+7) 98 0 0 6 kx kg kr kp m (St.mk [(0,(cf 4 0 c.length false)),(1,(A.v (.int .u64 a))),(4,w44)] [w45,w46,w47,w48,aO.row false 1 (c.map c8),w49])) kL (ji n  m a c) K:=by
  refine nI (fun _ _=>.nn) fun m ih a c=>.lp (yj ..) ?_
  unfold ji
  refine .st (ef ..) (.cd ?_ ?_)
  ·refine .st (v:=(uA (wr .u8 (a)))) (aL (hs:=by kernel_rfl) (hd:=by kernel_rfl) ..) (.st (gy ..) (.gd fun hg=>.st (v:=(im [[(uA (((UInt8.ofNat (Int.toNat (lT .u8 (wr .u8 (a)) 128))).toNat:Int)))]] true)) (by rw[eV hg]; kernel_rfl) (.bd (g:=fun (y:List UInt8)=>((cf 4 0 y.length false),[w45,w46,w47,w48,aO.row false 1 (y.map c8),w49])) (cw cQ (l:=c) (l2:=[(UInt8.ofNat (Int.toNat (lT .u8 (wr .u8 (a)) 128)))]) (b:=4) rfl (by decide) (bN (f:=c8) ([(UInt8.ofNat (Int.toNat (lT .u8 (wr .u8 (a)) 128)))]:List UInt8) _ _)) fun j=>.st (kv (hb:=by decide) ..) (.s [w45,w46,w47,w48,aO.row false 1 (j.map c8),w49] (.cT r8 ?_)))))
   exact ih _ _
  exact .ex (h _ _ _)
def fa (n:Nat):Nat->Int->(List UInt8)->Option (Int×(List UInt8))
 | 0,_,_=>none
 | m+1,a,b=>bif (decide (128<=a)) then (bif (decide (0<=(lT .u8 (wr .u8 (a)) 128))&&decide ((lT .u8 (wr .u8 (a)) 128)<256)) then ((c7 1 b ([(UInt8.ofNat (Int.toNat (lT .u8 (wr .u8 (a)) 128)))])).bind fun c=>fa n m (mF .u64 a 7) c) else none) else (some ((a,b)))
theorem pv {w1301:A} {w1302 w1303 w1304 w1305 w1306 w1307 w1308:aO} {K:(Int×(List UInt8))->Option γ} (h:∀ (e:Int) (d:(List UInt8)) (i:A),J φ (kx 0 (St.mk [(0,(cf 4 0 d.length false)),(1,(A.v (.int .u64 e))),(4,i)] [w1302,w1303,w1304,w1305,aO.row false 1 (d.map c8),w1306,w1307,w1308])) kL (K (e,d)) some) :
  ∀ (m:Nat) (a:Int) (c:(List UInt8)),J φ (aK (cx C) (dI (cx C) (n+6)) (bF (cx C) (n+6)) (n+6) 98 0 0 8 kx kg kr kp m (St.mk [(0,(cf 4 0 c.length false)),(1,(A.v (.int .u64 a))),(4,w1301)] [w1302,w1303,w1304,w1305,aO.row false 1 (c.map c8),w1306,w1307,w1308])) kL (fa n  m a c) K:=by
  refine nI (fun _ _=>.nn) fun m ih a c=>.lp (yj ..) ?_
  unfold fa
  refine .st (ef ..) (.cd ?_ ?_)
  ·refine .st (v:=(uA (wr .u8 (a)))) (aL (hs:=by kernel_rfl) (hd:=by kernel_rfl) ..) (.st (gy ..) (.gd fun hg=>.st (v:=(im [[(uA (((UInt8.ofNat (Int.toNat (lT .u8 (wr .u8 (a)) 128))).toNat:Int)))]] true)) (by rw[eV hg]; kernel_rfl) (.bd (g:=fun (y:List UInt8)=>((cf 4 0 y.length false),[w1302,w1303,w1304,w1305,aO.row false 1 (y.map c8),w1306,w1307,w1308])) (cw cQ (l:=c) (l2:=[(UInt8.ofNat (Int.toNat (lT .u8 (wr .u8 (a)) 128)))]) (b:=4) rfl (by decide) (bN (f:=c8) ([(UInt8.ofNat (Int.toNat (lT .u8 (wr .u8 (a)) 128)))]:List UInt8) _ _)) fun j=>.st (kv (hb:=by decide) ..) (.s [w1302,w1303,w1304,w1305,aO.row false 1 (j.map c8),w1306,w1307,w1308] (.cT r8 ?_)))))
   exact ih _ _
  exact .ex (h _ _ _)
def eb (self:aq->aq->(List UInt8)->aq->Option (List UInt8)) (n:Nat) (h:(List UInt8)) (c:(List aq)) (d:Int) (e:aq) (f:aq) (i:aq):Nat->Int->(List UInt8)->Option ((List UInt8))
 | 0,_,_=>none
 | m+1,b,g=>bif (decide (b<d)) then ((bK c b).bind fun a=>bif decide (a.Kind=0) then (none) else bif decide (a.Kind=1) then ((c7 1 g ([(1:UInt8)])).bind fun l=>(FR a.N).bind fun o=>(fa n  (n+6) o l).bind fun p=>match p with | (j,q)=>bif (decide (0<=(wr .u8 (j)))&&decide ((wr .u8 (j))<256)) then ((c7 1 q ([(UInt8.ofNat (Int.toNat (wr .u8 (j))))])).bind fun r=>eb self n h c d e f i m (wr .i64 (b+1)) r) else none) else bif decide (a.Kind=2) then ((c7 1 g ([(2:UInt8)])).bind fun s=>(fa n  (n+6) (wr .u64 ((a.S.size:Int))) s).bind fun t=>match t with | (k,u)=>bif (decide (0<=(wr .u8 (k)))&&decide ((wr .u8 (k))<256)) then ((c7 1 u ([(UInt8.ofNat (Int.toNat (wr .u8 (k))))])).bind fun v=>(c7 1 v (kA a.S)).bind fun w=>eb self n h c d e f i m (wr .i64 (b+1)) w) else none) else bif decide (a.Kind=3) then ((self e f g a).bind fun x=>eb self n h c d e f i m (wr .i64 (b+1)) x) else none) else (some g)
theorem uP (w:rY C) (self:aq->aq->(List UInt8)->aq->Option (List UInt8)) (hS:Aa C (n+8) self) (j:(List UInt8)) (k:(List aq)) (u:Int) (c:aq) (d:aq) (h:aq) {K:((List UInt8))->Option γ} (x:∀ (q:(List UInt8)) (s2:A) (z:A) (a0:A) (a1:A) (a2:A) (q5:aO),J φ (kx 0 (St.mk [(0,(cf 4 0 q.length false)),(2,s2),(5,z),(17,a0),(18,a1),(19,a2)] [bx (al c),aQ,bx [(pt 1 0)],bx (al d),aO.row false 1 (q.map c8),q5])) kL (K q) some) :
  ∀ (m:Nat) (r:Int) (i:(List UInt8)),J φ (aK (cx C) (ec C n 8) (ey C n 8) (n+8) 101 0 0 6 kx kg kr kp m (St.mk [(0,(cf 4 0 i.length false)),(2,(pt 2 0)),(5,(im (j.map c8) true)),(17,(im (k.map av) false)),(18,(iA u)),(19,(iA r))] [bx (al c),aQ,bx [(pt 1 0)],bx (al d),aO.row false 1 (i.map c8),bx (al h)])) kL (eb self n j k u c d h m r i) K:=by
  refine nI (fun _ _=>.nn) fun m ih r i=>.lp (Bc ..) ?_
  unfold eb
  refine .st (aY ..) (.cd ?_ ?_)
  ·refine .bd ((eX (e:=107) (es:=4)).trans (dH _)) fun a=>.s (ag (al a)) (.sq (pt 6 0) (.s [bx (al c),aQ,bx [(pt 1 0)],bx (al d),aO.row false 1 (i.map c8),bx (al h),bx (al a)] (.s (pt 1 0) (.s2 (iA a.Kind) (.s (pt 1 0) (.sp (fun a3=>?_) (fun _=>?_)))))))
   ·exact .st (v:=(pt 1 0)) (by rw[Tv a3]; kernel_rfl) (.s2 (A.v Value.nilFunc) (.s (ag (al a)) (.nn)))
   refine .sp (fun a4=>?_) (fun _=>?_)
   ·refine .st (v:=(pt 1 1)) (by rw[Tv a4]; kernel_rfl) (.s2 (vw 97 [] []) (.s (ag (al a)) (.dC r8 r8 (.cl ((aV BP).trans (MX ..)) (.s ((pt 7 0),[bx (al c),aQ,bx [(pt 1 0)],bx (al d),aO.row false 1 (i.map c8),bx (al h),bx (al a),bx (al a)]) (.s (im [[(uA 1)]] true) (.bd (g:=fun (y:List UInt8)=>((cf 4 0 y.length false),[bx (al c),aQ,bx [(pt 1 0)],bx (al d),aO.row false 1 (y.map c8),bx (al h),bx (al a),bx (al a)])) (cw cQ (l:=i) (l2:=[(1:UInt8)]) (b:=4) rfl (by decide) (bN (f:=c8) ([(1:UInt8)]:List UInt8) _ _)) fun a5=>.cT r8 (.s (pt 7 1) (.cT r8 (.s (iA a.N) (.bd (w a.N) fun a6=>.cl ((aV pF).trans (E7 ..)) (.as (pv C n _ _ _ _  ?_ _ a6 a5)))))))))))))
    ·intro o a7 ai
     refine .un rfl (.cT r8 (.st (v:=(uA (wr .u8 (o)))) (aL (hs:=by kernel_rfl) (hd:=by kernel_rfl) ..) (.gd fun hg=>.st (v:=(im [[(uA (((UInt8.ofNat (Int.toNat (wr .u8 (o)))).toNat:Int)))]] true)) (by rw[eV hg]; kernel_rfl) (.bd (g:=fun (y:List UInt8)=>((cf 4 0 y.length false),[bx (al c),aQ,bx [(pt 1 0)],bx (al d),aO.row false 1 (y.map c8),bx (al h),bx (al a),bx (al a)])) (cw cQ (l:=a7) (l2:=[(UInt8.ofNat (Int.toNat (wr .u8 (o))))]) (b:=4) rfl (by decide) (bN (f:=c8) ([(UInt8.ofNat (Int.toNat (wr .u8 (o))))]:List UInt8) _ _)) fun a8=>.cr (.ok (.cr (.ok (.st (aH ..) (.st (v:=[bx (al c),aQ,bx [(pt 1 0)],bx (al d),aO.row false 1 (a8.map c8),bx (al h)]) (eD r8 H7) (.cT ((by kernel_rfl:_=(bif aW 6 (j.map c8) then (bif aW 6 (k.map av) then true else false) else false)).trans s6) ?_))))))))))
     exact ih _ _
   refine .sp (fun a9=>?_) (fun _=>?_)
   ·refine .st (v:=(pt 1 2)) (by rw[Tv a9]; kernel_rfl) (.s2 (vw 100 [] []) (.s (ag (al a)) (.dC r8 r8 (.cl ((aV xl).trans (Gg ..)) (.s ((pt 7 0),[bx (al c),aQ,bx [(pt 1 0)],bx (al d),aO.row false 1 (i.map c8),bx (al h),bx (al a),bx (al a)]) (.s ((A.ip (al a)),[bx (al c),aQ,bx [(pt 1 0)],bx (al d),aO.row false 1 (i.map c8),bx (al h),bx (al a),aO.dead]) (.cT r8 (.s (im [[(uA 2)]] true) (.s (A.ip [(sA a.S),(im (a.L.map av) false)]) (.s (sA a.S) (.s (iA ((a.S.size:Int))) (.st (v:=(A.v (.int .u64 (wr .u64 ((a.S.size:Int)))))) (aL (hs:=by kernel_rfl) (hd:=by kernel_rfl) ..) (.s (A.ip [(sA a.S),(im (a.L.map av) false)]) (.s (sA a.S) (.cT r8 (.bd (g:=fun (y:List UInt8)=>((cf 4 0 y.length false),[bx (al c),aQ,bx [(pt 1 0)],bx (al d),aO.row false 1 (y.map c8),bx (al h),bx (al a),aO.dead])) (cw cQ (l:=i) (l2:=[(2:UInt8)]) (b:=4) rfl (by decide) (bN (f:=c8) ([(2:UInt8)]:List UInt8) _ _)) fun aa=>.cT r8 (.cl ((aV pF).trans (E7 ..)) (.as (pv C n _ _ _ _  ?_ _ (wr .u64 ((a.S.size:Int))) aa)))))))))))))))))))
    ·intro p ab aj
     refine .un rfl (.cT r8 (.st (v:=(uA (wr .u8 (p)))) (aL (hs:=by kernel_rfl) (hd:=by kernel_rfl) ..) (.gd fun hg=>.st (v:=(im [[(uA (((UInt8.ofNat (Int.toNat (wr .u8 (p)))).toNat:Int)))]] true)) (by rw[eV hg]; kernel_rfl) (.bd (g:=fun (y:List UInt8)=>((cf 4 0 y.length false),[bx (al c),aQ,bx [(pt 1 0)],bx (al d),aO.row false 1 (y.map c8),bx (al h),bx (al a),aO.dead])) (cw cQ (l:=ab) (l2:=[(UInt8.ofNat (Int.toNat (wr .u8 (p))))]) (b:=4) rfl (by decide) (bN (f:=c8) ([(UInt8.ofNat (Int.toNat (wr .u8 (p))))]:List UInt8) _ _)) fun ad=>.cr (.ok (.bd (g:=fun (y:List UInt8)=>((cf 4 0 y.length false),[bx (al c),aQ,bx [(pt 1 0)],bx (al d),aO.row false 1 (y.map c8),bx (al h),bx (al a),aO.dead])) (cw tB (l:=ad) (l2:=kA a.S) (b:=4) rfl (by decide) (pU ..)) fun ae=>.cr (.ok (.st (aH ..) (.st (v:=[bx (al c),aQ,bx [(pt 1 0)],bx (al d),aO.row false 1 (ae.map c8),bx (al h)]) (eD r8 H7) (.cT ((by kernel_rfl:_=(bif aW 6 (j.map c8) then (bif aW 6 (k.map av) then true else false) else false)).trans s6) ?_))))))))))
     exact ih _ _
   refine .sp (fun af=>?_) (fun _=>?_)
   ·refine .st (v:=(pt 1 3)) (by rw[Tv af]; kernel_rfl) (.s2 (vw 101 [] [(pt 2 0)]) (.s (ag (al a)) (.dC r8 r8 (.bg (fun (t:R) (y:(List UInt8))=>t=(Out.ret (cf 4 0 y.length false),[bx (al c),aQ,bx [(pt 1 0)],bx (al d),aO.row false 1 (y.map c8),bx (al h),bx (al a)])) (hS c d i a [bx (al h),bx (al a)]) ?_))))
    rintro _ ah rfl
    refine .ok (.st (aH ..) (.st (v:=[bx (al c),aQ,bx [(pt 1 0)],bx (al d),aO.row false 1 (ah.map c8),bx (al h)]) (eD r8 H7) (.cT ((by kernel_rfl:_=(bif aW 6 (j.map c8) then (bif aW 6 (k.map av) then true else false) else false)).trans s6) ?_)))
    exact ih _ _
   exact .nn
  exact .ex (x _ _ _ _ _ _ _)
def rV (self:aq->aq->(List UInt8)->aq->Option (List UInt8)) (n:Nat) (c:aq) (d:aq) (a2:(List UInt8)) (a:aq):Option (List UInt8):=
 (c7 1 a2 ([(3:UInt8)])).bind fun e=>(ji n  (n+7) (wr .u64 ((a.L.length:Int))) e).bind fun f=>match f with | (b,g)=>bif (decide (0<=(wr .u8 (b)))&&decide ((wr .u8 (b))<256)) then ((c7 1 g ([(UInt8.ofNat (Int.toNat (wr .u8 (b))))])).bind fun h=>(eb self n ([]) a.L ((a.L.length:Int)) c d a (n+8) 0 h).bind fun i=>match i with | j=>some j) else none
theorem Iq (C:OT) (n:Nat) (i:rY C) (self:aq->aq->(List UInt8)->aq->Option (List UInt8)) (hS:Aa C (n+8) self) (c:aq) (d:aq) (a2:(List UInt8)) (a:aq):J (fun (o:R) (y:(List UInt8))=>∃ Z,o=(Out.ret (cf 4 0 y.length false),[bx (al c),aQ,bx [(pt 1 0)],bx (al d),aO.row false 1 (y.map c8)]++Z)) (aF (cx C) (ec C n 8) (ey C n 8) (n+8) 101 [(cf 4 0 a2.length false),(ag (al a)),(pt 2 0)] [bx (al c),aQ,bx [(pt 1 0)],bx (al d),aO.row false 1 (a2.map c8)] 0) some (rV self n c d a2 a) some:=by
 refine .lp (IB ..) ?_
 unfold rV
 refine .s ((pt 5 0),[bx (al c),aQ,bx [(pt 1 0)],bx (al d),aO.row false 1 (a2.map c8),bx (al a)]) (.s (im [[(uA 3)]] true) (.bd (g:=fun (y:List UInt8)=>((cf 4 0 y.length false),[bx (al c),aQ,bx [(pt 1 0)],bx (al d),aO.row false 1 (y.map c8),bx (al a)])) (cw cQ (l:=a2) (l2:=[(3:UInt8)]) (b:=4) rfl (by decide) (bN (f:=c8) ([(3:UInt8)]:List UInt8) _ _)) fun j=>.cT r8 (.s (pt 5 3) (.cT r8 (.s (im (a.L.map av) false) (.cT r8 (.st (dT (e:=107)) (.cT r8 (.st (v:=(A.v (.int .u64 (wr .u64 ((a.L.length:Int)))))) (aL (hs:=by kernel_rfl) (hd:=by kernel_rfl) ..) (.cl ((aV pF).trans (E7 ..)) (.as (wF C n _ _ _ _  ?_ _ (wr .u64 ((a.L.length:Int))) j))))))))))))
 ·intro h k q
  refine .un rfl (.cT r8 (.st (v:=(uA (wr .u8 (h)))) (aL (hs:=by kernel_rfl) (hd:=by kernel_rfl) ..) (.gd fun hg=>.st (v:=(im [[(uA (((UInt8.ofNat (Int.toNat (wr .u8 (h)))).toNat:Int)))]] true)) (by rw[eV hg]; kernel_rfl) (.bd (g:=fun (y:List UInt8)=>((cf 4 0 y.length false),[bx (al c),aQ,bx [(pt 1 0)],bx (al d),aO.row false 1 (y.map c8),bx (al a)])) (cw cQ (l:=k) (l2:=[(UInt8.ofNat (Int.toNat (wr .u8 (h))))]) (b:=4) rfl (by decide) (bN (f:=c8) ([(UInt8.ofNat (Int.toNat (wr .u8 (h))))]:List UInt8) _ _)) fun p=>.cr (.ok (.s2 (im (a.L.map av) false) (.st (dT (e:=107)) (.as (uP C n _ _ _ _ i self hS ([]) a.L ((a.L.length:Int)) c d a ?_ _ 0 p)))))))))
  ·intro r t u w x z w1400
   exact .un rfl (.cT r8 (.lf rfl rfl ⟨[w1400],rfl⟩))
def tl:Nat->aq->aq->(List UInt8)->aq->Option (List UInt8)
 | 0=>fun _ _ _ _=>none
 | N+1=>fun a0 a1 a2 a3=>bif Nat.ble 8 N then rV (tl N) (N - 8) a0 a1 a2 a3 else none
theorem Ex (C:OT) (d:rY C):∀ N,Aa C N (tl N)
 | 0=>fun _ _ _ _ X r h=>by cases h
 | N+1=>fun a b a2 c X=>by
  show J _ _ _ (bif Nat.ble 8 N then rV (tl N) (N - 8) a b a2 c else none) _
  cases h:Nat.ble 8 N with
  | false=>exact fun r h=>by cases h
  | true=>
   obtain ⟨n,rfl⟩:∃ n,N=n+8:=⟨N - 8,by have:=TR h; omega⟩
   rw[VW]
   exact Ba (m:=5) r8 r8 (by decide) rfl ((by kernel_rfl:_=((((aW 5 (c.L.map av))&&true))&&true)).trans s6) ((by kernel_rfl:_=((((aW 5 (a.L.map av))&&true))&&((((aW 5 (b.L.map av))&&true))&&((aW 5 (a2.map c8))&&true)))).trans s6) (fun _=>rfl) (fun y=>r8) (fun y=>((by kernel_rfl:_=((((aW 5 (a.L.map av))&&true))&&((((aW 5 (b.L.map av))&&true))&&((aW 5 (y.map c8))&&true)))).trans s6)) (Iq C n d (tl (n+8)) (Ex C d (n+8)) a b a2 c)
def gx (n:Nat):Nat->Int->(List UInt8)->Option (Int×(List UInt8))
 | 0,_,_=>none
 | m+1,a,b=>bif (decide (128<=a)) then (bif (decide (0<=(lT .u8 (wr .u8 (a)) 128))&&decide ((lT .u8 (wr .u8 (a)) 128)<256)) then ((c7 1 b ([(UInt8.ofNat (Int.toNat (lT .u8 (wr .u8 (a)) 128)))])).bind fun c=>gx n m (mF .u64 a 7) c) else none) else (some ((a,b)))
theorem p3 {w75:A} {w76 w77 w78 w79:aO} {K:(Int×(List UInt8))->Option γ} (h:∀ (e:Int) (d:(List UInt8)) (i:A),J φ (kx 0 (St.mk [(0,(cf 4 0 d.length false)),(1,(A.v (.int .u64 e))),(4,i)] [w76,w77,w78,w79,aO.row false 1 (d.map c8)])) kL (K (e,d)) some) :
  ∀ (m:Nat) (a:Int) (c:(List UInt8)),J φ (aK (cx C) (dI (cx C) (n+6)) (bF (cx C) (n+6)) (n+6) 98 0 0 5 kx kg kr kp m (St.mk [(0,(cf 4 0 c.length false)),(1,(A.v (.int .u64 a))),(4,w75)] [w76,w77,w78,w79,aO.row false 1 (c.map c8)])) kL (gx n  m a c) K:=by
  refine nI (fun _ _=>.nn) fun m ih a c=>.lp (yj ..) ?_
  unfold gx
  refine .st (ef ..) (.cd ?_ ?_)
  ·refine .st (v:=(uA (wr .u8 (a)))) (aL (hs:=by kernel_rfl) (hd:=by kernel_rfl) ..) (.st (gy ..) (.gd fun hg=>.st (v:=(im [[(uA (((UInt8.ofNat (Int.toNat (lT .u8 (wr .u8 (a)) 128))).toNat:Int)))]] true)) (by rw[eV hg]; kernel_rfl) (.bd (g:=fun (y:List UInt8)=>((cf 4 0 y.length false),[w76,w77,w78,w79,aO.row false 1 (y.map c8)])) (cw cQ (l:=c) (l2:=[(UInt8.ofNat (Int.toNat (lT .u8 (wr .u8 (a)) 128)))]) (b:=4) rfl (by decide) (bN (f:=c8) ([(UInt8.ofNat (Int.toNat (lT .u8 (wr .u8 (a)) 128)))]:List UInt8) _ _)) fun j=>.st (kv (hb:=by decide) ..) (.s [w76,w77,w78,w79,aO.row false 1 (j.map c8)] (.cT r8 ?_)))))
   exact ih _ _
  exact .ex (h _ _ _)
def gP (n:Nat):Nat->Int->(List UInt8)->Option (Int×(List UInt8))
 | 0,_,_=>none
 | m+1,a,b=>bif (decide (128<=a)) then (bif (decide (0<=(lT .u8 (wr .u8 (a)) 128))&&decide ((lT .u8 (wr .u8 (a)) 128)<256)) then ((c7 1 b ([(UInt8.ofNat (Int.toNat (lT .u8 (wr .u8 (a)) 128)))])).bind fun c=>gP n m (mF .u64 a 7) c) else none) else (some ((a,b)))
theorem sb {w865:A} {w866 w867 w868 w869 w870 w871:aO} {K:(Int×(List UInt8))->Option γ} (h:∀ (e:Int) (d:(List UInt8)) (i:A),J φ (kx 0 (St.mk [(0,(cf 4 0 d.length false)),(1,(A.v (.int .u64 e))),(4,i)] [w866,w867,w868,w869,aO.row false 1 (d.map c8),w870,w871])) kL (K (e,d)) some) :
  ∀ (m:Nat) (a:Int) (c:(List UInt8)),J φ (aK (cx C) (dI (cx C) (n+5)) (bF (cx C) (n+5)) (n+5) 98 0 0 7 kx kg kr kp m (St.mk [(0,(cf 4 0 c.length false)),(1,(A.v (.int .u64 a))),(4,w865)] [w866,w867,w868,w869,aO.row false 1 (c.map c8),w870,w871])) kL (gP n  m a c) K:=by
  refine nI (fun _ _=>.nn) fun m ih a c=>.lp (yj ..) ?_
  unfold gP
  refine .st (ef ..) (.cd ?_ ?_)
  ·refine .st (v:=(uA (wr .u8 (a)))) (aL (hs:=by kernel_rfl) (hd:=by kernel_rfl) ..) (.st (gy ..) (.gd fun hg=>.st (v:=(im [[(uA (((UInt8.ofNat (Int.toNat (lT .u8 (wr .u8 (a)) 128))).toNat:Int)))]] true)) (by rw[eV hg]; kernel_rfl) (.bd (g:=fun (y:List UInt8)=>((cf 4 0 y.length false),[w866,w867,w868,w869,aO.row false 1 (y.map c8),w870,w871])) (cw cQ (l:=c) (l2:=[(UInt8.ofNat (Int.toNat (lT .u8 (wr .u8 (a)) 128)))]) (b:=4) rfl (by decide) (bN (f:=c8) ([(UInt8.ofNat (Int.toNat (lT .u8 (wr .u8 (a)) 128)))]:List UInt8) _ _)) fun j=>.st (kv (hb:=by decide) ..) (.s [w866,w867,w868,w869,aO.row false 1 (j.map c8),w870,w871] (.cT r8 ?_)))))
   exact ih _ _
  exact .ex (h _ _ _)
def ft (n:Nat) (h:(List UInt8)) (c:(List aq)) (d:Int) (e:aq) (f:aq):Nat->Int->(List UInt8)->Option ((List UInt8))
 | 0,_,_=>none
 | m+1,b,g=>bif (decide (b<d)) then ((bK c b).bind fun a=>bif decide (a.Kind=0) then (none) else bif decide (a.Kind=1) then ((c7 1 g ([(1:UInt8)])).bind fun k=>(FR a.N).bind fun l=>(gP n  (n+5) l k).bind fun o=>match o with | (i,p)=>bif (decide (0<=(wr .u8 (i)))&&decide ((wr .u8 (i))<256)) then ((c7 1 p ([(UInt8.ofNat (Int.toNat (wr .u8 (i))))])).bind fun q=>ft n h c d e f m (wr .i64 (b+1)) q) else none) else bif decide (a.Kind=2) then ((c7 1 g ([(2:UInt8)])).bind fun r=>(gP n  (n+5) (wr .u64 ((a.S.size:Int))) r).bind fun s=>match s with | (j,t)=>bif (decide (0<=(wr .u8 (j)))&&decide ((wr .u8 (j))<256)) then ((c7 1 t ([(UInt8.ofNat (Int.toNat (wr .u8 (j))))])).bind fun u=>(c7 1 u (kA a.S)).bind fun v=>ft n h c d e f m (wr .i64 (b+1)) v) else none) else bif decide (a.Kind=3) then ((tl (n+7) e f g a).bind fun w=>ft n h c d e f m (wr .i64 (b+1)) w) else none) else (some g)
theorem ze (r:rY C) (i:(List UInt8)) (j:(List aq)) (u:Int) (c:aq) (d:aq) {K:((List UInt8))->Option γ} (w:∀ (p:(List UInt8)) (s2:A) (x:A) (z:A) (a0:A) (a1:A) (q0:aO) (q1:aO) (q2:aO) (q3:aO),J φ (kx 0 (St.mk [(0,(cf 4 0 p.length false)),(2,s2),(5,x),(17,z),(18,a0),(19,a1)] [q0,q1,q2,q3,aO.row false 1 (p.map c8)])) kL (K p) some) :
  ∀ (m:Nat) (q:Int) (h:(List UInt8)),J φ (aK (cx C) (ec C n 7) (ey C n 7) (n+7) 101 0 0 5 kx kg kr kp m (St.mk [(0,(cf 4 0 h.length false)),(2,(pt 2 0)),(5,(im (i.map c8) true)),(17,(im (j.map av) false)),(18,(iA u)),(19,(iA q))] [bx (al c),aQ,bx [(pt 1 0)],bx (al d),aO.row false 1 (h.map c8)])) kL (ft n i j u c d m q h) K:=by
  refine nI (fun _ _=>.nn) fun m ih q h=>.lp (Bc ..) ?_
  unfold ft
  refine .st (aY ..) (.cd ?_ ?_)
  ·refine .bd ((eX (e:=107) (es:=4)).trans (dH _)) fun a=>.s (ag (al a)) (.sq (pt 5 0) (.s [bx (al c),aQ,bx [(pt 1 0)],bx (al d),aO.row false 1 (h.map c8),bx (al a)] (.s (pt 1 0) (.s2 (iA a.Kind) (.s (pt 1 0) (.sp (fun a2=>?_) (fun _=>?_)))))))
   ·exact .st (v:=(pt 1 0)) (by rw[Tv a2]; kernel_rfl) (.s2 (A.v Value.nilFunc) (.s (ag (al a)) (.nn)))
   refine .sp (fun a3=>?_) (fun _=>?_)
   ·refine .st (v:=(pt 1 1)) (by rw[Tv a3]; kernel_rfl) (.s2 (vw 97 [] []) (.s (ag (al a)) (.dC r8 r8 (.cl ((aV BP).trans (MX ..)) (.s ((pt 6 0),[bx (al c),aQ,bx [(pt 1 0)],bx (al d),aO.row false 1 (h.map c8),bx (al a),bx (al a)]) (.s (im [[(uA 1)]] true) (.bd (g:=fun (y:List UInt8)=>((cf 4 0 y.length false),[bx (al c),aQ,bx [(pt 1 0)],bx (al d),aO.row false 1 (y.map c8),bx (al a),bx (al a)])) (cw cQ (l:=h) (l2:=[(1:UInt8)]) (b:=4) rfl (by decide) (bN (f:=c8) ([(1:UInt8)]:List UInt8) _ _)) fun a4=>.cT r8 (.s (pt 6 1) (.cT r8 (.s (iA a.N) (.bd (r a.N) fun a5=>.cl ((aV pF).trans (E7 ..)) (.as (sb C n _ _ _ _  ?_ _ a5 a4)))))))))))))
    ·intro k a6 ah
     refine .un rfl (.cT r8 (.st (v:=(uA (wr .u8 (k)))) (aL (hs:=by kernel_rfl) (hd:=by kernel_rfl) ..) (.gd fun hg=>.st (v:=(im [[(uA (((UInt8.ofNat (Int.toNat (wr .u8 (k)))).toNat:Int)))]] true)) (by rw[eV hg]; kernel_rfl) (.bd (g:=fun (y:List UInt8)=>((cf 4 0 y.length false),[bx (al c),aQ,bx [(pt 1 0)],bx (al d),aO.row false 1 (y.map c8),bx (al a),bx (al a)])) (cw cQ (l:=a6) (l2:=[(UInt8.ofNat (Int.toNat (wr .u8 (k))))]) (b:=4) rfl (by decide) (bN (f:=c8) ([(UInt8.ofNat (Int.toNat (wr .u8 (k))))]:List UInt8) _ _)) fun a7=>.cr (.ok (.cr (.ok (.st (aH ..) (.st (v:=[bx (al c),aQ,bx [(pt 1 0)],bx (al d),aO.row false 1 (a7.map c8)]) (eD r8 H7) (.cT ((by kernel_rfl:_=(bif aW 5 (i.map c8) then (bif aW 5 (j.map av) then true else false) else false)).trans s6) ?_))))))))))
     exact ih _ _
   refine .sp (fun a8=>?_) (fun _=>?_)
   ·refine .st (v:=(pt 1 2)) (by rw[Tv a8]; kernel_rfl) (.s2 (vw 100 [] []) (.s (ag (al a)) (.dC r8 r8 (.cl ((aV xl).trans (Gg ..)) (.s ((pt 6 0),[bx (al c),aQ,bx [(pt 1 0)],bx (al d),aO.row false 1 (h.map c8),bx (al a),bx (al a)]) (.s ((A.ip (al a)),[bx (al c),aQ,bx [(pt 1 0)],bx (al d),aO.row false 1 (h.map c8),bx (al a),aO.dead]) (.cT r8 (.s (im [[(uA 2)]] true) (.s (A.ip [(sA a.S),(im (a.L.map av) false)]) (.s (sA a.S) (.s (iA ((a.S.size:Int))) (.st (v:=(A.v (.int .u64 (wr .u64 ((a.S.size:Int)))))) (aL (hs:=by kernel_rfl) (hd:=by kernel_rfl) ..) (.s (A.ip [(sA a.S),(im (a.L.map av) false)]) (.s (sA a.S) (.cT r8 (.bd (g:=fun (y:List UInt8)=>((cf 4 0 y.length false),[bx (al c),aQ,bx [(pt 1 0)],bx (al d),aO.row false 1 (y.map c8),bx (al a),aO.dead])) (cw cQ (l:=h) (l2:=[(2:UInt8)]) (b:=4) rfl (by decide) (bN (f:=c8) ([(2:UInt8)]:List UInt8) _ _)) fun a9=>.cT r8 (.cl ((aV pF).trans (E7 ..)) (.as (sb C n _ _ _ _  ?_ _ (wr .u64 ((a.S.size:Int))) a9)))))))))))))))))))
    ·intro o aa ai
     refine .un rfl (.cT r8 (.st (v:=(uA (wr .u8 (o)))) (aL (hs:=by kernel_rfl) (hd:=by kernel_rfl) ..) (.gd fun hg=>.st (v:=(im [[(uA (((UInt8.ofNat (Int.toNat (wr .u8 (o)))).toNat:Int)))]] true)) (by rw[eV hg]; kernel_rfl) (.bd (g:=fun (y:List UInt8)=>((cf 4 0 y.length false),[bx (al c),aQ,bx [(pt 1 0)],bx (al d),aO.row false 1 (y.map c8),bx (al a),aO.dead])) (cw cQ (l:=aa) (l2:=[(UInt8.ofNat (Int.toNat (wr .u8 (o))))]) (b:=4) rfl (by decide) (bN (f:=c8) ([(UInt8.ofNat (Int.toNat (wr .u8 (o))))]:List UInt8) _ _)) fun ab=>.cr (.ok (.bd (g:=fun (y:List UInt8)=>((cf 4 0 y.length false),[bx (al c),aQ,bx [(pt 1 0)],bx (al d),aO.row false 1 (y.map c8),bx (al a),aO.dead])) (cw tB (l:=ab) (l2:=kA a.S) (b:=4) rfl (by decide) (pU ..)) fun ad=>.cr (.ok (.st (aH ..) (.st (v:=[bx (al c),aQ,bx [(pt 1 0)],bx (al d),aO.row false 1 (ad.map c8)]) (eD r8 H7) (.cT ((by kernel_rfl:_=(bif aW 5 (i.map c8) then (bif aW 5 (j.map av) then true else false) else false)).trans s6) ?_))))))))))
     exact ih _ _
   refine .sp (fun ae=>?_) (fun _=>?_)
   ·refine .st (v:=(pt 1 3)) (by rw[Tv ae]; kernel_rfl) (.s2 (vw 101 [] [(pt 2 0)]) (.s (ag (al a)) (.dC r8 r8 (.bg (fun (t:R) (y:(List UInt8))=>t=(Out.ret (cf 4 0 y.length false),[bx (al c),aQ,bx [(pt 1 0)],bx (al d),aO.row false 1 (y.map c8),bx (al a)])) (Ex C r (n+7) c d h a [bx (al a)]) ?_))))
    rintro _ af rfl
    refine .ok (.st (aH ..) (.st (v:=[bx (al c),aQ,bx [(pt 1 0)],bx (al d),aO.row false 1 (af.map c8)]) (eD r8 H7) (.cT ((by kernel_rfl:_=(bif aW 5 (i.map c8) then (bif aW 5 (j.map av) then true else false) else false)).trans s6) ?_)))
    exact ih _ _
   exact .nn
  exact .ex (w _ _ _ _ _ _ _ _ _ _)
def K2 (n:Nat) (a:aq):Option ((List UInt8)×Int):=
 (Ig a).bind fun e=>bif (e != 0) then (some (([],e))) else (bif decide (a.Kind=0) then (none) else bif decide (a.Kind=1) then ((c7 1 ([]) ([(1:UInt8)])).bind fun f=>(FR a.N).bind fun g=>(gx n  (n+6) g f).bind fun h=>match h with | (b,i)=>bif (decide (0<=(wr .u8 (b)))&&decide ((wr .u8 (b))<256)) then ((c7 1 i ([(UInt8.ofNat (Int.toNat (wr .u8 (b))))])).bind fun j=>some ((j,0))) else none) else bif decide (a.Kind=2) then ((c7 1 ([]) ([(2:UInt8)])).bind fun k=>(gx n  (n+6) (wr .u64 ((a.S.size:Int))) k).bind fun l=>match l with | (c,o)=>bif (decide (0<=(wr .u8 (c)))&&decide ((wr .u8 (c))<256)) then ((c7 1 o ([(UInt8.ofNat (Int.toNat (wr .u8 (c))))])).bind fun p=>(c7 1 p (kA a.S)).bind fun q=>some ((q,0))) else none) else bif decide (a.Kind=3) then ((c7 1 ([]) ([(3:UInt8)])).bind fun r=>(gx n  (n+6) (wr .u64 ((a.L.length:Int))) r).bind fun s=>match s with | (d,t)=>bif (decide (0<=(wr .u8 (d)))&&decide ((wr .u8 (d))<256)) then ((c7 1 t ([(UInt8.ofNat (Int.toNat (wr .u8 (d))))])).bind fun u=>(ft n ([]) a.L ((a.L.length:Int)) a a (n+7) 0 u).bind fun v=>match v with | w=>some ((w,0))) else none) else none)
theorem Rn (C:OT) (n:Nat) (p:EW C) (o:rY C) (a:aq):TJ C n 58 [(ag (al a))] (K2 n a) (fun y=>(tp [(im (y.1.map c8) false),(iA y.2)])):=by
 refine .lp (Sc ..) ?_
 unfold K2
 refine .s ((pt 0 0),[bx (al a)]) (.s (ag (al a)) (.bd (g:=fun (y:Int)=>(iA y)) (by simp only[cP,eu]; exact p a) fun y1=>.st (aI ..) (.cd ?_ ?_)))
 ·exact .lv s5
 refine .s (pt 0 0) (.s (iA a.Kind) (.s (ag (al a)) (.cT r8 (.cl ((aV Jy).trans (Sr ..)) (.s (ag [(A.v Value.nilFunc),(A.v Value.nilFunc),(A.v Value.nilFunc),(A.v Value.nilFunc)]) (.sq (pt 1 0) (.sq (pt 2 0) (.sh (.s (pt 1 0) (.s (pt 1 0) (.s (pt 1 1) (.s (pt 1 1) (.sh (.s (pt 1 0) (.s (pt 1 0) (.s (pt 1 2) (.s (pt 1 2) (.sh (.s (pt 1 0) (.s (pt 1 0) (.s (pt 1 3) (.s (pt 1 3) (.s [bx (al a),aQ,bx [(pt 1 0)]] ?_)))))))))))))))))))))))
 refine .s (pt 1 0) (.cr (.ok (.s (pt 1 0) (.sp (fun q=>?_) (fun _=>?_)))))
 ·exact .st (v:=(pt 1 0)) (by rw[Tv q]; kernel_rfl) (.s2 (A.v Value.nilFunc) (.nn))
 refine .sp (fun r=>?_) (fun _=>?_)
 ·refine .st (v:=(pt 1 1)) (by rw[Tv r]; kernel_rfl) (.s2 (vw 97 [] []) (.dC r8 r8 (.cl ((aV BP).trans (MX ..)) (.s ((pt 3 0),[bx (al a),aQ,bx [(pt 1 0)],bx (al a)]) (.s (im [[(uA 1)]] true) (.bd (g:=fun (y:List UInt8)=>((cf 4 0 y.length false),[bx (al a),aQ,bx [(pt 1 0)],bx (al a),aO.row false 1 (y.map c8)])) (kW cQ (l:=[]) (l2:=[(1:UInt8)]) (bN (f:=c8) ([(1:UInt8)]:List UInt8) _ _)) fun t=>.cT r8 (.s (pt 3 1) (.cT r8 (.s (iA a.N) (.bd (o a.N) fun u=>.cl ((aV pF).trans (E7 ..)) (.as (p3 C n _ _ _ _  ?_ _ u t))))))))))))
  ·intro i w a8
   exact .un rfl (.cT r8 (.st (v:=(uA (wr .u8 (i)))) (aL (hs:=by kernel_rfl) (hd:=by kernel_rfl) ..) (.gd fun hg=>.st (v:=(im [[(uA (((UInt8.ofNat (Int.toNat (wr .u8 (i)))).toNat:Int)))]] true)) (by rw[eV hg]; kernel_rfl) (.bd (g:=fun (y:List UInt8)=>((cf 4 0 y.length false),[bx (al a),aQ,bx [(pt 1 0)],bx (al a),aO.row false 1 (y.map c8)])) (cw cQ (l:=w) (l2:=[(UInt8.ofNat (Int.toNat (wr .u8 (i))))]) (b:=4) rfl (by decide) (bN (f:=c8) ([(UInt8.ofNat (Int.toNat (wr .u8 (i))))]:List UInt8) _ _)) fun c=>.cr (.ok (.cr (.ok (.lv (by show bC [bx (al a),aQ,bx [(pt 1 0)],bx (al a),aO.row false 1 (c.map c8)] (tp [(cf 4 0 c.length false),(iA 0)])=_; first | (simp only[cP,eu,bC,bO (H:=[bx (al a),aQ,bx [(pt 1 0)],bx (al a),aO.row false 1 (c.map c8)]) (b:=4) (es:=1) (wr:=false) (l:=c) eB rfl]; done) | (simp only[cP,jA,bC,bO (H:=[bx (al a),aQ,bx [(pt 1 0)],bx (al a),aO.row false 1 (c.map c8)]) (b:=4) (es:=1) (wr:=false) (l:=c) eB rfl]; first | done | rfl))))))))))
 refine .sp (fun x=>?_) (fun _=>?_)
 ·refine .st (v:=(pt 1 2)) (by rw[Tv x]; kernel_rfl) (.s2 (vw 100 [] []) (.dC r8 r8 (.cl ((aV xl).trans (Gg ..)) (.s ((pt 3 0),[bx (al a),aQ,bx [(pt 1 0)],bx (al a)]) (.s ((A.ip (al a)),[bx (al a),aQ,bx [(pt 1 0)],aO.dead]) (.cT r8 (.s (im [[(uA 2)]] true) (.s (A.ip [(sA a.S),(im (a.L.map av) false)]) (.s (sA a.S) (.s (iA ((a.S.size:Int))) (.st (v:=(A.v (.int .u64 (wr .u64 ((a.S.size:Int)))))) (aL (hs:=by kernel_rfl) (hd:=by kernel_rfl) ..) (.s (A.ip [(sA a.S),(im (a.L.map av) false)]) (.s (sA a.S) (.cT r8 (.bd (g:=fun (y:List UInt8)=>((cf 4 0 y.length false),[bx (al a),aQ,bx [(pt 1 0)],aO.dead,aO.row false 1 (y.map c8)])) (kW cQ (l:=[]) (l2:=[(2:UInt8)]) (bN (f:=c8) ([(2:UInt8)]:List UInt8) _ _)) fun z=>.cT r8 (.cl ((aV pF).trans (E7 ..)) (.as (p3 C n _ _ _ _  ?_ _ (wr .u64 ((a.S.size:Int))) z))))))))))))))))))
  ·intro j a1 a9
   exact .un rfl (.cT r8 (.st (v:=(uA (wr .u8 (j)))) (aL (hs:=by kernel_rfl) (hd:=by kernel_rfl) ..) (.gd fun hg=>.st (v:=(im [[(uA (((UInt8.ofNat (Int.toNat (wr .u8 (j)))).toNat:Int)))]] true)) (by rw[eV hg]; kernel_rfl) (.bd (g:=fun (y:List UInt8)=>((cf 4 0 y.length false),[bx (al a),aQ,bx [(pt 1 0)],aO.dead,aO.row false 1 (y.map c8)])) (cw cQ (l:=a1) (l2:=[(UInt8.ofNat (Int.toNat (wr .u8 (j))))]) (b:=4) rfl (by decide) (bN (f:=c8) ([(UInt8.ofNat (Int.toNat (wr .u8 (j))))]:List UInt8) _ _)) fun a2=>.cr (.ok (.bd (g:=fun (y:List UInt8)=>((cf 4 0 y.length false),[bx (al a),aQ,bx [(pt 1 0)],aO.dead,aO.row false 1 (y.map c8)])) (cw tB (l:=a2) (l2:=kA a.S) (b:=4) rfl (by decide) (pU ..)) fun d=>.cr (.ok (.lv (by show bC [bx (al a),aQ,bx [(pt 1 0)],aO.dead,aO.row false 1 (d.map c8)] (tp [(cf 4 0 d.length false),(iA 0)])=_; first | (simp only[cP,eu,bC,bO (H:=[bx (al a),aQ,bx [(pt 1 0)],aO.dead,aO.row false 1 (d.map c8)]) (b:=4) (es:=1) (wr:=false) (l:=d) eB rfl]; done) | (simp only[cP,jA,bC,bO (H:=[bx (al a),aQ,bx [(pt 1 0)],aO.dead,aO.row false 1 (d.map c8)]) (b:=4) (es:=1) (wr:=false) (l:=d) eB rfl]; first | done | rfl))))))))))
 refine .sp (fun a3=>?_) (fun _=>?_)
 ·refine .st (v:=(pt 1 3)) (by rw[Tv a3]; kernel_rfl) (.s2 (vw 101 [] [(pt 2 0)]) (.dC r8 r8 (.cl ((aV GA).trans (IB ..)) (.s ((pt 3 0),[bx (al a),aQ,bx [(pt 1 0)],bx (al a)]) (.s (im [[(uA 3)]] true) (.bd (g:=fun (y:List UInt8)=>((cf 4 0 y.length false),[bx (al a),aQ,bx [(pt 1 0)],bx (al a),aO.row false 1 (y.map c8)])) (kW cQ (l:=[]) (l2:=[(3:UInt8)]) (bN (f:=c8) ([(3:UInt8)]:List UInt8) _ _)) fun a4=>.cT r8 (.s (pt 3 3) (.cT r8 (.s (im (a.L.map av) false) (.cT r8 (.st (dT (e:=107)) (.cT r8 (.st (v:=(A.v (.int .u64 (wr .u64 ((a.L.length:Int)))))) (aL (hs:=by kernel_rfl) (hd:=by kernel_rfl) ..) (.cl ((aV pF).trans (E7 ..)) (.as (p3 C n _ _ _ _  ?_ _ (wr .u64 ((a.L.length:Int))) a4))))))))))))))))
  ·intro k a5 aa
   refine .un rfl (.cT r8 (.st (v:=(uA (wr .u8 (k)))) (aL (hs:=by kernel_rfl) (hd:=by kernel_rfl) ..) (.gd fun hg=>.st (v:=(im [[(uA (((UInt8.ofNat (Int.toNat (wr .u8 (k)))).toNat:Int)))]] true)) (by rw[eV hg]; kernel_rfl) (.bd (g:=fun (y:List UInt8)=>((cf 4 0 y.length false),[bx (al a),aQ,bx [(pt 1 0)],bx (al a),aO.row false 1 (y.map c8)])) (cw cQ (l:=a5) (l2:=[(UInt8.ofNat (Int.toNat (wr .u8 (k))))]) (b:=4) rfl (by decide) (bN (f:=c8) ([(UInt8.ofNat (Int.toNat (wr .u8 (k))))]:List UInt8) _ _)) fun a6=>.cr (.ok (.s2 (im (a.L.map av) false) (.st (dT (e:=107)) (.as (ze C n _ _ _ _ o ([]) a.L ((a.L.length:Int)) a a ?_ _ 0 a6)))))))))
   ·intro h ab ad ae af ah w959 w960 w961 w962
    exact .un rfl (.cT r8 (.cr (.ok (.lv (by show bC [w959,w960,w961,w962,aO.row false 1 (h.map c8)] (tp [(cf 4 0 h.length false),(iA 0)])=_; first | (simp only[cP,eu,bC,bO (H:=[w959,w960,w961,w962,aO.row false 1 (h.map c8)]) (b:=4) (es:=1) (wr:=false) (l:=h) eB rfl]; done) | (simp only[cP,jA,bC,bO (H:=[w959,w960,w961,w962,aO.row false 1 (h.map c8)]) (b:=4) (es:=1) (wr:=false) (l:=h) eB rfl]; first | done | rfl))))))
 exact .nn
def FQ (a:aq):Option ((List UInt8)×Int):=K2 aB a
def EN (C:OT):Prop:=∀ (a:aq),C 58 [(ag (al a))]=(FQ a).map fun y=>(tp [(im (y.1.map c8) false),(iA y.2)])
end Go.Proofs.Ytebkhfhcipnfgaa
