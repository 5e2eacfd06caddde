/-
 The program's functions as plain functions: by a tool; each follows the interpreter.
-/
import Derived.Test.YtebkhfhcipnfgaaGreatE
namespace Go.Proofs.YtebkhfhcipnfgaaGreat
open Go.Proofs.Tryz (prog)
set_option linter.unusedVariables false
set_option linter.unusedSimpArgs false
set_option maxHeartbeats 4000000
set_option maxRecDepth 100000
set_option linter.defProp false
theorem so {p:Prop} (h:p:=by simp only[bR,e9,aS]; first | done | rfl):p:=h
theorem s0 {p:Prop} (h:p:=by simp only[ig,ij]):p:=h
theorem u2 {p:Prop} (h:p:=by simp only[uB,ig,ij,Nat.reduceLT,decide_true]):p:=h
theorem An {p:Prop} (h:p:=by simp only[List.map_cons,List.map_nil,c7]):p:=h
theorem XE {p:Prop} (h:p:=by simp only[uB,ig,ij,Nat.reduceLT,decide_true,aZ]):p:=h
def qao:=@Nat.add_sub_cancel
variable (C:Nat->List A->Option A) (n:Nat) {ρ γ:Type} {φ:ρ->γ->Prop} {kL:R->Option ρ} (kx kg:Nat->St->Option R) (kr:St->Option R) (kp:A->St->Option R)
abbrev OT:=Nat->List A->Option A
abbrev jl:=ByteArray.empty
abbrev sA (s:ByteArray):A:=.v (.string s)
abbrev se:A:=sA jl
abbrev im:=A.imm
abbrev XL:A:=im [] true
abbrev ag:=A.agg
abbrev pt:=A.ptr
abbrev tp:=A.tup
abbrev bW:=A.sl
abbrev bx:=aO.box
abbrev tz (k:Nat) (a b:List A):A:=A.fn (Fn.func k) a b
abbrev XD:aO:=aO.box [(A.imm [] true),(A.imm [] true),(iA 0),(bA false)]
abbrev XC:aO:=aO.box [(A.imm [] true),(iA 0),(iA 0)]
noncomputable abbrev ec (C:Nat->List A->Option A) (n k:Nat):=dZ (cx C) (n+k)
noncomputable abbrev ey (C:Nat->List A->Option A) (n k:Nat):=bF (cx C) (n+k)
structure au where
 Kind:Int
 N:Int
 S:ByteArray
 L:(List au)
 deriving Inhabited
mutual
def dk:au->A
 | .mk _ _ _ l=>.imm (cu l) false
def cu:List au->List (List A)
 | []=>[]
 | x :: r=>[(iA x.Kind),(iA x.N),(sA x.S),dk x] :: cu r
end
def ax (x:au):List A:=[(iA x.Kind),(iA x.N),(sA x.S),dk x]
theorem sw:∀ (l:List au),cu l=l.map ax
 | []=>by rw[cu]; rfl
 | x :: r=>by rw[cu,sw r]; rfl
theorem zo (x:au):dk x=.imm (x.L.map ax) false:=by
 cases x; rw[dk,sw]
abbrev ar (x:au):List A:=[(iA x.Kind),(iA x.N),(sA x.S),.imm (x.L.map ax) false]
theorem c7 (x:au):ax x=[(iA x.Kind),(iA x.N),(sA x.S),.imm (x.L.map ax) false]:=by
 show [(iA x.Kind),(iA x.N),(sA x.S),dk x]=_
 rw[zo]
theorem er (o:Option au):(o.map fun x=>A.ip (ax x))=o.map fun x=>A.ip [(iA x.Kind),(iA x.N),(sA x.S),.imm (x.L.map ax) false]:=by
 cases o with
 | none=>rfl
 | some x=>exact YF (fun z=>some (A.ip z)) (c7 x)
theorem yM:kJ ax:=fun x=>by rw[c7]; rfl
mutual
theorem tc (L:Nat):∀ (x:au),A.under L (dk x)=true
 | .mk _ _ _ l=>by rw[dk,A.under]; exact tg L l
theorem tg (L:Nat):∀ (l:List au),bk L (cu l)=true
 | []=>by rw[cu]; rfl
 | x :: r=>by rw[cu,bk,tg L r]; simp only[bq,A.under,tc L x,YY,Zq]
end
mutual
theorem sP (g:Nat->Nat->Nat->A):∀ (x:au),cD g (dk x)=dk x
 | .mk _ _ _ l=>by rw[dk,cD,sZ g l]
theorem sZ (g:Nat->Nat->Nat->A):∀ (l:List au),dh g (cu l)=cu l
 | []=>by rw[cu]; rfl
 | x :: r=>by rw[cu,dh,sZ g r]; simp only[bp,cD,sP g x]
end
theorem dE:dp ax:=fun L x=>by unfold ax; simp only[bq,A.under,tc L x,YY,Zq]
theorem cM:cq ax:=fun g x=>by unfold ax; simp only[bp,cD,sP g x]
mutual
theorem sd:∀ (x y:au),dk x=dk y->x.L=y.L
 | .mk xKind xN xS l,.mk yKind yN yS l'=>fun h=>by
  rw[dk,dk,A.imm.injEq] at h
  exact ss l l' h.1
theorem ss:∀ (l l':List au),cu l=cu l'->l=l'
 | [],[]=>fun _=>rfl
 | [],y :: r=>fun h=>by rw[cu,cu] at h; cases h
 | x :: r,[]=>fun h=>by rw[cu,cu] at h; cases h
 | x :: r,y :: r'=>fun h=>by
  rw[cu,cu,YJ] at h
  have h2:=ss r r' h.2
  have h1:=h.1
  simp only[YJ,A.v.injEq,Zc,Ze,Y7,Z8,ZK] at h1
  have h3:=sd x y (by simp[h1])
  rw[h2]
  congr 1
  obtain ⟨xKind,xN,xS,lx⟩:=x; obtain ⟨yKind,yN,yS,ly⟩:=y
  simp_all
end
theorem g7 {T:Type} {f:T->List A} {H:aC} {l:List T} {rows:List (List A)} {c:Bool} (h:l.map f=rows):oO H (.imm rows c) f l:=by
 rw[<-h]; exact bC ..
structure aA where
 From:Int
 To:Int
 Data:(List UInt8)
 deriving DecidableEq,Inhabited
def ak (x:aA):List A:=[(iA x.From),(iA x.To),(im (List.map c8 x.Data) false)]
theorem w6:kJ ak:=fun _=>rfl
theorem dt:dp ak:=fun _ _=>by simp only[ak,bq,A.under,dg,mD,mB,mC,mF,mE,YY,Yi,dE]
theorem bZ:cq ak:=fun _ _=>by simp only[ak,cD,bp,cA,ke,eU,my,mA,mz,cM]
def aq (x:(Int×Int)):List A:=[(iA x.1),(iA x.2)]
theorem cW:dp aq:=fun _ _=>by simp only[aq,bq,A.under,dg,mD,mB,mC,mF,mE,YY,Yi,dE,dt]
theorem cV:cq aq:=fun _ _=>by simp only[aq,cD,bp,cA,ke,eU,my,mA,mz,cM,bZ]
theorem tC (g:Nat->Nat->Nat->A) (x:(Int×Int)):bp g (aq x)=aq x:=cV g x
theorem rY (L:Nat) (x:(Int×Int)):bq L (aq x)=true:=cW L x
structure aD where
 Queue:(List aA)
 Apart:(List (Int×Int))
 deriving DecidableEq,Inhabited
def bP (x:aD):List A:=[(im (List.map ak x.Queue) false),(im (List.map aq x.Apart) false)]
theorem gr:dp bP:=fun _ _=>by simp only[bP,bq,A.under,dg,mD,mB,mC,mF,mE,YY,Yi,dE,dt,cW]
theorem gq:cq bP:=fun _ _=>by simp only[bP,cD,bp,cA,ke,eU,my,mA,mz,cM,bZ,cV]
structure aR where
 No:Int
 Role:Int
 Bar:Int
 Program:Int
 deriving DecidableEq,Inhabited
def ay (x:aR):List A:=[(iA x.No),(iA x.Role),(iA x.Bar),(iA x.Program)]
theorem pb:kJ ay:=fun _=>rfl
theorem g9:dp ay:=fun _ _=>by simp only[ay,bq,A.under,dg,mD,mB,mC,mF,mE,YY,Yi,dE,dt,cW,gr]
theorem dV:cq ay:=fun _ _=>by simp only[ay,cD,bp,cA,ke,eU,my,mA,mz,cM,bZ,cV,gq]
structure bj where
 Cues:(List aR)
 Got:(List Int)
 Did:(List Int)
 deriving DecidableEq,Inhabited
def az (x:bj):List A:=[(im (List.map ay x.Cues) false),(im (List.map (cI .i64) x.Got) false),(im (List.map (cI .i64) x.Did) false)]
theorem pd:kJ az:=fun _=>rfl
theorem iY:dp az:=fun _ _=>by simp only[az,bq,A.under,dg,mD,mB,mC,mF,mE,YY,Yi,dE,dt,cW,gr,g9]
theorem dW:cq az:=fun _ _=>by simp only[az,cD,bp,cA,ke,eU,my,mA,mz,cM,bZ,cV,gq,dV]
structure aw where
 Net:aD
 Ears:(List bj)
 Bar:Int
 deriving DecidableEq,Inhabited
def al (x:aw):List A:=[(im (List.map ak x.Net.Queue) false),(im (List.map aq x.Net.Apart) false),(im (List.map az x.Ears) false),(iA x.Bar)]
theorem gI:dp al:=fun _ _=>by simp only[al,bq,A.under,dg,mD,mB,mC,mF,mE,YY,Yi,dE,dt,cW,gr,g9,iY]
theorem gH:cq al:=fun _ _=>by simp only[al,cD,bp,cA,ke,eU,my,mA,mz,cM,bZ,cV,gq,dV,dW]
structure bh where
 Role:Int
 Bar:Int
 Program:Int
 deriving DecidableEq,Inhabited
def aB (x:bh):List A:=[(iA x.Role),(iA x.Bar),(iA x.Program)]
theorem gO:dp aB:=fun _ _=>by simp only[aB,bq,A.under,dg,mD,mB,mC,mF,mE,YY,Yi,dE,dt,cW,gr,g9,iY,gI]
theorem gN:cq aB:=fun _ _=>by simp only[aB,cD,bp,cA,ke,eU,my,mA,mz,cM,bZ,cV,gq,dV,dW,gH]
structure aU where
 kind:Int
 cue:aR
 report:bh
 deriving DecidableEq,Inhabited
def av (x:aU):List A:=[(iA x.kind),(iA x.cue.No),(iA x.cue.Role),(iA x.cue.Bar),(iA x.cue.Program),(iA x.report.Role),(iA x.report.Bar),(iA x.report.Program)]
theorem eu:dp av:=fun _ _=>by simp only[av,bq,A.under,dg,mD,mB,mC,mF,mE,YY,Yi,dE,dt,cW,gr,g9,iY,gI,gO]
theorem et:cq av:=fun _ _=>by simp only[av,cD,bp,cA,ke,eU,my,mA,mz,cM,bZ,cV,gq,dV,dW,gH,gN]
structure eR where
 rest:(List UInt8)
 deriving DecidableEq,Inhabited
def bn (x:eR):List A:=[(im (List.map c8 x.rest) false)]
theorem fy:dp bn:=fun _ _=>by simp only[bn,bq,A.under,dg,mD,mB,mC,mF,mE,YY,Yi,dE,dt,cW,gr,g9,iY,gI,gO,eu]
theorem fw:cq bn:=fun _ _=>by simp only[bn,cD,bp,cA,ke,eU,my,mA,mz,cM,bZ,cV,gq,dV,dW,gH,gN,et]
def cF (x:(Bool×Bool×Bool×Bool)):List A:=[(bA x.1),(bA x.2.1),(bA x.2.2.1),(bA x.2.2.2)]
theorem og:dp cF:=fun _ _=>by simp only[cF,bq,A.under,dg,mD,mB,mC,mF,mE,YY,Yi,dE,dt,cW,gr,g9,iY,gI,gO,eu,fy]
theorem od:cq cF:=fun _ _=>by simp only[cF,cD,bp,cA,ke,eU,my,mA,mz,cM,bZ,cV,gq,dV,dW,gH,gN,et,fw]
theorem zb (g:Nat->Nat->Nat->A) (x:(Bool×Bool×Bool×Bool)):bp g (cF x)=cF x:=od g x
theorem xw (L:Nat) (x:(Bool×Bool×Bool×Bool)):bq L (cF x)=true:=og L x
structure cE where
 B:(List UInt8)
 At:Int
 Bad:Bool
 deriving DecidableEq,Inhabited
def aH (x:cE):List A:=[(im (List.map c8 x.B) false),(iA x.At),(bA x.Bad)]
theorem fz:dp aH:=fun _ _=>by simp only[aH,bq,A.under,dg,mD,mB,mC,mF,mE,YY,Yi,dE,dt,cW,gr,g9,iY,gI,gO,eu,fy,og]
theorem fx:cq aH:=fun _ _=>by simp only[aH,cD,bp,cA,ke,eU,my,mA,mz,cM,bZ,cV,gq,dV,dW,gH,gN,et,fw,od]
theorem zd (g:Nat->Nat->Nat->A) (x:au):bp g (ax x)=ax x:=cM g x
theorem xx (L:Nat) (x:au):bq L (ax x)=true:=dE L x
theorem xp (g:Nat->Nat->Nat->A) (x:aA):bp g (ak x)=ak x:=bZ g x
theorem vJ (L:Nat) (x:aA):bq L (ak x)=true:=dt L x
theorem Dy (g:Nat->Nat->Nat->A) (x:aD):bp g (bP x)=bP x:=gq g x
theorem Bw (L:Nat) (x:aD):bq L (bP x)=true:=gr L x
theorem Dw (g:Nat->Nat->Nat->A) (x:aR):bp g (ay x)=ay x:=dV g x
theorem Bu (L:Nat) (x:aR):bq L (ay x)=true:=g9 L x
theorem Dx (g:Nat->Nat->Nat->A) (x:bj):bp g (az x)=az x:=dW g x
theorem Bv (L:Nat) (x:bj):bq L (az x)=true:=iY L x
theorem ze (g:Nat->Nat->Nat->A) (x:aw):bp g (al x)=al x:=gH g x
theorem xy (L:Nat) (x:aw):bq L (al x)=true:=gI L x
theorem xq (g:Nat->Nat->Nat->A) (x:bh):bp g (aB x)=aB x:=gN g x
theorem vK (L:Nat) (x:bh):bq L (aB x)=true:=gO L x
theorem oe (g:Nat->Nat->Nat->A) (x:aU):bp g (av x)=av x:=et g x
theorem nH (L:Nat) (x:aU):bq L (av x)=true:=eu L x
theorem pz (g:Nat->Nat->Nat->A) (x:eR):bp g (bn x)=bn x:=fw g x
theorem oh (L:Nat) (x:eR):bq L (bn x)=true:=fy L x
theorem jv (g:Nat->Nat->Nat->A) (x:cE):bp g (aH x)=aH x:=fx g x
theorem jn (L:Nat) (x:cE):bq L (aH x)=true:=fz L x
theorem eS:wv prog 106 106 108 4 56 [(iA 0),(iA 0),se,XL] ax:=⟨r7,r7,r7,r7,rfl,by decide,by decide,r7,fun _=>rfl,yM⟩
theorem cX:wv prog 66 66 5 1 1 [(uA 0)] c8:=⟨r7,r7,r7,r7,rfl,by decide,by decide,r7,fun _=>rfl,HS⟩
theorem vl:wv prog 66 9 5 1 1 [(uA 0)] c8:=⟨r7,r7,r7,r7,rfl,by decide,by decide,r7,fun _=>rfl,HS⟩
theorem nu:wv prog 22 22 68 3 40 [(iA 0),(iA 0),XL] ak:=⟨r7,r7,r7,r7,rfl,by decide,by decide,r7,fun _=>rfl,w6⟩
theorem lS:wv prog 48 48 46 4 32 [(iA 0),(iA 0),(iA 0),(iA 0)] ay:=⟨r7,r7,r7,r7,rfl,by decide,by decide,r7,fun _=>rfl,pb⟩
theorem Ff:wv prog 29 29 3 1 8 [(iA 0)] (cI .i64):=⟨r7,r7,r7,r7,rfl,by decide,by decide,r7,fun _=>rfl,(Li _)⟩
abbrev TJ {T:Type} (C:OT) (n k:Nat) (args:List A) (X:Option T) (f:T->A):Prop:=J (fun (o:R) y=>∃ v,o.1=.ret v/\aS o.2 v=f y) (aF (cx C) (ec C n 8) (ey C n 8) (n+8) k args [] 0) some X some
theorem nI {P:Nat->Prop} (h0:P 0) (hs:∀ m,P m->P (m+1)) (m:Nat):P m:=by
 induction m with
 | zero=>exact h0
 | succ m ih=>exact hs m ih
section
variable {ρ γ σ α τ:Type} {φ:ρ->γ->Prop} {kL:σ->Option ρ} {K:α->Option γ} {R:Option α} {k:τ->Option σ}
theorem J.Nc {X:Option (List A)} {F:A->A->A->A->A->A->A->A->A->A->A->A->A->Option τ} (h:J φ (((X).bind fun l=>bl l fun a l=>bl l fun b l=>bl l fun c l=>bl l fun d l=>bl l fun e l=>bl l fun f l=>bl l fun g l=>bl l fun h l=>bl l fun i l=>bl l fun j l=>bl l fun m l=>bl l fun n l=>bl l fun o l=>F a b c d e f g h i j m n o).bind k) kL R K):J φ ((X).bind fun l=>bl l fun a l=>bl l fun b l=>bl l fun c l=>bl l fun d l=>bl l fun e l=>bl l fun f l=>bl l fun g l=>bl l fun h l=>bl l fun i l=>bl l fun j l=>bl l fun m l=>bl l fun n l=>bl l fun o l=>(F a b c d e f g h i j m n o).bind k) kL R K:=by simpa only [Yw,jg] using h
theorem J.SP {X:Option (List A)} {F:A->A->A->A->A->A->A->A->A->A->Option τ} (h:J φ (((X).bind fun l=>bl l fun a l=>bl l fun b l=>bl l fun c l=>bl l fun d l=>bl l fun e l=>bl l fun f l=>bl l fun g l=>bl l fun h l=>bl l fun i l=>bl l fun j l=>F a b c d e f g h i j).bind k) kL R K):J φ ((X).bind fun l=>bl l fun a l=>bl l fun b l=>bl l fun c l=>bl l fun d l=>bl l fun e l=>bl l fun f l=>bl l fun g l=>bl l fun h l=>bl l fun i l=>bl l fun j l=>(F a b c d e f g h i j).bind k) kL R K:=by simpa only [Yw,jg] using h
theorem J.Ew {X:Option (List A)} {Y:A->A->A->A->A->A->A->A->A->A->A->A->A->A->A->A->A->A->A->A->A->A->A->A->A->A->A->A->A->A->A->Option (List A)} {Z:A->A->A->A->A->A->A->A->A->A->A->A->A->A->A->A->A->A->A->A->A->A->A->A->A->A->A->A->A->A->A->A->Option (List A)} {F:A->A->A->A->A->A->A->A->A->A->A->A->A->A->A->A->A->A->A->A->A->A->A->A->A->A->A->A->A->A->A->A->A->Option τ} (h:J φ (((X).bind fun l=>bl l fun a l=>bl l fun b l=>bl l fun c l=>bl l fun d l=>bl l fun e l=>bl l fun f l=>bl l fun g l=>bl l fun h l=>bl l fun i l=>bl l fun j l=>bl l fun m l=>bl l fun n l=>bl l fun o l=>bl l fun p l=>bl l fun q l=>bl l fun r l=>bl l fun s l=>bl l fun t l=>bl l fun u l=>bl l fun v l=>bl l fun w l=>bl l fun aa l=>bl l fun ab l=>bl l fun ac l=>bl l fun ad l=>bl l fun ae l=>bl l fun af l=>bl l fun ag l=>bl l fun ah l=>bl l fun ai l=>bl l fun aj l=>(Y a b c d e f g h i j m n o p q r s t u v w aa ab ac ad ae af ag ah ai aj).bind fun l=>bl l fun ba l=>(Z a b c d e f g h i j m n o p q r s t u v w aa ab ac ad ae af ag ah ai aj ba).bind fun l=>bl l fun bb l=>F a b c d e f g h i j m n o p q r s t u v w aa ab ac ad ae af ag ah ai aj ba bb).bind k) kL R K):J φ ((X).bind fun l=>bl l fun a l=>bl l fun b l=>bl l fun c l=>bl l fun d l=>bl l fun e l=>bl l fun f l=>bl l fun g l=>bl l fun h l=>bl l fun i l=>bl l fun j l=>bl l fun m l=>bl l fun n l=>bl l fun o l=>bl l fun p l=>bl l fun q l=>bl l fun r l=>bl l fun s l=>bl l fun t l=>bl l fun u l=>bl l fun v l=>bl l fun w l=>bl l fun aa l=>bl l fun ab l=>bl l fun ac l=>bl l fun ad l=>bl l fun ae l=>bl l fun af l=>bl l fun ag l=>bl l fun ah l=>bl l fun ai l=>bl l fun aj l=>(Y a b c d e f g h i j m n o p q r s t u v w aa ab ac ad ae af ag ah ai aj).bind fun l=>bl l fun ba l=>(Z a b c d e f g h i j m n o p q r s t u v w aa ab ac ad ae af ag ah ai aj ba).bind fun l=>bl l fun bb l=>(F a b c d e f g h i j m n o p q r s t u v w aa ab ac ad ae af ag ah ai aj ba bb).bind k) kL R K:=by simpa only [Yw,jg] using h
theorem J.J8 {X:Option (List A)} {Y:A->A->A->A->A->A->A->A->A->A->A->A->A->A->A->A->A->Option (List A)} {F:A->A->A->A->A->A->A->A->A->A->A->A->A->A->A->A->A->A->Option τ} (h:J φ (((X).bind fun l=>bl l fun a l=>bl l fun b l=>bl l fun c l=>bl l fun d l=>bl l fun e l=>bl l fun f l=>bl l fun g l=>bl l fun h l=>bl l fun i l=>bl l fun j l=>bl l fun m l=>bl l fun n l=>bl l fun o l=>bl l fun p l=>bl l fun q l=>bl l fun r l=>bl l fun s l=>(Y a b c d e f g h i j m n o p q r s).bind fun l=>bl l fun t l=>F a b c d e f g h i j m n o p q r s t).bind k) kL R K):J φ ((X).bind fun l=>bl l fun a l=>bl l fun b l=>bl l fun c l=>bl l fun d l=>bl l fun e l=>bl l fun f l=>bl l fun g l=>bl l fun h l=>bl l fun i l=>bl l fun j l=>bl l fun m l=>bl l fun n l=>bl l fun o l=>bl l fun p l=>bl l fun q l=>bl l fun r l=>bl l fun s l=>(Y a b c d e f g h i j m n o p q r s).bind fun l=>bl l fun t l=>(F a b c d e f g h i j m n o p q r s t).bind k) kL R K:=by simpa only [Yw,jg] using h
theorem J.J7 {X:Option (List A)} {Y:A->A->A->A->A->A->A->A->A->A->A->A->Option (List A)} {F:A->A->A->A->A->A->A->A->A->A->A->A->A->Option τ} (h:J φ (((X).bind fun l=>bl l fun a l=>bl l fun b l=>bl l fun c l=>bl l fun d l=>bl l fun e l=>bl l fun f l=>bl l fun g l=>bl l fun h l=>bl l fun i l=>bl l fun j l=>bl l fun m l=>bl l fun n l=>(Y a b c d e f g h i j m n).bind fun l=>bl l fun o l=>F a b c d e f g h i j m n o).bind k) kL R K):J φ ((X).bind fun l=>bl l fun a l=>bl l fun b l=>bl l fun c l=>bl l fun d l=>bl l fun e l=>bl l fun f l=>bl l fun g l=>bl l fun h l=>bl l fun i l=>bl l fun j l=>bl l fun m l=>bl l fun n l=>(Y a b c d e f g h i j m n).bind fun l=>bl l fun o l=>(F a b c d e f g h i j m n o).bind k) kL R K:=by simpa only [Yw,jg] using h
theorem J.Nb {X:Option (List A)} {F:A->A->A->A->A->A->A->A->A->A->A->A->Option τ} (h:J φ (((X).bind fun l=>bl l fun a l=>bl l fun b l=>bl l fun c l=>bl l fun d l=>bl l fun e l=>bl l fun f l=>bl l fun g l=>bl l fun h l=>bl l fun i l=>bl l fun j l=>bl l fun m l=>bl l fun n l=>F a b c d e f g h i j m n).bind k) kL R K):J φ ((X).bind fun l=>bl l fun a l=>bl l fun b l=>bl l fun c l=>bl l fun d l=>bl l fun e l=>bl l fun f l=>bl l fun g l=>bl l fun h l=>bl l fun i l=>bl l fun j l=>bl l fun m l=>bl l fun n l=>(F a b c d e f g h i j m n).bind k) kL R K:=by simpa only [Yw,jg] using h
theorem J.Xx {X:Option (List A)} {F:A->A->A->A->A->Option τ} (h:J φ (((X).bind fun l=>bl l fun a l=>bl l fun b l=>bl l fun c l=>bl l fun d l=>bl l fun e l=>F a b c d e).bind k) kL R K):J φ ((X).bind fun l=>bl l fun a l=>bl l fun b l=>bl l fun c l=>bl l fun d l=>bl l fun e l=>(F a b c d e).bind k) kL R K:=by simpa only [Yw,jg] using h
theorem J.Ug {X:Option (List A)} {F:A->A->A->A->A->A->A->Option τ} (h:J φ (((X).bind fun l=>bl l fun a l=>bl l fun b l=>bl l fun c l=>bl l fun d l=>bl l fun e l=>bl l fun f l=>bl l fun g l=>F a b c d e f g).bind k) kL R K):J φ ((X).bind fun l=>bl l fun a l=>bl l fun b l=>bl l fun c l=>bl l fun d l=>bl l fun e l=>bl l fun f l=>bl l fun g l=>(F a b c d e f g).bind k) kL R K:=by simpa only [Yw,jg] using h
end
theorem e9:cq ax/\cq ak/\cq aq/\cq bP/\cq ay/\cq az/\cq al/\cq aB/\cq av/\cq bn/\cq cF/\cq aH/\(∀ (g:Nat->Nat->Nat->A) (x:au),bp g (ax x)=ax x)/\(∀ (g:Nat->Nat->Nat->A) (x:aA),bp g (ak x)=ak x)/\(∀ (g:Nat->Nat->Nat->A) (x:(Int×Int)),bp g (aq x)=aq x)/\(∀ (g:Nat->Nat->Nat->A) (x:aD),bp g (bP x)=bP x)/\(∀ (g:Nat->Nat->Nat->A) (x:aR),bp g (ay x)=ay x)/\(∀ (g:Nat->Nat->Nat->A) (x:bj),bp g (az x)=az x)/\(∀ (g:Nat->Nat->Nat->A) (x:aw),bp g (al x)=al x)/\(∀ (g:Nat->Nat->Nat->A) (x:bh),bp g (aB x)=aB x)/\(∀ (g:Nat->Nat->Nat->A) (x:aU),bp g (av x)=av x)/\(∀ (g:Nat->Nat->Nat->A) (x:eR),bp g (bn x)=bn x)/\(∀ (g:Nat->Nat->Nat->A) (x:(Bool×Bool×Bool×Bool)),bp g (cF x)=cF x)/\(∀ (g:Nat->Nat->Nat->A) (x:cE),bp g (aH x)=aH x)/\True:=⟨cM,bZ,cV,gq,dV,dW,gH,gN,et,fw,od,fx,zd,xp,tC,Dy,Dw,Dx,ze,xq,oe,pz,zb,jv,trivial⟩
theorem cY:(cq ax/\cq ak/\cq aq/\cq bP/\cq ay/\cq az/\cq al/\cq aB/\cq av/\cq bn/\cq cF/\cq aH/\(∀ (g:Nat->Nat->Nat->A) (x:au),bp g (ax x)=ax x)/\(∀ (g:Nat->Nat->Nat->A) (x:aA),bp g (ak x)=ak x)/\(∀ (g:Nat->Nat->Nat->A) (x:(Int×Int)),bp g (aq x)=aq x)/\(∀ (g:Nat->Nat->Nat->A) (x:aD),bp g (bP x)=bP x)/\(∀ (g:Nat->Nat->Nat->A) (x:aR),bp g (ay x)=ay x)/\(∀ (g:Nat->Nat->Nat->A) (x:bj),bp g (az x)=az x)/\(∀ (g:Nat->Nat->Nat->A) (x:aw),bp g (al x)=al x)/\(∀ (g:Nat->Nat->Nat->A) (x:bh),bp g (aB x)=aB x)/\(∀ (g:Nat->Nat->Nat->A) (x:aU),bp g (av x)=av x)/\(∀ (g:Nat->Nat->Nat->A) (x:eR),bp g (bn x)=bn x)/\(∀ (g:Nat->Nat->Nat->A) (x:(Bool×Bool×Bool×Bool)),bp g (cF x)=cF x)/\(∀ (g:Nat->Nat->Nat->A) (x:cE),bp g (aH x)=aH x)/\True)/\(∀ {T U:Type} (f:T->U) (a:T) (l:List T),(a :: l).map f=f a :: l.map f)/\(∀ {T U:Type} (f:T->U),[].map f=[]):=⟨e9,fun _ _ _=>rfl,fun _=>rfl⟩
theorem ij:dp ax/\dp ak/\dp aq/\dp bP/\dp ay/\dp az/\dp al/\dp aB/\dp av/\dp bn/\dp cF/\dp aH/\(∀ (L:Nat) (x:au),bq L (ax x)=true)/\(∀ (L:Nat) (x:aA),bq L (ak x)=true)/\(∀ (L:Nat) (x:(Int×Int)),bq L (aq x)=true)/\(∀ (L:Nat) (x:aD),bq L (bP x)=true)/\(∀ (L:Nat) (x:aR),bq L (ay x)=true)/\(∀ (L:Nat) (x:bj),bq L (az x)=true)/\(∀ (L:Nat) (x:aw),bq L (al x)=true)/\(∀ (L:Nat) (x:bh),bq L (aB x)=true)/\(∀ (L:Nat) (x:aU),bq L (av x)=true)/\(∀ (L:Nat) (x:eR),bq L (bn x)=true)/\(∀ (L:Nat) (x:(Bool×Bool×Bool×Bool)),bq L (cF x)=true)/\(∀ (L:Nat) (x:cE),bq L (aH x)=true)/\True:=⟨dE,dt,cW,gr,g9,iY,gI,gO,eu,fy,og,fz,xx,vJ,rY,Bw,Bu,Bv,xy,vK,nH,oh,xw,jn,trivial⟩
def EK {X Y:Type} [DecidableEq X]:List (X×Y)->X->Option Y
 | [],_=>none
 | e :: t,z=>if e.1=z then some e.2 else EK t z
theorem ta {X Y:Type} [DecidableEq X]:∀ {t:List (X×Y)} {z:X} {y:Y},EK t z=some y->(z,y)∈t
 | [],_,_,h=>by cases h
 | e :: t,z,y,h=>by
  unfold EK at h
  split at h
  ·rename_i he
   cases h; subst he
   exact ZN ..
  ·exact Zt _ (ta h)
noncomputable def Qv (C:OT) (N:Nat) (k:Nat) (args:List A):Option A:=match dZ (cx C) N k args [] 0 with
 | some (.ret x,H)=>some (aS H x)
 | _=>none
noncomputable def Cn:Nat->Nat->List A->Option A
 | 0=>fun _ _=>none
 | m+1=>Qv (Cn m) 1000
def NP (n:Nat) (a:Int) (b:Int) (a2:Int):Option Bool:=
 (bif (decide (b<=a)) then (some (decide (a<=a2))) else (some false)).bind fun c=>some c
theorem Vd (C:OT) (n:Nat) (a:Int) (b:Int) (a2:Int):TJ C n 23 [(iA a),(iA b),(iA a2)] (NP n a b a2) (fun y=>(bA y)):=by
 refine .lp (Wc ..) ?_
 unfold NP
 refine .st (en ..) (.bg (fun t (y:Bool)=>∃ c d e:A,t=[(bA y),c,d,e]) ?_ ?_)
 ·refine .bi ?_ ?_
  ·exact .st (en ..) (.lg ⟨_,_,_,rfl⟩)
  exact .lg ⟨_,_,_,rfl⟩
 rintro _ f ⟨c,d,e,rfl⟩
 exact .u4 (.lv rfl)
def zU (a:Int) (b:Int) (a2:Int):Option Bool:=NP aE a b a2
def q8 (C:OT):Prop:=∀ (a:Int) (b:Int) (a2:Int),C 23 [(iA a),(iA b),(iA a2)]=(zU a b a2).map fun y=>(bA y)
def P5 (n:Nat)  : Option aD:=
 some ((aD.mk ([]) ([])))
theorem Vr (C:OT) (n:Nat):TJ C n 51 [] (P5 n ) (fun y=>(ag [(im (y.Queue.map ak) false),(im (y.Apart.map aq) false)])):=by
 refine .lp (Wr ..) ?_
 unfold P5
 exact .s ((pt 0 0),[bx [XL,XL]]) (.s (ag [XL,XL]) (.s [bx [XL,XL]] (.s (ag [XL,XL]) (.lv so))))
def Qa  : Option aD:=P5 aE
def HG (C:OT):Prop:=∀ (_:Unit),C 51 []=(Qa ).map fun y=>(ag [(im (y.Queue.map ak) false),(im (y.Apart.map aq) false)])
def P3 (n:Nat) (a:Int):Option (aw×Int):=
 (zU a 1 12).bind fun b=>bif (!b) then (some (((aw.mk ((aD.mk ([]) ([]))) ([]) 0),1))) else ((Qa ).bind fun c=>(RW 72 a ((bj.mk ([]) ([]) ([])))).bind fun d=>some (((aw.mk c d 0),0)))
theorem U8 (C:OT) (n:Nat) (d:q8 C) (h:HG C) (b:Int):TJ C n 18 [(iA b)] (P3 n b) (fun y=>(tp [(ag (al y.1)),(iA y.2)])):=by
 refine .lp (V7 ..) ?_
 unfold P3
 refine .s ((pt 0 0),[bx [XL,XL,XL,(iA 0)]]) (.bd (d b 1 12) fun i=>.s (bA (!i)) (.bX ?_ ?_))
 ·exact .s (ag [XL,XL,XL,(iA 0)]) (.s [bx [XL,XL,XL,(iA 0)]] (.s (ag [XL,XL,XL,(iA 0)]) (.lv so)))
 exact .bd (h ()) fun a=>.bd (g:=fun (y:List bj)=>((im (y.map az) false),[bx [XL,XL,XL,(iA 0)]])) (zK (e:=50) (es:=3) (f:=az) (z:=(bj.mk ([]) ([]) ([]))) (z':=[XL,XL,XL]) r7 r7 r7 r7 rfl (by decide) (fun _=>rfl)) fun c=>.s (ag [(im (a.Queue.map ak) false),(im (a.Apart.map aq) false),(im (c.map az) false),(iA 0)]) (.s [bx [(im (a.Queue.map ak) false),(im (a.Apart.map aq) false),(im (c.map az) false),(iA 0)]] (.s (ag [(im (a.Queue.map ak) false),(im (a.Apart.map aq) false),(im (c.map az) false),(iA 0)]) (.lv so)))
def KJ (a:Int):Option (aw×Int):=P3 aE a
def Hv (C:OT):Prop:=∀ (a:Int),C 18 [(iA a)]=(KJ a).map fun y=>(tp [(ag (al y.1)),(iA y.2)])
def P7 (n:Nat) (a:Int) (b:Int):Option (Int×Int):=
 some (((if b<a then b else a),(if a<b then b else a)))
theorem VG (C:OT) (n:Nat) (a:Int) (b:Int):TJ C n 70 [(iA a),(iA b)] (P7 n a b) (fun y=>(ag [(iA y.1),(iA y.2)])):=by
 refine .lp (WH ..) ?_
 unfold P7
 exact .s ((pt 0 0),[bx [(iA 0),(iA 0)]]) (.s (iA ((if b<a then b else a))) (.s (iA ((if a<b then b else a))) (.s (ag [(iA ((if b<a then b else a))),(iA ((if a<b then b else a)))]) (.s [bx [(iA ((if b<a then b else a))),(iA ((if a<b then b else a)))]] (.s (ag [(iA ((if b<a then b else a))),(iA ((if a<b then b else a)))]) (.lv rfl))))))
def KZ (a:Int) (b:Int):Option (Int×Int):=P7 aE a b
def Cw (C:OT):Prop:=∀ (a:Int) (b:Int),C 70 [(iA a),(iA b)]=(KZ a b).map fun y=>(ag [(iA y.1),(iA y.2)])
def Oq (n:Nat) (a:(Int×Int)):Option Bool:=
 (bif (decide (0<=a.1)) then (some (decide (a.1<a.2))) else (some false)).bind fun b=>(bif b then (some (decide (a.2<24))) else (some false)).bind fun c=>some c
theorem VQ (C:OT) (n:Nat) (a:(Int×Int)):TJ C n 84 [(ag [(iA a.1),(iA a.2)])] (Oq n a) (fun y=>(bA y)):=by
 refine .lp (WT ..) ?_
 unfold Oq
 refine .s ((pt 0 0),[bx [(iA a.1),(iA a.2)]]) (.s (pt 0 0) (.s (iA a.1) (.st (c9 ..) (.bg (fun t (y:Bool)=>∃ b c d e f:A,t=[(bA y),b,c,d,e,f]) ?_ ?_))))
 ·refine .bi ?_ ?_
  ·exact .s (pt 0 0) (.s (iA a.1) (.s (pt 0 1) (.s (iA a.2) (.st (aY ..) (.lg ⟨_,_,_,_,_,rfl⟩)))))
  exact .lg ⟨_,_,_,_,_,rfl⟩
 rintro _ j ⟨b,c,d,e,f,rfl⟩
 refine .u4 (.uc (.uc (.bg (fun t (y:Bool)=>∃ g h i:A,t=[(bA y),g,h,i]) ?_ ?_)))
 ·refine .bi ?_ ?_
  ·exact .s (pt 0 1) (.s (iA a.2) (.st (aY ..) (.lg ⟨_,_,_,rfl⟩)))
  exact .lg ⟨_,_,_,rfl⟩
 rintro _ k ⟨g,h,i,rfl⟩
 exact .u4 (.lv rfl)
def Kp (a:(Int×Int)):Option Bool:=Oq aE a
def Aa (C:OT):Prop:=∀ (a:(Int×Int)),C 84 [(ag [(iA a.1),(iA a.2)])]=(Kp a).map fun y=>(bA y)
def On (n:Nat) (a:aA):Option Bool:=
 (KZ a.From a.To).bind fun b=>(Kp b).bind fun c=>(bif c then (some (decide (((a.Data.length:Int))<=1048576))) else (some false)).bind fun d=>some d
theorem VN (C:OT) (n:Nat) (g:Cw C) (h:Aa C) (a:aA):TJ C n 80 [(ag (ak a))] (On n a) (fun y=>(bA y)):=by
 refine .lp (WO ..) ?_
 unfold On
 refine .s ((pt 0 0),[bx (ak a)]) (.s2 (iA a.From) (.s2 (iA a.To) (.bd (g a.From a.To) fun i=>.bd (h i) fun j=>.bg (fun t (y:Bool)=>∃ b c d f:A,t=[(bA y),b,c,d,f]) ?_ ?_)))
 ·refine .bi ?_ ?_
  ·exact .s (pt 0 2) (.s (im (a.Data.map c8) false) (.st (ef (e:=5)) (.st (en ..) (.lg ⟨_,_,_,_,rfl⟩))))
  exact .lg ⟨_,_,_,_,rfl⟩
 rintro _ k ⟨b,c,d,f,rfl⟩
 exact .u4 (.uc (.lv rfl))
def Ko (a:aA):Option Bool:=On aE a
def CB (C:OT):Prop:=∀ (a:aA),C 80 [(ag (ak a))]=(Ko a).map fun y=>(bA y)
def Oo (n:Nat) (a:aA):Option Bool:=
 (Ko a).bind fun b=>some (!b)
theorem VP (C:OT) (n:Nat) (b:CB C) (a:aA):TJ C n 83 [(ag (ak a))] (Oo n a) (fun y=>(bA y)):=by
 refine .lp (WS ..) ?_
 unfold Oo
 exact .s ((pt 0 0),[bx (ak a)]) (.s (ag (ak a)) (.bd (g:=fun (y:Bool)=>(bA y)) (by simp only[bR,cY]; exact b a) fun c=>.s (bA (!c)) (.lv rfl)))
def K2 (a:aA):Option Bool:=Oo aE a
def CC (C:OT):Prop:=∀ (a:aA),C 83 [(ag (ak a))]=(K2 a).map fun y=>(bA y)
def fD (n:Nat) (b:(List aA)) (c:Int):Nat->Int->Option ((Int)⊕(Unit))
 | 0,_=>none
 | m+1,a=>bif (decide (a<c)) then ((bL b a).bind fun d=>(K2 d).bind fun e=>bif e then (some ((Sum.inl a))) else (fD n b c m (wr .i64 (a+1)))) else (some ((Sum.inr (()))))
theorem wM (l:CC C) {w24:A} (h:(List aA)) (i:Int) {K:((Int)⊕(Unit))->Option γ} (o:∀ (j:Int) (a:A) (b:A) (c:A) (d:A),J φ (kr (St.mk [(0,a),(1,b),(4,(iA j)),(7,c),(8,d)] [])) kL (K (Sum.inl j)) some) (p:∀ (a:A) (b:A) (q:A) (c:A) (d:A),J φ (kx 0 (St.mk [(0,a),(1,b),(4,q),(7,c),(8,d)] [])) kL (K (Sum.inr (()))) some) :
  ∀ (m:Nat) (f:Int),J φ (aN (cx C) (ec C n 8) (ey C n 8) (n+8) 99 0 0 0 kx kg kr kp m (St.mk [(0,(im (h.map ak) false)),(1,(tz 83 [] [])),(4,w24),(7,(iA i)),(8,(iA f))] [])) kL (fD n h i m f) K:=by
  refine nI (fun _=>.nn) fun m ih f=>.lp (LO ..) ?_
  unfold fD
  refine .st (aY ..) (.bX ?_ ?_)
  ·refine .bd (eP (e:=68) (es:=3)) fun k=>.s (ag (ak k)) (.dO r7 r7 (.bd (g:=fun (y:Bool)=>(bA y)) (by simp only[YR,Yz,YN,bR,cY]; exact l k) fun r=>.bX ?_ ?_))
   ·exact .ex (o _ _ _ _ _)
   refine .st (aJ ..) (.s [] (.cT r7 ?_))
   exact ih _
  exact .ex (p _ _ _ _ _)
def uV (n:Nat) (a:(List aA)):Option Int:=
 (fD n a ((a.length:Int)) (n+8) 0).bind fun b=>match b with | (Sum.inl c)=>some c | (Sum.inr _)=>some (-1)
theorem IZ (C:OT) (n:Nat) (b:CC C) (a:(List aA)):TJ C n 99 [(im (a.map ak) false),(tz 83 [] [])] (uV n a) (fun y=>(iA y)):=by
 refine .lp (W6 ..) ?_
 unfold uV
 refine .st (ef (e:=68)) (.as (wM C n _ _ _ _ b a ((a.length:Int)) ?_ ?_ _ 0))
 ·intro c d f g h
  exact .un rfl (.lv rfl)
 ·intro i j k l o
  exact .un rfl (.cT r7 (.lv rfl))
def uW (a:(List aA)):Option Int:=uV aE a
def wC (C:OT):Prop:=∀ (a:(List aA)),C 99 [(im (a.map ak) false),(tz 83 [] [])]=(uW a).map fun y=>(iA y)
def uU (n:Nat) (a:(List aA)):Option Bool:=
 (uW a).bind fun b=>some (decide (0<=b))
theorem IY (C:OT) (n:Nat) (h99_83:wC C) (a:(List aA)):TJ C n 82 [(im (a.map ak) false),(tz 83 [] [])] (uU n a) (fun y=>(bA y)):=by
 refine .lp (WR ..) ?_
 unfold uU
 exact .bd (g:=fun (y:Int)=>(iA y)) (by simp only[bR,cY]; exact h99_83 a) fun b=>.st (c9 ..) (.lv rfl)
def qY (a:(List aA)):Option Bool:=uU aE a
def wB (C:OT):Prop:=∀ (a:(List aA)),C 82 [(im (a.map ak) false),(tz 83 [] [])]=(qY a).map fun y=>(bA y)
def E2 (n:Nat) (a:Int):Option Bool:=
 some (a != a)
theorem Qj (C:OT) (n:Nat) (a:Int):TJ C n 116 [(iA a)] (E2 n a) (fun y=>(bA y)):=by
 refine .lp (QE ..) ?_
 unfold E2
 exact .st (aG ..) (.lv rfl)
def wz (a:Int):Option Bool:=E2 aE a
def uY (C:OT):Prop:=∀ (a:Int),C 116 [(iA a)]=(wz a).map fun y=>(bA y)
def om (a:(List aA)) (b:(List (Int×Int))):aO:=bx [(im (a.map ak) false),(im (b.map aq) false)]
def gj (n:Nat) (e:(List Int)) (f:Int) (c:Int) (d:Int):Nat->Int->Option ((Int)⊕(Unit))
 | 0,_=>none
 | m+1,a=>bif (decide (a<f)) then ((bL e a).bind fun b=>bif (decide (2<=a)) then (some ((Sum.inl 1))) else (bif decide (a=0) then (((wz b).bind fun k=>(wz c).bind fun g=>bif k then (bif g then (some 0) else (some (-1))) else (bif g then (some 1) else (bif (decide (b<c)) then (some (-1)) else (bif (decide (c<b)) then (some 1) else (some 0))))).bind fun h=>bif (h != 0) then (some ((Sum.inl h))) else (gj n e f c d m (wr .i64 (a+1)))) else bif decide (a=1) then (((wz b).bind fun l=>(wz d).bind fun i=>bif l then (bif i then (some 0) else (some (-1))) else (bif i then (some 1) else (bif (decide (b<d)) then (some (-1)) else (bif (decide (d<b)) then (some 1) else (some 0))))).bind fun j=>bif (j != 0) then (some ((Sum.inl j))) else (gj n e f c d m (wr .i64 (a+1)))) else none)) else (some ((Sum.inr (()))))
theorem CP (c:uY C) {w227 w228:A} {w229:aO} (k:(List Int)) (l:Int) (a:Int) (b:Int) {K:((Int)⊕(Unit))->Option γ} (d:∀ (o:Int) (p:A) (q:A) (f:A) (g:A) (h:A) (q1:aO),J φ (kr (St.mk [(0,p),(1,q),(4,(iA o)),(9,f),(10,g),(11,h)] [w229,q1])) kL (K (Sum.inl o)) some) (r:∀ (u:A) (f:A) (g:A) (h:A),J φ (kx 0 (St.mk [(0,w227),(1,(bW 1 0 2 true)),(4,u),(9,f),(10,g),(11,h)] [w229,aO.row true 1 [[(iA a)],[(iA b)]]])) kL (K (Sum.inr (()))) some) :
  ∀ (m:Nat) (i:Int),J φ (aN (cx C) (ec C n 7) (ey C n 7) (n+7) 85 0 0 2 kx kg kr kp m (St.mk [(0,w227),(1,(bW 1 0 2 true)),(4,w228),(9,(im (k.map (cI .i64)) true)),(10,(iA l)),(11,(iA i))] [w229,aO.row true 1 [[(iA a)],[(iA b)]]])) kL (gj n k l a b m i) K:=by
  refine nI (fun _=>.nn) fun m ih i=>.lp (LL ..) ?_
  unfold gj
  refine .st (aY ..) (.bX ?_ ?_)
  ·refine .bd (eP (e:=3) (es:=1)) fun j=>.s (iA j) (.s (iA 2) (.st (c9 ..) (.bX ?_ ?_)))
   ·exact .ex (d _ _ _ _ _ _ _)
   refine .sp (fun w=>?_) (fun _=>?_)
   ·refine .st (v:=(A.ep 1 0 0)) (by rw[XY w]; kernel_rfl) (.s (iA a) (.bg (fun (t:Out×aC) (y:Int)=>t=(Out.ret (iA y),[w229,aO.row true 1 [[(iA a)],[(iA b)]]])) ?_ ?_))
    ·refine .lp ((bf D1).trans (Lm ..)) (.bd (c j) fun z=>.bd (c a) fun a0=>.bX ?_ ?_)
     ·refine .bX ?_ ?_
      ·exact .lg rfl
      exact .lg rfl
     refine .bX ?_ ?_
     ·exact .lg rfl
     refine .st (aY ..) (.bX ?_ ?_)
     ·exact .lg rfl
     refine .st (da ..) (.bX ?_ ?_)
     ·exact .lg rfl
     exact .lg rfl
    rintro _ a1 rfl
    refine .ok (.st (aG ..) (.bX ?_ ?_))
    ·exact .ex (d _ _ _ _ _ _ _)
    refine .st (aJ ..) (.s [w229,aO.row true 1 [[(iA a)],[(iA b)]]] (.cT r7 ?_))
    exact ih _
   refine .sp (fun x=>?_) (fun _=>?_)
   ·refine .st (v:=(A.ep 1 1 0)) (by rw[XY x]; kernel_rfl) (.s (iA b) (.bg (fun (t:Out×aC) (y:Int)=>t=(Out.ret (iA y),[w229,aO.row true 1 [[(iA a)],[(iA b)]]])) ?_ ?_))
    ·refine .lp ((bf D1).trans (Lm ..)) (.bd (c j) fun a2=>.bd (c b) fun a3=>.bX ?_ ?_)
     ·refine .bX ?_ ?_
      ·exact .lg rfl
      exact .lg rfl
     refine .bX ?_ ?_
     ·exact .lg rfl
     refine .st (aY ..) (.bX ?_ ?_)
     ·exact .lg rfl
     refine .st (da ..) (.bX ?_ ?_)
     ·exact .lg rfl
     exact .lg rfl
    rintro _ a4 rfl
    refine .ok (.st (aG ..) (.bX ?_ ?_))
    ·exact .ex (d _ _ _ _ _ _ _)
    refine .st (aJ ..) (.s [w229,aO.row true 1 [[(iA a)],[(iA b)]]] (.cT r7 ?_))
    exact ih _
   exact .nn
  exact .ex (r _ _ _ _)
def gT (n:Nat) (f:Int) (b:(List (Int×Int))) (c:Int) (g:(List aA)) (d:(List (Int×Int))):Nat->Int->Option ((Int)⊕(Unit))
 | 0,_=>none
 | m+1,a=>bif (decide (a<c)) then ((bL b a).bind fun e=>(Kp e).bind fun i=>bif (!i) then ((some (())).bind fun r=>(some (())).bind fun s=>some ((Sum.inl 60))) else (bif (decide (0<a)) then ((bL d (wr .i64 (a - 1))).bind fun h=>((gj n ([h.1,h.2]) 2 e.1 e.2 (n+7) 0).bind fun j=>match j with | (Sum.inl k)=>some k | (Sum.inr _)=>some 0).bind fun l=>(some (decide (0<=l))).bind fun o=>((some o).bind fun p=>some p).bind fun q=>bif q then (some ((Sum.inl 60))) else (gT n f b c g d m (wr .i64 (a+1)))) else ((some (())).bind fun t=>((some (())).bind fun u=>some (())).bind fun v=>gT n f b c g d m (wr .i64 (a+1))))) else (some ((Sum.inr (()))))
theorem CO (a0:uY C) (a1:Aa C) (p:Int) (f:(List (Int×Int))) (q:Int) (d:(List aA)) (b:(List (Int×Int))) {K:((Int)⊕(Unit))->Option γ} (r:∀ (u:Int) (i:A) (j:A) (k:A) (l:A) (q0:aO) (q1:aO),J φ (kr (St.mk [(1,i),(2,(iA u)),(15,j),(16,k),(17,l)] [q0,q1])) kL (K (Sum.inl u)) some) (x1:∀ (i:A) (s2:A) (j:A) (k:A) (l:A) (q0:aO),J φ (kx 0 (St.mk [(1,i),(2,s2),(15,j),(16,k),(17,l)] [q0])) kL (K (Sum.inr (()))) some) :
  ∀ (m:Nat) (o:Int),J φ (aN (cx C) (ec C n 8) (ey C n 8) (n+8) 55 0 0 1 kx kg kr kp m (St.mk [(1,(pt 0 0)),(2,(iA p)),(15,(im (f.map aq) false)),(16,(iA q)),(17,(iA o))] [(om d b)])) kL (gT n p f q d b m o) K:=by
  refine nI (fun _=>.nn) fun m ih o=>.lp (LA ..) ?_
  unfold gT
  refine .st (aY ..) (.bX ?_ ?_)
  ·refine .bd (eP (e:=99) (es:=2)) fun a=>.s (ag [(iA a.1),(iA a.2)]) (.sq (A.ep 1 0 0) (.s [(om d b),aO.row true 1 [[(iA a.1)],[(iA a.2)]]] (.s (ag [(iA a.1),(iA a.2)]) (.bd (a1 a) fun a3=>.s (bA (!a3)) (.HY (fun g=>?_) (fun g=>?_))))))
   ·refine .bb (.st (da ..) (.EW (fun c=>?_) (fun c=>?_)))
    ·refine .bb (.s (pt 0 1) (.s (im (b.map aq) false) (.st (dy ..) (.bd (eP (e:=99) (es:=2)) fun h=>.s (im [[(iA h.1)],[(iA h.2)]] true) (.s (bW 1 0 2 true) (.cr (.u4 (.uc (.uc (.uc (.cr (.u4 (.u4 (.uc (.uc (.lp (de c) (.bg (fun (t:Out×aC) (y:Int)=>∃ w271:aO,t=(Out.ret (iA y),[(om d b),w271])) ?_ ?_)))))))))))))))))
     ·refine .lp ((bf L9).trans (WU ..)) (.s (iA 2) (.as (CP C n _ _ _ _ a0 ([h.1,h.2]) 2 a.1 a.2 ?_ ?_ _ 0)))
      ·intro a4 a5 a6 a7 a8 a9 w265
       exact .un rfl (.lg ⟨_,rfl⟩)
      ·intro aa ab ad ae
       exact .un rfl (.cT r7 (.s (iA 2) (.s (iA 2) (.s (bA false) (.OC (.lg ⟨_,rfl⟩))))))
     rintro _ af ⟨w271,rfl⟩
     refine .ok (.bg (fun t (y:Bool) =>  t=[(bA y)]) ?_ ?_)
     ·exact .lp (de c) (.st (c9 ..) (.lg rfl))
     rintro _ ah rfl
     refine .uc (.bg (fun t (y:Bool)=>∃ w:A,t=[(bA y),w]) ?_ ?_)
     ·refine .tq g (.bg (fun t (y:Bool) =>  t=(bA y)) ?_ ?_)
      ·exact .ub c (.lg rfl)
      rintro _ ai rfl
      exact .lg ⟨_,rfl⟩
     rintro _ aj ⟨w,rfl⟩
     refine .uc (.uc (.bX ?_ ?_))
     ·exact .ex (r _ _ _ _ _ _ _)
     refine .st (aJ ..) (.st (v:=[(om d b)]) (fa r7 (by simp only[uB,ig,ij,Nat.reduceLT,Y6,om])) (.cT ((by kernel_rfl:_=(bif bk 1 (f.map aq) then true else false)).trans s0) ?_))
     exact ih _
    refine .bb (.cr (.u4 (.uc (.uc (.uc (.cr (.u4 (.u4 (.uc (.uc (.lp (db c) (.bg (fun t (y:Unit) =>  t=[(A.v undef)]) ?_ ?_))))))))))))
    ·exact .lp (db c) (.lg rfl)
    rintro _ ak rfl
    refine .uc (.bg (fun t (y:Unit)=>∃ x:A,t=[(bA false),x]) ?_ ?_)
    ·refine .tq g (.bg (fun t (y:Unit) =>  t=(bA false)) ?_ ?_)
     ·exact .tq c (.lg rfl)
     rintro _ al rfl
     exact .lg ⟨_,rfl⟩
    rintro _ am ⟨x,rfl⟩
    refine .uc (.uc (.OC (.st (aJ ..) (.st (v:=[(om d b)]) (fa r7 (by simp only[uB,ig,ij,Nat.reduceLT,Y6,om])) (.cT ((by kernel_rfl:_=(bif bk 1 (f.map aq) then true else false)).trans s0) ?_)))))
    exact ih _
   refine .bb (.cr (.u4 (.u4 (.uc (.uc (.gU (.bg (fun t (y:Unit) =>  t=[(A.v undef)]) ?_ ?_)))))))
   ·exact .gU (.lg rfl)
   rintro _ an rfl
   refine .uc (.bg (fun t (y:Unit)=>∃ z:A,t=[(bA true),z]) ?_ ?_)
   ·exact .ub g (.lg ⟨_,rfl⟩)
   rintro _ ao ⟨z,rfl⟩
   exact .uc (.uc (.OD (.ex (r _ _ _ _ _ _ _))))
  exact .ex (x1 _ _ _ _ _ _)
def N5 (n:Nat) (a:aD):Option Int:=
 (bif (decide (4096<((a.Queue.length:Int)))) then (some true) else ((qY a.Queue).bind fun b=>some b)).bind fun c=>bif c then (some 60) else ((gT n 0 a.Apart ((a.Apart.length:Int)) a.Queue a.Apart (n+8) 0).bind fun d=>match d with | (Sum.inl e)=>some e | (Sum.inr _)=>some 0)
theorem Vv (C:OT) (n:Nat) (f:uY C) (h82_83:wB C) (h:Aa C) (a:aD):TJ C n 55 [(ag [(im (a.Queue.map ak) false),(im (a.Apart.map aq) false)])] (N5 n a) (fun y=>(iA y)):=by
 refine .lp (Wv ..) ?_
 unfold N5
 refine .s ((pt 0 0),[bx [(im (a.Queue.map ak) false),(im (a.Apart.map aq) false)]]) (.s2 (im (a.Queue.map ak) false) (.st (ef (e:=68)) (.st (da ..) (.bg (fun t (y:Bool)=>∃ b c d:A,t=[(bA y),b,c,d]) ?_ ?_))))
 ·refine .bi ?_ ?_
  ·exact .lg ⟨_,_,_,rfl⟩
  exact .s (pt 0 0) (.s (im (a.Queue.map ak) false) (.bd (g:=fun (y:Bool)=>(bA y)) (by simp only[bR,cY]; exact h82_83 a.Queue) fun i=>.lg ⟨_,_,_,rfl⟩))
 rintro _ j ⟨b,c,d,rfl⟩
 refine .u4 (.bX ?_ ?_)
 ·exact .lv rfl
 refine .s2 (im (a.Apart.map aq) false) (.st (ef (e:=99)) (.as (CO C n _ _ _ _ f h 0 a.Apart ((a.Apart.length:Int)) a.Queue a.Apart ?_ ?_ _ 0)))
 ·intro k l o p q w290 w291
  exact .un rfl (.lv rfl)
 ·intro r u v w x w297
  exact .un rfl (.cT r7 (.lv rfl))
def IL (a:aD):Option Int:=N5 aE a
def zZ (C:OT):Prop:=∀ (a:aD),C 55 [(ag [(im (a.Queue.map ak) false),(im (a.Apart.map aq) false)])]=(IL a).map fun y=>(iA y)
def N3 (n:Nat) (a:aR) (b:Int):Option Bool:=
 (zU a.No 0 1048576).bind fun c=>(bif c then ((zU a.Role 0 (wr .i64 (b - 1))).bind fun d=>some d) else (some false)).bind fun e=>(bif e then ((zU a.Bar 0 4095).bind fun f=>some f) else (some false)).bind fun g=>(bif g then ((zU a.Program 1 8).bind fun h=>some h) else (some false)).bind fun i=>some i
theorem Vs (C:OT) (n:Nat) (b:q8 C) (a:aR) (c:Int):TJ C n 52 [(ag (ay a)),(iA c)] (N3 n a c) (fun y=>(bA y)):=by
 refine .lp (Ws ..) ?_
 unfold N3
 refine .s ((pt 0 0),[bx (ay a)]) (.s2 (iA a.No) (.bd (b a.No 0 1048576) fun q=>.bg (fun t (y:Bool)=>∃ d e f g h:A,t=[(bA y),d,e,f,g,h]) ?_ ?_))
 ·refine .bi ?_ ?_
  ·exact .s (pt 0 1) (.s (iA a.Role) (.st (dy ..) (.bd (b a.Role 0 (wr .i64 (c - 1))) fun r=>.lg ⟨_,_,_,_,_,rfl⟩)))
  exact .lg ⟨_,_,_,_,_,rfl⟩
 rintro _ u ⟨d,e,f,g,h,rfl⟩
 refine .u4 (.uc (.uc (.bg (fun t (y:Bool)=>∃ i j k:A,t=[(bA y),i,j,k]) ?_ ?_)))
 ·refine .bi ?_ ?_
  ·exact .s (pt 0 2) (.s (iA a.Bar) (.bd (b a.Bar 0 4095) fun v=>.lg ⟨_,_,_,rfl⟩))
  exact .lg ⟨_,_,_,rfl⟩
 rintro _ w ⟨i,j,k,rfl⟩
 refine .u4 (.bg (fun t (y:Bool)=>∃ l o p:A,t=[(bA y),l,o,p]) ?_ ?_)
 ·refine .bi ?_ ?_
  ·exact .s (pt 0 3) (.s (iA a.Program) (.bd (b a.Program 1 8) fun x=>.lg ⟨_,_,_,rfl⟩))
  exact .lg ⟨_,_,_,rfl⟩
 rintro _ z ⟨l,o,p,rfl⟩
 exact .u4 (.lv rfl)
def IK (a:aR) (b:Int):Option Bool:=N3 aE a b
def tV (C:OT):Prop:=∀ (a:aR) (b:Int),C 52 [(ag (ay a)),(iA b)]=(IK a b).map fun y=>(bA y)
def kT (n:Nat) (c:(List Int)) (d:Int) (b:bj):Nat->Int->Option ((Bool)⊕(Unit))
 | 0,_=>none
 | m+1,a=>bif (decide (a<d)) then ((bL c a).bind fun e=>(zU e 0 8).bind fun f=>(bif (!f) then (some true) else ((bL b.Did a).bind fun g=>(bif (g != e) then ((bL b.Did a).bind fun h=>some (h != 0)) else (some false)).bind fun i=>some i)).bind fun j=>bif j then (some ((Sum.inl false))) else (kT n c d b m (wr .i64 (a+1)))) else (some ((Sum.inr (()))))
theorem CQ (aa:q8 C) {w115 w116 w117 w118:A} (g:(List Int)) (h:Int) (a:bj) {K:((Bool)⊕(Unit))->Option γ} (x0:∀ (i:Bool) (s1:A) (s2:A) (s3:A) (s4:A) (b:A) (c:A) (d:A) (q0:aO),J φ (kr (St.mk [(1,s1),(2,s2),(3,s3),(4,s4),(8,(bA i)),(27,b),(28,c),(29,d)] [q0])) kL (K (Sum.inl i)) some) (x1:∀ (b:A) (c:A) (d:A),J φ (kx 0 (St.mk [(1,w115),(2,w116),(3,w117),(4,(pt 0 0)),(8,w118),(27,b),(28,c),(29,d)] [bx (az a)])) kL (K (Sum.inr (()))) some) :
  ∀ (m:Nat) (f:Int),J φ (aN (cx C) (ec C n 8) (ey C n 8) (n+8) 56 0 0 1 kx kg kr kp m (St.mk [(1,w115),(2,w116),(3,w117),(4,(pt 0 0)),(8,w118),(27,(im (g.map (cI .i64)) false)),(28,(iA h)),(29,(iA f))] [bx (az a)])) kL (kT n g h a m f) K:=by
  refine nI (fun _=>.nn) fun m ih f=>.lp (LB ..) ?_
  unfold kT
  refine .st (aY ..) (.bX ?_ ?_)
  ·refine .bd (eP (e:=3) (es:=1)) fun j=>.s (iA j) (.bd (aa j 0 8) fun ah=>.s (bA (!ah)) (.bg (fun t (y:Bool)=>∃ k l o p q r u v w x z a0 a1 a2 a3:A,t=[(bA y),k,l,o,p,q,r,u,v,w,x,z,a0,a1,a2,a3]) ?_ ?_))
   ·refine .bi ?_ ?_
    ·exact .lg ⟨_,_,_,_,_,_,_,_,_,_,_,_,_,_,_,rfl⟩
    refine .s (pt 0 2) (.s (im (a.Did.map (cI .i64)) false) (.bd (eP (e:=3) (es:=1)) fun ai=>.s (iA ai) (.st (aG ..) (.bg (fun t (y:Bool)=>∃ a4 a5 a6 a7 a8 a9:A,t=[(bA y),a4,a5,a6,a7,a8,a9]) ?_ ?_))))
    ·refine .bi ?_ ?_
     ·exact .s (pt 0 2) (.s (im (a.Did.map (cI .i64)) false) (.bd (eP (e:=3) (es:=1)) fun aj=>.s (iA aj) (.st (aG ..) (.lg ⟨_,_,_,_,_,_,rfl⟩))))
     exact .lg ⟨_,_,_,_,_,_,rfl⟩
    rintro _ ak ⟨a4,a5,a6,a7,a8,a9,rfl⟩
    exact .u4 (.uc (.uc (.uc (.lg ⟨_,_,_,_,_,_,_,_,_,_,_,_,_,_,_,rfl⟩))))
   rintro _ al ⟨k,l,o,p,q,r,u,v,w,x,z,a0,a1,a2,a3,rfl⟩
   refine .u4 (.u4 (.u4 (.u4 (.bX ?_ ?_))))
   ·exact .ex (x0 _ _ _ _ _ _ _ _ _)
   refine .st (aJ ..) (.s [bx (az a)] (.cT r7 ?_))
   exact ih _
  exact .ex (x1 _ _ _)
def kU (n:Nat) (c:Int) (d:Int) (g:Bool) (e:(List aR)) (f:Int) (h:bj):Nat->Int->Int->Option ((Bool)⊕(Unit))
 | 0,_,_=>none
 | m+1,i,b=>bif (decide (b<f)) then ((bL e b).bind fun a=>(IK a d).bind fun j=>(bif (!j) then (some true) else (some (a.Role != c))).bind fun k=>(bif k then (some true) else (some (decide (a.Bar<i)))).bind fun l=>bif l then (some ((Sum.inl false))) else (kU n c d g e f h m (wr .i64 (a.Bar+1)) (wr .i64 (b+1)))) else (some ((Sum.inr (()))))
theorem CR (a4:tV C) (o:Int) (c:Int) (p:Bool) (d:(List aR)) (q:Int) (b:bj) {K:((Bool)⊕(Unit))->Option γ} (x0:∀ (r:Bool) (f:A) (s2:A) (g:A) (h:A) (i:A) (j:A) (q0:aO) (q1:aO),J φ (kr (St.mk [(1,f),(2,s2),(8,(bA r)),(11,g),(57,h),(58,i),(59,j)] [q0,q1])) kL (K (Sum.inl r)) some) (x1:∀ (f:A) (s2:A) (s8:A) (g:A) (h:A) (i:A) (j:A) (q0:aO),J φ (kx 2 (St.mk [(1,f),(2,s2),(8,s8),(11,g),(57,h),(58,i),(59,j)] [q0])) kL (K (Sum.inr (()))) some) :
  ∀ (m:Nat) (k:Int) (l:Int),J φ (aN (cx C) (ec C n 8) (ey C n 8) (n+8) 56 0 1 1 kx kg kr kp m (St.mk [(1,(iA o)),(2,(iA c)),(8,(bA p)),(11,(iA k)),(57,(im (d.map ay) false)),(58,(iA q)),(59,(iA l))] [bx (az b)])) kL (kU n o c p d q b m k l) K:=by
  refine nI (fun _ _=>.nn) fun m ih k l=>.lp (LC ..) ?_
  unfold kU
  refine .st (aY ..) (.bX ?_ ?_)
  ·refine .bd (eP (e:=46) (es:=4)) fun a=>.s (ag (ay a)) (.sq (pt 1 0) (.s [bx (az b),bx (ay a)] (.s (ag (ay a)) (.bd (a4 a c) fun a8=>.s (bA (!a8)) (.bg (fun t (y:Bool)=>∃ u w x z:A,t=[(bA y),u,w,x,z]) ?_ ?_)))))
   ·refine .bi ?_ ?_
    ·exact .lg ⟨_,_,_,_,rfl⟩
    exact .s (pt 1 1) (.s (iA a.Role) (.st (aG ..) (.lg ⟨_,_,_,_,rfl⟩)))
   rintro _ a9 ⟨u,w,x,z,rfl⟩
   refine .u4 (.uc (.bg (fun t (y:Bool)=>∃ a0 a1 a2 a3:A,t=[(bA y),a0,a1,a2,a3]) ?_ ?_))
   ·refine .bi ?_ ?_
    ·exact .lg ⟨_,_,_,_,rfl⟩
    exact .s (pt 1 2) (.s (iA a.Bar) (.st (aY ..) (.lg ⟨_,_,_,_,rfl⟩)))
   rintro _ aa ⟨a0,a1,a2,a3,rfl⟩
   refine .u4 (.uc (.bX ?_ ?_))
   ·exact .ex (x0 _ _ _ _ _ _ _ _ _)
   refine .s2 (iA a.Bar) (.st (aJ ..) (.st (aJ ..) (.st (v:=[bx (az b)]) (fa r7 u2) (.cT ((by kernel_rfl:_=(bif bk 1 (d.map ay) then true else false)).trans s0) ?_))))
   exact ih _ _
  exact .ex (x1 _ _ _ _ _ _ _ _)
def N6 (n:Nat) (a:bj) (c:Int) (a2:Int) (b:Int):Option Bool:=
 (bif (((a.Got.length:Int)) != b) then (some true) else (some (((a.Did.length:Int)) != b))).bind fun d=>bif d then (some false) else ((kT n a.Got ((a.Got.length:Int)) a (n+8) 0).bind fun e=>match e with | (Sum.inl f)=>some f | (Sum.inr _)=>(kU n c a2 false a.Cues ((a.Cues.length:Int)) a (n+8) b 0).bind fun g=>match g with | (Sum.inl h)=>some h | (Sum.inr _)=>some true)
theorem Vw (C:OT) (n:Nat) (j:q8 C) (k:tV C) (a:bj) (b:Int) (a2:Int) (c:Int):TJ C n 56 [(ag (az a)),(iA b),(iA a2),(iA c)] (N6 n a b a2 c) (fun y=>(bA y)):=by
 refine .lp (Ww ..) ?_
 unfold N6
 refine .s ((pt 0 0),[bx (az a)]) (.s2 (im (a.Got.map (cI .i64)) false) (.st (ef (e:=3)) (.st (aG ..) (.bg (fun t (y:Bool)=>∃ d f g h i:A,t=[(bA y),d,f,g,h,i]) ?_ ?_))))
 ·refine .bi ?_ ?_
  ·exact .lg ⟨_,_,_,_,_,rfl⟩
  exact .s (pt 0 2) (.s (im (a.Did.map (cI .i64)) false) (.st (ef (e:=3)) (.st (aG ..) (.lg ⟨_,_,_,_,_,rfl⟩))))
 rintro _ l ⟨d,f,g,h,i,rfl⟩
 refine .u4 (.uc (.uc (.bX ?_ ?_)))
 ·exact .lv rfl
 refine .s2 (im (a.Got.map (cI .i64)) false) (.st (ef (e:=3)) (.as (CQ C n _ _ _ _ j a.Got ((a.Got.length:Int)) a ?_ ?_ _ 0)))
 ·intro o p q r u v w x w163
  exact .un rfl (.lv rfl)
 ·intro z a4 a5
  refine .un rfl (.cT r7 (.s2 (im (a.Cues.map ay) false) (.st (ef (e:=46)) (.as (CR C n _ _ _ _ k b a2 false a.Cues ((a.Cues.length:Int)) a ?_ ?_ _ c 0)))))
  ·intro a6 a7 a8 a9 aa ab ad w312 w313
   exact .un rfl (.lv rfl)
  ·intro ae af ah ai aj ak al w321
   exact .un rfl (.cT r7 (.lv rfl))
def KT (a:bj) (b:Int) (a2:Int) (c:Int):Option Bool:=N6 aE a b a2 c
def Cr (C:OT):Prop:=∀ (a:bj) (b:Int) (a2:Int) (c:Int),C 56 [(ag (az a)),(iA b),(iA a2),(iA c)]=(KT a b a2 c).map fun y=>(bA y)
def E0 (n:Nat) (a:Int):Option Int:=
 some (qN .i64 (wr .i64 (jB .u64 a 1)) (wr .i64 (0 - (wr .i64 (oW .u64 a 1)))))
theorem Qg (C:OT) (n:Nat) (a:Int):TJ C n 105 [(A.v (.int .u64 a))] (E0 n a) (fun y=>(iA y)):=by
 refine .lp (QA ..) ?_
 unfold E0
 exact .st (jM (hb:=by decide) ..) (.st (v:=(iA (wr .i64 (jB .u64 a 1)))) (aQ (hs:=by kernel_rfl) (hd:=by kernel_rfl) ..) (.st (nM ..) (.st (v:=(iA (wr .i64 (oW .u64 a 1)))) (aQ (hs:=by kernel_rfl) (hd:=by kernel_rfl) ..) (.s (iA (wr .i64 (0 - (wr .i64 (oW .u64 a 1))))) (.st (nN ..) (.lv rfl))))))
def B8 (a:Int):Option Int:=E0 aE a
def uX (C:OT):Prop:=∀ (a:Int),C 105 [(A.v (.int .u64 a))]=(B8 a).map fun y=>(iA y)
def aM:aO:=bx [(iA 0),(iA 0),se,XL]
def iJ (a:UInt8):aO:=bx [(iA (wr .i64 ((a.toNat:Int)))),(iA 0),se,XL]
def IV (C:OT) (N:Nat) (self:(List UInt8)->Int->Option (Bool×au×(List UInt8))):Prop:=∀ (a2:(List UInt8)) (a:Int) (X:aC),J (fun (o:R) (y:(Bool×au×(List UInt8)))=>o=((bif y.1 then Out.ret (ag [(iA y.2.1.Kind),(iA y.2.1.N),(sA y.2.1.S),(im (y.2.1.L.map ax) false)]) else Out.pan (A.ifc 32 (iA 10))),[aM,bx [(iA 0)],bx [(im (y.2.2.map c8) false)]]++X)) (dZ (cx C) N 93 [(pt 2 0),(iA a)] ([aM,bx [(iA 0)],bx [(im (a2.map c8) false)]]++X) 0) some (self a2 a) some
def eJ (n:Nat):Nat->Int->Int->(List UInt8)->Option (((List UInt8))⊕(Int×(List UInt8)))
 | 0,_,_,_=>none
 | m+1,e,a,b=>bif (!(decide (1<=((b.length:Int))))) then (some ((Sum.inl b))) else ((fk b 0 1).bind fun f=>(fk b 1 ((b.length:Int))).bind fun d=>(bL f 0).bind fun c=>(bif (a==0) then (some true) else (some (((c.toNat:Int)) != 0))).bind fun g=>(bif g then ((bif (decide (a<9)) then (some true) else (some (decide (((c.toNat:Int))<=1)))).bind fun h=>some h) else (some false)).bind fun i=>bif (!i) then (some ((Sum.inl d))) else (bif decide (0<=(wr .i64 (7*a))) then (bif (decide (((c.toNat:Int))<128)) then (some ((Sum.inr ((mJ .u64 e (oK .u64 (wr .u64 (oW .u8 ((c.toNat:Int)) 127)) (wr .i64 (7*a))),d))))) else (eJ n m (mJ .u64 e (oK .u64 (wr .u64 (oW .u8 ((c.toNat:Int)) 127)) (wr .i64 (7*a)))) (wr .i64 (a+1)) d)) else none))
theorem mN {w767:aO} {K:(((List UInt8))⊕(Int×(List UInt8)))->Option γ} (k:∀ (d:(List UInt8)) (g:A) (s2:A) (h:A),J φ (kp (A.ifc 32 (iA 10)) (St.mk [(0,g),(2,s2),(3,h)] [aM,bx [(iA 0)],bx [(im (d.map c8) false)],w767])) kL (K (Sum.inl d)) some) (x1:∀ (d:Int) (o:(List UInt8)) (g:A) (h:A),J φ (kr (St.mk [(0,g),(2,(A.v (.int .u64 d))),(3,h)] [aM,bx [(iA 0)],bx [(im (o.map c8) false)],w767])) kL (K (Sum.inr ((d,o)))) some) :
  ∀ (m:Nat) (i:Int) (j:Int) (c:(List UInt8)),J φ (aN (cx C) (dZ (cx C) (n+6)) (bF (cx C) (n+6)) (n+6) 106 0 0 4 kx kg kr kp m (St.mk [(0,(pt 2 0)),(2,(A.v (.int .u64 i))),(3,(iA j))] [aM,bx [(iA 0)],bx [(im (c.map c8) false)],w767])) kL (eJ n  m i j c) K:=by
  refine nI (fun _ _ _=>.nn) fun m ih i j c=>.lp (Jd ..) ?_
  unfold eJ
  refine .cl ((bf zp).trans (Jb ..)) (.s (pt 2 0) (.s2 (im (c.map c8) false) (.st (ef (e:=5)) (.st (en ..) (.cl ((bf pC).trans (Fk ..)) (.s (bA (!(decide (1<=((c.length:Int)))))) (.bX ?_ ?_)))))))
  ·exact .s (A.ifc 32 (iA 10)) (.pk (.cr (.jY (.cr (.jY (.ex (k _ _ _ _)))))))
  refine .cr (.ok (.s (pt 2 0) (.s2 (im (c.map c8) false) (.bd (mS (e:=5) (es:=1) (f:=c8) (l:=c) (a:=0) (b:=1) r7 r7 (fun _=>rfl) (.inl ⟨rfl,rfl⟩)) fun a7=>.s (pt 2 0) (.s2 (im (c.map c8) false) (.bd (gY (e:=5) (es:=1) (f:=c8) (l:=c) (a:=1) (b:=(c.length:Int)) r7 r7 (fun _=>rfl) (.inr ⟨_,rfl⟩) (.inl ⟨rfl,rfl⟩)) fun p=>.s (pt 2 0) (.s (pt 2 0) (.s [aM,bx [(iA 0)],bx [(im (p.map c8) false)],w767] (.cr (.ok (.bd (eP (e:=5) (es:=1)) fun q=>.s (uA ((q.toNat:Int))) (.st (bc ..) (.bg (fun t (y:Bool)=>∃ r u:A,t=[(bA y),r,u]) ?_ ?_)))))))))))))
  ·refine .bi ?_ ?_
   ·exact .lg ⟨_,_,rfl⟩
   exact .st (aG ..) (.lg ⟨_,_,rfl⟩)
  rintro _ a8 ⟨r,u,rfl⟩
  refine .uc (.uc (.uc (.bg (fun t (y:Bool)=>∃ w x z a0 a1 a2:A,t=[(bA y),w,x,z,a0,a1,a2]) ?_ ?_)))
  ·refine .bi ?_ ?_
   ·refine .st (aY ..) (.bg (fun t (y:Bool)=>∃ a3 a4:A,t=[(bA y),a3,a4]) ?_ ?_)
    ·refine .bi ?_ ?_
     ·exact .lg ⟨_,_,rfl⟩
     exact .st (en ..) (.lg ⟨_,_,rfl⟩)
    rintro _ a9 ⟨a3,a4,rfl⟩
    exact .uc (.uc (.uc (.lg ⟨_,_,_,_,_,_,rfl⟩)))
   exact .lg ⟨_,_,_,_,_,_,rfl⟩
  rintro _ a6 ⟨w,x,z,a0,a1,a2,rfl⟩
  refine .u4 (.uc (.uc (.uc (.cl ((bf pC).trans (Fk ..)) (.s (bA (!a6)) (.bX ?_ ?_))))))
  ·exact .s (A.ifc 32 (iA 10)) (.pk (.cr (.jY (.ex (k _ _ _ _)))))
  refine .cr (.ok (.st (nM ..) (.st (v:=(A.v (.int .u64 (wr .u64 (oW .u8 ((q.toNat:Int)) 127))))) (aQ (hs:=by kernel_rfl) (hd:=by kernel_rfl) ..) (.st (oS ..) (.gd fun hg=>.st (rh (hb:=XY hg) ..) (.st (gV ..) (.st (aY ..) (.bX ?_ ?_))))))))
  ·exact .ex (x1 _ _ _ _)
  refine .st (aJ ..) (.s [aM,bx [(iA 0)],bx [(im (p.map c8) false)],w767] (.cT r7 ?_))
  exact ih _ _ _
def gK (self:(List UInt8)->Int->Option (Bool×au×(List UInt8))) (n:Nat) (b:Int) (c:Int) (g:Int) (h:Int) (i:ByteArray):Nat->Int->(List UInt8)->(List au)->Option (((List UInt8))⊕((List UInt8)×(List au)))
 | 0,_,_,_=>none
 | m+1,d,e,f=>bif (decide (d<c)) then ((self e (wr .i64 (b+1))).bind fun a=>bif a.1 then ((cz 56 f ([a.2.1])).bind fun j=>gK self n b c g h i m (wr .i64 (d+1)) a.2.2 j) else (some ((Sum.inl a.2.2)))) else (some ((Sum.inr ((e,f)))))
theorem A9 (self:(List UInt8)->Int->Option (Bool×au×(List UInt8))) (hS:IV C (n+8) self) (k:Int) (w:Int) (d:Int) (e:Int) (h:ByteArray) {K:(((List UInt8))⊕((List UInt8)×(List au)))->Option γ} (z:∀ (i:(List UInt8)) (o:A) (p:A) (s4:A) (q:A) (r:A) (q3:aO) (q4:aO),J φ (kp (A.ifc 32 (iA 10)) (St.mk [(0,o),(1,p),(4,s4),(36,q),(37,r)] [aM,bx [(iA 0)],bx [(im (i.map c8) false)],q3,q4])) kL (K (Sum.inl i)) some) (x1:∀ (i:(List UInt8)) (u:(List au)) (o:A) (p:A) (q:A) (r:A),J φ (kx 1 (St.mk [(0,o),(1,p),(4,(pt 3 0)),(36,q),(37,r)] [aM,bx [(iA 0)],bx [(im (i.map c8) false)],bx [(iA d),(iA e),(sA h),(bW 4 0 u.length false)],aO.row false 4 (u.map ax)])) kL (K (Sum.inr ((i,u)))) some) :
  ∀ (m:Nat) (v:Int) (j:(List UInt8)) (a:(List au)),J φ (aN (cx C) (ec C n 8) (ey C n 8) (n+8) 93 0 0 5 kx kg kr kp m (St.mk [(0,(pt 2 0)),(1,(iA k)),(4,(pt 3 0)),(36,(iA w)),(37,(iA v))] [aM,bx [(iA 0)],bx [(im (j.map c8) false)],bx [(iA d),(iA e),(sA h),(bW 4 0 a.length false)],aO.row false 4 (a.map ax)])) kL (gK self n k w d e h m v j a) K:=by
  refine nI (fun _ _ _=>.nn) fun m ih v j a=>.lp (LN ..) ?_
  unfold gK
  refine .st (aY ..) (.bX ?_ ?_)
  ·refine .s (pt 3 3) (.s (bW 4 0 a.length false) (.st (aJ ..) (.cT r7 (.bg (fun (t:Out×aC) (y:(Bool×au×(List UInt8)))=>t=((bif y.1 then Out.ret (ag [(iA y.2.1.Kind),(iA y.2.1.N),(sA y.2.1.S),(im (y.2.1.L.map ax) false)]) else Out.pan (A.ifc 32 (iA 10))),[aM,bx [(iA 0)],bx [(im (y.2.2.map c8) false)],bx [(iA d),(iA e),(sA h),(bW 4 0 a.length false)],aO.row false 4 (a.map ax)])) (hS j (wr .i64 (k+1)) [bx [(iA d),(iA e),(sA h),(bW 4 0 a.length false)],aO.row false 4 (a.map ax)]) ?_))))
   rintro _ c rfl
   refine .ob ?_ ?_
   ·refine .ok (.s (im [[(iA c.2.1.Kind),(iA c.2.1.N),(sA c.2.1.S),(im (c.2.1.L.map ax) false)]] true) (.bd (g:=fun (y:List au)=>((bW 4 0 y.length false),[aM,bx [(iA 0)],bx [(im (c.2.2.map c8) false)],bx [(iA d),(iA e),(sA h),(bW 4 0 a.length false)],aO.row false 4 (y.map ax)])) (cj eS (l:=a) (l2:=[c.2.1]) (b:=4) rfl (by decide) (g7 (f:=ax) (l:=([c.2.1]:List au)) An)) fun x=>.s (pt 3 3) (.sh (.st (aJ ..) (.s [aM,bx [(iA 0)],bx [(im (c.2.2.map c8) false)],bx [(iA d),(iA e),(sA h),(bW 4 0 x.length false)],aO.row false 4 (x.map ax)] (.cT r7 ?_))))))
    exact ih _ _ _
   exact .jY (.ex (z _ _ _ _ _ _ _ _))
  exact .ex (x1 _ _ _ _ _ _)
def wy (self:(List UInt8)->Int->Option (Bool×au×(List UInt8))) (n:Nat) (a2:(List UInt8)) (f:Int):Option (Bool×au×(List UInt8)):=
 bif (!(decide (1<=((a2.length:Int))))) then (some ((false,(default:au),a2))) else ((fk a2 0 1).bind fun h=>(fk a2 1 ((a2.length:Int))).bind fun c=>(bL h 0).bind fun a=>bif ((wr .i64 ((a.toNat:Int)))==1) then ((eJ (n+1)  (n+7) 0 0 c).bind fun i=>match i with | (Sum.inl j)=>some ((false,(default:au),j)) | (Sum.inr ((k,l)))=>(B8 k).bind fun o=>some ((true,(au.mk (wr .i64 ((a.toNat:Int))) o jl ([])),l))) else (bif ((wr .i64 ((a.toNat:Int)))==2) then ((eJ n  (n+6) 0 0 c).bind fun p=>match p with | (Sum.inl q)=>some ((false,(default:au),q)) | (Sum.inr ((d,b)))=>bif (!(decide (d<=(wr .u64 ((b.length:Int)))))) then (some ((false,(default:au),b))) else (bif (!(decide ((wr .i64 (d))<=((b.length:Int))))) then (some ((false,(default:au),b))) else ((fk b 0 (wr .i64 (d))).bind fun r=>(fk b (wr .i64 (d)) ((b.length:Int))).bind fun s=>some ((true,(au.mk (wr .i64 ((a.toNat:Int))) 0 (gn r) ([])),s))))) else (bif ((wr .i64 ((a.toNat:Int)))==3) then (bif (!(decide (f<16))) then (some ((false,(default:au),c))) else ((eJ n  (n+6) 0 0 c).bind fun t=>match t with | (Sum.inl u)=>some ((false,(default:au),u)) | (Sum.inr ((g,e)))=>bif (!(decide (g<=(wr .u64 ((e.length:Int)))))) then (some ((false,(default:au),e))) else ((gK self n f (wr .i64 (g)) (wr .i64 ((a.toNat:Int))) 0 jl (n+8) 0 e (([]:List au))).bind fun v=>match v with | (Sum.inl w)=>some ((false,(default:au),w)) | (Sum.inr ((x,y)))=>some ((true,(au.mk (wr .i64 ((a.toNat:Int))) 0 jl y),x))))) else (some ((false,(default:au),c))))))
theorem Qo (C:OT) (n:Nat) (a0:uX C) (self:(List UInt8)->Int->Option (Bool×au×(List UInt8))) (hS:IV C (n+8) self) (a2:(List UInt8)) (q:Int):J (fun (o:R) (y:(Bool×au×(List UInt8)))=>∃ Z,o=((bif y.1 then Out.ret (ag [(iA y.2.1.Kind),(iA y.2.1.N),(sA y.2.1.S),(im (y.2.1.L.map ax) false)]) else Out.pan (A.ifc 32 (iA 10))),[aM,bx [(iA 0)],bx [(im (y.2.2.map c8) false)]]++Z)) (aF (cx C) (ec C n 8) (ey C n 8) (n+8) 93 [(pt 2 0),(iA q)] [aM,bx [(iA 0)],bx [(im (a2.map c8) false)]] 0) some (wy self n a2 q) some:=by
 refine .lp (WZ ..) ?_
 unfold wy
 refine .s ((pt 3 0),[aM,bx [(iA 0)],bx [(im (a2.map c8) false)],aM]) (.cl ((bf zp).trans (Jb ..)) (.s (pt 2 0) (.s2 (im (a2.map c8) false) (.st (ef (e:=5)) (.st (en ..) (.cl ((bf pC).trans (Fk ..)) (.s (bA (!(decide (1<=((a2.length:Int)))))) (.bX ?_ ?_))))))))
 ·exact .s (A.ifc 32 (iA 10)) (.pk (.cr (.jY (.cr (.jY (.lf rfl rfl ⟨[aM],rfl⟩))))))
 refine .cr (.ok (.s (pt 2 0) (.s2 (im (a2.map c8) false) (.bd (mS (e:=5) (es:=1) (f:=c8) (l:=a2) (a:=0) (b:=1) r7 r7 (fun _=>rfl) (.inl ⟨rfl,rfl⟩)) fun y5=>.s (pt 2 0) (.s2 (im (a2.map c8) false) (.bd (gY (e:=5) (es:=1) (f:=c8) (l:=a2) (a:=1) (b:=(a2.length:Int)) r7 r7 (fun _=>rfl) (.inr ⟨_,rfl⟩) (.inl ⟨rfl,rfl⟩)) fun i=>.s (pt 2 0) (.s (pt 2 0) (.s [aM,bx [(iA 0)],bx [(im (i.map c8) false)],aM] (.cr (.ok (.bd (eP (e:=5) (es:=1)) fun c=>.s (uA ((c.toNat:Int))) (.st (v:=(iA (wr .i64 ((c.toNat:Int))))) (aQ (hs:=by kernel_rfl) (hd:=by kernel_rfl) ..) (.s (pt 3 0) (.s [aM,bx [(iA 0)],bx [(im (i.map c8) false)],(iJ c)] (.s2 (iA (wr .i64 ((c.toNat:Int)))) (.st (bc ..) (.bX ?_ ?_)))))))))))))))))
 ·refine .cl ((bf zq).trans (Jc ..)) (.as (mN C (n+1) _ _ _ _  ?_ ?_ _ 0 0 i))
  ·intro a5 a6 a7 a8
   exact .un rfl (.cr (.jY (.lf rfl rfl ⟨[(iJ c)],rfl⟩)))
  ·intro a1 x a9 aa
   exact .un rfl (.cr (.ok (.bd (a0 a1) fun j=>.s (pt 3 1) (.sh (.s (ag [(iA (wr .i64 ((c.toNat:Int)))),(iA j),se,XL]) (.s [aM,bx [(iA 0)],bx [(im (x.map c8) false)],bx [(iA (wr .i64 ((c.toNat:Int)))),(iA j),se,XL]] (.s (ag [(iA (wr .i64 ((c.toNat:Int)))),(iA j),se,(im [] false)]) (.lf rfl rfl (gm (o:=Out.ret (ag [(iA (wr .i64 ((c.toNat:Int)))),(iA j),se,(im [] false)])) (lo:=0) (off:=3) (b:=3) (p:=0) (H2:=[aM,bx [(iA 0)],bx [(im (x.map c8) false)]]) (X:=[bx [(iA (wr .i64 ((c.toNat:Int)))),(iA j),se,XL]]) (Yp rfl))))))))))
 refine .st (bc ..) (.bX ?_ ?_)
 ·refine .cl ((bf D2).trans (Ln ..)) (.cl ((bf zq).trans (Jc ..)) (.as (mN C n _ _ _ _  ?_ ?_ _ 0 0 i)))
  ·intro ab ad ae af
   exact .un rfl (.cr (.jY (.cr (.jY (.lf rfl rfl ⟨[(iJ c)],rfl⟩)))))
  ·intro k d ah ai
   refine .un rfl (.cr (.ok (.s (pt 2 0) (.s2 (im (d.map c8) false) (.st (ef (e:=5)) (.st (v:=(A.v (.int .u64 (wr .u64 ((d.length:Int)))))) (aQ (hs:=by kernel_rfl) (hd:=by kernel_rfl) ..) (.st (en ..) (.cl ((bf pC).trans (Fk ..)) (.s (bA (!(decide (k<=(wr .u64 ((d.length:Int))))))) (.bX ?_ ?_))))))))))
   ·exact .s (A.ifc 32 (iA 10)) (.pk (.cr (.jY (.cr (.jY (.lf rfl rfl ⟨[(iJ c)],rfl⟩))))))
   refine .cr (.ok (.st (v:=(iA (wr .i64 (k)))) (aQ (hs:=by kernel_rfl) (hd:=by kernel_rfl) ..) (.cr (.ok (.cl ((bf zp).trans (Jb ..)) (.s (pt 2 0) (.s2 (im (d.map c8) false) (.st (ef (e:=5)) (.st (en ..) (.cl ((bf pC).trans (Fk ..)) (.s (bA (!(decide ((wr .i64 (k))<=((d.length:Int)))))) (.bX ?_ ?_))))))))))))
   ·exact .s (A.ifc 32 (iA 10)) (.pk (.cr (.jY (.cr (.jY (.lf rfl rfl ⟨[(iJ c)],rfl⟩))))))
   exact .cr (.ok (.s (pt 2 0) (.s2 (im (d.map c8) false) (.bd (mS (e:=5) (es:=1) (f:=c8) (l:=d) (a:=0) (b:=wr .i64 (k)) r7 r7 (fun _=>rfl) (.inl ⟨rfl,rfl⟩)) fun h=>.s (pt 2 0) (.s2 (im (d.map c8) false) (.bd (gY (e:=5) (es:=1) (f:=c8) (l:=d) (a:=wr .i64 (k)) (b:=(d.length:Int)) r7 r7 (fun _=>rfl) (.inr ⟨_,rfl⟩) (.inl ⟨rfl,rfl⟩)) fun t=>.s (pt 2 0) (.s (pt 2 0) (.s [aM,bx [(iA 0)],bx [(im (t.map c8) false)],(iJ c)] (.cr (.ok (.st (v:=(A.v (Value.string (gn h)))) (nw (e:=5) (l:=h) r7 r7 r7 r7 (bC ..) rfl) (.s (pt 3 2) (.sh (.s (ag [(iA (wr .i64 ((c.toNat:Int)))),(iA 0),(A.v (Value.string (gn h))),XL]) (.s [aM,bx [(iA 0)],bx [(im (t.map c8) false)],bx [(iA (wr .i64 ((c.toNat:Int)))),(iA 0),(A.v (Value.string (gn h))),XL]] (.s (ag [(iA (wr .i64 ((c.toNat:Int)))),(iA 0),(A.v (Value.string (gn h))),(im [] false)]) (.lf rfl rfl (gm (o:=Out.ret (ag [(iA (wr .i64 ((c.toNat:Int)))),(iA 0),(A.v (Value.string (gn h))),(im [] false)])) (lo:=0) (off:=3) (b:=3) (p:=0) (H2:=[aM,bx [(iA 0)],bx [(im (t.map c8) false)]]) (X:=[bx [(iA (wr .i64 ((c.toNat:Int)))),(iA 0),(A.v (Value.string (gn h))),XL]]) (Yp rfl)))))))))))))))))))
 refine .st (bc ..) (.bX ?_ ?_)
 ·refine .st (aY ..) (.cl ((bf pC).trans (Fk ..)) (.s (bA (!(decide (q<16)))) (.bX ?_ ?_)))
  ·exact .s (A.ifc 32 (iA 10)) (.pk (.cr (.jY (.lf rfl rfl ⟨[(iJ c)],rfl⟩))))
  refine .cr (.ok (.cl ((bf D2).trans (Ln ..)) (.cl ((bf zq).trans (Jc ..)) (.as (mN C n _ _ _ _  ?_ ?_ _ 0 0 i)))))
  ·intro aj ak al am
   exact .un rfl (.cr (.jY (.cr (.jY (.lf rfl rfl ⟨[(iJ c)],rfl⟩)))))
  ·intro u r an ao
   refine .un rfl (.cr (.ok (.s (pt 2 0) (.s2 (im (r.map c8) false) (.st (ef (e:=5)) (.st (v:=(A.v (.int .u64 (wr .u64 ((r.length:Int)))))) (aQ (hs:=by kernel_rfl) (hd:=by kernel_rfl) ..) (.st (en ..) (.cl ((bf pC).trans (Fk ..)) (.s (bA (!(decide (u<=(wr .u64 ((r.length:Int))))))) (.bX ?_ ?_))))))))))
   ·exact .s (A.ifc 32 (iA 10)) (.pk (.cr (.jY (.cr (.jY (.lf rfl rfl ⟨[(iJ c)],rfl⟩))))))
   refine .cr (.ok (.st (v:=(iA (wr .i64 (u)))) (aQ (hs:=by kernel_rfl) (hd:=by kernel_rfl) ..) (.cr (.ok (.as (A9 C n _ _ _ _ self hS q (wr .i64 (u)) (wr .i64 ((c.toNat:Int))) 0 jl ?_ ?_ _ 0 r (([]:List au))))))))
   ·intro ap aq ar av aw ay w1516 w1517
    exact .un rfl (.lf rfl rfl ⟨[w1516,w1517],rfl⟩)
   ·intro w g az b0 b1 b2
    exact .un rfl (.cT r7 (.s (ag [(iA (wr .i64 ((c.toNat:Int)))),(iA 0),se,(bW 4 0 g.length false)]) (.s [aM,bx [(iA 0)],bx [(im (w.map c8) false)],bx [(iA (wr .i64 ((c.toNat:Int)))),(iA 0),se,(bW 4 0 g.length false)],aO.row false 4 (g.map ax)] (.st (v:=(ag [(iA (wr .i64 ((c.toNat:Int)))),(iA 0),se,(im (g.map ax) false)])) ((YF (fun z=>lh prog 108 (pt 3 0) z) (wT (H:=[aM,bx [(iA 0)],bx [(im (w.map c8) false)],bx [(iA (wr .i64 ((c.toNat:Int)))),(iA 0),se,(bW 4 0 g.length false)],aO.row false 4 (g.map ax)]) (lo:=0) (off:=3) (b:=3) (o:=0) (b':=4) (es:=4) (l:=g) cM rfl rfl rfl (Yp rfl))).trans r7) (.lf rfl rfl (gm (o:=Out.ret (ag [(iA (wr .i64 ((c.toNat:Int)))),(iA 0),se,(im (g.map ax) false)])) (lo:=0) (off:=3) (b:=3) (p:=0) (H2:=[aM,bx [(iA 0)],bx [(im (w.map c8) false)]]) (X:=[bx [(iA (wr .i64 ((c.toNat:Int)))),(iA 0),se,(bW 4 0 g.length false)],aO.row false 4 (g.map ax)]) (Yp rfl)))))))
 exact .cl ((bf pC).trans (Fk ..)) (.s (bA true) (.OD (.s (A.ifc 32 (iA 10)) (.pk (.cr (.jY (.lf rfl rfl ⟨[(iJ c)],rfl⟩)))))))
def BU:Nat->(List UInt8)->Int->Option (Bool×au×(List UInt8))
 | 0=>fun _ _=>none
 | N+1=>fun a2 a3=>bif Nat.ble 8 N then wy (BU N) (N - 8) a2 a3 else none
theorem K4 (C:OT) (a:uX C):∀ N,IV C N (BU N)
 | 0=>fun _ _ X r h=>by cases h
 | N+1=>fun a2 b X=>by
  show J _ _ _ (bif Nat.ble 8 N then wy (BU N) (N - 8) a2 b else none) _
  cases h:Nat.ble 8 N with
  | false=>exact fun r h=>by cases h
  | true=>
   obtain ⟨n,rfl⟩:∃ n,N=n+8:=⟨N - 8,by have:=Yp h; omega⟩
   rw[qao]
   exact Dm (m:=3) r7 r7 (by decide) rfl r7 ((by kernel_rfl:_=((((bk 3 (a2.map c8))&&true))&&true)).trans s0) (fun _=>rfl) (fun y=>(by show lG 3 (bif y.1 then Out.ret (ag [(iA y.2.1.Kind),(iA y.2.1.N),(sA y.2.1.S),(im (y.2.1.L.map ax) false)]) else Out.pan (A.ifc 32 (iA 10)))=true; cases y.1 with | true=>exact((by kernel_rfl:_=((bk 3 (y.2.1.L.map ax))&&true)).trans s0) | false=>rfl)) (fun y=>((by kernel_rfl:_=((((bk 3 (y.2.2.map c8))&&true))&&true)).trans s0)) (Qo C n a (BU (n+8)) (K4 C a (n+8)) a2 b)
def Oi (n:Nat) (b:(List UInt8)):Option (au×Int):=
 (BU (n+8) b 0).bind fun a=>bif a.1 then (bif (!(((a.2.2.length:Int))==0)) then (some (((au.mk 0 0 jl ([])),10))) else (some ((a.2.1,0)))) else (some (((au.mk 0 0 jl ([])),10)))
theorem VI (C:OT) (n:Nat) (c:uX C) (b:(List UInt8)):TJ C n 72 [(im (b.map c8) false)] (Oi n b) (fun y=>(tp [(ag (ar y.1)),(iA y.2)])):=by
 refine .lp (WJ ..) ?_
 unfold Oi
 refine .s ((pt 0 0),[aM]) (.s ((pt 1 0),[aM,bx [(iA 0)]]) (.s (ag [(im (b.map c8) false)]) (.s ((pt 2 0),[aM,bx [(iA 0)],bx [(im (b.map c8) false)]]) (.bg (fun (t:Out×aC) (y:(Bool×au×(List UInt8)))=>t=((bif y.1 then Out.ret (ag [(iA y.2.1.Kind),(iA y.2.1.N),(sA y.2.1.S),(im (y.2.1.L.map ax) false)]) else Out.pan (A.ifc 32 (iA 10))),[aM,bx [(iA 0)],bx [(im (y.2.2.map c8) false)]])) (K4 C c (n+8) b 0 []) ?_))))
 rintro _ a rfl
 refine .ob ?_ ?_
 ·refine .ok (.s [bx (ar a.2.1),bx [(iA 0)],bx [(im (a.2.2.map c8) false)]] (.s (pt 2 0) (.s2 (im (a.2.2.map c8) false) (.st (ef (e:=5)) (.st (bc ..) (.cl ((bf pC).trans (Fk ..)) (.s (bA (!(((a.2.2.length:Int))==0))) (.bX ?_ ?_))))))))
  ·exact .s (A.ifc 32 (iA 10)) (.pk (.cr (.jY (.s (bA true) (.OD (.s (ag [(iA 0),(iA 0),se,XL]) (.s (iA 10) (.sh (.s [aM,bx [(iA 10)],bx [(im (a.2.2.map c8) false)]] (.s (ag [(iA 0),(iA 0),se,XL]) (.s (iA 10) (.lv so))))))))))))
  exact .cr (.ok (.s (ag (ar a.2.1)) (.sh (.s [bx (ar a.2.1),bx [(iA 0)],bx [(im (a.2.2.map c8) false)]] (.s (bA false) (.OC (.s (ag (ar a.2.1)) (.s (iA 0) (.lv so)))))))))
 exact .jY (.s (bA true) (.OD (.s (ag [(iA 0),(iA 0),se,XL]) (.s (iA 10) (.sh (.s [aM,bx [(iA 10)],bx [(im (a.2.2.map c8) false)]] (.s (ag [(iA 0),(iA 0),se,XL]) (.s (iA 10) (.lv so)))))))))
def K0 (a:(List UInt8)):Option (au×Int):=Oi aE a
def HK (C:OT):Prop:=∀ (a:(List UInt8)),C 72 [(im (a.map c8) false)]=(K0 a).map fun y=>(tp [(ag (ar y.1)),(iA y.2)])
def dU (n:Nat) (j:Bool) (b:(List au)) (c:Int) (k:Int) (l:Int) (o:Int) (p:au):Nat->Int->Int->Int->Int->Int->Int->Option ((Bool×Int×Int×Int×Int×Int)⊕(Int×Int×Int×Int×Int))
 | 0,_,_,_,_,_,_=>none
 | m+1,a,d,e,f,g,h=>bif (decide (a<c)) then ((bL b a).bind fun i=>bif (i.Kind != 1) then (some ((Sum.inl ((false,d,e,f,g,h))))) else (bif decide (a=0) then (dU n j b c k l o p m (wr .i64 (a+1)) i.N e f g h) else bif decide (a=1) then (dU n j b c k l o p m (wr .i64 (a+1)) d i.N f g h) else bif decide (a=2) then (dU n j b c k l o p m (wr .i64 (a+1)) d e i.N g h) else bif decide (a=3) then (dU n j b c k l o p m (wr .i64 (a+1)) d e f i.N h) else bif decide (a=4) then (dU n j b c k l o p m (wr .i64 (a+1)) d e f g i.N) else none)) else (some ((Sum.inr ((d,e,f,g,h)))))
theorem CL (z:Bool) (l:(List au)) (a0:Int) (b:Int) (c:Int) (d:Int) (f:au) {K:((Bool×Int×Int×Int×Int×Int)⊕(Int×Int×Int×Int×Int))->Option γ} (x0:∀ (o:Bool) (p:Int) (q:Int) (r:Int) (o4:Int) (o5:Int) (t:A) (u:A) (w:A) (x:A) (q1:aO) (q2:aO) (q3:aO),J φ (kr (St.mk [(2,(pt 0 0)),(3,(bA o)),(6,t),(53,u),(54,w),(55,x)] [bx [(iA p),(iA q),(iA r),(iA o4),(iA o5),(iA b),(iA c),(iA d)],q1,q2,q3])) kL (K (Sum.inl ((o,p,q,r,o4,o5)))) some) (x1:∀ (o:Int) (p:Int) (q:Int) (r:Int) (o4:Int) (s3:A) (t:A) (u:A) (w:A) (x:A) (q1:aO) (q2:aO),J φ (kx 0 (St.mk [(2,(pt 0 0)),(3,s3),(6,t),(53,u),(54,w),(55,x)] [bx [(iA o),(iA p),(iA q),(iA r),(iA o4),(iA b),(iA c),(iA d)],q1,q2])) kL (K (Sum.inr ((o,p,q,r,o4)))) some) :
  ∀ (m:Nat) (y:Int) (g:Int) (h:Int) (i:Int) (j:Int) (k:Int),J φ (aN (cx C) (ec C n 8) (ey C n 8) (n+8) 37 0 0 3 kx kg kr kp m (St.mk [(2,(pt 0 0)),(3,(bA z)),(6,(bW 2 0 5 false)),(53,(im (l.map ax) false)),(54,(iA a0)),(55,(iA y))] [bx [(iA g),(iA h),(iA i),(iA j),(iA k),(iA b),(iA c),(iA d)],bx (ar f),aO.row true 1 [[(pt 0 0)],[(pt 0 1)],[(pt 0 2)],[(pt 0 3)],[(pt 0 4)],[(pt 0 0)],[(pt 0 5)],[(pt 0 6)],[(pt 0 7)]]])) kL (dU n z l a0 b c d f m y g h i j k) K:=by
  refine nI (fun _ _ _ _ _ _=>.nn) fun m ih y g h i j k=>.lp (HU ..) ?_
  unfold dU
  refine .st (aY ..) (.bX ?_ ?_)
  ·refine .bd ((eP (e:=108) (es:=4)).trans (er _)) fun a=>.s (ag (ar a)) (.sq (pt 3 0) (.s [bx [(iA g),(iA h),(iA i),(iA j),(iA k),(iA b),(iA c),(iA d)],bx (ar f),aO.row true 1 [[(pt 0 0)],[(pt 0 1)],[(pt 0 2)],[(pt 0 3)],[(pt 0 4)],[(pt 0 0)],[(pt 0 5)],[(pt 0 6)],[(pt 0 7)]],bx (ar a)] (.s2 (iA a.Kind) (.st (aG ..) (.bX ?_ ?_)))))
   ·exact .s (ag [(iA g),(iA h),(iA i),(iA j),(iA k),(iA b),(iA c),(iA d)]) (.s [bx [(iA g),(iA h),(iA i),(iA j),(iA k),(iA b),(iA c),(iA d)],bx (ar f),aO.row true 1 [[(pt 0 0)],[(pt 0 1)],[(pt 0 2)],[(pt 0 3)],[(pt 0 4)],[(pt 0 0)],[(pt 0 5)],[(pt 0 6)],[(pt 0 7)]],bx (ar a)] (.ex (x0 _ _ _ _ _ _ _ _ _ _ _ _ _)))
   refine .sp (fun a4=>?_) (fun _=>?_)
   ·refine .st (v:=(A.ep 2 0 0)) (by rw[XY a4]; kernel_rfl) (.s (pt 0 0) (.s2 (iA a.N) (.s (pt 0 0) (.s [bx [(iA a.N),(iA h),(iA i),(iA j),(iA k),(iA b),(iA c),(iA d)],bx (ar f),aO.row true 1 [[(pt 0 0)],[(pt 0 1)],[(pt 0 2)],[(pt 0 3)],[(pt 0 4)],[(pt 0 0)],[(pt 0 5)],[(pt 0 6)],[(pt 0 7)]],bx (ar a)] (.st (aJ ..) (.st (v:=[bx [(iA a.N),(iA h),(iA i),(iA j),(iA k),(iA b),(iA c),(iA d)],bx (ar f),aO.row true 1 [[(pt 0 0)],[(pt 0 1)],[(pt 0 2)],[(pt 0 3)],[(pt 0 4)],[(pt 0 0)],[(pt 0 5)],[(pt 0 6)],[(pt 0 7)]]]) (fa r7 u2) (.cT ((by kernel_rfl:_=(bif bk 3 (l.map ax) then true else false)).trans s0) ?_)))))))
    exact ih _ _ _ _ _ _
   refine .sp (fun a5=>?_) (fun _=>?_)
   ·refine .st (v:=(A.ep 2 1 0)) (by rw[XY a5]; kernel_rfl) (.s (pt 0 1) (.s2 (iA a.N) (.s (pt 0 1) (.s [bx [(iA g),(iA a.N),(iA i),(iA j),(iA k),(iA b),(iA c),(iA d)],bx (ar f),aO.row true 1 [[(pt 0 0)],[(pt 0 1)],[(pt 0 2)],[(pt 0 3)],[(pt 0 4)],[(pt 0 0)],[(pt 0 5)],[(pt 0 6)],[(pt 0 7)]],bx (ar a)] (.st (aJ ..) (.st (v:=[bx [(iA g),(iA a.N),(iA i),(iA j),(iA k),(iA b),(iA c),(iA d)],bx (ar f),aO.row true 1 [[(pt 0 0)],[(pt 0 1)],[(pt 0 2)],[(pt 0 3)],[(pt 0 4)],[(pt 0 0)],[(pt 0 5)],[(pt 0 6)],[(pt 0 7)]]]) (fa r7 u2) (.cT ((by kernel_rfl:_=(bif bk 3 (l.map ax) then true else false)).trans s0) ?_)))))))
    exact ih _ _ _ _ _ _
   refine .sp (fun a6=>?_) (fun _=>?_)
   ·refine .st (v:=(A.ep 2 2 0)) (by rw[XY a6]; kernel_rfl) (.s (pt 0 2) (.s2 (iA a.N) (.s (pt 0 2) (.s [bx [(iA g),(iA h),(iA a.N),(iA j),(iA k),(iA b),(iA c),(iA d)],bx (ar f),aO.row true 1 [[(pt 0 0)],[(pt 0 1)],[(pt 0 2)],[(pt 0 3)],[(pt 0 4)],[(pt 0 0)],[(pt 0 5)],[(pt 0 6)],[(pt 0 7)]],bx (ar a)] (.st (aJ ..) (.st (v:=[bx [(iA g),(iA h),(iA a.N),(iA j),(iA k),(iA b),(iA c),(iA d)],bx (ar f),aO.row true 1 [[(pt 0 0)],[(pt 0 1)],[(pt 0 2)],[(pt 0 3)],[(pt 0 4)],[(pt 0 0)],[(pt 0 5)],[(pt 0 6)],[(pt 0 7)]]]) (fa r7 u2) (.cT ((by kernel_rfl:_=(bif bk 3 (l.map ax) then true else false)).trans s0) ?_)))))))
    exact ih _ _ _ _ _ _
   refine .sp (fun a7=>?_) (fun _=>?_)
   ·refine .st (v:=(A.ep 2 3 0)) (by rw[XY a7]; kernel_rfl) (.s (pt 0 3) (.s2 (iA a.N) (.s (pt 0 3) (.s [bx [(iA g),(iA h),(iA i),(iA a.N),(iA k),(iA b),(iA c),(iA d)],bx (ar f),aO.row true 1 [[(pt 0 0)],[(pt 0 1)],[(pt 0 2)],[(pt 0 3)],[(pt 0 4)],[(pt 0 0)],[(pt 0 5)],[(pt 0 6)],[(pt 0 7)]],bx (ar a)] (.st (aJ ..) (.st (v:=[bx [(iA g),(iA h),(iA i),(iA a.N),(iA k),(iA b),(iA c),(iA d)],bx (ar f),aO.row true 1 [[(pt 0 0)],[(pt 0 1)],[(pt 0 2)],[(pt 0 3)],[(pt 0 4)],[(pt 0 0)],[(pt 0 5)],[(pt 0 6)],[(pt 0 7)]]]) (fa r7 u2) (.cT ((by kernel_rfl:_=(bif bk 3 (l.map ax) then true else false)).trans s0) ?_)))))))
    exact ih _ _ _ _ _ _
   refine .sp (fun a8=>?_) (fun _=>?_)
   ·refine .st (v:=(A.ep 2 4 0)) (by rw[XY a8]; kernel_rfl) (.s (pt 0 4) (.s2 (iA a.N) (.s (pt 0 4) (.s [bx [(iA g),(iA h),(iA i),(iA j),(iA a.N),(iA b),(iA c),(iA d)],bx (ar f),aO.row true 1 [[(pt 0 0)],[(pt 0 1)],[(pt 0 2)],[(pt 0 3)],[(pt 0 4)],[(pt 0 0)],[(pt 0 5)],[(pt 0 6)],[(pt 0 7)]],bx (ar a)] (.st (aJ ..) (.st (v:=[bx [(iA g),(iA h),(iA i),(iA j),(iA a.N),(iA b),(iA c),(iA d)],bx (ar f),aO.row true 1 [[(pt 0 0)],[(pt 0 1)],[(pt 0 2)],[(pt 0 3)],[(pt 0 4)],[(pt 0 0)],[(pt 0 5)],[(pt 0 6)],[(pt 0 7)]]]) (fa r7 u2) (.cT ((by kernel_rfl:_=(bif bk 3 (l.map ax) then true else false)).trans s0) ?_)))))))
    exact ih _ _ _ _ _ _
   exact .nn
  exact .ex (x1 _ _ _ _ _ _ _ _ _ _ _ _)
def dM (n:Nat) (i:Bool) (b:(List au)) (c:Int) (j:Int) (k:Int) (l:Int) (o:Int) (p:au):Nat->Int->Int->Int->Int->Int->Option ((Bool×Int×Int×Int×Int)⊕(Int×Int×Int×Int))
 | 0,_,_,_,_,_=>none
 | m+1,a,d,e,f,g=>bif (decide (a<c)) then ((bL b a).bind fun h=>bif (h.Kind != 1) then (some ((Sum.inl ((false,d,e,f,g))))) else (bif decide (a=0) then (dM n i b c j k l o p m (wr .i64 (a+1)) h.N e f g) else bif decide (a=1) then (dM n i b c j k l o p m (wr .i64 (a+1)) d h.N f g) else bif decide (a=2) then (dM n i b c j k l o p m (wr .i64 (a+1)) d e h.N g) else bif decide (a=3) then (dM n i b c j k l o p m (wr .i64 (a+1)) d e f h.N) else none)) else (some ((Sum.inr ((d,e,f,g)))))
theorem A6 (z:Bool) (l:(List au)) (a0:Int) (b:Int) (c:Int) (d:Int) (f:Int) (g:au) {K:((Bool×Int×Int×Int×Int)⊕(Int×Int×Int×Int))->Option γ} (x0:∀ (o:Bool) (p:Int) (q:Int) (r:Int) (o4:Int) (t:A) (u:A) (w:A) (x:A) (q1:aO) (q2:aO) (q3:aO),J φ (kr (St.mk [(2,(pt 0 0)),(3,(bA o)),(6,t),(53,u),(54,w),(55,x)] [bx [(iA p),(iA b),(iA c),(iA d),(iA f),(iA q),(iA r),(iA o4)],q1,q2,q3])) kL (K (Sum.inl ((o,p,q,r,o4)))) some) (x1:∀ (o:Int) (p:Int) (q:Int) (r:Int) (s3:A) (t:A) (u:A) (w:A) (x:A) (q1:aO) (q2:aO),J φ (kx 0 (St.mk [(2,(pt 0 0)),(3,s3),(6,t),(53,u),(54,w),(55,x)] [bx [(iA o),(iA b),(iA c),(iA d),(iA f),(iA p),(iA q),(iA r)],q1,q2])) kL (K (Sum.inr ((o,p,q,r)))) some) :
  ∀ (m:Nat) (y:Int) (h:Int) (i:Int) (j:Int) (k:Int),J φ (aN (cx C) (ec C n 8) (ey C n 8) (n+8) 37 0 0 3 kx kg kr kp m (St.mk [(2,(pt 0 0)),(3,(bA z)),(6,(bW 2 5 4 true)),(53,(im (l.map ax) false)),(54,(iA a0)),(55,(iA y))] [bx [(iA h),(iA b),(iA c),(iA d),(iA f),(iA i),(iA j),(iA k)],bx (ar g),aO.row true 1 [[(pt 0 0)],[(pt 0 1)],[(pt 0 2)],[(pt 0 3)],[(pt 0 4)],[(pt 0 0)],[(pt 0 5)],[(pt 0 6)],[(pt 0 7)]]])) kL (dM n z l a0 b c d f g m y h i j k) K:=by
  refine nI (fun _ _ _ _ _=>.nn) fun m ih y h i j k=>.lp (HU ..) ?_
  unfold dM
  refine .st (aY ..) (.bX ?_ ?_)
  ·refine .bd ((eP (e:=108) (es:=4)).trans (er _)) fun a=>.s (ag (ar a)) (.sq (pt 3 0) (.s [bx [(iA h),(iA b),(iA c),(iA d),(iA f),(iA i),(iA j),(iA k)],bx (ar g),aO.row true 1 [[(pt 0 0)],[(pt 0 1)],[(pt 0 2)],[(pt 0 3)],[(pt 0 4)],[(pt 0 0)],[(pt 0 5)],[(pt 0 6)],[(pt 0 7)]],bx (ar a)] (.s2 (iA a.Kind) (.st (aG ..) (.bX ?_ ?_)))))
   ·exact .s (ag [(iA h),(iA b),(iA c),(iA d),(iA f),(iA i),(iA j),(iA k)]) (.s [bx [(iA h),(iA b),(iA c),(iA d),(iA f),(iA i),(iA j),(iA k)],bx (ar g),aO.row true 1 [[(pt 0 0)],[(pt 0 1)],[(pt 0 2)],[(pt 0 3)],[(pt 0 4)],[(pt 0 0)],[(pt 0 5)],[(pt 0 6)],[(pt 0 7)]],bx (ar a)] (.ex (x0 _ _ _ _ _ _ _ _ _ _ _ _)))
   refine .sp (fun a4=>?_) (fun _=>?_)
   ·refine .st (v:=(A.ep 2 5 0)) (by rw[XY a4]; kernel_rfl) (.s (pt 0 0) (.s2 (iA a.N) (.s (pt 0 0) (.s [bx [(iA a.N),(iA b),(iA c),(iA d),(iA f),(iA i),(iA j),(iA k)],bx (ar g),aO.row true 1 [[(pt 0 0)],[(pt 0 1)],[(pt 0 2)],[(pt 0 3)],[(pt 0 4)],[(pt 0 0)],[(pt 0 5)],[(pt 0 6)],[(pt 0 7)]],bx (ar a)] (.st (aJ ..) (.st (v:=[bx [(iA a.N),(iA b),(iA c),(iA d),(iA f),(iA i),(iA j),(iA k)],bx (ar g),aO.row true 1 [[(pt 0 0)],[(pt 0 1)],[(pt 0 2)],[(pt 0 3)],[(pt 0 4)],[(pt 0 0)],[(pt 0 5)],[(pt 0 6)],[(pt 0 7)]]]) (fa r7 u2) (.cT ((by kernel_rfl:_=(bif bk 3 (l.map ax) then true else false)).trans s0) ?_)))))))
    exact ih _ _ _ _ _
   refine .sp (fun a5=>?_) (fun _=>?_)
   ·refine .st (v:=(A.ep 2 6 0)) (by rw[XY a5]; kernel_rfl) (.s (pt 0 5) (.s2 (iA a.N) (.s (pt 0 5) (.s [bx [(iA h),(iA b),(iA c),(iA d),(iA f),(iA a.N),(iA j),(iA k)],bx (ar g),aO.row true 1 [[(pt 0 0)],[(pt 0 1)],[(pt 0 2)],[(pt 0 3)],[(pt 0 4)],[(pt 0 0)],[(pt 0 5)],[(pt 0 6)],[(pt 0 7)]],bx (ar a)] (.st (aJ ..) (.st (v:=[bx [(iA h),(iA b),(iA c),(iA d),(iA f),(iA a.N),(iA j),(iA k)],bx (ar g),aO.row true 1 [[(pt 0 0)],[(pt 0 1)],[(pt 0 2)],[(pt 0 3)],[(pt 0 4)],[(pt 0 0)],[(pt 0 5)],[(pt 0 6)],[(pt 0 7)]]]) (fa r7 u2) (.cT ((by kernel_rfl:_=(bif bk 3 (l.map ax) then true else false)).trans s0) ?_)))))))
    exact ih _ _ _ _ _
   refine .sp (fun a6=>?_) (fun _=>?_)
   ·refine .st (v:=(A.ep 2 7 0)) (by rw[XY a6]; kernel_rfl) (.s (pt 0 6) (.s2 (iA a.N) (.s (pt 0 6) (.s [bx [(iA h),(iA b),(iA c),(iA d),(iA f),(iA i),(iA a.N),(iA k)],bx (ar g),aO.row true 1 [[(pt 0 0)],[(pt 0 1)],[(pt 0 2)],[(pt 0 3)],[(pt 0 4)],[(pt 0 0)],[(pt 0 5)],[(pt 0 6)],[(pt 0 7)]],bx (ar a)] (.st (aJ ..) (.st (v:=[bx [(iA h),(iA b),(iA c),(iA d),(iA f),(iA i),(iA a.N),(iA k)],bx (ar g),aO.row true 1 [[(pt 0 0)],[(pt 0 1)],[(pt 0 2)],[(pt 0 3)],[(pt 0 4)],[(pt 0 0)],[(pt 0 5)],[(pt 0 6)],[(pt 0 7)]]]) (fa r7 u2) (.cT ((by kernel_rfl:_=(bif bk 3 (l.map ax) then true else false)).trans s0) ?_)))))))
    exact ih _ _ _ _ _
   refine .sp (fun a7=>?_) (fun _=>?_)
   ·refine .st (v:=(A.ep 2 8 0)) (by rw[XY a7]; kernel_rfl) (.s (pt 0 7) (.s2 (iA a.N) (.s (pt 0 7) (.s [bx [(iA h),(iA b),(iA c),(iA d),(iA f),(iA i),(iA j),(iA a.N)],bx (ar g),aO.row true 1 [[(pt 0 0)],[(pt 0 1)],[(pt 0 2)],[(pt 0 3)],[(pt 0 4)],[(pt 0 0)],[(pt 0 5)],[(pt 0 6)],[(pt 0 7)]],bx (ar a)] (.st (aJ ..) (.st (v:=[bx [(iA h),(iA b),(iA c),(iA d),(iA f),(iA i),(iA j),(iA a.N)],bx (ar g),aO.row true 1 [[(pt 0 0)],[(pt 0 1)],[(pt 0 2)],[(pt 0 3)],[(pt 0 4)],[(pt 0 0)],[(pt 0 5)],[(pt 0 6)],[(pt 0 7)]]]) (fa r7 u2) (.cT ((by kernel_rfl:_=(bif bk 3 (l.map ax) then true else false)).trans s0) ?_)))))))
    exact ih _ _ _ _ _
   exact .nn
  exact .ex (x1 _ _ _ _ _ _ _ _ _ _ _)
def NT (n:Nat) (c:(List UInt8)):Option (aU×Bool):=
 (K0 c).bind fun a=>(bif (a.2 != 0) then (some true) else (some (a.1.Kind != 3))).bind fun d=>(bif d then (some true) else (some (((a.1.L.length:Int))==0))).bind fun e=>bif e then (some (((aU.mk 0 ((aR.mk 0 0 0 0)) ((bh.mk 0 0 0))),false))) else ((bL a.1.L 0).bind fun b=>bif (b.N==1) then ((bif (b.N != 1) then (some (b.N != 2)) else (some false)).bind fun f=>(bif f then (some true) else (some (((a.1.L.length:Int)) != 5))).bind fun g=>bif g then (some (((aU.mk b.N ((aR.mk 0 0 0 0)) ((bh.mk 0 0 0))),false))) else ((dU n false a.1.L ((a.1.L.length:Int)) 0 0 0 a.1 (n+8) 0 b.N 0 0 0 0).bind fun h=>match h with | (Sum.inl ((i,j,k,l,o,p)))=>some (((aU.mk j ((aR.mk k l o p)) ((bh.mk 0 0 0))),i)) | (Sum.inr ((q,r,s,t,u)))=>some (((aU.mk q ((aR.mk r s t u)) ((bh.mk 0 0 0))),true)))) else ((bif (b.N != 1) then (some (b.N != 2)) else (some false)).bind fun v=>(bif v then (some true) else (some (((a.1.L.length:Int)) != 4))).bind fun w=>bif w then (some (((aU.mk b.N ((aR.mk 0 0 0 0)) ((bh.mk 0 0 0))),false))) else ((dM n false a.1.L ((a.1.L.length:Int)) 0 0 0 0 a.1 (n+8) 0 b.N 0 0 0).bind fun x=>match x with | (Sum.inl ((y,z,a1,a2,a3)))=>some (((aU.mk z ((aR.mk 0 0 0 0)) ((bh.mk a1 a2 a3))),y)) | (Sum.inr ((a4,a5,a6,a7)))=>some (((aU.mk a4 ((aR.mk 0 0 0 0)) ((bh.mk a5 a6 a7))),true)))))
theorem Vh (C:OT) (n:Nat) (al:HK C) (c:(List UInt8)):TJ C n 37 [(im (c.map c8) false)] (NT n c) (fun y=>(tp [(ag (av y.1)),(bA y.2)])):=by
 refine .lp (Wg ..) ?_
 unfold NT
 refine .s ((pt 0 0),[bx [(iA 0),(iA 0),(iA 0),(iA 0),(iA 0),(iA 0),(iA 0),(iA 0)]]) (.bd (g:=fun (y:(au×Int))=>(tp [(ag (ar y.1)),(iA y.2)])) (by simp only[bR,cY]; exact al c) fun a=>.s (ag (ar a.1)) (.s (iA a.2) (.sq (pt 1 0) (.s [bx [(iA 0),(iA 0),(iA 0),(iA 0),(iA 0),(iA 0),(iA 0),(iA 0)],bx (ar a.1)] (.st (aG ..) (.bg (fun t (y:Bool)=>∃ q r u:A,t=[(bA y),q,r,u]) ?_ ?_))))))
 ·refine .bi ?_ ?_
  ·exact .lg ⟨_,_,_,rfl⟩
  exact .s (pt 1 0) (.s (iA a.1.Kind) (.st (aG ..) (.lg ⟨_,_,_,rfl⟩)))
 rintro _ y3 ⟨q,r,u,rfl⟩
 refine .u4 (.bg (fun t (y:Bool)=>∃ v w x z:A,t=[(bA y),v,w,x,z]) ?_ ?_)
 ·refine .bi ?_ ?_
  ·exact .lg ⟨_,_,_,_,rfl⟩
  exact .s (pt 1 3) (.s (im (a.1.L.map ax) false) (.st (ef (e:=108)) (.st (bc ..) (.lg ⟨_,_,_,_,rfl⟩))))
 rintro _ y8 ⟨v,w,x,z,rfl⟩
 refine .u4 (.uc (.bX ?_ ?_))
 ·exact .s (ag [(iA 0),(iA 0),(iA 0),(iA 0),(iA 0),(iA 0),(iA 0),(iA 0)]) (.s [bx [(iA 0),(iA 0),(iA 0),(iA 0),(iA 0),(iA 0),(iA 0),(iA 0)],bx (ar a.1)] (.s (ag [(iA 0),(iA 0),(iA 0),(iA 0),(iA 0),(iA 0),(iA 0),(iA 0)]) (.lv rfl)))
 refine .s2 (im (a.1.L.map ax) false) (.bd ((eP (e:=108) (es:=4)).trans (er _)) fun b=>.s2 (iA b.N) (.s (pt 0 0) (.sh (.cl ((bf It).trans (Te ..)) (.s (pt 0 0) (.s (pt 0 0) (.s (pt 0 0) (.s (pt 0 1) (.s (pt 0 1) (.s (pt 0 0) (.s (pt 0 1) (.s (pt 0 2) (.s (pt 0 0) (.s (pt 0 1) (.s (pt 0 3) (.s (pt 0 0) (.s (pt 0 1) (.s (pt 0 4) (.s (pt 0 0) (.s (pt 0 0) (.s (pt 0 0) (.s (pt 0 5) ?_))))))))))))))))))))))
 refine .s (pt 0 5) (.s (pt 0 0) (.s (pt 0 5) (.s (pt 0 6) (.s (pt 0 0) (.s (pt 0 5) (.s (pt 0 7) (.s (ag [(pt 0 0),(pt 0 1),(pt 0 2),(pt 0 3),(pt 0 4),(pt 0 0),(pt 0 5),(pt 0 6),(pt 0 7)]) (.cT r7 (.sq (A.ep 2 0 0) (.s [bx [(iA b.N),(iA 0),(iA 0),(iA 0),(iA 0),(iA 0),(iA 0),(iA 0)],bx (ar a.1),aO.row true 1 [[(pt 0 0)],[(pt 0 1)],[(pt 0 2)],[(pt 0 3)],[(pt 0 4)],[(pt 0 0)],[(pt 0 5)],[(pt 0 6)],[(pt 0 7)]]] (.s (pt 0 0) (.s2 (iA b.N) (.st (bc ..) (.bX ?_ ?_))))))))))))))
 ·refine .s (bW 2 0 5 false) (.cr (.ok (.s2 (iA b.N) (.st (aG ..) (.bg (fun t (y:Bool)=>∃ a1 a2 a3:A,t=[(bA y),a1,a2,a3]) ?_ ?_)))))
  ·refine .bi ?_ ?_
   ·exact .s (pt 0 0) (.s (iA b.N) (.st (aG ..) (.lg ⟨_,_,_,rfl⟩)))
   exact .lg ⟨_,_,_,rfl⟩
  rintro _ b3 ⟨a1,a2,a3,rfl⟩
  refine .u4 (.bg (fun t (y:Bool)=>∃ a4 a5 a6 a7 a8 a9:A,t=[(bA y),a4,a5,a6,a7,a8,a9]) ?_ ?_)
  ·refine .bi ?_ ?_
   ·exact .lg ⟨_,_,_,_,_,_,rfl⟩
   exact .s (pt 1 3) (.s (im (a.1.L.map ax) false) (.st (ef (e:=108)) (.s (iA 5) (.st (aG ..) (.lg ⟨_,_,_,_,_,_,rfl⟩)))))
  rintro _ b4 ⟨a4,a5,a6,a7,a8,a9,rfl⟩
  refine .u4 (.uc (.uc (.uc (.bX ?_ ?_))))
  ·exact .s (ag [(iA b.N),(iA 0),(iA 0),(iA 0),(iA 0),(iA 0),(iA 0),(iA 0)]) (.s [bx [(iA b.N),(iA 0),(iA 0),(iA 0),(iA 0),(iA 0),(iA 0),(iA 0)],bx (ar a.1),aO.row true 1 [[(pt 0 0)],[(pt 0 1)],[(pt 0 2)],[(pt 0 3)],[(pt 0 4)],[(pt 0 0)],[(pt 0 5)],[(pt 0 6)],[(pt 0 7)]]] (.s (ag [(iA b.N),(iA 0),(iA 0),(iA 0),(iA 0),(iA 0),(iA 0),(iA 0)]) (.lv rfl)))
  refine .s2 (im (a.1.L.map ax) false) (.st (ef (e:=108)) (.as (CL C n _ _ _ _ false a.1.L ((a.1.L.length:Int)) 0 0 0 a.1 ?_ ?_ _ 0 b.N 0 0 0 0)))
  ·intro b5 am an ao ap aq b6 b7 b8 b9 w243 w244 w245
   exact .un rfl (.s (ag [(iA am),(iA an),(iA ao),(iA ap),(iA aq),(iA 0),(iA 0),(iA 0)]) (.lv rfl))
  ·intro d f h i j ba bb be bh bj w256 w257
   exact .un rfl (.cT r7 (.s (ag [(iA d),(iA f),(iA h),(iA i),(iA j),(iA 0),(iA 0),(iA 0)]) (.s [bx [(iA d),(iA f),(iA h),(iA i),(iA j),(iA 0),(iA 0),(iA 0)],w256,w257] (.s (ag [(iA d),(iA f),(iA h),(iA i),(iA j),(iA 0),(iA 0),(iA 0)]) (.lv rfl)))))
 refine .s (bW 2 5 4 true) (.cr (.ok (.s2 (iA b.N) (.st (aG ..) (.bg (fun t (y:Bool)=>∃ aa ab ad:A,t=[(bA y),aa,ab,ad]) ?_ ?_)))))
 ·refine .bi ?_ ?_
  ·exact .s (pt 0 0) (.s (iA b.N) (.st (aG ..) (.lg ⟨_,_,_,rfl⟩)))
  exact .lg ⟨_,_,_,rfl⟩
 rintro _ bk ⟨aa,ab,ad,rfl⟩
 refine .u4 (.bg (fun t (y:Bool)=>∃ ae af ah ai aj ak:A,t=[(bA y),ae,af,ah,ai,aj,ak]) ?_ ?_)
 ·refine .bi ?_ ?_
  ·exact .lg ⟨_,_,_,_,_,_,rfl⟩
  exact .s (pt 1 3) (.s (im (a.1.L.map ax) false) (.st (ef (e:=108)) (.s (iA 4) (.st (aG ..) (.lg ⟨_,_,_,_,_,_,rfl⟩)))))
 rintro _ bl ⟨ae,af,ah,ai,aj,ak,rfl⟩
 refine .u4 (.uc (.uc (.uc (.bX ?_ ?_))))
 ·exact .s (ag [(iA b.N),(iA 0),(iA 0),(iA 0),(iA 0),(iA 0),(iA 0),(iA 0)]) (.s [bx [(iA b.N),(iA 0),(iA 0),(iA 0),(iA 0),(iA 0),(iA 0),(iA 0)],bx (ar a.1),aO.row true 1 [[(pt 0 0)],[(pt 0 1)],[(pt 0 2)],[(pt 0 3)],[(pt 0 4)],[(pt 0 0)],[(pt 0 5)],[(pt 0 6)],[(pt 0 7)]]] (.s (ag [(iA b.N),(iA 0),(iA 0),(iA 0),(iA 0),(iA 0),(iA 0),(iA 0)]) (.lv rfl)))
 refine .s2 (im (a.1.L.map ax) false) (.st (ef (e:=108)) (.as (A6 C n _ _ _ _ false a.1.L ((a.1.L.length:Int)) 0 0 0 0 a.1 ?_ ?_ _ 0 b.N 0 0 0)))
 ·intro bm aw ay az b0 bn bo bp bq w479 w480 w481
  exact .un rfl (.s (ag [(iA aw),(iA 0),(iA 0),(iA 0),(iA 0),(iA ay),(iA az),(iA b0)]) (.lv rfl))
 ·intro k l o p br bs bt bu bv w491 w492
  exact .un rfl (.cT r7 (.s (ag [(iA k),(iA 0),(iA 0),(iA 0),(iA 0),(iA l),(iA o),(iA p)]) (.s [bx [(iA k),(iA 0),(iA 0),(iA 0),(iA 0),(iA l),(iA o),(iA p)],w491,w492] (.s (ag [(iA k),(iA 0),(iA 0),(iA 0),(iA 0),(iA l),(iA o),(iA p)]) (.lv rfl)))))
def Kh (a:(List UInt8)):Option (aU×Bool):=NT aE a
def zY (C:OT):Prop:=∀ (a:(List UInt8)),C 37 [(im (a.map c8) false)]=(Kh a).map fun y=>(tp [(ag (av y.1)),(bA y.2)])
def kK (n:Nat) (f:Int) (b:Int) (c:(List bj)) (d:Int) (e:aw):Nat->Int->Option ((Int)⊕(Unit))
 | 0,_=>none
 | m+1,a=>bif (decide (a<d)) then ((bL c a).bind fun g=>(KT g a b e.Bar).bind fun h=>bif (!h) then (some ((Sum.inl 490))) else (kK n f b c d e m (wr .i64 (a+1)))) else (some ((Sum.inr (()))))
theorem CD (p:Cr C) (f:Int) (b:Int) (h:(List bj)) (l:Int) (a:aw) {K:((Int)⊕(Unit))->Option γ} (q:∀ (o:Int) (r:A) (t:A) (i:A) (j:A) (k:A) (q0:aO) (q1:aO),J φ (kr (St.mk [(1,r),(2,(iA o)),(3,t),(31,i),(32,j),(33,k)] [q0,q1])) kL (K (Sum.inl o)) some) (u:∀ (i:A) (j:A) (k:A),J φ (kx 0 (St.mk [(1,(pt 0 0)),(2,(iA f)),(3,(iA b)),(31,i),(32,j),(33,k)] [bx (al a)])) kL (K (Sum.inr (()))) some) :
  ∀ (m:Nat) (c:Int),J φ (aN (cx C) (ec C n 8) (ey C n 8) (n+8) 20 0 0 1 kx kg kr kp m (St.mk [(1,(pt 0 0)),(2,(iA f)),(3,(iA b)),(31,(im (h.map az) false)),(32,(iA l)),(33,(iA c))] [bx (al a)])) kL (kK n f b h l a m c) K:=by
  refine nI (fun _=>.nn) fun m ih c=>.lp (Lq ..) ?_
  unfold kK
  refine .st (aY ..) (.bX ?_ ?_)
  ·refine .bd (eP (e:=50) (es:=3)) fun d=>.s (ag (az d)) (.sq (pt 1 0) (.s [bx (al a),bx (az d)] (.s (ag (az d)) (.s2 (iA a.Bar) (.bd (g:=fun (y:Bool)=>(bA y)) (by simp only[bR,cY]; exact p d c b a.Bar) fun w=>.s (bA (!w)) (.bX ?_ ?_))))))
   ·exact .ex (q _ _ _ _ _ _ _ _)
   refine .st (aJ ..) (.st (v:=[bx (al a)]) (fa r7 u2) (.cT ((by kernel_rfl:_=(bif bk 1 (h.map az) then true else false)).trans s0) ?_))
   exact ih _
  exact .ex (u _ _ _)
def iT (n:Nat) (h:Int) (b:Int) (f:(List aA)) (g:Int) (c:aw):Nat->Int->Option ((Int)⊕(Unit))
 | 0,_=>none
 | m+1,d=>bif (decide (d<g)) then ((bL f d).bind fun e=>(Kh e.Data).bind fun a=>(bif a.2 then (some (a.1.kind==1)) else (some false)).bind fun i=>bif i then ((IK a.1.cue b).bind fun j=>(bif j then (some (e.From==0)) else (some false)).bind fun k=>(bif k then (some (e.To==(wr .i64 (a.1.cue.Role+1)))) else (some false)).bind fun l=>bif (!l) then (some ((Sum.inl 490))) else (iT n h b f g c m (wr .i64 (d+1)))) else (bif a.2 then ((zU a.1.report.Role 0 (wr .i64 (b - 1))).bind fun o=>(bif o then ((zU a.1.report.Bar 0 (wr .i64 (c.Bar - 1))).bind fun p=>some p) else (some false)).bind fun q=>(bif q then (some (e.From==(wr .i64 (a.1.report.Role+1)))) else (some false)).bind fun r=>(bif r then (some (e.To==0)) else (some false)).bind fun s=>(bif s then ((bL c.Ears a.1.report.Role).bind fun t=>(bL t.Did a.1.report.Bar).bind fun u=>some (u==a.1.report.Program)) else (some false)).bind fun v=>bif (!v) then (some ((Sum.inl 490))) else (iT n h b f g c m (wr .i64 (d+1)))) else (bif (!a.2) then (some ((Sum.inl 490))) else (iT n h b f g c m (wr .i64 (d+1)))))) else (some ((Sum.inr (()))))
theorem CE (r:q8 C) (b2:zY C) (b3:tV C) (u:Int) (f:Int) (d:(List aA)) (w:Int) (b:aw) {K:((Int)⊕(Unit))->Option γ} (h:∀ (x:Int) (i:A) (j:A) (k:A) (l:A) (o:A) (q0:aO) (q1:aO) (q2:aO) (q3:aO) (q4:aO),J φ (kr (St.mk [(1,i),(2,(iA x)),(3,j),(48,k),(49,l),(50,o)] [q0,q1,q2,q3,q4])) kL (K (Sum.inl x)) some) (x1:∀ (i:A) (s2:A) (j:A) (k:A) (l:A) (o:A) (q0:aO),J φ (kx 2 (St.mk [(1,i),(2,s2),(3,j),(48,k),(49,l),(50,o)] [q0])) kL (K (Sum.inr (()))) some) :
  ∀ (m:Nat) (p:Int),J φ (aN (cx C) (ec C n 8) (ey C n 8) (n+8) 20 0 1 1 kx kg kr kp m (St.mk [(1,(pt 0 0)),(2,(iA u)),(3,(iA f)),(48,(im (d.map ak) false)),(49,(iA w)),(50,(iA p))] [bx (al b)])) kL (iT n u f d w b m p) K:=by
  refine nI (fun _=>.nn) fun m ih p=>.lp (Lr ..) ?_
  unfold iT
  refine .st (aY ..) (.bX ?_ ?_)
  ·refine .bd (eP (e:=68) (es:=3)) fun c=>.s (ag (ak c)) (.sq (pt 1 0) (.s [bx (al b),bx (ak c)] (.s2 (im (c.Data.map c8) false) (.bd (g:=fun (y:(aU×Bool))=>(tp [(ag (av y.1)),(bA y.2)])) (by simp only[bR,cY]; exact b2 c.Data) fun a=>.s (ag (av a.1)) (.s (bA a.2) (.sq (pt 2 0) (.sh (.sq (pt 3 0) (.s ((pt 4 0),[bx (al b),bx (ak c),bx (av a.1),bx [(iA 0),(iA 0),(iA 0),(iA 0)],bx [(iA 0),(iA 0),(iA 0)]]) (.s2 (ag (ay a.1.cue)) (.s (pt 2 5) (.s (ag (aB a.1.report)) (.cT r7 (.sh (.s [bx (al b),bx (ak c),bx (av a.1),bx (ay a.1.cue),bx (aB a.1.report)] (.bg (fun t (y:Bool)=>∃ z a0 a1:A,t=[(bA y),z,a0,a1]) ?_ ?_))))))))))))))))
   ·refine .bi ?_ ?_
    ·exact .s (pt 2 0) (.s (iA a.1.kind) (.st (bc ..) (.lg ⟨_,_,_,rfl⟩)))
    exact .lg ⟨_,_,_,rfl⟩
   rintro _ b8 ⟨z,a0,a1,rfl⟩
   refine .u4 (.bX ?_ ?_)
   ·refine .s (ag (ay a.1.cue)) (.bd (b3 a.1.cue f) fun b9=>.bg (fun t (y:Bool)=>∃ a2 a3 a4:A,t=[(bA y),a2,a3,a4]) ?_ ?_)
    ·refine .bi ?_ ?_
     ·exact .s (pt 1 0) (.s (iA c.From) (.st (bc ..) (.lg ⟨_,_,_,rfl⟩)))
     exact .lg ⟨_,_,_,rfl⟩
    rintro _ ba ⟨a2,a3,a4,rfl⟩
    refine .u4 (.bg (fun t (y:Bool)=>∃ a5 a6 a7 a8 a9 aa:A,t=[(bA y),a5,a6,a7,a8,a9,aa]) ?_ ?_)
    ·refine .bi ?_ ?_
     ·exact .s (pt 1 1) (.s (iA c.To) (.s (pt 3 1) (.s (iA a.1.cue.Role) (.st (aJ ..) (.st (bc ..) (.lg ⟨_,_,_,_,_,_,rfl⟩))))))
     exact .lg ⟨_,_,_,_,_,_,rfl⟩
    rintro _ b5 ⟨a5,a6,a7,a8,a9,aa,rfl⟩
    refine .u4 (.uc (.uc (.uc (.s (bA (!b5)) (.bX ?_ ?_)))))
    ·exact .ex (h _ _ _ _ _ _ _ _ _ _ _)
    refine .st (aJ ..) (.st (v:=[bx (al b)]) (fa r7 u2) (.cT ((by kernel_rfl:_=(bif bk 1 (d.map ak) then true else false)).trans s0) ?_))
    exact ih _
   refine .bX ?_ ?_
   ·refine .s2 (iA a.1.report.Role) (.st (dy ..) (.bd (r a.1.report.Role 0 (wr .i64 (f - 1))) fun be=>.bg (fun t (y:Bool)=>∃ ab ad ae af ah ai:A,t=[(bA y),ab,ad,ae,af,ah,ai]) ?_ ?_))
    ·refine .bi ?_ ?_
     ·exact .s (pt 4 1) (.s (iA a.1.report.Bar) (.s (pt 0 3) (.s (iA b.Bar) (.st (dy ..) (.bd (r a.1.report.Bar 0 (wr .i64 (b.Bar - 1))) fun bf=>.lg ⟨_,_,_,_,_,_,rfl⟩)))))
     exact .lg ⟨_,_,_,_,_,_,rfl⟩
    rintro _ bh ⟨ab,ad,ae,af,ah,ai,rfl⟩
    refine .u4 (.uc (.uc (.uc (.bg (fun t (y:Bool)=>∃ aj am an ao ap aq:A,t=[(bA y),aj,am,an,ao,ap,aq]) ?_ ?_))))
    ·refine .bi ?_ ?_
     ·exact .s (pt 1 0) (.s (iA c.From) (.s (pt 4 0) (.s (iA a.1.report.Role) (.st (aJ ..) (.st (bc ..) (.lg ⟨_,_,_,_,_,_,rfl⟩))))))
     exact .lg ⟨_,_,_,_,_,_,rfl⟩
    rintro _ bj ⟨aj,am,an,ao,ap,aq,rfl⟩
    refine .u4 (.uc (.uc (.uc (.bg (fun t (y:Bool)=>∃ ar au ax:A,t=[(bA y),ar,au,ax]) ?_ ?_))))
    ·refine .bi ?_ ?_
     ·exact .s (pt 1 1) (.s (iA c.To) (.st (bc ..) (.lg ⟨_,_,_,rfl⟩)))
     exact .lg ⟨_,_,_,rfl⟩
    rintro _ bl ⟨ar,au,ax,rfl⟩
    refine .u4 (.Nc (.bg (fun t (y:Bool)=>∃ b0:A,t=[(bA y),b0]) ?_ ?_))
    ·refine .EW (fun q=>?_) (fun q=>?_)
     ·exact .bb (.s (pt 0 2) (.s (im (b.Ears.map az) false) (.s (pt 4 0) (.s (iA a.1.report.Role) (.bd (eP (e:=50) (es:=3)) fun b1=>.s (A.ip [(im (b1.Did.map (cI .i64)) false)]) (.s (im (b1.Did.map (cI .i64)) false) (.s (pt 4 1) (.s (iA a.1.report.Bar) (.bd (eP (e:=3) (es:=1)) fun b6=>.s (iA b6) (.s (pt 4 2) (.s (iA a.1.report.Program) (.cr (.u4 (.u4 (.u4 (.uc (.ub q (.st (bc ..) (.lg ⟨_,rfl⟩)))))))))))))))))))
     exact .bb (.cr (.u4 (.u4 (.u4 (.uc (.tq q (.lg ⟨_,rfl⟩)))))))
    rintro _ b7 ⟨b0,rfl⟩
    refine .uc (.uc (.s (bA (!b7)) (.bX ?_ ?_)))
    ·exact .ex (h _ _ _ _ _ _ _ _ _ _ _)
    refine .st (aJ ..) (.st (v:=[bx (al b)]) (fa r7 u2) (.cT ((by kernel_rfl:_=(bif bk 1 (d.map ak) then true else false)).trans s0) ?_))
    exact ih _
   refine .s (bA (!a.2)) (.bX ?_ ?_)
   ·exact .ex (h _ _ _ _ _ _ _ _ _ _ _)
   refine .st (aJ ..) (.st (v:=[bx (al b)]) (fa r7 u2) (.cT ((by kernel_rfl:_=(bif bk 1 (d.map ak) then true else false)).trans s0) ?_))
   exact ih _
  exact .ex (x1 _ _ _ _ _ _ _)
def NM (n:Nat) (a:aw):Option Int:=
 (zU ((a.Ears.length:Int)) 1 12).bind fun b=>(bif (!b) then (some true) else ((zU a.Bar 0 4096).bind fun c=>some (!c))).bind fun d=>(bif d then (some true) else ((IL a.Net).bind fun e=>some (e != 0))).bind fun f=>bif f then (some 490) else ((kK n 0 ((a.Ears.length:Int)) a.Ears ((a.Ears.length:Int)) a (n+8) 0).bind fun g=>match g with | (Sum.inl h)=>some h | (Sum.inr _)=>(iT n 0 ((a.Ears.length:Int)) a.Net.Queue ((a.Net.Queue.length:Int)) a (n+8) 0).bind fun i=>match i with | (Sum.inl j)=>some j | (Sum.inr _)=>some 0)
theorem Va (C:OT) (n:Nat) (b:q8 C) (o:zY C) (p:tV C) (q:zZ C) (r:Cr C) (a:aw):TJ C n 20 [(ag (al a))] (NM n a) (fun y=>(iA y)):=by
 refine .lp (V9 ..) ?_
 unfold NM
 refine .s ((pt 0 0),[bx (al a)]) (.s2 (im (a.Ears.map az) false) (.st (ef (e:=50)) (.bd (b ((a.Ears.length:Int)) 1 12) fun u=>.s (bA (!u)) (.bg (fun t (y:Bool)=>∃ c d f h:A,t=[(bA y),c,d,f,h]) ?_ ?_))))
 ·refine .bi ?_ ?_
  ·exact .lg ⟨_,_,_,_,rfl⟩
  exact .s (pt 0 3) (.s (iA a.Bar) (.bd (b a.Bar 0 4096) fun v=>.s (bA (!v)) (.lg ⟨_,_,_,_,rfl⟩)))
 rintro _ w ⟨c,d,f,h,rfl⟩
 refine .u4 (.uc (.bg (fun t (y:Bool)=>∃ i j k l:A,t=[(bA y),i,j,k,l]) ?_ ?_))
 ·refine .bi ?_ ?_
  ·exact .lg ⟨_,_,_,_,rfl⟩
  exact .s (pt 0 0) (.s (ag [(im (a.Net.Queue.map ak) false),(im (a.Net.Apart.map aq) false)]) (.bd (g:=fun (y:Int)=>(iA y)) (by simp only[bR,cY]; exact q a.Net) fun x=>.st (aG ..) (.lg ⟨_,_,_,_,rfl⟩)))
 rintro _ z ⟨i,j,k,l,rfl⟩
 refine .u4 (.uc (.bX ?_ ?_))
 ·exact .lv rfl
 refine .s2 (im (a.Ears.map az) false) (.st (ef (e:=50)) (.as (CD C n _ _ _ _ r 0 ((a.Ears.length:Int)) a.Ears ((a.Ears.length:Int)) a ?_ ?_ _ 0)))
 ·intro a1 a2 a3 a4 a5 a6 w114 w115
  exact .un rfl (.lv rfl)
 ·intro a7 a8 a9
  refine .un rfl (.cT r7 (.s (pt 0 0) (.s2 (im (a.Net.Queue.map ak) false) (.st (ef (e:=68)) (.as (CE C n _ _ _ _ b o p 0 ((a.Ears.length:Int)) a.Net.Queue ((a.Net.Queue.length:Int)) a ?_ ?_ _ 0))))))
  ·intro aa ab ad ae af ah w354 w355 w356 w357 w358
   exact .un rfl (.lv rfl)
  ·intro ai aj am an ao ap w365
   exact .un rfl (.cT r7 (.lv rfl))
def EV (a:aw):Option Int:=NM aE a
def tU (C:OT):Prop:=∀ (a:aw),C 20 [(ag (al a))]=(EV a).map fun y=>(iA y)
def u0 (C:OT) (self:au->Option (Int×Bool)):Prop:=∀ (a:au),C 110 [(ag (ar a))]=(self a).map fun y=>(tp [(iA y.1),(bA y.2)])
def gB (self:au->Option (Int×Bool)) (n:Nat) (f:Bool) (d:(List au)) (e:Int) (g:au) (h:Bool) (i:Bool) (j:Bool) (k:Bool):Nat->Int->Int->Option ((Int×Bool)⊕(Int))
 | 0,_,_=>none
 | m+1,a,b=>bif (decide (b<e)) then ((bL d b).bind fun l=>(self l).bind fun c=>bif (!c.2) then (some ((Sum.inl ((0,false))))) else (gB self n f d e g h i j k m ((if a<c.1 then c.1 else a)) (wr .i64 (b+1)))) else (some ((Sum.inr a)))
theorem yx (self:au->Option (Int×Bool)) (hS:u0 C self) (t:Bool) (l:(List au)) (u:Int) (f:au) (h:Bool) (i:Bool) (j:Bool) (k:Bool) {K:((Int×Bool)⊕(Int))->Option γ} (x:∀ (a:Int) (w:Bool) (o:A) (p:A) (q:A) (q0:aO) (q1:aO) (q2:aO),J φ (kr (St.mk [(2,(iA a)),(3,(bA w)),(55,o),(56,p),(57,q)] [q0,q1,q2])) kL (K (Sum.inl ((a,w)))) some) (z:∀ (a:Int) (s3:A) (o:A) (p:A) (q:A) (q0:aO) (q1:aO),J φ (kx 0 (St.mk [(2,(iA a)),(3,s3),(55,o),(56,p),(57,q)] [q0,q1])) kL (K (Sum.inr a)) some) :
  ∀ (m:Nat) (b:Int) (r:Int),J φ (aN (cx C) (ec C n 8) (ey C n 8) (n+8) 110 0 0 2 kx kg kr kp m (St.mk [(2,(iA b)),(3,(bA t)),(55,(im (l.map ax) false)),(56,(iA u)),(57,(iA r))] [bx (ar f),bx [(bA h),(bA i),(bA j),(bA k)]])) kL (gB self n t l u f h i j k m b r) K:=by
  refine nI (fun _ _=>.nn) fun m ih b r=>.lp (Jf ..) ?_
  unfold gB
  refine .st (aY ..) (.bX ?_ ?_)
  ·refine .bd ((eP (e:=108) (es:=4)).trans (er _)) fun c=>.s (ag (ar c)) (.sq (pt 2 0) (.s [bx (ar f),bx [(bA h),(bA i),(bA j),(bA k)],bx (ar c)] (.s (ag (ar c)) (.bd (g:=fun (y:(Int×Bool))=>(tp [(iA y.1),(bA y.2)])) (by show C 110 [snap _ (ag (ar c))]=_; simp only[bR,cY]; exact hS c) fun d=>.s (iA d.1) (.s (bA d.2) (.s (bA (!d.2)) (.bX ?_ ?_)))))))
   ·exact .ex (x _ _ _ _ _ _ _ _)
   refine .s (iA ((if b<d.1 then d.1 else b))) (.st (aJ ..) (.st (v:=[bx (ar f),bx [(bA h),(bA i),(bA j),(bA k)]]) (fa r7 u2) (.cT ((by kernel_rfl:_=(bif bk 2 (l.map ax) then true else false)).trans s0) ?_)))
   exact ih _ _
  exact .ex (z _ _ _ _ _ _ _)
def B1 (self:au->Option (Int×Bool)) (n:Nat) (a:au):Option (Int×Bool):=
 (bif (jf a.S ((ByteArray.mk #[]))) then (some (((a.L.length:Int))==0)) else (some false)).bind fun b=>(bif (a.N==0) then (some (((a.L.length:Int))==0)) else (some false)).bind fun c=>(bif (a.N==0) then (some (jf a.S ((ByteArray.mk #[])))) else (some false)).bind fun d=>(bif (decide (a.Kind<1)) then (some true) else (some (decide (3<a.Kind)))).bind fun e=>(bif e then (some true) else (bif decide (a.Kind=0) then (some true) else bif decide (a.Kind=1) then (some (!b)) else bif decide (a.Kind=2) then (some (!c)) else bif decide (a.Kind=3) then (some (!d)) else none)).bind fun f=>bif f then (some ((0,false))) else (bif (decide (a.Kind<3)) then (some ((0,true))) else ((gB self n false a.L ((a.L.length:Int)) a false b c d (n+8) 0 0).bind fun g=>match g with | (Sum.inl ((h,i)))=>some ((h,i)) | (Sum.inr j)=>some ((wr .i64 (j+1),true))))
theorem Qh (C:OT) (n:Nat) (self:au->Option (Int×Bool)) (hS:u0 C self) (a:au):TJ C n 110 [(ag (ar a))] (B1 self n a) (fun y=>(tp [(iA y.1),(bA y.2)])):=by
 refine .lp (QC ..) ?_
 unfold B1
 refine .s ((pt 0 0),[bx (ar a)]) (.s2 (sA a.S) (.st (jL ..) (.bg (fun t (y:Bool)=>∃ f g h i:A,t=[(bA y),f,g,h,i]) ?_ ?_)))
 ·refine .bi ?_ ?_
  ·exact .s (pt 0 3) (.s (im (a.L.map ax) false) (.st (ef (e:=108)) (.st (bc ..) (.lg ⟨_,_,_,_,rfl⟩))))
  exact .lg ⟨_,_,_,_,rfl⟩
 rintro _ b ⟨f,g,h,i,rfl⟩
 refine .u4 (.uc (.s2 (iA a.N) (.st (bc ..) (.bg (fun t (y:Bool)=>∃ j k l o:A,t=[(bA y),j,k,l,o]) ?_ ?_))))
 ·refine .bi ?_ ?_
  ·exact .s (pt 0 3) (.s (im (a.L.map ax) false) (.st (ef (e:=108)) (.st (bc ..) (.lg ⟨_,_,_,_,rfl⟩))))
  exact .lg ⟨_,_,_,_,rfl⟩
 rintro _ c ⟨j,k,l,o,rfl⟩
 refine .u4 (.uc (.s2 (iA a.N) (.st (bc ..) (.bg (fun t (y:Bool)=>∃ p q r:A,t=[(bA y),p,q,r]) ?_ ?_))))
 ·refine .bi ?_ ?_
  ·exact .s (pt 0 2) (.s (sA a.S) (.st (jL ..) (.lg ⟨_,_,_,rfl⟩)))
  exact .lg ⟨_,_,_,rfl⟩
 rintro _ d ⟨p,q,r,rfl⟩
 refine .u4 (.s (ag [(bA false),(bA b),(bA c),(bA d)]) (.sq (pt 1 0) (.s [bx (ar a),bx [(bA false),(bA b),(bA c),(bA d)]] (.s2 (iA a.Kind) (.st (aY ..) (.bg (fun t (y:Bool)=>∃ u w x:A,t=[(bA y),u,w,x]) ?_ ?_))))))
 ·refine .bi ?_ ?_
  ·exact .lg ⟨_,_,_,rfl⟩
  exact .s (pt 0 0) (.s (iA a.Kind) (.st (da ..) (.lg ⟨_,_,_,rfl⟩)))
 rintro _ a9 ⟨u,w,x,rfl⟩
 refine .u4 (.bg (fun t (y:Bool)=>∃ z a1 a2 a3 a4:A,t=[(bA y),z,a1,a2,a3,a4]) ?_ ?_)
 ·refine .bi ?_ ?_
  ·exact .lg ⟨_,_,_,_,_,rfl⟩
  refine .s (pt 0 0) (.s (iA a.Kind) (.sp (fun a5=>?_) (fun _=>?_)))
  ·exact .st (v:=(pt 1 0)) (by rw[XY a5]; kernel_rfl) (.s (bA false) (.s (bA true) (.lg ⟨_,_,_,_,_,rfl⟩)))
  refine .sp (fun a6=>?_) (fun _=>?_)
  ·exact .st (v:=(pt 1 1)) (by rw[XY a6]; kernel_rfl) (.s (bA b) (.s (bA (!b)) (.lg ⟨_,_,_,_,_,rfl⟩)))
  refine .sp (fun a7=>?_) (fun _=>?_)
  ·exact .st (v:=(pt 1 2)) (by rw[XY a7]; kernel_rfl) (.s (bA c) (.s (bA (!c)) (.lg ⟨_,_,_,_,_,rfl⟩)))
  refine .sp (fun a8=>?_) (fun _=>?_)
  ·exact .st (v:=(pt 1 3)) (by rw[XY a8]; kernel_rfl) (.s (bA d) (.s (bA (!d)) (.lg ⟨_,_,_,_,_,rfl⟩)))
  exact .nn
 rintro _ aa ⟨z,a1,a2,a3,a4,rfl⟩
 refine .u4 (.uc (.uc (.bX ?_ ?_)))
 ·exact .lv rfl
 refine .s2 (iA a.Kind) (.st (aY ..) (.bX ?_ ?_))
 ·exact .lv rfl
 refine .s2 (im (a.L.map ax) false) (.st (ef (e:=108)) (.as (yx C n _ _ _ _ self hS false a.L ((a.L.length:Int)) a false b c d ?_ ?_ _ 0 0)))
 ·intro ab ad ae af ah w128 w129 w130
  exact .un rfl (.lv rfl)
 ·intro ai aj ak al am w136 w137
  exact .un rfl (.cT r7 (.st (aJ ..) (.lv rfl)))
def wE:Nat->au->Option (Int×Bool)
 | 0=>fun _=>none
 | q+1=>fun a0=>B1 (wE q) aE a0
def II (a:au):Option (Int×Bool):=wE aE a
def Cf (C:OT):Prop:=∀ (a:au),C 110 [(ag (ar a))]=(II a).map fun y=>(tp [(iA y.1),(bA y.2)])
def P9 (n:Nat) (b:au):Option Int:=
 (II b).bind fun a=>bif (!a.2) then (some 1) else (bif (decide (16<a.1)) then (some 2) else (some 0))
theorem VX (C:OT) (n:Nat) (c:Cf C) (a:au):TJ C n 97 [(ag (ar a))] (P9 n a) (fun y=>(iA y)):=by
 refine .lp (W4 ..) ?_
 unfold P9
 refine .s ((pt 0 0),[bx (ar a)]) (.s (ag (ar a)) (.bd (g:=fun (y:(Int×Bool))=>(tp [(iA y.1),(bA y.2)])) (by simp only[bR,cY]; exact c a) fun b=>.s (iA b.1) (.s (bA b.2) (.s (bA (!b.2)) (.bX ?_ ?_)))))
 ·exact .lv rfl
 refine .st (da ..) (.bX ?_ ?_)
 ·exact .lv rfl
 exact .lv rfl
def Qc (a:au):Option Int:=P9 aE a
def HP (C:OT):Prop:=∀ (a:au),C 97 [(ag (ar a))]=(Qc a).map fun y=>(iA y)
def E1 (n:Nat) (a:Int):Option Int:=
 some (qN .u64 (oK .u64 (wr .u64 (a)) 1) (wr .u64 (jB .i64 a 63)))
theorem Qi (C:OT) (n:Nat) (a:Int):TJ C n 113 [(iA a)] (E1 n a) (fun y=>(A.v (.int .u64 y))):=by
 refine .lp (QD ..) ?_
 unfold E1
 exact .st (v:=(A.v (.int .u64 (wr .u64 (a))))) (aQ (hs:=by kernel_rfl) (hd:=by kernel_rfl) ..) (.st (rh (hb:=by decide) ..) (.st (jM (hb:=by decide) ..) (.st (v:=(A.v (.int .u64 (wr .u64 (jB .i64 a 63))))) (aQ (hs:=by kernel_rfl) (hd:=by kernel_rfl) ..) (.st (nN ..) (.lv rfl)))))
def yv (a:Int):Option Int:=E1 aE a
def pN (C:OT):Prop:=∀ (a:Int),C 113 [(iA a)]=(yv a).map fun y=>(A.v (.int .u64 y))
def aZ:aO:=bx [(A.v Value.nilFunc),(tz 111 [] []),(tz 114 [] []),(tz 115 [] [(pt 2 0)])]
def Cb (C:OT) (N:Nat) (self:au->au->(List UInt8)->au->Option (List UInt8)):Prop:=∀ (a:au) (b:au) (a2:(List UInt8)) (c:au) (X:aC),J (fun (o:R) (y:(List UInt8))=>o=(Out.ret (bW 4 0 y.length false),[bx (ar a),aZ,bx [(pt 1 0)],bx (ar b),aO.row false 1 (y.map c8)]++X)) (dZ (cx C) N 115 [(bW 4 0 a2.length false),(ag (ar c)),(pt 2 0)] ([bx (ar a),aZ,bx [(pt 1 0)],bx (ar b),aO.row false 1 (a2.map c8)]++X) 0) some (self a b a2 c) some
def iR (n:Nat):Nat->Int->(List UInt8)->Option (Int×(List UInt8))
 | 0,_,_=>none
 | m+1,a,b=>bif (decide (128<=a)) then (bif (decide (0<=(mJ .u8 (wr .u8 (a)) 128))&&decide ((mJ .u8 (wr .u8 (a)) 128)<256)) then ((cz 1 b ([(UInt8.ofNat (Int.toNat (mJ .u8 (wr .u8 (a)) 128)))])).bind fun c=>iR n m (jB .u64 a 7) c) else none) else (some ((a,b)))
theorem wJ {w44:A} {w45 w46 w47 w48 w49:aO} {K:(Int×(List UInt8))->Option γ} (h:∀ (e:Int) (d:(List UInt8)) (i:A),J φ (kx 0 (St.mk [(0,(bW 4 0 d.length false)),(1,(A.v (.int .u64 e))),(4,i)] [w45,w46,w47,w48,aO.row false 1 (d.map c8),w49])) kL (K (e,d)) some) :
  ∀ (m:Nat) (a:Int) (c:(List UInt8)),J φ (aN (cx C) (ec C n 7) (ey C n 7) (n+7) 112 0 0 6 kx kg kr kp m (St.mk [(0,(bW 4 0 c.length false)),(1,(A.v (.int .u64 a))),(4,w44)] [w45,w46,w47,w48,aO.row false 1 (c.map c8),w49])) kL (iR n  m a c) K:=by
  refine nI (fun _ _=>.nn) fun m ih a c=>.lp (vx ..) ?_
  unfold iR
  refine .st (c9 ..) (.bX ?_ ?_)
  ·refine .st (v:=(uA (wr .u8 (a)))) (aQ (hs:=by kernel_rfl) (hd:=by kernel_rfl) ..) (.st (gV ..) (.gd fun hg=>.st (v:=(im [[(uA (((UInt8.ofNat (Int.toNat (mJ .u8 (wr .u8 (a)) 128))).toNat:Int)))]] true)) (by rw[fA hg]; kernel_rfl) (.bd (g:=fun (y:List UInt8)=>((bW 4 0 y.length false),[w45,w46,w47,w48,aO.row false 1 (y.map c8),w49])) (cj cX (l:=c) (l2:=[(UInt8.ofNat (Int.toNat (mJ .u8 (wr .u8 (a)) 128)))]) (b:=4) rfl (by decide) (bC (f:=c8) ([(UInt8.ofNat (Int.toNat (mJ .u8 (wr .u8 (a)) 128)))]:List UInt8) _ _)) fun j=>.st (jM (hb:=by decide) ..) (.s [w45,w46,w47,w48,aO.row false 1 (j.map c8),w49] (.cT r7 ?_)))))
   exact ih _ _
  exact .ex (h _ _ _)
def fb (n:Nat):Nat->Int->(List UInt8)->Option (Int×(List UInt8))
 | 0,_,_=>none
 | m+1,a,b=>bif (decide (128<=a)) then (bif (decide (0<=(mJ .u8 (wr .u8 (a)) 128))&&decide ((mJ .u8 (wr .u8 (a)) 128)<256)) then ((cz 1 b ([(UInt8.ofNat (Int.toNat (mJ .u8 (wr .u8 (a)) 128)))])).bind fun c=>fb n m (jB .u64 a 7) c) else none) else (some ((a,b)))
theorem oP {w1301:A} {w1302 w1303 w1304 w1305 w1306 w1307 w1308:aO} {K:(Int×(List UInt8))->Option γ} (h:∀ (e:Int) (d:(List UInt8)) (i:A),J φ (kx 0 (St.mk [(0,(bW 4 0 d.length false)),(1,(A.v (.int .u64 e))),(4,i)] [w1302,w1303,w1304,w1305,aO.row false 1 (d.map c8),w1306,w1307,w1308])) kL (K (e,d)) some) :
  ∀ (m:Nat) (a:Int) (c:(List UInt8)),J φ (aN (cx C) (dZ (cx C) (n+6)) (bF (cx C) (n+6)) (n+6) 112 0 0 8 kx kg kr kp m (St.mk [(0,(bW 4 0 c.length false)),(1,(A.v (.int .u64 a))),(4,w1301)] [w1302,w1303,w1304,w1305,aO.row false 1 (c.map c8),w1306,w1307,w1308])) kL (fb n  m a c) K:=by
  refine nI (fun _ _=>.nn) fun m ih a c=>.lp (vx ..) ?_
  unfold fb
  refine .st (c9 ..) (.bX ?_ ?_)
  ·refine .st (v:=(uA (wr .u8 (a)))) (aQ (hs:=by kernel_rfl) (hd:=by kernel_rfl) ..) (.st (gV ..) (.gd fun hg=>.st (v:=(im [[(uA (((UInt8.ofNat (Int.toNat (mJ .u8 (wr .u8 (a)) 128))).toNat:Int)))]] true)) (by rw[fA hg]; kernel_rfl) (.bd (g:=fun (y:List UInt8)=>((bW 4 0 y.length false),[w1302,w1303,w1304,w1305,aO.row false 1 (y.map c8),w1306,w1307,w1308])) (cj cX (l:=c) (l2:=[(UInt8.ofNat (Int.toNat (mJ .u8 (wr .u8 (a)) 128)))]) (b:=4) rfl (by decide) (bC (f:=c8) ([(UInt8.ofNat (Int.toNat (mJ .u8 (wr .u8 (a)) 128)))]:List UInt8) _ _)) fun j=>.st (jM (hb:=by decide) ..) (.s [w1302,w1303,w1304,w1305,aO.row false 1 (j.map c8),w1306,w1307,w1308] (.cT r7 ?_)))))
   exact ih _ _
  exact .ex (h _ _ _)
def eI (self:au->au->(List UInt8)->au->Option (List UInt8)) (n:Nat) (h:(List UInt8)) (c:(List au)) (d:Int) (e:au) (f:au) (i:au):Nat->Int->(List UInt8)->Option ((List UInt8))
 | 0,_,_=>none
 | m+1,b,g=>bif (decide (b<d)) then ((bL c b).bind fun a=>bif decide (a.Kind=0) then (none) else bif decide (a.Kind=1) then ((cz 1 g ([(1:UInt8)])).bind fun l=>(yv a.N).bind fun o=>(fb n  (n+6) o l).bind fun p=>match p with | (j,q)=>bif (decide (0<=(wr .u8 (j)))&&decide ((wr .u8 (j))<256)) then ((cz 1 q ([(UInt8.ofNat (Int.toNat (wr .u8 (j))))])).bind fun r=>eI self n h c d e f i m (wr .i64 (b+1)) r) else none) else bif decide (a.Kind=2) then ((cz 1 g ([(2:UInt8)])).bind fun s=>(fb n  (n+6) (wr .u64 ((a.S.size:Int))) s).bind fun t=>match t with | (k,u)=>bif (decide (0<=(wr .u8 (k)))&&decide ((wr .u8 (k))<256)) then ((cz 1 u ([(UInt8.ofNat (Int.toNat (wr .u8 (k))))])).bind fun v=>(cz 1 v (ln a.S)).bind fun w=>eI self n h c d e f i m (wr .i64 (b+1)) w) else none) else bif decide (a.Kind=3) then ((self e f g a).bind fun x=>eI self n h c d e f i m (wr .i64 (b+1)) x) else none) else (some g)
theorem wK (w:pN C) (self:au->au->(List UInt8)->au->Option (List UInt8)) (hS:Cb C (n+8) self) (j:(List UInt8)) (k:(List au)) (u:Int) (c:au) (d:au) (h:au) {K:((List UInt8))->Option γ} (x:∀ (q:(List UInt8)) (s2:A) (z:A) (a0:A) (a1:A) (a2:A) (q5:aO),J φ (kx 0 (St.mk [(0,(bW 4 0 q.length false)),(2,s2),(5,z),(17,a0),(18,a1),(19,a2)] [bx (ar c),aZ,bx [(pt 1 0)],bx (ar d),aO.row false 1 (q.map c8),q5])) kL (K q) some) :
  ∀ (m:Nat) (r:Int) (i:(List UInt8)),J φ (aN (cx C) (ec C n 8) (ey C n 8) (n+8) 115 0 0 6 kx kg kr kp m (St.mk [(0,(bW 4 0 i.length false)),(2,(pt 2 0)),(5,(im (j.map c8) true)),(17,(im (k.map ax) false)),(18,(iA u)),(19,(iA r))] [bx (ar c),aZ,bx [(pt 1 0)],bx (ar d),aO.row false 1 (i.map c8),bx (ar h)])) kL (eI self n j k u c d h m r i) K:=by
  refine nI (fun _ _=>.nn) fun m ih r i=>.lp (Dp ..) ?_
  unfold eI
  refine .st (aY ..) (.bX ?_ ?_)
  ·refine .bd ((eP (e:=108) (es:=4)).trans (er _)) fun a=>.s (ag (ar a)) (.sq (pt 6 0) (.s [bx (ar c),aZ,bx [(pt 1 0)],bx (ar d),aO.row false 1 (i.map c8),bx (ar h),bx (ar a)] (.s (pt 1 0) (.s2 (iA a.Kind) (.s (pt 1 0) (.sp (fun a3=>?_) (fun _=>?_)))))))
   ·exact .st (v:=(pt 1 0)) (by rw[XY a3]; kernel_rfl) (.s2 (A.v Value.nilFunc) (.s (ag (ar a)) (.nn)))
   refine .sp (fun a4=>?_) (fun _=>?_)
   ·refine .st (v:=(pt 1 1)) (by rw[XY a4]; kernel_rfl) (.s2 (tz 111 [] []) (.s (ag (ar a)) (.dC r7 r7 (.cl ((bf zr).trans (Jg ..)) (.s ((pt 7 0),[bx (ar c),aZ,bx [(pt 1 0)],bx (ar d),aO.row false 1 (i.map c8),bx (ar h),bx (ar a),bx (ar a)]) (.s (im [[(uA 1)]] true) (.bd (g:=fun (y:List UInt8)=>((bW 4 0 y.length false),[bx (ar c),aZ,bx [(pt 1 0)],bx (ar d),aO.row false 1 (y.map c8),bx (ar h),bx (ar a),bx (ar a)])) (cj cX (l:=i) (l2:=[(1:UInt8)]) (b:=4) rfl (by decide) (bC (f:=c8) ([(1:UInt8)]:List UInt8) _ _)) fun a5=>.cT r7 (.s (pt 7 1) (.cT r7 (.s (iA a.N) (.bd (w a.N) fun a6=>.cl ((bf nd).trans (xa ..)) (.as (oP C n _ _ _ _  ?_ _ a6 a5)))))))))))))
    ·intro o a7 ai
     refine .un rfl (.cT r7 (.st (v:=(uA (wr .u8 (o)))) (aQ (hs:=by kernel_rfl) (hd:=by kernel_rfl) ..) (.gd fun hg=>.st (v:=(im [[(uA (((UInt8.ofNat (Int.toNat (wr .u8 (o)))).toNat:Int)))]] true)) (by rw[fA hg]; kernel_rfl) (.bd (g:=fun (y:List UInt8)=>((bW 4 0 y.length false),[bx (ar c),aZ,bx [(pt 1 0)],bx (ar d),aO.row false 1 (y.map c8),bx (ar h),bx (ar a),bx (ar a)])) (cj cX (l:=a7) (l2:=[(UInt8.ofNat (Int.toNat (wr .u8 (o))))]) (b:=4) rfl (by decide) (bC (f:=c8) ([(UInt8.ofNat (Int.toNat (wr .u8 (o))))]:List UInt8) _ _)) fun a8=>.cr (.ok (.cr (.ok (.st (aJ ..) (.st (v:=[bx (ar c),aZ,bx [(pt 1 0)],bx (ar d),aO.row false 1 (a8.map c8),bx (ar h)]) (fa r7 XE) (.cT ((by kernel_rfl:_=(bif bk 6 (j.map c8) then (bif bk 6 (k.map ax) then true else false) else false)).trans s0) ?_))))))))))
     exact ih _ _
   refine .sp (fun a9=>?_) (fun _=>?_)
   ·refine .st (v:=(pt 1 2)) (by rw[XY a9]; kernel_rfl) (.s2 (tz 114 [] []) (.s (ag (ar a)) (.dC r7 r7 (.cl ((bf zs).trans (Jh ..)) (.s ((pt 7 0),[bx (ar c),aZ,bx [(pt 1 0)],bx (ar d),aO.row false 1 (i.map c8),bx (ar h),bx (ar a),bx (ar a)]) (.s ((A.ip (ar a)),[bx (ar c),aZ,bx [(pt 1 0)],bx (ar d),aO.row false 1 (i.map c8),bx (ar h),bx (ar a),aO.dead]) (.cT r7 (.s (im [[(uA 2)]] true) (.s (A.ip [(sA a.S),(im (a.L.map ax) false)]) (.s (sA a.S) (.s (iA ((a.S.size:Int))) (.st (v:=(A.v (.int .u64 (wr .u64 ((a.S.size:Int)))))) (aQ (hs:=by kernel_rfl) (hd:=by kernel_rfl) ..) (.s (A.ip [(sA a.S),(im (a.L.map ax) false)]) (.s (sA a.S) (.cT r7 (.bd (g:=fun (y:List UInt8)=>((bW 4 0 y.length false),[bx (ar c),aZ,bx [(pt 1 0)],bx (ar d),aO.row false 1 (y.map c8),bx (ar h),bx (ar a),aO.dead])) (cj cX (l:=i) (l2:=[(2:UInt8)]) (b:=4) rfl (by decide) (bC (f:=c8) ([(2:UInt8)]:List UInt8) _ _)) fun aa=>.cT r7 (.cl ((bf nd).trans (xa ..)) (.as (oP C n _ _ _ _  ?_ _ (wr .u64 ((a.S.size:Int))) aa)))))))))))))))))))
    ·intro p ab aj
     refine .un rfl (.cT r7 (.st (v:=(uA (wr .u8 (p)))) (aQ (hs:=by kernel_rfl) (hd:=by kernel_rfl) ..) (.gd fun hg=>.st (v:=(im [[(uA (((UInt8.ofNat (Int.toNat (wr .u8 (p)))).toNat:Int)))]] true)) (by rw[fA hg]; kernel_rfl) (.bd (g:=fun (y:List UInt8)=>((bW 4 0 y.length false),[bx (ar c),aZ,bx [(pt 1 0)],bx (ar d),aO.row false 1 (y.map c8),bx (ar h),bx (ar a),aO.dead])) (cj cX (l:=ab) (l2:=[(UInt8.ofNat (Int.toNat (wr .u8 (p))))]) (b:=4) rfl (by decide) (bC (f:=c8) ([(UInt8.ofNat (Int.toNat (wr .u8 (p))))]:List UInt8) _ _)) fun ad=>.cr (.ok (.bd (g:=fun (y:List UInt8)=>((bW 4 0 y.length false),[bx (ar c),aZ,bx [(pt 1 0)],bx (ar d),aO.row false 1 (y.map c8),bx (ar h),bx (ar a),aO.dead])) (cj vl (l:=ad) (l2:=ln a.S) (b:=4) rfl (by decide) (qQ ..)) fun ae=>.cr (.ok (.st (aJ ..) (.st (v:=[bx (ar c),aZ,bx [(pt 1 0)],bx (ar d),aO.row false 1 (ae.map c8),bx (ar h)]) (fa r7 XE) (.cT ((by kernel_rfl:_=(bif bk 6 (j.map c8) then (bif bk 6 (k.map ax) then true else false) else false)).trans s0) ?_))))))))))
     exact ih _ _
   refine .sp (fun af=>?_) (fun _=>?_)
   ·refine .st (v:=(pt 1 3)) (by rw[XY af]; kernel_rfl) (.s2 (tz 115 [] [(pt 2 0)]) (.s (ag (ar a)) (.dC r7 r7 (.bg (fun (t:R) (y:(List UInt8))=>t=(Out.ret (bW 4 0 y.length false),[bx (ar c),aZ,bx [(pt 1 0)],bx (ar d),aO.row false 1 (y.map c8),bx (ar h),bx (ar a)])) (hS c d i a [bx (ar h),bx (ar a)]) ?_))))
    rintro _ ah rfl
    refine .ok (.st (aJ ..) (.st (v:=[bx (ar c),aZ,bx [(pt 1 0)],bx (ar d),aO.row false 1 (ah.map c8),bx (ar h)]) (fa r7 XE) (.cT ((by kernel_rfl:_=(bif bk 6 (j.map c8) then (bif bk 6 (k.map ax) then true else false) else false)).trans s0) ?_)))
    exact ih _ _
   exact .nn
  exact .ex (x _ _ _ _ _ _ _)
def tQ (self:au->au->(List UInt8)->au->Option (List UInt8)) (n:Nat) (c:au) (d:au) (a2:(List UInt8)) (a:au):Option (List UInt8):=
 (cz 1 a2 ([(3:UInt8)])).bind fun e=>(iR n  (n+7) (wr .u64 ((a.L.length:Int))) e).bind fun OK=>match OK with | (b,f)=>bif (decide (0<=(wr .u8 (b)))&&decide ((wr .u8 (b))<256)) then ((cz 1 f ([(UInt8.ofNat (Int.toNat (wr .u8 (b))))])).bind fun g=>(eI self n ([]) a.L ((a.L.length:Int)) c d a (n+8) 0 g).bind fun h=>match h with | i=>some i) else none
theorem Lc (C:OT) (n:Nat) (i:pN C) (self:au->au->(List UInt8)->au->Option (List UInt8)) (hS:Cb C (n+8) self) (c:au) (d:au) (a2:(List UInt8)) (a:au):J (fun (o:R) (y:(List UInt8))=>∃ Z,o=(Out.ret (bW 4 0 y.length false),[bx (ar c),aZ,bx [(pt 1 0)],bx (ar d),aO.row false 1 (y.map c8)]++Z)) (aF (cx C) (ec C n 8) (ey C n 8) (n+8) 115 [(bW 4 0 a2.length false),(ag (ar a)),(pt 2 0)] [bx (ar c),aZ,bx [(pt 1 0)],bx (ar d),aO.row false 1 (a2.map c8)] 0) some (tQ self n c d a2 a) some:=by
 refine .lp (Lo ..) ?_
 unfold tQ
 refine .s ((pt 5 0),[bx (ar c),aZ,bx [(pt 1 0)],bx (ar d),aO.row false 1 (a2.map c8),bx (ar a)]) (.s (im [[(uA 3)]] true) (.bd (g:=fun (y:List UInt8)=>((bW 4 0 y.length false),[bx (ar c),aZ,bx [(pt 1 0)],bx (ar d),aO.row false 1 (y.map c8),bx (ar a)])) (cj cX (l:=a2) (l2:=[(3:UInt8)]) (b:=4) rfl (by decide) (bC (f:=c8) ([(3:UInt8)]:List UInt8) _ _)) fun j=>.cT r7 (.s (pt 5 3) (.cT r7 (.s (im (a.L.map ax) false) (.cT r7 (.st (ef (e:=108)) (.cT r7 (.st (v:=(A.v (.int .u64 (wr .u64 ((a.L.length:Int)))))) (aQ (hs:=by kernel_rfl) (hd:=by kernel_rfl) ..) (.cl ((bf nd).trans (xa ..)) (.as (wJ C n _ _ _ _  ?_ _ (wr .u64 ((a.L.length:Int))) j))))))))))))
 ·intro h k q
  refine .un rfl (.cT r7 (.st (v:=(uA (wr .u8 (h)))) (aQ (hs:=by kernel_rfl) (hd:=by kernel_rfl) ..) (.gd fun hg=>.st (v:=(im [[(uA (((UInt8.ofNat (Int.toNat (wr .u8 (h)))).toNat:Int)))]] true)) (by rw[fA hg]; kernel_rfl) (.bd (g:=fun (y:List UInt8)=>((bW 4 0 y.length false),[bx (ar c),aZ,bx [(pt 1 0)],bx (ar d),aO.row false 1 (y.map c8),bx (ar a)])) (cj cX (l:=k) (l2:=[(UInt8.ofNat (Int.toNat (wr .u8 (h))))]) (b:=4) rfl (by decide) (bC (f:=c8) ([(UInt8.ofNat (Int.toNat (wr .u8 (h))))]:List UInt8) _ _)) fun p=>.cr (.ok (.s2 (im (a.L.map ax) false) (.st (ef (e:=108)) (.as (wK C n _ _ _ _ i self hS ([]) a.L ((a.L.length:Int)) c d a ?_ _ 0 p)))))))))
  ·intro r t u w x z w1400
   exact .un rfl (.cT r7 (.lf rfl rfl ⟨[w1400],rfl⟩))
def wO:Nat->au->au->(List UInt8)->au->Option (List UInt8)
 | 0=>fun _ _ _ _=>none
 | N+1=>fun a0 a1 a2 a3=>bif Nat.ble 8 N then tQ (wO N) (N - 8) a0 a1 a2 a3 else none
theorem Ho (C:OT) (d:pN C):∀ N,Cb C N (wO N)
 | 0=>fun _ _ _ _ X r h=>by cases h
 | N+1=>fun a b a2 c X=>by
  show J _ _ _ (bif Nat.ble 8 N then tQ (wO N) (N - 8) a b a2 c else none) _
  cases h:Nat.ble 8 N with
  | false=>exact fun r h=>by cases h
  | true=>
   obtain ⟨n,rfl⟩:∃ n,N=n+8:=⟨N - 8,by have:=Yp h; omega⟩
   rw[qao]
   exact Dm (m:=5) r7 r7 (by decide) rfl ((by kernel_rfl:_=((((bk 5 (c.L.map ax))&&true))&&true)).trans s0) ((by kernel_rfl:_=((((bk 5 (a.L.map ax))&&true))&&((((bk 5 (b.L.map ax))&&true))&&((bk 5 (a2.map c8))&&true)))).trans s0) (fun _=>rfl) (fun y=>r7) (fun y=>((by kernel_rfl:_=((((bk 5 (a.L.map ax))&&true))&&((((bk 5 (b.L.map ax))&&true))&&((bk 5 (y.map c8))&&true)))).trans s0)) (Lc C n d (wO (n+8)) (Ho C d (n+8)) a b a2 c)
def jC (n:Nat):Nat->Int->(List UInt8)->Option (Int×(List UInt8))
 | 0,_,_=>none
 | m+1,a,b=>bif (decide (128<=a)) then (bif (decide (0<=(mJ .u8 (wr .u8 (a)) 128))&&decide ((mJ .u8 (wr .u8 (a)) 128)<256)) then ((cz 1 b ([(UInt8.ofNat (Int.toNat (mJ .u8 (wr .u8 (a)) 128)))])).bind fun c=>jC n m (jB .u64 a 7) c) else none) else (some ((a,b)))
theorem pP {w75:A} {w76 w77 w78 w79:aO} {K:(Int×(List UInt8))->Option γ} (h:∀ (e:Int) (d:(List UInt8)) (i:A),J φ (kx 0 (St.mk [(0,(bW 4 0 d.length false)),(1,(A.v (.int .u64 e))),(4,i)] [w76,w77,w78,w79,aO.row false 1 (d.map c8)])) kL (K (e,d)) some) :
  ∀ (m:Nat) (a:Int) (c:(List UInt8)),J φ (aN (cx C) (dZ (cx C) (n+6)) (bF (cx C) (n+6)) (n+6) 112 0 0 5 kx kg kr kp m (St.mk [(0,(bW 4 0 c.length false)),(1,(A.v (.int .u64 a))),(4,w75)] [w76,w77,w78,w79,aO.row false 1 (c.map c8)])) kL (jC n  m a c) K:=by
  refine nI (fun _ _=>.nn) fun m ih a c=>.lp (vx ..) ?_
  unfold jC
  refine .st (c9 ..) (.bX ?_ ?_)
  ·refine .st (v:=(uA (wr .u8 (a)))) (aQ (hs:=by kernel_rfl) (hd:=by kernel_rfl) ..) (.st (gV ..) (.gd fun hg=>.st (v:=(im [[(uA (((UInt8.ofNat (Int.toNat (mJ .u8 (wr .u8 (a)) 128))).toNat:Int)))]] true)) (by rw[fA hg]; kernel_rfl) (.bd (g:=fun (y:List UInt8)=>((bW 4 0 y.length false),[w76,w77,w78,w79,aO.row false 1 (y.map c8)])) (cj cX (l:=c) (l2:=[(UInt8.ofNat (Int.toNat (mJ .u8 (wr .u8 (a)) 128)))]) (b:=4) rfl (by decide) (bC (f:=c8) ([(UInt8.ofNat (Int.toNat (mJ .u8 (wr .u8 (a)) 128)))]:List UInt8) _ _)) fun j=>.st (jM (hb:=by decide) ..) (.s [w76,w77,w78,w79,aO.row false 1 (j.map c8)] (.cT r7 ?_)))))
   exact ih _ _
  exact .ex (h _ _ _)
def jI (n:Nat):Nat->Int->(List UInt8)->Option (Int×(List UInt8))
 | 0,_,_=>none
 | m+1,a,b=>bif (decide (128<=a)) then (bif (decide (0<=(mJ .u8 (wr .u8 (a)) 128))&&decide ((mJ .u8 (wr .u8 (a)) 128)<256)) then ((cz 1 b ([(UInt8.ofNat (Int.toNat (mJ .u8 (wr .u8 (a)) 128)))])).bind fun c=>jI n m (jB .u64 a 7) c) else none) else (some ((a,b)))
theorem q9 {w865:A} {w866 w867 w868 w869 w870 w871:aO} {K:(Int×(List UInt8))->Option γ} (h:∀ (e:Int) (d:(List UInt8)) (i:A),J φ (kx 0 (St.mk [(0,(bW 4 0 d.length false)),(1,(A.v (.int .u64 e))),(4,i)] [w866,w867,w868,w869,aO.row false 1 (d.map c8),w870,w871])) kL (K (e,d)) some) :
  ∀ (m:Nat) (a:Int) (c:(List UInt8)),J φ (aN (cx C) (dZ (cx C) (n+5)) (bF (cx C) (n+5)) (n+5) 112 0 0 7 kx kg kr kp m (St.mk [(0,(bW 4 0 c.length false)),(1,(A.v (.int .u64 a))),(4,w865)] [w866,w867,w868,w869,aO.row false 1 (c.map c8),w870,w871])) kL (jI n  m a c) K:=by
  refine nI (fun _ _=>.nn) fun m ih a c=>.lp (vx ..) ?_
  unfold jI
  refine .st (c9 ..) (.bX ?_ ?_)
  ·refine .st (v:=(uA (wr .u8 (a)))) (aQ (hs:=by kernel_rfl) (hd:=by kernel_rfl) ..) (.st (gV ..) (.gd fun hg=>.st (v:=(im [[(uA (((UInt8.ofNat (Int.toNat (mJ .u8 (wr .u8 (a)) 128))).toNat:Int)))]] true)) (by rw[fA hg]; kernel_rfl) (.bd (g:=fun (y:List UInt8)=>((bW 4 0 y.length false),[w866,w867,w868,w869,aO.row false 1 (y.map c8),w870,w871])) (cj cX (l:=c) (l2:=[(UInt8.ofNat (Int.toNat (mJ .u8 (wr .u8 (a)) 128)))]) (b:=4) rfl (by decide) (bC (f:=c8) ([(UInt8.ofNat (Int.toNat (mJ .u8 (wr .u8 (a)) 128)))]:List UInt8) _ _)) fun j=>.st (jM (hb:=by decide) ..) (.s [w866,w867,w868,w869,aO.row false 1 (j.map c8),w870,w871] (.cT r7 ?_)))))
   exact ih _ _
  exact .ex (h _ _ _)
def jD (n:Nat) (h:(List UInt8)) (c:(List au)) (d:Int) (e:au) (f:au):Nat->Int->(List UInt8)->Option ((List UInt8))
 | 0,_,_=>none
 | m+1,b,g=>bif (decide (b<d)) then ((bL c b).bind fun a=>bif decide (a.Kind=0) then (none) else bif decide (a.Kind=1) then ((cz 1 g ([(1:UInt8)])).bind fun k=>(yv a.N).bind fun l=>(jI n  (n+5) l k).bind fun o=>match o with | (i,p)=>bif (decide (0<=(wr .u8 (i)))&&decide ((wr .u8 (i))<256)) then ((cz 1 p ([(UInt8.ofNat (Int.toNat (wr .u8 (i))))])).bind fun q=>jD n h c d e f m (wr .i64 (b+1)) q) else none) else bif decide (a.Kind=2) then ((cz 1 g ([(2:UInt8)])).bind fun r=>(jI n  (n+5) (wr .u64 ((a.S.size:Int))) r).bind fun s=>match s with | (j,t)=>bif (decide (0<=(wr .u8 (j)))&&decide ((wr .u8 (j))<256)) then ((cz 1 t ([(UInt8.ofNat (Int.toNat (wr .u8 (j))))])).bind fun u=>(cz 1 u (ln a.S)).bind fun v=>jD n h c d e f m (wr .i64 (b+1)) v) else none) else bif decide (a.Kind=3) then ((wO (n+7) e f g a).bind fun w=>jD n h c d e f m (wr .i64 (b+1)) w) else none) else (some g)
theorem A8 (r:pN C) (i:(List UInt8)) (j:(List au)) (u:Int) (c:au) (d:au) {K:((List UInt8))->Option γ} (w:∀ (p:(List UInt8)) (s2:A) (x:A) (z:A) (a0:A) (a1:A) (q0:aO) (q1:aO) (q2:aO) (q3:aO),J φ (kx 0 (St.mk [(0,(bW 4 0 p.length false)),(2,s2),(5,x),(17,z),(18,a0),(19,a1)] [q0,q1,q2,q3,aO.row false 1 (p.map c8)])) kL (K p) some) :
  ∀ (m:Nat) (q:Int) (h:(List UInt8)),J φ (aN (cx C) (ec C n 7) (ey C n 7) (n+7) 115 0 0 5 kx kg kr kp m (St.mk [(0,(bW 4 0 h.length false)),(2,(pt 2 0)),(5,(im (i.map c8) true)),(17,(im (j.map ax) false)),(18,(iA u)),(19,(iA q))] [bx (ar c),aZ,bx [(pt 1 0)],bx (ar d),aO.row false 1 (h.map c8)])) kL (jD n i j u c d m q h) K:=by
  refine nI (fun _ _=>.nn) fun m ih q h=>.lp (Dp ..) ?_
  unfold jD
  refine .st (aY ..) (.bX ?_ ?_)
  ·refine .bd ((eP (e:=108) (es:=4)).trans (er _)) fun a=>.s (ag (ar a)) (.sq (pt 5 0) (.s [bx (ar c),aZ,bx [(pt 1 0)],bx (ar d),aO.row false 1 (h.map c8),bx (ar a)] (.s (pt 1 0) (.s2 (iA a.Kind) (.s (pt 1 0) (.sp (fun a2=>?_) (fun _=>?_)))))))
   ·exact .st (v:=(pt 1 0)) (by rw[XY a2]; kernel_rfl) (.s2 (A.v Value.nilFunc) (.s (ag (ar a)) (.nn)))
   refine .sp (fun a3=>?_) (fun _=>?_)
   ·refine .st (v:=(pt 1 1)) (by rw[XY a3]; kernel_rfl) (.s2 (tz 111 [] []) (.s (ag (ar a)) (.dC r7 r7 (.cl ((bf zr).trans (Jg ..)) (.s ((pt 6 0),[bx (ar c),aZ,bx [(pt 1 0)],bx (ar d),aO.row false 1 (h.map c8),bx (ar a),bx (ar a)]) (.s (im [[(uA 1)]] true) (.bd (g:=fun (y:List UInt8)=>((bW 4 0 y.length false),[bx (ar c),aZ,bx [(pt 1 0)],bx (ar d),aO.row false 1 (y.map c8),bx (ar a),bx (ar a)])) (cj cX (l:=h) (l2:=[(1:UInt8)]) (b:=4) rfl (by decide) (bC (f:=c8) ([(1:UInt8)]:List UInt8) _ _)) fun a4=>.cT r7 (.s (pt 6 1) (.cT r7 (.s (iA a.N) (.bd (r a.N) fun a5=>.cl ((bf nd).trans (xa ..)) (.as (q9 C n _ _ _ _  ?_ _ a5 a4)))))))))))))
    ·intro k a6 ah
     refine .un rfl (.cT r7 (.st (v:=(uA (wr .u8 (k)))) (aQ (hs:=by kernel_rfl) (hd:=by kernel_rfl) ..) (.gd fun hg=>.st (v:=(im [[(uA (((UInt8.ofNat (Int.toNat (wr .u8 (k)))).toNat:Int)))]] true)) (by rw[fA hg]; kernel_rfl) (.bd (g:=fun (y:List UInt8)=>((bW 4 0 y.length false),[bx (ar c),aZ,bx [(pt 1 0)],bx (ar d),aO.row false 1 (y.map c8),bx (ar a),bx (ar a)])) (cj cX (l:=a6) (l2:=[(UInt8.ofNat (Int.toNat (wr .u8 (k))))]) (b:=4) rfl (by decide) (bC (f:=c8) ([(UInt8.ofNat (Int.toNat (wr .u8 (k))))]:List UInt8) _ _)) fun a7=>.cr (.ok (.cr (.ok (.st (aJ ..) (.st (v:=[bx (ar c),aZ,bx [(pt 1 0)],bx (ar d),aO.row false 1 (a7.map c8)]) (fa r7 XE) (.cT ((by kernel_rfl:_=(bif bk 5 (i.map c8) then (bif bk 5 (j.map ax) then true else false) else false)).trans s0) ?_))))))))))
     exact ih _ _
   refine .sp (fun a8=>?_) (fun _=>?_)
   ·refine .st (v:=(pt 1 2)) (by rw[XY a8]; kernel_rfl) (.s2 (tz 114 [] []) (.s (ag (ar a)) (.dC r7 r7 (.cl ((bf zs).trans (Jh ..)) (.s ((pt 6 0),[bx (ar c),aZ,bx [(pt 1 0)],bx (ar d),aO.row false 1 (h.map c8),bx (ar a),bx (ar a)]) (.s ((A.ip (ar a)),[bx (ar c),aZ,bx [(pt 1 0)],bx (ar d),aO.row false 1 (h.map c8),bx (ar a),aO.dead]) (.cT r7 (.s (im [[(uA 2)]] true) (.s (A.ip [(sA a.S),(im (a.L.map ax) false)]) (.s (sA a.S) (.s (iA ((a.S.size:Int))) (.st (v:=(A.v (.int .u64 (wr .u64 ((a.S.size:Int)))))) (aQ (hs:=by kernel_rfl) (hd:=by kernel_rfl) ..) (.s (A.ip [(sA a.S),(im (a.L.map ax) false)]) (.s (sA a.S) (.cT r7 (.bd (g:=fun (y:List UInt8)=>((bW 4 0 y.length false),[bx (ar c),aZ,bx [(pt 1 0)],bx (ar d),aO.row false 1 (y.map c8),bx (ar a),aO.dead])) (cj cX (l:=h) (l2:=[(2:UInt8)]) (b:=4) rfl (by decide) (bC (f:=c8) ([(2:UInt8)]:List UInt8) _ _)) fun a9=>.cT r7 (.cl ((bf nd).trans (xa ..)) (.as (q9 C n _ _ _ _  ?_ _ (wr .u64 ((a.S.size:Int))) a9)))))))))))))))))))
    ·intro o aa ai
     refine .un rfl (.cT r7 (.st (v:=(uA (wr .u8 (o)))) (aQ (hs:=by kernel_rfl) (hd:=by kernel_rfl) ..) (.gd fun hg=>.st (v:=(im [[(uA (((UInt8.ofNat (Int.toNat (wr .u8 (o)))).toNat:Int)))]] true)) (by rw[fA hg]; kernel_rfl) (.bd (g:=fun (y:List UInt8)=>((bW 4 0 y.length false),[bx (ar c),aZ,bx [(pt 1 0)],bx (ar d),aO.row false 1 (y.map c8),bx (ar a),aO.dead])) (cj cX (l:=aa) (l2:=[(UInt8.ofNat (Int.toNat (wr .u8 (o))))]) (b:=4) rfl (by decide) (bC (f:=c8) ([(UInt8.ofNat (Int.toNat (wr .u8 (o))))]:List UInt8) _ _)) fun ab=>.cr (.ok (.bd (g:=fun (y:List UInt8)=>((bW 4 0 y.length false),[bx (ar c),aZ,bx [(pt 1 0)],bx (ar d),aO.row false 1 (y.map c8),bx (ar a),aO.dead])) (cj vl (l:=ab) (l2:=ln a.S) (b:=4) rfl (by decide) (qQ ..)) fun ad=>.cr (.ok (.st (aJ ..) (.st (v:=[bx (ar c),aZ,bx [(pt 1 0)],bx (ar d),aO.row false 1 (ad.map c8)]) (fa r7 XE) (.cT ((by kernel_rfl:_=(bif bk 5 (i.map c8) then (bif bk 5 (j.map ax) then true else false) else false)).trans s0) ?_))))))))))
     exact ih _ _
   refine .sp (fun ae=>?_) (fun _=>?_)
   ·refine .st (v:=(pt 1 3)) (by rw[XY ae]; kernel_rfl) (.s2 (tz 115 [] [(pt 2 0)]) (.s (ag (ar a)) (.dC r7 r7 (.bg (fun (t:R) (y:(List UInt8))=>t=(Out.ret (bW 4 0 y.length false),[bx (ar c),aZ,bx [(pt 1 0)],bx (ar d),aO.row false 1 (y.map c8),bx (ar a)])) (Ho C r (n+7) c d h a [bx (ar a)]) ?_))))
    rintro _ af rfl
    refine .ok (.st (aJ ..) (.st (v:=[bx (ar c),aZ,bx [(pt 1 0)],bx (ar d),aO.row false 1 (af.map c8)]) (fa r7 XE) (.cT ((by kernel_rfl:_=(bif bk 5 (i.map c8) then (bif bk 5 (j.map ax) then true else false) else false)).trans s0) ?_)))
    exact ih _ _
   exact .nn
  exact .ex (w _ _ _ _ _ _ _ _ _ _)
def P8 (n:Nat) (a:au):Option ((List UInt8)×Int):=
 (Qc a).bind fun e=>bif (e != 0) then (some (([],e))) else (bif decide (a.Kind=0) then (none) else bif decide (a.Kind=1) then ((cz 1 ([]) ([(1:UInt8)])).bind fun f=>(yv a.N).bind fun g=>(jC n  (n+6) g f).bind fun OP=>match OP with | (b,h)=>bif (decide (0<=(wr .u8 (b)))&&decide ((wr .u8 (b))<256)) then ((cz 1 h ([(UInt8.ofNat (Int.toNat (wr .u8 (b))))])).bind fun i=>some ((i,0))) else none) else bif decide (a.Kind=2) then ((cz 1 ([]) ([(2:UInt8)])).bind fun j=>(jC n  (n+6) (wr .u64 ((a.S.size:Int))) j).bind fun k=>match k with | (c,l)=>bif (decide (0<=(wr .u8 (c)))&&decide ((wr .u8 (c))<256)) then ((cz 1 l ([(UInt8.ofNat (Int.toNat (wr .u8 (c))))])).bind fun o=>(cz 1 o (ln a.S)).bind fun p=>some ((p,0))) else none) else bif decide (a.Kind=3) then ((cz 1 ([]) ([(3:UInt8)])).bind fun q=>(jC n  (n+6) (wr .u64 ((a.L.length:Int))) q).bind fun r=>match r with | (d,s)=>bif (decide (0<=(wr .u8 (d)))&&decide ((wr .u8 (d))<256)) then ((cz 1 s ([(UInt8.ofNat (Int.toNat (wr .u8 (d))))])).bind fun t=>(jD n ([]) a.L ((a.L.length:Int)) a a (n+7) 0 t).bind fun u=>match u with | v=>some ((v,0))) else none) else none)
theorem VO (C:OT) (n:Nat) (o:pN C) (p:HP C) (a:au):TJ C n 81 [(ag (ar a))] (P8 n a) (fun y=>(tp [(im (y.1.map c8) false),(iA y.2)])):=by
 refine .lp (WQ ..) ?_
 unfold P8
 refine .s ((pt 0 0),[bx (ar a)]) (.s (ag (ar a)) (.bd (g:=fun (y:Int)=>(iA y)) (by simp only[bR,cY]; exact p a) fun y1=>.st (aG ..) (.bX ?_ ?_)))
 ·exact .lv so
 refine .s (pt 0 0) (.s (iA a.Kind) (.s (ag (ar a)) (.cT r7 (.cl ((bf Ma).trans (W5 ..)) (.s (ag [(A.v Value.nilFunc),(A.v Value.nilFunc),(A.v Value.nilFunc),(A.v Value.nilFunc)]) (.sq (pt 1 0) (.sq (pt 2 0) (.sh (.s (pt 1 0) (.s (pt 1 0) (.s (pt 1 1) (.s (pt 1 1) (.sh (.s (pt 1 0) (.s (pt 1 0) (.s (pt 1 2) (.s (pt 1 2) (.sh (.s (pt 1 0) (.s (pt 1 0) (.s (pt 1 3) (.s (pt 1 3) (.s [bx (ar a),aZ,bx [(pt 1 0)]] ?_)))))))))))))))))))))))
 refine .s (pt 1 0) (.cr (.ok (.s (pt 1 0) (.sp (fun q=>?_) (fun _=>?_)))))
 ·exact .st (v:=(pt 1 0)) (by rw[XY q]; kernel_rfl) (.s2 (A.v Value.nilFunc) (.nn))
 refine .sp (fun r=>?_) (fun _=>?_)
 ·refine .st (v:=(pt 1 1)) (by rw[XY r]; kernel_rfl) (.s2 (tz 111 [] []) (.dC r7 r7 (.cl ((bf zr).trans (Jg ..)) (.s ((pt 3 0),[bx (ar a),aZ,bx [(pt 1 0)],bx (ar a)]) (.s (im [[(uA 1)]] true) (.bd (g:=fun (y:List UInt8)=>((bW 4 0 y.length false),[bx (ar a),aZ,bx [(pt 1 0)],bx (ar a),aO.row false 1 (y.map c8)])) (jk cX (l:=[]) (l2:=[(1:UInt8)]) (bC (f:=c8) ([(1:UInt8)]:List UInt8) _ _)) fun t=>.cT r7 (.s (pt 3 1) (.cT r7 (.s (iA a.N) (.bd (o a.N) fun u=>.cl ((bf nd).trans (xa ..)) (.as (pP C n _ _ _ _  ?_ _ u t))))))))))))
  ·intro i w a8
   exact .un rfl (.cT r7 (.st (v:=(uA (wr .u8 (i)))) (aQ (hs:=by kernel_rfl) (hd:=by kernel_rfl) ..) (.gd fun hg=>.st (v:=(im [[(uA (((UInt8.ofNat (Int.toNat (wr .u8 (i)))).toNat:Int)))]] true)) (by rw[fA hg]; kernel_rfl) (.bd (g:=fun (y:List UInt8)=>((bW 4 0 y.length false),[bx (ar a),aZ,bx [(pt 1 0)],bx (ar a),aO.row false 1 (y.map c8)])) (cj cX (l:=w) (l2:=[(UInt8.ofNat (Int.toNat (wr .u8 (i))))]) (b:=4) rfl (by decide) (bC (f:=c8) ([(UInt8.ofNat (Int.toNat (wr .u8 (i))))]:List UInt8) _ _)) fun c=>.cr (.ok (.cr (.ok (.lv (by show aS [bx (ar a),aZ,bx [(pt 1 0)],bx (ar a),aO.row false 1 (c.map c8)] (tp [(bW 4 0 c.length false),(iA 0)])=_; first | (simp only[bR,cY,aS,bI (H:=[bx (ar a),aZ,bx [(pt 1 0)],bx (ar a),aO.row false 1 (c.map c8)]) (b:=4) (es:=1) (wr:=false) (l:=c) eU rfl]; done) | (simp only[bR,e9,aS,bI (H:=[bx (ar a),aZ,bx [(pt 1 0)],bx (ar a),aO.row false 1 (c.map c8)]) (b:=4) (es:=1) (wr:=false) (l:=c) eU rfl]; first | done | rfl))))))))))
 refine .sp (fun x=>?_) (fun _=>?_)
 ·refine .st (v:=(pt 1 2)) (by rw[XY x]; kernel_rfl) (.s2 (tz 114 [] []) (.dC r7 r7 (.cl ((bf zs).trans (Jh ..)) (.s ((pt 3 0),[bx (ar a),aZ,bx [(pt 1 0)],bx (ar a)]) (.s ((A.ip (ar a)),[bx (ar a),aZ,bx [(pt 1 0)],aO.dead]) (.cT r7 (.s (im [[(uA 2)]] true) (.s (A.ip [(sA a.S),(im (a.L.map ax) false)]) (.s (sA a.S) (.s (iA ((a.S.size:Int))) (.st (v:=(A.v (.int .u64 (wr .u64 ((a.S.size:Int)))))) (aQ (hs:=by kernel_rfl) (hd:=by kernel_rfl) ..) (.s (A.ip [(sA a.S),(im (a.L.map ax) false)]) (.s (sA a.S) (.cT r7 (.bd (g:=fun (y:List UInt8)=>((bW 4 0 y.length false),[bx (ar a),aZ,bx [(pt 1 0)],aO.dead,aO.row false 1 (y.map c8)])) (jk cX (l:=[]) (l2:=[(2:UInt8)]) (bC (f:=c8) ([(2:UInt8)]:List UInt8) _ _)) fun z=>.cT r7 (.cl ((bf nd).trans (xa ..)) (.as (pP C n _ _ _ _  ?_ _ (wr .u64 ((a.S.size:Int))) z))))))))))))))))))
  ·intro j a1 a9
   exact .un rfl (.cT r7 (.st (v:=(uA (wr .u8 (j)))) (aQ (hs:=by kernel_rfl) (hd:=by kernel_rfl) ..) (.gd fun hg=>.st (v:=(im [[(uA (((UInt8.ofNat (Int.toNat (wr .u8 (j)))).toNat:Int)))]] true)) (by rw[fA hg]; kernel_rfl) (.bd (g:=fun (y:List UInt8)=>((bW 4 0 y.length false),[bx (ar a),aZ,bx [(pt 1 0)],aO.dead,aO.row false 1 (y.map c8)])) (cj cX (l:=a1) (l2:=[(UInt8.ofNat (Int.toNat (wr .u8 (j))))]) (b:=4) rfl (by decide) (bC (f:=c8) ([(UInt8.ofNat (Int.toNat (wr .u8 (j))))]:List UInt8) _ _)) fun a2=>.cr (.ok (.bd (g:=fun (y:List UInt8)=>((bW 4 0 y.length false),[bx (ar a),aZ,bx [(pt 1 0)],aO.dead,aO.row false 1 (y.map c8)])) (cj vl (l:=a2) (l2:=ln a.S) (b:=4) rfl (by decide) (qQ ..)) fun d=>.cr (.ok (.lv (by show aS [bx (ar a),aZ,bx [(pt 1 0)],aO.dead,aO.row false 1 (d.map c8)] (tp [(bW 4 0 d.length false),(iA 0)])=_; first | (simp only[bR,cY,aS,bI (H:=[bx (ar a),aZ,bx [(pt 1 0)],aO.dead,aO.row false 1 (d.map c8)]) (b:=4) (es:=1) (wr:=false) (l:=d) eU rfl]; done) | (simp only[bR,e9,aS,bI (H:=[bx (ar a),aZ,bx [(pt 1 0)],aO.dead,aO.row false 1 (d.map c8)]) (b:=4) (es:=1) (wr:=false) (l:=d) eU rfl]; first | done | rfl))))))))))
 refine .sp (fun a3=>?_) (fun _=>?_)
 ·refine .st (v:=(pt 1 3)) (by rw[XY a3]; kernel_rfl) (.s2 (tz 115 [] [(pt 2 0)]) (.dC r7 r7 (.cl ((bf Jw).trans (Lo ..)) (.s ((pt 3 0),[bx (ar a),aZ,bx [(pt 1 0)],bx (ar a)]) (.s (im [[(uA 3)]] true) (.bd (g:=fun (y:List UInt8)=>((bW 4 0 y.length false),[bx (ar a),aZ,bx [(pt 1 0)],bx (ar a),aO.row false 1 (y.map c8)])) (jk cX (l:=[]) (l2:=[(3:UInt8)]) (bC (f:=c8) ([(3:UInt8)]:List UInt8) _ _)) fun a4=>.cT r7 (.s (pt 3 3) (.cT r7 (.s (im (a.L.map ax) false) (.cT r7 (.st (ef (e:=108)) (.cT r7 (.st (v:=(A.v (.int .u64 (wr .u64 ((a.L.length:Int)))))) (aQ (hs:=by kernel_rfl) (hd:=by kernel_rfl) ..) (.cl ((bf nd).trans (xa ..)) (.as (pP C n _ _ _ _  ?_ _ (wr .u64 ((a.L.length:Int))) a4))))))))))))))))
  ·intro k a5 aa
   refine .un rfl (.cT r7 (.st (v:=(uA (wr .u8 (k)))) (aQ (hs:=by kernel_rfl) (hd:=by kernel_rfl) ..) (.gd fun hg=>.st (v:=(im [[(uA (((UInt8.ofNat (Int.toNat (wr .u8 (k)))).toNat:Int)))]] true)) (by rw[fA hg]; kernel_rfl) (.bd (g:=fun (y:List UInt8)=>((bW 4 0 y.length false),[bx (ar a),aZ,bx [(pt 1 0)],bx (ar a),aO.row false 1 (y.map c8)])) (cj cX (l:=a5) (l2:=[(UInt8.ofNat (Int.toNat (wr .u8 (k))))]) (b:=4) rfl (by decide) (bC (f:=c8) ([(UInt8.ofNat (Int.toNat (wr .u8 (k))))]:List UInt8) _ _)) fun a6=>.cr (.ok (.s2 (im (a.L.map ax) false) (.st (ef (e:=108)) (.as (A8 C n _ _ _ _ o ([]) a.L ((a.L.length:Int)) a a ?_ _ 0 a6)))))))))
   ·intro h ab ad ae af ah w959 w960 w961 w962
    exact .un rfl (.cT r7 (.cr (.ok (.lv (by show aS [w959,w960,w961,w962,aO.row false 1 (h.map c8)] (tp [(bW 4 0 h.length false),(iA 0)])=_; first | (simp only[bR,cY,aS,bI (H:=[w959,w960,w961,w962,aO.row false 1 (h.map c8)]) (b:=4) (es:=1) (wr:=false) (l:=h) eU rfl]; done) | (simp only[bR,e9,aS,bI (H:=[w959,w960,w961,w962,aO.row false 1 (h.map c8)]) (b:=4) (es:=1) (wr:=false) (l:=h) eU rfl]; first | done | rfl))))))
 exact .nn
def Oy (a:au):Option ((List UInt8)×Int):=P8 aE a
def HM (C:OT):Prop:=∀ (a:au),C 81 [(ag (ar a))]=(Oy a).map fun y=>(tp [(im (y.1.map c8) false),(iA y.2)])
end Go.Proofs.YtebkhfhcipnfgaaGreat
