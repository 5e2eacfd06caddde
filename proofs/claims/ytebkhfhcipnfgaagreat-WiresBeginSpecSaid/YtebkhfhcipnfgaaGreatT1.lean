/-
 The program's functions as plain functions: by a tool; each follows the interpreter.
-/
import Derived.Test.YtebkhfhcipnfgaaGreatE
namespace Go.Proofs.YtebkhfhcipnfgaaGreat
open Go.Proofs.Tryz (prog)
set_option linter.unusedVariables false
set_option linter.unusedSimpArgs false
set_option maxHeartbeats 4000000
set_option maxRecDepth 100000
set_option linter.defProp false
theorem u2 {p:Prop} (h:p:=by simp only[cf,g8,br]; first | done | rfl):p:=h
theorem u3 {p:Prop} (h:p:=by simp only[eY,eZ]):p:=h
theorem An {p:Prop} (h:p:=by simp only[uB,eY,eZ,Nat.reduceLT,decide_true]):p:=h
theorem XY {p:Prop} (h:p:=by simp only[List.map_cons,List.map_nil,da]):p:=h
theorem X4 {p:Prop} (h:p:=by simp only[uB,eY,eZ,Nat.reduceLT,decide_true,bc]):p:=h
def qaz:=@Nat.add_sub_cancel
variable (C:Nat->List A->Option A) (n:Nat) {ρ γ:Type} {φ:ρ->γ->Prop} {kL:R->Option ρ} (kx kg:Nat->St->Option R) (kr:St->Option R) (kp:A->St->Option R)
abbrev OT:=Nat->List A->Option A
abbrev iK:=ByteArray.empty
abbrev sA (s:ByteArray):A:=.v (.string s)
abbrev se:A:=sA iK
abbrev im:=A.imm
abbrev Ye:A:=im [] true
abbrev ag:=A.agg
abbrev pt:=A.ptr
abbrev tp:=A.tup
abbrev bM:=A.sl
abbrev bx:=aC.box
abbrev tG (k:Nat) (a b:List A):A:=A.fn (Fn.func k) a b
abbrev XW:aC:=aC.box [(A.imm [] true),(A.imm [] true),(iA 0),(bA false)]
abbrev XV:aC:=aC.box [(A.imm [] true),(iA 0),(iA 0)]
noncomputable abbrev ec (C:Nat->List A->Option A) (n k:Nat):=dH (cx C) (n+k)
noncomputable abbrev ey (C:Nat->List A->Option A) (n k:Nat):=bw (cx C) (n+k)
structure ar where
 Kind:Int
 N:Int
 S:ByteArray
 L:(List ar)
 deriving Inhabited
mutual
def dt:ar->A
 | .mk _ _ _ l=>.imm (cw l) false
def cw:List ar->List (List A)
 | []=>[]
 | x :: r=>[(iA x.Kind),(iA x.N),(sA x.S),dt x] :: cw r
end
def ax (x:ar):List A:=[(iA x.Kind),(iA x.N),(sA x.S),dt x]
theorem sQ:∀ (l:List ar),cw l=l.map ax
 | []=>by rw[cw]; rfl
 | x :: r=>by rw[cw,sQ r]; rfl
theorem zM (x:ar):dt x=.imm (x.L.map ax) false:=by
 cases x; rw[dt,sQ]
abbrev al (x:ar):List A:=[(iA x.Kind),(iA x.N),(sA x.S),.imm (x.L.map ax) false]
theorem da (x:ar):ax x=[(iA x.Kind),(iA x.N),(sA x.S),.imm (x.L.map ax) false]:=by
 show [(iA x.Kind),(iA x.N),(sA x.S),dt x]=_
 rw[zM]
theorem eo (o:Option ar):(o.map fun x=>A.ip (ax x))=o.map fun x=>A.ip [(iA x.Kind),(iA x.N),(sA x.S),.imm (x.L.map ax) false]:=by
 cases o with
 | none=>rfl
 | some x=>exact YX (fun z=>some (A.ip z)) (da x)
theorem zo:mI ax:=fun x=>by rw[da]; rfl
mutual
theorem tz (L:Nat):∀ (x:ar),A.under L (dt x)=true
 | .mk _ _ _ l=>by rw[dt,A.under]; exact tC L l
theorem tC (L:Nat):∀ (l:List ar),aM L (cw l)=true
 | []=>by rw[cw]; rfl
 | x :: r=>by rw[cw,aM,tC L r]; simp only[bt,A.under,tz L x,Zt,Z0]
end
mutual
theorem ti (g:Nat->Nat->Nat->A):∀ (x:ar),cE g (dt x)=dt x
 | .mk _ _ _ l=>by rw[dt,cE,tx g l]
theorem tx (g:Nat->Nat->Nat->A):∀ (l:List ar),dm g (cw l)=cw l
 | []=>by rw[cw]; rfl
 | x :: r=>by rw[cw,dm,tx g r]; simp only[bq,cE,ti g x]
end
theorem dJ:dv ax:=fun L x=>by unfold ax; simp only[bt,A.under,tz L x,Zt,Z0]
theorem cD:cj ax:=fun g x=>by unfold ax; simp only[bq,cE,ti g x]
mutual
theorem sI:∀ (x y:ar),dt x=dt y->x.L=y.L
 | .mk xKind xN xS l,.mk yKind yN yS l'=>fun h=>by
  rw[dt,dt,A.imm.injEq] at h
  exact sN l l' h.1
theorem sN:∀ (l l':List ar),cw l=cw l'->l=l'
 | [],[]=>fun _=>rfl
 | [],y :: r=>fun h=>by rw[cw,cw] at h; cases h
 | x :: r,[]=>fun h=>by rw[cw,cw] at h; cases h
 | x :: r,y :: r'=>fun h=>by
  rw[cw,cw,Y8] at h
  have h2:=sN r r' h.2
  have h1:=h.1
  simp only[Y8,A.v.injEq,ZE,ZF,Zy,qaq,Z7] at h1
  have h3:=sI x y (by simp[h1])
  rw[h2]
  congr 1
  obtain ⟨xKind,xN,xS,lx⟩:=x; obtain ⟨yKind,yN,yS,ly⟩:=y
  simp_all
end
theorem gE {T:Type} {f:T->List A} {H:aB} {l:List T} {rows:List (List A)} {c:Bool} (h:l.map f=rows):pv H (.imm rows c) f l:=by
 rw[<-h]; exact bH ..
structure ay where
 From:Int
 To:Int
 Data:(List UInt8)
 deriving DecidableEq,Inhabited
def aq (x:ay):List A:=[(iA x.From),(iA x.To),(im (List.map c8 x.Data) false)]
theorem xg:mI aq:=fun _=>rfl
theorem dx:dv aq:=fun _ _=>by simp only[aq,bt,A.under,dk,mQ,mO,mP,mS,mR,Zt,YP,dJ]
theorem cH:cj aq:=fun _ _=>by simp only[aq,cE,bq,cJ,dW,fg,mM,mN,lH,cD]
def au (x:(Int×Int)):List A:=[(iA x.1),(iA x.2)]
theorem de:dv au:=fun _ _=>by simp only[au,bt,A.under,dk,mQ,mO,mP,mS,mR,Zt,YP,dJ,dx]
theorem db:cj au:=fun _ _=>by simp only[au,cE,bq,cJ,dW,fg,mM,mN,lH,cD,cH]
theorem tL (g:Nat->Nat->Nat->A) (x:(Int×Int)):bq g (au x)=au x:=db g x
theorem sF (L:Nat) (x:(Int×Int)):bt L (au x)=true:=de L x
structure bh where
 Queue:(List ay)
 Apart:(List (Int×Int))
 deriving DecidableEq,Inhabited
def cz (x:bh):List A:=[(im (List.map aq x.Queue) false),(im (List.map au x.Apart) false)]
theorem gx:dv cz:=fun _ _=>by simp only[cz,bt,A.under,dk,mQ,mO,mP,mS,mR,Zt,YP,dJ,dx,de]
theorem gw:cj cz:=fun _ _=>by simp only[cz,cE,bq,cJ,dW,fg,mM,mN,lH,cD,cH,db]
structure bL where
 No:Int
 Role:Int
 Bar:Int
 Program:Int
 deriving DecidableEq,Inhabited
def aI (x:bL):List A:=[(iA x.No),(iA x.Role),(iA x.Bar),(iA x.Program)]
theorem DH:mI aI:=fun _=>rfl
theorem iq:dv aI:=fun _ _=>by simp only[aI,bt,A.under,dk,mQ,mO,mP,mS,mR,Zt,YP,dJ,dx,de,gx]
theorem gv:cj aI:=fun _ _=>by simp only[aI,cE,bq,cJ,dW,fg,mM,mN,lH,cD,cH,db,gw]
structure aN where
 Cues:(List bL)
 Got:(List Int)
 Did:(List Int)
 deriving DecidableEq,Inhabited
def aw (x:aN):List A:=[(im (List.map aI x.Cues) false),(im (List.map (cI .i64) x.Got) false),(im (List.map (cI .i64) x.Did) false)]
theorem DI:mI aw:=fun _=>rfl
theorem jq:dv aw:=fun _ _=>by simp only[aw,bt,A.under,dk,mQ,mO,mP,mS,mR,Zt,YP,dJ,dx,de,gx,iq]
theorem dc:cj aw:=fun _ _=>by simp only[aw,cE,bq,cJ,dW,fg,mM,mN,lH,cD,cH,db,gw,gv]
structure av where
 Net:bh
 Ears:(List aN)
 Bar:Int
 deriving DecidableEq,Inhabited
def ak (x:av):List A:=[(im (List.map aq x.Net.Queue) false),(im (List.map au x.Net.Apart) false),(im (List.map aw x.Ears) false),(iA x.Bar)]
theorem gO:dv ak:=fun _ _=>by simp only[ak,bt,A.under,dk,mQ,mO,mP,mS,mR,Zt,YP,dJ,dx,de,gx,iq,jq]
theorem fO:cj ak:=fun _ _=>by simp only[ak,cE,bq,cJ,dW,fg,mM,mN,lH,cD,cH,db,gw,gv,dc]
structure bj where
 Role:Int
 Bar:Int
 Program:Int
 deriving DecidableEq,Inhabited
def aD (x:bj):List A:=[(iA x.Role),(iA x.Bar),(iA x.Program)]
theorem gY:dv aD:=fun _ _=>by simp only[aD,bt,A.under,dk,mQ,mO,mP,mS,mR,Zt,YP,dJ,dx,de,gx,iq,jq,gO]
theorem gX:cj aD:=fun _ _=>by simp only[aD,cE,bq,cJ,dW,fg,mM,mN,lH,cD,cH,db,gw,gv,dc,fO]
structure aU where
 kind:Int
 cue:bL
 report:bj
 deriving DecidableEq,Inhabited
def az (x:aU):List A:=[(iA x.kind),(iA x.cue.No),(iA x.cue.Role),(iA x.cue.Bar),(iA x.cue.Program),(iA x.report.Role),(iA x.report.Bar),(iA x.report.Program)]
theorem eu:dv az:=fun _ _=>by simp only[az,bt,A.under,dk,mQ,mO,mP,mS,mR,Zt,YP,dJ,dx,de,gx,iq,jq,gO,gY]
theorem et:cj az:=fun _ _=>by simp only[az,cE,bq,cJ,dW,fg,mM,mN,lH,cD,cH,db,gw,gv,dc,fO,gX]
structure fa where
 rest:(List UInt8)
 deriving DecidableEq,Inhabited
def bp (x:fa):List A:=[(im (List.map c8 x.rest) false)]
theorem fD:dv bp:=fun _ _=>by simp only[bp,bt,A.under,dk,mQ,mO,mP,mS,mR,Zt,YP,dJ,dx,de,gx,iq,jq,gO,gY,eu]
theorem fB:cj bp:=fun _ _=>by simp only[bp,cE,bq,cJ,dW,fg,mM,mN,lH,cD,cH,db,gw,gv,dc,fO,gX,et]
def cG (x:(Bool×Bool×Bool×Bool)):List A:=[(bA x.1),(bA x.2.1),(bA x.2.2.1),(bA x.2.2.2)]
theorem oU:dv cG:=fun _ _=>by simp only[cG,bt,A.under,dk,mQ,mO,mP,mS,mR,Zt,YP,dJ,dx,de,gx,iq,jq,gO,gY,eu,fD]
theorem oQ:cj cG:=fun _ _=>by simp only[cG,cE,bq,cJ,dW,fg,mM,mN,lH,cD,cH,db,gw,gv,dc,fO,gX,et,fB]
theorem zB (g:Nat->Nat->Nat->A) (x:(Bool×Bool×Bool×Bool)):bq g (cG x)=cG x:=oQ g x
theorem xH (L:Nat) (x:(Bool×Bool×Bool×Bool)):bt L (cG x)=true:=oU L x
structure cF where
 B:(List UInt8)
 At:Int
 Bad:Bool
 deriving DecidableEq,Inhabited
def aJ (x:cF):List A:=[(im (List.map c8 x.B) false),(iA x.At),(bA x.Bad)]
theorem fE:dv aJ:=fun _ _=>by simp only[aJ,bt,A.under,dk,mQ,mO,mP,mS,mR,Zt,YP,dJ,dx,de,gx,iq,jq,gO,gY,eu,fD,oU]
theorem fC:cj aJ:=fun _ _=>by simp only[aJ,cE,bq,cJ,dW,fg,mM,mN,lH,cD,cH,db,gw,gv,dc,fO,gX,et,fB,oQ]
theorem zC (g:Nat->Nat->Nat->A) (x:ar):bq g (ax x)=ax x:=cD g x
theorem xI (L:Nat) (x:ar):bt L (ax x)=true:=dJ L x
theorem xD (g:Nat->Nat->Nat->A) (x:ay):bq g (aq x)=aq x:=cH g x
theorem vV (L:Nat) (x:ay):bt L (aq x)=true:=dx L x
theorem DY (g:Nat->Nat->Nat->A) (x:bh):bq g (cz x)=cz x:=gw g x
theorem BX (L:Nat) (x:bh):bt L (cz x)=true:=gx L x
theorem DW (g:Nat->Nat->Nat->A) (x:bL):bq g (aI x)=aI x:=gv g x
theorem BV (L:Nat) (x:bL):bt L (aI x)=true:=iq L x
theorem DX (g:Nat->Nat->Nat->A) (x:aN):bq g (aw x)=aw x:=dc g x
theorem BW (L:Nat) (x:aN):bt L (aw x)=true:=jq L x
theorem zD (g:Nat->Nat->Nat->A) (x:av):bq g (ak x)=ak x:=fO g x
theorem xJ (L:Nat) (x:av):bt L (ak x)=true:=gO L x
theorem xE (g:Nat->Nat->Nat->A) (x:bj):bq g (aD x)=aD x:=gX g x
theorem vW (L:Nat) (x:bj):bt L (aD x)=true:=gY L x
theorem oS (g:Nat->Nat->Nat->A) (x:aU):bq g (az x)=az x:=et g x
theorem n6 (L:Nat) (x:aU):bt L (az x)=true:=eu L x
theorem pV (g:Nat->Nat->Nat->A) (x:fa):bq g (bp x)=bp x:=fB g x
theorem oV (L:Nat) (x:fa):bt L (bp x)=true:=fD L x
theorem jK (g:Nat->Nat->Nat->A) (x:cF):bq g (aJ x)=aJ x:=fC g x
theorem jC (L:Nat) (x:cF):bt L (aJ x)=true:=fE L x
theorem eJ:uZ prog 106 106 108 4 56 [(iA 0),(iA 0),se,Ye] ax:=⟨r8,r8,r8,r8,rfl,by decide,by decide,r8,fun _=>rfl,zo⟩
theorem df:uZ prog 66 66 5 1 1 [(uA 0)] c8:=⟨r8,r8,r8,r8,rfl,by decide,by decide,r8,fun _=>rfl,IZ⟩
theorem vz:uZ prog 66 9 5 1 1 [(uA 0)] c8:=⟨r8,r8,r8,r8,rfl,by decide,by decide,r8,fun _=>rfl,IZ⟩
theorem vx:uZ prog 22 22 68 3 40 [(iA 0),(iA 0),Ye] aq:=⟨r8,r8,r8,r8,rfl,by decide,by decide,r8,fun _=>rfl,xg⟩
theorem ky:uZ prog 29 29 3 1 8 [(iA 0)] (cI .i64):=⟨r8,r8,r8,r8,rfl,by decide,by decide,r8,fun _=>rfl,(I0 _)⟩
theorem vy:uZ prog 26 26 50 3 72 [Ye,Ye,Ye] aw:=⟨r8,r8,r8,r8,rfl,by decide,by decide,r8,fun _=>rfl,DI⟩
theorem FX:uZ prog 48 48 46 4 32 [(iA 0),(iA 0),(iA 0),(iA 0)] aI:=⟨r8,r8,r8,r8,rfl,by decide,by decide,r8,fun _=>rfl,DH⟩
abbrev TJ {T:Type} (C:OT) (n k:Nat) (args:List A) (X:Option T) (f:T->A):Prop:=J (fun (o:R) y=>∃ v,o.1=.ret v/\br o.2 v=f y) (aG (cx C) (ec C n 8) (ey C n 8) (n+8) k args [] 0) some X some
theorem nI {P:Nat->Prop} (h0:P 0) (hs:∀ m,P m->P (m+1)) (m:Nat):P m:=by
 induction m with
 | zero=>exact h0
 | succ m ih=>exact hs m ih
section
variable {ρ γ σ α τ:Type} {φ:ρ->γ->Prop} {kL:σ->Option ρ} {K:α->Option γ} {R:Option α} {k:τ->Option σ}
theorem J.Oc {X:Option (List A)} {F:A->A->A->A->A->A->A->A->A->A->A->A->A->Option τ} (h:J φ (((X).bind fun l=>bk l fun a l=>bk l fun b l=>bk l fun c l=>bk l fun d l=>bk l fun e l=>bk l fun f l=>bk l fun g l=>bk l fun h l=>bk l fun i l=>bk l fun j l=>bk l fun m l=>bk l fun n l=>bk l fun o l=>F a b c d e f g h i j m n o).bind k) kL R K):J φ ((X).bind fun l=>bk l fun a l=>bk l fun b l=>bk l fun c l=>bk l fun d l=>bk l fun e l=>bk l fun f l=>bk l fun g l=>bk l fun h l=>bk l fun i l=>bk l fun j l=>bk l fun m l=>bk l fun n l=>bk l fun o l=>(F a b c d e f g h i j m n o).bind k) kL R K:=by simpa only [YU,gA] using h
theorem J.XN {X:Option (List A)} {F:A->A->Option τ} (h:J φ (((X).bind fun l=>bk l fun a l=>bk l fun b l=>F a b).bind k) kL R K):J φ ((X).bind fun l=>bk l fun a l=>bk l fun b l=>(F a b).bind k) kL R K:=by simpa only [YU,gA] using h
theorem J.U4 {X:Option (List A)} {F:A->A->A->A->A->A->Option τ} (h:J φ (((X).bind fun l=>bk l fun a l=>bk l fun b l=>bk l fun c l=>bk l fun d l=>bk l fun e l=>bk l fun f l=>F a b c d e f).bind k) kL R K):J φ ((X).bind fun l=>bk l fun a l=>bk l fun b l=>bk l fun c l=>bk l fun d l=>bk l fun e l=>bk l fun f l=>(F a b c d e f).bind k) kL R K:=by simpa only [YU,gA] using h
theorem J.Tw {X:Option (List A)} {F:A->A->A->A->A->A->A->A->A->A->Option τ} (h:J φ (((X).bind fun l=>bk l fun a l=>bk l fun b l=>bk l fun c l=>bk l fun d l=>bk l fun e l=>bk l fun f l=>bk l fun g l=>bk l fun h l=>bk l fun i l=>bk l fun j l=>F a b c d e f g h i j).bind k) kL R K):J φ ((X).bind fun l=>bk l fun a l=>bk l fun b l=>bk l fun c l=>bk l fun d l=>bk l fun e l=>bk l fun f l=>bk l fun g l=>bk l fun h l=>bk l fun i l=>bk l fun j l=>(F a b c d e f g h i j).bind k) kL R K:=by simpa only [YU,gA] using h
theorem J.Fc {X:Option (List A)} {Y:A->A->A->A->A->A->A->A->A->A->A->A->A->A->A->A->A->A->A->A->A->A->A->A->A->A->A->A->A->A->A->Option (List A)} {Z:A->A->A->A->A->A->A->A->A->A->A->A->A->A->A->A->A->A->A->A->A->A->A->A->A->A->A->A->A->A->A->A->Option (List A)} {F:A->A->A->A->A->A->A->A->A->A->A->A->A->A->A->A->A->A->A->A->A->A->A->A->A->A->A->A->A->A->A->A->A->Option τ} (h:J φ (((X).bind fun l=>bk l fun a l=>bk l fun b l=>bk l fun c l=>bk l fun d l=>bk l fun e l=>bk l fun f l=>bk l fun g l=>bk l fun h l=>bk l fun i l=>bk l fun j l=>bk l fun m l=>bk l fun n l=>bk l fun o l=>bk l fun p l=>bk l fun q l=>bk l fun r l=>bk l fun s l=>bk l fun t l=>bk l fun u l=>bk l fun v l=>bk l fun w l=>bk l fun aa l=>bk l fun ab l=>bk l fun ac l=>bk l fun ad l=>bk l fun ae l=>bk l fun af l=>bk l fun ag l=>bk l fun ah l=>bk l fun ai l=>bk l fun aj l=>(Y a b c d e f g h i j m n o p q r s t u v w aa ab ac ad ae af ag ah ai aj).bind fun l=>bk l fun ba l=>(Z a b c d e f g h i j m n o p q r s t u v w aa ab ac ad ae af ag ah ai aj ba).bind fun l=>bk l fun bb l=>F a b c d e f g h i j m n o p q r s t u v w aa ab ac ad ae af ag ah ai aj ba bb).bind k) kL R K):J φ ((X).bind fun l=>bk l fun a l=>bk l fun b l=>bk l fun c l=>bk l fun d l=>bk l fun e l=>bk l fun f l=>bk l fun g l=>bk l fun h l=>bk l fun i l=>bk l fun j l=>bk l fun m l=>bk l fun n l=>bk l fun o l=>bk l fun p l=>bk l fun q l=>bk l fun r l=>bk l fun s l=>bk l fun t l=>bk l fun u l=>bk l fun v l=>bk l fun w l=>bk l fun aa l=>bk l fun ab l=>bk l fun ac l=>bk l fun ad l=>bk l fun ae l=>bk l fun af l=>bk l fun ag l=>bk l fun ah l=>bk l fun ai l=>bk l fun aj l=>(Y a b c d e f g h i j m n o p q r s t u v w aa ab ac ad ae af ag ah ai aj).bind fun l=>bk l fun ba l=>(Z a b c d e f g h i j m n o p q r s t u v w aa ab ac ad ae af ag ah ai aj ba).bind fun l=>bk l fun bb l=>(F a b c d e f g h i j m n o p q r s t u v w aa ab ac ad ae af ag ah ai aj ba bb).bind k) kL R K:=by simpa only [YU,gA] using h
theorem J.K8 {X:Option (List A)} {Y:A->A->A->A->A->A->A->A->A->A->A->A->A->A->A->A->A->Option (List A)} {F:A->A->A->A->A->A->A->A->A->A->A->A->A->A->A->A->A->A->Option τ} (h:J φ (((X).bind fun l=>bk l fun a l=>bk l fun b l=>bk l fun c l=>bk l fun d l=>bk l fun e l=>bk l fun f l=>bk l fun g l=>bk l fun h l=>bk l fun i l=>bk l fun j l=>bk l fun m l=>bk l fun n l=>bk l fun o l=>bk l fun p l=>bk l fun q l=>bk l fun r l=>bk l fun s l=>(Y a b c d e f g h i j m n o p q r s).bind fun l=>bk l fun t l=>F a b c d e f g h i j m n o p q r s t).bind k) kL R K):J φ ((X).bind fun l=>bk l fun a l=>bk l fun b l=>bk l fun c l=>bk l fun d l=>bk l fun e l=>bk l fun f l=>bk l fun g l=>bk l fun h l=>bk l fun i l=>bk l fun j l=>bk l fun m l=>bk l fun n l=>bk l fun o l=>bk l fun p l=>bk l fun q l=>bk l fun r l=>bk l fun s l=>(Y a b c d e f g h i j m n o p q r s).bind fun l=>bk l fun t l=>(F a b c d e f g h i j m n o p q r s t).bind k) kL R K:=by simpa only [YU,gA] using h
theorem J.Fb {X:Option (List A)} {Y:A->A->A->A->A->A->A->A->A->A->A->A->Option (List A)} {F:A->A->A->A->A->A->A->A->A->A->A->A->A->Option τ} (h:J φ (((X).bind fun l=>bk l fun a l=>bk l fun b l=>bk l fun c l=>bk l fun d l=>bk l fun e l=>bk l fun f l=>bk l fun g l=>bk l fun h l=>bk l fun i l=>bk l fun j l=>bk l fun m l=>bk l fun n l=>(Y a b c d e f g h i j m n).bind fun l=>bk l fun o l=>F a b c d e f g h i j m n o).bind k) kL R K):J φ ((X).bind fun l=>bk l fun a l=>bk l fun b l=>bk l fun c l=>bk l fun d l=>bk l fun e l=>bk l fun f l=>bk l fun g l=>bk l fun h l=>bk l fun i l=>bk l fun j l=>bk l fun m l=>bk l fun n l=>(Y a b c d e f g h i j m n).bind fun l=>bk l fun o l=>(F a b c d e f g h i j m n o).bind k) kL R K:=by simpa only [YU,gA] using h
theorem J.Ob {X:Option (List A)} {F:A->A->A->A->A->A->A->A->A->A->A->A->Option τ} (h:J φ (((X).bind fun l=>bk l fun a l=>bk l fun b l=>bk l fun c l=>bk l fun d l=>bk l fun e l=>bk l fun f l=>bk l fun g l=>bk l fun h l=>bk l fun i l=>bk l fun j l=>bk l fun m l=>bk l fun n l=>F a b c d e f g h i j m n).bind k) kL R K):J φ ((X).bind fun l=>bk l fun a l=>bk l fun b l=>bk l fun c l=>bk l fun d l=>bk l fun e l=>bk l fun f l=>bk l fun g l=>bk l fun h l=>bk l fun i l=>bk l fun j l=>bk l fun m l=>bk l fun n l=>(F a b c d e f g h i j m n).bind k) kL R K:=by simpa only [YU,gA] using h
theorem J.XO {X:Option (List A)} {F:A->A->A->A->A->Option τ} (h:J φ (((X).bind fun l=>bk l fun a l=>bk l fun b l=>bk l fun c l=>bk l fun d l=>bk l fun e l=>F a b c d e).bind k) kL R K):J φ ((X).bind fun l=>bk l fun a l=>bk l fun b l=>bk l fun c l=>bk l fun d l=>bk l fun e l=>(F a b c d e).bind k) kL R K:=by simpa only [YU,gA] using h
theorem J.XP {X:Option (List A)} {F:A->A->A->A->A->A->A->A->Option τ} (h:J φ (((X).bind fun l=>bk l fun a l=>bk l fun b l=>bk l fun c l=>bk l fun d l=>bk l fun e l=>bk l fun f l=>bk l fun g l=>bk l fun h l=>F a b c d e f g h).bind k) kL R K):J φ ((X).bind fun l=>bk l fun a l=>bk l fun b l=>bk l fun c l=>bk l fun d l=>bk l fun e l=>bk l fun f l=>bk l fun g l=>bk l fun h l=>(F a b c d e f g h).bind k) kL R K:=by simpa only [YU,gA] using h
end
theorem g8:cj ax/\cj aq/\cj au/\cj cz/\cj aI/\cj aw/\cj ak/\cj aD/\cj az/\cj bp/\cj cG/\cj aJ/\(∀ (g:Nat->Nat->Nat->A) (x:ar),bq g (ax x)=ax x)/\(∀ (g:Nat->Nat->Nat->A) (x:ay),bq g (aq x)=aq x)/\(∀ (g:Nat->Nat->Nat->A) (x:(Int×Int)),bq g (au x)=au x)/\(∀ (g:Nat->Nat->Nat->A) (x:bh),bq g (cz x)=cz x)/\(∀ (g:Nat->Nat->Nat->A) (x:bL),bq g (aI x)=aI x)/\(∀ (g:Nat->Nat->Nat->A) (x:aN),bq g (aw x)=aw x)/\(∀ (g:Nat->Nat->Nat->A) (x:av),bq g (ak x)=ak x)/\(∀ (g:Nat->Nat->Nat->A) (x:bj),bq g (aD x)=aD x)/\(∀ (g:Nat->Nat->Nat->A) (x:aU),bq g (az x)=az x)/\(∀ (g:Nat->Nat->Nat->A) (x:fa),bq g (bp x)=bp x)/\(∀ (g:Nat->Nat->Nat->A) (x:(Bool×Bool×Bool×Bool)),bq g (cG x)=cG x)/\(∀ (g:Nat->Nat->Nat->A) (x:cF),bq g (aJ x)=aJ x)/\True:=⟨cD,cH,db,gw,gv,dc,fO,gX,et,fB,oQ,fC,zC,xD,tL,DY,DW,DX,zD,xE,oS,pV,zB,jK,trivial⟩
theorem dF:(cj ax/\cj aq/\cj au/\cj cz/\cj aI/\cj aw/\cj ak/\cj aD/\cj az/\cj bp/\cj cG/\cj aJ/\(∀ (g:Nat->Nat->Nat->A) (x:ar),bq g (ax x)=ax x)/\(∀ (g:Nat->Nat->Nat->A) (x:ay),bq g (aq x)=aq x)/\(∀ (g:Nat->Nat->Nat->A) (x:(Int×Int)),bq g (au x)=au x)/\(∀ (g:Nat->Nat->Nat->A) (x:bh),bq g (cz x)=cz x)/\(∀ (g:Nat->Nat->Nat->A) (x:bL),bq g (aI x)=aI x)/\(∀ (g:Nat->Nat->Nat->A) (x:aN),bq g (aw x)=aw x)/\(∀ (g:Nat->Nat->Nat->A) (x:av),bq g (ak x)=ak x)/\(∀ (g:Nat->Nat->Nat->A) (x:bj),bq g (aD x)=aD x)/\(∀ (g:Nat->Nat->Nat->A) (x:aU),bq g (az x)=az x)/\(∀ (g:Nat->Nat->Nat->A) (x:fa),bq g (bp x)=bp x)/\(∀ (g:Nat->Nat->Nat->A) (x:(Bool×Bool×Bool×Bool)),bq g (cG x)=cG x)/\(∀ (g:Nat->Nat->Nat->A) (x:cF),bq g (aJ x)=aJ x)/\True)/\(∀ {T U:Type} (f:T->U) (a:T) (l:List T),(a :: l).map f=f a :: l.map f)/\(∀ {T U:Type} (f:T->U),[].map f=[]):=⟨g8,fun _ _ _=>rfl,fun _=>rfl⟩
theorem eZ:dv ax/\dv aq/\dv au/\dv cz/\dv aI/\dv aw/\dv ak/\dv aD/\dv az/\dv bp/\dv cG/\dv aJ/\(∀ (L:Nat) (x:ar),bt L (ax x)=true)/\(∀ (L:Nat) (x:ay),bt L (aq x)=true)/\(∀ (L:Nat) (x:(Int×Int)),bt L (au x)=true)/\(∀ (L:Nat) (x:bh),bt L (cz x)=true)/\(∀ (L:Nat) (x:bL),bt L (aI x)=true)/\(∀ (L:Nat) (x:aN),bt L (aw x)=true)/\(∀ (L:Nat) (x:av),bt L (ak x)=true)/\(∀ (L:Nat) (x:bj),bt L (aD x)=true)/\(∀ (L:Nat) (x:aU),bt L (az x)=true)/\(∀ (L:Nat) (x:fa),bt L (bp x)=true)/\(∀ (L:Nat) (x:(Bool×Bool×Bool×Bool)),bt L (cG x)=true)/\(∀ (L:Nat) (x:cF),bt L (aJ x)=true)/\True:=⟨dJ,dx,de,gx,iq,jq,gO,gY,eu,fD,oU,fE,xI,vV,sF,BX,BV,BW,xJ,vW,n6,oV,xH,jC,trivial⟩
def HR {X Y:Type} [DecidableEq X]:List (X×Y)->X->Option Y
 | [],_=>none
 | e :: t,z=>if e.1=z then some e.2 else HR t z
theorem yE {X Y:Type} [DecidableEq X]:∀ {t:List (X×Y)} {z:X} {y:Y},HR t z=some y->(z,y)∈t
 | [],_,_,h=>by cases h
 | e :: t,z,y,h=>by
  unfold HR at h
  split at h
  ·rename_i he
   cases h; subst he
   exact ZJ ..
  ·exact ZD _ (yE h)
noncomputable def Rd (C:OT) (N:Nat) (k:Nat) (args:List A):Option A:=match dH (cx C) N k args [] 0 with
 | some (.ret x,H)=>some (br H x)
 | _=>none
noncomputable def Cn:Nat->Nat->List A->Option A
 | 0=>fun _ _=>none
 | m+1=>Rd (Cn m) 1000
def OM (n:Nat) (a:Int) (b:Int) (a2:Int):Option Bool:=
 (bif (decide (b<=a)) then (some (decide (a<=a2))) else (some false)).bind fun c=>some c
theorem VG (C:OT) (n:Nat) (a:Int) (b:Int) (a2:Int):TJ C n 23 [(iA a),(iA b),(iA a2)] (OM n a b a2) (fun y=>(bA y)):=by
 refine .lp (Wz ..) ?_
 unfold OM
 refine .st (dT ..) (.bg (fun t (y:Bool)=>∃ c d e:A,t=[(bA y),c,d,e]) ?_ ?_)
 ·refine .bi ?_ ?_
  ·exact .st (dT ..) (.lg ⟨_,_,_,rfl⟩)
  exact .lg ⟨_,_,_,rfl⟩
 rintro _ f ⟨c,d,e,rfl⟩
 exact .u4 (.lv rfl)
def wM (a:Int) (b:Int) (a2:Int):Option Bool:=OM aA a b a2
def mZ (C:OT):Prop:=∀ (a:Int) (b:Int) (a2:Int),C 23 [(iA a),(iA b),(iA a2)]=(wM a b a2).map fun y=>(bA y)
def QS (n:Nat)  : Option bh:=
 some ((bh.mk ([]) ([])))
theorem VW (C:OT) (n:Nat):TJ C n 51 [] (QS n ) (fun y=>(ag [(im (y.Queue.map aq) false),(im (y.Apart.map au) false)])):=by
 refine .lp (WQ ..) ?_
 unfold QS
 exact .s ((pt 0 0),[bx [Ye,Ye]]) (.s (ag [Ye,Ye]) (.s [bx [Ye,Ye]] (.s (ag [Ye,Ye]) (.lv u2))))
def QU  : Option bh:=QS aA
def IG (C:OT):Prop:=∀ (_:Unit),C 51 []=(QU ).map fun y=>(ag [(im (y.Queue.map aq) false),(im (y.Apart.map au) false)])
def QP (n:Nat) (a:Int):Option (av×Int):=
 (wM a 1 12).bind fun b=>bif (!b) then (some (((av.mk ((bh.mk ([]) ([]))) ([]) 0),1))) else ((QU ).bind fun c=>(EK 72 a ((aN.mk ([]) ([]) ([])))).bind fun d=>some (((av.mk c d 0),0)))
theorem VB (C:OT) (n:Nat) (d:mZ C) (h:IG C) (b:Int):TJ C n 18 [(iA b)] (QP n b) (fun y=>(tp [(ag (ak y.1)),(iA y.2)])):=by
 refine .lp (Wu ..) ?_
 unfold QP
 refine .s ((pt 0 0),[bx [Ye,Ye,Ye,(iA 0)]]) (.bd (d b 1 12) fun i=>.s (bA (!i)) (.bQ ?_ ?_))
 ·exact .s (ag [Ye,Ye,Ye,(iA 0)]) (.s [bx [Ye,Ye,Ye,(iA 0)]] (.s (ag [Ye,Ye,Ye,(iA 0)]) (.lv u2)))
 exact .bd (h ()) fun a=>.bd (g:=fun (y:List aN)=>((im (y.map aw) false),[bx [Ye,Ye,Ye,(iA 0)]])) (Ao (e:=50) (es:=3) (f:=aw) (z:=(aN.mk ([]) ([]) ([]))) (z':=[Ye,Ye,Ye]) r8 r8 r8 r8 rfl (by decide) (fun _=>rfl)) fun c=>.s (ag [(im (a.Queue.map aq) false),(im (a.Apart.map au) false),(im (c.map aw) false),(iA 0)]) (.s [bx [(im (a.Queue.map aq) false),(im (a.Apart.map au) false),(im (c.map aw) false),(iA 0)]] (.s (ag [(im (a.Queue.map aq) false),(im (a.Apart.map au) false),(im (c.map aw) false),(iA 0)]) (.lv u2)))
def LH (a:Int):Option (av×Int):=QP aA a
def Ix (C:OT):Prop:=∀ (a:Int),C 18 [(iA a)]=(LH a).map fun y=>(tp [(ag (ak y.1)),(iA y.2)])
def QT (n:Nat) (a:Int) (b:Int):Option (Int×Int):=
 some (((if b<a then b else a),(if a<b then b else a)))
theorem Wc (C:OT) (n:Nat) (a:Int) (b:Int):TJ C n 70 [(iA a),(iA b)] (QT n a b) (fun y=>(ag [(iA y.1),(iA y.2)])):=by
 refine .lp (W9 ..) ?_
 unfold QT
 exact .s ((pt 0 0),[bx [(iA 0),(iA 0)]]) (.s (iA ((if b<a then b else a))) (.s (iA ((if a<b then b else a))) (.s (ag [(iA ((if b<a then b else a))),(iA ((if a<b then b else a)))]) (.s [bx [(iA ((if b<a then b else a))),(iA ((if a<b then b else a)))]] (.s (ag [(iA ((if b<a then b else a))),(iA ((if a<b then b else a)))]) (.lv rfl))))))
def Pv (a:Int) (b:Int):Option (Int×Int):=QT aA a b
def IL (C:OT):Prop:=∀ (a:Int) (b:Int),C 70 [(iA a),(iA b)]=(Pv a b).map fun y=>(ag [(iA y.1),(iA y.2)])
def Pm (n:Nat) (a:(Int×Int)):Option Bool:=
 (bif (decide (0<=a.1)) then (some (decide (a.1<a.2))) else (some false)).bind fun b=>(bif b then (some (decide (a.2<24))) else (some false)).bind fun c=>some c
theorem Wi (C:OT) (n:Nat) (a:(Int×Int)):TJ C n 84 [(ag [(iA a.1),(iA a.2)])] (Pm n a) (fun y=>(bA y)):=by
 refine .lp (Xg ..) ?_
 unfold Pm
 refine .s ((pt 0 0),[bx [(iA a.1),(iA a.2)]]) (.s (pt 0 0) (.s (iA a.1) (.st (dq ..) (.bg (fun t (y:Bool)=>∃ b c d e f:A,t=[(bA y),b,c,d,e,f]) ?_ ?_))))
 ·refine .bi ?_ ?_
  ·exact .s (pt 0 0) (.s (iA a.1) (.s (pt 0 1) (.s (iA a.2) (.st (aS ..) (.lg ⟨_,_,_,_,_,rfl⟩)))))
  exact .lg ⟨_,_,_,_,_,rfl⟩
 rintro _ j ⟨b,c,d,e,f,rfl⟩
 refine .u4 (.uc (.uc (.bg (fun t (y:Bool)=>∃ g h i:A,t=[(bA y),g,h,i]) ?_ ?_)))
 ·refine .bi ?_ ?_
  ·exact .s (pt 0 1) (.s (iA a.2) (.st (aS ..) (.lg ⟨_,_,_,rfl⟩)))
  exact .lg ⟨_,_,_,rfl⟩
 rintro _ k ⟨g,h,i,rfl⟩
 exact .u4 (.lv rfl)
def Ln (a:(Int×Int)):Option Bool:=Pm aA a
def Aw (C:OT):Prop:=∀ (a:(Int×Int)),C 84 [(ag [(iA a.1),(iA a.2)])]=(Ln a).map fun y=>(bA y)
def Ph (n:Nat) (a:ay):Option Bool:=
 (Pv a.From a.To).bind fun b=>(Ln b).bind fun c=>(bif c then (some (decide (((a.Data.length:Int))<=1048576))) else (some false)).bind fun d=>some d
theorem Wf (C:OT) (n:Nat) (g:IL C) (h:Aw C) (a:ay):TJ C n 80 [(ag (aq a))] (Ph n a) (fun y=>(bA y)):=by
 refine .lp (Xc ..) ?_
 unfold Ph
 refine .s ((pt 0 0),[bx (aq a)]) (.s2 (iA a.From) (.s2 (iA a.To) (.bd (g a.From a.To) fun i=>.bd (h i) fun j=>.bg (fun t (y:Bool)=>∃ b c d f:A,t=[(bA y),b,c,d,f]) ?_ ?_)))
 ·refine .bi ?_ ?_
  ·exact .s (pt 0 2) (.s (im (a.Data.map c8) false) (.st (dn (e:=5)) (.st (dT ..) (.lg ⟨_,_,_,_,rfl⟩))))
  exact .lg ⟨_,_,_,_,rfl⟩
 rintro _ k ⟨b,c,d,f,rfl⟩
 exact .u4 (.uc (.lv rfl))
def Lm (a:ay):Option Bool:=Ph aA a
def CV (C:OT):Prop:=∀ (a:ay),C 80 [(ag (aq a))]=(Lm a).map fun y=>(bA y)
def Pk (n:Nat) (a:ay):Option Bool:=
 (Lm a).bind fun b=>some (!b)
theorem Wh (C:OT) (n:Nat) (b:CV C) (a:ay):TJ C n 83 [(ag (aq a))] (Pk n a) (fun y=>(bA y)):=by
 refine .lp (Xf ..) ?_
 unfold Pk
 exact .s ((pt 0 0),[bx (aq a)]) (.s (ag (aq a)) (.bd (g:=fun (y:Bool)=>(bA y)) (by simp only[cf,dF]; exact b a) fun c=>.s (bA (!c)) (.lv rfl)))
def L3 (a:ay):Option Bool:=Pk aA a
def CW (C:OT):Prop:=∀ (a:ay),C 83 [(ag (aq a))]=(L3 a).map fun y=>(bA y)
def fH (n:Nat) (b:(List ay)) (c:Int):Nat->Int->Option ((Int)⊕(Unit))
 | 0,_=>none
 | m+1,a=>bif (decide (a<c)) then ((bf b a).bind fun d=>(L3 d).bind fun e=>bif e then (some ((Sum.inl a))) else (fH n b c m (wr .i64 (a+1)))) else (some ((Sum.inr (()))))
theorem wZ (l:CW C) {w24:A} (h:(List ay)) (i:Int) {K:((Int)⊕(Unit))->Option γ} (o:∀ (j:Int) (a:A) (b:A) (c:A) (d:A),J φ (kr (St.mk [(0,a),(1,b),(4,(iA j)),(7,c),(8,d)] [])) kL (K (Sum.inl j)) some) (p:∀ (a:A) (b:A) (q:A) (c:A) (d:A),J φ (kx 0 (St.mk [(0,a),(1,b),(4,q),(7,c),(8,d)] [])) kL (K (Sum.inr (()))) some) :
  ∀ (m:Nat) (f:Int),J φ (aE (cx C) (ec C n 8) (ey C n 8) (n+8) 99 0 0 0 kx kg kr kp m (St.mk [(0,(im (h.map aq) false)),(1,(tG 83 [] [])),(4,w24),(7,(iA i)),(8,(iA f))] [])) kL (fH n h i m f) K:=by
  refine nI (fun _=>.nn) fun m ih f=>.lp (MT ..) ?_
  unfold fH
  refine .st (aS ..) (.bQ ?_ ?_)
  ·refine .bd (dr (e:=68) (es:=3)) fun k=>.s (ag (aq k)) (.dO r8 r8 (.bd (g:=fun (y:Bool)=>(bA y)) (by simp only[Zs,Y5,Zp,cf,dF]; exact l k) fun r=>.bQ ?_ ?_))
   ·exact .ex (o _ _ _ _ _)
   refine .st (aF ..) (.s [] (.cT r8 ?_))
   exact ih _
  exact .ex (p _ _ _ _ _)
def vd (n:Nat) (a:(List ay)):Option Int:=
 (fH n a ((a.length:Int)) (n+8) 0).bind fun Ly=>match Ly with | (Sum.inl b)=>some b | (Sum.inr _)=>some (-1)
theorem J6 (C:OT) (n:Nat) (b:CW C) (a:(List ay)):TJ C n 99 [(im (a.map aq) false),(tG 83 [] [])] (vd n a) (fun y=>(iA y)):=by
 refine .lp (Xr ..) ?_
 unfold vd
 refine .st (dn (e:=68)) (.as (wZ C n _ _ _ _ b a ((a.length:Int)) ?_ ?_ _ 0))
 ·intro c d f g h
  exact .un rfl (.lv rfl)
 ·intro i j k l o
  exact .un rfl (.cT r8 (.lv rfl))
def ve (a:(List ay)):Option Int:=vd aA a
def wQ (C:OT):Prop:=∀ (a:(List ay)),C 99 [(im (a.map aq) false),(tG 83 [] [])]=(ve a).map fun y=>(iA y)
def vc (n:Nat) (a:(List ay)):Option Bool:=
 (ve a).bind fun b=>some (decide (0<=b))
theorem J1 (C:OT) (n:Nat) (h99_83:wQ C) (a:(List ay)):TJ C n 82 [(im (a.map aq) false),(tG 83 [] [])] (vc n a) (fun y=>(bA y)):=by
 refine .lp (Xe ..) ?_
 unfold vc
 exact .bd (g:=fun (y:Int)=>(iA y)) (by simp only[cf,dF]; exact h99_83 a) fun b=>.st (dq ..) (.lv rfl)
def rD (a:(List ay)):Option Bool:=vc aA a
def wP (C:OT):Prop:=∀ (a:(List ay)),C 82 [(im (a.map aq) false),(tG 83 [] [])]=(rD a).map fun y=>(bA y)
def FF (n:Nat) (a:Int):Option Bool:=
 some (a != a)
theorem Q1 (C:OT) (n:Nat) (a:Int):TJ C n 116 [(iA a)] (FF n a) (fun y=>(bA y)):=by
 refine .lp (Rn ..) ?_
 unfold FF
 exact .st (aH ..) (.lv rfl)
def wL (a:Int):Option Bool:=FF aA a
def vg (C:OT):Prop:=∀ (a:Int),C 116 [(iA a)]=(wL a).map fun y=>(bA y)
def oW (a:(List ay)) (b:(List (Int×Int))):aC:=bx [(im (a.map aq) false),(im (b.map au) false)]
def gm (n:Nat) (e:(List Int)) (f:Int) (c:Int) (d:Int):Nat->Int->Option ((Int)⊕(Unit))
 | 0,_=>none
 | m+1,a=>bif (decide (a<f)) then ((bf e a).bind fun b=>bif (decide (2<=a)) then (some ((Sum.inl 1))) else (bif decide (a=0) then (((wL b).bind fun k=>(wL c).bind fun g=>bif k then (bif g then (some 0) else (some (-1))) else (bif g then (some 1) else (bif (decide (b<c)) then (some (-1)) else (bif (decide (c<b)) then (some 1) else (some 0))))).bind fun h=>bif (h != 0) then (some ((Sum.inl h))) else (gm n e f c d m (wr .i64 (a+1)))) else bif decide (a=1) then (((wL b).bind fun l=>(wL d).bind fun i=>bif l then (bif i then (some 0) else (some (-1))) else (bif i then (some 1) else (bif (decide (b<d)) then (some (-1)) else (bif (decide (d<b)) then (some 1) else (some 0))))).bind fun j=>bif (j != 0) then (some ((Sum.inl j))) else (gm n e f c d m (wr .i64 (a+1)))) else none)) else (some ((Sum.inr (()))))
theorem Dm (c:vg C) {w227 w228:A} {w229:aC} (k:(List Int)) (l:Int) (a:Int) (b:Int) {K:((Int)⊕(Unit))->Option γ} (d:∀ (o:Int) (p:A) (q:A) (f:A) (g:A) (h:A) (q1:aC),J φ (kr (St.mk [(0,p),(1,q),(4,(iA o)),(9,f),(10,g),(11,h)] [w229,q1])) kL (K (Sum.inl o)) some) (r:∀ (u:A) (f:A) (g:A) (h:A),J φ (kx 0 (St.mk [(0,w227),(1,(bM 1 0 2 true)),(4,u),(9,f),(10,g),(11,h)] [w229,aC.row true 1 [[(iA a)],[(iA b)]]])) kL (K (Sum.inr (()))) some) :
  ∀ (m:Nat) (i:Int),J φ (aE (cx C) (ec C n 7) (ey C n 7) (n+7) 85 0 0 2 kx kg kr kp m (St.mk [(0,w227),(1,(bM 1 0 2 true)),(4,w228),(9,(im (k.map (cI .i64)) true)),(10,(iA l)),(11,(iA i))] [w229,aC.row true 1 [[(iA a)],[(iA b)]]])) kL (gm n k l a b m i) K:=by
  refine nI (fun _=>.nn) fun m ih i=>.lp (MQ ..) ?_
  unfold gm
  refine .st (aS ..) (.bQ ?_ ?_)
  ·refine .bd (dr (e:=3) (es:=1)) fun j=>.s (iA j) (.s (iA 2) (.st (dq ..) (.bQ ?_ ?_)))
   ·exact .ex (d _ _ _ _ _ _ _)
   refine .sp (fun w=>?_) (fun _=>?_)
   ·refine .st (v:=(A.ep 1 0 0)) (by rw[Yr w]; kernel_rfl) (.s (iA a) (.bg (fun (t:Out×aB) (y:Int)=>t=(Out.ret (iA y),[w229,aC.row true 1 [[(iA a)],[(iA b)]]])) ?_ ?_))
    ·refine .lp ((bl EH).trans (Mp ..)) (.bd (c j) fun z=>.bd (c a) fun a0=>.bQ ?_ ?_)
     ·refine .bQ ?_ ?_
      ·exact .lg rfl
      exact .lg rfl
     refine .bQ ?_ ?_
     ·exact .lg rfl
     refine .st (aS ..) (.bQ ?_ ?_)
     ·exact .lg rfl
     refine .st (cC ..) (.bQ ?_ ?_)
     ·exact .lg rfl
     exact .lg rfl
    rintro _ a1 rfl
    refine .ok (.st (aH ..) (.bQ ?_ ?_))
    ·exact .ex (d _ _ _ _ _ _ _)
    refine .st (aF ..) (.s [w229,aC.row true 1 [[(iA a)],[(iA b)]]] (.cT r8 ?_))
    exact ih _
   refine .sp (fun x=>?_) (fun _=>?_)
   ·refine .st (v:=(A.ep 1 1 0)) (by rw[Yr x]; kernel_rfl) (.s (iA b) (.bg (fun (t:Out×aB) (y:Int)=>t=(Out.ret (iA y),[w229,aC.row true 1 [[(iA a)],[(iA b)]]])) ?_ ?_))
    ·refine .lp ((bl EH).trans (Mp ..)) (.bd (c j) fun a2=>.bd (c b) fun a3=>.bQ ?_ ?_)
     ·refine .bQ ?_ ?_
      ·exact .lg rfl
      exact .lg rfl
     refine .bQ ?_ ?_
     ·exact .lg rfl
     refine .st (aS ..) (.bQ ?_ ?_)
     ·exact .lg rfl
     refine .st (cC ..) (.bQ ?_ ?_)
     ·exact .lg rfl
     exact .lg rfl
    rintro _ a4 rfl
    refine .ok (.st (aH ..) (.bQ ?_ ?_))
    ·exact .ex (d _ _ _ _ _ _ _)
    refine .st (aF ..) (.s [w229,aC.row true 1 [[(iA a)],[(iA b)]]] (.cT r8 ?_))
    exact ih _
   exact .nn
  exact .ex (r _ _ _ _)
def ib (n:Nat) (f:Int) (b:(List (Int×Int))) (c:Int) (g:(List ay)) (d:(List (Int×Int))):Nat->Int->Option ((Int)⊕(Unit))
 | 0,_=>none
 | m+1,a=>bif (decide (a<c)) then ((bf b a).bind fun e=>(Ln e).bind fun i=>bif (!i) then ((some (())).bind fun r=>(some (())).bind fun s=>some ((Sum.inl 60))) else (bif (decide (0<a)) then ((bf d (wr .i64 (a - 1))).bind fun h=>((gm n ([h.1,h.2]) 2 e.1 e.2 (n+7) 0).bind fun j=>match j with | (Sum.inl k)=>some k | (Sum.inr _)=>some 0).bind fun l=>(some (decide (0<=l))).bind fun o=>((some o).bind fun p=>some p).bind fun q=>bif q then (some ((Sum.inl 60))) else (ib n f b c g d m (wr .i64 (a+1)))) else ((some (())).bind fun t=>((some (())).bind fun u=>some (())).bind fun v=>ib n f b c g d m (wr .i64 (a+1))))) else (some ((Sum.inr (()))))
theorem Dl (a0:vg C) (a1:Aw C) (p:Int) (f:(List (Int×Int))) (q:Int) (d:(List ay)) (b:(List (Int×Int))) {K:((Int)⊕(Unit))->Option γ} (r:∀ (u:Int) (i:A) (j:A) (k:A) (l:A) (q0:aC) (q1:aC),J φ (kr (St.mk [(1,i),(2,(iA u)),(15,j),(16,k),(17,l)] [q0,q1])) kL (K (Sum.inl u)) some) (x1:∀ (i:A) (s2:A) (j:A) (k:A) (l:A) (q0:aC),J φ (kx 0 (St.mk [(1,i),(2,s2),(15,j),(16,k),(17,l)] [q0])) kL (K (Sum.inr (()))) some) :
  ∀ (m:Nat) (o:Int),J φ (aE (cx C) (ec C n 8) (ey C n 8) (n+8) 55 0 0 1 kx kg kr kp m (St.mk [(1,(pt 0 0)),(2,(iA p)),(15,(im (f.map au) false)),(16,(iA q)),(17,(iA o))] [(oW d b)])) kL (ib n p f q d b m o) K:=by
  refine nI (fun _=>.nn) fun m ih o=>.lp (MF ..) ?_
  unfold ib
  refine .st (aS ..) (.bQ ?_ ?_)
  ·refine .bd (dr (e:=99) (es:=2)) fun a=>.s (ag [(iA a.1),(iA a.2)]) (.sq (A.ep 1 0 0) (.s [(oW d b),aC.row true 1 [[(iA a.1)],[(iA a.2)]]] (.s (ag [(iA a.1),(iA a.2)]) (.bd (a1 a) fun a3=>.s (bA (!a3)) (.FA (fun g=>?_) (fun g=>?_))))))
   ·refine .bb (.st (cC ..) (.B4 (fun c=>?_) (fun c=>?_)))
    ·refine .bb (.s (pt 0 1) (.s (im (b.map au) false) (.st (dh ..) (.bd (dr (e:=99) (es:=2)) fun h=>.s (im [[(iA h.1)],[(iA h.2)]] true) (.s (bM 1 0 2 true) (.cr (.u4 (.uc (.uc (.uc (.cr (.u4 (.u4 (.uc (.uc (.lp (bX c) (.bg (fun (t:Out×aB) (y:Int)=>∃ w271:aC,t=(Out.ret (iA y),[(oW d b),w271])) ?_ ?_)))))))))))))))))
     ·refine .lp ((bl Ng).trans (Xh ..)) (.s (iA 2) (.as (Dm C n _ _ _ _ a0 ([h.1,h.2]) 2 a.1 a.2 ?_ ?_ _ 0)))
      ·intro a4 a5 a6 a7 a8 a9 w265
       exact .un rfl (.lg ⟨_,rfl⟩)
      ·intro aa ab ad ae
       exact .un rfl (.cT r8 (.s (iA 2) (.s (iA 2) (.s (bA false) (.Kd (.lg ⟨_,rfl⟩))))))
     rintro _ af ⟨w271,rfl⟩
     refine .ok (.bg (fun t (y:Bool) =>  t=[(bA y)]) ?_ ?_)
     ·exact .lp (bX c) (.st (dq ..) (.lg rfl))
     rintro _ ah rfl
     refine .uc (.bg (fun t (y:Bool)=>∃ w:A,t=[(bA y),w]) ?_ ?_)
     ·refine .qb g (.bg (fun t (y:Bool) =>  t=(bA y)) ?_ ?_)
      ·exact .qs c (.lg rfl)
      rintro _ ai rfl
      exact .lg ⟨_,rfl⟩
     rintro _ aj ⟨w,rfl⟩
     refine .uc (.uc (.bQ ?_ ?_))
     ·exact .ex (r _ _ _ _ _ _ _)
     refine .st (aF ..) (.st (v:=[(oW d b)]) (dB r8 (by simp only[uB,eY,eZ,Nat.reduceLT,YW,oW])) (.cT ((by kernel_rfl:_=(bif aM 1 (f.map au) then true else false)).trans u3) ?_))
     exact ih _
    refine .bb (.cr (.u4 (.uc (.uc (.uc (.cr (.u4 (.u4 (.uc (.uc (.lp (bW c) (.bg (fun t (y:Unit) =>  t=[(A.v undef)]) ?_ ?_))))))))))))
    ·exact .lp (bW c) (.lg rfl)
    rintro _ ak rfl
    refine .uc (.bg (fun t (y:Unit)=>∃ x:A,t=[(bA false),x]) ?_ ?_)
    ·refine .qb g (.bg (fun t (y:Unit) =>  t=(bA false)) ?_ ?_)
     ·exact .qb c (.lg rfl)
     rintro _ al rfl
     exact .lg ⟨_,rfl⟩
    rintro _ am ⟨x,rfl⟩
    refine .uc (.uc (.Kd (.st (aF ..) (.st (v:=[(oW d b)]) (dB r8 (by simp only[uB,eY,eZ,Nat.reduceLT,YW,oW])) (.cT ((by kernel_rfl:_=(bif aM 1 (f.map au) then true else false)).trans u3) ?_)))))
    exact ih _
   refine .bb (.cr (.u4 (.u4 (.uc (.uc (.gU (.bg (fun t (y:Unit) =>  t=[(A.v undef)]) ?_ ?_)))))))
   ·exact .gU (.lg rfl)
   rintro _ an rfl
   refine .uc (.bg (fun t (y:Unit)=>∃ z:A,t=[(bA true),z]) ?_ ?_)
   ·exact .qs g (.lg ⟨_,rfl⟩)
   rintro _ ao ⟨z,rfl⟩
   exact .uc (.uc (.Lr (.ex (r _ _ _ _ _ _ _))))
  exact .ex (x1 _ _ _ _ _ _)
def O3 (n:Nat) (a:bh):Option Int:=
 (bif (decide (4096<((a.Queue.length:Int)))) then (some true) else ((rD a.Queue).bind fun b=>some b)).bind fun c=>bif c then (some 60) else ((ib n 0 a.Apart ((a.Apart.length:Int)) a.Queue a.Apart (n+8) 0).bind fun d=>match d with | (Sum.inl e)=>some e | (Sum.inr _)=>some 0)
theorem V0 (C:OT) (n:Nat) (f:vg C) (h82_83:wP C) (h:Aw C) (a:bh):TJ C n 55 [(ag [(im (a.Queue.map aq) false),(im (a.Apart.map au) false)])] (O3 n a) (fun y=>(iA y)):=by
 refine .lp (WU ..) ?_
 unfold O3
 refine .s ((pt 0 0),[bx [(im (a.Queue.map aq) false),(im (a.Apart.map au) false)]]) (.s2 (im (a.Queue.map aq) false) (.st (dn (e:=68)) (.st (cC ..) (.bg (fun t (y:Bool)=>∃ b c d:A,t=[(bA y),b,c,d]) ?_ ?_))))
 ·refine .bi ?_ ?_
  ·exact .lg ⟨_,_,_,rfl⟩
  exact .s (pt 0 0) (.s (im (a.Queue.map aq) false) (.bd (g:=fun (y:Bool)=>(bA y)) (by simp only[cf,dF]; exact h82_83 a.Queue) fun i=>.lg ⟨_,_,_,rfl⟩))
 rintro _ j ⟨b,c,d,rfl⟩
 refine .u4 (.bQ ?_ ?_)
 ·exact .lv rfl
 refine .s2 (im (a.Apart.map au) false) (.st (dn (e:=99)) (.as (Dl C n _ _ _ _ f h 0 a.Apart ((a.Apart.length:Int)) a.Queue a.Apart ?_ ?_ _ 0)))
 ·intro k l o p q w290 w291
  exact .un rfl (.lv rfl)
 ·intro r u v w x w297
  exact .un rfl (.cT r8 (.lv rfl))
def Li (a:bh):Option Int:=O3 aA a
def CN (C:OT):Prop:=∀ (a:bh),C 55 [(ag [(im (a.Queue.map aq) false),(im (a.Apart.map au) false)])]=(Li a).map fun y=>(iA y)
def O0 (n:Nat) (a:bL) (b:Int):Option Bool:=
 (wM a.No 0 1048576).bind fun c=>(bif c then ((wM a.Role 0 (wr .i64 (b - 1))).bind fun d=>some d) else (some false)).bind fun e=>(bif e then ((wM a.Bar 0 4095).bind fun f=>some f) else (some false)).bind fun g=>(bif g then ((wM a.Program 1 8).bind fun h=>some h) else (some false)).bind fun i=>some i
theorem VX (C:OT) (n:Nat) (b:mZ C) (a:bL) (c:Int):TJ C n 52 [(ag (aI a)),(iA c)] (O0 n a c) (fun y=>(bA y)):=by
 refine .lp (WR ..) ?_
 unfold O0
 refine .s ((pt 0 0),[bx (aI a)]) (.s2 (iA a.No) (.bd (b a.No 0 1048576) fun q=>.bg (fun t (y:Bool)=>∃ d e f g h:A,t=[(bA y),d,e,f,g,h]) ?_ ?_))
 ·refine .bi ?_ ?_
  ·exact .s (pt 0 1) (.s (iA a.Role) (.st (dh ..) (.bd (b a.Role 0 (wr .i64 (c - 1))) fun r=>.lg ⟨_,_,_,_,_,rfl⟩)))
  exact .lg ⟨_,_,_,_,_,rfl⟩
 rintro _ u ⟨d,e,f,g,h,rfl⟩
 refine .u4 (.uc (.uc (.bg (fun t (y:Bool)=>∃ i j k:A,t=[(bA y),i,j,k]) ?_ ?_)))
 ·refine .bi ?_ ?_
  ·exact .s (pt 0 2) (.s (iA a.Bar) (.bd (b a.Bar 0 4095) fun v=>.lg ⟨_,_,_,rfl⟩))
  exact .lg ⟨_,_,_,rfl⟩
 rintro _ w ⟨i,j,k,rfl⟩
 refine .u4 (.bg (fun t (y:Bool)=>∃ l o p:A,t=[(bA y),l,o,p]) ?_ ?_)
 ·refine .bi ?_ ?_
  ·exact .s (pt 0 3) (.s (iA a.Program) (.bd (b a.Program 1 8) fun x=>.lg ⟨_,_,_,rfl⟩))
  exact .lg ⟨_,_,_,rfl⟩
 rintro _ z ⟨l,o,p,rfl⟩
 exact .u4 (.lv rfl)
def JO (a:bL) (b:Int):Option Bool:=O0 aA a b
def uf (C:OT):Prop:=∀ (a:bL) (b:Int),C 52 [(ag (aI a)),(iA b)]=(JO a b).map fun y=>(bA y)
def la (n:Nat) (c:(List Int)) (d:Int) (b:aN):Nat->Int->Option ((Bool)⊕(Unit))
 | 0,_=>none
 | m+1,a=>bif (decide (a<d)) then ((bf c a).bind fun e=>(wM e 0 8).bind fun f=>(bif (!f) then (some true) else ((bf b.Did a).bind fun g=>(bif (g != e) then ((bf b.Did a).bind fun h=>some (h != 0)) else (some false)).bind fun i=>some i)).bind fun j=>bif j then (some ((Sum.inl false))) else (la n c d b m (wr .i64 (a+1)))) else (some ((Sum.inr (()))))
theorem Dn (aa:mZ C) {w115 w116 w117 w118:A} (g:(List Int)) (h:Int) (a:aN) {K:((Bool)⊕(Unit))->Option γ} (x0:∀ (i:Bool) (s1:A) (s2:A) (s3:A) (s4:A) (b:A) (c:A) (d:A) (q0:aC),J φ (kr (St.mk [(1,s1),(2,s2),(3,s3),(4,s4),(8,(bA i)),(27,b),(28,c),(29,d)] [q0])) kL (K (Sum.inl i)) some) (x1:∀ (b:A) (c:A) (d:A),J φ (kx 0 (St.mk [(1,w115),(2,w116),(3,w117),(4,(pt 0 0)),(8,w118),(27,b),(28,c),(29,d)] [bx (aw a)])) kL (K (Sum.inr (()))) some) :
  ∀ (m:Nat) (f:Int),J φ (aE (cx C) (ec C n 8) (ey C n 8) (n+8) 56 0 0 1 kx kg kr kp m (St.mk [(1,w115),(2,w116),(3,w117),(4,(pt 0 0)),(8,w118),(27,(im (g.map (cI .i64)) false)),(28,(iA h)),(29,(iA f))] [bx (aw a)])) kL (la n g h a m f) K:=by
  refine nI (fun _=>.nn) fun m ih f=>.lp (MG ..) ?_
  unfold la
  refine .st (aS ..) (.bQ ?_ ?_)
  ·refine .bd (dr (e:=3) (es:=1)) fun j=>.s (iA j) (.bd (aa j 0 8) fun ah=>.s (bA (!ah)) (.bg (fun t (y:Bool)=>∃ k l o p q r u v w x z a0 a1 a2 a3:A,t=[(bA y),k,l,o,p,q,r,u,v,w,x,z,a0,a1,a2,a3]) ?_ ?_))
   ·refine .bi ?_ ?_
    ·exact .lg ⟨_,_,_,_,_,_,_,_,_,_,_,_,_,_,_,rfl⟩
    refine .s (pt 0 2) (.s (im (a.Did.map (cI .i64)) false) (.bd (dr (e:=3) (es:=1)) fun ai=>.s (iA ai) (.st (aH ..) (.bg (fun t (y:Bool)=>∃ a4 a5 a6 a7 a8 a9:A,t=[(bA y),a4,a5,a6,a7,a8,a9]) ?_ ?_))))
    ·refine .bi ?_ ?_
     ·exact .s (pt 0 2) (.s (im (a.Did.map (cI .i64)) false) (.bd (dr (e:=3) (es:=1)) fun aj=>.s (iA aj) (.st (aH ..) (.lg ⟨_,_,_,_,_,_,rfl⟩))))
     exact .lg ⟨_,_,_,_,_,_,rfl⟩
    rintro _ ak ⟨a4,a5,a6,a7,a8,a9,rfl⟩
    exact .u4 (.uc (.uc (.uc (.lg ⟨_,_,_,_,_,_,_,_,_,_,_,_,_,_,_,rfl⟩))))
   rintro _ al ⟨k,l,o,p,q,r,u,v,w,x,z,a0,a1,a2,a3,rfl⟩
   refine .u4 (.u4 (.u4 (.u4 (.bQ ?_ ?_))))
   ·exact .ex (x0 _ _ _ _ _ _ _ _ _)
   refine .st (aF ..) (.s [bx (aw a)] (.cT r8 ?_))
   exact ih _
  exact .ex (x1 _ _ _)
def lb (n:Nat) (c:Int) (d:Int) (g:Bool) (e:(List bL)) (f:Int) (h:aN):Nat->Int->Int->Option ((Bool)⊕(Unit))
 | 0,_,_=>none
 | m+1,i,b=>bif (decide (b<f)) then ((bf e b).bind fun a=>(JO a d).bind fun j=>(bif (!j) then (some true) else (some (a.Role != c))).bind fun k=>(bif k then (some true) else (some (decide (a.Bar<i)))).bind fun l=>bif l then (some ((Sum.inl false))) else (lb n c d g e f h m (wr .i64 (a.Bar+1)) (wr .i64 (b+1)))) else (some ((Sum.inr (()))))
theorem Dp (a4:uf C) (o:Int) (c:Int) (p:Bool) (d:(List bL)) (q:Int) (b:aN) {K:((Bool)⊕(Unit))->Option γ} (x0:∀ (r:Bool) (f:A) (s2:A) (g:A) (h:A) (i:A) (j:A) (q0:aC) (q1:aC),J φ (kr (St.mk [(1,f),(2,s2),(8,(bA r)),(11,g),(57,h),(58,i),(59,j)] [q0,q1])) kL (K (Sum.inl r)) some) (x1:∀ (f:A) (s2:A) (s8:A) (g:A) (h:A) (i:A) (j:A) (q0:aC),J φ (kx 2 (St.mk [(1,f),(2,s2),(8,s8),(11,g),(57,h),(58,i),(59,j)] [q0])) kL (K (Sum.inr (()))) some) :
  ∀ (m:Nat) (k:Int) (l:Int),J φ (aE (cx C) (ec C n 8) (ey C n 8) (n+8) 56 0 1 1 kx kg kr kp m (St.mk [(1,(iA o)),(2,(iA c)),(8,(bA p)),(11,(iA k)),(57,(im (d.map aI) false)),(58,(iA q)),(59,(iA l))] [bx (aw b)])) kL (lb n o c p d q b m k l) K:=by
  refine nI (fun _ _=>.nn) fun m ih k l=>.lp (MH ..) ?_
  unfold lb
  refine .st (aS ..) (.bQ ?_ ?_)
  ·refine .bd (dr (e:=46) (es:=4)) fun a=>.s (ag (aI a)) (.sq (pt 1 0) (.s [bx (aw b),bx (aI a)] (.s (ag (aI a)) (.bd (a4 a c) fun a8=>.s (bA (!a8)) (.bg (fun t (y:Bool)=>∃ u w x z:A,t=[(bA y),u,w,x,z]) ?_ ?_)))))
   ·refine .bi ?_ ?_
    ·exact .lg ⟨_,_,_,_,rfl⟩
    exact .s (pt 1 1) (.s (iA a.Role) (.st (aH ..) (.lg ⟨_,_,_,_,rfl⟩)))
   rintro _ a9 ⟨u,w,x,z,rfl⟩
   refine .u4 (.uc (.bg (fun t (y:Bool)=>∃ a0 a1 a2 a3:A,t=[(bA y),a0,a1,a2,a3]) ?_ ?_))
   ·refine .bi ?_ ?_
    ·exact .lg ⟨_,_,_,_,rfl⟩
    exact .s (pt 1 2) (.s (iA a.Bar) (.st (aS ..) (.lg ⟨_,_,_,_,rfl⟩)))
   rintro _ aa ⟨a0,a1,a2,a3,rfl⟩
   refine .u4 (.uc (.bQ ?_ ?_))
   ·exact .ex (x0 _ _ _ _ _ _ _ _ _)
   refine .s2 (iA a.Bar) (.st (aF ..) (.st (aF ..) (.st (v:=[bx (aw b)]) (dB r8 An) (.cT ((by kernel_rfl:_=(bif aM 1 (d.map aI) then true else false)).trans u3) ?_))))
   exact ih _ _
  exact .ex (x1 _ _ _ _ _ _ _ _)
def O4 (n:Nat) (a:aN) (c:Int) (a2:Int) (b:Int):Option Bool:=
 (bif (((a.Got.length:Int)) != b) then (some true) else (some (((a.Did.length:Int)) != b))).bind fun d=>bif d then (some false) else ((la n a.Got ((a.Got.length:Int)) a (n+8) 0).bind fun e=>match e with | (Sum.inl f)=>some f | (Sum.inr _)=>(lb n c a2 false a.Cues ((a.Cues.length:Int)) a (n+8) b 0).bind fun g=>match g with | (Sum.inl h)=>some h | (Sum.inr _)=>some true)
theorem V1 (C:OT) (n:Nat) (j:mZ C) (k:uf C) (a:aN) (b:Int) (a2:Int) (c:Int):TJ C n 56 [(ag (aw a)),(iA b),(iA a2),(iA c)] (O4 n a b a2 c) (fun y=>(bA y)):=by
 refine .lp (WV ..) ?_
 unfold O4
 refine .s ((pt 0 0),[bx (aw a)]) (.s2 (im (a.Got.map (cI .i64)) false) (.st (dn (e:=3)) (.st (aH ..) (.bg (fun t (y:Bool)=>∃ d f g h i:A,t=[(bA y),d,f,g,h,i]) ?_ ?_))))
 ·refine .bi ?_ ?_
  ·exact .lg ⟨_,_,_,_,_,rfl⟩
  exact .s (pt 0 2) (.s (im (a.Did.map (cI .i64)) false) (.st (dn (e:=3)) (.st (aH ..) (.lg ⟨_,_,_,_,_,rfl⟩))))
 rintro _ l ⟨d,f,g,h,i,rfl⟩
 refine .u4 (.uc (.uc (.bQ ?_ ?_)))
 ·exact .lv rfl
 refine .s2 (im (a.Got.map (cI .i64)) false) (.st (dn (e:=3)) (.as (Dn C n _ _ _ _ j a.Got ((a.Got.length:Int)) a ?_ ?_ _ 0)))
 ·intro o p q r u v w x w163
  exact .un rfl (.lv rfl)
 ·intro z a4 a5
  refine .un rfl (.cT r8 (.s2 (im (a.Cues.map aI) false) (.st (dn (e:=46)) (.as (Dp C n _ _ _ _ k b a2 false a.Cues ((a.Cues.length:Int)) a ?_ ?_ _ c 0)))))
  ·intro a6 a7 a8 a9 aa ab ad w312 w313
   exact .un rfl (.lv rfl)
  ·intro ae af ah ai aj ak al w321
   exact .un rfl (.cT r8 (.lv rfl))
def LR (a:aN) (b:Int) (a2:Int) (c:Int):Option Bool:=O4 aA a b a2 c
def CO (C:OT):Prop:=∀ (a:aN) (b:Int) (a2:Int) (c:Int),C 56 [(ag (aw a)),(iA b),(iA a2),(iA c)]=(LR a b a2 c).map fun y=>(bA y)
def FD (n:Nat) (a:Int):Option Int:=
 some (ru .i64 (wr .i64 (nM .u64 a 1)) (wr .i64 (0 - (wr .i64 (pE .u64 a 1)))))
theorem QY (C:OT) (n:Nat) (a:Int):TJ C n 105 [(A.v (.int .u64 a))] (FD n a) (fun y=>(iA y)):=by
 refine .lp (Rj ..) ?_
 unfold FD
 exact .st (lB (hb:=by decide) ..) (.st (v:=(iA (wr .i64 (nM .u64 a 1)))) (aV (hs:=by kernel_rfl) (hd:=by kernel_rfl) ..) (.st (n9 ..) (.st (v:=(iA (wr .i64 (pE .u64 a 1)))) (aV (hs:=by kernel_rfl) (hd:=by kernel_rfl) ..) (.s (iA (wr .i64 (0 - (wr .i64 (pE .u64 a 1))))) (.st (oa ..) (.lv rfl))))))
def Ct (a:Int):Option Int:=FD aA a
def vf (C:OT):Prop:=∀ (a:Int),C 105 [(A.v (.int .u64 a))]=(Ct a).map fun y=>(iA y)
def aO:aC:=bx [(iA 0),(iA 0),se,Ye]
def jb (a:UInt8):aC:=bx [(iA (wr .i64 ((a.toNat:Int)))),(iA 0),se,Ye]
def JS (C:OT) (N:Nat) (self:(List UInt8)->Int->Option (Bool×ar×(List UInt8))):Prop:=∀ (a2:(List UInt8)) (a:Int) (X:aB),J (fun (o:R) (y:(Bool×ar×(List UInt8)))=>o=((bif y.1 then Out.ret (ag [(iA y.2.1.Kind),(iA y.2.1.N),(sA y.2.1.S),(im (y.2.1.L.map ax) false)]) else Out.pan (A.ifc 32 (iA 10))),[aO,bx [(iA 0)],bx [(im (y.2.2.map c8) false)]]++X)) (dH (cx C) N 93 [(pt 2 0),(iA a)] ([aO,bx [(iA 0)],bx [(im (a2.map c8) false)]]++X) 0) some (self a2 a) some
def eN (n:Nat):Nat->Int->Int->(List UInt8)->Option (((List UInt8))⊕(Int×(List UInt8)))
 | 0,_,_,_=>none
 | m+1,e,a,b=>bif (!(decide (1<=((b.length:Int))))) then (some ((Sum.inl b))) else ((iB b 0 1).bind fun f=>(iB b 1 ((b.length:Int))).bind fun d=>(bf f 0).bind fun c=>(bif (a==0) then (some true) else (some (((c.toNat:Int)) != 0))).bind fun g=>(bif g then ((bif (decide (a<9)) then (some true) else (some (decide (((c.toNat:Int))<=1)))).bind fun h=>some h) else (some false)).bind fun i=>bif (!i) then (some ((Sum.inl d))) else (bif decide (0<=(wr .i64 (7*a))) then (bif (decide (((c.toNat:Int))<128)) then (some ((Sum.inr ((mX .u64 e (po .u64 (wr .u64 (pE .u8 ((c.toNat:Int)) 127)) (wr .i64 (7*a))),d))))) else (eN n m (mX .u64 e (po .u64 (wr .u64 (pE .u8 ((c.toNat:Int)) 127)) (wr .i64 (7*a)))) (wr .i64 (a+1)) d)) else none))
theorem m7 {w767:aC} {K:(((List UInt8))⊕(Int×(List UInt8)))->Option γ} (k:∀ (d:(List UInt8)) (g:A) (s2:A) (h:A),J φ (kp (A.ifc 32 (iA 10)) (St.mk [(0,g),(2,s2),(3,h)] [aO,bx [(iA 0)],bx [(im (d.map c8) false)],w767])) kL (K (Sum.inl d)) some) (x1:∀ (d:Int) (o:(List UInt8)) (g:A) (h:A),J φ (kr (St.mk [(0,g),(2,(A.v (.int .u64 d))),(3,h)] [aO,bx [(iA 0)],bx [(im (o.map c8) false)],w767])) kL (K (Sum.inr ((d,o)))) some) :
  ∀ (m:Nat) (i:Int) (j:Int) (c:(List UInt8)),J φ (aE (cx C) (dH (cx C) (n+6)) (bw (cx C) (n+6)) (n+6) 106 0 0 4 kx kg kr kp m (St.mk [(0,(pt 2 0)),(2,(A.v (.int .u64 i))),(3,(iA j))] [aO,bx [(iA 0)],bx [(im (c.map c8) false)],w767])) kL (eN n  m i j c) K:=by
  refine nI (fun _ _ _=>.nn) fun m ih i j c=>.lp (Kn ..) ?_
  unfold eN
  refine .cl ((bl zO).trans (Kl ..)) (.s (pt 2 0) (.s2 (im (c.map c8) false) (.st (dn (e:=5)) (.st (dT ..) (.cl ((bl p0).trans (Gb ..)) (.s (bA (!(decide (1<=((c.length:Int)))))) (.bQ ?_ ?_)))))))
  ·exact .s (A.ifc 32 (iA 10)) (.pk (.cr (.kl (.cr (.kl (.ex (k _ _ _ _)))))))
  refine .cr (.ok (.s (pt 2 0) (.s2 (im (c.map c8) false) (.bd (pM (e:=5) (es:=1) (f:=c8) (l:=c) (a:=0) (b:=1) r8 r8 (fun _=>rfl) (.inl ⟨rfl,rfl⟩)) fun a7=>.s (pt 2 0) (.s2 (im (c.map c8) false) (.bd (pL (e:=5) (es:=1) (f:=c8) (l:=c) (a:=1) (b:=(c.length:Int)) r8 r8 (fun _=>rfl) (.inr ⟨_,rfl⟩) (.inl ⟨rfl,rfl⟩)) fun p=>.s (pt 2 0) (.s (pt 2 0) (.s [aO,bx [(iA 0)],bx [(im (p.map c8) false)],w767] (.cr (.ok (.bd (dr (e:=5) (es:=1)) fun q=>.s (uA ((q.toNat:Int))) (.st (aZ ..) (.bg (fun t (y:Bool)=>∃ r u:A,t=[(bA y),r,u]) ?_ ?_)))))))))))))
  ·refine .bi ?_ ?_
   ·exact .lg ⟨_,_,rfl⟩
   exact .st (aH ..) (.lg ⟨_,_,rfl⟩)
  rintro _ a8 ⟨r,u,rfl⟩
  refine .uc (.uc (.uc (.bg (fun t (y:Bool)=>∃ w x z a0 a1 a2:A,t=[(bA y),w,x,z,a0,a1,a2]) ?_ ?_)))
  ·refine .bi ?_ ?_
   ·refine .st (aS ..) (.bg (fun t (y:Bool)=>∃ a3 a4:A,t=[(bA y),a3,a4]) ?_ ?_)
    ·refine .bi ?_ ?_
     ·exact .lg ⟨_,_,rfl⟩
     exact .st (dT ..) (.lg ⟨_,_,rfl⟩)
    rintro _ a9 ⟨a3,a4,rfl⟩
    exact .uc (.uc (.uc (.lg ⟨_,_,_,_,_,_,rfl⟩)))
   exact .lg ⟨_,_,_,_,_,_,rfl⟩
  rintro _ a6 ⟨w,x,z,a0,a1,a2,rfl⟩
  refine .u4 (.uc (.uc (.uc (.cl ((bl p0).trans (Gb ..)) (.s (bA (!a6)) (.bQ ?_ ?_))))))
  ·exact .s (A.ifc 32 (iA 10)) (.pk (.cr (.kl (.ex (k _ _ _ _)))))
  refine .cr (.ok (.st (n9 ..) (.st (v:=(A.v (.int .u64 (wr .u64 (pE .u8 ((q.toNat:Int)) 127))))) (aV (hs:=by kernel_rfl) (hd:=by kernel_rfl) ..) (.st (pA ..) (.gd fun hg=>.st (rJ (hb:=Yr hg) ..) (.st (ic ..) (.st (aS ..) (.bQ ?_ ?_))))))))
  ·exact .ex (x1 _ _ _ _)
  refine .st (aF ..) (.s [aO,bx [(iA 0)],bx [(im (p.map c8) false)],w767] (.cT r8 ?_))
  exact ih _ _ _
def gS (self:(List UInt8)->Int->Option (Bool×ar×(List UInt8))) (n:Nat) (b:Int) (c:Int) (g:Int) (h:Int) (i:ByteArray):Nat->Int->(List UInt8)->(List ar)->Option (((List UInt8))⊕((List UInt8)×(List ar)))
 | 0,_,_,_=>none
 | m+1,d,e,f=>bif (decide (d<c)) then ((self e (wr .i64 (b+1))).bind fun a=>bif a.1 then ((cQ 56 f ([a.2.1])).bind fun j=>gS self n b c g h i m (wr .i64 (d+1)) a.2.2 j) else (some ((Sum.inl a.2.2)))) else (some ((Sum.inr ((e,f)))))
theorem BC (self:(List UInt8)->Int->Option (Bool×ar×(List UInt8))) (hS:JS C (n+8) self) (k:Int) (w:Int) (d:Int) (e:Int) (h:ByteArray) {K:(((List UInt8))⊕((List UInt8)×(List ar)))->Option γ} (z:∀ (i:(List UInt8)) (o:A) (p:A) (s4:A) (q:A) (r:A) (q3:aC) (q4:aC),J φ (kp (A.ifc 32 (iA 10)) (St.mk [(0,o),(1,p),(4,s4),(36,q),(37,r)] [aO,bx [(iA 0)],bx [(im (i.map c8) false)],q3,q4])) kL (K (Sum.inl i)) some) (x1:∀ (i:(List UInt8)) (u:(List ar)) (o:A) (p:A) (q:A) (r:A),J φ (kx 1 (St.mk [(0,o),(1,p),(4,(pt 3 0)),(36,q),(37,r)] [aO,bx [(iA 0)],bx [(im (i.map c8) false)],bx [(iA d),(iA e),(sA h),(bM 4 0 u.length false)],aC.row false 4 (u.map ax)])) kL (K (Sum.inr ((i,u)))) some) :
  ∀ (m:Nat) (v:Int) (j:(List UInt8)) (a:(List ar)),J φ (aE (cx C) (ec C n 8) (ey C n 8) (n+8) 93 0 0 5 kx kg kr kp m (St.mk [(0,(pt 2 0)),(1,(iA k)),(4,(pt 3 0)),(36,(iA w)),(37,(iA v))] [aO,bx [(iA 0)],bx [(im (j.map c8) false)],bx [(iA d),(iA e),(sA h),(bM 4 0 a.length false)],aC.row false 4 (a.map ax)])) kL (gS self n k w d e h m v j a) K:=by
  refine nI (fun _ _ _=>.nn) fun m ih v j a=>.lp (MS ..) ?_
  unfold gS
  refine .st (aS ..) (.bQ ?_ ?_)
  ·refine .s (pt 3 3) (.s (bM 4 0 a.length false) (.st (aF ..) (.cT r8 (.bg (fun (t:Out×aB) (y:(Bool×ar×(List UInt8)))=>t=((bif y.1 then Out.ret (ag [(iA y.2.1.Kind),(iA y.2.1.N),(sA y.2.1.S),(im (y.2.1.L.map ax) false)]) else Out.pan (A.ifc 32 (iA 10))),[aO,bx [(iA 0)],bx [(im (y.2.2.map c8) false)],bx [(iA d),(iA e),(sA h),(bM 4 0 a.length false)],aC.row false 4 (a.map ax)])) (hS j (wr .i64 (k+1)) [bx [(iA d),(iA e),(sA h),(bM 4 0 a.length false)],aC.row false 4 (a.map ax)]) ?_))))
   rintro _ c rfl
   refine .ob ?_ ?_
   ·refine .ok (.s (im [[(iA c.2.1.Kind),(iA c.2.1.N),(sA c.2.1.S),(im (c.2.1.L.map ax) false)]] true) (.bd (g:=fun (y:List ar)=>((bM 4 0 y.length false),[aO,bx [(iA 0)],bx [(im (c.2.2.map c8) false)],bx [(iA d),(iA e),(sA h),(bM 4 0 a.length false)],aC.row false 4 (y.map ax)])) (bZ eJ (l:=a) (l2:=[c.2.1]) (b:=4) rfl (by decide) (gE (f:=ax) (l:=([c.2.1]:List ar)) XY)) fun x=>.s (pt 3 3) (.sh (.st (aF ..) (.s [aO,bx [(iA 0)],bx [(im (c.2.2.map c8) false)],bx [(iA d),(iA e),(sA h),(bM 4 0 x.length false)],aC.row false 4 (x.map ax)] (.cT r8 ?_))))))
    exact ih _ _ _
   exact .kl (.ex (z _ _ _ _ _ _ _ _))
  exact .ex (x1 _ _ _ _ _ _)
def wJ (self:(List UInt8)->Int->Option (Bool×ar×(List UInt8))) (n:Nat) (a2:(List UInt8)) (f:Int):Option (Bool×ar×(List UInt8)):=
 bif (!(decide (1<=((a2.length:Int))))) then (some ((false,(default:ar),a2))) else ((iB a2 0 1).bind fun h=>(iB a2 1 ((a2.length:Int))).bind fun c=>(bf h 0).bind fun a=>bif ((wr .i64 ((a.toNat:Int)))==1) then ((eN (n+1)  (n+7) 0 0 c).bind fun i=>match i with | (Sum.inl j)=>some ((false,(default:ar),j)) | (Sum.inr ((k,l)))=>(Ct k).bind fun o=>some ((true,(ar.mk (wr .i64 ((a.toNat:Int))) o iK ([])),l))) else (bif ((wr .i64 ((a.toNat:Int)))==2) then ((eN n  (n+6) 0 0 c).bind fun p=>match p with | (Sum.inl q)=>some ((false,(default:ar),q)) | (Sum.inr ((d,b)))=>bif (!(decide (d<=(wr .u64 ((b.length:Int)))))) then (some ((false,(default:ar),b))) else (bif (!(decide ((wr .i64 (d))<=((b.length:Int))))) then (some ((false,(default:ar),b))) else ((iB b 0 (wr .i64 (d))).bind fun r=>(iB b (wr .i64 (d)) ((b.length:Int))).bind fun s=>some ((true,(ar.mk (wr .i64 ((a.toNat:Int))) 0 (gp r) ([])),s))))) else (bif ((wr .i64 ((a.toNat:Int)))==3) then (bif (!(decide (f<16))) then (some ((false,(default:ar),c))) else ((eN n  (n+6) 0 0 c).bind fun t=>match t with | (Sum.inl u)=>some ((false,(default:ar),u)) | (Sum.inr ((g,e)))=>bif (!(decide (g<=(wr .u64 ((e.length:Int)))))) then (some ((false,(default:ar),e))) else ((gS self n f (wr .i64 (g)) (wr .i64 ((a.toNat:Int))) 0 iK (n+8) 0 e (([]:List ar))).bind fun v=>match v with | (Sum.inl w)=>some ((false,(default:ar),w)) | (Sum.inr ((x,y)))=>some ((true,(ar.mk (wr .i64 ((a.toNat:Int))) 0 iK y),x))))) else (some ((false,(default:ar),c))))))
theorem Q6 (C:OT) (n:Nat) (a0:vf C) (self:(List UInt8)->Int->Option (Bool×ar×(List UInt8))) (hS:JS C (n+8) self) (a2:(List UInt8)) (q:Int):J (fun (o:R) (y:(Bool×ar×(List UInt8)))=>∃ Z,o=((bif y.1 then Out.ret (ag [(iA y.2.1.Kind),(iA y.2.1.N),(sA y.2.1.S),(im (y.2.1.L.map ax) false)]) else Out.pan (A.ifc 32 (iA 10))),[aO,bx [(iA 0)],bx [(im (y.2.2.map c8) false)]]++Z)) (aG (cx C) (ec C n 8) (ey C n 8) (n+8) 93 [(pt 2 0),(iA q)] [aO,bx [(iA 0)],bx [(im (a2.map c8) false)]] 0) some (wJ self n a2 q) some:=by
 refine .lp (Xn ..) ?_
 unfold wJ
 refine .s ((pt 3 0),[aO,bx [(iA 0)],bx [(im (a2.map c8) false)],aO]) (.cl ((bl zO).trans (Kl ..)) (.s (pt 2 0) (.s2 (im (a2.map c8) false) (.st (dn (e:=5)) (.st (dT ..) (.cl ((bl p0).trans (Gb ..)) (.s (bA (!(decide (1<=((a2.length:Int)))))) (.bQ ?_ ?_))))))))
 ·exact .s (A.ifc 32 (iA 10)) (.pk (.cr (.kl (.cr (.kl (.lf rfl rfl ⟨[aO],rfl⟩))))))
 refine .cr (.ok (.s (pt 2 0) (.s2 (im (a2.map c8) false) (.bd (pM (e:=5) (es:=1) (f:=c8) (l:=a2) (a:=0) (b:=1) r8 r8 (fun _=>rfl) (.inl ⟨rfl,rfl⟩)) fun y5=>.s (pt 2 0) (.s2 (im (a2.map c8) false) (.bd (pL (e:=5) (es:=1) (f:=c8) (l:=a2) (a:=1) (b:=(a2.length:Int)) r8 r8 (fun _=>rfl) (.inr ⟨_,rfl⟩) (.inl ⟨rfl,rfl⟩)) fun i=>.s (pt 2 0) (.s (pt 2 0) (.s [aO,bx [(iA 0)],bx [(im (i.map c8) false)],aO] (.cr (.ok (.bd (dr (e:=5) (es:=1)) fun c=>.s (uA ((c.toNat:Int))) (.st (v:=(iA (wr .i64 ((c.toNat:Int))))) (aV (hs:=by kernel_rfl) (hd:=by kernel_rfl) ..) (.s (pt 3 0) (.s [aO,bx [(iA 0)],bx [(im (i.map c8) false)],(jb c)] (.s2 (iA (wr .i64 ((c.toNat:Int)))) (.st (aZ ..) (.bQ ?_ ?_)))))))))))))))))
 ·refine .cl ((bl zP).trans (Km ..)) (.as (m7 C (n+1) _ _ _ _  ?_ ?_ _ 0 0 i))
  ·intro a5 a6 a7 a8
   exact .un rfl (.cr (.kl (.lf rfl rfl ⟨[(jb c)],rfl⟩)))
  ·intro a1 x a9 aa
   exact .un rfl (.cr (.ok (.bd (a0 a1) fun j=>.s (pt 3 1) (.sh (.s (ag [(iA (wr .i64 ((c.toNat:Int)))),(iA j),se,Ye]) (.s [aO,bx [(iA 0)],bx [(im (x.map c8) false)],bx [(iA (wr .i64 ((c.toNat:Int)))),(iA j),se,Ye]] (.s (ag [(iA (wr .i64 ((c.toNat:Int)))),(iA j),se,(im [] false)]) (.lf rfl rfl (gn (o:=Out.ret (ag [(iA (wr .i64 ((c.toNat:Int)))),(iA j),se,(im [] false)])) (lo:=0) (off:=3) (b:=3) (p:=0) (H2:=[aO,bx [(iA 0)],bx [(im (x.map c8) false)]]) (X:=[bx [(iA (wr .i64 ((c.toNat:Int)))),(iA j),se,Ye]]) (YK rfl))))))))))
 refine .st (aZ ..) (.bQ ?_ ?_)
 ·refine .cl ((bl EI).trans (Mq ..)) (.cl ((bl zP).trans (Km ..)) (.as (m7 C n _ _ _ _  ?_ ?_ _ 0 0 i)))
  ·intro ab ad ae af
   exact .un rfl (.cr (.kl (.cr (.kl (.lf rfl rfl ⟨[(jb c)],rfl⟩)))))
  ·intro k d ah ai
   refine .un rfl (.cr (.ok (.s (pt 2 0) (.s2 (im (d.map c8) false) (.st (dn (e:=5)) (.st (v:=(A.v (.int .u64 (wr .u64 ((d.length:Int)))))) (aV (hs:=by kernel_rfl) (hd:=by kernel_rfl) ..) (.st (dT ..) (.cl ((bl p0).trans (Gb ..)) (.s (bA (!(decide (k<=(wr .u64 ((d.length:Int))))))) (.bQ ?_ ?_))))))))))
   ·exact .s (A.ifc 32 (iA 10)) (.pk (.cr (.kl (.cr (.kl (.lf rfl rfl ⟨[(jb c)],rfl⟩))))))
   refine .cr (.ok (.st (v:=(iA (wr .i64 (k)))) (aV (hs:=by kernel_rfl) (hd:=by kernel_rfl) ..) (.cr (.ok (.cl ((bl zO).trans (Kl ..)) (.s (pt 2 0) (.s2 (im (d.map c8) false) (.st (dn (e:=5)) (.st (dT ..) (.cl ((bl p0).trans (Gb ..)) (.s (bA (!(decide ((wr .i64 (k))<=((d.length:Int)))))) (.bQ ?_ ?_))))))))))))
   ·exact .s (A.ifc 32 (iA 10)) (.pk (.cr (.kl (.cr (.kl (.lf rfl rfl ⟨[(jb c)],rfl⟩))))))
   exact .cr (.ok (.s (pt 2 0) (.s2 (im (d.map c8) false) (.bd (pM (e:=5) (es:=1) (f:=c8) (l:=d) (a:=0) (b:=wr .i64 (k)) r8 r8 (fun _=>rfl) (.inl ⟨rfl,rfl⟩)) fun h=>.s (pt 2 0) (.s2 (im (d.map c8) false) (.bd (pL (e:=5) (es:=1) (f:=c8) (l:=d) (a:=wr .i64 (k)) (b:=(d.length:Int)) r8 r8 (fun _=>rfl) (.inr ⟨_,rfl⟩) (.inl ⟨rfl,rfl⟩)) fun t=>.s (pt 2 0) (.s (pt 2 0) (.s [aO,bx [(iA 0)],bx [(im (t.map c8) false)],(jb c)] (.cr (.ok (.st (v:=(A.v (Value.string (gp h)))) (nV (e:=5) (l:=h) r8 r8 r8 r8 (bH ..) rfl) (.s (pt 3 2) (.sh (.s (ag [(iA (wr .i64 ((c.toNat:Int)))),(iA 0),(A.v (Value.string (gp h))),Ye]) (.s [aO,bx [(iA 0)],bx [(im (t.map c8) false)],bx [(iA (wr .i64 ((c.toNat:Int)))),(iA 0),(A.v (Value.string (gp h))),Ye]] (.s (ag [(iA (wr .i64 ((c.toNat:Int)))),(iA 0),(A.v (Value.string (gp h))),(im [] false)]) (.lf rfl rfl (gn (o:=Out.ret (ag [(iA (wr .i64 ((c.toNat:Int)))),(iA 0),(A.v (Value.string (gp h))),(im [] false)])) (lo:=0) (off:=3) (b:=3) (p:=0) (H2:=[aO,bx [(iA 0)],bx [(im (t.map c8) false)]]) (X:=[bx [(iA (wr .i64 ((c.toNat:Int)))),(iA 0),(A.v (Value.string (gp h))),Ye]]) (YK rfl)))))))))))))))))))
 refine .st (aZ ..) (.bQ ?_ ?_)
 ·refine .st (aS ..) (.cl ((bl p0).trans (Gb ..)) (.s (bA (!(decide (q<16)))) (.bQ ?_ ?_)))
  ·exact .s (A.ifc 32 (iA 10)) (.pk (.cr (.kl (.lf rfl rfl ⟨[(jb c)],rfl⟩))))
  refine .cr (.ok (.cl ((bl EI).trans (Mq ..)) (.cl ((bl zP).trans (Km ..)) (.as (m7 C n _ _ _ _  ?_ ?_ _ 0 0 i)))))
  ·intro aj ak al am
   exact .un rfl (.cr (.kl (.cr (.kl (.lf rfl rfl ⟨[(jb c)],rfl⟩)))))
  ·intro u r an ao
   refine .un rfl (.cr (.ok (.s (pt 2 0) (.s2 (im (r.map c8) false) (.st (dn (e:=5)) (.st (v:=(A.v (.int .u64 (wr .u64 ((r.length:Int)))))) (aV (hs:=by kernel_rfl) (hd:=by kernel_rfl) ..) (.st (dT ..) (.cl ((bl p0).trans (Gb ..)) (.s (bA (!(decide (u<=(wr .u64 ((r.length:Int))))))) (.bQ ?_ ?_))))))))))
   ·exact .s (A.ifc 32 (iA 10)) (.pk (.cr (.kl (.cr (.kl (.lf rfl rfl ⟨[(jb c)],rfl⟩))))))
   refine .cr (.ok (.st (v:=(iA (wr .i64 (u)))) (aV (hs:=by kernel_rfl) (hd:=by kernel_rfl) ..) (.cr (.ok (.as (BC C n _ _ _ _ self hS q (wr .i64 (u)) (wr .i64 ((c.toNat:Int))) 0 iK ?_ ?_ _ 0 r (([]:List ar))))))))
   ·intro ap aq au av aw ay w1516 w1517
    exact .un rfl (.lf rfl rfl ⟨[w1516,w1517],rfl⟩)
   ·intro w g az b0 b1 b2
    exact .un rfl (.cT r8 (.s (ag [(iA (wr .i64 ((c.toNat:Int)))),(iA 0),se,(bM 4 0 g.length false)]) (.s [aO,bx [(iA 0)],bx [(im (w.map c8) false)],bx [(iA (wr .i64 ((c.toNat:Int)))),(iA 0),se,(bM 4 0 g.length false)],aC.row false 4 (g.map ax)] (.st (v:=(ag [(iA (wr .i64 ((c.toNat:Int)))),(iA 0),se,(im (g.map ax) false)])) ((YX (fun z=>lC prog 108 (pt 3 0) z) (rQ (H:=[aO,bx [(iA 0)],bx [(im (w.map c8) false)],bx [(iA (wr .i64 ((c.toNat:Int)))),(iA 0),se,(bM 4 0 g.length false)],aC.row false 4 (g.map ax)]) (lo:=0) (off:=3) (b:=3) (o:=0) (b':=4) (es:=4) (l:=g) cD rfl rfl rfl (YK rfl))).trans r8) (.lf rfl rfl (gn (o:=Out.ret (ag [(iA (wr .i64 ((c.toNat:Int)))),(iA 0),se,(im (g.map ax) false)])) (lo:=0) (off:=3) (b:=3) (p:=0) (H2:=[aO,bx [(iA 0)],bx [(im (w.map c8) false)]]) (X:=[bx [(iA (wr .i64 ((c.toNat:Int)))),(iA 0),se,(bM 4 0 g.length false)],aC.row false 4 (g.map ax)]) (YK rfl)))))))
 exact .cl ((bl p0).trans (Gb ..)) (.s (bA true) (.Lr (.s (A.ifc 32 (iA 10)) (.pk (.cr (.kl (.lf rfl rfl ⟨[(jb c)],rfl⟩)))))))
def Ck:Nat->(List UInt8)->Int->Option (Bool×ar×(List UInt8))
 | 0=>fun _ _=>none
 | N+1=>fun a2 a3=>bif Nat.ble 8 N then wJ (Ck N) (N - 8) a2 a3 else none
theorem L7 (C:OT) (a:vf C):∀ N,JS C N (Ck N)
 | 0=>fun _ _ X r h=>by cases h
 | N+1=>fun a2 b X=>by
  show J _ _ _ (bif Nat.ble 8 N then wJ (Ck N) (N - 8) a2 b else none) _
  cases h:Nat.ble 8 N with
  | false=>exact fun r h=>by cases h
  | true=>
   obtain ⟨n,rfl⟩:∃ n,N=n+8:=⟨N - 8,by have:=YK h; omega⟩
   rw[qaz]
   exact DM (m:=3) r8 r8 (by decide) rfl r8 ((by kernel_rfl:_=((((aM 3 (a2.map c8))&&true))&&true)).trans u3) (fun _=>rfl) (fun y=>(by show lU 3 (bif y.1 then Out.ret (ag [(iA y.2.1.Kind),(iA y.2.1.N),(sA y.2.1.S),(im (y.2.1.L.map ax) false)]) else Out.pan (A.ifc 32 (iA 10)))=true; cases y.1 with | true=>exact((by kernel_rfl:_=((aM 3 (y.2.1.L.map ax))&&true)).trans u3) | false=>rfl)) (fun y=>((by kernel_rfl:_=((((aM 3 (y.2.2.map c8))&&true))&&true)).trans u3)) (Q6 C n a (Ck (n+8)) (L7 C a (n+8)) a2 b)
def Pf (n:Nat) (b:(List UInt8)):Option (ar×Int):=
 (Ck (n+8) b 0).bind fun a=>bif a.1 then (bif (!(((a.2.2.length:Int))==0)) then (some (((ar.mk 0 0 iK ([])),10))) else (some ((a.2.1,0)))) else (some (((ar.mk 0 0 iK ([])),10)))
theorem Wd (C:OT) (n:Nat) (c:vf C) (b:(List UInt8)):TJ C n 72 [(im (b.map c8) false)] (Pf n b) (fun y=>(tp [(ag (al y.1)),(iA y.2)])):=by
 refine .lp (Xa ..) ?_
 unfold Pf
 refine .s ((pt 0 0),[aO]) (.s ((pt 1 0),[aO,bx [(iA 0)]]) (.s (ag [(im (b.map c8) false)]) (.s ((pt 2 0),[aO,bx [(iA 0)],bx [(im (b.map c8) false)]]) (.bg (fun (t:Out×aB) (y:(Bool×ar×(List UInt8)))=>t=((bif y.1 then Out.ret (ag [(iA y.2.1.Kind),(iA y.2.1.N),(sA y.2.1.S),(im (y.2.1.L.map ax) false)]) else Out.pan (A.ifc 32 (iA 10))),[aO,bx [(iA 0)],bx [(im (y.2.2.map c8) false)]])) (L7 C c (n+8) b 0 []) ?_))))
 rintro _ a rfl
 refine .ob ?_ ?_
 ·refine .ok (.s [bx (al a.2.1),bx [(iA 0)],bx [(im (a.2.2.map c8) false)]] (.s (pt 2 0) (.s2 (im (a.2.2.map c8) false) (.st (dn (e:=5)) (.st (aZ ..) (.cl ((bl p0).trans (Gb ..)) (.s (bA (!(((a.2.2.length:Int))==0))) (.bQ ?_ ?_))))))))
  ·exact .s (A.ifc 32 (iA 10)) (.pk (.cr (.kl (.s (bA true) (.Lr (.s (ag [(iA 0),(iA 0),se,Ye]) (.s (iA 10) (.sh (.s [aO,bx [(iA 10)],bx [(im (a.2.2.map c8) false)]] (.s (ag [(iA 0),(iA 0),se,Ye]) (.s (iA 10) (.lv u2))))))))))))
  exact .cr (.ok (.s (ag (al a.2.1)) (.sh (.s [bx (al a.2.1),bx [(iA 0)],bx [(im (a.2.2.map c8) false)]] (.s (bA false) (.Kd (.s (ag (al a.2.1)) (.s (iA 0) (.lv u2)))))))))
 exact .kl (.s (bA true) (.Lr (.s (ag [(iA 0),(iA 0),se,Ye]) (.s (iA 10) (.sh (.s [aO,bx [(iA 10)],bx [(im (a.2.2.map c8) false)]] (.s (ag [(iA 0),(iA 0),se,Ye]) (.s (iA 10) (.lv u2)))))))))
def L0 (a:(List UInt8)):Option (ar×Int):=Pf aA a
def IM (C:OT):Prop:=∀ (a:(List UInt8)),C 72 [(im (a.map c8) false)]=(L0 a).map fun y=>(tp [(ag (al y.1)),(iA y.2)])
def dS (n:Nat) (j:Bool) (b:(List ar)) (c:Int) (k:Int) (l:Int) (o:Int) (p:ar):Nat->Int->Int->Int->Int->Int->Int->Option ((Bool×Int×Int×Int×Int×Int)⊕(Int×Int×Int×Int×Int))
 | 0,_,_,_,_,_,_=>none
 | m+1,a,d,e,f,g,h=>bif (decide (a<c)) then ((bf b a).bind fun i=>bif (i.Kind != 1) then (some ((Sum.inl ((false,d,e,f,g,h))))) else (bif decide (a=0) then (dS n j b c k l o p m (wr .i64 (a+1)) i.N e f g h) else bif decide (a=1) then (dS n j b c k l o p m (wr .i64 (a+1)) d i.N f g h) else bif decide (a=2) then (dS n j b c k l o p m (wr .i64 (a+1)) d e i.N g h) else bif decide (a=3) then (dS n j b c k l o p m (wr .i64 (a+1)) d e f i.N h) else bif decide (a=4) then (dS n j b c k l o p m (wr .i64 (a+1)) d e f g i.N) else none)) else (some ((Sum.inr ((d,e,f,g,h)))))
theorem Dj (z:Bool) (l:(List ar)) (a0:Int) (b:Int) (c:Int) (d:Int) (f:ar) {K:((Bool×Int×Int×Int×Int×Int)⊕(Int×Int×Int×Int×Int))->Option γ} (x0:∀ (o:Bool) (p:Int) (q:Int) (o3:Int) (r:Int) (o5:Int) (t:A) (u:A) (w:A) (x:A) (q1:aC) (q2:aC) (q3:aC),J φ (kr (St.mk [(2,(pt 0 0)),(3,(bA o)),(6,t),(53,u),(54,w),(55,x)] [bx [(iA p),(iA q),(iA o3),(iA r),(iA o5),(iA b),(iA c),(iA d)],q1,q2,q3])) kL (K (Sum.inl ((o,p,q,o3,r,o5)))) some) (x1:∀ (o:Int) (p:Int) (q:Int) (o3:Int) (r:Int) (s3:A) (t:A) (u:A) (w:A) (x:A) (q1:aC) (q2:aC),J φ (kx 0 (St.mk [(2,(pt 0 0)),(3,s3),(6,t),(53,u),(54,w),(55,x)] [bx [(iA o),(iA p),(iA q),(iA o3),(iA r),(iA b),(iA c),(iA d)],q1,q2])) kL (K (Sum.inr ((o,p,q,o3,r)))) some) :
  ∀ (m:Nat) (y:Int) (g:Int) (h:Int) (i:Int) (j:Int) (k:Int),J φ (aE (cx C) (ec C n 8) (ey C n 8) (n+8) 37 0 0 3 kx kg kr kp m (St.mk [(2,(pt 0 0)),(3,(bA z)),(6,(bM 2 0 5 false)),(53,(im (l.map ax) false)),(54,(iA a0)),(55,(iA y))] [bx [(iA g),(iA h),(iA i),(iA j),(iA k),(iA b),(iA c),(iA d)],bx (al f),aC.row true 1 [[(pt 0 0)],[(pt 0 1)],[(pt 0 2)],[(pt 0 3)],[(pt 0 4)],[(pt 0 0)],[(pt 0 5)],[(pt 0 6)],[(pt 0 7)]]])) kL (dS n z l a0 b c d f m y g h i j k) K:=by
  refine nI (fun _ _ _ _ _ _=>.nn) fun m ih y g h i j k=>.lp (I4 ..) ?_
  unfold dS
  refine .st (aS ..) (.bQ ?_ ?_)
  ·refine .bd ((dr (e:=108) (es:=4)).trans (eo _)) fun a=>.s (ag (al a)) (.sq (pt 3 0) (.s [bx [(iA g),(iA h),(iA i),(iA j),(iA k),(iA b),(iA c),(iA d)],bx (al f),aC.row true 1 [[(pt 0 0)],[(pt 0 1)],[(pt 0 2)],[(pt 0 3)],[(pt 0 4)],[(pt 0 0)],[(pt 0 5)],[(pt 0 6)],[(pt 0 7)]],bx (al a)] (.s2 (iA a.Kind) (.st (aH ..) (.bQ ?_ ?_)))))
   ·exact .s (ag [(iA g),(iA h),(iA i),(iA j),(iA k),(iA b),(iA c),(iA d)]) (.s [bx [(iA g),(iA h),(iA i),(iA j),(iA k),(iA b),(iA c),(iA d)],bx (al f),aC.row true 1 [[(pt 0 0)],[(pt 0 1)],[(pt 0 2)],[(pt 0 3)],[(pt 0 4)],[(pt 0 0)],[(pt 0 5)],[(pt 0 6)],[(pt 0 7)]],bx (al a)] (.ex (x0 _ _ _ _ _ _ _ _ _ _ _ _ _)))
   refine .sp (fun a4=>?_) (fun _=>?_)
   ·refine .st (v:=(A.ep 2 0 0)) (by rw[Yr a4]; kernel_rfl) (.s (pt 0 0) (.s2 (iA a.N) (.s (pt 0 0) (.s [bx [(iA a.N),(iA h),(iA i),(iA j),(iA k),(iA b),(iA c),(iA d)],bx (al f),aC.row true 1 [[(pt 0 0)],[(pt 0 1)],[(pt 0 2)],[(pt 0 3)],[(pt 0 4)],[(pt 0 0)],[(pt 0 5)],[(pt 0 6)],[(pt 0 7)]],bx (al a)] (.st (aF ..) (.st (v:=[bx [(iA a.N),(iA h),(iA i),(iA j),(iA k),(iA b),(iA c),(iA d)],bx (al f),aC.row true 1 [[(pt 0 0)],[(pt 0 1)],[(pt 0 2)],[(pt 0 3)],[(pt 0 4)],[(pt 0 0)],[(pt 0 5)],[(pt 0 6)],[(pt 0 7)]]]) (dB r8 An) (.cT ((by kernel_rfl:_=(bif aM 3 (l.map ax) then true else false)).trans u3) ?_)))))))
    exact ih _ _ _ _ _ _
   refine .sp (fun a5=>?_) (fun _=>?_)
   ·refine .st (v:=(A.ep 2 1 0)) (by rw[Yr a5]; kernel_rfl) (.s (pt 0 1) (.s2 (iA a.N) (.s (pt 0 1) (.s [bx [(iA g),(iA a.N),(iA i),(iA j),(iA k),(iA b),(iA c),(iA d)],bx (al f),aC.row true 1 [[(pt 0 0)],[(pt 0 1)],[(pt 0 2)],[(pt 0 3)],[(pt 0 4)],[(pt 0 0)],[(pt 0 5)],[(pt 0 6)],[(pt 0 7)]],bx (al a)] (.st (aF ..) (.st (v:=[bx [(iA g),(iA a.N),(iA i),(iA j),(iA k),(iA b),(iA c),(iA d)],bx (al f),aC.row true 1 [[(pt 0 0)],[(pt 0 1)],[(pt 0 2)],[(pt 0 3)],[(pt 0 4)],[(pt 0 0)],[(pt 0 5)],[(pt 0 6)],[(pt 0 7)]]]) (dB r8 An) (.cT ((by kernel_rfl:_=(bif aM 3 (l.map ax) then true else false)).trans u3) ?_)))))))
    exact ih _ _ _ _ _ _
   refine .sp (fun a6=>?_) (fun _=>?_)
   ·refine .st (v:=(A.ep 2 2 0)) (by rw[Yr a6]; kernel_rfl) (.s (pt 0 2) (.s2 (iA a.N) (.s (pt 0 2) (.s [bx [(iA g),(iA h),(iA a.N),(iA j),(iA k),(iA b),(iA c),(iA d)],bx (al f),aC.row true 1 [[(pt 0 0)],[(pt 0 1)],[(pt 0 2)],[(pt 0 3)],[(pt 0 4)],[(pt 0 0)],[(pt 0 5)],[(pt 0 6)],[(pt 0 7)]],bx (al a)] (.st (aF ..) (.st (v:=[bx [(iA g),(iA h),(iA a.N),(iA j),(iA k),(iA b),(iA c),(iA d)],bx (al f),aC.row true 1 [[(pt 0 0)],[(pt 0 1)],[(pt 0 2)],[(pt 0 3)],[(pt 0 4)],[(pt 0 0)],[(pt 0 5)],[(pt 0 6)],[(pt 0 7)]]]) (dB r8 An) (.cT ((by kernel_rfl:_=(bif aM 3 (l.map ax) then true else false)).trans u3) ?_)))))))
    exact ih _ _ _ _ _ _
   refine .sp (fun a7=>?_) (fun _=>?_)
   ·refine .st (v:=(A.ep 2 3 0)) (by rw[Yr a7]; kernel_rfl) (.s (pt 0 3) (.s2 (iA a.N) (.s (pt 0 3) (.s [bx [(iA g),(iA h),(iA i),(iA a.N),(iA k),(iA b),(iA c),(iA d)],bx (al f),aC.row true 1 [[(pt 0 0)],[(pt 0 1)],[(pt 0 2)],[(pt 0 3)],[(pt 0 4)],[(pt 0 0)],[(pt 0 5)],[(pt 0 6)],[(pt 0 7)]],bx (al a)] (.st (aF ..) (.st (v:=[bx [(iA g),(iA h),(iA i),(iA a.N),(iA k),(iA b),(iA c),(iA d)],bx (al f),aC.row true 1 [[(pt 0 0)],[(pt 0 1)],[(pt 0 2)],[(pt 0 3)],[(pt 0 4)],[(pt 0 0)],[(pt 0 5)],[(pt 0 6)],[(pt 0 7)]]]) (dB r8 An) (.cT ((by kernel_rfl:_=(bif aM 3 (l.map ax) then true else false)).trans u3) ?_)))))))
    exact ih _ _ _ _ _ _
   refine .sp (fun a8=>?_) (fun _=>?_)
   ·refine .st (v:=(A.ep 2 4 0)) (by rw[Yr a8]; kernel_rfl) (.s (pt 0 4) (.s2 (iA a.N) (.s (pt 0 4) (.s [bx [(iA g),(iA h),(iA i),(iA j),(iA a.N),(iA b),(iA c),(iA d)],bx (al f),aC.row true 1 [[(pt 0 0)],[(pt 0 1)],[(pt 0 2)],[(pt 0 3)],[(pt 0 4)],[(pt 0 0)],[(pt 0 5)],[(pt 0 6)],[(pt 0 7)]],bx (al a)] (.st (aF ..) (.st (v:=[bx [(iA g),(iA h),(iA i),(iA j),(iA a.N),(iA b),(iA c),(iA d)],bx (al f),aC.row true 1 [[(pt 0 0)],[(pt 0 1)],[(pt 0 2)],[(pt 0 3)],[(pt 0 4)],[(pt 0 0)],[(pt 0 5)],[(pt 0 6)],[(pt 0 7)]]]) (dB r8 An) (.cT ((by kernel_rfl:_=(bif aM 3 (l.map ax) then true else false)).trans u3) ?_)))))))
    exact ih _ _ _ _ _ _
   exact .nn
  exact .ex (x1 _ _ _ _ _ _ _ _ _ _ _ _)
def dP (n:Nat) (i:Bool) (b:(List ar)) (c:Int) (j:Int) (k:Int) (l:Int) (o:Int) (p:ar):Nat->Int->Int->Int->Int->Int->Option ((Bool×Int×Int×Int×Int)⊕(Int×Int×Int×Int))
 | 0,_,_,_,_,_=>none
 | m+1,a,d,e,f,g=>bif (decide (a<c)) then ((bf b a).bind fun h=>bif (h.Kind != 1) then (some ((Sum.inl ((false,d,e,f,g))))) else (bif decide (a=0) then (dP n i b c j k l o p m (wr .i64 (a+1)) h.N e f g) else bif decide (a=1) then (dP n i b c j k l o p m (wr .i64 (a+1)) d h.N f g) else bif decide (a=2) then (dP n i b c j k l o p m (wr .i64 (a+1)) d e h.N g) else bif decide (a=3) then (dP n i b c j k l o p m (wr .i64 (a+1)) d e f h.N) else none)) else (some ((Sum.inr ((d,e,f,g)))))
theorem Bz (y:Bool) (l:(List ar)) (z:Int) (b:Int) (c:Int) (d:Int) (f:Int) (g:ar) {K:((Bool×Int×Int×Int×Int)⊕(Int×Int×Int×Int))->Option γ} (x0:∀ (o:Bool) (p:Int) (q:Int) (o3:Int) (o4:Int) (r:A) (t:A) (u:A) (w:A) (q1:aC) (q2:aC) (q3:aC),J φ (kr (St.mk [(2,(pt 0 0)),(3,(bA o)),(6,r),(53,t),(54,u),(55,w)] [bx [(iA p),(iA b),(iA c),(iA d),(iA f),(iA q),(iA o3),(iA o4)],q1,q2,q3])) kL (K (Sum.inl ((o,p,q,o3,o4)))) some) (x1:∀ (o:Int) (p:Int) (q:Int) (o3:Int) (s3:A) (r:A) (t:A) (u:A) (w:A) (q1:aC) (q2:aC),J φ (kx 0 (St.mk [(2,(pt 0 0)),(3,s3),(6,r),(53,t),(54,u),(55,w)] [bx [(iA o),(iA b),(iA c),(iA d),(iA f),(iA p),(iA q),(iA o3)],q1,q2])) kL (K (Sum.inr ((o,p,q,o3)))) some) :
  ∀ (m:Nat) (x:Int) (h:Int) (i:Int) (j:Int) (k:Int),J φ (aE (cx C) (ec C n 8) (ey C n 8) (n+8) 37 0 0 3 kx kg kr kp m (St.mk [(2,(pt 0 0)),(3,(bA y)),(6,(bM 2 5 4 true)),(53,(im (l.map ax) false)),(54,(iA z)),(55,(iA x))] [bx [(iA h),(iA b),(iA c),(iA d),(iA f),(iA i),(iA j),(iA k)],bx (al g),aC.row true 1 [[(pt 0 0)],[(pt 0 1)],[(pt 0 2)],[(pt 0 3)],[(pt 0 4)],[(pt 0 0)],[(pt 0 5)],[(pt 0 6)],[(pt 0 7)]]])) kL (dP n y l z b c d f g m x h i j k) K:=by
  refine nI (fun _ _ _ _ _=>.nn) fun m ih x h i j k=>.lp (I4 ..) ?_
  unfold dP
  refine .st (aS ..) (.bQ ?_ ?_)
  ·refine .bd ((dr (e:=108) (es:=4)).trans (eo _)) fun a=>.s (ag (al a)) (.sq (pt 3 0) (.s [bx [(iA h),(iA b),(iA c),(iA d),(iA f),(iA i),(iA j),(iA k)],bx (al g),aC.row true 1 [[(pt 0 0)],[(pt 0 1)],[(pt 0 2)],[(pt 0 3)],[(pt 0 4)],[(pt 0 0)],[(pt 0 5)],[(pt 0 6)],[(pt 0 7)]],bx (al a)] (.s2 (iA a.Kind) (.st (aH ..) (.bQ ?_ ?_)))))
   ·exact .s (ag [(iA h),(iA b),(iA c),(iA d),(iA f),(iA i),(iA j),(iA k)]) (.s [bx [(iA h),(iA b),(iA c),(iA d),(iA f),(iA i),(iA j),(iA k)],bx (al g),aC.row true 1 [[(pt 0 0)],[(pt 0 1)],[(pt 0 2)],[(pt 0 3)],[(pt 0 4)],[(pt 0 0)],[(pt 0 5)],[(pt 0 6)],[(pt 0 7)]],bx (al a)] (.ex (x0 _ _ _ _ _ _ _ _ _ _ _ _)))
   refine .sp (fun a4=>?_) (fun _=>?_)
   ·refine .st (v:=(A.ep 2 5 0)) (by rw[Yr a4]; kernel_rfl) (.s (pt 0 0) (.s2 (iA a.N) (.s (pt 0 0) (.s [bx [(iA a.N),(iA b),(iA c),(iA d),(iA f),(iA i),(iA j),(iA k)],bx (al g),aC.row true 1 [[(pt 0 0)],[(pt 0 1)],[(pt 0 2)],[(pt 0 3)],[(pt 0 4)],[(pt 0 0)],[(pt 0 5)],[(pt 0 6)],[(pt 0 7)]],bx (al a)] (.st (aF ..) (.st (v:=[bx [(iA a.N),(iA b),(iA c),(iA d),(iA f),(iA i),(iA j),(iA k)],bx (al g),aC.row true 1 [[(pt 0 0)],[(pt 0 1)],[(pt 0 2)],[(pt 0 3)],[(pt 0 4)],[(pt 0 0)],[(pt 0 5)],[(pt 0 6)],[(pt 0 7)]]]) (dB r8 An) (.cT ((by kernel_rfl:_=(bif aM 3 (l.map ax) then true else false)).trans u3) ?_)))))))
    exact ih _ _ _ _ _
   refine .sp (fun a5=>?_) (fun _=>?_)
   ·refine .st (v:=(A.ep 2 6 0)) (by rw[Yr a5]; kernel_rfl) (.s (pt 0 5) (.s2 (iA a.N) (.s (pt 0 5) (.s [bx [(iA h),(iA b),(iA c),(iA d),(iA f),(iA a.N),(iA j),(iA k)],bx (al g),aC.row true 1 [[(pt 0 0)],[(pt 0 1)],[(pt 0 2)],[(pt 0 3)],[(pt 0 4)],[(pt 0 0)],[(pt 0 5)],[(pt 0 6)],[(pt 0 7)]],bx (al a)] (.st (aF ..) (.st (v:=[bx [(iA h),(iA b),(iA c),(iA d),(iA f),(iA a.N),(iA j),(iA k)],bx (al g),aC.row true 1 [[(pt 0 0)],[(pt 0 1)],[(pt 0 2)],[(pt 0 3)],[(pt 0 4)],[(pt 0 0)],[(pt 0 5)],[(pt 0 6)],[(pt 0 7)]]]) (dB r8 An) (.cT ((by kernel_rfl:_=(bif aM 3 (l.map ax) then true else false)).trans u3) ?_)))))))
    exact ih _ _ _ _ _
   refine .sp (fun a6=>?_) (fun _=>?_)
   ·refine .st (v:=(A.ep 2 7 0)) (by rw[Yr a6]; kernel_rfl) (.s (pt 0 6) (.s2 (iA a.N) (.s (pt 0 6) (.s [bx [(iA h),(iA b),(iA c),(iA d),(iA f),(iA i),(iA a.N),(iA k)],bx (al g),aC.row true 1 [[(pt 0 0)],[(pt 0 1)],[(pt 0 2)],[(pt 0 3)],[(pt 0 4)],[(pt 0 0)],[(pt 0 5)],[(pt 0 6)],[(pt 0 7)]],bx (al a)] (.st (aF ..) (.st (v:=[bx [(iA h),(iA b),(iA c),(iA d),(iA f),(iA i),(iA a.N),(iA k)],bx (al g),aC.row true 1 [[(pt 0 0)],[(pt 0 1)],[(pt 0 2)],[(pt 0 3)],[(pt 0 4)],[(pt 0 0)],[(pt 0 5)],[(pt 0 6)],[(pt 0 7)]]]) (dB r8 An) (.cT ((by kernel_rfl:_=(bif aM 3 (l.map ax) then true else false)).trans u3) ?_)))))))
    exact ih _ _ _ _ _
   refine .sp (fun a7=>?_) (fun _=>?_)
   ·refine .st (v:=(A.ep 2 8 0)) (by rw[Yr a7]; kernel_rfl) (.s (pt 0 7) (.s2 (iA a.N) (.s (pt 0 7) (.s [bx [(iA h),(iA b),(iA c),(iA d),(iA f),(iA i),(iA j),(iA a.N)],bx (al g),aC.row true 1 [[(pt 0 0)],[(pt 0 1)],[(pt 0 2)],[(pt 0 3)],[(pt 0 4)],[(pt 0 0)],[(pt 0 5)],[(pt 0 6)],[(pt 0 7)]],bx (al a)] (.st (aF ..) (.st (v:=[bx [(iA h),(iA b),(iA c),(iA d),(iA f),(iA i),(iA j),(iA a.N)],bx (al g),aC.row true 1 [[(pt 0 0)],[(pt 0 1)],[(pt 0 2)],[(pt 0 3)],[(pt 0 4)],[(pt 0 0)],[(pt 0 5)],[(pt 0 6)],[(pt 0 7)]]]) (dB r8 An) (.cT ((by kernel_rfl:_=(bif aM 3 (l.map ax) then true else false)).trans u3) ?_)))))))
    exact ih _ _ _ _ _
   exact .nn
  exact .ex (x1 _ _ _ _ _ _ _ _ _ _ _)
def OX (n:Nat) (c:(List UInt8)):Option (aU×Bool):=
 (L0 c).bind fun a=>(bif (a.2 != 0) then (some true) else (some (a.1.Kind != 3))).bind fun d=>(bif d then (some true) else (some (((a.1.L.length:Int))==0))).bind fun e=>bif e then (some (((aU.mk 0 ((bL.mk 0 0 0 0)) ((bj.mk 0 0 0))),false))) else ((bf a.1.L 0).bind fun b=>bif (b.N==1) then ((bif (b.N != 1) then (some (b.N != 2)) else (some false)).bind fun f=>(bif f then (some true) else (some (((a.1.L.length:Int)) != 5))).bind fun g=>bif g then (some (((aU.mk b.N ((bL.mk 0 0 0 0)) ((bj.mk 0 0 0))),false))) else ((dS n false a.1.L ((a.1.L.length:Int)) 0 0 0 a.1 (n+8) 0 b.N 0 0 0 0).bind fun h=>match h with | (Sum.inl ((i,j,k,l,o,p)))=>some (((aU.mk j ((bL.mk k l o p)) ((bj.mk 0 0 0))),i)) | (Sum.inr ((q,r,s,t,u)))=>some (((aU.mk q ((bL.mk r s t u)) ((bj.mk 0 0 0))),true)))) else ((bif (b.N != 1) then (some (b.N != 2)) else (some false)).bind fun v=>(bif v then (some true) else (some (((a.1.L.length:Int)) != 4))).bind fun w=>bif w then (some (((aU.mk b.N ((bL.mk 0 0 0 0)) ((bj.mk 0 0 0))),false))) else ((dP n false a.1.L ((a.1.L.length:Int)) 0 0 0 0 a.1 (n+8) 0 b.N 0 0 0).bind fun x=>match x with | (Sum.inl ((y,z,a1,a2,a3)))=>some (((aU.mk z ((bL.mk 0 0 0 0)) ((bj.mk a1 a2 a3))),y)) | (Sum.inr ((a4,a5,a6,a7)))=>some (((aU.mk a4 ((bL.mk 0 0 0 0)) ((bj.mk a5 a6 a7))),true)))))
theorem VT (C:OT) (n:Nat) (am:IM C) (c:(List UInt8)):TJ C n 37 [(im (c.map c8) false)] (OX n c) (fun y=>(tp [(ag (az y.1)),(bA y.2)])):=by
 refine .lp (WM ..) ?_
 unfold OX
 refine .s ((pt 0 0),[bx [(iA 0),(iA 0),(iA 0),(iA 0),(iA 0),(iA 0),(iA 0),(iA 0)]]) (.bd (g:=fun (y:(ar×Int))=>(tp [(ag (al y.1)),(iA y.2)])) (by simp only[cf,dF]; exact am c) fun a=>.s (ag (al a.1)) (.s (iA a.2) (.sq (pt 1 0) (.s [bx [(iA 0),(iA 0),(iA 0),(iA 0),(iA 0),(iA 0),(iA 0),(iA 0)],bx (al a.1)] (.st (aH ..) (.bg (fun t (y:Bool)=>∃ q r u:A,t=[(bA y),q,r,u]) ?_ ?_))))))
 ·refine .bi ?_ ?_
  ·exact .lg ⟨_,_,_,rfl⟩
  exact .s (pt 1 0) (.s (iA a.1.Kind) (.st (aH ..) (.lg ⟨_,_,_,rfl⟩)))
 rintro _ y3 ⟨q,r,u,rfl⟩
 refine .u4 (.bg (fun t (y:Bool)=>∃ v w x z:A,t=[(bA y),v,w,x,z]) ?_ ?_)
 ·refine .bi ?_ ?_
  ·exact .lg ⟨_,_,_,_,rfl⟩
  exact .s (pt 1 3) (.s (im (a.1.L.map ax) false) (.st (dn (e:=108)) (.st (aZ ..) (.lg ⟨_,_,_,_,rfl⟩))))
 rintro _ y8 ⟨v,w,x,z,rfl⟩
 refine .u4 (.uc (.bQ ?_ ?_))
 ·exact .s (ag [(iA 0),(iA 0),(iA 0),(iA 0),(iA 0),(iA 0),(iA 0),(iA 0)]) (.s [bx [(iA 0),(iA 0),(iA 0),(iA 0),(iA 0),(iA 0),(iA 0),(iA 0)],bx (al a.1)] (.s (ag [(iA 0),(iA 0),(iA 0),(iA 0),(iA 0),(iA 0),(iA 0),(iA 0)]) (.lv rfl)))
 refine .s2 (im (a.1.L.map ax) false) (.bd ((dr (e:=108) (es:=4)).trans (eo _)) fun b=>.s2 (iA b.N) (.s (pt 0 0) (.sh (.cl ((bl Jr).trans (Ua ..)) (.s (pt 0 0) (.s (pt 0 0) (.s (pt 0 0) (.s (pt 0 1) (.s (pt 0 1) (.s (pt 0 0) (.s (pt 0 1) (.s (pt 0 2) (.s (pt 0 0) (.s (pt 0 1) (.s (pt 0 3) (.s (pt 0 0) (.s (pt 0 1) (.s (pt 0 4) (.s (pt 0 0) (.s (pt 0 0) (.s (pt 0 0) (.s (pt 0 5) ?_))))))))))))))))))))))
 refine .s (pt 0 5) (.s (pt 0 0) (.s (pt 0 5) (.s (pt 0 6) (.s (pt 0 0) (.s (pt 0 5) (.s (pt 0 7) (.s (ag [(pt 0 0),(pt 0 1),(pt 0 2),(pt 0 3),(pt 0 4),(pt 0 0),(pt 0 5),(pt 0 6),(pt 0 7)]) (.cT r8 (.sq (A.ep 2 0 0) (.s [bx [(iA b.N),(iA 0),(iA 0),(iA 0),(iA 0),(iA 0),(iA 0),(iA 0)],bx (al a.1),aC.row true 1 [[(pt 0 0)],[(pt 0 1)],[(pt 0 2)],[(pt 0 3)],[(pt 0 4)],[(pt 0 0)],[(pt 0 5)],[(pt 0 6)],[(pt 0 7)]]] (.s (pt 0 0) (.s2 (iA b.N) (.st (aZ ..) (.bQ ?_ ?_))))))))))))))
 ·refine .s (bM 2 0 5 false) (.cr (.ok (.s2 (iA b.N) (.st (aH ..) (.bg (fun t (y:Bool)=>∃ a1 a2 a3:A,t=[(bA y),a1,a2,a3]) ?_ ?_)))))
  ·refine .bi ?_ ?_
   ·exact .s (pt 0 0) (.s (iA b.N) (.st (aH ..) (.lg ⟨_,_,_,rfl⟩)))
   exact .lg ⟨_,_,_,rfl⟩
  rintro _ b3 ⟨a1,a2,a3,rfl⟩
  refine .u4 (.bg (fun t (y:Bool)=>∃ a4 a5 a6 a7 a8 a9:A,t=[(bA y),a4,a5,a6,a7,a8,a9]) ?_ ?_)
  ·refine .bi ?_ ?_
   ·exact .lg ⟨_,_,_,_,_,_,rfl⟩
   exact .s (pt 1 3) (.s (im (a.1.L.map ax) false) (.st (dn (e:=108)) (.s (iA 5) (.st (aH ..) (.lg ⟨_,_,_,_,_,_,rfl⟩)))))
  rintro _ b4 ⟨a4,a5,a6,a7,a8,a9,rfl⟩
  refine .u4 (.uc (.uc (.uc (.bQ ?_ ?_))))
  ·exact .s (ag [(iA b.N),(iA 0),(iA 0),(iA 0),(iA 0),(iA 0),(iA 0),(iA 0)]) (.s [bx [(iA b.N),(iA 0),(iA 0),(iA 0),(iA 0),(iA 0),(iA 0),(iA 0)],bx (al a.1),aC.row true 1 [[(pt 0 0)],[(pt 0 1)],[(pt 0 2)],[(pt 0 3)],[(pt 0 4)],[(pt 0 0)],[(pt 0 5)],[(pt 0 6)],[(pt 0 7)]]] (.s (ag [(iA b.N),(iA 0),(iA 0),(iA 0),(iA 0),(iA 0),(iA 0),(iA 0)]) (.lv rfl)))
  refine .s2 (im (a.1.L.map ax) false) (.st (dn (e:=108)) (.as (Dj C n _ _ _ _ false a.1.L ((a.1.L.length:Int)) 0 0 0 a.1 ?_ ?_ _ 0 b.N 0 0 0 0)))
  ·intro b5 an ao ap aq au b6 b7 b8 b9 w243 w244 w245
   exact .un rfl (.s (ag [(iA an),(iA ao),(iA ap),(iA aq),(iA au),(iA 0),(iA 0),(iA 0)]) (.lv rfl))
  ·intro d f h i j ba bb bc be bf w256 w257
   exact .un rfl (.cT r8 (.s (ag [(iA d),(iA f),(iA h),(iA i),(iA j),(iA 0),(iA 0),(iA 0)]) (.s [bx [(iA d),(iA f),(iA h),(iA i),(iA j),(iA 0),(iA 0),(iA 0)],w256,w257] (.s (ag [(iA d),(iA f),(iA h),(iA i),(iA j),(iA 0),(iA 0),(iA 0)]) (.lv rfl)))))
 refine .s (bM 2 5 4 true) (.cr (.ok (.s2 (iA b.N) (.st (aH ..) (.bg (fun t (y:Bool)=>∃ aa ab ad:A,t=[(bA y),aa,ab,ad]) ?_ ?_)))))
 ·refine .bi ?_ ?_
  ·exact .s (pt 0 0) (.s (iA b.N) (.st (aH ..) (.lg ⟨_,_,_,rfl⟩)))
  exact .lg ⟨_,_,_,rfl⟩
 rintro _ bh ⟨aa,ab,ad,rfl⟩
 refine .u4 (.bg (fun t (y:Bool)=>∃ ae af ah ai aj ak:A,t=[(bA y),ae,af,ah,ai,aj,ak]) ?_ ?_)
 ·refine .bi ?_ ?_
  ·exact .lg ⟨_,_,_,_,_,_,rfl⟩
  exact .s (pt 1 3) (.s (im (a.1.L.map ax) false) (.st (dn (e:=108)) (.s (iA 4) (.st (aH ..) (.lg ⟨_,_,_,_,_,_,rfl⟩)))))
 rintro _ bj ⟨ae,af,ah,ai,aj,ak,rfl⟩
 refine .u4 (.uc (.uc (.uc (.bQ ?_ ?_))))
 ·exact .s (ag [(iA b.N),(iA 0),(iA 0),(iA 0),(iA 0),(iA 0),(iA 0),(iA 0)]) (.s [bx [(iA b.N),(iA 0),(iA 0),(iA 0),(iA 0),(iA 0),(iA 0),(iA 0)],bx (al a.1),aC.row true 1 [[(pt 0 0)],[(pt 0 1)],[(pt 0 2)],[(pt 0 3)],[(pt 0 4)],[(pt 0 0)],[(pt 0 5)],[(pt 0 6)],[(pt 0 7)]]] (.s (ag [(iA b.N),(iA 0),(iA 0),(iA 0),(iA 0),(iA 0),(iA 0),(iA 0)]) (.lv rfl)))
 refine .s2 (im (a.1.L.map ax) false) (.st (dn (e:=108)) (.as (Bz C n _ _ _ _ false a.1.L ((a.1.L.length:Int)) 0 0 0 0 a.1 ?_ ?_ _ 0 b.N 0 0 0)))
 ·intro bk av aw ay b0 bm bn bo bp w479 w480 w481
  exact .un rfl (.s (ag [(iA av),(iA 0),(iA 0),(iA 0),(iA 0),(iA aw),(iA ay),(iA b0)]) (.lv rfl))
 ·intro k l o p bq br bs bt bu w491 w492
  exact .un rfl (.cT r8 (.s (ag [(iA k),(iA 0),(iA 0),(iA 0),(iA 0),(iA l),(iA o),(iA p)]) (.s [bx [(iA k),(iA 0),(iA 0),(iA 0),(iA 0),(iA l),(iA o),(iA p)],w491,w492] (.s (ag [(iA k),(iA 0),(iA 0),(iA 0),(iA 0),(iA l),(iA o),(iA p)]) (.lv rfl)))))
def LO (a:(List UInt8)):Option (aU×Bool):=OX aA a
def CM (C:OT):Prop:=∀ (a:(List UInt8)),C 37 [(im (a.map c8) false)]=(LO a).map fun y=>(tp [(ag (az y.1)),(bA y.2)])
def kR (n:Nat) (f:Int) (b:Int) (c:(List aN)) (d:Int) (e:av):Nat->Int->Option ((Int)⊕(Unit))
 | 0,_=>none
 | m+1,a=>bif (decide (a<d)) then ((bf c a).bind fun g=>(LR g a b e.Bar).bind fun h=>bif (!h) then (some ((Sum.inl 490))) else (kR n f b c d e m (wr .i64 (a+1)))) else (some ((Sum.inr (()))))
theorem CY (p:CO C) (f:Int) (b:Int) (h:(List aN)) (l:Int) (a:av) {K:((Int)⊕(Unit))->Option γ} (q:∀ (o:Int) (r:A) (t:A) (i:A) (j:A) (k:A) (q0:aC) (q1:aC),J φ (kr (St.mk [(1,r),(2,(iA o)),(3,t),(31,i),(32,j),(33,k)] [q0,q1])) kL (K (Sum.inl o)) some) (u:∀ (i:A) (j:A) (k:A),J φ (kx 0 (St.mk [(1,(pt 0 0)),(2,(iA f)),(3,(iA b)),(31,i),(32,j),(33,k)] [bx (ak a)])) kL (K (Sum.inr (()))) some) :
  ∀ (m:Nat) (c:Int),J φ (aE (cx C) (ec C n 8) (ey C n 8) (n+8) 20 0 0 1 kx kg kr kp m (St.mk [(1,(pt 0 0)),(2,(iA f)),(3,(iA b)),(31,(im (h.map aw) false)),(32,(iA l)),(33,(iA c))] [bx (ak a)])) kL (kR n f b h l a m c) K:=by
  refine nI (fun _=>.nn) fun m ih c=>.lp (Mu ..) ?_
  unfold kR
  refine .st (aS ..) (.bQ ?_ ?_)
  ·refine .bd (dr (e:=50) (es:=3)) fun d=>.s (ag (aw d)) (.sq (pt 1 0) (.s [bx (ak a),bx (aw d)] (.s (ag (aw d)) (.s2 (iA a.Bar) (.bd (g:=fun (y:Bool)=>(bA y)) (by simp only[cf,dF]; exact p d c b a.Bar) fun w=>.s (bA (!w)) (.bQ ?_ ?_))))))
   ·exact .ex (q _ _ _ _ _ _ _ _)
   refine .st (aF ..) (.st (v:=[bx (ak a)]) (dB r8 An) (.cT ((by kernel_rfl:_=(bif aM 1 (h.map aw) then true else false)).trans u3) ?_))
   exact ih _
  exact .ex (u _ _ _)
def ji (n:Nat) (h:Int) (b:Int) (f:(List ay)) (g:Int) (c:av):Nat->Int->Option ((Int)⊕(Unit))
 | 0,_=>none
 | m+1,d=>bif (decide (d<g)) then ((bf f d).bind fun e=>(LO e.Data).bind fun a=>(bif a.2 then (some (a.1.kind==1)) else (some false)).bind fun i=>bif i then ((JO a.1.cue b).bind fun j=>(bif j then (some (e.From==0)) else (some false)).bind fun k=>(bif k then (some (e.To==(wr .i64 (a.1.cue.Role+1)))) else (some false)).bind fun l=>bif (!l) then (some ((Sum.inl 490))) else (ji n h b f g c m (wr .i64 (d+1)))) else (bif a.2 then ((wM a.1.report.Role 0 (wr .i64 (b - 1))).bind fun o=>(bif o then ((wM a.1.report.Bar 0 (wr .i64 (c.Bar - 1))).bind fun p=>some p) else (some false)).bind fun q=>(bif q then (some (e.From==(wr .i64 (a.1.report.Role+1)))) else (some false)).bind fun r=>(bif r then (some (e.To==0)) else (some false)).bind fun s=>(bif s then ((bf c.Ears a.1.report.Role).bind fun t=>(bf t.Did a.1.report.Bar).bind fun u=>some (u==a.1.report.Program)) else (some false)).bind fun v=>bif (!v) then (some ((Sum.inl 490))) else (ji n h b f g c m (wr .i64 (d+1)))) else (bif (!a.2) then (some ((Sum.inl 490))) else (ji n h b f g c m (wr .i64 (d+1)))))) else (some ((Sum.inr (()))))
theorem CZ (r:mZ C) (b2:CM C) (b3:uf C) (u:Int) (f:Int) (d:(List ay)) (w:Int) (b:av) {K:((Int)⊕(Unit))->Option γ} (h:∀ (x:Int) (i:A) (j:A) (k:A) (l:A) (o:A) (q0:aC) (q1:aC) (q2:aC) (q3:aC) (q4:aC),J φ (kr (St.mk [(1,i),(2,(iA x)),(3,j),(48,k),(49,l),(50,o)] [q0,q1,q2,q3,q4])) kL (K (Sum.inl x)) some) (x1:∀ (i:A) (s2:A) (j:A) (k:A) (l:A) (o:A) (q0:aC),J φ (kx 2 (St.mk [(1,i),(2,s2),(3,j),(48,k),(49,l),(50,o)] [q0])) kL (K (Sum.inr (()))) some) :
  ∀ (m:Nat) (p:Int),J φ (aE (cx C) (ec C n 8) (ey C n 8) (n+8) 20 0 1 1 kx kg kr kp m (St.mk [(1,(pt 0 0)),(2,(iA u)),(3,(iA f)),(48,(im (d.map aq) false)),(49,(iA w)),(50,(iA p))] [bx (ak b)])) kL (ji n u f d w b m p) K:=by
  refine nI (fun _=>.nn) fun m ih p=>.lp (Mv ..) ?_
  unfold ji
  refine .st (aS ..) (.bQ ?_ ?_)
  ·refine .bd (dr (e:=68) (es:=3)) fun c=>.s (ag (aq c)) (.sq (pt 1 0) (.s [bx (ak b),bx (aq c)] (.s2 (im (c.Data.map c8) false) (.bd (g:=fun (y:(aU×Bool))=>(tp [(ag (az y.1)),(bA y.2)])) (by simp only[cf,dF]; exact b2 c.Data) fun a=>.s (ag (az a.1)) (.s (bA a.2) (.sq (pt 2 0) (.sh (.sq (pt 3 0) (.s ((pt 4 0),[bx (ak b),bx (aq c),bx (az a.1),bx [(iA 0),(iA 0),(iA 0),(iA 0)],bx [(iA 0),(iA 0),(iA 0)]]) (.s2 (ag (aI a.1.cue)) (.s (pt 2 5) (.s (ag (aD a.1.report)) (.cT r8 (.sh (.s [bx (ak b),bx (aq c),bx (az a.1),bx (aI a.1.cue),bx (aD a.1.report)] (.bg (fun t (y:Bool)=>∃ z a0 a1:A,t=[(bA y),z,a0,a1]) ?_ ?_))))))))))))))))
   ·refine .bi ?_ ?_
    ·exact .s (pt 2 0) (.s (iA a.1.kind) (.st (aZ ..) (.lg ⟨_,_,_,rfl⟩)))
    exact .lg ⟨_,_,_,rfl⟩
   rintro _ b8 ⟨z,a0,a1,rfl⟩
   refine .u4 (.bQ ?_ ?_)
   ·refine .s (ag (aI a.1.cue)) (.bd (b3 a.1.cue f) fun b9=>.bg (fun t (y:Bool)=>∃ a2 a3 a4:A,t=[(bA y),a2,a3,a4]) ?_ ?_)
    ·refine .bi ?_ ?_
     ·exact .s (pt 1 0) (.s (iA c.From) (.st (aZ ..) (.lg ⟨_,_,_,rfl⟩)))
     exact .lg ⟨_,_,_,rfl⟩
    rintro _ ba ⟨a2,a3,a4,rfl⟩
    refine .u4 (.bg (fun t (y:Bool)=>∃ a5 a6 a7 a8 a9 aa:A,t=[(bA y),a5,a6,a7,a8,a9,aa]) ?_ ?_)
    ·refine .bi ?_ ?_
     ·exact .s (pt 1 1) (.s (iA c.To) (.s (pt 3 1) (.s (iA a.1.cue.Role) (.st (aF ..) (.st (aZ ..) (.lg ⟨_,_,_,_,_,_,rfl⟩))))))
     exact .lg ⟨_,_,_,_,_,_,rfl⟩
    rintro _ b5 ⟨a5,a6,a7,a8,a9,aa,rfl⟩
    refine .u4 (.uc (.uc (.uc (.s (bA (!b5)) (.bQ ?_ ?_)))))
    ·exact .ex (h _ _ _ _ _ _ _ _ _ _ _)
    refine .st (aF ..) (.st (v:=[bx (ak b)]) (dB r8 An) (.cT ((by kernel_rfl:_=(bif aM 1 (d.map aq) then true else false)).trans u3) ?_))
    exact ih _
   refine .bQ ?_ ?_
   ·refine .s2 (iA a.1.report.Role) (.st (dh ..) (.bd (r a.1.report.Role 0 (wr .i64 (f - 1))) fun bc=>.bg (fun t (y:Bool)=>∃ ab ad ae af ah ai:A,t=[(bA y),ab,ad,ae,af,ah,ai]) ?_ ?_))
    ·refine .bi ?_ ?_
     ·exact .s (pt 4 1) (.s (iA a.1.report.Bar) (.s (pt 0 3) (.s (iA b.Bar) (.st (dh ..) (.bd (r a.1.report.Bar 0 (wr .i64 (b.Bar - 1))) fun be=>.lg ⟨_,_,_,_,_,_,rfl⟩)))))
     exact .lg ⟨_,_,_,_,_,_,rfl⟩
    rintro _ bf ⟨ab,ad,ae,af,ah,ai,rfl⟩
    refine .u4 (.uc (.uc (.uc (.bg (fun t (y:Bool)=>∃ aj al am an ao ap:A,t=[(bA y),aj,al,am,an,ao,ap]) ?_ ?_))))
    ·refine .bi ?_ ?_
     ·exact .s (pt 1 0) (.s (iA c.From) (.s (pt 4 0) (.s (iA a.1.report.Role) (.st (aF ..) (.st (aZ ..) (.lg ⟨_,_,_,_,_,_,rfl⟩))))))
     exact .lg ⟨_,_,_,_,_,_,rfl⟩
    rintro _ bh ⟨aj,al,am,an,ao,ap,rfl⟩
    refine .u4 (.uc (.uc (.uc (.bg (fun t (y:Bool)=>∃ ar au ax:A,t=[(bA y),ar,au,ax]) ?_ ?_))))
    ·refine .bi ?_ ?_
     ·exact .s (pt 1 1) (.s (iA c.To) (.st (aZ ..) (.lg ⟨_,_,_,rfl⟩)))
     exact .lg ⟨_,_,_,rfl⟩
    rintro _ bj ⟨ar,au,ax,rfl⟩
    refine .u4 (.Oc (.bg (fun t (y:Bool)=>∃ b0:A,t=[(bA y),b0]) ?_ ?_))
    ·refine .B4 (fun q=>?_) (fun q=>?_)
     ·exact .bb (.s (pt 0 2) (.s (im (b.Ears.map aw) false) (.s (pt 4 0) (.s (iA a.1.report.Role) (.bd (dr (e:=50) (es:=3)) fun b1=>.s (A.ip [(im (b1.Did.map (cI .i64)) false)]) (.s (im (b1.Did.map (cI .i64)) false) (.s (pt 4 1) (.s (iA a.1.report.Bar) (.bd (dr (e:=3) (es:=1)) fun b6=>.s (iA b6) (.s (pt 4 2) (.s (iA a.1.report.Program) (.cr (.u4 (.u4 (.u4 (.uc (.qs q (.st (aZ ..) (.lg ⟨_,rfl⟩)))))))))))))))))))
     exact .bb (.cr (.u4 (.u4 (.u4 (.uc (.qb q (.lg ⟨_,rfl⟩)))))))
    rintro _ b7 ⟨b0,rfl⟩
    refine .uc (.uc (.s (bA (!b7)) (.bQ ?_ ?_)))
    ·exact .ex (h _ _ _ _ _ _ _ _ _ _ _)
    refine .st (aF ..) (.st (v:=[bx (ak b)]) (dB r8 An) (.cT ((by kernel_rfl:_=(bif aM 1 (d.map aq) then true else false)).trans u3) ?_))
    exact ih _
   refine .s (bA (!a.2)) (.bQ ?_ ?_)
   ·exact .ex (h _ _ _ _ _ _ _ _ _ _ _)
   refine .st (aF ..) (.st (v:=[bx (ak b)]) (dB r8 An) (.cT ((by kernel_rfl:_=(bif aM 1 (d.map aq) then true else false)).trans u3) ?_))
   exact ih _
  exact .ex (x1 _ _ _ _ _ _ _)
def OJ (n:Nat) (a:av):Option Int:=
 (wM ((a.Ears.length:Int)) 1 12).bind fun b=>(bif (!b) then (some true) else ((wM a.Bar 0 4096).bind fun c=>some (!c))).bind fun d=>(bif d then (some true) else ((Li a.Net).bind fun e=>some (e != 0))).bind fun f=>bif f then (some 490) else ((kR n 0 ((a.Ears.length:Int)) a.Ears ((a.Ears.length:Int)) a (n+8) 0).bind fun g=>match g with | (Sum.inl h)=>some h | (Sum.inr _)=>(ji n 0 ((a.Ears.length:Int)) a.Net.Queue ((a.Net.Queue.length:Int)) a (n+8) 0).bind fun i=>match i with | (Sum.inl j)=>some j | (Sum.inr _)=>some 0)
theorem VD (C:OT) (n:Nat) (b:mZ C) (o:CM C) (p:uf C) (q:CN C) (r:CO C) (a:av):TJ C n 20 [(ag (ak a))] (OJ n a) (fun y=>(iA y)):=by
 refine .lp (Ww ..) ?_
 unfold OJ
 refine .s ((pt 0 0),[bx (ak a)]) (.s2 (im (a.Ears.map aw) false) (.st (dn (e:=50)) (.bd (b ((a.Ears.length:Int)) 1 12) fun u=>.s (bA (!u)) (.bg (fun t (y:Bool)=>∃ c d f h:A,t=[(bA y),c,d,f,h]) ?_ ?_))))
 ·refine .bi ?_ ?_
  ·exact .lg ⟨_,_,_,_,rfl⟩
  exact .s (pt 0 3) (.s (iA a.Bar) (.bd (b a.Bar 0 4096) fun v=>.s (bA (!v)) (.lg ⟨_,_,_,_,rfl⟩)))
 rintro _ w ⟨c,d,f,h,rfl⟩
 refine .u4 (.uc (.bg (fun t (y:Bool)=>∃ i j k l:A,t=[(bA y),i,j,k,l]) ?_ ?_))
 ·refine .bi ?_ ?_
  ·exact .lg ⟨_,_,_,_,rfl⟩
  exact .s (pt 0 0) (.s (ag [(im (a.Net.Queue.map aq) false),(im (a.Net.Apart.map au) false)]) (.bd (g:=fun (y:Int)=>(iA y)) (by simp only[cf,dF]; exact q a.Net) fun x=>.st (aH ..) (.lg ⟨_,_,_,_,rfl⟩)))
 rintro _ z ⟨i,j,k,l,rfl⟩
 refine .u4 (.uc (.bQ ?_ ?_))
 ·exact .lv rfl
 refine .s2 (im (a.Ears.map aw) false) (.st (dn (e:=50)) (.as (CY C n _ _ _ _ r 0 ((a.Ears.length:Int)) a.Ears ((a.Ears.length:Int)) a ?_ ?_ _ 0)))
 ·intro a1 a2 a3 a4 a5 a6 w114 w115
  exact .un rfl (.lv rfl)
 ·intro a7 a8 a9
  refine .un rfl (.cT r8 (.s (pt 0 0) (.s2 (im (a.Net.Queue.map aq) false) (.st (dn (e:=68)) (.as (CZ C n _ _ _ _ b o p 0 ((a.Ears.length:Int)) a.Net.Queue ((a.Net.Queue.length:Int)) a ?_ ?_ _ 0))))))
  ·intro aa ab ad ae af ah w354 w355 w356 w357 w358
   exact .un rfl (.lv rfl)
  ·intro ai aj al am an ao w365
   exact .un rfl (.cT r8 (.lv rfl))
def FL (a:av):Option Int:=OJ aA a
def wN (C:OT):Prop:=∀ (a:av),C 20 [(ag (ak a))]=(FL a).map fun y=>(iA y)
def vi (C:OT) (self:ar->Option (Int×Bool)):Prop:=∀ (a:ar),C 110 [(ag (al a))]=(self a).map fun y=>(tp [(iA y.1),(bA y.2)])
def gH (self:ar->Option (Int×Bool)) (n:Nat) (f:Bool) (d:(List ar)) (e:Int) (g:ar) (h:Bool) (i:Bool) (j:Bool) (k:Bool):Nat->Int->Int->Option ((Int×Bool)⊕(Int))
 | 0,_,_=>none
 | m+1,a,b=>bif (decide (b<e)) then ((bf d b).bind fun l=>(self l).bind fun c=>bif (!c.2) then (some ((Sum.inl ((0,false))))) else (gH self n f d e g h i j k m ((if a<c.1 then c.1 else a)) (wr .i64 (b+1)))) else (some ((Sum.inr a)))
theorem yU (self:ar->Option (Int×Bool)) (hS:vi C self) (t:Bool) (l:(List ar)) (u:Int) (f:ar) (h:Bool) (i:Bool) (j:Bool) (k:Bool) {K:((Int×Bool)⊕(Int))->Option γ} (x:∀ (a:Int) (w:Bool) (o:A) (p:A) (q:A) (q0:aC) (q1:aC) (q2:aC),J φ (kr (St.mk [(2,(iA a)),(3,(bA w)),(55,o),(56,p),(57,q)] [q0,q1,q2])) kL (K (Sum.inl ((a,w)))) some) (z:∀ (a:Int) (s3:A) (o:A) (p:A) (q:A) (q0:aC) (q1:aC),J φ (kx 0 (St.mk [(2,(iA a)),(3,s3),(55,o),(56,p),(57,q)] [q0,q1])) kL (K (Sum.inr a)) some) :
  ∀ (m:Nat) (b:Int) (r:Int),J φ (aE (cx C) (ec C n 8) (ey C n 8) (n+8) 110 0 0 2 kx kg kr kp m (St.mk [(2,(iA b)),(3,(bA t)),(55,(im (l.map ax) false)),(56,(iA u)),(57,(iA r))] [bx (al f),bx [(bA h),(bA i),(bA j),(bA k)]])) kL (gH self n t l u f h i j k m b r) K:=by
  refine nI (fun _ _=>.nn) fun m ih b r=>.lp (Kp ..) ?_
  unfold gH
  refine .st (aS ..) (.bQ ?_ ?_)
  ·refine .bd ((dr (e:=108) (es:=4)).trans (eo _)) fun c=>.s (ag (al c)) (.sq (pt 2 0) (.s [bx (al f),bx [(bA h),(bA i),(bA j),(bA k)],bx (al c)] (.s (ag (al c)) (.bd (g:=fun (y:(Int×Bool))=>(tp [(iA y.1),(bA y.2)])) (by show C 110 [snap _ (ag (al c))]=_; simp only[cf,dF]; exact hS c) fun d=>.s (iA d.1) (.s (bA d.2) (.s (bA (!d.2)) (.bQ ?_ ?_)))))))
   ·exact .ex (x _ _ _ _ _ _ _ _)
   refine .s (iA ((if b<d.1 then d.1 else b))) (.st (aF ..) (.st (v:=[bx (al f),bx [(bA h),(bA i),(bA j),(bA k)]]) (dB r8 An) (.cT ((by kernel_rfl:_=(bif aM 2 (l.map ax) then true else false)).trans u3) ?_)))
   exact ih _ _
  exact .ex (z _ _ _ _ _ _ _)
def Co (self:ar->Option (Int×Bool)) (n:Nat) (a:ar):Option (Int×Bool):=
 (bif (jy a.S ((ByteArray.mk #[]))) then (some (((a.L.length:Int))==0)) else (some false)).bind fun b=>(bif (a.N==0) then (some (((a.L.length:Int))==0)) else (some false)).bind fun c=>(bif (a.N==0) then (some (jy a.S ((ByteArray.mk #[])))) else (some false)).bind fun d=>(bif (decide (a.Kind<1)) then (some true) else (some (decide (3<a.Kind)))).bind fun e=>(bif e then (some true) else (bif decide (a.Kind=0) then (some true) else bif decide (a.Kind=1) then (some (!b)) else bif decide (a.Kind=2) then (some (!c)) else bif decide (a.Kind=3) then (some (!d)) else none)).bind fun f=>bif f then (some ((0,false))) else (bif (decide (a.Kind<3)) then (some ((0,true))) else ((gH self n false a.L ((a.L.length:Int)) a false b c d (n+8) 0 0).bind fun g=>match g with | (Sum.inl ((h,i)))=>some ((h,i)) | (Sum.inr j)=>some ((wr .i64 (j+1),true))))
theorem QZ (C:OT) (n:Nat) (self:ar->Option (Int×Bool)) (hS:vi C self) (a:ar):TJ C n 110 [(ag (al a))] (Co self n a) (fun y=>(tp [(iA y.1),(bA y.2)])):=by
 refine .lp (Rl ..) ?_
 unfold Co
 refine .s ((pt 0 0),[bx (al a)]) (.s2 (sA a.S) (.st (jX ..) (.bg (fun t (y:Bool)=>∃ f g h i:A,t=[(bA y),f,g,h,i]) ?_ ?_)))
 ·refine .bi ?_ ?_
  ·exact .s (pt 0 3) (.s (im (a.L.map ax) false) (.st (dn (e:=108)) (.st (aZ ..) (.lg ⟨_,_,_,_,rfl⟩))))
  exact .lg ⟨_,_,_,_,rfl⟩
 rintro _ b ⟨f,g,h,i,rfl⟩
 refine .u4 (.uc (.s2 (iA a.N) (.st (aZ ..) (.bg (fun t (y:Bool)=>∃ j k l o:A,t=[(bA y),j,k,l,o]) ?_ ?_))))
 ·refine .bi ?_ ?_
  ·exact .s (pt 0 3) (.s (im (a.L.map ax) false) (.st (dn (e:=108)) (.st (aZ ..) (.lg ⟨_,_,_,_,rfl⟩))))
  exact .lg ⟨_,_,_,_,rfl⟩
 rintro _ c ⟨j,k,l,o,rfl⟩
 refine .u4 (.uc (.s2 (iA a.N) (.st (aZ ..) (.bg (fun t (y:Bool)=>∃ p q r:A,t=[(bA y),p,q,r]) ?_ ?_))))
 ·refine .bi ?_ ?_
  ·exact .s (pt 0 2) (.s (sA a.S) (.st (jX ..) (.lg ⟨_,_,_,rfl⟩)))
  exact .lg ⟨_,_,_,rfl⟩
 rintro _ d ⟨p,q,r,rfl⟩
 refine .u4 (.s (ag [(bA false),(bA b),(bA c),(bA d)]) (.sq (pt 1 0) (.s [bx (al a),bx [(bA false),(bA b),(bA c),(bA d)]] (.s2 (iA a.Kind) (.st (aS ..) (.bg (fun t (y:Bool)=>∃ u w x:A,t=[(bA y),u,w,x]) ?_ ?_))))))
 ·refine .bi ?_ ?_
  ·exact .lg ⟨_,_,_,rfl⟩
  exact .s (pt 0 0) (.s (iA a.Kind) (.st (cC ..) (.lg ⟨_,_,_,rfl⟩)))
 rintro _ a9 ⟨u,w,x,rfl⟩
 refine .u4 (.bg (fun t (y:Bool)=>∃ z a1 a2 a3 a4:A,t=[(bA y),z,a1,a2,a3,a4]) ?_ ?_)
 ·refine .bi ?_ ?_
  ·exact .lg ⟨_,_,_,_,_,rfl⟩
  refine .s (pt 0 0) (.s (iA a.Kind) (.sp (fun a5=>?_) (fun _=>?_)))
  ·exact .st (v:=(pt 1 0)) (by rw[Yr a5]; kernel_rfl) (.s (bA false) (.s (bA true) (.lg ⟨_,_,_,_,_,rfl⟩)))
  refine .sp (fun a6=>?_) (fun _=>?_)
  ·exact .st (v:=(pt 1 1)) (by rw[Yr a6]; kernel_rfl) (.s (bA b) (.s (bA (!b)) (.lg ⟨_,_,_,_,_,rfl⟩)))
  refine .sp (fun a7=>?_) (fun _=>?_)
  ·exact .st (v:=(pt 1 2)) (by rw[Yr a7]; kernel_rfl) (.s (bA c) (.s (bA (!c)) (.lg ⟨_,_,_,_,_,rfl⟩)))
  refine .sp (fun a8=>?_) (fun _=>?_)
  ·exact .st (v:=(pt 1 3)) (by rw[Yr a8]; kernel_rfl) (.s (bA d) (.s (bA (!d)) (.lg ⟨_,_,_,_,_,rfl⟩)))
  exact .nn
 rintro _ aa ⟨z,a1,a2,a3,a4,rfl⟩
 refine .u4 (.uc (.uc (.bQ ?_ ?_)))
 ·exact .lv rfl
 refine .s2 (iA a.Kind) (.st (aS ..) (.bQ ?_ ?_))
 ·exact .lv rfl
 refine .s2 (im (a.L.map ax) false) (.st (dn (e:=108)) (.as (yU C n _ _ _ _ self hS false a.L ((a.L.length:Int)) a false b c d ?_ ?_ _ 0 0)))
 ·intro ab ad ae af ah w128 w129 w130
  exact .un rfl (.lv rfl)
 ·intro ai aj ak am an w136 w137
  exact .un rfl (.cT r8 (.st (aF ..) (.lv rfl)))
def wS:Nat->ar->Option (Int×Bool)
 | 0=>fun _=>none
 | q+1=>fun a0=>Co (wS q) aA a0
def FI (a:ar):Option (Int×Bool):=wS aA a
def Cz (C:OT):Prop:=∀ (a:ar),C 110 [(ag (al a))]=(FI a).map fun y=>(tp [(iA y.1),(bA y.2)])
def Pt (n:Nat) (b:ar):Option Int:=
 (FI b).bind fun a=>bif (!a.2) then (some 1) else (bif (decide (16<a.1)) then (some 2) else (some 0))
theorem Wp (C:OT) (n:Nat) (c:Cz C) (a:ar):TJ C n 97 [(ag (al a))] (Pt n a) (fun y=>(iA y)):=by
 refine .lp (Xp ..) ?_
 unfold Pt
 refine .s ((pt 0 0),[bx (al a)]) (.s (ag (al a)) (.bd (g:=fun (y:(Int×Bool))=>(tp [(iA y.1),(bA y.2)])) (by simp only[cf,dF]; exact c a) fun b=>.s (iA b.1) (.s (bA b.2) (.s (bA (!b.2)) (.bQ ?_ ?_)))))
 ·exact .lv rfl
 refine .st (cC ..) (.bQ ?_ ?_)
 ·exact .lv rfl
 exact .lv rfl
def L6 (a:ar):Option Int:=Pt aA a
def IV (C:OT):Prop:=∀ (a:ar),C 97 [(ag (al a))]=(L6 a).map fun y=>(iA y)
def FE (n:Nat) (a:Int):Option Int:=
 some (ru .u64 (po .u64 (wr .u64 (a)) 1) (wr .u64 (nM .i64 a 63)))
theorem Q0 (C:OT) (n:Nat) (a:Int):TJ C n 113 [(iA a)] (FE n a) (fun y=>(A.v (.int .u64 y))):=by
 refine .lp (Rm ..) ?_
 unfold FE
 exact .st (v:=(A.v (.int .u64 (wr .u64 (a))))) (aV (hs:=by kernel_rfl) (hd:=by kernel_rfl) ..) (.st (rJ (hb:=by decide) ..) (.st (lB (hb:=by decide) ..) (.st (v:=(A.v (.int .u64 (wr .u64 (nM .i64 a 63))))) (aV (hs:=by kernel_rfl) (hd:=by kernel_rfl) ..) (.st (oa ..) (.lv rfl)))))
def yO (a:Int):Option Int:=FE aA a
def qh (C:OT):Prop:=∀ (a:Int),C 113 [(iA a)]=(yO a).map fun y=>(A.v (.int .u64 y))
def bc:aC:=bx [(A.v Value.nilFunc),(tG 111 [] []),(tG 114 [] []),(tG 115 [] [(pt 2 0)])]
def Cw (C:OT) (N:Nat) (self:ar->ar->(List UInt8)->ar->Option (List UInt8)):Prop:=∀ (a:ar) (b:ar) (a2:(List UInt8)) (c:ar) (X:aB),J (fun (o:R) (y:(List UInt8))=>o=(Out.ret (bM 4 0 y.length false),[bx (al a),bc,bx [(pt 1 0)],bx (al b),aC.row false 1 (y.map c8)]++X)) (dH (cx C) N 115 [(bM 4 0 a2.length false),(ag (al c)),(pt 2 0)] ([bx (al a),bc,bx [(pt 1 0)],bx (al b),aC.row false 1 (a2.map c8)]++X) 0) some (self a b a2 c) some
def jh (n:Nat):Nat->Int->(List UInt8)->Option (Int×(List UInt8))
 | 0,_,_=>none
 | m+1,a,b=>bif (decide (128<=a)) then (bif (decide (0<=(mX .u8 (wr .u8 (a)) 128))&&decide ((mX .u8 (wr .u8 (a)) 128)<256)) then ((cQ 1 b ([(UInt8.ofNat (Int.toNat (mX .u8 (wr .u8 (a)) 128)))])).bind fun c=>jh n m (nM .u64 a 7) c) else none) else (some ((a,b)))
theorem wX {w44:A} {w45 w46 w47 w48 w49:aC} {K:(Int×(List UInt8))->Option γ} (h:∀ (e:Int) (d:(List UInt8)) (i:A),J φ (kx 0 (St.mk [(0,(bM 4 0 d.length false)),(1,(A.v (.int .u64 e))),(4,i)] [w45,w46,w47,w48,aC.row false 1 (d.map c8),w49])) kL (K (e,d)) some) :
  ∀ (m:Nat) (a:Int) (c:(List UInt8)),J φ (aE (cx C) (ec C n 7) (ey C n 7) (n+7) 112 0 0 6 kx kg kr kp m (St.mk [(0,(bM 4 0 c.length false)),(1,(A.v (.int .u64 a))),(4,w44)] [w45,w46,w47,w48,aC.row false 1 (c.map c8),w49])) kL (jh n  m a c) K:=by
  refine nI (fun _ _=>.nn) fun m ih a c=>.lp (vJ ..) ?_
  unfold jh
  refine .st (dq ..) (.bQ ?_ ?_)
  ·refine .st (v:=(uA (wr .u8 (a)))) (aV (hs:=by kernel_rfl) (hd:=by kernel_rfl) ..) (.st (ic ..) (.gd fun hg=>.st (v:=(im [[(uA (((UInt8.ofNat (Int.toNat (mX .u8 (wr .u8 (a)) 128))).toNat:Int)))]] true)) (by rw[fF hg]; kernel_rfl) (.bd (g:=fun (y:List UInt8)=>((bM 4 0 y.length false),[w45,w46,w47,w48,aC.row false 1 (y.map c8),w49])) (bZ df (l:=c) (l2:=[(UInt8.ofNat (Int.toNat (mX .u8 (wr .u8 (a)) 128)))]) (b:=4) rfl (by decide) (bH (f:=c8) ([(UInt8.ofNat (Int.toNat (mX .u8 (wr .u8 (a)) 128)))]:List UInt8) _ _)) fun j=>.st (lB (hb:=by decide) ..) (.s [w45,w46,w47,w48,aC.row false 1 (j.map c8),w49] (.cT r8 ?_)))))
   exact ih _ _
  exact .ex (h _ _ _)
def fo (n:Nat):Nat->Int->(List UInt8)->Option (Int×(List UInt8))
 | 0,_,_=>none
 | m+1,a,b=>bif (decide (128<=a)) then (bif (decide (0<=(mX .u8 (wr .u8 (a)) 128))&&decide ((mX .u8 (wr .u8 (a)) 128)<256)) then ((cQ 1 b ([(UInt8.ofNat (Int.toNat (mX .u8 (wr .u8 (a)) 128)))])).bind fun c=>fo n m (nM .u64 a 7) c) else none) else (some ((a,b)))
theorem px {w1301:A} {w1302 w1303 w1304 w1305 w1306 w1307 w1308:aC} {K:(Int×(List UInt8))->Option γ} (h:∀ (e:Int) (d:(List UInt8)) (i:A),J φ (kx 0 (St.mk [(0,(bM 4 0 d.length false)),(1,(A.v (.int .u64 e))),(4,i)] [w1302,w1303,w1304,w1305,aC.row false 1 (d.map c8),w1306,w1307,w1308])) kL (K (e,d)) some) :
  ∀ (m:Nat) (a:Int) (c:(List UInt8)),J φ (aE (cx C) (dH (cx C) (n+6)) (bw (cx C) (n+6)) (n+6) 112 0 0 8 kx kg kr kp m (St.mk [(0,(bM 4 0 c.length false)),(1,(A.v (.int .u64 a))),(4,w1301)] [w1302,w1303,w1304,w1305,aC.row false 1 (c.map c8),w1306,w1307,w1308])) kL (fo n  m a c) K:=by
  refine nI (fun _ _=>.nn) fun m ih a c=>.lp (vJ ..) ?_
  unfold fo
  refine .st (dq ..) (.bQ ?_ ?_)
  ·refine .st (v:=(uA (wr .u8 (a)))) (aV (hs:=by kernel_rfl) (hd:=by kernel_rfl) ..) (.st (ic ..) (.gd fun hg=>.st (v:=(im [[(uA (((UInt8.ofNat (Int.toNat (mX .u8 (wr .u8 (a)) 128))).toNat:Int)))]] true)) (by rw[fF hg]; kernel_rfl) (.bd (g:=fun (y:List UInt8)=>((bM 4 0 y.length false),[w1302,w1303,w1304,w1305,aC.row false 1 (y.map c8),w1306,w1307,w1308])) (bZ df (l:=c) (l2:=[(UInt8.ofNat (Int.toNat (mX .u8 (wr .u8 (a)) 128)))]) (b:=4) rfl (by decide) (bH (f:=c8) ([(UInt8.ofNat (Int.toNat (mX .u8 (wr .u8 (a)) 128)))]:List UInt8) _ _)) fun j=>.st (lB (hb:=by decide) ..) (.s [w1302,w1303,w1304,w1305,aC.row false 1 (j.map c8),w1306,w1307,w1308] (.cT r8 ?_)))))
   exact ih _ _
  exact .ex (h _ _ _)
def eM (self:ar->ar->(List UInt8)->ar->Option (List UInt8)) (n:Nat) (h:(List UInt8)) (c:(List ar)) (d:Int) (e:ar) (f:ar) (i:ar):Nat->Int->(List UInt8)->Option ((List UInt8))
 | 0,_,_=>none
 | m+1,b,g=>bif (decide (b<d)) then ((bf c b).bind fun a=>bif decide (a.Kind=0) then (none) else bif decide (a.Kind=1) then ((cQ 1 g ([(1:UInt8)])).bind fun l=>(yO a.N).bind fun o=>(fo n  (n+6) o l).bind fun p=>match p with | (j,q)=>bif (decide (0<=(wr .u8 (j)))&&decide ((wr .u8 (j))<256)) then ((cQ 1 q ([(UInt8.ofNat (Int.toNat (wr .u8 (j))))])).bind fun r=>eM self n h c d e f i m (wr .i64 (b+1)) r) else none) else bif decide (a.Kind=2) then ((cQ 1 g ([(2:UInt8)])).bind fun s=>(fo n  (n+6) (wr .u64 ((a.S.size:Int))) s).bind fun t=>match t with | (k,u)=>bif (decide (0<=(wr .u8 (k)))&&decide ((wr .u8 (k))<256)) then ((cQ 1 u ([(UInt8.ofNat (Int.toNat (wr .u8 (k))))])).bind fun v=>(cQ 1 v (lF a.S)).bind fun w=>eM self n h c d e f i m (wr .i64 (b+1)) w) else none) else bif decide (a.Kind=3) then ((self e f g a).bind fun x=>eM self n h c d e f i m (wr .i64 (b+1)) x) else none) else (some g)
theorem wY (w:qh C) (self:ar->ar->(List UInt8)->ar->Option (List UInt8)) (hS:Cw C (n+8) self) (j:(List UInt8)) (k:(List ar)) (u:Int) (c:ar) (d:ar) (h:ar) {K:((List UInt8))->Option γ} (x:∀ (q:(List UInt8)) (s2:A) (z:A) (a0:A) (a1:A) (a2:A) (q5:aC),J φ (kx 0 (St.mk [(0,(bM 4 0 q.length false)),(2,s2),(5,z),(17,a0),(18,a1),(19,a2)] [bx (al c),bc,bx [(pt 1 0)],bx (al d),aC.row false 1 (q.map c8),q5])) kL (K q) some) :
  ∀ (m:Nat) (r:Int) (i:(List UInt8)),J φ (aE (cx C) (ec C n 8) (ey C n 8) (n+8) 115 0 0 6 kx kg kr kp m (St.mk [(0,(bM 4 0 i.length false)),(2,(pt 2 0)),(5,(im (j.map c8) true)),(17,(im (k.map ax) false)),(18,(iA u)),(19,(iA r))] [bx (al c),bc,bx [(pt 1 0)],bx (al d),aC.row false 1 (i.map c8),bx (al h)])) kL (eM self n j k u c d h m r i) K:=by
  refine nI (fun _ _=>.nn) fun m ih r i=>.lp (DQ ..) ?_
  unfold eM
  refine .st (aS ..) (.bQ ?_ ?_)
  ·refine .bd ((dr (e:=108) (es:=4)).trans (eo _)) fun a=>.s (ag (al a)) (.sq (pt 6 0) (.s [bx (al c),bc,bx [(pt 1 0)],bx (al d),aC.row false 1 (i.map c8),bx (al h),bx (al a)] (.s (pt 1 0) (.s2 (iA a.Kind) (.s (pt 1 0) (.sp (fun a3=>?_) (fun _=>?_)))))))
   ·exact .st (v:=(pt 1 0)) (by rw[Yr a3]; kernel_rfl) (.s2 (A.v Value.nilFunc) (.s (ag (al a)) (.nn)))
   refine .sp (fun a4=>?_) (fun _=>?_)
   ·refine .st (v:=(pt 1 1)) (by rw[Yr a4]; kernel_rfl) (.s2 (tG 111 [] []) (.s (ag (al a)) (.dC r8 r8 (.cl ((bl zQ).trans (Kq ..)) (.s ((pt 7 0),[bx (al c),bc,bx [(pt 1 0)],bx (al d),aC.row false 1 (i.map c8),bx (al h),bx (al a),bx (al a)]) (.s (im [[(uA 1)]] true) (.bd (g:=fun (y:List UInt8)=>((bM 4 0 y.length false),[bx (al c),bc,bx [(pt 1 0)],bx (al d),aC.row false 1 (y.map c8),bx (al h),bx (al a),bx (al a)])) (bZ df (l:=i) (l2:=[(1:UInt8)]) (b:=4) rfl (by decide) (bH (f:=c8) ([(1:UInt8)]:List UInt8) _ _)) fun a5=>.cT r8 (.s (pt 7 1) (.cT r8 (.s (iA a.N) (.bd (w a.N) fun a6=>.cl ((bl nJ).trans (xl ..)) (.as (px C n _ _ _ _  ?_ _ a6 a5)))))))))))))
    ·intro o a7 ai
     refine .un rfl (.cT r8 (.st (v:=(uA (wr .u8 (o)))) (aV (hs:=by kernel_rfl) (hd:=by kernel_rfl) ..) (.gd fun hg=>.st (v:=(im [[(uA (((UInt8.ofNat (Int.toNat (wr .u8 (o)))).toNat:Int)))]] true)) (by rw[fF hg]; kernel_rfl) (.bd (g:=fun (y:List UInt8)=>((bM 4 0 y.length false),[bx (al c),bc,bx [(pt 1 0)],bx (al d),aC.row false 1 (y.map c8),bx (al h),bx (al a),bx (al a)])) (bZ df (l:=a7) (l2:=[(UInt8.ofNat (Int.toNat (wr .u8 (o))))]) (b:=4) rfl (by decide) (bH (f:=c8) ([(UInt8.ofNat (Int.toNat (wr .u8 (o))))]:List UInt8) _ _)) fun a8=>.cr (.ok (.cr (.ok (.st (aF ..) (.st (v:=[bx (al c),bc,bx [(pt 1 0)],bx (al d),aC.row false 1 (a8.map c8),bx (al h)]) (dB r8 X4) (.cT ((by kernel_rfl:_=(bif aM 6 (j.map c8) then (bif aM 6 (k.map ax) then true else false) else false)).trans u3) ?_))))))))))
     exact ih _ _
   refine .sp (fun a9=>?_) (fun _=>?_)
   ·refine .st (v:=(pt 1 2)) (by rw[Yr a9]; kernel_rfl) (.s2 (tG 114 [] []) (.s (ag (al a)) (.dC r8 r8 (.cl ((bl zR).trans (Kr ..)) (.s ((pt 7 0),[bx (al c),bc,bx [(pt 1 0)],bx (al d),aC.row false 1 (i.map c8),bx (al h),bx (al a),bx (al a)]) (.s ((A.ip (al a)),[bx (al c),bc,bx [(pt 1 0)],bx (al d),aC.row false 1 (i.map c8),bx (al h),bx (al a),aC.dead]) (.cT r8 (.s (im [[(uA 2)]] true) (.s (A.ip [(sA a.S),(im (a.L.map ax) false)]) (.s (sA a.S) (.s (iA ((a.S.size:Int))) (.st (v:=(A.v (.int .u64 (wr .u64 ((a.S.size:Int)))))) (aV (hs:=by kernel_rfl) (hd:=by kernel_rfl) ..) (.s (A.ip [(sA a.S),(im (a.L.map ax) false)]) (.s (sA a.S) (.cT r8 (.bd (g:=fun (y:List UInt8)=>((bM 4 0 y.length false),[bx (al c),bc,bx [(pt 1 0)],bx (al d),aC.row false 1 (y.map c8),bx (al h),bx (al a),aC.dead])) (bZ df (l:=i) (l2:=[(2:UInt8)]) (b:=4) rfl (by decide) (bH (f:=c8) ([(2:UInt8)]:List UInt8) _ _)) fun aa=>.cT r8 (.cl ((bl nJ).trans (xl ..)) (.as (px C n _ _ _ _  ?_ _ (wr .u64 ((a.S.size:Int))) aa)))))))))))))))))))
    ·intro p ab aj
     refine .un rfl (.cT r8 (.st (v:=(uA (wr .u8 (p)))) (aV (hs:=by kernel_rfl) (hd:=by kernel_rfl) ..) (.gd fun hg=>.st (v:=(im [[(uA (((UInt8.ofNat (Int.toNat (wr .u8 (p)))).toNat:Int)))]] true)) (by rw[fF hg]; kernel_rfl) (.bd (g:=fun (y:List UInt8)=>((bM 4 0 y.length false),[bx (al c),bc,bx [(pt 1 0)],bx (al d),aC.row false 1 (y.map c8),bx (al h),bx (al a),aC.dead])) (bZ df (l:=ab) (l2:=[(UInt8.ofNat (Int.toNat (wr .u8 (p))))]) (b:=4) rfl (by decide) (bH (f:=c8) ([(UInt8.ofNat (Int.toNat (wr .u8 (p))))]:List UInt8) _ _)) fun ad=>.cr (.ok (.bd (g:=fun (y:List UInt8)=>((bM 4 0 y.length false),[bx (al c),bc,bx [(pt 1 0)],bx (al d),aC.row false 1 (y.map c8),bx (al h),bx (al a),aC.dead])) (bZ vz (l:=ad) (l2:=lF a.S) (b:=4) rfl (by decide) (ry ..)) fun ae=>.cr (.ok (.st (aF ..) (.st (v:=[bx (al c),bc,bx [(pt 1 0)],bx (al d),aC.row false 1 (ae.map c8),bx (al h)]) (dB r8 X4) (.cT ((by kernel_rfl:_=(bif aM 6 (j.map c8) then (bif aM 6 (k.map ax) then true else false) else false)).trans u3) ?_))))))))))
     exact ih _ _
   refine .sp (fun af=>?_) (fun _=>?_)
   ·refine .st (v:=(pt 1 3)) (by rw[Yr af]; kernel_rfl) (.s2 (tG 115 [] [(pt 2 0)]) (.s (ag (al a)) (.dC r8 r8 (.bg (fun (t:R) (y:(List UInt8))=>t=(Out.ret (bM 4 0 y.length false),[bx (al c),bc,bx [(pt 1 0)],bx (al d),aC.row false 1 (y.map c8),bx (al h),bx (al a)])) (hS c d i a [bx (al h),bx (al a)]) ?_))))
    rintro _ ah rfl
    refine .ok (.st (aF ..) (.st (v:=[bx (al c),bc,bx [(pt 1 0)],bx (al d),aC.row false 1 (ah.map c8),bx (al h)]) (dB r8 X4) (.cT ((by kernel_rfl:_=(bif aM 6 (j.map c8) then (bif aM 6 (k.map ax) then true else false) else false)).trans u3) ?_)))
    exact ih _ _
   exact .nn
  exact .ex (x _ _ _ _ _ _ _)
def ue (self:ar->ar->(List UInt8)->ar->Option (List UInt8)) (n:Nat) (c:ar) (d:ar) (a2:(List UInt8)) (a:ar):Option (List UInt8):=
 (cQ 1 a2 ([(3:UInt8)])).bind fun e=>(jh n  (n+7) (wr .u64 ((a.L.length:Int))) e).bind fun PF=>match PF with | (b,f)=>bif (decide (0<=(wr .u8 (b)))&&decide ((wr .u8 (b))<256)) then ((cQ 1 f ([(UInt8.ofNat (Int.toNat (wr .u8 (b))))])).bind fun g=>(eM self n ([]) a.L ((a.L.length:Int)) c d a (n+8) 0 g).bind fun h=>match h with | i=>some i) else none
theorem Mf (C:OT) (n:Nat) (i:qh C) (self:ar->ar->(List UInt8)->ar->Option (List UInt8)) (hS:Cw C (n+8) self) (c:ar) (d:ar) (a2:(List UInt8)) (a:ar):J (fun (o:R) (y:(List UInt8))=>∃ Z,o=(Out.ret (bM 4 0 y.length false),[bx (al c),bc,bx [(pt 1 0)],bx (al d),aC.row false 1 (y.map c8)]++Z)) (aG (cx C) (ec C n 8) (ey C n 8) (n+8) 115 [(bM 4 0 a2.length false),(ag (al a)),(pt 2 0)] [bx (al c),bc,bx [(pt 1 0)],bx (al d),aC.row false 1 (a2.map c8)] 0) some (ue self n c d a2 a) some:=by
 refine .lp (Ms ..) ?_
 unfold ue
 refine .s ((pt 5 0),[bx (al c),bc,bx [(pt 1 0)],bx (al d),aC.row false 1 (a2.map c8),bx (al a)]) (.s (im [[(uA 3)]] true) (.bd (g:=fun (y:List UInt8)=>((bM 4 0 y.length false),[bx (al c),bc,bx [(pt 1 0)],bx (al d),aC.row false 1 (y.map c8),bx (al a)])) (bZ df (l:=a2) (l2:=[(3:UInt8)]) (b:=4) rfl (by decide) (bH (f:=c8) ([(3:UInt8)]:List UInt8) _ _)) fun j=>.cT r8 (.s (pt 5 3) (.cT r8 (.s (im (a.L.map ax) false) (.cT r8 (.st (dn (e:=108)) (.cT r8 (.st (v:=(A.v (.int .u64 (wr .u64 ((a.L.length:Int)))))) (aV (hs:=by kernel_rfl) (hd:=by kernel_rfl) ..) (.cl ((bl nJ).trans (xl ..)) (.as (wX C n _ _ _ _  ?_ _ (wr .u64 ((a.L.length:Int))) j))))))))))))
 ·intro h k q
  refine .un rfl (.cT r8 (.st (v:=(uA (wr .u8 (h)))) (aV (hs:=by kernel_rfl) (hd:=by kernel_rfl) ..) (.gd fun hg=>.st (v:=(im [[(uA (((UInt8.ofNat (Int.toNat (wr .u8 (h)))).toNat:Int)))]] true)) (by rw[fF hg]; kernel_rfl) (.bd (g:=fun (y:List UInt8)=>((bM 4 0 y.length false),[bx (al c),bc,bx [(pt 1 0)],bx (al d),aC.row false 1 (y.map c8),bx (al a)])) (bZ df (l:=k) (l2:=[(UInt8.ofNat (Int.toNat (wr .u8 (h))))]) (b:=4) rfl (by decide) (bH (f:=c8) ([(UInt8.ofNat (Int.toNat (wr .u8 (h))))]:List UInt8) _ _)) fun p=>.cr (.ok (.s2 (im (a.L.map ax) false) (.st (dn (e:=108)) (.as (wY C n _ _ _ _ i self hS ([]) a.L ((a.L.length:Int)) c d a ?_ _ 0 p)))))))))
  ·intro r t u w x z w1400
   exact .un rfl (.cT r8 (.lf rfl rfl ⟨[w1400],rfl⟩))
def vl:Nat->ar->ar->(List UInt8)->ar->Option (List UInt8)
 | 0=>fun _ _ _ _=>none
 | N+1=>fun a0 a1 a2 a3=>bif Nat.ble 8 N then ue (vl N) (N - 8) a0 a1 a2 a3 else none
theorem Ir (C:OT) (d:qh C):∀ N,Cw C N (vl N)
 | 0=>fun _ _ _ _ X r h=>by cases h
 | N+1=>fun a b a2 c X=>by
  show J _ _ _ (bif Nat.ble 8 N then ue (vl N) (N - 8) a b a2 c else none) _
  cases h:Nat.ble 8 N with
  | false=>exact fun r h=>by cases h
  | true=>
   obtain ⟨n,rfl⟩:∃ n,N=n+8:=⟨N - 8,by have:=YK h; omega⟩
   rw[qaz]
   exact DM (m:=5) r8 r8 (by decide) rfl ((by kernel_rfl:_=((((aM 5 (c.L.map ax))&&true))&&true)).trans u3) ((by kernel_rfl:_=((((aM 5 (a.L.map ax))&&true))&&((((aM 5 (b.L.map ax))&&true))&&((aM 5 (a2.map c8))&&true)))).trans u3) (fun _=>rfl) (fun y=>r8) (fun y=>((by kernel_rfl:_=((((aM 5 (a.L.map ax))&&true))&&((((aM 5 (b.L.map ax))&&true))&&((aM 5 (y.map c8))&&true)))).trans u3)) (Mf C n d (vl (n+8)) (Ir C d (n+8)) a b a2 c)
def fT (n:Nat):Nat->Int->(List UInt8)->Option (Int×(List UInt8))
 | 0,_,_=>none
 | m+1,a,b=>bif (decide (128<=a)) then (bif (decide (0<=(mX .u8 (wr .u8 (a)) 128))&&decide ((mX .u8 (wr .u8 (a)) 128)<256)) then ((cQ 1 b ([(UInt8.ofNat (Int.toNat (mX .u8 (wr .u8 (a)) 128)))])).bind fun c=>fT n m (nM .u64 a 7) c) else none) else (some ((a,b)))
theorem qk {w75:A} {w76 w77 w78 w79:aC} {K:(Int×(List UInt8))->Option γ} (h:∀ (e:Int) (d:(List UInt8)) (i:A),J φ (kx 0 (St.mk [(0,(bM 4 0 d.length false)),(1,(A.v (.int .u64 e))),(4,i)] [w76,w77,w78,w79,aC.row false 1 (d.map c8)])) kL (K (e,d)) some) :
  ∀ (m:Nat) (a:Int) (c:(List UInt8)),J φ (aE (cx C) (dH (cx C) (n+6)) (bw (cx C) (n+6)) (n+6) 112 0 0 5 kx kg kr kp m (St.mk [(0,(bM 4 0 c.length false)),(1,(A.v (.int .u64 a))),(4,w75)] [w76,w77,w78,w79,aC.row false 1 (c.map c8)])) kL (fT n  m a c) K:=by
  refine nI (fun _ _=>.nn) fun m ih a c=>.lp (vJ ..) ?_
  unfold fT
  refine .st (dq ..) (.bQ ?_ ?_)
  ·refine .st (v:=(uA (wr .u8 (a)))) (aV (hs:=by kernel_rfl) (hd:=by kernel_rfl) ..) (.st (ic ..) (.gd fun hg=>.st (v:=(im [[(uA (((UInt8.ofNat (Int.toNat (mX .u8 (wr .u8 (a)) 128))).toNat:Int)))]] true)) (by rw[fF hg]; kernel_rfl) (.bd (g:=fun (y:List UInt8)=>((bM 4 0 y.length false),[w76,w77,w78,w79,aC.row false 1 (y.map c8)])) (bZ df (l:=c) (l2:=[(UInt8.ofNat (Int.toNat (mX .u8 (wr .u8 (a)) 128)))]) (b:=4) rfl (by decide) (bH (f:=c8) ([(UInt8.ofNat (Int.toNat (mX .u8 (wr .u8 (a)) 128)))]:List UInt8) _ _)) fun j=>.st (lB (hb:=by decide) ..) (.s [w76,w77,w78,w79,aC.row false 1 (j.map c8)] (.cT r8 ?_)))))
   exact ih _ _
  exact .ex (h _ _ _)
def gK (n:Nat):Nat->Int->(List UInt8)->Option (Int×(List UInt8))
 | 0,_,_=>none
 | m+1,a,b=>bif (decide (128<=a)) then (bif (decide (0<=(mX .u8 (wr .u8 (a)) 128))&&decide ((mX .u8 (wr .u8 (a)) 128)<256)) then ((cQ 1 b ([(UInt8.ofNat (Int.toNat (mX .u8 (wr .u8 (a)) 128)))])).bind fun c=>gK n m (nM .u64 a 7) c) else none) else (some ((a,b)))
theorem rE {w865:A} {w866 w867 w868 w869 w870 w871:aC} {K:(Int×(List UInt8))->Option γ} (h:∀ (e:Int) (d:(List UInt8)) (i:A),J φ (kx 0 (St.mk [(0,(bM 4 0 d.length false)),(1,(A.v (.int .u64 e))),(4,i)] [w866,w867,w868,w869,aC.row false 1 (d.map c8),w870,w871])) kL (K (e,d)) some) :
  ∀ (m:Nat) (a:Int) (c:(List UInt8)),J φ (aE (cx C) (dH (cx C) (n+5)) (bw (cx C) (n+5)) (n+5) 112 0 0 7 kx kg kr kp m (St.mk [(0,(bM 4 0 c.length false)),(1,(A.v (.int .u64 a))),(4,w865)] [w866,w867,w868,w869,aC.row false 1 (c.map c8),w870,w871])) kL (gK n  m a c) K:=by
  refine nI (fun _ _=>.nn) fun m ih a c=>.lp (vJ ..) ?_
  unfold gK
  refine .st (dq ..) (.bQ ?_ ?_)
  ·refine .st (v:=(uA (wr .u8 (a)))) (aV (hs:=by kernel_rfl) (hd:=by kernel_rfl) ..) (.st (ic ..) (.gd fun hg=>.st (v:=(im [[(uA (((UInt8.ofNat (Int.toNat (mX .u8 (wr .u8 (a)) 128))).toNat:Int)))]] true)) (by rw[fF hg]; kernel_rfl) (.bd (g:=fun (y:List UInt8)=>((bM 4 0 y.length false),[w866,w867,w868,w869,aC.row false 1 (y.map c8),w870,w871])) (bZ df (l:=c) (l2:=[(UInt8.ofNat (Int.toNat (mX .u8 (wr .u8 (a)) 128)))]) (b:=4) rfl (by decide) (bH (f:=c8) ([(UInt8.ofNat (Int.toNat (mX .u8 (wr .u8 (a)) 128)))]:List UInt8) _ _)) fun j=>.st (lB (hb:=by decide) ..) (.s [w866,w867,w868,w869,aC.row false 1 (j.map c8),w870,w871] (.cT r8 ?_)))))
   exact ih _ _
  exact .ex (h _ _ _)
def fU (n:Nat) (h:(List UInt8)) (c:(List ar)) (d:Int) (e:ar) (f:ar):Nat->Int->(List UInt8)->Option ((List UInt8))
 | 0,_,_=>none
 | m+1,b,g=>bif (decide (b<d)) then ((bf c b).bind fun a=>bif decide (a.Kind=0) then (none) else bif decide (a.Kind=1) then ((cQ 1 g ([(1:UInt8)])).bind fun k=>(yO a.N).bind fun l=>(gK n  (n+5) l k).bind fun o=>match o with | (i,p)=>bif (decide (0<=(wr .u8 (i)))&&decide ((wr .u8 (i))<256)) then ((cQ 1 p ([(UInt8.ofNat (Int.toNat (wr .u8 (i))))])).bind fun q=>fU n h c d e f m (wr .i64 (b+1)) q) else none) else bif decide (a.Kind=2) then ((cQ 1 g ([(2:UInt8)])).bind fun r=>(gK n  (n+5) (wr .u64 ((a.S.size:Int))) r).bind fun s=>match s with | (j,t)=>bif (decide (0<=(wr .u8 (j)))&&decide ((wr .u8 (j))<256)) then ((cQ 1 t ([(UInt8.ofNat (Int.toNat (wr .u8 (j))))])).bind fun u=>(cQ 1 u (lF a.S)).bind fun v=>fU n h c d e f m (wr .i64 (b+1)) v) else none) else bif decide (a.Kind=3) then ((vl (n+7) e f g a).bind fun w=>fU n h c d e f m (wr .i64 (b+1)) w) else none) else (some g)
theorem BB (r:qh C) (i:(List UInt8)) (j:(List ar)) (u:Int) (c:ar) (d:ar) {K:((List UInt8))->Option γ} (w:∀ (p:(List UInt8)) (s2:A) (x:A) (z:A) (a0:A) (a1:A) (q0:aC) (q1:aC) (q2:aC) (q3:aC),J φ (kx 0 (St.mk [(0,(bM 4 0 p.length false)),(2,s2),(5,x),(17,z),(18,a0),(19,a1)] [q0,q1,q2,q3,aC.row false 1 (p.map c8)])) kL (K p) some) :
  ∀ (m:Nat) (q:Int) (h:(List UInt8)),J φ (aE (cx C) (ec C n 7) (ey C n 7) (n+7) 115 0 0 5 kx kg kr kp m (St.mk [(0,(bM 4 0 h.length false)),(2,(pt 2 0)),(5,(im (i.map c8) true)),(17,(im (j.map ax) false)),(18,(iA u)),(19,(iA q))] [bx (al c),bc,bx [(pt 1 0)],bx (al d),aC.row false 1 (h.map c8)])) kL (fU n i j u c d m q h) K:=by
  refine nI (fun _ _=>.nn) fun m ih q h=>.lp (DQ ..) ?_
  unfold fU
  refine .st (aS ..) (.bQ ?_ ?_)
  ·refine .bd ((dr (e:=108) (es:=4)).trans (eo _)) fun a=>.s (ag (al a)) (.sq (pt 5 0) (.s [bx (al c),bc,bx [(pt 1 0)],bx (al d),aC.row false 1 (h.map c8),bx (al a)] (.s (pt 1 0) (.s2 (iA a.Kind) (.s (pt 1 0) (.sp (fun a2=>?_) (fun _=>?_)))))))
   ·exact .st (v:=(pt 1 0)) (by rw[Yr a2]; kernel_rfl) (.s2 (A.v Value.nilFunc) (.s (ag (al a)) (.nn)))
   refine .sp (fun a3=>?_) (fun _=>?_)
   ·refine .st (v:=(pt 1 1)) (by rw[Yr a3]; kernel_rfl) (.s2 (tG 111 [] []) (.s (ag (al a)) (.dC r8 r8 (.cl ((bl zQ).trans (Kq ..)) (.s ((pt 6 0),[bx (al c),bc,bx [(pt 1 0)],bx (al d),aC.row false 1 (h.map c8),bx (al a),bx (al a)]) (.s (im [[(uA 1)]] true) (.bd (g:=fun (y:List UInt8)=>((bM 4 0 y.length false),[bx (al c),bc,bx [(pt 1 0)],bx (al d),aC.row false 1 (y.map c8),bx (al a),bx (al a)])) (bZ df (l:=h) (l2:=[(1:UInt8)]) (b:=4) rfl (by decide) (bH (f:=c8) ([(1:UInt8)]:List UInt8) _ _)) fun a4=>.cT r8 (.s (pt 6 1) (.cT r8 (.s (iA a.N) (.bd (r a.N) fun a5=>.cl ((bl nJ).trans (xl ..)) (.as (rE C n _ _ _ _  ?_ _ a5 a4)))))))))))))
    ·intro k a6 ah
     refine .un rfl (.cT r8 (.st (v:=(uA (wr .u8 (k)))) (aV (hs:=by kernel_rfl) (hd:=by kernel_rfl) ..) (.gd fun hg=>.st (v:=(im [[(uA (((UInt8.ofNat (Int.toNat (wr .u8 (k)))).toNat:Int)))]] true)) (by rw[fF hg]; kernel_rfl) (.bd (g:=fun (y:List UInt8)=>((bM 4 0 y.length false),[bx (al c),bc,bx [(pt 1 0)],bx (al d),aC.row false 1 (y.map c8),bx (al a),bx (al a)])) (bZ df (l:=a6) (l2:=[(UInt8.ofNat (Int.toNat (wr .u8 (k))))]) (b:=4) rfl (by decide) (bH (f:=c8) ([(UInt8.ofNat (Int.toNat (wr .u8 (k))))]:List UInt8) _ _)) fun a7=>.cr (.ok (.cr (.ok (.st (aF ..) (.st (v:=[bx (al c),bc,bx [(pt 1 0)],bx (al d),aC.row false 1 (a7.map c8)]) (dB r8 X4) (.cT ((by kernel_rfl:_=(bif aM 5 (i.map c8) then (bif aM 5 (j.map ax) then true else false) else false)).trans u3) ?_))))))))))
     exact ih _ _
   refine .sp (fun a8=>?_) (fun _=>?_)
   ·refine .st (v:=(pt 1 2)) (by rw[Yr a8]; kernel_rfl) (.s2 (tG 114 [] []) (.s (ag (al a)) (.dC r8 r8 (.cl ((bl zR).trans (Kr ..)) (.s ((pt 6 0),[bx (al c),bc,bx [(pt 1 0)],bx (al d),aC.row false 1 (h.map c8),bx (al a),bx (al a)]) (.s ((A.ip (al a)),[bx (al c),bc,bx [(pt 1 0)],bx (al d),aC.row false 1 (h.map c8),bx (al a),aC.dead]) (.cT r8 (.s (im [[(uA 2)]] true) (.s (A.ip [(sA a.S),(im (a.L.map ax) false)]) (.s (sA a.S) (.s (iA ((a.S.size:Int))) (.st (v:=(A.v (.int .u64 (wr .u64 ((a.S.size:Int)))))) (aV (hs:=by kernel_rfl) (hd:=by kernel_rfl) ..) (.s (A.ip [(sA a.S),(im (a.L.map ax) false)]) (.s (sA a.S) (.cT r8 (.bd (g:=fun (y:List UInt8)=>((bM 4 0 y.length false),[bx (al c),bc,bx [(pt 1 0)],bx (al d),aC.row false 1 (y.map c8),bx (al a),aC.dead])) (bZ df (l:=h) (l2:=[(2:UInt8)]) (b:=4) rfl (by decide) (bH (f:=c8) ([(2:UInt8)]:List UInt8) _ _)) fun a9=>.cT r8 (.cl ((bl nJ).trans (xl ..)) (.as (rE C n _ _ _ _  ?_ _ (wr .u64 ((a.S.size:Int))) a9)))))))))))))))))))
    ·intro o aa ai
     refine .un rfl (.cT r8 (.st (v:=(uA (wr .u8 (o)))) (aV (hs:=by kernel_rfl) (hd:=by kernel_rfl) ..) (.gd fun hg=>.st (v:=(im [[(uA (((UInt8.ofNat (Int.toNat (wr .u8 (o)))).toNat:Int)))]] true)) (by rw[fF hg]; kernel_rfl) (.bd (g:=fun (y:List UInt8)=>((bM 4 0 y.length false),[bx (al c),bc,bx [(pt 1 0)],bx (al d),aC.row false 1 (y.map c8),bx (al a),aC.dead])) (bZ df (l:=aa) (l2:=[(UInt8.ofNat (Int.toNat (wr .u8 (o))))]) (b:=4) rfl (by decide) (bH (f:=c8) ([(UInt8.ofNat (Int.toNat (wr .u8 (o))))]:List UInt8) _ _)) fun ab=>.cr (.ok (.bd (g:=fun (y:List UInt8)=>((bM 4 0 y.length false),[bx (al c),bc,bx [(pt 1 0)],bx (al d),aC.row false 1 (y.map c8),bx (al a),aC.dead])) (bZ vz (l:=ab) (l2:=lF a.S) (b:=4) rfl (by decide) (ry ..)) fun ad=>.cr (.ok (.st (aF ..) (.st (v:=[bx (al c),bc,bx [(pt 1 0)],bx (al d),aC.row false 1 (ad.map c8)]) (dB r8 X4) (.cT ((by kernel_rfl:_=(bif aM 5 (i.map c8) then (bif aM 5 (j.map ax) then true else false) else false)).trans u3) ?_))))))))))
     exact ih _ _
   refine .sp (fun ae=>?_) (fun _=>?_)
   ·refine .st (v:=(pt 1 3)) (by rw[Yr ae]; kernel_rfl) (.s2 (tG 115 [] [(pt 2 0)]) (.s (ag (al a)) (.dC r8 r8 (.bg (fun (t:R) (y:(List UInt8))=>t=(Out.ret (bM 4 0 y.length false),[bx (al c),bc,bx [(pt 1 0)],bx (al d),aC.row false 1 (y.map c8),bx (al a)])) (Ir C r (n+7) c d h a [bx (al a)]) ?_))))
    rintro _ af rfl
    refine .ok (.st (aF ..) (.st (v:=[bx (al c),bc,bx [(pt 1 0)],bx (al d),aC.row false 1 (af.map c8)]) (dB r8 X4) (.cT ((by kernel_rfl:_=(bif aM 5 (i.map c8) then (bif aM 5 (j.map ax) then true else false) else false)).trans u3) ?_)))
    exact ih _ _
   exact .nn
  exact .ex (w _ _ _ _ _ _ _ _ _ _)
def Pj (n:Nat) (a:ar):Option ((List UInt8)×Int):=
 (L6 a).bind fun e=>bif (e != 0) then (some (([],e))) else (bif decide (a.Kind=0) then (none) else bif decide (a.Kind=1) then ((cQ 1 ([]) ([(1:UInt8)])).bind fun f=>(yO a.N).bind fun g=>(fT n  (n+6) g f).bind fun PJ=>match PJ with | (b,h)=>bif (decide (0<=(wr .u8 (b)))&&decide ((wr .u8 (b))<256)) then ((cQ 1 h ([(UInt8.ofNat (Int.toNat (wr .u8 (b))))])).bind fun i=>some ((i,0))) else none) else bif decide (a.Kind=2) then ((cQ 1 ([]) ([(2:UInt8)])).bind fun j=>(fT n  (n+6) (wr .u64 ((a.S.size:Int))) j).bind fun k=>match k with | (c,l)=>bif (decide (0<=(wr .u8 (c)))&&decide ((wr .u8 (c))<256)) then ((cQ 1 l ([(UInt8.ofNat (Int.toNat (wr .u8 (c))))])).bind fun o=>(cQ 1 o (lF a.S)).bind fun p=>some ((p,0))) else none) else bif decide (a.Kind=3) then ((cQ 1 ([]) ([(3:UInt8)])).bind fun q=>(fT n  (n+6) (wr .u64 ((a.L.length:Int))) q).bind fun r=>match r with | (d,s)=>bif (decide (0<=(wr .u8 (d)))&&decide ((wr .u8 (d))<256)) then ((cQ 1 s ([(UInt8.ofNat (Int.toNat (wr .u8 (d))))])).bind fun t=>(fU n ([]) a.L ((a.L.length:Int)) a a (n+7) 0 t).bind fun u=>match u with | v=>some ((v,0))) else none) else none)
theorem Wg (C:OT) (n:Nat) (o:qh C) (p:IV C) (a:ar):TJ C n 81 [(ag (al a))] (Pj n a) (fun y=>(tp [(im (y.1.map c8) false),(iA y.2)])):=by
 refine .lp (Xd ..) ?_
 unfold Pj
 refine .s ((pt 0 0),[bx (al a)]) (.s (ag (al a)) (.bd (g:=fun (y:Int)=>(iA y)) (by simp only[cf,dF]; exact p a) fun y1=>.st (aH ..) (.bQ ?_ ?_)))
 ·exact .lv u2
 refine .s (pt 0 0) (.s (iA a.Kind) (.s (ag (al a)) (.cT r8 (.cl ((bl Nh).trans (Xq ..)) (.s (ag [(A.v Value.nilFunc),(A.v Value.nilFunc),(A.v Value.nilFunc),(A.v Value.nilFunc)]) (.sq (pt 1 0) (.sq (pt 2 0) (.sh (.s (pt 1 0) (.s (pt 1 0) (.s (pt 1 1) (.s (pt 1 1) (.sh (.s (pt 1 0) (.s (pt 1 0) (.s (pt 1 2) (.s (pt 1 2) (.sh (.s (pt 1 0) (.s (pt 1 0) (.s (pt 1 3) (.s (pt 1 3) (.s [bx (al a),bc,bx [(pt 1 0)]] ?_)))))))))))))))))))))))
 refine .s (pt 1 0) (.cr (.ok (.s (pt 1 0) (.sp (fun q=>?_) (fun _=>?_)))))
 ·exact .st (v:=(pt 1 0)) (by rw[Yr q]; kernel_rfl) (.s2 (A.v Value.nilFunc) (.nn))
 refine .sp (fun r=>?_) (fun _=>?_)
 ·refine .st (v:=(pt 1 1)) (by rw[Yr r]; kernel_rfl) (.s2 (tG 111 [] []) (.dC r8 r8 (.cl ((bl zQ).trans (Kq ..)) (.s ((pt 3 0),[bx (al a),bc,bx [(pt 1 0)],bx (al a)]) (.s (im [[(uA 1)]] true) (.bd (g:=fun (y:List UInt8)=>((bM 4 0 y.length false),[bx (al a),bc,bx [(pt 1 0)],bx (al a),aC.row false 1 (y.map c8)])) (kF df (l:=[]) (l2:=[(1:UInt8)]) (bH (f:=c8) ([(1:UInt8)]:List UInt8) _ _)) fun t=>.cT r8 (.s (pt 3 1) (.cT r8 (.s (iA a.N) (.bd (o a.N) fun u=>.cl ((bl nJ).trans (xl ..)) (.as (qk C n _ _ _ _  ?_ _ u t))))))))))))
  ·intro i w a8
   exact .un rfl (.cT r8 (.st (v:=(uA (wr .u8 (i)))) (aV (hs:=by kernel_rfl) (hd:=by kernel_rfl) ..) (.gd fun hg=>.st (v:=(im [[(uA (((UInt8.ofNat (Int.toNat (wr .u8 (i)))).toNat:Int)))]] true)) (by rw[fF hg]; kernel_rfl) (.bd (g:=fun (y:List UInt8)=>((bM 4 0 y.length false),[bx (al a),bc,bx [(pt 1 0)],bx (al a),aC.row false 1 (y.map c8)])) (bZ df (l:=w) (l2:=[(UInt8.ofNat (Int.toNat (wr .u8 (i))))]) (b:=4) rfl (by decide) (bH (f:=c8) ([(UInt8.ofNat (Int.toNat (wr .u8 (i))))]:List UInt8) _ _)) fun c=>.cr (.ok (.cr (.ok (.lv (by show br [bx (al a),bc,bx [(pt 1 0)],bx (al a),aC.row false 1 (c.map c8)] (tp [(bM 4 0 c.length false),(iA 0)])=_; first | (simp only[cf,dF,br,bP (H:=[bx (al a),bc,bx [(pt 1 0)],bx (al a),aC.row false 1 (c.map c8)]) (b:=4) (es:=1) (wr:=false) (l:=c) fg rfl]; done) | (simp only[cf,g8,br,bP (H:=[bx (al a),bc,bx [(pt 1 0)],bx (al a),aC.row false 1 (c.map c8)]) (b:=4) (es:=1) (wr:=false) (l:=c) fg rfl]; first | done | rfl))))))))))
 refine .sp (fun x=>?_) (fun _=>?_)
 ·refine .st (v:=(pt 1 2)) (by rw[Yr x]; kernel_rfl) (.s2 (tG 114 [] []) (.dC r8 r8 (.cl ((bl zR).trans (Kr ..)) (.s ((pt 3 0),[bx (al a),bc,bx [(pt 1 0)],bx (al a)]) (.s ((A.ip (al a)),[bx (al a),bc,bx [(pt 1 0)],aC.dead]) (.cT r8 (.s (im [[(uA 2)]] true) (.s (A.ip [(sA a.S),(im (a.L.map ax) false)]) (.s (sA a.S) (.s (iA ((a.S.size:Int))) (.st (v:=(A.v (.int .u64 (wr .u64 ((a.S.size:Int)))))) (aV (hs:=by kernel_rfl) (hd:=by kernel_rfl) ..) (.s (A.ip [(sA a.S),(im (a.L.map ax) false)]) (.s (sA a.S) (.cT r8 (.bd (g:=fun (y:List UInt8)=>((bM 4 0 y.length false),[bx (al a),bc,bx [(pt 1 0)],aC.dead,aC.row false 1 (y.map c8)])) (kF df (l:=[]) (l2:=[(2:UInt8)]) (bH (f:=c8) ([(2:UInt8)]:List UInt8) _ _)) fun z=>.cT r8 (.cl ((bl nJ).trans (xl ..)) (.as (qk C n _ _ _ _  ?_ _ (wr .u64 ((a.S.size:Int))) z))))))))))))))))))
  ·intro j a1 a9
   exact .un rfl (.cT r8 (.st (v:=(uA (wr .u8 (j)))) (aV (hs:=by kernel_rfl) (hd:=by kernel_rfl) ..) (.gd fun hg=>.st (v:=(im [[(uA (((UInt8.ofNat (Int.toNat (wr .u8 (j)))).toNat:Int)))]] true)) (by rw[fF hg]; kernel_rfl) (.bd (g:=fun (y:List UInt8)=>((bM 4 0 y.length false),[bx (al a),bc,bx [(pt 1 0)],aC.dead,aC.row false 1 (y.map c8)])) (bZ df (l:=a1) (l2:=[(UInt8.ofNat (Int.toNat (wr .u8 (j))))]) (b:=4) rfl (by decide) (bH (f:=c8) ([(UInt8.ofNat (Int.toNat (wr .u8 (j))))]:List UInt8) _ _)) fun a2=>.cr (.ok (.bd (g:=fun (y:List UInt8)=>((bM 4 0 y.length false),[bx (al a),bc,bx [(pt 1 0)],aC.dead,aC.row false 1 (y.map c8)])) (bZ vz (l:=a2) (l2:=lF a.S) (b:=4) rfl (by decide) (ry ..)) fun d=>.cr (.ok (.lv (by show br [bx (al a),bc,bx [(pt 1 0)],aC.dead,aC.row false 1 (d.map c8)] (tp [(bM 4 0 d.length false),(iA 0)])=_; first | (simp only[cf,dF,br,bP (H:=[bx (al a),bc,bx [(pt 1 0)],aC.dead,aC.row false 1 (d.map c8)]) (b:=4) (es:=1) (wr:=false) (l:=d) fg rfl]; done) | (simp only[cf,g8,br,bP (H:=[bx (al a),bc,bx [(pt 1 0)],aC.dead,aC.row false 1 (d.map c8)]) (b:=4) (es:=1) (wr:=false) (l:=d) fg rfl]; first | done | rfl))))))))))
 refine .sp (fun a3=>?_) (fun _=>?_)
 ·refine .st (v:=(pt 1 3)) (by rw[Yr a3]; kernel_rfl) (.s2 (tG 115 [] [(pt 2 0)]) (.dC r8 r8 (.cl ((bl KE).trans (Ms ..)) (.s ((pt 3 0),[bx (al a),bc,bx [(pt 1 0)],bx (al a)]) (.s (im [[(uA 3)]] true) (.bd (g:=fun (y:List UInt8)=>((bM 4 0 y.length false),[bx (al a),bc,bx [(pt 1 0)],bx (al a),aC.row false 1 (y.map c8)])) (kF df (l:=[]) (l2:=[(3:UInt8)]) (bH (f:=c8) ([(3:UInt8)]:List UInt8) _ _)) fun a4=>.cT r8 (.s (pt 3 3) (.cT r8 (.s (im (a.L.map ax) false) (.cT r8 (.st (dn (e:=108)) (.cT r8 (.st (v:=(A.v (.int .u64 (wr .u64 ((a.L.length:Int)))))) (aV (hs:=by kernel_rfl) (hd:=by kernel_rfl) ..) (.cl ((bl nJ).trans (xl ..)) (.as (qk C n _ _ _ _  ?_ _ (wr .u64 ((a.L.length:Int))) a4))))))))))))))))
  ·intro k a5 aa
   refine .un rfl (.cT r8 (.st (v:=(uA (wr .u8 (k)))) (aV (hs:=by kernel_rfl) (hd:=by kernel_rfl) ..) (.gd fun hg=>.st (v:=(im [[(uA (((UInt8.ofNat (Int.toNat (wr .u8 (k)))).toNat:Int)))]] true)) (by rw[fF hg]; kernel_rfl) (.bd (g:=fun (y:List UInt8)=>((bM 4 0 y.length false),[bx (al a),bc,bx [(pt 1 0)],bx (al a),aC.row false 1 (y.map c8)])) (bZ df (l:=a5) (l2:=[(UInt8.ofNat (Int.toNat (wr .u8 (k))))]) (b:=4) rfl (by decide) (bH (f:=c8) ([(UInt8.ofNat (Int.toNat (wr .u8 (k))))]:List UInt8) _ _)) fun a6=>.cr (.ok (.s2 (im (a.L.map ax) false) (.st (dn (e:=108)) (.as (BB C n _ _ _ _ o ([]) a.L ((a.L.length:Int)) a a ?_ _ 0 a6)))))))))
   ·intro h ab ad ae af ah w959 w960 w961 w962
    exact .un rfl (.cT r8 (.cr (.ok (.lv (by show br [w959,w960,w961,w962,aC.row false 1 (h.map c8)] (tp [(bM 4 0 h.length false),(iA 0)])=_; first | (simp only[cf,dF,br,bP (H:=[w959,w960,w961,w962,aC.row false 1 (h.map c8)]) (b:=4) (es:=1) (wr:=false) (l:=h) fg rfl]; done) | (simp only[cf,g8,br,bP (H:=[w959,w960,w961,w962,aC.row false 1 (h.map c8)]) (b:=4) (es:=1) (wr:=false) (l:=h) fg rfl]; first | done | rfl))))))
 exact .nn
def JR (a:ar):Option ((List UInt8)×Int):=Pj aA a
def IP (C:OT):Prop:=∀ (a:ar),C 81 [(ag (al a))]=(JR a).map fun y=>(tp [(im (y.1.map c8) false),(iA y.2)])
end Go.Proofs.YtebkhfhcipnfgaaGreat
