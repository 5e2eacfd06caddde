/-
 The program's functions as plain functions: by a tool; each follows the interpreter.
-/
import Derived.Test.YtdmgdjnadbakfaaGreatE
namespace Go.Proofs.YtdmgdjnadbakfaaGreat
open Go.Proofs.Tryz (prog)
set_option linter.unusedVariables false
set_option linter.unusedSimpArgs false
set_option maxHeartbeats 4000000
set_option maxRecDepth 100000
set_option linter.defProp false
theorem r9 {p:Prop} (h:p:=by simp only[bJ,dG,aK]; first | done | rfl):p:=h
theorem so {p:Prop} (h:p:=by simp only[gx,gy]):p:=h
theorem u2 {p:Prop} (h:p:=by simp only[uB,gx,gy,Nat.reduceLT,decide_true]):p:=h
theorem XO {p:Prop} (h:p:=by simp only[List.map_cons,List.map_nil,gj]):p:=h
def qaW:=@Nat.add_sub_cancel
variable (C:Nat->List A->Option A) (n:Nat) {ρ γ:Type} {φ:ρ->γ->Prop} {kL:R->Option ρ} (kx kg:Nat->St->Option R) (kr:St->Option R) (kp:A->St->Option R)
abbrev OT:=Nat->List A->Option A
abbrev rb:=ByteArray.empty
abbrev sA (s:ByteArray):A:=.v (.string s)
abbrev se:A:=sA rb
abbrev im:=A.imm
abbrev XU:A:=im [] true
abbrev ag:=A.agg
abbrev pt:=A.ptr
abbrev tp:=A.tup
abbrev bo:=A.sl
abbrev bx:=az.box
abbrev gp (k:Nat) (a b:List A):A:=A.fn (Fn.func k) a b
abbrev XF:az:=az.box [(A.imm [] true),(A.imm [] true),(iA 0),(bA false)]
abbrev XE:az:=az.box [(A.imm [] true),(iA 0),(iA 0)]
noncomputable abbrev ec (C:Nat->List A->Option A) (n k:Nat):=dS (cx C) (n+k)
noncomputable abbrev ey (C:Nat->List A->Option A) (n k:Nat):=bq (cx C) (n+k)
structure ak where
 Kind:Int
 N:Int
 S:ByteArray
 L:(List ak)
 deriving Inhabited
mutual
def dD:ak->A
 | .mk _ _ _ l=>.imm (cJ l) false
def cJ:List ak->List (List A)
 | []=>[]
 | x :: r=>[(iA x.Kind),(iA x.N),(sA x.S),dD x] :: cJ r
end
def ax (x:ak):List A:=[(iA x.Kind),(iA x.N),(sA x.S),dD x]
theorem tZ:∀ (l:List ak),cJ l=l.map ax
 | []=>by rw[cJ]; rfl
 | x :: r=>by rw[cJ,tZ r]; rfl
theorem A0 (x:ak):dD x=.imm (x.L.map ax) false:=by
 cases x; rw[dD,tZ]
abbrev ai (x:ak):List A:=[(iA x.Kind),(iA x.N),(sA x.S),.imm (x.L.map ax) false]
theorem gj (x:ak):ax x=[(iA x.Kind),(iA x.N),(sA x.S),.imm (x.L.map ax) false]:=by
 show [(iA x.Kind),(iA x.N),(sA x.S),dD x]=_
 rw[A0]
theorem fA (o:Option ak):(o.map fun x=>A.ip (ax x))=o.map fun x=>A.ip [(iA x.Kind),(iA x.N),(sA x.S),.imm (x.L.map ax) false]:=by
 cases o with
 | none=>rfl
 | some x=>exact YA (fun z=>some (A.ip z)) (gj x)
theorem Az:nz ax:=fun x=>by rw[gj]; rfl
mutual
theorem uE (L:Nat):∀ (x:ak),A.under L (dD x)=true
 | .mk _ _ _ l=>by rw[dD,A.under]; exact uH L l
theorem uH (L:Nat):∀ (l:List ak),aR L (cJ l)=true
 | []=>by rw[cJ]; rfl
 | x :: r=>by rw[cJ,aR,uH L r]; simp only[bh,A.under,uE L x,YY,YM]
end
mutual
theorem uw (g:Nat->Nat->Nat->A):∀ (x:ak),cO g (dD x)=dD x
 | .mk _ _ _ l=>by rw[dD,cO,uD g l]
theorem uD (g:Nat->Nat->Nat->A):∀ (l:List ak),dx g (cJ l)=cJ l
 | []=>by rw[cJ]; rfl
 | x :: r=>by rw[cJ,dx,uD g r]; simp only[bc,cO,uw g x]
end
theorem dt:dq ax:=fun L x=>by unfold ax; simp only[bh,A.under,uE L x,YY,YM]
theorem cH:cj ax:=fun g x=>by unfold ax; simp only[bc,cO,uw g x]
mutual
theorem tR:∀ (x y:ak),dD x=dD y->x.L=y.L
 | .mk xKind xN xS l,.mk yKind yN yS l'=>fun h=>by
  rw[dD,dD,A.imm.injEq] at h
  exact tW l l' h.1
theorem tW:∀ (l l':List ak),cJ l=cJ l'->l=l'
 | [],[]=>fun _=>rfl
 | [],y :: r=>fun h=>by rw[cJ,cJ] at h; cases h
 | x :: r,[]=>fun h=>by rw[cJ,cJ] at h; cases h
 | x :: r,y :: r'=>fun h=>by
  rw[cJ,cJ,YH] at h
  have h2:=tW r r' h.2
  have h1:=h.1
  simp only[YH,A.v.injEq,Zw,Zy,Zo,qaf,qag] at h1
  have h3:=tR x y (by simp[h1])
  rw[h2]
  congr 1
  obtain ⟨xKind,xN,xS,lx⟩:=x; obtain ⟨yKind,yN,yS,ly⟩:=y
  simp_all
end
theorem sD {T:Type} {f:T->List A} {H:aB} {l:List T} {rows:List (List A)} {c:Bool} (h:l.map f=rows):rG H (.imm rows c) f l:=by
 rw[<-h]; exact bk ..
structure al where
 No:Int
 Holder:Int
 Until:Int
 deriving DecidableEq,Inhabited
def ae (x:al):List A:=[(iA x.No),(iA x.Holder),(iA x.Until)]
theorem Ay:nz ae:=fun _=>rfl
theorem dB:dq ae:=fun _ _=>by simp only[ae,bh,A.under,c9,lu,ln,lq,lA,lz,YY,Yg,dt]
theorem bM:cj ae:=fun _ _=>by simp only[ae,cO,bc,cP,jN,dh,ft,ll,ff,cH]
structure av where
 Bar:Int
 Program:Int
 deriving DecidableEq,Inhabited
def ah (x:av):List A:=[(iA x.Bar),(iA x.Program)]
theorem CV:nz ah:=fun _=>rfl
theorem en:dq ah:=fun _ _=>by simp only[ah,bh,A.under,c9,lu,ln,lq,lA,lz,YY,Yg,dt,dB]
theorem bS:cj ah:=fun _ _=>by simp only[ah,cO,bc,cP,jN,dh,ft,ll,ff,cH,bM]
structure af where
 Self:Int
 Leases:(List al)
 Calls:(List av)
 Order:(List Bool)
 deriving DecidableEq,Inhabited
def aa (x:af):List A:=[(iA x.Self),(im (List.map ae x.Leases) false),(im (List.map ah x.Calls) false),(im (List.map cB x.Order) false)]
theorem dm:dq aa:=fun _ _=>by simp only[aa,bh,A.under,c9,lu,ln,lq,lA,lz,YY,Yg,dt,dB,en]
theorem dk:cj aa:=fun _ _=>by simp only[aa,cO,bc,cP,jN,dh,ft,ll,ff,cH,bM,bS]
def aN (x:(af×af)):List A:=[(iA x.1.Self),(im (List.map ae x.1.Leases) false),(im (List.map ah x.1.Calls) false),(im (List.map cB x.1.Order) false),(iA x.2.Self),(im (List.map ae x.2.Leases) false),(im (List.map ah x.2.Calls) false),(im (List.map cB x.2.Order) false)]
theorem bN:dq aN:=fun _ _=>by simp only[aN,bh,A.under,c9,lu,ln,lq,lA,lz,YY,Yg,dt,dB,en,dm]
theorem bL:cj aN:=fun _ _=>by simp only[aN,cO,bc,cP,jN,dh,ft,ll,ff,cH,bM,bS,dk]
theorem m5 (g:Nat->Nat->Nat->A) (x:(af×af)):bc g (aN x)=aN x:=bL g x
theorem mi (L:Nat) (x:(af×af)):bh L (aN x)=true:=bN L x
def bI (x:(Int×Int)):List A:=[(iA x.1),(iA x.2)]
theorem dA:dq bI:=fun _ _=>by simp only[bI,bh,A.under,c9,lu,ln,lq,lA,lz,YY,Yg,dt,dB,en,dm,bN]
theorem dz:cj bI:=fun _ _=>by simp only[bI,cO,bc,cP,jN,dh,ft,ll,ff,cH,bM,bS,dk,bL]
theorem uR (g:Nat->Nat->Nat->A) (x:(Int×Int)):bc g (bI x)=bI x:=dz g x
theorem tJ (L:Nat) (x:(Int×Int)):bh L (bI x)=true:=dA L x
def aI (x:((List av)×(List av))):List A:=[(im (List.map ah x.1) false),(im (List.map ah x.2) false)]
theorem bV:dq aI:=fun _ _=>by simp only[aI,bh,A.under,c9,lu,ln,lq,lA,lz,YY,Yg,dt,dB,en,dm,bN,dA]
theorem bU:cj aI:=fun _ _=>by simp only[aI,cO,bc,cP,jN,dh,ft,ll,ff,cH,bM,bS,dk,bL,dz]
theorem lO (g:Nat->Nat->Nat->A) (x:((List av)×(List av))):bc g (aI x)=aI x:=bU g x
theorem kV (L:Nat) (x:((List av)×(List av))):bh L (aI x)=true:=bV L x
structure aC where
 Desks:(af×af)
 Synced:(Int×Int)
 Told:(List al)
 Spoken:((List av)×(List av))
 deriving DecidableEq,Inhabited
def aj (x:aC):List A:=[(iA x.Desks.1.Self),(im (List.map ae x.Desks.1.Leases) false),(im (List.map ah x.Desks.1.Calls) false),(im (List.map cB x.Desks.1.Order) false),(iA x.Desks.2.Self),(im (List.map ae x.Desks.2.Leases) false),(im (List.map ah x.Desks.2.Calls) false),(im (List.map cB x.Desks.2.Order) false),(iA x.Synced.1),(iA x.Synced.2),(im (List.map ae x.Told) false),(im (List.map ah x.Spoken.1) false),(im (List.map ah x.Spoken.2) false)]
theorem hY:dq aj:=fun _ _=>by simp only[aj,bh,A.under,c9,lu,ln,lq,lA,lz,YY,Yg,dt,dB,en,dm,bN,dA,bV]
theorem hX:cj aj:=fun _ _=>by simp only[aj,cO,bc,cP,jN,dh,ft,ll,ff,cH,bM,bS,dk,bL,dz,bU]
structure bn where
 Kind:Int
 Who:Int
 A:Int
 B:Int
 deriving DecidableEq,Inhabited
def aq (x:bn):List A:=[(iA x.Kind),(iA x.Who),(iA x.A),(iA x.B)]
theorem jc:dq aq:=fun _ _=>by simp only[aq,bh,A.under,c9,lu,ln,lq,lA,lz,YY,Yg,dt,dB,en,dm,bN,dA,bV,hY]
theorem jb:cj aq:=fun _ _=>by simp only[aq,cO,bc,cP,jN,dh,ft,ll,ff,cH,bM,bS,dk,bL,dz,bU,hX]
structure ar where
 is:Bool
 lease:al
 call:av
 deriving DecidableEq,Inhabited
def ay (x:ar):List A:=[(bA x.is),(iA x.lease.No),(iA x.lease.Holder),(iA x.lease.Until),(iA x.call.Bar),(iA x.call.Program)]
theorem dM:dq ay:=fun _ _=>by simp only[ay,bh,A.under,c9,lu,ln,lq,lA,lz,YY,Yg,dt,dB,en,dm,bN,dA,bV,hY,jc]
theorem dL:cj ay:=fun _ _=>by simp only[ay,cO,bc,cP,jN,dh,ft,ll,ff,cH,bM,bS,dk,bL,dz,bU,hX,jb]
structure fi where
 rest:(List UInt8)
 deriving DecidableEq,Inhabited
def ba (x:fi):List A:=[(im (List.map c8 x.rest) false)]
theorem eR:dq ba:=fun _ _=>by simp only[ba,bh,A.under,c9,lu,ln,lq,lA,lz,YY,Yg,dt,dB,en,dm,bN,dA,bV,hY,jc,dM]
theorem eQ:cj ba:=fun _ _=>by simp only[ba,cO,bc,cP,jN,dh,ft,ll,ff,cH,bM,bS,dk,bL,dz,bU,hX,jb,dL]
structure aD where
 Pair:aC
 who:Int
 deriving DecidableEq,Inhabited
def au (x:aD):List A:=[(iA x.Pair.Desks.1.Self),(im (List.map ae x.Pair.Desks.1.Leases) false),(im (List.map ah x.Pair.Desks.1.Calls) false),(im (List.map cB x.Pair.Desks.1.Order) false),(iA x.Pair.Desks.2.Self),(im (List.map ae x.Pair.Desks.2.Leases) false),(im (List.map ah x.Pair.Desks.2.Calls) false),(im (List.map cB x.Pair.Desks.2.Order) false),(iA x.Pair.Synced.1),(iA x.Pair.Synced.2),(im (List.map ae x.Pair.Told) false),(im (List.map ah x.Pair.Spoken.1) false),(im (List.map ah x.Pair.Spoken.2) false),(iA x.who)]
theorem fC:dq au:=fun _ _=>by simp only[au,bh,A.under,c9,lu,ln,lq,lA,lz,YY,Yg,dt,dB,en,dm,bN,dA,bV,hY,jc,dM,eR]
theorem cQ:cj au:=fun _ _=>by simp only[au,cO,bc,cP,jN,dh,ft,ll,ff,cH,bM,bS,dk,bL,dz,bU,hX,jb,dL,eQ]
def cG (x:(Bool×Bool×Bool×Bool)):List A:=[(bA x.1),(bA x.2.1),(bA x.2.2.1),(bA x.2.2.2)]
theorem pQ:dq cG:=fun _ _=>by simp only[cG,bh,A.under,c9,lu,ln,lq,lA,lz,YY,Yg,dt,dB,en,dm,bN,dA,bV,hY,jc,dM,eR,fC]
theorem pN:cj cG:=fun _ _=>by simp only[cG,cO,bc,cP,jN,dh,ft,ll,ff,cH,bM,bS,dk,bL,dz,bU,hX,jb,dL,eQ,cQ]
theorem AJ (g:Nat->Nat->Nat->A) (x:(Bool×Bool×Bool×Bool)):bc g (cG x)=cG x:=pN g x
theorem yV (L:Nat) (x:(Bool×Bool×Bool×Bool)):bh L (cG x)=true:=pQ L x
structure cW where
 B:(List UInt8)
 At:Int
 Bad:Bool
 deriving DecidableEq,Inhabited
def aG (x:cW):List A:=[(im (List.map c8 x.B) false),(iA x.At),(bA x.Bad)]
theorem fS:dq aG:=fun _ _=>by simp only[aG,bh,A.under,c9,lu,ln,lq,lA,lz,YY,Yg,dt,dB,en,dm,bN,dA,bV,hY,jc,dM,eR,fC,pQ]
theorem fR:cj aG:=fun _ _=>by simp only[aG,cO,bc,cP,jN,dh,ft,ll,ff,cH,bM,bS,dk,bL,dz,bU,hX,jb,dL,eQ,cQ,pN]
theorem AL (g:Nat->Nat->Nat->A) (x:ak):bc g (ax x)=ax x:=cH g x
theorem yX (L:Nat) (x:ak):bh L (ax x)=true:=dt L x
theorem AK (g:Nat->Nat->Nat->A) (x:al):bc g (ae x)=ae x:=bM g x
theorem yW (L:Nat) (x:al):bh L (ae x)=true:=dB L x
theorem Df (g:Nat->Nat->Nat->A) (x:av):bc g (ah x)=ah x:=bS g x
theorem AO (L:Nat) (x:av):bh L (ah x)=true:=en L x
theorem xe (g:Nat->Nat->Nat->A) (x:af):bc g (aa x)=aa x:=dk g x
theorem uT (L:Nat) (x:af):bh L (aa x)=true:=dm L x
theorem Dh (g:Nat->Nat->Nat->A) (x:aC):bc g (aj x)=aj x:=hX g x
theorem AQ (L:Nat) (x:aC):bh L (aj x)=true:=hY L x
theorem Dg (g:Nat->Nat->Nat->A) (x:bn):bc g (aq x)=aq x:=jb g x
theorem AP (L:Nat) (x:bn):bh L (aq x)=true:=jc L x
theorem pO (g:Nat->Nat->Nat->A) (x:ar):bc g (ay x)=ay x:=dL g x
theorem pa (L:Nat) (x:ar):bh L (ay x)=true:=dM L x
theorem qz (g:Nat->Nat->Nat->A) (x:fi):bc g (ba x)=ba x:=eQ g x
theorem pR (L:Nat) (x:fi):bh L (ba x)=true:=eR L x
theorem pP (g:Nat->Nat->Nat->A) (x:aD):bc g (au x)=au x:=cQ g x
theorem pb (L:Nat) (x:aD):bh L (au x)=true:=fC L x
theorem jR (g:Nat->Nat->Nat->A) (x:cW):bc g (aG x)=aG x:=fR g x
theorem jG (L:Nat) (x:cW):bh L (aG x)=true:=fS L x
theorem ez:L0 au:=fun _=>rfl
theorem vU:L0 ah:=fun _=>rfl
theorem pY:L0 ae:=fun _=>rfl
theorem mQ:uM prog 22 22 50 3 24 [(iA 0),(iA 0),(iA 0)] ae:=⟨j9,j9,j9,j9,rfl,by decide,by decide,j9,fun _=>rfl,Ay⟩
theorem k9:uM prog 24 24 4 1 1 [(bA false)] cB:=⟨j9,j9,j9,j9,rfl,by decide,by decide,j9,fun _=>rfl,Mh⟩
theorem mR:uM prog 23 23 54 2 16 [(iA 0),(iA 0)] ah:=⟨j9,j9,j9,j9,rfl,by decide,by decide,j9,fun _=>rfl,CV⟩
theorem oM:uM prog 100 100 102 4 56 [(iA 0),(iA 0),se,XU] ax:=⟨j9,j9,j9,j9,rfl,by decide,by decide,j9,fun _=>rfl,Az⟩
theorem vm:uM prog 105 105 3 1 8 [(iA 0)] (cI .i64):=⟨j9,j9,j9,j9,rfl,by decide,by decide,j9,fun _=>rfl,(Mi _)⟩
theorem dj:uM prog 78 78 5 1 1 [(uA 0)] c8:=⟨j9,j9,j9,j9,rfl,by decide,by decide,j9,fun _=>rfl,Jj⟩
theorem wJ:uM prog 78 9 5 1 1 [(uA 0)] c8:=⟨j9,j9,j9,j9,rfl,by decide,by decide,j9,fun _=>rfl,Jj⟩
theorem oN:uM prog 56 56 78 1 24 [XU] (cL c8):=⟨j9,j9,j9,j9,rfl,by decide,by decide,j9,fun _=>rfl,Mj⟩
abbrev TJ {T:Type} (C:OT) (n k:Nat) (args:List A) (X:Option T) (f:T->A):Prop:=J (fun (o:R) y=>∃ v,o.1=.ret v/\aK o.2 v=f y) (aE (cx C) (ec C n 8) (ey C n 8) (n+8) k args [] 0) some X some
theorem nI {P:Nat->Prop} (h0:P 0) (hs:∀ m,P m->P (m+1)) (m:Nat):P m:=by
 induction m with
 | zero=>exact h0
 | succ m ih=>exact hs m ih
section
variable {ρ γ σ α τ:Type} {φ:ρ->γ->Prop} {kL:σ->Option ρ} {K:α->Option γ} {R:Option α} {k:τ->Option σ}
theorem J.Xw {X:Option (List A)} {F:A->A->A->A->Option τ} (h:J φ (((X).bind fun l=>bE l fun a l=>bE l fun b l=>bE l fun c l=>bE l fun d l=>F a b c d).bind k) kL R K):J φ ((X).bind fun l=>bE l fun a l=>bE l fun b l=>bE l fun c l=>bE l fun d l=>(F a b c d).bind k) kL R K:=by simpa only [Ys,gv] using h
theorem J.PF {X:Option (List A)} {F:A->A->A->A->A->A->A->A->Option τ} (h:J φ (((X).bind fun l=>bE l fun a l=>bE l fun b l=>bE l fun c l=>bE l fun d l=>bE l fun e l=>bE l fun f l=>bE l fun g l=>bE l fun h l=>F a b c d e f g h).bind k) kL R K):J φ ((X).bind fun l=>bE l fun a l=>bE l fun b l=>bE l fun c l=>bE l fun d l=>bE l fun e l=>bE l fun f l=>bE l fun g l=>bE l fun h l=>(F a b c d e f g h).bind k) kL R K:=by simpa only [Ys,gv] using h
theorem J.K5 {X:Option (List A)} {Y:A->A->A->A->A->A->A->A->A->A->A->A->Option (List A)} {F:A->A->A->A->A->A->A->A->A->A->A->A->A->Option τ} (h:J φ (((X).bind fun l=>bE l fun a l=>bE l fun b l=>bE l fun c l=>bE l fun d l=>bE l fun e l=>bE l fun f l=>bE l fun g l=>bE l fun h l=>bE l fun i l=>bE l fun j l=>bE l fun m l=>bE l fun n l=>(Y a b c d e f g h i j m n).bind fun l=>bE l fun o l=>F a b c d e f g h i j m n o).bind k) kL R K):J φ ((X).bind fun l=>bE l fun a l=>bE l fun b l=>bE l fun c l=>bE l fun d l=>bE l fun e l=>bE l fun f l=>bE l fun g l=>bE l fun h l=>bE l fun i l=>bE l fun j l=>bE l fun m l=>bE l fun n l=>(Y a b c d e f g h i j m n).bind fun l=>bE l fun o l=>(F a b c d e f g h i j m n o).bind k) kL R K:=by simpa only [Ys,gv] using h
theorem J.Lw {X:Option (List A)} {F:A->A->Option τ} (h:J φ (((X).bind fun l=>bE l fun a l=>bE l fun b l=>F a b).bind k) kL R K):J φ ((X).bind fun l=>bE l fun a l=>bE l fun b l=>(F a b).bind k) kL R K:=by simpa only [Ys,gv] using h
theorem J.SU {X:Option (List A)} {F:A->A->A->A->A->A->A->A->A->A->Option τ} (h:J φ (((X).bind fun l=>bE l fun a l=>bE l fun b l=>bE l fun c l=>bE l fun d l=>bE l fun e l=>bE l fun f l=>bE l fun g l=>bE l fun h l=>bE l fun i l=>bE l fun j l=>F a b c d e f g h i j).bind k) kL R K):J φ ((X).bind fun l=>bE l fun a l=>bE l fun b l=>bE l fun c l=>bE l fun d l=>bE l fun e l=>bE l fun f l=>bE l fun g l=>bE l fun h l=>bE l fun i l=>bE l fun j l=>(F a b c d e f g h i j).bind k) kL R K:=by simpa only [Ys,gv] using h
theorem J.Xx {X:Option (List A)} {F:A->A->A->A->A->A->Option τ} (h:J φ (((X).bind fun l=>bE l fun a l=>bE l fun b l=>bE l fun c l=>bE l fun d l=>bE l fun e l=>bE l fun f l=>F a b c d e f).bind k) kL R K):J φ ((X).bind fun l=>bE l fun a l=>bE l fun b l=>bE l fun c l=>bE l fun d l=>bE l fun e l=>bE l fun f l=>(F a b c d e f).bind k) kL R K:=by simpa only [Ys,gv] using h
theorem J.Xy {X:Option (List A)} {F:A->A->A->A->A->A->A->A->A->Option τ} (h:J φ (((X).bind fun l=>bE l fun a l=>bE l fun b l=>bE l fun c l=>bE l fun d l=>bE l fun e l=>bE l fun f l=>bE l fun g l=>bE l fun h l=>bE l fun i l=>F a b c d e f g h i).bind k) kL R K):J φ ((X).bind fun l=>bE l fun a l=>bE l fun b l=>bE l fun c l=>bE l fun d l=>bE l fun e l=>bE l fun f l=>bE l fun g l=>bE l fun h l=>bE l fun i l=>(F a b c d e f g h i).bind k) kL R K:=by simpa only [Ys,gv] using h
theorem J.Ut {X:Option (List A)} {F:A->A->A->A->A->A->A->Option τ} (h:J φ (((X).bind fun l=>bE l fun a l=>bE l fun b l=>bE l fun c l=>bE l fun d l=>bE l fun e l=>bE l fun f l=>bE l fun g l=>F a b c d e f g).bind k) kL R K):J φ ((X).bind fun l=>bE l fun a l=>bE l fun b l=>bE l fun c l=>bE l fun d l=>bE l fun e l=>bE l fun f l=>bE l fun g l=>(F a b c d e f g).bind k) kL R K:=by simpa only [Ys,gv] using h
theorem J.SV {X:Option (List A)} {F:A->A->A->A->A->Option τ} (h:J φ (((X).bind fun l=>bE l fun a l=>bE l fun b l=>bE l fun c l=>bE l fun d l=>bE l fun e l=>F a b c d e).bind k) kL R K):J φ ((X).bind fun l=>bE l fun a l=>bE l fun b l=>bE l fun c l=>bE l fun d l=>bE l fun e l=>(F a b c d e).bind k) kL R K:=by simpa only [Ys,gv] using h
theorem J.K6 {X:Option (List A)} {Y:A->A->A->A->A->A->A->A->A->A->A->A->A->A->A->Option (List A)} {F:A->A->A->A->A->A->A->A->A->A->A->A->A->A->A->A->Option τ} (h:J φ (((X).bind fun l=>bE l fun a l=>bE l fun b l=>bE l fun c l=>bE l fun d l=>bE l fun e l=>bE l fun f l=>bE l fun g l=>bE l fun h l=>bE l fun i l=>bE l fun j l=>bE l fun m l=>bE l fun n l=>bE l fun o l=>bE l fun p l=>bE l fun q l=>(Y a b c d e f g h i j m n o p q).bind fun l=>bE l fun r l=>F a b c d e f g h i j m n o p q r).bind k) kL R K):J φ ((X).bind fun l=>bE l fun a l=>bE l fun b l=>bE l fun c l=>bE l fun d l=>bE l fun e l=>bE l fun f l=>bE l fun g l=>bE l fun h l=>bE l fun i l=>bE l fun j l=>bE l fun m l=>bE l fun n l=>bE l fun o l=>bE l fun p l=>bE l fun q l=>(Y a b c d e f g h i j m n o p q).bind fun l=>bE l fun r l=>(F a b c d e f g h i j m n o p q r).bind k) kL R K:=by simpa only [Ys,gv] using h
theorem J.Og {X:Option (List A)} {F:A->A->A->A->A->A->A->A->A->A->A->A->Option τ} (h:J φ (((X).bind fun l=>bE l fun a l=>bE l fun b l=>bE l fun c l=>bE l fun d l=>bE l fun e l=>bE l fun f l=>bE l fun g l=>bE l fun h l=>bE l fun i l=>bE l fun j l=>bE l fun m l=>bE l fun n l=>F a b c d e f g h i j m n).bind k) kL R K):J φ ((X).bind fun l=>bE l fun a l=>bE l fun b l=>bE l fun c l=>bE l fun d l=>bE l fun e l=>bE l fun f l=>bE l fun g l=>bE l fun h l=>bE l fun i l=>bE l fun j l=>bE l fun m l=>bE l fun n l=>(F a b c d e f g h i j m n).bind k) kL R K:=by simpa only [Ys,gv] using h
end
theorem dG:cj ax/\cj ae/\cj ah/\cj aa/\cj aN/\cj bI/\cj aI/\cj aj/\cj aq/\cj ay/\cj ba/\cj au/\cj cG/\cj aG/\(∀ (g:Nat->Nat->Nat->A) (x:ak),bc g (ax x)=ax x)/\(∀ (g:Nat->Nat->Nat->A) (x:al),bc g (ae x)=ae x)/\(∀ (g:Nat->Nat->Nat->A) (x:av),bc g (ah x)=ah x)/\(∀ (g:Nat->Nat->Nat->A) (x:af),bc g (aa x)=aa x)/\(∀ (g:Nat->Nat->Nat->A) (x:(af×af)),bc g (aN x)=aN x)/\(∀ (g:Nat->Nat->Nat->A) (x:(Int×Int)),bc g (bI x)=bI x)/\(∀ (g:Nat->Nat->Nat->A) (x:((List av)×(List av))),bc g (aI x)=aI x)/\(∀ (g:Nat->Nat->Nat->A) (x:aC),bc g (aj x)=aj x)/\(∀ (g:Nat->Nat->Nat->A) (x:bn),bc g (aq x)=aq x)/\(∀ (g:Nat->Nat->Nat->A) (x:ar),bc g (ay x)=ay x)/\(∀ (g:Nat->Nat->Nat->A) (x:fi),bc g (ba x)=ba x)/\(∀ (g:Nat->Nat->Nat->A) (x:aD),bc g (au x)=au x)/\(∀ (g:Nat->Nat->Nat->A) (x:(Bool×Bool×Bool×Bool)),bc g (cG x)=cG x)/\(∀ (g:Nat->Nat->Nat->A) (x:cW),bc g (aG x)=aG x)/\True:=⟨cH,bM,bS,dk,bL,dz,bU,hX,jb,dL,eQ,cQ,pN,fR,AL,AK,Df,xe,m5,uR,lO,Dh,Dg,pO,qz,pP,AJ,jR,trivial⟩
theorem dg:(cj ax/\cj ae/\cj ah/\cj aa/\cj aN/\cj bI/\cj aI/\cj aj/\cj aq/\cj ay/\cj ba/\cj au/\cj cG/\cj aG/\(∀ (g:Nat->Nat->Nat->A) (x:ak),bc g (ax x)=ax x)/\(∀ (g:Nat->Nat->Nat->A) (x:al),bc g (ae x)=ae x)/\(∀ (g:Nat->Nat->Nat->A) (x:av),bc g (ah x)=ah x)/\(∀ (g:Nat->Nat->Nat->A) (x:af),bc g (aa x)=aa x)/\(∀ (g:Nat->Nat->Nat->A) (x:(af×af)),bc g (aN x)=aN x)/\(∀ (g:Nat->Nat->Nat->A) (x:(Int×Int)),bc g (bI x)=bI x)/\(∀ (g:Nat->Nat->Nat->A) (x:((List av)×(List av))),bc g (aI x)=aI x)/\(∀ (g:Nat->Nat->Nat->A) (x:aC),bc g (aj x)=aj x)/\(∀ (g:Nat->Nat->Nat->A) (x:bn),bc g (aq x)=aq x)/\(∀ (g:Nat->Nat->Nat->A) (x:ar),bc g (ay x)=ay x)/\(∀ (g:Nat->Nat->Nat->A) (x:fi),bc g (ba x)=ba x)/\(∀ (g:Nat->Nat->Nat->A) (x:aD),bc g (au x)=au x)/\(∀ (g:Nat->Nat->Nat->A) (x:(Bool×Bool×Bool×Bool)),bc g (cG x)=cG x)/\(∀ (g:Nat->Nat->Nat->A) (x:cW),bc g (aG x)=aG x)/\True)/\(∀ {T U:Type} (f:T->U) (a:T) (l:List T),(a :: l).map f=f a :: l.map f)/\(∀ {T U:Type} (f:T->U),[].map f=[]):=⟨dG,fun _ _ _=>rfl,fun _=>rfl⟩
theorem gy:dq ax/\dq ae/\dq ah/\dq aa/\dq aN/\dq bI/\dq aI/\dq aj/\dq aq/\dq ay/\dq ba/\dq au/\dq cG/\dq aG/\(∀ (L:Nat) (x:ak),bh L (ax x)=true)/\(∀ (L:Nat) (x:al),bh L (ae x)=true)/\(∀ (L:Nat) (x:av),bh L (ah x)=true)/\(∀ (L:Nat) (x:af),bh L (aa x)=true)/\(∀ (L:Nat) (x:(af×af)),bh L (aN x)=true)/\(∀ (L:Nat) (x:(Int×Int)),bh L (bI x)=true)/\(∀ (L:Nat) (x:((List av)×(List av))),bh L (aI x)=true)/\(∀ (L:Nat) (x:aC),bh L (aj x)=true)/\(∀ (L:Nat) (x:bn),bh L (aq x)=true)/\(∀ (L:Nat) (x:ar),bh L (ay x)=true)/\(∀ (L:Nat) (x:fi),bh L (ba x)=true)/\(∀ (L:Nat) (x:aD),bh L (au x)=true)/\(∀ (L:Nat) (x:(Bool×Bool×Bool×Bool)),bh L (cG x)=true)/\(∀ (L:Nat) (x:cW),bh L (aG x)=true)/\True:=⟨dt,dB,en,dm,bN,dA,bV,hY,jc,dM,eR,fC,pQ,fS,yX,yW,AO,uT,mi,tJ,kV,AQ,AP,pa,pR,pb,yV,jG,trivial⟩
def OG (n:Nat) (a:Int) (b:Int) (a2:Int):Option Bool:=
 (bif (decide (b<=a)) then (some (decide (a<=a2))) else (some false)).bind fun c=>some c
theorem Vg (C:OT) (n:Nat) (a:Int) (b:Int) (a2:Int):TJ C n 32 [(iA a),(iA b),(iA a2)] (OG n a b a2) (fun y=>(bA y)):=by
 refine .lp (Wi ..) ?_
 unfold OG
 refine .st (eP ..) (.bg (fun t (y:Bool)=>∃ c d e:A,t=[(bA y),c,d,e]) ?_ ?_)
 ·refine .bi ?_ ?_
  ·exact .st (eP ..) (.lg ⟨_,_,_,rfl⟩)
  exact .lg ⟨_,_,_,rfl⟩
 rintro _ f ⟨c,d,e,rfl⟩
 exact .u4 (.lv rfl)
def zW (a:Int) (b:Int) (a2:Int):Option Bool:=OG aA a b a2
def sM (C:OT):Prop:=∀ (a:Int) (b:Int) (a2:Int),C 32 [(iA a),(iA b),(iA a2)]=(zW a b a2).map fun y=>(bA y)
def Ow (n:Nat) (a:Int) (b:Int) (a2:Int):Option (af×Int):=
 (zW a 0 1).bind fun c=>(bif (!c) then (some true) else ((zW b 0 1).bind fun d=>some (!d))).bind fun e=>(bif e then (some true) else ((zW a2 1 4096).bind fun f=>some (!f))).bind fun g=>bif g then (some (((af.mk 0 ([]) ([]) ([])),1))) else (some (((af.mk a ([(al.mk 0 b a2)]) ([]) ([true])),0)))
theorem U6 (C:OT) (n:Nat) (c:sM C) (b:Int) (a:Int) (a2:Int):TJ C n 11 [(iA b),(iA a),(iA a2)] (Ow n b a a2) (fun y=>(tp [(ag (aa y.1)),(iA y.2)])):=by
 refine .lp (V1 ..) ?_
 unfold Ow
 refine .s ((pt 0 0),[bx [(iA 0),XU,XU,XU]]) (.bd (c b 0 1) fun j=>.s (bA (!j)) (.bg (fun t (y:Bool)=>∃ d e f:A,t=[(bA y),d,e,f]) ?_ ?_))
 ·refine .bi ?_ ?_
  ·exact .lg ⟨_,_,_,rfl⟩
  exact .bd (c a 0 1) fun k=>.s (bA (!k)) (.lg ⟨_,_,_,rfl⟩)
 rintro _ o ⟨d,e,f,rfl⟩
 refine .u4 (.bg (fun t (y:Bool)=>∃ g h i:A,t=[(bA y),g,h,i]) ?_ ?_)
 ·refine .bi ?_ ?_
  ·exact .lg ⟨_,_,_,rfl⟩
  exact .bd (c a2 1 4096) fun l=>.s (bA (!l)) (.lg ⟨_,_,_,rfl⟩)
 rintro _ p ⟨g,h,i,rfl⟩
 refine .u4 (.bX ?_ ?_)
 ·exact .s (ag [(iA 0),XU,XU,XU]) (.s [bx [(iA 0),XU,XU,XU]] (.s (ag [(iA 0),XU,XU,XU]) (.lv r9)))
 exact .s (ag [(iA 0),(iA a),(iA a2)]) (.s (im [[(iA 0),(iA a),(iA a2)]] true) (.s (im [[(bA true)]] true) (.s (ag [(iA b),(im [[(iA 0),(iA a),(iA a2)]] true),XU,(im [[(bA true)]] true)]) (.s [bx [(iA b),(im [[(iA 0),(iA a),(iA a2)]] true),XU,(im [[(bA true)]] true)]] (.s (ag [(iA b),(im [[(iA 0),(iA a),(iA a2)]] true),XU,(im [[(bA true)]] true)]) (.lv r9))))))
def Gy (a:Int) (b:Int) (a2:Int):Option (af×Int):=Ow aA a b a2
def Bt (C:OT):Prop:=∀ (a:Int) (b:Int) (a2:Int),C 11 [(iA a),(iA b),(iA a2)]=(Gy a b a2).map fun y=>(tp [(ag (aa y.1)),(iA y.2)])
def O1 (n:Nat) (a:af):Option Int:=
 bif (decide (0<((a.Leases.length:Int)))) then ((bt a.Leases (wr .i64 (((a.Leases.length:Int)) - 1))).bind fun b=>some b.Until) else (some 0)
theorem VA (C:OT) (n:Nat) (a:af):TJ C n 62 [(ag (aa a))] (O1 n a) (fun y=>(iA y)):=by
 refine .lp (WC ..) ?_
 unfold O1
 refine .s ((pt 0 0),[bx (aa a)]) (.s2 (im (a.Leases.map ae) false) (.st (dr (e:=50)) (.st (cF ..) (.bX ?_ ?_))))
 ·exact .s2 (im (a.Leases.map ae) false) (.st (du ..) (.bd (fa (e:=50) (es:=3)) fun b=>.s2 (iA b.Until) (.lv rfl)))
 exact .lv rfl
def LL (a:af):Option Int:=O1 aA a
def I3 (C:OT):Prop:=∀ (a:af),C 62 [(ag (aa a))]=(LL a).map fun y=>(iA y)
def ON (n:Nat) (b:af) (a:al):Option Bool:=
 (bif (a.No==((b.Leases.length:Int))) then ((zW a.Holder 0 1).bind fun c=>some c) else (some false)).bind fun d=>(bif d then ((LL b).bind fun e=>some (decide (e<a.Until))) else (some false)).bind fun f=>(bif f then (some (decide (a.Until<=4096))) else (some false)).bind fun g=>some g
theorem Vn (C:OT) (n:Nat) (o:sM C) (p:I3 C) (b:af) (a:al):TJ C n 41 [(ag (aa b)),(ag (ae a))] (ON n b a) (fun y=>(bA y)):=by
 refine .lp (Wp ..) ?_
 unfold ON
 refine .s ((pt 0 0),[bx (aa b)]) (.s ((pt 1 0),[bx (aa b),bx (ae a)]) (.s2 (iA a.No) (.s2 (im (b.Leases.map ae) false) (.st (dr (e:=50)) (.st (aV ..) (.bg (fun t (y:Bool)=>∃ d f h:A,t=[(bA y),d,f,h]) ?_ ?_))))))
 ·refine .bi ?_ ?_
  ·exact .s (pt 1 1) (.s (iA a.Holder) (.bd (o a.Holder 0 1) fun q=>.lg ⟨_,_,_,rfl⟩))
  exact .lg ⟨_,_,_,rfl⟩
 rintro _ r ⟨d,f,h,rfl⟩
 refine .u4 (.Xw (.bg (fun t (y:Bool)=>∃ i:A,t=[(bA y),i]) ?_ ?_))
 ·refine .AV (fun c=>?_) (fun c=>?_)
  ·exact .bb (.s (pt 1 2) (.s (iA a.Until) (.s (ag (aa b)) (.bd (g:=fun (y:Int)=>(iA y)) (by simp only[bJ,dg]; exact p b) fun u=>.cr (.u4 (.ra c (.st (cF ..) (.lg ⟨_,rfl⟩))))))))
  exact .bb (.cr (.u4 (.q9 c (.lg ⟨_,rfl⟩))))
 rintro _ v ⟨i,rfl⟩
 refine .uc (.uc (.bg (fun t (y:Bool)=>∃ j k l:A,t=[(bA y),j,k,l]) ?_ ?_))
 ·refine .bi ?_ ?_
  ·exact .s (pt 1 2) (.s (iA a.Until) (.st (eP ..) (.lg ⟨_,_,_,rfl⟩)))
  exact .lg ⟨_,_,_,rfl⟩
 rintro _ w ⟨j,k,l,rfl⟩
 exact .u4 (.lv rfl)
def IJ (a:af) (b:al):Option Bool:=ON aA a b
def xU (C:OT):Prop:=∀ (a:af) (b:al),C 41 [(ag (aa a)),(ag (ae b))]=(IJ a b).map fun y=>(bA y)
def jt (n:Nat) (b:(List al)) (e:Int) (c:Int) (f:af) (d:Int):Nat->Int->Option ((Int)⊕(Unit))
 | 0,_=>none
 | m+1,a=>bif (decide (a<c)) then ((bt b a).bind fun g=>bif (decide (d<g.Until)) then (some ((Sum.inl a))) else (jt n b e c f d m (wr .i64 (a+1)))) else (some ((Sum.inr (()))))
theorem Eu (c:(List al)) (k:Int) (l:Int) (b:af) (a:Int) {K:((Int)⊕(Unit))->Option γ} (p:∀ (o:Int) (d:A) (f:A) (g:A) (h:A) (q2:az),J φ (kr (St.mk [(0,d),(1,f),(4,(iA o)),(7,g),(8,h)] [bx (aa b),bx [(iA a)],q2])) kL (K (Sum.inl o)) some) (q:∀ (d:A) (f:A) (r:A) (g:A) (h:A),J φ (kx 0 (St.mk [(0,d),(1,f),(4,r),(7,g),(8,h)] [bx (aa b),bx [(iA a)]])) kL (K (Sum.inr (()))) some) :
  ∀ (m:Nat) (i:Int),J φ (aH (cx C) (ec C n 7) (ey C n 7) (n+7) 81 0 0 2 kx kg kr kp m (St.mk [(0,(im (c.map ae) false)),(1,(gp 82 [] [(pt 1 0)])),(4,(iA k)),(7,(iA l)),(8,(iA i))] [bx (aa b),bx [(iA a)]])) kL (jt n c k l b a m i) K:=by
  refine nI (fun _=>.nn) fun m ih i=>.lp (MQ ..) ?_
  unfold jt
  refine .st (aW ..) (.bX ?_ ?_)
  ·refine .bd (fa (e:=50) (es:=3)) fun j=>.s (ag (ae j)) (.dC j9 j9 (.cl ((aw Nl).trans (WT ..)) (.s ((pt 2 0),[bx (aa b),bx [(iA a)],bx (ae j)]) (.s (iA a) (.s2 (iA j.Until) (.st (aW ..) (.cr (.ok (.bX ?_ ?_)))))))))
   ·exact .ex (p _ _ _ _ _ _)
   refine .st (aM ..) (.st (v:=[bx (aa b),bx [(iA a)]]) (eH j9 u2) (.cT ((by kernel_rfl:_=(bif aR 2 (c.map ae) then true else false)).trans so) ?_))
   exact ih _
  exact .ex (q _ _ _ _ _)
def O2 (n:Nat) (a:af) (b:Int):Option Bool:=
 (jt n a.Leases 0 ((a.Leases.length:Int)) a b (n+7) 0).bind fun d=>match d with | (Sum.inl c)=>(bif (decide (0<=b)) then (some (decide (0<=c))) else (some false)).bind fun e=>(bif e then ((bt a.Leases c).bind fun f=>some (f.Holder==a.Self)) else (some false)).bind fun g=>some g | (Sum.inr _)=>(bif (decide (0<=b)) then (some false) else (some false)).bind fun h=>(bif h then ((bt a.Leases (-1)).bind fun i=>some (i.Holder==a.Self)) else (some false)).bind fun j=>some j
theorem VB (C:OT) (n:Nat) (a:af) (b:Int):TJ C n 64 [(ag (aa a)),(iA b)] (O2 n a b) (fun y=>(bA y)):=by
 refine .lp (WD ..) ?_
 unfold O2
 refine .s ((pt 0 0),[bx (aa a)]) (.s ((pt 1 0),[bx (aa a),bx [(iA b)]]) (.s2 (im (a.Leases.map ae) false) (.cl ((aw Nk).trans (WS ..)) (.st (dr (e:=50)) (.as (Eu C n _ _ _ _ a.Leases 0 ((a.Leases.length:Int)) a b ?_ ?_ _ 0))))))
 ·intro p q r u v w252
  refine .un rfl (.cr (.ok (.s (iA b) (.st (fj ..) (.bg (fun t (y:Bool)=>∃ h i:A,t=[(bA y),h,i]) ?_ ?_)))))
  ·refine .bi ?_ ?_
   ·exact .st (fj ..) (.lg ⟨_,_,rfl⟩)
   exact .lg ⟨_,_,rfl⟩
  rintro _ w ⟨h,i,rfl⟩
  refine .uc (.uc (.uc (.PF (.bg (fun t (y:Bool)=>∃ j:A,t=[(bA y),j]) ?_ ?_))))
  ·refine .AV (fun c=>?_) (fun c=>?_)
   ·exact .bb (.s (pt 0 1) (.s (im (a.Leases.map ae) false) (.bd (fa (e:=50) (es:=3)) fun d=>.s (A.ip [(iA d.Holder),(iA d.Until)]) (.s (iA d.Holder) (.s (pt 0 0) (.s (iA a.Self) (.cr (.u4 (.u4 (.ra c (.st (aV ..) (.lg ⟨_,rfl⟩))))))))))))
   exact .bb (.cr (.u4 (.u4 (.q9 c (.lg ⟨_,rfl⟩)))))
  rintro _ x ⟨j,rfl⟩
  exact .uc (.uc (.lv rfl))
 ·intro z a2 a3 a4 a5
  refine .un rfl (.cT j9 (.cr (.ok (.s (iA b) (.st (fj ..) (.bg (fun t (y:Bool)=>∃ k l:A,t=[(bA y),k,l]) ?_ ?_))))))
  ·refine .bi ?_ ?_
   ·exact .s (bA false) (.lg ⟨_,_,rfl⟩)
   exact .lg ⟨_,_,rfl⟩
  rintro _ a6 ⟨k,l,rfl⟩
  refine .uc (.uc (.uc (.PF (.bg (fun t (y:Bool)=>∃ o:A,t=[(bA y),o]) ?_ ?_))))
  ·refine .AV (fun f=>?_) (fun f=>?_)
   ·exact .bb (.s (pt 0 1) (.s (im (a.Leases.map ae) false) (.bd (fa (e:=50) (es:=3)) fun g=>.s (A.ip [(iA g.Holder),(iA g.Until)]) (.s (iA g.Holder) (.s (pt 0 0) (.s (iA a.Self) (.cr (.u4 (.u4 (.ra f (.st (aV ..) (.lg ⟨_,rfl⟩))))))))))))
   exact .bb (.cr (.u4 (.u4 (.q9 f (.lg ⟨_,rfl⟩)))))
  rintro _ a7 ⟨o,rfl⟩
  exact .uc (.uc (.lv rfl))
def LM (a:af) (b:Int):Option Bool:=O2 aA a b
def I4 (C:OT):Prop:=∀ (a:af) (b:Int),C 64 [(ag (aa a)),(iA b)]=(LM a b).map fun y=>(bA y)
def OO (n:Nat) (a:af) (b:av):Option Bool:=
 (LM a b.Bar).bind fun c=>(bif c then (bif (((a.Calls.length:Int))==0) then ((some (())).bind fun k=>(some true).bind fun d=>some d) else ((bt a.Calls (wr .i64 (((a.Calls.length:Int)) - 1))).bind fun e=>(some (decide (e.Bar<b.Bar))).bind fun f=>(some f).bind fun g=>some g)) else ((some (())).bind fun l=>some false)).bind fun h=>(bif h then ((zW b.Program 1 8).bind fun i=>some i) else (some false)).bind fun j=>some j
theorem Vp (C:OT) (n:Nat) (l:sM C) (o:I4 C) (b:af) (a:av):TJ C n 44 [(ag (aa b)),(ag [(iA a.Bar),(iA a.Program)])] (OO n b a) (fun y=>(bA y)):=by
 refine .lp (Wr ..) ?_
 unfold OO
 refine .s ((pt 0 0),[bx (aa b)]) (.s ((pt 1 0),[bx (aa b),bx [(iA a.Bar),(iA a.Program)]]) (.s2 (im (b.Calls.map ah) false) (.st (dr (e:=54)) (.s (ag (aa b)) (.s2 (iA a.Bar) (.bd (g:=fun (y:Bool)=>(bA y)) (by simp only[bJ,dg]; exact o b a.Bar) fun p=>.K5 (.bg (fun t (y:Bool)=>∃ h:A,t=[(bA y),h]) ?_ ?_)))))))
 ·refine .AV (fun d=>?_) (fun d=>?_)
  ·refine .bb (.st (aV ..) (.E9 (fun c=>?_) (fun c=>?_)))
   ·refine .bb (.s (pt 1 0) (.s (iA a.Bar) (.s (pt 0 2) (.s (im (b.Calls.map ah) false) (.st (du ..) (.bd (fa (e:=54) (es:=2)) fun f=>.s (A.ip [(iA f.Bar),(iA f.Program)]) (.s (iA f.Bar) (.cr (.u4 (.u4 (.uc (.cr (.u4 (.u4 (.u4 (.bg (fun t (y:Bool) =>  t=[(bA y)]) ?_ ?_))))))))))))))))
    ·exact .lp (lB c) (.st (cF ..) (.lg rfl))
    rintro _ q rfl
    refine .uc (.ra d (.bg (fun t (y:Bool) =>  t=(bA y)) ?_ ?_))
    ·exact .q9 c (.lg rfl)
    rintro _ r rfl
    exact .lg ⟨_,rfl⟩
   refine .bb (.cr (.u4 (.u4 (.uc (.cr (.u4 (.u4 (.u4 (.bg (fun t (y:Unit) =>  t=[(A.v undef)]) ?_ ?_)))))))))
   ·exact .lp (lC c) (.lg rfl)
   rintro _ u rfl
   refine .uc (.ra d (.bg (fun t (y:Bool) =>  t=(bA y)) ?_ ?_))
   ·exact .ra c (.lg rfl)
   rintro _ w rfl
   exact .lg ⟨_,rfl⟩
  refine .bb (.cr (.u4 (.u4 (.u4 (.bg (fun t (y:Unit) =>  t=[(A.v undef)]) ?_ ?_)))))
  ·exact .gU (.lg rfl)
  rintro _ x rfl
  exact .uc (.q9 d (.lg ⟨_,rfl⟩))
 rintro _ z ⟨h,rfl⟩
 refine .uc (.uc (.bg (fun t (y:Bool)=>∃ i j k:A,t=[(bA y),i,j,k]) ?_ ?_))
 ·refine .bi ?_ ?_
  ·exact .s (pt 1 1) (.s (iA a.Program) (.bd (l a.Program 1 8) fun a2=>.lg ⟨_,_,_,rfl⟩))
  exact .lg ⟨_,_,_,rfl⟩
 rintro _ a3 ⟨i,j,k,rfl⟩
 exact .u4 (.lv rfl)
def J0 (a:af) (b:av):Option Bool:=OO aA a b
def Bx (C:OT):Prop:=∀ (b:af) (a:av),C 44 [(ag (aa b)),(ag [(iA a.Bar),(iA a.Program)])]=(J0 b a).map fun y=>(bA y)
def jH (a:af) (b:(List av)) (c:(List Bool)):az:=bx [(iA a.Self),(im (a.Leases.map ae) false),(bo 3 0 b.length false),(bo 4 0 c.length false)]
def ef (a:af) (b:(List al)) (c:(List Bool)):az:=bx [(iA a.Self),(bo 3 0 b.length false),(im (a.Calls.map ah) false),(bo 4 0 c.length false)]
def Ly (n:Nat) (a:af) (b:ar):Option af:=
 bif b.is then ((eJ a.Leases 0 ((a.Leases.length:Int))).bind fun c=>(cU 24 c ([b.lease])).bind fun d=>(eJ a.Order 0 ((a.Order.length:Int))).bind fun e=>(cU 1 e ([b.is])).bind fun f=>some ((af.mk a.Self d a.Calls f))) else ((eJ a.Calls 0 ((a.Calls.length:Int))).bind fun g=>(cU 16 g ([b.call])).bind fun h=>(eJ a.Order 0 ((a.Order.length:Int))).bind fun i=>(cU 1 i ([b.is])).bind fun j=>some ((af.mk a.Self a.Leases h j)))
theorem Vo (C:OT) (n:Nat) (c:af) (d:ar):TJ C n 42 [(ag (aa c)),(ag (ay d))] (Ly n c d) (fun y=>(ag (aa y))):=by
 refine .lp (Wq ..) ?_
 unfold Ly
 refine .s ((pt 0 0),[bx (aa c)]) (.sq (pt 1 0) (.s ((pt 2 0),[bx (aa c),bx (ay d),bx [(iA 0),XU,XU,XU]]) (.s2 (bA d.is) (.bX ?_ ?_))))
 ·refine .s2 (im (c.Leases.map ae) false) (.s (pt 1 1) (.s (ag (ae d.lease)) (.cT j9 (.s (im [[(iA d.lease.No),(iA d.lease.Holder),(iA d.lease.Until)]] true) (.cT j9 (.cl ((aw JD).trans (Ta ..)) (.st (dr (e:=50)) (.st (dr (e:=50)) (.bd (iC (e:=50) (es:=3) (f:=ae) (l:=c.Leases) (a:=0) (b:=(c.Leases.length:Int)) j9 j9 (fun _=>rfl) (.inl ⟨rfl,rfl⟩)) fun o=>.cr (.ok (.bd (g:=fun (y:List al)=>((bo 3 0 y.length false),[bx (aa c),bx (ay d),bx [(iA 0),XU,XU,XU],az.row false 3 (y.map ae)])) (fz mQ (l:=o) (l2:=[d.lease]) (bk (f:=ae) ([d.lease]:List al) _ _)) fun h=>.s (pt 0 1) (.s [bx [(iA c.Self),(bo 3 0 h.length false),(im (c.Calls.map ah) false),(im (c.Order.map cB) false)],bx (ay d),bx [(iA 0),XU,XU,XU],az.row false 3 (h.map ae)] (.s2 (im (c.Order.map cB) false) (.s (pt 1 0) (.s (bA d.is) (.cT j9 (.s (im [[(bA d.is)]] true) (.cT j9 (.cl ((aw JF).trans (Tc ..)) (.st (dr (e:=4)) (.st (dr (e:=4)) ?_)))))))))))))))))))))
  exact .bd (iC (e:=4) (es:=1) (f:=cB) (l:=c.Order) (a:=0) (b:=(c.Order.length:Int)) j9 j9 (fun _=>rfl) (.inl ⟨rfl,rfl⟩)) fun p=>.cr (.ok (.bd (g:=fun (y:List Bool)=>((bo 4 0 y.length false),[bx [(iA c.Self),(bo 3 0 h.length false),(im (c.Calls.map ah) false),(im (c.Order.map cB) false)],bx (ay d),bx [(iA 0),XU,XU,XU],az.row false 3 (h.map ae),az.row false 1 (y.map cB)])) (fz k9 (l:=p) (l2:=[d.is]) (bk (f:=cB) ([d.is]:List Bool) _ _)) fun j=>.s (pt 0 3) (.sh (.s (ag [(iA c.Self),(bo 3 0 h.length false),(im (c.Calls.map ah) false),(bo 4 0 j.length false)]) (.s [(ef c h j),bx (ay d),(ef c h j),az.row false 3 (h.map ae),az.row false 1 (j.map cB)] (.s (ag [(iA c.Self),(bo 3 0 h.length false),(im (c.Calls.map ah) false),(bo 4 0 j.length false)]) (.lv (by show aK [(ef c h j),bx (ay d),(ef c h j),az.row false 3 (h.map ae),az.row false 1 (j.map cB)] (ag [(iA c.Self),(bo 3 0 h.length false),(im (c.Calls.map ah) false),(bo 4 0 j.length false)])=_; first | (simp only[bJ,dg,aK,aO (H:=[(ef c h j),bx (ay d),(ef c h j),az.row false 3 (h.map ae),az.row false 1 (j.map cB)]) (b:=3) (es:=3) (wr:=false) (l:=h) bM rfl,aO (H:=[(ef c h j),bx (ay d),(ef c h j),az.row false 3 (h.map ae),az.row false 1 (j.map cB)]) (b:=4) (es:=1) (wr:=false) (l:=j) ft rfl]; done) | (simp only[bJ,dG,aK,aO (H:=[(ef c h j),bx (ay d),(ef c h j),az.row false 3 (h.map ae),az.row false 1 (j.map cB)]) (b:=3) (es:=3) (wr:=false) (l:=h) bM rfl,aO (H:=[(ef c h j),bx (ay d),(ef c h j),az.row false 3 (h.map ae),az.row false 1 (j.map cB)]) (b:=4) (es:=1) (wr:=false) (l:=j) ft rfl]; first | done | rfl)))))))))
 refine .s2 (im (c.Calls.map ah) false) (.s (pt 1 4) (.s (ag [(iA d.call.Bar),(iA d.call.Program)]) (.cT j9 (.s (im [[(iA d.call.Bar),(iA d.call.Program)]] true) (.cT j9 (.cl ((aw JE).trans (Tb ..)) (.st (dr (e:=54)) (.st (dr (e:=54)) (.bd (iC (e:=54) (es:=2) (f:=ah) (l:=c.Calls) (a:=0) (b:=(c.Calls.length:Int)) j9 j9 (fun _=>rfl) (.inl ⟨rfl,rfl⟩)) fun q=>.cr (.ok (.bd (g:=fun (y:List av)=>((bo 3 0 y.length false),[bx (aa c),bx (ay d),bx [(iA 0),XU,XU,XU],az.row false 2 (y.map ah)])) (fz mR (l:=q) (l2:=[d.call]) (bk (f:=ah) ([d.call]:List av) _ _)) fun i=>.s (pt 0 2) (.s [bx [(iA c.Self),(im (c.Leases.map ae) false),(bo 3 0 i.length false),(im (c.Order.map cB) false)],bx (ay d),bx [(iA 0),XU,XU,XU],az.row false 2 (i.map ah)] (.s2 (im (c.Order.map cB) false) (.s (pt 1 0) (.s (bA d.is) (.cT j9 (.s (im [[(bA d.is)]] true) (.cT j9 (.cl ((aw JF).trans (Tc ..)) (.st (dr (e:=4)) (.st (dr (e:=4)) ?_)))))))))))))))))))))
 exact .bd (iC (e:=4) (es:=1) (f:=cB) (l:=c.Order) (a:=0) (b:=(c.Order.length:Int)) j9 j9 (fun _=>rfl) (.inl ⟨rfl,rfl⟩)) fun r=>.cr (.ok (.bd (g:=fun (y:List Bool)=>((bo 4 0 y.length false),[bx [(iA c.Self),(im (c.Leases.map ae) false),(bo 3 0 i.length false),(im (c.Order.map cB) false)],bx (ay d),bx [(iA 0),XU,XU,XU],az.row false 2 (i.map ah),az.row false 1 (y.map cB)])) (fz k9 (l:=r) (l2:=[d.is]) (bk (f:=cB) ([d.is]:List Bool) _ _)) fun k=>.s (pt 0 3) (.sh (.s (ag [(iA c.Self),(im (c.Leases.map ae) false),(bo 3 0 i.length false),(bo 4 0 k.length false)]) (.s [(jH c i k),bx (ay d),(jH c i k),az.row false 2 (i.map ah),az.row false 1 (k.map cB)] (.s (ag [(iA c.Self),(im (c.Leases.map ae) false),(bo 3 0 i.length false),(bo 4 0 k.length false)]) (.lv (by show aK [(jH c i k),bx (ay d),(jH c i k),az.row false 2 (i.map ah),az.row false 1 (k.map cB)] (ag [(iA c.Self),(im (c.Leases.map ae) false),(bo 3 0 i.length false),(bo 4 0 k.length false)])=_; first | (simp only[bJ,dg,aK,aO (H:=[(jH c i k),bx (ay d),(jH c i k),az.row false 2 (i.map ah),az.row false 1 (k.map cB)]) (b:=3) (es:=2) (wr:=false) (l:=i) bS rfl,aO (H:=[(jH c i k),bx (ay d),(jH c i k),az.row false 2 (i.map ah),az.row false 1 (k.map cB)]) (b:=4) (es:=1) (wr:=false) (l:=k) ft rfl]; done) | (simp only[bJ,dG,aK,aO (H:=[(jH c i k),bx (ay d),(jH c i k),az.row false 2 (i.map ah),az.row false 1 (k.map cB)]) (b:=3) (es:=2) (wr:=false) (l:=i) bS rfl,aO (H:=[(jH c i k),bx (ay d),(jH c i k),az.row false 2 (i.map ah),az.row false 1 (k.map cB)]) (b:=4) (es:=1) (wr:=false) (l:=k) ft rfl]; first | done | rfl)))))))))
def CL (a:af) (b:ar):Option af:=Ly aA a b
def rI (C:OT):Prop:=∀ (a:af) (b:ar),C 42 [(ag (aa a)),(ag (ay b))]=(CL a b).map fun y=>(ag (aa y))
def n5 (a:Int) (b:(List al)) (c:(List av)) (d:(List Bool)):az:=bx [(iA a),(im (b.map ae) false),(im (c.map ah) false),(im (d.map cB) false)]
def cV (b:Bool) (a:av):az:=bx [(bA b),(iA 0),(iA 0),(iA 0),(iA a.Bar),(iA a.Program)]
def iu (n:Nat) (l:(List Bool)) (o:Int) (p:af) (q:Int) (r:af):Nat->(List al)->(List av)->Int->Int->(List al)->(List av)->(List Bool)->Int->Option ((Int×Int)⊕((Int)⊕(Int)))
 | 0,_,_,_,_,_,_,_,_=>none
 | m+1,g,h,i,b,c,d,e,f=>bif (decide (i<o)) then ((bt l i).bind fun a=>(bif a then (some (decide (0<((g.length:Int))))) else (some false)).bind fun u=>bif u then ((bt g 0).bind fun s=>(eJ g 1 ((g.length:Int))).bind fun v=>(bif a then ((IJ ((af.mk b c d e)) s).bind fun w=>some (!w)) else (some false)).bind fun x=>(bif x then (some true) else ((bif (!a) then ((J0 ((af.mk b c d e)) ((av.mk 0 0))).bind fun y=>some (!y)) else (some false)).bind fun z=>some z)).bind fun a0=>bif a0 then (some ((Sum.inl ((530,f))))) else ((CL ((af.mk b c d e)) ((ar.mk a s ((av.mk 0 0))))).bind fun j=>iu n l o p q r m v h (wr .i64 (i+1)) j.Self j.Leases j.Calls j.Order (wr .i64 (f+1)))) else ((bif (!a) then (some (decide (0<((h.length:Int))))) else (some false)).bind fun a1=>bif a1 then ((bt h 0).bind fun t=>(eJ h 1 ((h.length:Int))).bind fun a2=>(bif a then ((IJ ((af.mk b c d e)) ((al.mk 0 0 0))).bind fun a3=>some (!a3)) else (some false)).bind fun a4=>(bif a4 then (some true) else ((bif (!a) then ((J0 ((af.mk b c d e)) t).bind fun a5=>some (!a5)) else (some false)).bind fun a6=>some a6)).bind fun a7=>bif a7 then (some ((Sum.inl ((530,f))))) else ((CL ((af.mk b c d e)) ((ar.mk a ((al.mk 0 0 0)) t))).bind fun k=>iu n l o p q r m g a2 (wr .i64 (i+1)) k.Self k.Leases k.Calls k.Order (wr .i64 (f+1)))) else (some ((Sum.inr ((Sum.inl f))))))) else (some ((Sum.inr ((Sum.inr f)))))
theorem Eb (a8:xU C) (a9:rI C) (ab:Bx C) (a6:(List Bool)) (ad:Int) (o:af) (q:Int) (r:af) {K:((Int×Int)⊕((Int)⊕(Int)))->Option γ} (x0:∀ (w:Int) (o1:Int) (s0:A) (s3:A) (s4:A) (a3:A) (a4:A) (a5:A) (q2:az) (q4:az) (q6:az) (q7:az),J φ (kr (St.mk [(0,s0),(3,s3),(4,s4),(13,a3),(14,a4),(15,a5)] [bx (aa o),bx [(iA w)],q2,bx [(iA o1)],q4,az.rng (cX.done IP.ret),q6,q7])) kL (K (Sum.inl ((w,o1)))) some) (x1:∀ (w:Int) (s0:A) (s3:A) (s4:A) (a3:A) (a4:A) (a5:A) (q2:az) (q4:az) (q6:az),J φ (kr (St.mk [(0,s0),(3,s3),(4,s4),(13,a3),(14,a4),(15,a5)] [bx (aa o),bx [(iA q)],q2,bx [(iA w)],q4,az.rng cX.ready,q6])) kL (K (Sum.inr ((Sum.inl w)))) some) (x2:∀ (w:Int) (s0:A) (s3:A) (s4:A) (a3:A) (a4:A) (a5:A) (q2:az) (q4:az),J φ (kx 0 (St.mk [(0,s0),(3,s3),(4,s4),(13,a3),(14,a4),(15,a5)] [bx (aa o),bx [(iA q)],q2,bx [(iA w)],q4,az.rng cX.ready])) kL (K (Sum.inr ((Sum.inr w)))) some) :
  ∀ (m:Nat) (x:(List al)) (z:(List av)) (a7:Int) (d:Int) (h:(List al)) (i:(List av)) (j:(List Bool)) (p:Int),J φ (aH (cx C) (bq (cx C) (n+7) (sx 126 (dS (cx C) (n+8)) 5 (lR (cx C) (ec C n 8) (ey C n 8) (n+8) 15 0 0 5 [(2,(pt 1 0)),(3,(pt 2 0)),(4,(pt 3 0))]))) (bq (cx C) (n+7)) (n+7) 66 0 0 6 kx kg kr kp m (St.mk [(0,(A.yld 5)),(3,(im (x.map ae) false)),(4,(im (z.map ah) false)),(13,(im (a6.map cB) false)),(14,(iA ad)),(15,(iA a7))] [bx (aa o),bx [(iA q)],(n5 d h i j),bx [(iA p)],bx (aa r),az.rng cX.ready])) kL (iu n a6 ad o q r m x z a7 d h i j p) K:=by
  refine nI (fun _ _ _ _ _ _ _ _=>.nn) fun m ih x z a7 d h i j p=>.lp (BO ..) ?_
  unfold iu
  refine .st (aW ..) (.bX ?_ ?_)
  ·refine .bd (fa (e:=4) (es:=1)) fun c=>.s (bA c) (.s (ag [(bA c),(iA 0),(iA 0),(iA 0),(iA 0),(iA 0)]) (.sq (pt 6 0) (.s [bx (aa o),bx [(iA q)],(n5 d h i j),bx [(iA p)],bx (aa r),az.rng cX.ready,bx [(bA c),(iA 0),(iA 0),(iA 0),(iA 0),(iA 0)]] (.bg (fun t (y:Bool)=>∃ ak am an:A,t=[(bA y),ak,am,an]) ?_ ?_))))
   ·refine .bi ?_ ?_
    ·exact .st (dr (e:=50)) (.st (cF ..) (.lg ⟨_,_,_,rfl⟩))
    exact .lg ⟨_,_,_,rfl⟩
   rintro _ cg ⟨ak,am,an,rfl⟩
   refine .u4 (.bX ?_ ?_)
   ·refine .bd (fa (e:=50) (es:=3)) fun u=>.s (ag (ae u)) (.bd (fQ (e:=50) (es:=3) (f:=ae) (l:=x) (a:=1) (b:=(x.length:Int)) j9 j9 (fun _=>rfl) (.inr ⟨_,rfl⟩) (.inl ⟨rfl,rfl⟩)) fun ca=>.s (pt 6 1) (.cT j9 (.s [bx (aa o),bx [(iA q)],(n5 d h i j),bx [(iA p)],bx (aa r),az.rng cX.ready,bx ([(bA c)]++ae u++[(iA 0),(iA 0)])] (.s (ag ([(bA c)]++ae u++[(iA 0),(iA 0)])) (.dY rfl (.cl (yq.trans (lJ.trans (EU C (ec C n 8) (ey C n 8) (n+8) _ _ _ _ _ _ _ _ _))) (.cT j9 (.lp (gK rfl) (.sq (pt 7 0) (.s [bx (aa o),bx [(iA q)],(n5 d h i j),bx [(iA p)],bx (aa r),az.rng cX.ready,bx ([(bA c)]++ae u++[(iA 0),(iA 0)]),bx ([(bA c)]++ae u++[(iA 0),(iA 0)])] (.lp (gK rfl) (.s2 (bA c) (.bg (fun t (y:Bool)=>∃ ao ap aq au aw:A,t=[(bA y),ao,ap,aq,au,aw]) ?_ ?_)))))))))))))
    ·refine .bi ?_ ?_
     ·exact .s (ag [(iA d),(im (h.map ae) false),(im (i.map ah) false),(im (j.map cB) false)]) (.s (pt 7 1) (.s (ag (ae u)) (.bd (g:=fun (y:Bool)=>(bA y)) (by simp only[bJ,dg]; exact a8 ((af.mk d h i j)) u) fun cb=>.s (bA (!cb)) (.lg ⟨_,_,_,_,_,rfl⟩))))
     exact .lg ⟨_,_,_,_,_,rfl⟩
    rintro _ ch ⟨ao,ap,aq,au,aw,rfl⟩
    refine .u4 (.uc (.uc (.bg (fun t (y:Bool)=>∃ ax ay b0 b1 b2 b3 b4 b5 b6 b7:A,t=[(bA y),ax,ay,b0,b1,b2,b3,b4,b5,b6,b7]) ?_ ?_)))
    ·refine .bi ?_ ?_
     ·exact .lg ⟨_,_,_,_,_,_,_,_,_,_,rfl⟩
     refine .s (pt 7 0) (.s (bA c) (.s (bA (!c)) (.bg (fun t (y:Bool)=>∃ b8 b9 ba bb bc:A,t=[(bA y),b8,b9,ba,bb,bc]) ?_ ?_)))
     ·refine .bi ?_ ?_
      ·exact .s (ag [(iA d),(im (h.map ae) false),(im (i.map ah) false),(im (j.map cB) false)]) (.s (pt 7 4) (.s (ag [(iA 0),(iA 0)]) (.bd (g:=fun (y:Bool)=>(bA y)) (by simp only[bJ,dg]; exact ab ((af.mk d h i j)) ((av.mk 0 0))) fun cc=>.s (bA (!cc)) (.lg ⟨_,_,_,_,_,rfl⟩))))
      exact .lg ⟨_,_,_,_,_,rfl⟩
     rintro _ ci ⟨b8,b9,ba,bb,bc,rfl⟩
     exact .u4 (.uc (.uc (.lg ⟨_,_,_,_,_,_,_,_,_,_,rfl⟩)))
    rintro _ cj ⟨ax,ay,b0,b1,b2,b3,b4,b5,b6,b7,rfl⟩
    refine .u4 (.u4 (.uc (.uc (.uc (.bX ?_ ?_)))))
    ·exact .s [bx (aa o),bx [(iA 530)],(n5 d h i j),bx [(iA p)],bx (aa r),az.rng cX.busy,bx ([(bA c)]++ae u++[(iA 0),(iA 0)]),bx ([(bA c)]++ae u++[(iA 0),(iA 0)])] (.lp (gI rfl) (.cr (.ok (.s (bA true) (.hU (.ex (x0 _ _ _ _ _ _ _ _ _ _ _ _)))))))
    refine .s (ag [(iA d),(im (h.map ae) false),(im (i.map ah) false),(im (j.map cB) false)]) (.s (ag ([(bA c)]++ae u++[(iA 0),(iA 0)])) (.bd (g:=fun (y:af)=>(ag (aa y))) (by simp only[bJ,dg]; exact a9 ((af.mk d h i j)) ((ar.mk c u ((av.mk 0 0))))) fun be=>.sh (.s (iA p) (.st (aM ..) (.s [bx (aa o),bx [(iA q)],bx (aa be),bx [(iA (wr .i64 (p+1)))],bx (aa r),az.rng cX.busy,bx ([(bA c)]++ae u++[(iA 0),(iA 0)]),bx ([(bA c)]++ae u++[(iA 0),(iA 0)])] (.lp (gI rfl) (.cr (.ok (.s (bA false) (.kS (.st (aM ..) (.st (v:=[bx (aa o),bx [(iA q)],bx (aa be),bx [(iA (wr .i64 (p+1)))],bx (aa r),az.rng cX.ready]) (eH j9 u2) (.cT ((by kernel_rfl:_=(bif aR 6 (ca.map ae) then (bif aR 6 (z.map ah) then (bif aR 6 (a6.map cB) then true else false) else false) else false)).trans so) ?_)))))))))))))
    exact ih _ _ _ _ _ _ _ _
   refine .s (bA (!c)) (.bg (fun t (y:Bool)=>∃ bf bh bj:A,t=[(bA y),bf,bh,bj]) ?_ ?_)
   ·refine .bi ?_ ?_
    ·exact .st (dr (e:=54)) (.st (cF ..) (.lg ⟨_,_,_,rfl⟩))
    exact .lg ⟨_,_,_,rfl⟩
   rintro _ ck ⟨bf,bh,bj,rfl⟩
   refine .u4 (.bX ?_ ?_)
   ·refine .bd (fa (e:=54) (es:=2)) fun k=>.s (ag [(iA k.Bar),(iA k.Program)]) (.bd (fQ (e:=54) (es:=2) (f:=ah) (l:=z) (a:=1) (b:=(z.length:Int)) j9 j9 (fun _=>rfl) (.inr ⟨_,rfl⟩) (.inl ⟨rfl,rfl⟩)) fun cd=>.s (pt 6 4) (.cT j9 (.s [bx (aa o),bx [(iA q)],(n5 d h i j),bx [(iA p)],bx (aa r),az.rng cX.ready,(cV c k)] (.s (ag [(bA c),(iA 0),(iA 0),(iA 0),(iA k.Bar),(iA k.Program)]) (.dY rfl (.cl (yq.trans (lJ.trans (EU C (ec C n 8) (ey C n 8) (n+8) _ _ _ _ _ _ _ _ _))) (.cT j9 (.lp (gK rfl) (.sq (pt 7 0) (.s [bx (aa o),bx [(iA q)],(n5 d h i j),bx [(iA p)],bx (aa r),az.rng cX.ready,(cV c k),(cV c k)] (.lp (gK rfl) (.s2 (bA c) (.bg (fun t (y:Bool)=>∃ bk bl bm bn bo:A,t=[(bA y),bk,bl,bm,bn,bo]) ?_ ?_)))))))))))))
    ·refine .bi ?_ ?_
     ·exact .s (ag [(iA d),(im (h.map ae) false),(im (i.map ah) false),(im (j.map cB) false)]) (.s (pt 7 1) (.s (ag [(iA 0),(iA 0),(iA 0)]) (.bd (g:=fun (y:Bool)=>(bA y)) (by simp only[bJ,dg]; exact a8 ((af.mk d h i j)) ((al.mk 0 0 0))) fun ce=>.s (bA (!ce)) (.lg ⟨_,_,_,_,_,rfl⟩))))
     exact .lg ⟨_,_,_,_,_,rfl⟩
    rintro _ cm ⟨bk,bl,bm,bn,bo,rfl⟩
    refine .u4 (.uc (.uc (.bg (fun t (y:Bool)=>∃ bp br bs bt bu bv bw bz c0 c1:A,t=[(bA y),bp,br,bs,bt,bu,bv,bw,bz,c0,c1]) ?_ ?_)))
    ·refine .bi ?_ ?_
     ·exact .lg ⟨_,_,_,_,_,_,_,_,_,_,rfl⟩
     refine .s (pt 7 0) (.s (bA c) (.s (bA (!c)) (.bg (fun t (y:Bool)=>∃ c2 c3 c4 c5 c6:A,t=[(bA y),c2,c3,c4,c5,c6]) ?_ ?_)))
     ·refine .bi ?_ ?_
      ·exact .s (ag [(iA d),(im (h.map ae) false),(im (i.map ah) false),(im (j.map cB) false)]) (.s (pt 7 4) (.s (ag [(iA k.Bar),(iA k.Program)]) (.bd (g:=fun (y:Bool)=>(bA y)) (by simp only[bJ,dg]; exact ab ((af.mk d h i j)) k) fun cf=>.s (bA (!cf)) (.lg ⟨_,_,_,_,_,rfl⟩))))
      exact .lg ⟨_,_,_,_,_,rfl⟩
     rintro _ cn ⟨c2,c3,c4,c5,c6,rfl⟩
     exact .u4 (.uc (.uc (.lg ⟨_,_,_,_,_,_,_,_,_,_,rfl⟩)))
    rintro _ co ⟨bp,br,bs,bt,bu,bv,bw,bz,c0,c1,rfl⟩
    refine .u4 (.u4 (.uc (.uc (.uc (.bX ?_ ?_)))))
    ·exact .s [bx (aa o),bx [(iA 530)],(n5 d h i j),bx [(iA p)],bx (aa r),az.rng cX.busy,(cV c k),(cV c k)] (.lp (gI rfl) (.cr (.ok (.s (bA true) (.hU (.ex (x0 _ _ _ _ _ _ _ _ _ _ _ _)))))))
    refine .s (ag [(iA d),(im (h.map ae) false),(im (i.map ah) false),(im (j.map cB) false)]) (.s (ag [(bA c),(iA 0),(iA 0),(iA 0),(iA k.Bar),(iA k.Program)]) (.bd (g:=fun (y:af)=>(ag (aa y))) (by simp only[bJ,dg]; exact a9 ((af.mk d h i j)) ((ar.mk c ((al.mk 0 0 0)) k))) fun c7=>.sh (.s (iA p) (.st (aM ..) (.s [bx (aa o),bx [(iA q)],bx (aa c7),bx [(iA (wr .i64 (p+1)))],bx (aa r),az.rng cX.busy,(cV c k),(cV c k)] (.lp (gI rfl) (.cr (.ok (.s (bA false) (.kS (.st (aM ..) (.st (v:=[bx (aa o),bx [(iA q)],bx (aa c7),bx [(iA (wr .i64 (p+1)))],bx (aa r),az.rng cX.ready]) (eH j9 u2) (.cT ((by kernel_rfl:_=(bif aR 6 (x.map ae) then (bif aR 6 (cd.map ah) then (bif aR 6 (a6.map cB) then true else false) else false) else false)).trans so) ?_)))))))))))))
    exact ih _ _ _ _ _ _ _ _
   exact .ex (x1 _ _ _ _ _ _ _ _ _ _)
  exact .ex (x2 _ _ _ _ _ _ _ _ _)
def OA (n:Nat) (a:af):Option Int:=
 (zW a.Self 0 1).bind fun b=>(bif (!b) then (some true) else (some (((a.Order.length:Int))==0))).bind fun c=>(bif c then (some true) else (some (((a.Order.length:Int)) != (wr .i64 (((a.Leases.length:Int))+((a.Calls.length:Int))))))).bind fun d=>(bif d then (some true) else (some (decide (256<((a.Leases.length:Int)))))).bind fun e=>bif e then (some 530) else ((iu n a.Order ((a.Order.length:Int)) a 0 a (n+7) a.Leases a.Calls 0 a.Self ([]) ([]) ([]) 0).bind fun f=>match f with | (Sum.inl ((g,p)))=>some g | (Sum.inr ((Sum.inl h)))=>(bif (h != ((a.Order.length:Int))) then (some true) else ((bt a.Order 0).bind fun i=>some (!i))).bind fun j=>bif j then (some 530) else (some 0) | (Sum.inr ((Sum.inr k)))=>(bif (k != ((a.Order.length:Int))) then (some true) else ((bt a.Order 0).bind fun l=>some (!l))).bind fun o=>bif o then (some 530) else (some 0))
theorem Va (C:OT) (n:Nat) (al:sM C) (am:xU C) (an:rI C) (ao:Bx C) (a:af):TJ C n 15 [(ag (aa a))] (OA n a) (fun y=>(iA y)):=by
 refine .lp (V5 ..) ?_
 unfold OA
 refine .s ((pt 0 0),[bx (aa a)]) (.s ((pt 1 0),[bx (aa a),bx [(iA 0)]]) (.s2 (iA a.Self) (.bd (al a.Self 0 1) fun y1=>.s (bA (!y1)) (.bg (fun t (y:Bool)=>∃ d f g h:A,t=[(bA y),d,f,g,h]) ?_ ?_))))
 ·refine .bi ?_ ?_
  ·exact .lg ⟨_,_,_,_,rfl⟩
  exact .s (pt 0 3) (.s (im (a.Order.map cB) false) (.st (dr (e:=4)) (.st (aV ..) (.lg ⟨_,_,_,_,rfl⟩))))
 rintro _ y3 ⟨d,f,g,h,rfl⟩
 refine .u4 (.uc (.bg (fun t (y:Bool)=>∃ i j k l o p q r u v w:A,t=[(bA y),i,j,k,l,o,p,q,r,u,v,w]) ?_ ?_))
 ·refine .bi ?_ ?_
  ·exact .lg ⟨_,_,_,_,_,_,_,_,_,_,_,rfl⟩
  exact .s (pt 0 3) (.s (im (a.Order.map cB) false) (.st (dr (e:=4)) (.s (pt 0 1) (.s (im (a.Leases.map ae) false) (.st (dr (e:=50)) (.s (pt 0 2) (.s (im (a.Calls.map ah) false) (.st (dr (e:=54)) (.st (aM ..) (.st (bf ..) (.lg ⟨_,_,_,_,_,_,_,_,_,_,_,rfl⟩)))))))))))
 rintro _ y9 ⟨i,j,k,l,o,p,q,r,u,v,w,rfl⟩
 refine .u4 (.u4 (.u4 (.bg (fun t (y:Bool)=>∃ x z a1 a2:A,t=[(bA y),x,z,a1,a2]) ?_ ?_)))
 ·refine .bi ?_ ?_
  ·exact .lg ⟨_,_,_,_,rfl⟩
  exact .s (pt 0 1) (.s (im (a.Leases.map ae) false) (.st (dr (e:=50)) (.st (cF ..) (.lg ⟨_,_,_,_,rfl⟩))))
 rintro _ av ⟨x,z,a1,a2,rfl⟩
 refine .u4 (.uc (.bX ?_ ?_))
 ·exact .s [bx (aa a),bx [(iA 530)]] (.s (iA 530) (.lv rfl))
 refine .s2 (iA a.Self) (.s (ag [(iA a.Self),XU,XU,XU]) (.sq (pt 2 0) (.sq (pt 3 0) (.sh (.sh (.s (ag (aa a)) (.cl ((aw B9).trans (Pu ..)) (.s ((pt 4 0),[bx (aa a),bx [(iA 0)],bx [(iA a.Self),XU,XU,XU],bx [(iA 0)],bx (aa a)]) (.cr (.ok (.s (66,[(pt 4 0)]) (.cT j9 (.cl ((kI Cb).trans (Pw ..)) (.s2 (im (a.Leases.map ae) false) (.s2 (im (a.Calls.map ah) false) (.s2 (im (a.Order.map cB) false) (.st (dr (e:=4)) (.as (Eb C n _ _ _ _ am an ao a.Order ((a.Order.length:Int)) a 0 a ?_ ?_ ?_ _ a.Leases a.Calls 0 a.Self ([]) ([]) ([]) 0)))))))))))))))))))
 ·intro aq ax ay b0 b1 b2 b3 b4 w1229 w1230 w1231 w1232
  exact .un rfl (.cr (.ok (.lp (K7 rfl) (.s (iA aq) (.lv rfl)))))
 ·intro b b5 b6 b7 b8 b9 ba w1240 w1241 w1242
  refine .un rfl (.cr (.ok (.lp (zM rfl) (.s (iA b) (.s2 (im (a.Order.map cB) false) (.st (dr (e:=4)) (.st (bf ..) (.bg (fun t (y:Bool)=>∃ a3 a4 a5 a6 a7:A,t=[(bA y),a3,a4,a5,a6,a7]) ?_ ?_))))))))
  ·refine .bi ?_ ?_
   ·exact .lg ⟨_,_,_,_,_,rfl⟩
   exact .s (pt 0 3) (.s (im (a.Order.map cB) false) (.bd (fa (e:=4) (es:=1)) fun a8=>.s (bA a8) (.s (bA (!a8)) (.lg ⟨_,_,_,_,_,rfl⟩))))
  rintro _ bb ⟨a3,a4,a5,a6,a7,rfl⟩
  refine .u4 (.uc (.uc (.bX ?_ ?_)))
  ·exact .s [bx (aa a),bx [(iA 530)],w1240,bx [(iA b)],w1241,az.dead,w1242] (.s (iA 530) (.lv rfl))
  exact .s [bx (aa a),bx [(iA 0)],w1240,bx [(iA b)],w1241,az.dead,w1242] (.s (iA 0) (.lv rfl))
 ·intro c bc be bh bj bk bl w1259 w1260
  refine .un rfl (.cT j9 (.cr (.ok (.lp (zM rfl) (.s (iA c) (.s2 (im (a.Order.map cB) false) (.st (dr (e:=4)) (.st (bf ..) (.bg (fun t (y:Bool)=>∃ a9 ab ad ai aj:A,t=[(bA y),a9,ab,ad,ai,aj]) ?_ ?_)))))))))
  ·refine .bi ?_ ?_
   ·exact .lg ⟨_,_,_,_,_,rfl⟩
   exact .s (pt 0 3) (.s (im (a.Order.map cB) false) (.bd (fa (e:=4) (es:=1)) fun ak=>.s (bA ak) (.s (bA (!ak)) (.lg ⟨_,_,_,_,_,rfl⟩))))
  rintro _ bm ⟨a9,ab,ad,ai,aj,rfl⟩
  refine .u4 (.uc (.uc (.bX ?_ ?_)))
  ·exact .s [bx (aa a),bx [(iA 530)],w1259,bx [(iA c)],w1260,az.dead] (.s (iA 530) (.lv rfl))
  exact .s [bx (aa a),bx [(iA 0)],w1259,bx [(iA c)],w1260,az.dead] (.s (iA 0) (.lv rfl))
def DE (a:af):Option Int:=OA aA a
def p7 (C:OT):Prop:=∀ (a:af),C 15 [(ag (aa a))]=(DE a).map fun y=>(iA y)
abbrev cg:A:=(ag [(iA 0),XU,XU,XU])
def Ox (n:Nat) (a:af) (d:Int) (a2:Int):Option (af×Int):=
 (DE a).bind fun h=>bif (!(h==0)) then ((some ((0,530))).bind fun e=>some (((af.mk e.1 ([]) ([]) ([])),e.2))) else ((bt a.Leases (wr .i64 (((a.Leases.length:Int)) - 1))).bind fun i=>(bif (i.Holder==a.Self) then ((IJ a ((al.mk ((a.Leases.length:Int)) d a2))).bind fun j=>some j) else (some false)).bind fun k=>bif (!k) then ((some ((0,530))).bind fun f=>some (((af.mk f.1 ([]) ([]) ([])),f.2))) else (bif (!(decide (((a.Leases.length:Int))<256))) then ((some ((0,2))).bind fun g=>some (((af.mk g.1 ([]) ([]) ([])),g.2))) else ((CL a ((ar.mk true ((al.mk ((a.Leases.length:Int)) d a2)) ((av.mk 0 0))))).bind fun c=>(some ((c.Self,c.Leases,c.Calls,c.Order,0))).bind fun b=>some (((af.mk b.1 b.2.1 b.2.2.1 b.2.2.2.1),b.2.2.2.2)))))
theorem U7 (C:OT) (n:Nat) (l:p7 C) (o:xU C) (p:rI C) (a:af) (b:Int) (a2:Int):TJ C n 12 [(ag (aa a)),(iA b),(iA a2)] (Ox n a b a2) (fun y=>(tp [(ag (aa y.1)),(iA y.2)])):=by
 refine .lp (V2 ..) ?_
 unfold Ox
 refine .s ((pt 0 0),[bx (aa a)]) (.sq (pt 1 0) (.s ((pt 2 0),[bx (aa a),bx [(iA 0),XU,XU,XU],bx [(iA 0)]]) (.s (ag (aa a)) (.bd (g:=fun (y:Int)=>(iA y)) (by simp only[bJ,dg]; exact l a) fun q=>.st (aV ..) (.cl ((aw gq).trans (tn ..)) (.s (bA (!(q==0))) (.bX ?_ ?_)))))))
 ·refine .s (A.ifc 36 (iA 530)) (.pk (.cr (.gZ (.s cg (.bg (fun t (y:Int×Int) =>  t=(tp [(ag [(iA y.1),XU,XU,XU]),(iA y.2)])) ?_ ?_)))))
  ·exact .cl ((aw og).trans (EW ..)) (.sq (pt 3 0) (.s ((pt 4 0),[bx (aa a),bx [(iA 0),XU,XU,XU],bx [(iA 0)],bx [(iA 0),XU,XU,XU],bx [(iA 0),XU,XU,XU]]) (.cl ((aw dT).trans (nT ..)) (.s (bA false) (.kS (.s (tp [(iA 530),(bA true)]) (.s (bA true) (.s (iA 530) (.hU (.cr (.ok (.s (bA true) (.hU (.s cg (.s [bx (aa a),bx [(iA 0),XU,XU,XU],bx [(iA 0)],bx [(iA 0),XU,XU,XU],bx [(iA 0),XU,XU,XU]] (.s cg (.cr (.lp (by kernel_rfl:_=some (tp [cg,(iA 530)])) (.lg rfl)))))))))))))))))))
  rintro _ f rfl
  exact .s (ag [(iA f.1),XU,XU,XU]) (.s (iA f.2) (.sh (.s [bx (aa a),bx [(iA f.1),XU,XU,XU],bx [(iA f.2)]] (.s (ag [(iA f.1),XU,XU,XU]) (.s (iA f.2) (.lv r9))))))
 refine .cr (.ok (.s2 (im (a.Leases.map ae) false) (.st (dr (e:=50)) (.s (ag [(iA ((a.Leases.length:Int))),(iA b),(iA a2)]) (.sq (pt 3 0) (.s [bx (aa a),bx [(iA 0),XU,XU,XU],bx [(iA 0)],bx [(iA ((a.Leases.length:Int))),(iA b),(iA a2)]] (.s2 (im (a.Leases.map ae) false) (.s2 (im (a.Leases.map ae) false) (.st (dr (e:=50)) (.st (du ..) (.bd (fa (e:=50) (es:=3)) fun r=>.s2 (iA r.Holder) (.s2 (iA a.Self) (.st (aV ..) (.Lw (.bg (fun t (y:Bool)=>∃ k:A,t=[(bA y),k]) ?_ ?_)))))))))))))))
 ·refine .AV (fun j=>?_) (fun j=>?_)
  ·exact .bb (.s (ag (aa a)) (.s (ag [(iA ((a.Leases.length:Int))),(iA b),(iA a2)]) (.cr (.uc (.uc (.ra j (.bd (g:=fun (y:Bool)=>(bA y)) (by simp only[bJ,dg]; exact o a ((al.mk ((a.Leases.length:Int)) b a2))) fun w=>.lg ⟨_,rfl⟩)))))))
  exact .bb (.cr (.uc (.uc (.q9 j (.lg ⟨_,rfl⟩)))))
 rintro _ u ⟨k,rfl⟩
 refine .uc (.uc (.cl ((aw gq).trans (tn ..)) (.s (bA (!u)) (.bX ?_ ?_))))
 ·refine .s (A.ifc 36 (iA 530)) (.pk (.cr (.gZ (.s cg (.bg (fun t (y:Int×Int) =>  t=(tp [(ag [(iA y.1),XU,XU,XU]),(iA y.2)])) ?_ ?_)))))
  ·exact .cl ((aw og).trans (EW ..)) (.sq (pt 4 0) (.s ((pt 5 0),[bx (aa a),bx [(iA 0),XU,XU,XU],bx [(iA 0)],bx [(iA ((a.Leases.length:Int))),(iA b),(iA a2)],bx [(iA 0),XU,XU,XU],bx [(iA 0),XU,XU,XU]]) (.cl ((aw dT).trans (nT ..)) (.s (bA false) (.kS (.s (tp [(iA 530),(bA true)]) (.s (bA true) (.s (iA 530) (.hU (.cr (.ok (.s (bA true) (.hU (.s cg (.s [bx (aa a),bx [(iA 0),XU,XU,XU],bx [(iA 0)],bx [(iA ((a.Leases.length:Int))),(iA b),(iA a2)],bx [(iA 0),XU,XU,XU],bx [(iA 0),XU,XU,XU]] (.s cg (.cr (.lp (by kernel_rfl:_=some (tp [cg,(iA 530)])) (.lg rfl)))))))))))))))))))
  rintro _ h rfl
  exact .s (ag [(iA h.1),XU,XU,XU]) (.s (iA h.2) (.sh (.s [bx (aa a),bx [(iA h.1),XU,XU,XU],bx [(iA h.2)],bx [(iA ((a.Leases.length:Int))),(iA b),(iA a2)]] (.s (ag [(iA h.1),XU,XU,XU]) (.s (iA h.2) (.lv r9))))))
 refine .cr (.ok (.s2 (im (a.Leases.map ae) false) (.st (dr (e:=50)) (.st (aW ..) (.cl ((aw gq).trans (tn ..)) (.s (bA (!(decide (((a.Leases.length:Int))<256)))) (.bX ?_ ?_)))))))
 ·refine .s (A.ifc 36 (iA 2)) (.pk (.cr (.gZ (.s cg (.bg (fun t (y:Int×Int) =>  t=(tp [(ag [(iA y.1),XU,XU,XU]),(iA y.2)])) ?_ ?_)))))
  ·exact .cl ((aw og).trans (EW ..)) (.sq (pt 4 0) (.s ((pt 5 0),[bx (aa a),bx [(iA 0),XU,XU,XU],bx [(iA 0)],bx [(iA ((a.Leases.length:Int))),(iA b),(iA a2)],bx [(iA 0),XU,XU,XU],bx [(iA 0),XU,XU,XU]]) (.cl ((aw dT).trans (nT ..)) (.s (bA false) (.kS (.s (tp [(iA 2),(bA true)]) (.s (bA true) (.s (iA 2) (.hU (.cr (.ok (.s (bA true) (.hU (.s cg (.s [bx (aa a),bx [(iA 0),XU,XU,XU],bx [(iA 0)],bx [(iA ((a.Leases.length:Int))),(iA b),(iA a2)],bx [(iA 0),XU,XU,XU],bx [(iA 0),XU,XU,XU]] (.s cg (.cr (.lp (by kernel_rfl:_=some (tp [cg,(iA 2)])) (.lg rfl)))))))))))))))))))
  rintro _ i rfl
  exact .s (ag [(iA i.1),XU,XU,XU]) (.s (iA i.2) (.sh (.s [bx (aa a),bx [(iA i.1),XU,XU,XU],bx [(iA i.2)],bx [(iA ((a.Leases.length:Int))),(iA b),(iA a2)]] (.s (ag [(iA i.1),XU,XU,XU]) (.s (iA i.2) (.lv r9))))))
 refine .cr (.ok (.s (ag (aa a)) (.s (ag [(iA ((a.Leases.length:Int))),(iA b),(iA a2)]) (.s (ag [(bA true),(iA ((a.Leases.length:Int))),(iA b),(iA a2),(iA 0),(iA 0)]) (.bd (g:=fun (y:af)=>(ag (aa y))) (by simp only[bJ,dg]; exact p a ((ar.mk true ((al.mk ((a.Leases.length:Int)) b a2)) ((av.mk 0 0))))) fun d=>.sh (.s [bx (aa a),bx (aa d),bx [(iA 0)],bx [(iA ((a.Leases.length:Int))),(iA b),(iA a2)]] (.s (ag (aa d)) (.bg (fun t (y:Int×(List al)×(List av)×(List Bool)×Int) =>  t=(tp [(ag [(iA y.1),(im (y.2.1.map ae) false),(im (y.2.2.1.map ah) false),(im (y.2.2.2.1.map cB) false)]),(iA y.2.2.2.2)])) ?_ ?_))))))))
 ·exact .cl ((aw og).trans (EW ..)) (.sq (pt 4 0) (.sq (pt 5 0) (.cl ((aw dT).trans (nT ..)) (.s (bA true) (.hU (.cr (.ok (.s (bA false) (.kS (.s (ag (aa d)) (.s [bx (aa a),bx (aa d),bx [(iA 0)],bx [(iA ((a.Leases.length:Int))),(iA b),(iA a2)],bx (aa d),bx (aa d)] (.s (ag (aa d)) (.cr (.lp (Ir (v:=(tp [(ag (aa d)),(iA 0)])) u2) (.lg rfl)))))))))))))))
 rintro _ c rfl
 exact .s (ag [(iA c.1),(im (c.2.1.map ae) false),(im (c.2.2.1.map ah) false),(im (c.2.2.2.1.map cB) false)]) (.s (iA c.2.2.2.2) (.sh (.s [bx (aa a),bx [(iA c.1),(im (c.2.1.map ae) false),(im (c.2.2.1.map ah) false),(im (c.2.2.2.1.map cB) false)],bx [(iA c.2.2.2.2)],bx [(iA ((a.Leases.length:Int))),(iA b),(iA a2)]] (.s (ag [(iA c.1),(im (c.2.1.map ae) false),(im (c.2.2.1.map ah) false),(im (c.2.2.2.1.map cB) false)]) (.s (iA c.2.2.2.2) (.lv r9))))))
def Lg (a:af) (b:Int) (a2:Int):Option (af×Int):=Ox aA a b a2
def DV (C:OT):Prop:=∀ (a:af) (b:Int) (a2:Int),C 12 [(ag (aa a)),(iA b),(iA a2)]=(Lg a b a2).map fun y=>(tp [(ag (aa y.1)),(iA y.2)])
def Oy (n:Nat) (c:af) (d:Int) (a2:Int):Option (af×Int):=
 (DE c).bind fun f=>(bif (f==0) then ((J0 c ((av.mk d a2))).bind fun g=>some g) else (some false)).bind fun h=>bif (!h) then ((some ((0,530))).bind fun e=>some (((af.mk e.1 ([]) ([]) ([])),e.2))) else ((CL c ((ar.mk false ((al.mk 0 0 0)) ((av.mk d a2))))).bind fun b=>(some ((b.Self,b.Leases,b.Calls,b.Order,0))).bind fun a=>some (((af.mk a.1 a.2.1 a.2.2.1 a.2.2.2.1),a.2.2.2.2)))
theorem U8 (C:OT) (n:Nat) (j:p7 C) (k:rI C) (l:Bx C) (a:af) (c:Int) (a2:Int):TJ C n 13 [(ag (aa a)),(iA c),(iA a2)] (Oy n a c a2) (fun y=>(tp [(ag (aa y.1)),(iA y.2)])):=by
 refine .lp (V3 ..) ?_
 unfold Oy
 refine .s ((pt 0 0),[bx (aa a)]) (.sq (pt 1 0) (.sq (pt 2 0) (.s (ag [(iA c),(iA a2)]) (.sq (pt 3 0) (.s [bx (aa a),bx [(iA 0),XU,XU,XU],bx [(iA 0)],bx [(iA c),(iA a2)]] (.s (ag (aa a)) (.bd (g:=fun (y:Int)=>(iA y)) (by simp only[bJ,dg]; exact j a) fun p=>.st (aV ..) (.bg (fun t (y:Bool)=>∃ f h i:A,t=[(bA y),f,h,i]) ?_ ?_))))))))
 ·refine .bi ?_ ?_
  ·exact .s (ag (aa a)) (.s (ag [(iA c),(iA a2)]) (.bd (g:=fun (y:Bool)=>(bA y)) (by simp only[bJ,dg]; exact l a ((av.mk c a2))) fun q=>.lg ⟨_,_,_,rfl⟩))
  exact .lg ⟨_,_,_,rfl⟩
 rintro _ o ⟨f,h,i,rfl⟩
 refine .u4 (.cl ((aw gq).trans (tn ..)) (.s (bA (!o)) (.bX ?_ ?_)))
 ·refine .s (A.ifc 36 (iA 530)) (.pk (.cr (.gZ (.s (ag [(iA 0),XU,XU,XU]) (.bg (fun t (y:Int×Int) =>  t=(tp [(ag [(iA y.1),XU,XU,XU]),(iA y.2)])) ?_ ?_)))))
  ·exact .cl ((aw og).trans (EW ..)) (.sq (pt 4 0) (.sq (pt 5 0) (.cl ((aw dT).trans (nT ..)) (.s (bA false) (.kS (.s (tp [(iA 530),(bA true)]) (.s (bA true) (.s (iA 530) (.hU (.cr (.ok (.s (bA true) (.hU (.s (ag [(iA 0),XU,XU,XU]) (.s [bx (aa a),bx [(iA 0),XU,XU,XU],bx [(iA 0)],bx [(iA c),(iA a2)],bx [(iA 0),XU,XU,XU],bx [(iA 0),XU,XU,XU]] (.s (ag [(iA 0),XU,XU,XU]) (.cr (.lp (by kernel_rfl:_=some (tp [(ag [(iA 0),XU,XU,XU]),(iA 530)])) (.lg rfl)))))))))))))))))))
  rintro _ e rfl
  exact .s (ag [(iA e.1),XU,XU,XU]) (.s (iA e.2) (.sh (.s [bx (aa a),bx [(iA e.1),XU,XU,XU],bx [(iA e.2)],bx [(iA c),(iA a2)]] (.s (ag [(iA e.1),XU,XU,XU]) (.s (iA e.2) (.lv r9))))))
 refine .cr (.ok (.s (ag (aa a)) (.s (ag [(iA c),(iA a2)]) (.s (ag [(bA false),(iA 0),(iA 0),(iA 0),(iA c),(iA a2)]) (.bd (g:=fun (y:af)=>(ag (aa y))) (by simp only[bJ,dg]; exact k a ((ar.mk false ((al.mk 0 0 0)) ((av.mk c a2))))) fun d=>.sh (.s [bx (aa a),bx (aa d),bx [(iA 0)],bx [(iA c),(iA a2)]] (.s (ag (aa d)) (.bg (fun t (y:Int×(List al)×(List av)×(List Bool)×Int) =>  t=(tp [(ag [(iA y.1),(im (y.2.1.map ae) false),(im (y.2.2.1.map ah) false),(im (y.2.2.2.1.map cB) false)]),(iA y.2.2.2.2)])) ?_ ?_))))))))
 ·exact .cl ((aw og).trans (EW ..)) (.sq (pt 4 0) (.sq (pt 5 0) (.cl ((aw dT).trans (nT ..)) (.s (bA true) (.hU (.cr (.ok (.s (bA false) (.kS (.s (ag (aa d)) (.s [bx (aa a),bx (aa d),bx [(iA 0)],bx [(iA c),(iA a2)],bx (aa d),bx (aa d)] (.s (ag (aa d)) (.cr (.lp (Ir (v:=(tp [(ag (aa d)),(iA 0)])) u2) (.lg rfl)))))))))))))))
 rintro _ b rfl
 exact .s (ag [(iA b.1),(im (b.2.1.map ae) false),(im (b.2.2.1.map ah) false),(im (b.2.2.2.1.map cB) false)]) (.s (iA b.2.2.2.2) (.sh (.s [bx (aa a),bx [(iA b.1),(im (b.2.1.map ae) false),(im (b.2.2.1.map ah) false),(im (b.2.2.2.1.map cB) false)],bx [(iA b.2.2.2.2)],bx [(iA c),(iA a2)]] (.s (ag [(iA b.1),(im (b.2.1.map ae) false),(im (b.2.2.1.map ah) false),(im (b.2.2.2.1.map cB) false)]) (.s (iA b.2.2.2.2) (.lv r9))))))
def JV (a:af) (b:Int) (a2:Int):Option (af×Int):=Oy aA a b a2
def DW (C:OT):Prop:=∀ (a:af) (b:Int) (a2:Int),C 13 [(ag (aa a)),(iA b),(iA a2)]=(JV a b a2).map fun y=>(tp [(ag (aa y.1)),(iA y.2)])
def Pk (n:Nat) (a:Int):Option Int:=
 some (sw .i64 (wr .i64 (oz .u64 a 1)) (wr .i64 (0 - (wr .i64 (qg .u64 a 1)))))
theorem VV (C:OT) (n:Nat) (a:Int):TJ C n 94 [(A.v (.int .u64 a))] (Pk n a) (fun y=>(iA y)):=by
 refine .lp (W5 ..) ?_
 unfold Pk
 exact .st (lZ (hb:=by decide) ..) (.st (v:=(iA (wr .i64 (oz .u64 a 1)))) (aU (hs:=by kernel_rfl) (hd:=by kernel_rfl) ..) (.st (pj ..) (.st (v:=(iA (wr .i64 (qg .u64 a 1)))) (aU (hs:=by kernel_rfl) (hd:=by kernel_rfl) ..) (.s (iA (wr .i64 (0 - (wr .i64 (qg .u64 a 1))))) (.st (pn ..) (.lv rfl))))))
def LX (a:Int):Option Int:=Pk aA a
def BB (C:OT):Prop:=∀ (a:Int),C 94 [(A.v (.int .u64 a))]=(LX a).map fun y=>(iA y)
def aL:az:=bx [(iA 0),(iA 0),se,XU]
def jj (a:UInt8):az:=bx [(iA (wr .i64 ((a.toNat:Int)))),(iA 0),se,XU]
def J5 (C:OT) (N:Nat) (self:(List UInt8)->Int->Option (Bool×ak×(List UInt8))):Prop:=∀ (a2:(List UInt8)) (a:Int) (X:aB),J (fun (o:R) (y:(Bool×ak×(List UInt8)))=>o=((bif y.1 then Out.ret (ag [(iA y.2.1.Kind),(iA y.2.1.N),(sA y.2.1.S),(im (y.2.1.L.map ax) false)]) else Out.pan (A.ifc 36 (iA 10))),[aL,bx [(iA 0)],bx [(im (y.2.2.map c8) false)]]++X)) (dS (cx C) N 84 [(pt 2 0),(iA a)] ([aL,bx [(iA 0)],bx [(im (a2.map c8) false)]]++X) 0) some (self a2 a) some
def fy (n:Nat):Nat->Int->Int->(List UInt8)->Option (((List UInt8))⊕(Int×(List UInt8)))
 | 0,_,_,_=>none
 | m+1,e,a,b=>bif (!(decide (1<=((b.length:Int))))) then (some ((Sum.inl b))) else ((eJ b 0 1).bind fun f=>(eJ b 1 ((b.length:Int))).bind fun d=>(bt f 0).bind fun c=>(bif (a==0) then (some true) else (some (((c.toNat:Int)) != 0))).bind fun g=>(bif g then ((bif (decide (a<9)) then (some true) else (some (decide (((c.toNat:Int))<=1)))).bind fun h=>some h) else (some false)).bind fun i=>bif (!i) then (some ((Sum.inl d))) else (bif decide (0<=(wr .i64 (7*a))) then (bif (decide (((c.toNat:Int))<128)) then (some ((Sum.inr ((nG .u64 e (p5 .u64 (wr .u64 (qg .u8 ((c.toNat:Int)) 127)) (wr .i64 (7*a))),d))))) else (fy n m (nG .u64 e (p5 .u64 (wr .u64 (qg .u8 ((c.toNat:Int)) 127)) (wr .i64 (7*a)))) (wr .i64 (a+1)) d)) else none))
theorem pB {w767:az} {K:(((List UInt8))⊕(Int×(List UInt8)))->Option γ} (k:∀ (d:(List UInt8)) (g:A) (s2:A) (h:A),J φ (kp (A.ifc 36 (iA 10)) (St.mk [(0,g),(2,s2),(3,h)] [aL,bx [(iA 0)],bx [(im (d.map c8) false)],w767])) kL (K (Sum.inl d)) some) (x1:∀ (d:Int) (o:(List UInt8)) (g:A) (h:A),J φ (kr (St.mk [(0,g),(2,(A.v (.int .u64 d))),(3,h)] [aL,bx [(iA 0)],bx [(im (o.map c8) false)],w767])) kL (K (Sum.inr ((d,o)))) some) :
  ∀ (m:Nat) (i:Int) (j:Int) (c:(List UInt8)),J φ (aH (cx C) (dS (cx C) (n+6)) (bq (cx C) (n+6)) (n+6) 95 0 0 4 kx kg kr kp m (St.mk [(0,(pt 2 0)),(2,(A.v (.int .u64 i))),(3,(iA j))] [aL,bx [(iA 0)],bx [(im (c.map c8) false)],w767])) kL (fy n  m i j c) K:=by
  refine nI (fun _ _ _=>.nn) fun m ih i j c=>.lp (MU ..) ?_
  unfold fy
  refine .cl ((aw Fy).trans (Q7 ..)) (.s (pt 2 0) (.s2 (im (c.map c8) false) (.st (dr (e:=5)) (.st (eP ..) (.cl ((aw qF).trans (GN ..)) (.s (bA (!(decide (1<=((c.length:Int)))))) (.bX ?_ ?_)))))))
  ·exact .s (A.ifc 36 (iA 10)) (.pk (.cr (.gZ (.cr (.gZ (.ex (k _ _ _ _)))))))
  refine .cr (.ok (.s (pt 2 0) (.s2 (im (c.map c8) false) (.bd (iC (e:=5) (es:=1) (f:=c8) (l:=c) (a:=0) (b:=1) j9 j9 (fun _=>rfl) (.inl ⟨rfl,rfl⟩)) fun a7=>.s (pt 2 0) (.s2 (im (c.map c8) false) (.bd (fQ (e:=5) (es:=1) (f:=c8) (l:=c) (a:=1) (b:=(c.length:Int)) j9 j9 (fun _=>rfl) (.inr ⟨_,rfl⟩) (.inl ⟨rfl,rfl⟩)) fun p=>.s (pt 2 0) (.s (pt 2 0) (.s [aL,bx [(iA 0)],bx [(im (p.map c8) false)],w767] (.cr (.ok (.bd (fa (e:=5) (es:=1)) fun q=>.s (uA ((q.toNat:Int))) (.st (aV ..) (.bg (fun t (y:Bool)=>∃ r u:A,t=[(bA y),r,u]) ?_ ?_)))))))))))))
  ·refine .bi ?_ ?_
   ·exact .lg ⟨_,_,rfl⟩
   exact .st (bf ..) (.lg ⟨_,_,rfl⟩)
  rintro _ a8 ⟨r,u,rfl⟩
  refine .uc (.uc (.uc (.bg (fun t (y:Bool)=>∃ w x z a0 a1 a2:A,t=[(bA y),w,x,z,a0,a1,a2]) ?_ ?_)))
  ·refine .bi ?_ ?_
   ·refine .st (aW ..) (.bg (fun t (y:Bool)=>∃ a3 a4:A,t=[(bA y),a3,a4]) ?_ ?_)
    ·refine .bi ?_ ?_
     ·exact .lg ⟨_,_,rfl⟩
     exact .st (eP ..) (.lg ⟨_,_,rfl⟩)
    rintro _ a9 ⟨a3,a4,rfl⟩
    exact .uc (.uc (.uc (.lg ⟨_,_,_,_,_,_,rfl⟩)))
   exact .lg ⟨_,_,_,_,_,_,rfl⟩
  rintro _ a6 ⟨w,x,z,a0,a1,a2,rfl⟩
  refine .u4 (.uc (.uc (.uc (.cl ((aw qF).trans (GN ..)) (.s (bA (!a6)) (.bX ?_ ?_))))))
  ·exact .s (A.ifc 36 (iA 10)) (.pk (.cr (.gZ (.ex (k _ _ _ _)))))
  refine .cr (.ok (.st (pj ..) (.st (v:=(A.v (.int .u64 (wr .u64 (qg .u8 ((q.toNat:Int)) 127))))) (aU (hs:=by kernel_rfl) (hd:=by kernel_rfl) ..) (.st (qc ..) (.gd fun hg=>.st (sU (hb:=X7 hg) ..) (.st (ix ..) (.st (aW ..) (.bX ?_ ?_))))))))
  ·exact .ex (x1 _ _ _ _)
  refine .st (aM ..) (.s [aL,bx [(iA 0)],bx [(im (p.map c8) false)],w767] (.cT j9 ?_))
  exact ih _ _ _
def g8 (self:(List UInt8)->Int->Option (Bool×ak×(List UInt8))) (n:Nat) (b:Int) (c:Int) (g:Int) (h:Int) (i:ByteArray):Nat->Int->(List UInt8)->(List ak)->Option (((List UInt8))⊕((List UInt8)×(List ak)))
 | 0,_,_,_=>none
 | m+1,d,e,f=>bif (decide (d<c)) then ((self e (wr .i64 (b+1))).bind fun a=>bif a.1 then ((cU 56 f ([a.2.1])).bind fun j=>g8 self n b c g h i m (wr .i64 (d+1)) a.2.2 j) else (some ((Sum.inl a.2.2)))) else (some ((Sum.inr ((e,f)))))
theorem CN (self:(List UInt8)->Int->Option (Bool×ak×(List UInt8))) (hS:J5 C (n+8) self) (k:Int) (w:Int) (d:Int) (e:Int) (h:ByteArray) {K:(((List UInt8))⊕((List UInt8)×(List ak)))->Option γ} (z:∀ (i:(List UInt8)) (o:A) (p:A) (s4:A) (q:A) (r:A) (q3:az) (q4:az),J φ (kp (A.ifc 36 (iA 10)) (St.mk [(0,o),(1,p),(4,s4),(36,q),(37,r)] [aL,bx [(iA 0)],bx [(im (i.map c8) false)],q3,q4])) kL (K (Sum.inl i)) some) (x1:∀ (i:(List UInt8)) (u:(List ak)) (o:A) (p:A) (q:A) (r:A),J φ (kx 1 (St.mk [(0,o),(1,p),(4,(pt 3 0)),(36,q),(37,r)] [aL,bx [(iA 0)],bx [(im (i.map c8) false)],bx [(iA d),(iA e),(sA h),(bo 4 0 u.length false)],az.row false 4 (u.map ax)])) kL (K (Sum.inr ((i,u)))) some) :
  ∀ (m:Nat) (v:Int) (j:(List UInt8)) (a:(List ak)),J φ (aH (cx C) (ec C n 8) (ey C n 8) (n+8) 84 0 0 5 kx kg kr kp m (St.mk [(0,(pt 2 0)),(1,(iA k)),(4,(pt 3 0)),(36,(iA w)),(37,(iA v))] [aL,bx [(iA 0)],bx [(im (j.map c8) false)],bx [(iA d),(iA e),(sA h),(bo 4 0 a.length false)],az.row false 4 (a.map ax)])) kL (g8 self n k w d e h m v j a) K:=by
  refine nI (fun _ _ _=>.nn) fun m ih v j a=>.lp (MR ..) ?_
  unfold g8
  refine .st (aW ..) (.bX ?_ ?_)
  ·refine .s (pt 3 3) (.s (bo 4 0 a.length false) (.st (aM ..) (.cT j9 (.bg (fun (t:Out×aB) (y:(Bool×ak×(List UInt8)))=>t=((bif y.1 then Out.ret (ag [(iA y.2.1.Kind),(iA y.2.1.N),(sA y.2.1.S),(im (y.2.1.L.map ax) false)]) else Out.pan (A.ifc 36 (iA 10))),[aL,bx [(iA 0)],bx [(im (y.2.2.map c8) false)],bx [(iA d),(iA e),(sA h),(bo 4 0 a.length false)],az.row false 4 (a.map ax)])) (hS j (wr .i64 (k+1)) [bx [(iA d),(iA e),(sA h),(bo 4 0 a.length false)],az.row false 4 (a.map ax)]) ?_))))
   rintro _ c rfl
   refine .ob ?_ ?_
   ·refine .ok (.s (im [[(iA c.2.1.Kind),(iA c.2.1.N),(sA c.2.1.S),(im (c.2.1.L.map ax) false)]] true) (.bd (g:=fun (y:List ak)=>((bo 4 0 y.length false),[aL,bx [(iA 0)],bx [(im (c.2.2.map c8) false)],bx [(iA d),(iA e),(sA h),(bo 4 0 a.length false)],az.row false 4 (y.map ax)])) (cp oM (l:=a) (l2:=[c.2.1]) (b:=4) rfl (by decide) (sD (f:=ax) (l:=([c.2.1]:List ak)) XO)) fun x=>.s (pt 3 3) (.sh (.st (aM ..) (.s [aL,bx [(iA 0)],bx [(im (c.2.2.map c8) false)],bx [(iA d),(iA e),(sA h),(bo 4 0 x.length false)],az.row false 4 (x.map ax)] (.cT j9 ?_))))))
    exact ih _ _ _
   exact .gZ (.ex (z _ _ _ _ _ _ _ _))
  exact .ex (x1 _ _ _ _ _ _)
def xP (self:(List UInt8)->Int->Option (Bool×ak×(List UInt8))) (n:Nat) (a2:(List UInt8)) (f:Int):Option (Bool×ak×(List UInt8)):=
 bif (!(decide (1<=((a2.length:Int))))) then (some ((false,(default:ak),a2))) else ((eJ a2 0 1).bind fun h=>(eJ a2 1 ((a2.length:Int))).bind fun c=>(bt h 0).bind fun a=>bif ((wr .i64 ((a.toNat:Int)))==1) then ((fy (n+1)  (n+7) 0 0 c).bind fun i=>match i with | (Sum.inl j)=>some ((false,(default:ak),j)) | (Sum.inr ((k,l)))=>(LX k).bind fun o=>some ((true,(ak.mk (wr .i64 ((a.toNat:Int))) o rb ([])),l))) else (bif ((wr .i64 ((a.toNat:Int)))==2) then ((fy n  (n+6) 0 0 c).bind fun p=>match p with | (Sum.inl q)=>some ((false,(default:ak),q)) | (Sum.inr ((d,b)))=>bif (!(decide (d<=(wr .u64 ((b.length:Int)))))) then (some ((false,(default:ak),b))) else (bif (!(decide ((wr .i64 (d))<=((b.length:Int))))) then (some ((false,(default:ak),b))) else ((eJ b 0 (wr .i64 (d))).bind fun r=>(eJ b (wr .i64 (d)) ((b.length:Int))).bind fun s=>some ((true,(ak.mk (wr .i64 ((a.toNat:Int))) 0 (ij r) ([])),s))))) else (bif ((wr .i64 ((a.toNat:Int)))==3) then (bif (!(decide (f<16))) then (some ((false,(default:ak),c))) else ((fy n  (n+6) 0 0 c).bind fun t=>match t with | (Sum.inl u)=>some ((false,(default:ak),u)) | (Sum.inr ((g,e)))=>bif (!(decide (g<=(wr .u64 ((e.length:Int)))))) then (some ((false,(default:ak),e))) else ((g8 self n f (wr .i64 (g)) (wr .i64 ((a.toNat:Int))) 0 rb (n+8) 0 e (([]:List ak))).bind fun v=>match v with | (Sum.inl w)=>some ((false,(default:ak),w)) | (Sum.inr ((x,y)))=>some ((true,(ak.mk (wr .i64 ((a.toNat:Int))) 0 rb y),x))))) else (some ((false,(default:ak),c))))))
theorem QP (C:OT) (n:Nat) (a0:BB C) (self:(List UInt8)->Int->Option (Bool×ak×(List UInt8))) (hS:J5 C (n+8) self) (a2:(List UInt8)) (q:Int):J (fun (o:R) (y:(Bool×ak×(List UInt8)))=>∃ Z,o=((bif y.1 then Out.ret (ag [(iA y.2.1.Kind),(iA y.2.1.N),(sA y.2.1.S),(im (y.2.1.L.map ax) false)]) else Out.pan (A.ifc 36 (iA 10))),[aL,bx [(iA 0)],bx [(im (y.2.2.map c8) false)]]++Z)) (aE (cx C) (ec C n 8) (ey C n 8) (n+8) 84 [(pt 2 0),(iA q)] [aL,bx [(iA 0)],bx [(im (a2.map c8) false)]] 0) some (xP self n a2 q) some:=by
 refine .lp (WU ..) ?_
 unfold xP
 refine .s ((pt 3 0),[aL,bx [(iA 0)],bx [(im (a2.map c8) false)],aL]) (.cl ((aw Fy).trans (Q7 ..)) (.s (pt 2 0) (.s2 (im (a2.map c8) false) (.st (dr (e:=5)) (.st (eP ..) (.cl ((aw qF).trans (GN ..)) (.s (bA (!(decide (1<=((a2.length:Int)))))) (.bX ?_ ?_))))))))
 ·exact .s (A.ifc 36 (iA 10)) (.pk (.cr (.gZ (.cr (.gZ (.lf rfl rfl ⟨[aL],rfl⟩))))))
 refine .cr (.ok (.s (pt 2 0) (.s2 (im (a2.map c8) false) (.bd (iC (e:=5) (es:=1) (f:=c8) (l:=a2) (a:=0) (b:=1) j9 j9 (fun _=>rfl) (.inl ⟨rfl,rfl⟩)) fun y5=>.s (pt 2 0) (.s2 (im (a2.map c8) false) (.bd (fQ (e:=5) (es:=1) (f:=c8) (l:=a2) (a:=1) (b:=(a2.length:Int)) j9 j9 (fun _=>rfl) (.inr ⟨_,rfl⟩) (.inl ⟨rfl,rfl⟩)) fun i=>.s (pt 2 0) (.s (pt 2 0) (.s [aL,bx [(iA 0)],bx [(im (i.map c8) false)],aL] (.cr (.ok (.bd (fa (e:=5) (es:=1)) fun c=>.s (uA ((c.toNat:Int))) (.st (v:=(iA (wr .i64 ((c.toNat:Int))))) (aU (hs:=by kernel_rfl) (hd:=by kernel_rfl) ..) (.s (pt 3 0) (.s [aL,bx [(iA 0)],bx [(im (i.map c8) false)],(jj c)] (.s2 (iA (wr .i64 ((c.toNat:Int)))) (.st (aV ..) (.bX ?_ ?_)))))))))))))))))
 ·refine .cl ((aw Fz).trans (Q8 ..)) (.as (pB C (n+1) _ _ _ _  ?_ ?_ _ 0 0 i))
  ·intro a5 a6 a7 a8
   exact .un rfl (.cr (.gZ (.lf rfl rfl ⟨[(jj c)],rfl⟩)))
  ·intro a1 x a9 aa
   exact .un rfl (.cr (.ok (.bd (a0 a1) fun j=>.s (pt 3 1) (.sh (.s (ag [(iA (wr .i64 ((c.toNat:Int)))),(iA j),se,XU]) (.s [aL,bx [(iA 0)],bx [(im (x.map c8) false)],bx [(iA (wr .i64 ((c.toNat:Int)))),(iA j),se,XU]] (.s (ag [(iA (wr .i64 ((c.toNat:Int)))),(iA j),se,(im [] false)]) (.lf rfl rfl (gN (o:=Out.ret (ag [(iA (wr .i64 ((c.toNat:Int)))),(iA j),se,(im [] false)])) (lo:=0) (off:=3) (b:=3) (p:=0) (H2:=[aL,bx [(iA 0)],bx [(im (x.map c8) false)]]) (X:=[bx [(iA (wr .i64 ((c.toNat:Int)))),(iA j),se,XU]]) (Yu rfl))))))))))
 refine .st (aV ..) (.bX ?_ ?_)
 ·refine .cl ((aw JI).trans (Tf ..)) (.cl ((aw Fz).trans (Q8 ..)) (.as (pB C n _ _ _ _  ?_ ?_ _ 0 0 i)))
  ·intro ab ad ae af
   exact .un rfl (.cr (.gZ (.cr (.gZ (.lf rfl rfl ⟨[(jj c)],rfl⟩)))))
  ·intro k d ah ai
   refine .un rfl (.cr (.ok (.s (pt 2 0) (.s2 (im (d.map c8) false) (.st (dr (e:=5)) (.st (v:=(A.v (.int .u64 (wr .u64 ((d.length:Int)))))) (aU (hs:=by kernel_rfl) (hd:=by kernel_rfl) ..) (.st (eP ..) (.cl ((aw qF).trans (GN ..)) (.s (bA (!(decide (k<=(wr .u64 ((d.length:Int))))))) (.bX ?_ ?_))))))))))
   ·exact .s (A.ifc 36 (iA 10)) (.pk (.cr (.gZ (.cr (.gZ (.lf rfl rfl ⟨[(jj c)],rfl⟩))))))
   refine .cr (.ok (.st (v:=(iA (wr .i64 (k)))) (aU (hs:=by kernel_rfl) (hd:=by kernel_rfl) ..) (.cr (.ok (.cl ((aw Fy).trans (Q7 ..)) (.s (pt 2 0) (.s2 (im (d.map c8) false) (.st (dr (e:=5)) (.st (eP ..) (.cl ((aw qF).trans (GN ..)) (.s (bA (!(decide ((wr .i64 (k))<=((d.length:Int)))))) (.bX ?_ ?_))))))))))))
   ·exact .s (A.ifc 36 (iA 10)) (.pk (.cr (.gZ (.cr (.gZ (.lf rfl rfl ⟨[(jj c)],rfl⟩))))))
   exact .cr (.ok (.s (pt 2 0) (.s2 (im (d.map c8) false) (.bd (iC (e:=5) (es:=1) (f:=c8) (l:=d) (a:=0) (b:=wr .i64 (k)) j9 j9 (fun _=>rfl) (.inl ⟨rfl,rfl⟩)) fun h=>.s (pt 2 0) (.s2 (im (d.map c8) false) (.bd (fQ (e:=5) (es:=1) (f:=c8) (l:=d) (a:=wr .i64 (k)) (b:=(d.length:Int)) j9 j9 (fun _=>rfl) (.inr ⟨_,rfl⟩) (.inl ⟨rfl,rfl⟩)) fun t=>.s (pt 2 0) (.s (pt 2 0) (.s [aL,bx [(iA 0)],bx [(im (t.map c8) false)],(jj c)] (.cr (.ok (.st (v:=(A.v (Value.string (ij h)))) (sB (e:=5) (l:=h) j9 j9 j9 j9 (bk ..) rfl) (.s (pt 3 2) (.sh (.s (ag [(iA (wr .i64 ((c.toNat:Int)))),(iA 0),(A.v (Value.string (ij h))),XU]) (.s [aL,bx [(iA 0)],bx [(im (t.map c8) false)],bx [(iA (wr .i64 ((c.toNat:Int)))),(iA 0),(A.v (Value.string (ij h))),XU]] (.s (ag [(iA (wr .i64 ((c.toNat:Int)))),(iA 0),(A.v (Value.string (ij h))),(im [] false)]) (.lf rfl rfl (gN (o:=Out.ret (ag [(iA (wr .i64 ((c.toNat:Int)))),(iA 0),(A.v (Value.string (ij h))),(im [] false)])) (lo:=0) (off:=3) (b:=3) (p:=0) (H2:=[aL,bx [(iA 0)],bx [(im (t.map c8) false)]]) (X:=[bx [(iA (wr .i64 ((c.toNat:Int)))),(iA 0),(A.v (Value.string (ij h))),XU]]) (Yu rfl)))))))))))))))))))
 refine .st (aV ..) (.bX ?_ ?_)
 ·refine .st (aW ..) (.cl ((aw qF).trans (GN ..)) (.s (bA (!(decide (q<16)))) (.bX ?_ ?_)))
  ·exact .s (A.ifc 36 (iA 10)) (.pk (.cr (.gZ (.lf rfl rfl ⟨[(jj c)],rfl⟩))))
  refine .cr (.ok (.cl ((aw JI).trans (Tf ..)) (.cl ((aw Fz).trans (Q8 ..)) (.as (pB C n _ _ _ _  ?_ ?_ _ 0 0 i)))))
  ·intro aj al am an
   exact .un rfl (.cr (.gZ (.cr (.gZ (.lf rfl rfl ⟨[(jj c)],rfl⟩)))))
  ·intro u r ao ap
   refine .un rfl (.cr (.ok (.s (pt 2 0) (.s2 (im (r.map c8) false) (.st (dr (e:=5)) (.st (v:=(A.v (.int .u64 (wr .u64 ((r.length:Int)))))) (aU (hs:=by kernel_rfl) (hd:=by kernel_rfl) ..) (.st (eP ..) (.cl ((aw qF).trans (GN ..)) (.s (bA (!(decide (u<=(wr .u64 ((r.length:Int))))))) (.bX ?_ ?_))))))))))
   ·exact .s (A.ifc 36 (iA 10)) (.pk (.cr (.gZ (.cr (.gZ (.lf rfl rfl ⟨[(jj c)],rfl⟩))))))
   refine .cr (.ok (.st (v:=(iA (wr .i64 (u)))) (aU (hs:=by kernel_rfl) (hd:=by kernel_rfl) ..) (.cr (.ok (.as (CN C n _ _ _ _ self hS q (wr .i64 (u)) (wr .i64 ((c.toNat:Int))) 0 rb ?_ ?_ _ 0 r (([]:List ak))))))))
   ·intro aq ar au av ay b0 w1516 w1517
    exact .un rfl (.lf rfl rfl ⟨[w1516,w1517],rfl⟩)
   ·intro w g b1 b2 b3 b4
    exact .un rfl (.cT j9 (.s (ag [(iA (wr .i64 ((c.toNat:Int)))),(iA 0),se,(bo 4 0 g.length false)]) (.s [aL,bx [(iA 0)],bx [(im (w.map c8) false)],bx [(iA (wr .i64 ((c.toNat:Int)))),(iA 0),se,(bo 4 0 g.length false)],az.row false 4 (g.map ax)] (.st (v:=(ag [(iA (wr .i64 ((c.toNat:Int)))),(iA 0),se,(im (g.map ax) false)])) ((YA (fun z=>nM prog 102 (pt 3 0) z) (yi (H:=[aL,bx [(iA 0)],bx [(im (w.map c8) false)],bx [(iA (wr .i64 ((c.toNat:Int)))),(iA 0),se,(bo 4 0 g.length false)],az.row false 4 (g.map ax)]) (lo:=0) (off:=3) (b:=3) (o:=0) (b':=4) (es:=4) (l:=g) cH rfl rfl rfl (Yu rfl))).trans j9) (.lf rfl rfl (gN (o:=Out.ret (ag [(iA (wr .i64 ((c.toNat:Int)))),(iA 0),se,(im (g.map ax) false)])) (lo:=0) (off:=3) (b:=3) (p:=0) (H2:=[aL,bx [(iA 0)],bx [(im (w.map c8) false)]]) (X:=[bx [(iA (wr .i64 ((c.toNat:Int)))),(iA 0),se,(bo 4 0 g.length false)],az.row false 4 (g.map ax)]) (Yu rfl)))))))
 exact .cl ((aw qF).trans (GN ..)) (.s (bA true) (.hU (.s (A.ifc 36 (iA 10)) (.pk (.cr (.gZ (.lf rfl rfl ⟨[(jj c)],rfl⟩)))))))
def DF:Nat->(List UInt8)->Int->Option (Bool×ak×(List UInt8))
 | 0=>fun _ _=>none
 | N+1=>fun a2 a3=>bif Nat.ble 8 N then xP (DF N) (N - 8) a2 a3 else none
theorem LY (C:OT) (a:BB C):∀ N,J5 C N (DF N)
 | 0=>fun _ _ X r h=>by cases h
 | N+1=>fun a2 b X=>by
  show J _ _ _ (bif Nat.ble 8 N then xP (DF N) (N - 8) a2 b else none) _
  cases h:Nat.ble 8 N with
  | false=>exact fun r h=>by cases h
  | true=>
   obtain ⟨n,rfl⟩:∃ n,N=n+8:=⟨N - 8,by have:=Yu h; omega⟩
   rw[qaW]
   exact EO (m:=3) j9 j9 (by decide) rfl j9 ((by kernel_rfl:_=((((aR 3 (a2.map c8))&&true))&&true)).trans so) (fun _=>rfl) (fun y=>(by show qG 3 (bif y.1 then Out.ret (ag [(iA y.2.1.Kind),(iA y.2.1.N),(sA y.2.1.S),(im (y.2.1.L.map ax) false)]) else Out.pan (A.ifc 36 (iA 10)))=true; cases y.1 with | true=>exact((by kernel_rfl:_=((aR 3 (y.2.1.L.map ax))&&true)).trans so) | false=>rfl)) (fun y=>((by kernel_rfl:_=((((aR 3 (y.2.2.map c8))&&true))&&true)).trans so)) (QP C n a (DF (n+8)) (LY C a (n+8)) a2 b)
def O3 (n:Nat) (b:(List UInt8)):Option (ak×Int):=
 (DF (n+8) b 0).bind fun a=>bif a.1 then (bif (!(((a.2.2.length:Int))==0)) then (some (((ak.mk 0 0 rb ([])),10))) else (some ((a.2.1,0)))) else (some (((ak.mk 0 0 rb ([])),10)))
theorem VC (C:OT) (n:Nat) (c:BB C) (b:(List UInt8)):TJ C n 65 [(im (b.map c8) false)] (O3 n b) (fun y=>(tp [(ag (ai y.1)),(iA y.2)])):=by
 refine .lp (WE ..) ?_
 unfold O3
 refine .s ((pt 0 0),[aL]) (.s ((pt 1 0),[aL,bx [(iA 0)]]) (.s (ag [(im (b.map c8) false)]) (.s ((pt 2 0),[aL,bx [(iA 0)],bx [(im (b.map c8) false)]]) (.bg (fun (t:Out×aB) (y:(Bool×ak×(List UInt8)))=>t=((bif y.1 then Out.ret (ag [(iA y.2.1.Kind),(iA y.2.1.N),(sA y.2.1.S),(im (y.2.1.L.map ax) false)]) else Out.pan (A.ifc 36 (iA 10))),[aL,bx [(iA 0)],bx [(im (y.2.2.map c8) false)]])) (LY C c (n+8) b 0 []) ?_))))
 rintro _ a rfl
 refine .ob ?_ ?_
 ·refine .ok (.s [bx (ai a.2.1),bx [(iA 0)],bx [(im (a.2.2.map c8) false)]] (.s (pt 2 0) (.s2 (im (a.2.2.map c8) false) (.st (dr (e:=5)) (.st (aV ..) (.cl ((aw qF).trans (GN ..)) (.s (bA (!(((a.2.2.length:Int))==0))) (.bX ?_ ?_))))))))
  ·exact .s (A.ifc 36 (iA 10)) (.pk (.cr (.gZ (.s (bA true) (.hU (.s (ag [(iA 0),(iA 0),se,XU]) (.s (iA 10) (.sh (.s [aL,bx [(iA 10)],bx [(im (a.2.2.map c8) false)]] (.s (ag [(iA 0),(iA 0),se,XU]) (.s (iA 10) (.lv r9))))))))))))
  exact .cr (.ok (.s (ag (ai a.2.1)) (.sh (.s [bx (ai a.2.1),bx [(iA 0)],bx [(im (a.2.2.map c8) false)]] (.s (bA false) (.kS (.s (ag (ai a.2.1)) (.s (iA 0) (.lv r9)))))))))
 exact .gZ (.s (bA true) (.hU (.s (ag [(iA 0),(iA 0),se,XU]) (.s (iA 10) (.sh (.s [aL,bx [(iA 10)],bx [(im (a.2.2.map c8) false)]] (.s (ag [(iA 0),(iA 0),se,XU]) (.s (iA 10) (.lv r9)))))))))
def LN (a:(List UInt8)):Option (ak×Int):=O3 aA a
def I5 (C:OT):Prop:=∀ (a:(List UInt8)),C 65 [(im (a.map c8) false)]=(LN a).map fun y=>(tp [(ag (ai y.1)),(iA y.2)])
def n6 (a:Bool) (b:Int) (c:Int) (d:Int) (e:Int) (f:Int):az:=bx [(bA a),(iA b),(iA c),(iA d),(iA e),(iA f)]
def kl (n:Nat) (f:Bool) (b:(List ak)) (c:Int) (g:Bool) (h:Int) (i:Int) (j:Int) (k:Int) (l:Int) (o:ak):Nat->Int->(List Int)->Option ((Bool)⊕((List Int)))
 | 0,_,_=>none
 | m+1,a,d=>bif (decide (a<c)) then ((bt b a).bind fun e=>bif (e.Kind != 1) then (some ((Sum.inl false))) else ((cU 8 d ([e.N])).bind fun p=>kl n f b c g h i j k l o m (wr .i64 (a+1)) p)) else (some ((Sum.inr d)))
theorem Em (z:Bool) (r:(List ak)) (a0:Int) (a:Bool) (c:Int) (d:Int) (h:Int) (i:Int) (j:Int) (p:ak) {K:((Bool)⊕((List Int)))->Option γ} (x0:∀ (q:Bool) (s6:A) (t:A) (u:A) (w:A) (q1:az) (q2:az) (q3:az),J φ (kr (St.mk [(2,(pt 0 0)),(3,(bA q)),(6,s6),(23,t),(24,u),(25,w)] [(n6 a c d h i j),q1,q2,q3])) kL (K (Sum.inl q)) some) (x1:∀ (q:(List Int)) (s3:A) (t:A) (u:A) (w:A) (q1:az),J φ (kx 0 (St.mk [(2,(pt 0 0)),(3,s3),(6,(bo 2 0 q.length false)),(23,t),(24,u),(25,w)] [(n6 a c d h i j),q1,az.row false 1 (q.map (cI .i64))])) kL (K (Sum.inr q)) some) :
  ∀ (m:Nat) (x:Int) (o:(List Int)),J φ (aH (cx C) (ec C n 8) (ey C n 8) (n+8) 45 0 0 3 kx kg kr kp m (St.mk [(2,(pt 0 0)),(3,(bA z)),(6,(bo 2 0 o.length false)),(23,(im (r.map ax) false)),(24,(iA a0)),(25,(iA x))] [(n6 a c d h i j),bx (ai p),az.row false 1 (o.map (cI .i64))])) kL (kl n z r a0 a c d h i j p m x o) K:=by
  refine nI (fun _ _=>.nn) fun m ih x o=>.lp (ME ..) ?_
  unfold kl
  refine .st (aW ..) (.bX ?_ ?_)
  ·refine .bd ((fa (e:=102) (es:=4)).trans (fA _)) fun k=>.s (ag (ai k)) (.sq (pt 3 0) (.s [(n6 a c d h i j),bx (ai p),az.row false 1 (o.map (cI .i64)),bx (ai k)] (.s2 (iA k.Kind) (.st (bf ..) (.bX ?_ ?_)))))
   ·exact .s (ag [(bA a),(iA c),(iA d),(iA h),(iA i),(iA j)]) (.s [(n6 a c d h i j),bx (ai p),az.row false 1 (o.map (cI .i64)),bx (ai k)] (.ex (x0 _ _ _ _ _ _ _ _)))
   refine .s2 (iA k.N) (.s (im [[(iA k.N)]] true) (.bd (g:=fun (y:List Int)=>((bo 2 0 y.length false),[(n6 a c d h i j),bx (ai p),az.row false 1 (y.map (cI .i64)),bx (ai k)])) (cp vm (l:=o) (l2:=[k.N]) (b:=2) rfl (by decide) (bk (f:=(cI .i64)) ([k.N]:List Int) _ _)) fun a5=>.st (aM ..) (.st (v:=[(n6 a c d h i j),bx (ai p),az.row false 1 (a5.map (cI .i64))]) (eH j9 (by simp only[uB,gx,gy,Nat.reduceLT,Zu,n6])) (.cT ((by kernel_rfl:_=(bif aR 3 (r.map ax) then true else false)).trans so) ?_))))
   exact ih _ _
  exact .ex (x1 _ _ _ _ _ _)
def OP (n:Nat) (c:(List UInt8)):Option (ar×Bool):=
 (LN c).bind fun b=>(bif (b.2 != 0) then (some true) else (some (b.1.Kind != 3))).bind fun d=>bif d then (some (((ar.mk false ((al.mk 0 0 0)) ((av.mk 0 0))),false))) else ((kl n false b.1.L ((b.1.L.length:Int)) false 0 0 0 0 0 b.1 (n+8) 0 (([]:List Int))).bind fun e=>match e with | (Sum.inl f)=>some (((ar.mk false ((al.mk 0 0 0)) ((av.mk 0 0))),f)) | (Sum.inr a)=>(bif (((a.length:Int))==4) then ((bt a 0).bind fun g=>some (g==1)) else (some false)).bind fun h=>bif h then ((bt a 1).bind fun i=>(bt a 2).bind fun j=>(bt a 3).bind fun k=>some (((ar.mk true ((al.mk i j k)) ((av.mk 0 0))),true))) else ((bif (((a.length:Int))==3) then ((bt a 0).bind fun l=>some (l==2)) else (some false)).bind fun o=>bif o then ((bt a 1).bind fun p=>(bt a 2).bind fun q=>some (((ar.mk false ((al.mk 0 0 0)) ((av.mk p q))),true))) else (some (((ar.mk false ((al.mk 0 0 0)) ((av.mk 0 0))),false)))))
theorem Vq (C:OT) (n:Nat) (a2:I5 C) (j:(List UInt8)):TJ C n 45 [(im (j.map c8) false)] (OP n j) (fun y=>(tp [(ag (ay y.1)),(bA y.2)])):=by
 refine .lp (Ws ..) ?_
 unfold OP
 refine .s ((pt 0 0),[bx [(bA false),(iA 0),(iA 0),(iA 0),(iA 0),(iA 0)]]) (.bd (g:=fun (y:(ak×Int))=>(tp [(ag (ai y.1)),(iA y.2)])) (by simp only[bJ,dg]; exact a2 j) fun b=>.s (ag (ai b.1)) (.s (iA b.2) (.sq (pt 1 0) (.s [bx [(bA false),(iA 0),(iA 0),(iA 0),(iA 0),(iA 0)],bx (ai b.1)] (.st (bf ..) (.bg (fun t (y:Bool)=>∃ k o p:A,t=[(bA y),k,o,p]) ?_ ?_))))))
 ·refine .bi ?_ ?_
  ·exact .lg ⟨_,_,_,rfl⟩
  exact .s (pt 1 0) (.s (iA b.1.Kind) (.st (bf ..) (.lg ⟨_,_,_,rfl⟩)))
 rintro _ y3 ⟨k,o,p,rfl⟩
 refine .u4 (.bX ?_ ?_)
 ·exact .s (ag [(bA false),(iA 0),(iA 0),(iA 0),(iA 0),(iA 0)]) (.s [bx [(bA false),(iA 0),(iA 0),(iA 0),(iA 0),(iA 0)],bx (ai b.1)] (.s (ag [(bA false),(iA 0),(iA 0),(iA 0),(iA 0),(iA 0)]) (.lv rfl)))
 refine .s2 (im (b.1.L.map ax) false) (.st (dr (e:=102)) (.as (Em C n _ _ _ _ false b.1.L ((b.1.L.length:Int)) false 0 0 0 0 0 b.1 ?_ ?_ _ 0 (([]:List Int)))))
 ·intro a6 a7 a8 a9 aa w202 w203 w204
  exact .un rfl (.s (ag [(bA false),(iA 0),(iA 0),(iA 0),(iA 0),(iA 0)]) (.lv rfl))
 ·intro a ab ad ae af w210
  refine .un rfl (.cT j9 (.st (CB (e:=3) j9 rfl rfl) (.st (aV ..) (.bg (fun t (y:Bool)=>∃ q r u v:A,t=[(bA y),q,r,u,v]) ?_ ?_))))
  ·refine .bi ?_ ?_
   ·exact .bd (g:=fun (y:Int)=>A.ip ((cI .i64) y)) (np (e:=3) (es:=1) (l:=a) j9 j9 rfl) fun a3=>.s (iA a3) (.st (aV ..) (.lg ⟨_,_,_,_,rfl⟩))
   exact .lg ⟨_,_,_,_,rfl⟩
  rintro _ ah ⟨q,r,u,v,rfl⟩
  refine .u4 (.uc (.bX ?_ ?_))
  ·exact .bd (g:=fun (y:Int)=>A.ip ((cI .i64) y)) (np (e:=3) (es:=1) (l:=a) j9 j9 rfl) fun c=>.s (iA c) (.bd (g:=fun (y:Int)=>A.ip ((cI .i64) y)) (np (e:=3) (es:=1) (l:=a) j9 j9 rfl) fun d=>.s (iA d) (.bd (g:=fun (y:Int)=>A.ip ((cI .i64) y)) (np (e:=3) (es:=1) (l:=a) j9 j9 rfl) fun f=>.s (iA f) (.s (ag [(iA c),(iA d),(iA f)]) (.s (ag [(bA true),(iA c),(iA d),(iA f),(iA 0),(iA 0)]) (.s [bx [(bA true),(iA c),(iA d),(iA f),(iA 0),(iA 0)],w210,az.row false 1 (a.map (cI .i64))] (.s (ag [(bA true),(iA c),(iA d),(iA f),(iA 0),(iA 0)]) (.lv rfl)))))))
  refine .st (CB (e:=3) j9 rfl rfl) (.st (aV ..) (.bg (fun t (y:Bool)=>∃ w x z a1:A,t=[(bA y),w,x,z,a1]) ?_ ?_))
  ·refine .bi ?_ ?_
   ·exact .bd (g:=fun (y:Int)=>A.ip ((cI .i64) y)) (np (e:=3) (es:=1) (l:=a) j9 j9 rfl) fun a4=>.s (iA a4) (.st (aV ..) (.lg ⟨_,_,_,_,rfl⟩))
   exact .lg ⟨_,_,_,_,rfl⟩
  rintro _ aj ⟨w,x,z,a1,rfl⟩
  refine .u4 (.uc (.bX ?_ ?_))
  ·exact .bd (g:=fun (y:Int)=>A.ip ((cI .i64) y)) (np (e:=3) (es:=1) (l:=a) j9 j9 rfl) fun h=>.s (iA h) (.bd (g:=fun (y:Int)=>A.ip ((cI .i64) y)) (np (e:=3) (es:=1) (l:=a) j9 j9 rfl) fun i=>.s (iA i) (.s (ag [(iA h),(iA i)]) (.s (ag [(bA false),(iA 0),(iA 0),(iA 0),(iA h),(iA i)]) (.s [bx [(bA false),(iA 0),(iA 0),(iA 0),(iA h),(iA i)],w210,az.row false 1 (a.map (cI .i64))] (.s (ag [(bA false),(iA 0),(iA 0),(iA 0),(iA h),(iA i)]) (.lv rfl))))))
  exact .s (ag [(bA false),(iA 0),(iA 0),(iA 0),(iA 0),(iA 0)]) (.s [bx [(bA false),(iA 0),(iA 0),(iA 0),(iA 0),(iA 0)],w210,az.row false 1 (a.map (cI .i64))] (.s (ag [(bA false),(iA 0),(iA 0),(iA 0),(iA 0),(iA 0)]) (.lv rfl)))
def Lk (a:(List UInt8)):Option (ar×Bool):=OP aA a
def DZ (C:OT):Prop:=∀ (a:(List UInt8)),C 45 [(im (a.map c8) false)]=(Lk a).map fun y=>(tp [(ag (ay y.1)),(bA y.2)])
def kb (n:Nat) (j:Int) (c:(List (List UInt8))) (d:Int):Nat->Int->Int->(List al)->(List av)->(List Bool)->Option ((Int×Int)⊕(Int×(List al)×(List av)×(List Bool)))
 | 0,_,_,_,_,_=>none
 | m+1,b,e,f,g,h=>bif (decide (b<d)) then ((bt c b).bind fun k=>(Lk k).bind fun i=>bif (!i.2) then (some ((Sum.inl ((530,0))))) else ((CL ((af.mk e f g h)) i.1).bind fun a=>kb n j c d m (wr .i64 (b+1)) a.Self a.Leases a.Calls a.Order)) else (some ((Sum.inr ((e,f,g,h)))))
theorem Ea (x:rI C) (z:DZ C) (q:Int) (j:(List (List UInt8))) (r:Int) {K:((Int×Int)⊕(Int×(List al)×(List av)×(List Bool)))->Option γ} (x0:∀ (h:Int) (i:Int) (k:A) (l:A) (o:A) (q1:az),J φ (kr (St.mk [(4,(pt 0 0)),(5,(iA h)),(12,k),(13,l),(14,o)] [bx [(iA i),XU,XU,XU],q1])) kL (K (Sum.inl ((h,i)))) some) (x1:∀ (h:Int) (i:(List al)) (t:(List av)) (o3:(List Bool)) (s5:A) (k:A) (l:A) (o:A),J φ (kx 0 (St.mk [(4,(pt 0 0)),(5,s5),(12,k),(13,l),(14,o)] [bx [(iA h),(im (i.map ae) false),(im (t.map ah) false),(im (o3.map cB) false)]])) kL (K (Sum.inr ((h,i,t,o3)))) some) :
  ∀ (m:Nat) (p:Int) (b:Int) (c:(List al)) (d:(List av)) (f:(List Bool)),J φ (aH (cx C) (ec C n 8) (ey C n 8) (n+8) 14 0 0 1 kx kg kr kp m (St.mk [(4,(pt 0 0)),(5,(iA q)),(12,(im (List.map (cL c8) j) false)),(13,(iA r)),(14,(iA p))] [bx [(iA b),(im (c.map ae) false),(im (d.map ah) false),(im (f.map cB) false)]])) kL (kb n q j r m p b c d f) K:=by
  refine nI (fun _ _ _ _ _=>.nn) fun m ih p b c d f=>.lp (Mq ..) ?_
  unfold kb
  refine .st (aW ..) (.bX ?_ ?_)
  ·refine .bd (fa (e:=78) (es:=1)) fun u=>.s (im (u.map c8) false) (.bd (g:=fun (y:(ar×Bool))=>(tp [(ag (ay y.1)),(bA y.2)])) (by simp only[bJ,dg]; exact z u) fun a=>.s (ag (ay a.1)) (.s (bA a.2) (.sq (pt 1 0) (.s [bx [(iA b),(im (c.map ae) false),(im (d.map ah) false),(im (f.map cB) false)],bx (ay a.1)] (.s (bA (!a.2)) (.bX ?_ ?_))))))
   ·exact .s (ag [(iA 0),XU,XU,XU]) (.s [bx [(iA 0),XU,XU,XU],bx (ay a.1)] (.ex (x0 _ _ _ _ _ _)))
   refine .s (ag [(iA b),(im (c.map ae) false),(im (d.map ah) false),(im (f.map cB) false)]) (.s (ag (ay a.1)) (.bd (g:=fun (y:af)=>(ag (aa y))) (by simp only[bJ,dg]; exact x ((af.mk b c d f)) a.1) fun w=>.s [bx (aa w),bx (ay a.1)] (.st (aM ..) (.st (v:=[bx (aa w)]) (eH j9 u2) (.cT ((by kernel_rfl:_=(bif aR 1 (List.map (cL c8) j) then true else false)).trans so) ?_)))))
   exact ih _ _ _ _ _
  exact .ex (x1 _ _ _ _ _ _ _ _)
def Oz (n:Nat) (g:Int) (a:(List (List UInt8))):Option (af×Int):=
 (kb n 0 a ((a.length:Int)) (n+8) 0 g ([]) ([]) ([])).bind fun h=>match h with | (Sum.inl ((i,j)))=>some (((af.mk j ([]) ([]) ([])),i)) | (Sum.inr ((b,c,d,e)))=>(DE ((af.mk b c d e))).bind fun f=>bif (f != 0) then (some (((af.mk 0 ([]) ([]) ([])),f))) else (some (((af.mk b c d e),0)))
theorem U9 (C:OT) (n:Nat) (i:p7 C) (j:rI C) (k:DZ C) (f:Int) (h:(List (List UInt8))):TJ C n 14 [(iA f),(im (List.map (cL c8) h) false)] (Oz n f h) (fun y=>(tp [(ag (aa y.1)),(iA y.2)])):=by
 refine .lp (V4 ..) ?_
 unfold Oz
 refine .sq (pt 0 0) (.s (pt 0 0) (.s [bx [(iA f),XU,XU,XU]] (.st (dr (e:=78)) (.as (Ea C n _ _ _ _ j k 0 h ((h.length:Int)) ?_ ?_ _ 0 f ([]) ([]) ([]))))))
 ·intro o l p q r w116
  exact .un rfl (.s (ag [(iA l),XU,XU,XU]) (.lv r9))
 ·intro a b c d t u v w
  refine .un rfl (.cT j9 (.s (ag [(iA a),(im (b.map ae) false),(im (c.map ah) false),(im (d.map cB) false)]) (.bd (g:=fun (y:Int)=>(iA y)) (by simp only[bJ,dg]; exact i ((af.mk a b c d))) fun x=>.st (bf ..) (.bX ?_ ?_))))
  ·exact .s (ag [(iA 0),XU,XU,XU]) (.s [bx [(iA 0),XU,XU,XU]] (.s (ag [(iA 0),XU,XU,XU]) (.lv r9)))
  exact .s (ag [(iA a),(im (b.map ae) false),(im (c.map ah) false),(im (d.map cB) false)]) (.s [bx [(iA a),(im (b.map ae) false),(im (c.map ah) false),(im (d.map cB) false)]] (.s (ag [(iA a),(im (b.map ae) false),(im (c.map ah) false),(im (d.map cB) false)]) (.lv r9)))
def JW (a:Int) (b:(List (List UInt8))):Option (af×Int):=Oz aA a b
def DX (C:OT):Prop:=∀ (a:Int) (b:(List (List UInt8))),C 14 [(iA a),(im (List.map (cL c8) b) false)]=(JW a b).map fun y=>(tp [(ag (aa y.1)),(iA y.2)])
def qR (n:Nat) (d:Int) (e:Int) (s:(List al)) (t:(List av)) (u:(List av)):Nat->Int->Int->Int->(List al)->(List av)->(List Bool)->Int->(List al)->(List av)->(List Bool)->Int->Int->Option ((Int×Int×Int×Int×Int)⊕(Int×(List al)×(List av)×(List Bool)×Int×(List al)×(List av)×(List Bool)×Int×Int))
 | 0,_,_,_,_,_,_,_,_,_,_,_,_=>none
 | m+1,v,a,f,g,h,i,j,k,l,o,p,q=>bif (decide (a<2)) then ((Gy a d e).bind fun c=>bif (decide (0<=a)&&decide (a<2)) then ((jL a ((c.1,(af.mk j k l o))) (((af.mk f g h i),c.1))).bind fun b=>bif (c.2 != 0) then (some ((Sum.inl ((c.2,0,0,0,0))))) else (bif (decide (0<=a)&&decide (a<2)) then ((jL a ((1,q)) ((p,1))).bind fun r=>qR n d e s t u m c.2 (wr .i64 (a+1)) b.1.Self b.1.Leases b.1.Calls b.1.Order b.2.Self b.2.Leases b.2.Calls b.2.Order r.1 r.2) else none)) else none) else (some ((Sum.inr ((f,g,h,i,j,k,l,o,p,q)))))
theorem Ka (a9:Bt C) (p:Int) (q:Int) (a:(List al)) (b:(List av)) (c:(List av)) {K:((Int×Int×Int×Int×Int)⊕(Int×(List al)×(List av)×(List Bool)×Int×(List al)×(List av)×(List Bool)×Int×Int))->Option γ} (x0:∀ (g:Int) (i:Int) (j:Int) (o3:Int) (o4:Int) (r:A) (t:A) (u:A),J φ (kr (St.mk [(0,r),(1,t),(4,(pt 0 0)),(5,(iA g)),(7,u)] [bx [(iA i),XU,XU,XU,(iA j),XU,XU,XU,(iA o3),(iA o4),XU,XU,XU]])) kL (K (Sum.inl ((g,i,j,o3,o4)))) some) (x1:∀ (g:Int) (i:(List al)) (j:(List av)) (o3:(List Bool)) (o4:Int) (o5:(List al)) (o6:(List av)) (o7:(List Bool)) (o8:Int) (o9:Int) (r:A) (t:A) (s5:A) (u:A),J φ (kx 0 (St.mk [(0,r),(1,t),(4,(pt 0 0)),(5,s5),(7,u)] [bx [(iA g),(im (i.map ae) false),(im (j.map ah) false),(im (o3.map cB) false),(iA o4),(im (o5.map ae) false),(im (o6.map ah) false),(im (o7.map cB) false),(iA o8),(iA o9),(im (a.map ae) true),(im (b.map ah) true),(im (c.map ah) true)]])) kL (K (Sum.inr ((g,i,j,o3,o4,o5,o6,o7,o8,o9)))) some) :
  ∀ (m:Nat) (w:Int) (d:Int) (x:Int) (z:(List al)) (a0:(List av)) (a1:(List Bool)) (a3:Int) (a4:(List al)) (a5:(List av)) (a6:(List Bool)) (k:Int) (l:Int),J φ (aH (cx C) (ec C n 8) (ey C n 8) (n+8) 8 0 0 1 kx kg kr kp m (St.mk [(0,(iA p)),(1,(iA q)),(4,(pt 0 0)),(5,(iA w)),(7,(iA d))] [bx [(iA x),(im (z.map ae) false),(im (a0.map ah) false),(im (a1.map cB) false),(iA a3),(im (a4.map ae) false),(im (a5.map ah) false),(im (a6.map cB) false),(iA k),(iA l),(im (a.map ae) true),(im (b.map ah) true),(im (c.map ah) true)]])) kL (qR n p q a b c m w d x z a0 a1 a3 a4 a5 a6 k l) K:=by
  refine nI (fun _ _ _ _ _ _ _ _ _ _ _ _=>.nn) fun m ih w d x z a0 a1 a3 a4 a5 a6 k l=>.lp (Q6 ..) ?_
  unfold qR
  refine .st (aW ..) (.bX ?_ ?_)
  ·refine .bd (a9 d p q) fun a7=>.s (ag (aa a7.1)) (.s (iA a7.2) (.s (pt 0 0) (.gd fun hg=>.st (v:=(pt 0 (0+Int.toNat d*4))) (b8 (e:=26) (n:=4) (len:=2) j9 j9 rfl hg) (.a2 (f:=fun (y:af×af)=>[bx [(iA y.1.Self),(im (y.1.Leases.map ae) false),(im (y.1.Calls.map ah) false),(im (y.1.Order.map cB) false),(iA y.2.Self),(im (y.2.Leases.map ae) false),(im (y.2.Calls.map ah) false),(im (y.2.Order.map cB) false),(iA k),(iA l),(im (a.map ae) true),(im (b.map ah) true),(im (c.map ah) true)]]) (fun h=>by rw[h]; kernel_rfl) (fun h=>by rw[h]; kernel_rfl) fun o=>.st (bf ..) (.bX ?_ ?_)))))
   ·exact .s (ag [(iA 0),XU,XU,XU,(iA 0),XU,XU,XU,(iA 0),(iA 0),XU,XU,XU]) (.s [bx [(iA 0),XU,XU,XU,(iA 0),XU,XU,XU,(iA 0),(iA 0),XU,XU,XU]] (.ex (x0 _ _ _ _ _ _ _ _)))
   refine .s (pt 0 8) (.gd fun hg=>.st (v:=(pt 0 (8+Int.toNat d*1))) (b8 (e:=3) (n:=1) (len:=2) j9 j9 rfl hg) (.a2 (f:=fun (y:Int×Int)=>[bx (aa o.1++aa o.2++[(iA y.1),(iA y.2),(im (a.map ae) true),(im (b.map ah) true),(im (c.map ah) true)])]) (fun h=>by rw[h]; kernel_rfl) (fun h=>by rw[h]; kernel_rfl) fun a8=>.st (aM ..) (.s [bx (aa o.1++aa o.2++[(iA a8.1),(iA a8.2),(im (a.map ae) true),(im (b.map ah) true),(im (c.map ah) true)])] (.cT j9 ?_))))
   exact ih _ _ _ _ _ _ _ _ _ _ _ _
  exact .ex (x1 _ _ _ _ _ _ _ _ _ _ _ _ _ _)
def F8 (n:Nat) (a:Int) (b:Int):Option (aC×Int):=
 (qR n a b ([]) ([]) ([]) (n+8) 0 0 0 ([]) ([]) ([]) 0 ([]) ([]) ([]) 0 0).bind fun c=>match c with | (Sum.inl ((d,e,f,g,h)))=>some (((aC.mk (((af.mk e ([]) ([]) ([])),(af.mk f ([]) ([]) ([])))) ((g,h)) ([]) (([],[]))),d)) | (Sum.inr ((i,j,k,l,o,p,q,r,s,t)))=>some (((aC.mk (((af.mk i j k l),(af.mk o p q r))) ((s,t)) ([]) (([],[]))),0))
theorem T8 (C:OT) (n:Nat) (o:Bt C) (a:Int) (b:Int):TJ C n 8 [(iA a),(iA b)] (F8 n a b) (fun y=>(tp [(ag (aj y.1)),(iA y.2)])):=by
 refine .lp (e8 ..) ?_
 unfold F8
 refine .s ((pt 0 0),[bx [(iA 0),XU,XU,XU,(iA 0),XU,XU,XU,(iA 0),(iA 0),XU,XU,XU]]) (.as (Ka C n _ _ _ _ o a b ([]) ([]) ([]) ?_ ?_ _ 0 0 0 ([]) ([]) ([]) 0 ([]) ([]) ([]) 0 0))
 ·intro u p q r t v w x
  exact .un rfl (.s (ag [(iA p),XU,XU,XU,(iA q),XU,XU,XU,(iA r),(iA t),XU,XU,XU]) (.lv r9))
 ·intro c d e f g h i j k l z a2 a3 a4
  exact .un rfl (.cT j9 (.s (ag [(iA c),(im (d.map ae) false),(im (e.map ah) false),(im (f.map cB) false),(iA g),(im (h.map ae) false),(im (i.map ah) false),(im (j.map cB) false),(iA k),(iA l),XU,XU,XU]) (.s [bx [(iA c),(im (d.map ae) false),(im (e.map ah) false),(im (f.map cB) false),(iA g),(im (h.map ae) false),(im (i.map ah) false),(im (j.map cB) false),(iA k),(iA l),XU,XU,XU]] (.s (ag [(iA c),(im (d.map ae) false),(im (e.map ah) false),(im (f.map cB) false),(iA g),(im (h.map ae) false),(im (i.map ah) false),(im (j.map cB) false),(iA k),(iA l),XU,XU,XU]) (.lv r9)))))
def G8 (a:Int) (b:Int):Option (aC×Int):=F8 aA a b
def J6 (C:OT):Prop:=∀ (a:Int) (b:Int),C 8 [(iA a),(iA b)]=(G8 a b).map fun y=>(tp [(ag (aj y.1)),(iA y.2)])
def dF (a2:av):az:=bx [(gp 68 [] [(A.ip [(iA a2.Bar),(iA a2.Program)])])]
def eN (n:Nat) (a2:av) (g:(List Bool)) (h:Int) (b:aD) (a:Int) (i:Bool) (j:af):Nat->(List al)->(List av)->Int->Option ((Bool)⊕((Unit)⊕(Unit)))
 | 0,_,_,_=>none
 | m+1,d,e,c=>bif (decide (c<h)) then ((bt g c).bind fun f=>(bif f then (some (decide (0<((d.length:Int))))) else (some false)).bind fun l=>bif l then ((bt d 0).bind fun x=>(eJ d 1 ((d.length:Int))).bind fun o=>bif (decide (0<=a)&&decide (a<2)) then ((jL a b.Pair.Synced.1 b.Pair.Synced.2).bind fun p=>(bif (decide (c<p)) then ((bif (!f) then (some (((0==a2.Bar)&&(0==a2.Program)))) else (some false)).bind fun q=>some q) else (some false)).bind fun r=>bif r then (some ((Sum.inl true))) else (eN n a2 g h b a i j m o e (wr .i64 (c+1)))) else none) else ((bif (!f) then (some (decide (0<((e.length:Int))))) else (some false)).bind fun s=>bif s then ((bt e 0).bind fun k=>(eJ e 1 ((e.length:Int))).bind fun t=>bif (decide (0<=a)&&decide (a<2)) then ((jL a b.Pair.Synced.1 b.Pair.Synced.2).bind fun u=>(bif (decide (c<u)) then ((bif (!f) then (some (((k.Bar==a2.Bar)&&(k.Program==a2.Program)))) else (some false)).bind fun v=>some v) else (some false)).bind fun w=>bif w then (some ((Sum.inl true))) else (eN n a2 g h b a i j m d t (wr .i64 (c+1)))) else none) else (some ((Sum.inr ((Sum.inl (())))))))) else (some ((Sum.inr ((Sum.inr (()))))))
theorem yc (a2:av) (a1:(List Bool)) (a6:Int) (c:aD) (i:Int) (j:Bool) (k:af) {K:((Bool)⊕((Unit)⊕(Unit)))->Option γ} (x0:∀ (o0:Bool) (r:A) (u:A) (w:A) (x:A) (z:A) (a0:A) (q0:az) (q1:az) (q2:az) (q4:az) (q6:az) (q7:az),J φ (kr (St.mk [(0,r),(3,u),(4,w),(13,x),(14,z),(15,a0)] [q0,q1,q2,bx [(bA o0)],q4,az.rng (cX.done IP.ret),q6,q7])) kL (K (Sum.inl o0)) some) (x1:∀ (r:A) (u:A) (w:A) (x:A) (z:A) (a0:A) (q0:az) (q1:az) (q2:az) (q4:az) (q6:az),J φ (kr (St.mk [(0,r),(3,u),(4,w),(13,x),(14,z),(15,a0)] [q0,q1,q2,bx [(bA j)],q4,az.rng cX.ready,q6])) kL (K (Sum.inr ((Sum.inl (()))))) some) (x2:∀ (r:A) (u:A) (w:A) (x:A) (z:A) (a0:A) (q0:az) (q1:az) (q2:az) (q4:az),J φ (kx 0 (St.mk [(0,r),(3,u),(4,w),(13,x),(14,z),(15,a0)] [q0,q1,q2,bx [(bA j)],q4,az.rng cX.ready])) kL (K (Sum.inr ((Sum.inr (()))))) some) :
  ∀ (m:Nat) (p:(List al)) (q:(List av)) (a3:Int),J φ (aH (cx C) (bq (cx C) (n+7) (sx 126 (dS (cx C) (n+8)) 5 (lR (cx C) (ec C n 8) (ey C n 8) (n+8) 48 0 0 5 [(3,(pt 0 0)),(4,(pt 1 0)),(5,(pt 2 0)),(6,(pt 3 0))]))) (bq (cx C) (n+7)) (n+7) 66 0 0 6 kx kg kr kp m (St.mk [(0,(A.yld 5)),(3,(im (p.map ae) false)),(4,(im (q.map ah) false)),(13,(im (a1.map cB) false)),(14,(iA a6)),(15,(iA a3))] [bx [(A.ip (au c))],bx [(iA i)],(dF a2),bx [(bA j)],bx (aa k),az.rng cX.ready])) kL (eN n a2 a1 a6 c i j k m p q a3) K:=by
  refine nI (fun _ _ _=>.nn) fun m ih p q a3=>.lp (BO ..) ?_
  unfold eN
  refine .st (aW ..) (.bX ?_ ?_)
  ·refine .bd (fa (e:=4) (es:=1)) fun d=>.s (bA d) (.s (ag [(bA d),(iA 0),(iA 0),(iA 0),(iA 0),(iA 0)]) (.sq (pt 6 0) (.s [bx [(A.ip (au c))],bx [(iA i)],(dF a2),bx [(bA j)],bx (aa k),az.rng cX.ready,bx [(bA d),(iA 0),(iA 0),(iA 0),(iA 0),(iA 0)]] (.bg (fun t (y:Bool)=>∃ a9 ab ad:A,t=[(bA y),a9,ab,ad]) ?_ ?_))))
   ·refine .bi ?_ ?_
    ·exact .st (dr (e:=50)) (.st (cF ..) (.lg ⟨_,_,_,rfl⟩))
    exact .lg ⟨_,_,_,rfl⟩
   rintro _ b8 ⟨a9,ab,ad,rfl⟩
   refine .u4 (.bX ?_ ?_)
   ·refine .bd (fa (e:=50) (es:=3)) fun o=>.s (ag (ae o)) (.bd (fQ (e:=50) (es:=3) (f:=ae) (l:=p) (a:=1) (b:=(p.length:Int)) j9 j9 (fun _=>rfl) (.inr ⟨_,rfl⟩) (.inl ⟨rfl,rfl⟩)) fun b4=>.s (pt 6 1) (.cT j9 (.s [bx [(A.ip (au c))],bx [(iA i)],(dF a2),bx [(bA j)],bx (aa k),az.rng cX.ready,bx ([(bA d)]++ae o++[(iA 0),(iA 0)])] (.s (ag ([(bA d)]++ae o++[(iA 0),(iA 0)])) (.dY rfl (.cl (yq.trans (lJ.trans (wW C (ec C n 8) (ey C n 8) (n+8) _ _ _ _ _ _ _ _ _ _))) (.cT j9 (.lp (gK rfl) (.sq (pt 7 0) (.s [bx [(A.ip (au c))],bx [(iA i)],(dF a2),bx [(bA j)],bx (aa k),az.rng cX.ready,bx ([(bA d)]++ae o++[(iA 0),(iA 0)]),bx ([(bA d)]++ae o++[(iA 0),(iA 0)])] (.lp (gK rfl) (.s (A.ip (au c)) (.s (iA i) (.s (A.ip (au c)) (.s (A.ip (au c)) (.s (A.ip [(iA c.Pair.Synced.1),(iA c.Pair.Synced.2),(im (c.Pair.Told.map ae) false),(im (c.Pair.Spoken.1.map ah) false),(im (c.Pair.Spoken.2.map ah) false),(iA c.who)]) (.gd fun hg=>.st (v:=(A.ip (List.drop (Int.toNat i*1) [(iA c.Pair.Synced.1),(iA c.Pair.Synced.2),(im (c.Pair.Told.map ae) false),(im (c.Pair.Spoken.1.map ah) false),(im (c.Pair.Spoken.2.map ah) false),(iA c.who)]))) (q8 (e:=3) (n:=1) (len:=2) j9 j9 hg) (.a2 (f:=fun (y:Int)=>(iA y)) (fun h=>by rw[h]; kernel_rfl) (fun h=>by rw[h]; kernel_rfl) fun b9=>.st (aW ..) (.Lw ?_)))))))))))))))))))
    refine .bg (fun t (y:Bool)=>∃ ai:A,t=[(bA y),ai]) ?_ ?_
    ·refine .AV (fun a4=>?_) (fun a4=>?_)
     ·refine .bb (.s (gp 68 [] [(A.ip [(iA a2.Bar),(iA a2.Program)])]) (.s (ag ([(bA d)]++ae o++[(iA 0),(iA 0)])) (.cr (.uc (.uc (.ra a4 (.vC j9 j9 (.bb (.cl ((aw JG).trans (Td ..)) (.s ((pt 8 0),[bx [(A.ip (au c))],bx [(iA i)],(dF a2),bx [(bA j)],bx (aa k),az.rng cX.busy,bx ([(bA d)]++ae o++[(iA 0),(iA 0)]),bx ([(bA d)]++ae o++[(iA 0),(iA 0)]),bx ([(bA d)]++ae o++[(iA 0),(iA 0)])]) (.s2 (bA d) (.s (bA (!d)) (.bg (fun t (y:Bool)=>∃ aj ak am an:A,t=[(bA y),aj,ak,am,an]) ?_ ?_)))))))))))))
      ·refine .bi ?_ ?_
       ·exact .s (pt 8 4) (.s (ag [(iA 0),(iA 0)]) (.s (ag [(iA a2.Bar),(iA a2.Program)]) (.s (bA (((0==a2.Bar)&&(0==a2.Program)))) (.lg ⟨_,_,_,_,rfl⟩))))
       exact .lg ⟨_,_,_,_,rfl⟩
      rintro _ b5 ⟨aj,ak,am,an,rfl⟩
      exact .u4 (.uc (.cr (.lp (by kernel_rfl:_=some (bA b5)) (.cr (.lg ⟨_,rfl⟩)))))
     exact .bb (.cr (.uc (.uc (.q9 a4 (.lg ⟨_,rfl⟩)))))
    rintro _ ba ⟨ai,rfl⟩
    refine .uc (.uc (.bX ?_ ?_))
    ·exact .s [bx [(A.ip (au c))],bx [(iA i)],(dF a2),bx [(bA true)],bx (aa k),az.rng cX.busy,bx ([(bA d)]++ae o++[(iA 0),(iA 0)]),bx ([(bA d)]++ae o++[(iA 0),(iA 0)])] (.lp (gI rfl) (.cr (.ok (.s (bA true) (.hU (.ex (x0 _ _ _ _ _ _ _ _ _ _ _ _ _)))))))
    refine .lp (gI rfl) (.cr (.ok (.s (bA false) (.kS (.st (aM ..) (.st (v:=[bx [(A.ip (au c))],bx [(iA i)],(dF a2),bx [(bA j)],bx (aa k),az.rng cX.ready]) (eH j9 (by simp only[uB,gx,gy,Nat.reduceLT,Zu,dF])) (.cT ((by kernel_rfl:_=(bif aR 6 (b4.map ae) then (bif aR 6 (q.map ah) then (bif aR 6 (a1.map cB) then true else false) else false) else false)).trans so) ?_)))))))
    exact ih _ _ _
   refine .s (bA (!d)) (.bg (fun t (y:Bool)=>∃ ao ap aq:A,t=[(bA y),ao,ap,aq]) ?_ ?_)
   ·refine .bi ?_ ?_
    ·exact .st (dr (e:=54)) (.st (cF ..) (.lg ⟨_,_,_,rfl⟩))
    exact .lg ⟨_,_,_,rfl⟩
   rintro _ bc ⟨ao,ap,aq,rfl⟩
   refine .u4 (.bX ?_ ?_)
   ·refine .bd (fa (e:=54) (es:=2)) fun g=>.s (ag [(iA g.Bar),(iA g.Program)]) (.bd (fQ (e:=54) (es:=2) (f:=ah) (l:=q) (a:=1) (b:=(q.length:Int)) j9 j9 (fun _=>rfl) (.inr ⟨_,rfl⟩) (.inl ⟨rfl,rfl⟩)) fun b6=>.s (pt 6 4) (.cT j9 (.s [bx [(A.ip (au c))],bx [(iA i)],(dF a2),bx [(bA j)],bx (aa k),az.rng cX.ready,(cV d g)] (.s (ag [(bA d),(iA 0),(iA 0),(iA 0),(iA g.Bar),(iA g.Program)]) (.dY rfl (.cl (yq.trans (lJ.trans (wW C (ec C n 8) (ey C n 8) (n+8) _ _ _ _ _ _ _ _ _ _))) (.cT j9 (.lp (gK rfl) (.sq (pt 7 0) (.s [bx [(A.ip (au c))],bx [(iA i)],(dF a2),bx [(bA j)],bx (aa k),az.rng cX.ready,(cV d g),(cV d g)] (.lp (gK rfl) (.s (A.ip (au c)) (.s (iA i) (.s (A.ip (au c)) (.s (A.ip (au c)) (.s (A.ip [(iA c.Pair.Synced.1),(iA c.Pair.Synced.2),(im (c.Pair.Told.map ae) false),(im (c.Pair.Spoken.1.map ah) false),(im (c.Pair.Spoken.2.map ah) false),(iA c.who)]) (.gd fun hg=>.st (v:=(A.ip (List.drop (Int.toNat i*1) [(iA c.Pair.Synced.1),(iA c.Pair.Synced.2),(im (c.Pair.Told.map ae) false),(im (c.Pair.Spoken.1.map ah) false),(im (c.Pair.Spoken.2.map ah) false),(iA c.who)]))) (q8 (e:=3) (n:=1) (len:=2) j9 j9 hg) (.a2 (f:=fun (y:Int)=>(iA y)) (fun h=>by rw[h]; kernel_rfl) (fun h=>by rw[h]; kernel_rfl) fun be=>.st (aW ..) (.Lw ?_)))))))))))))))))))
    refine .bg (fun t (y:Bool)=>∃ ar:A,t=[(bA y),ar]) ?_ ?_
    ·refine .AV (fun a5=>?_) (fun a5=>?_)
     ·refine .bb (.s (gp 68 [] [(A.ip [(iA a2.Bar),(iA a2.Program)])]) (.s (ag [(bA d),(iA 0),(iA 0),(iA 0),(iA g.Bar),(iA g.Program)]) (.cr (.uc (.uc (.ra a5 (.vC j9 j9 (.bb (.cl ((aw JG).trans (Td ..)) (.s ((pt 8 0),[bx [(A.ip (au c))],bx [(iA i)],(dF a2),bx [(bA j)],bx (aa k),az.rng cX.busy,(cV d g),(cV d g),(cV d g)]) (.s2 (bA d) (.s (bA (!d)) (.bg (fun t (y:Bool)=>∃ ax ay b0 b1:A,t=[(bA y),ax,ay,b0,b1]) ?_ ?_)))))))))))))
      ·refine .bi ?_ ?_
       ·exact .s (pt 8 4) (.s (ag [(iA g.Bar),(iA g.Program)]) (.s (ag [(iA a2.Bar),(iA a2.Program)]) (.s (bA (((g.Bar==a2.Bar)&&(g.Program==a2.Program)))) (.lg ⟨_,_,_,_,rfl⟩))))
       exact .lg ⟨_,_,_,_,rfl⟩
      rintro _ b7 ⟨ax,ay,b0,b1,rfl⟩
      exact .u4 (.uc (.cr (.lp (by kernel_rfl:_=some (bA b7)) (.cr (.lg ⟨_,rfl⟩)))))
     exact .bb (.cr (.uc (.uc (.q9 a5 (.lg ⟨_,rfl⟩)))))
    rintro _ bf ⟨ar,rfl⟩
    refine .uc (.uc (.bX ?_ ?_))
    ·exact .s [bx [(A.ip (au c))],bx [(iA i)],(dF a2),bx [(bA true)],bx (aa k),az.rng cX.busy,(cV d g),(cV d g)] (.lp (gI rfl) (.cr (.ok (.s (bA true) (.hU (.ex (x0 _ _ _ _ _ _ _ _ _ _ _ _ _)))))))
    refine .lp (gI rfl) (.cr (.ok (.s (bA false) (.kS (.st (aM ..) (.st (v:=[bx [(A.ip (au c))],bx [(iA i)],(dF a2),bx [(bA j)],bx (aa k),az.rng cX.ready]) (eH j9 (by simp only[uB,gx,gy,Nat.reduceLT,Zu,dF])) (.cT ((by kernel_rfl:_=(bif aR 6 (p.map ae) then (bif aR 6 (b6.map ah) then (bif aR 6 (a1.map cB) then true else false) else false) else false)).trans so) ?_)))))))
    exact ih _ _ _
   exact .ex (x1 _ _ _ _ _ _ _ _ _ _ _)
  exact .ex (x2 _ _ _ _ _ _ _ _ _ _)
def wq (n:Nat) (c:aD) (b:Int) (a2:av):Option Bool:=
 bif (decide (0<=b)&&decide (b<2)) then ((jL b c.Pair.Desks.1 c.Pair.Desks.2).bind fun a=>(eN n a2 a.Order ((a.Order.length:Int)) c b false a (n+7) a.Leases a.Calls 0).bind fun d=>match d with | (Sum.inl e)=>some e | (Sum.inr ((Sum.inl _)))=>some false | (Sum.inr ((Sum.inr _)))=>some false) else none
theorem J7 (C:OT) (n:Nat) (a:aD) (c:Int) (a2:av):TJ C n 48 [(A.ip (au a)),(iA c),(gp 68 [] [(A.ip [(iA a2.Bar),(iA a2.Program)])])] (wq n a c a2) (fun y=>(bA y)):=by
 refine .lp (S8 ..) ?_
 unfold wq
 refine .s ((pt 0 0),[bx [(A.ip (au a))]]) (.sq (pt 1 0) (.sq (pt 2 0) (.s ((pt 3 0),[bx [(A.ip (au a))],bx [(iA c)],(dF a2),bx [(bA false)]]) (.s (A.ip (au a)) (.s (iA c) (.s (A.ip (au a)) (.s (A.ip (au a)) (.s (A.ip (au a)) (.gd fun hg=>.st (v:=(A.ip (List.drop (Int.toNat c*4) (au a)))) (q8 (e:=26) (n:=4) (len:=2) j9 j9 hg) (.a2 (f:=fun (y:af)=>(ag [(iA y.Self),(im (y.Leases.map ae) false),(im (y.Calls.map ah) false),(im (y.Order.map cB) false)])) (fun h=>by rw[h]; kernel_rfl) (fun h=>by rw[h]; kernel_rfl) fun b=>.cl ((aw B9).trans (Pu ..)) (.s ((pt 4 0),[bx [(A.ip (au a))],bx [(iA c)],(dF a2),bx [(bA false)],bx (aa b)]) (.cr (.ok (.s (66,[(pt 4 0)]) (.cT j9 (.cl ((kI Cb).trans (Pw ..)) (.s2 (im (b.Leases.map ae) false) (.s2 (im (b.Calls.map ah) false) (.s2 (im (b.Order.map cB) false) (.st (dr (e:=4)) (.as (yc C n _ _ _ _ a2 b.Order ((b.Order.length:Int)) a c false b ?_ ?_ ?_ _ b.Leases b.Calls 0))))))))))))))))))))))
 ·intro d g i j k l o w518 w519 w520 w521 w522 w523
  exact .un rfl (.cr (.ok (.lp (K7 rfl) (.s (bA d) (.lv rfl)))))
 ·intro p q r t u w w530 w531 w532 w533 w534
  exact .un rfl (.cr (.ok (.lp (zM rfl) (.s [w530,w531,w532,bx [(bA false)],w533,az.dead,w534] (.s (bA false) (.lv rfl))))))
 ·intro x z a3 a4 a5 a6 w541 w542 w543 w544
  exact .un rfl (.cT j9 (.cr (.ok (.lp (zM rfl) (.s [w541,w542,w543,bx [(bA false)],w544,az.dead] (.s (bA false) (.lv rfl)))))))
def mJ (a:aD) (b:Int) (a2:av):Option Bool:=wq aA a b a2
def p8 (C:OT):Prop:=∀ (a:aD) (b:Int) (a2:av),C 48 [(A.ip (au a)),(iA b),(gp 68 [] [(A.ip [(iA a2.Bar),(iA a2.Program)])])]=(mJ a b a2).map fun y=>(bA y)
def eO (n:Nat) (a2:al) (g:(List Bool)) (h:Int) (b:aD) (a:Int) (j:Bool) (k:af):Nat->(List al)->(List av)->Int->Option ((Bool)⊕((Unit)⊕(Unit)))
 | 0,_,_,_=>none
 | m+1,d,e,c=>bif (decide (c<h)) then ((bt g c).bind fun f=>(bif f then (some (decide (0<((d.length:Int))))) else (some false)).bind fun l=>bif l then ((bt d 0).bind fun i=>(eJ d 1 ((d.length:Int))).bind fun o=>bif (decide (0<=a)&&decide (a<2)) then ((jL a b.Pair.Synced.1 b.Pair.Synced.2).bind fun p=>(bif (decide (c<p)) then ((bif f then (some (((i.No==a2.No)&&((i.Holder==a2.Holder)&&(i.Until==a2.Until))))) else (some false)).bind fun q=>some q) else (some false)).bind fun r=>bif r then (some ((Sum.inl true))) else (eO n a2 g h b a j k m o e (wr .i64 (c+1)))) else none) else ((bif (!f) then (some (decide (0<((e.length:Int))))) else (some false)).bind fun s=>bif s then ((bt e 0).bind fun x=>(eJ e 1 ((e.length:Int))).bind fun t=>bif (decide (0<=a)&&decide (a<2)) then ((jL a b.Pair.Synced.1 b.Pair.Synced.2).bind fun u=>(bif (decide (c<u)) then ((bif f then (some (((0==a2.No)&&((0==a2.Holder)&&(0==a2.Until))))) else (some false)).bind fun v=>some v) else (some false)).bind fun w=>bif w then (some ((Sum.inl true))) else (eO n a2 g h b a j k m d t (wr .i64 (c+1)))) else none) else (some ((Sum.inr ((Sum.inl (())))))))) else (some ((Sum.inr ((Sum.inr (()))))))
theorem yd (a2:al) (a1:(List Bool)) (a6:Int) (c:aD) (g:Int) (k:Bool) (o:af) {K:((Bool)⊕((Unit)⊕(Unit)))->Option γ} (x0:∀ (o0:Bool) (r:A) (u:A) (w:A) (x:A) (z:A) (a0:A) (q0:az) (q1:az) (q2:az) (q4:az) (q6:az) (q7:az),J φ (kr (St.mk [(0,r),(3,u),(4,w),(13,x),(14,z),(15,a0)] [q0,q1,q2,bx [(bA o0)],q4,az.rng (cX.done IP.ret),q6,q7])) kL (K (Sum.inl o0)) some) (x1:∀ (r:A) (u:A) (w:A) (x:A) (z:A) (a0:A) (q0:az) (q1:az) (q2:az) (q4:az) (q6:az),J φ (kr (St.mk [(0,r),(3,u),(4,w),(13,x),(14,z),(15,a0)] [q0,q1,q2,bx [(bA k)],q4,az.rng cX.ready,q6])) kL (K (Sum.inr ((Sum.inl (()))))) some) (x2:∀ (r:A) (u:A) (w:A) (x:A) (z:A) (a0:A) (q0:az) (q1:az) (q2:az) (q4:az),J φ (kx 0 (St.mk [(0,r),(3,u),(4,w),(13,x),(14,z),(15,a0)] [q0,q1,q2,bx [(bA k)],q4,az.rng cX.ready])) kL (K (Sum.inr ((Sum.inr (()))))) some) :
  ∀ (m:Nat) (p:(List al)) (q:(List av)) (a3:Int),J φ (aH (cx C) (bq (cx C) (n+7) (sx 126 (dS (cx C) (n+8)) 5 (lR (cx C) (ec C n 8) (ey C n 8) (n+8) 48 0 0 5 [(3,(pt 0 0)),(4,(pt 1 0)),(5,(pt 2 0)),(6,(pt 3 0))]))) (bq (cx C) (n+7)) (n+7) 66 0 0 6 kx kg kr kp m (St.mk [(0,(A.yld 5)),(3,(im (p.map ae) false)),(4,(im (q.map ah) false)),(13,(im (a1.map cB) false)),(14,(iA a6)),(15,(iA a3))] [bx [(A.ip (au c))],bx [(iA g)],bx [(gp 69 [] [(A.ip (ae a2))])],bx [(bA k)],bx (aa o),az.rng cX.ready])) kL (eO n a2 a1 a6 c g k o m p q a3) K:=by
  refine nI (fun _ _ _=>.nn) fun m ih p q a3=>.lp (BO ..) ?_
  unfold eO
  refine .st (aW ..) (.bX ?_ ?_)
  ·refine .bd (fa (e:=4) (es:=1)) fun d=>.s (bA d) (.s (ag [(bA d),(iA 0),(iA 0),(iA 0),(iA 0),(iA 0)]) (.sq (pt 6 0) (.s [bx [(A.ip (au c))],bx [(iA g)],bx [(gp 69 [] [(A.ip (ae a2))])],bx [(bA k)],bx (aa o),az.rng cX.ready,bx [(bA d),(iA 0),(iA 0),(iA 0),(iA 0),(iA 0)]] (.bg (fun t (y:Bool)=>∃ a9 ab ad:A,t=[(bA y),a9,ab,ad]) ?_ ?_))))
   ·refine .bi ?_ ?_
    ·exact .st (dr (e:=50)) (.st (cF ..) (.lg ⟨_,_,_,rfl⟩))
    exact .lg ⟨_,_,_,rfl⟩
   rintro _ b8 ⟨a9,ab,ad,rfl⟩
   refine .u4 (.bX ?_ ?_)
   ·refine .bd (fa (e:=50) (es:=3)) fun i=>.s (ag (ae i)) (.bd (fQ (e:=50) (es:=3) (f:=ae) (l:=p) (a:=1) (b:=(p.length:Int)) j9 j9 (fun _=>rfl) (.inr ⟨_,rfl⟩) (.inl ⟨rfl,rfl⟩)) fun b4=>.s (pt 6 1) (.cT j9 (.s [bx [(A.ip (au c))],bx [(iA g)],bx [(gp 69 [] [(A.ip (ae a2))])],bx [(bA k)],bx (aa o),az.rng cX.ready,bx ([(bA d)]++ae i++[(iA 0),(iA 0)])] (.s (ag ([(bA d)]++ae i++[(iA 0),(iA 0)])) (.dY rfl (.cl (yq.trans (lJ.trans (wW C (ec C n 8) (ey C n 8) (n+8) _ _ _ _ _ _ _ _ _ _))) (.cT j9 (.lp (gK rfl) (.sq (pt 7 0) (.s [bx [(A.ip (au c))],bx [(iA g)],bx [(gp 69 [] [(A.ip (ae a2))])],bx [(bA k)],bx (aa o),az.rng cX.ready,bx ([(bA d)]++ae i++[(iA 0),(iA 0)]),bx ([(bA d)]++ae i++[(iA 0),(iA 0)])] (.lp (gK rfl) (.s (A.ip (au c)) (.s (iA g) (.s (A.ip (au c)) (.s (A.ip (au c)) (.s (A.ip [(iA c.Pair.Synced.1),(iA c.Pair.Synced.2),(im (c.Pair.Told.map ae) false),(im (c.Pair.Spoken.1.map ah) false),(im (c.Pair.Spoken.2.map ah) false),(iA c.who)]) (.gd fun hg=>.st (v:=(A.ip (List.drop (Int.toNat g*1) [(iA c.Pair.Synced.1),(iA c.Pair.Synced.2),(im (c.Pair.Told.map ae) false),(im (c.Pair.Spoken.1.map ah) false),(im (c.Pair.Spoken.2.map ah) false),(iA c.who)]))) (q8 (e:=3) (n:=1) (len:=2) j9 j9 hg) (.a2 (f:=fun (y:Int)=>(iA y)) (fun h=>by rw[h]; kernel_rfl) (fun h=>by rw[h]; kernel_rfl) fun b9=>.st (aW ..) (.Lw ?_)))))))))))))))))))
    refine .bg (fun t (y:Bool)=>∃ ai:A,t=[(bA y),ai]) ?_ ?_
    ·refine .AV (fun a4=>?_) (fun a4=>?_)
     ·refine .bb (.s (gp 69 [] [(A.ip (ae a2))]) (.s (ag ([(bA d)]++ae i++[(iA 0),(iA 0)])) (.cr (.uc (.uc (.ra a4 (.vC j9 j9 (.bb (.cl ((aw JH).trans (Te ..)) (.s ((pt 8 0),[bx [(A.ip (au c))],bx [(iA g)],bx [(gp 69 [] [(A.ip (ae a2))])],bx [(bA k)],bx (aa o),az.rng cX.busy,bx ([(bA d)]++ae i++[(iA 0),(iA 0)]),bx ([(bA d)]++ae i++[(iA 0),(iA 0)]),bx ([(bA d)]++ae i++[(iA 0),(iA 0)])]) (.s2 (bA d) (.bg (fun t (y:Bool)=>∃ aj ak am an:A,t=[(bA y),aj,ak,am,an]) ?_ ?_))))))))))))
      ·refine .bi ?_ ?_
       ·exact .s (pt 8 1) (.s (ag (ae i)) (.s (ag (ae a2)) (.s (bA (((i.No==a2.No)&&((i.Holder==a2.Holder)&&(i.Until==a2.Until))))) (.lg ⟨_,_,_,_,rfl⟩))))
       exact .lg ⟨_,_,_,_,rfl⟩
      rintro _ b5 ⟨aj,ak,am,an,rfl⟩
      exact .u4 (.uc (.cr (.lp (by kernel_rfl:_=some (bA b5)) (.cr (.lg ⟨_,rfl⟩)))))
     exact .bb (.cr (.uc (.uc (.q9 a4 (.lg ⟨_,rfl⟩)))))
    rintro _ ba ⟨ai,rfl⟩
    refine .uc (.uc (.bX ?_ ?_))
    ·exact .s [bx [(A.ip (au c))],bx [(iA g)],bx [(gp 69 [] [(A.ip (ae a2))])],bx [(bA true)],bx (aa o),az.rng cX.busy,bx ([(bA d)]++ae i++[(iA 0),(iA 0)]),bx ([(bA d)]++ae i++[(iA 0),(iA 0)])] (.lp (gI rfl) (.cr (.ok (.s (bA true) (.hU (.ex (x0 _ _ _ _ _ _ _ _ _ _ _ _ _)))))))
    refine .lp (gI rfl) (.cr (.ok (.s (bA false) (.kS (.st (aM ..) (.st (v:=[bx [(A.ip (au c))],bx [(iA g)],bx [(gp 69 [] [(A.ip (ae a2))])],bx [(bA k)],bx (aa o),az.rng cX.ready]) (eH j9 u2) (.cT ((by kernel_rfl:_=(bif aR 6 (b4.map ae) then (bif aR 6 (q.map ah) then (bif aR 6 (a1.map cB) then true else false) else false) else false)).trans so) ?_)))))))
    exact ih _ _ _
   refine .s (bA (!d)) (.bg (fun t (y:Bool)=>∃ ao ap aq:A,t=[(bA y),ao,ap,aq]) ?_ ?_)
   ·refine .bi ?_ ?_
    ·exact .st (dr (e:=54)) (.st (cF ..) (.lg ⟨_,_,_,rfl⟩))
    exact .lg ⟨_,_,_,rfl⟩
   rintro _ bc ⟨ao,ap,aq,rfl⟩
   refine .u4 (.bX ?_ ?_)
   ·refine .bd (fa (e:=54) (es:=2)) fun j=>.s (ag [(iA j.Bar),(iA j.Program)]) (.bd (fQ (e:=54) (es:=2) (f:=ah) (l:=q) (a:=1) (b:=(q.length:Int)) j9 j9 (fun _=>rfl) (.inr ⟨_,rfl⟩) (.inl ⟨rfl,rfl⟩)) fun b6=>.s (pt 6 4) (.cT j9 (.s [bx [(A.ip (au c))],bx [(iA g)],bx [(gp 69 [] [(A.ip (ae a2))])],bx [(bA k)],bx (aa o),az.rng cX.ready,(cV d j)] (.s (ag [(bA d),(iA 0),(iA 0),(iA 0),(iA j.Bar),(iA j.Program)]) (.dY rfl (.cl (yq.trans (lJ.trans (wW C (ec C n 8) (ey C n 8) (n+8) _ _ _ _ _ _ _ _ _ _))) (.cT j9 (.lp (gK rfl) (.sq (pt 7 0) (.s [bx [(A.ip (au c))],bx [(iA g)],bx [(gp 69 [] [(A.ip (ae a2))])],bx [(bA k)],bx (aa o),az.rng cX.ready,(cV d j),(cV d j)] (.lp (gK rfl) (.s (A.ip (au c)) (.s (iA g) (.s (A.ip (au c)) (.s (A.ip (au c)) (.s (A.ip [(iA c.Pair.Synced.1),(iA c.Pair.Synced.2),(im (c.Pair.Told.map ae) false),(im (c.Pair.Spoken.1.map ah) false),(im (c.Pair.Spoken.2.map ah) false),(iA c.who)]) (.gd fun hg=>.st (v:=(A.ip (List.drop (Int.toNat g*1) [(iA c.Pair.Synced.1),(iA c.Pair.Synced.2),(im (c.Pair.Told.map ae) false),(im (c.Pair.Spoken.1.map ah) false),(im (c.Pair.Spoken.2.map ah) false),(iA c.who)]))) (q8 (e:=3) (n:=1) (len:=2) j9 j9 hg) (.a2 (f:=fun (y:Int)=>(iA y)) (fun h=>by rw[h]; kernel_rfl) (fun h=>by rw[h]; kernel_rfl) fun be=>.st (aW ..) (.Lw ?_)))))))))))))))))))
    refine .bg (fun t (y:Bool)=>∃ ar:A,t=[(bA y),ar]) ?_ ?_
    ·refine .AV (fun a5=>?_) (fun a5=>?_)
     ·refine .bb (.s (gp 69 [] [(A.ip (ae a2))]) (.s (ag [(bA d),(iA 0),(iA 0),(iA 0),(iA j.Bar),(iA j.Program)]) (.cr (.uc (.uc (.ra a5 (.vC j9 j9 (.bb (.cl ((aw JH).trans (Te ..)) (.s ((pt 8 0),[bx [(A.ip (au c))],bx [(iA g)],bx [(gp 69 [] [(A.ip (ae a2))])],bx [(bA k)],bx (aa o),az.rng cX.busy,(cV d j),(cV d j),(cV d j)]) (.s2 (bA d) (.bg (fun t (y:Bool)=>∃ ax ay b0 b1:A,t=[(bA y),ax,ay,b0,b1]) ?_ ?_))))))))))))
      ·refine .bi ?_ ?_
       ·exact .s (pt 8 1) (.s (ag [(iA 0),(iA 0),(iA 0)]) (.s (ag (ae a2)) (.s (bA (((0==a2.No)&&((0==a2.Holder)&&(0==a2.Until))))) (.lg ⟨_,_,_,_,rfl⟩))))
       exact .lg ⟨_,_,_,_,rfl⟩
      rintro _ b7 ⟨ax,ay,b0,b1,rfl⟩
      exact .u4 (.uc (.cr (.lp (by kernel_rfl:_=some (bA b7)) (.cr (.lg ⟨_,rfl⟩)))))
     exact .bb (.cr (.uc (.uc (.q9 a5 (.lg ⟨_,rfl⟩)))))
    rintro _ bf ⟨ar,rfl⟩
    refine .uc (.uc (.bX ?_ ?_))
    ·exact .s [bx [(A.ip (au c))],bx [(iA g)],bx [(gp 69 [] [(A.ip (ae a2))])],bx [(bA true)],bx (aa o),az.rng cX.busy,(cV d j),(cV d j)] (.lp (gI rfl) (.cr (.ok (.s (bA true) (.hU (.ex (x0 _ _ _ _ _ _ _ _ _ _ _ _ _)))))))
    refine .lp (gI rfl) (.cr (.ok (.s (bA false) (.kS (.st (aM ..) (.st (v:=[bx [(A.ip (au c))],bx [(iA g)],bx [(gp 69 [] [(A.ip (ae a2))])],bx [(bA k)],bx (aa o),az.rng cX.ready]) (eH j9 u2) (.cT ((by kernel_rfl:_=(bif aR 6 (p.map ae) then (bif aR 6 (b6.map ah) then (bif aR 6 (a1.map cB) then true else false) else false) else false)).trans so) ?_)))))))
    exact ih _ _ _
   exact .ex (x1 _ _ _ _ _ _ _ _ _ _ _)
  exact .ex (x2 _ _ _ _ _ _ _ _ _ _)
def wv (n:Nat) (c:aD) (b:Int) (a2:al):Option Bool:=
 bif (decide (0<=b)&&decide (b<2)) then ((jL b c.Pair.Desks.1 c.Pair.Desks.2).bind fun a=>(eO n a2 a.Order ((a.Order.length:Int)) c b false a (n+7) a.Leases a.Calls 0).bind fun d=>match d with | (Sum.inl e)=>some e | (Sum.inr ((Sum.inl _)))=>some false | (Sum.inr ((Sum.inr _)))=>some false) else none
theorem J8 (C:OT) (n:Nat) (a:aD) (c:Int) (a2:al):TJ C n 48 [(A.ip (au a)),(iA c),(gp 69 [] [(A.ip (ae a2))])] (wv n a c a2) (fun y=>(bA y)):=by
 refine .lp (S8 ..) ?_
 unfold wv
 refine .s ((pt 0 0),[bx [(A.ip (au a))]]) (.sq (pt 1 0) (.sq (pt 2 0) (.s ((pt 3 0),[bx [(A.ip (au a))],bx [(iA c)],bx [(gp 69 [] [(A.ip (ae a2))])],bx [(bA false)]]) (.s (A.ip (au a)) (.s (iA c) (.s (A.ip (au a)) (.s (A.ip (au a)) (.s (A.ip (au a)) (.gd fun hg=>.st (v:=(A.ip (List.drop (Int.toNat c*4) (au a)))) (q8 (e:=26) (n:=4) (len:=2) j9 j9 hg) (.a2 (f:=fun (y:af)=>(ag [(iA y.Self),(im (y.Leases.map ae) false),(im (y.Calls.map ah) false),(im (y.Order.map cB) false)])) (fun h=>by rw[h]; kernel_rfl) (fun h=>by rw[h]; kernel_rfl) fun b=>.cl ((aw B9).trans (Pu ..)) (.s ((pt 4 0),[bx [(A.ip (au a))],bx [(iA c)],bx [(gp 69 [] [(A.ip (ae a2))])],bx [(bA false)],bx (aa b)]) (.cr (.ok (.s (66,[(pt 4 0)]) (.cT j9 (.cl ((kI Cb).trans (Pw ..)) (.s2 (im (b.Leases.map ae) false) (.s2 (im (b.Calls.map ah) false) (.s2 (im (b.Order.map cB) false) (.st (dr (e:=4)) (.as (yd C n _ _ _ _ a2 b.Order ((b.Order.length:Int)) a c false b ?_ ?_ ?_ _ b.Leases b.Calls 0))))))))))))))))))))))
 ·intro d g i j k l o w518 w519 w520 w521 w522 w523
  exact .un rfl (.cr (.ok (.lp (K7 rfl) (.s (bA d) (.lv rfl)))))
 ·intro p q r t u w w530 w531 w532 w533 w534
  exact .un rfl (.cr (.ok (.lp (zM rfl) (.s [w530,w531,w532,bx [(bA false)],w533,az.dead,w534] (.s (bA false) (.lv rfl))))))
 ·intro x z a3 a4 a5 a6 w541 w542 w543 w544
  exact .un rfl (.cT j9 (.cr (.ok (.lp (zM rfl) (.s [w541,w542,w543,bx [(bA false)],w544,az.dead] (.s (bA false) (.lv rfl)))))))
def mK (a:aD) (b:Int) (a2:al):Option Bool:=wv aA a b a2
def sN (C:OT):Prop:=∀ (a:aD) (b:Int) (a2:al),C 48 [(A.ip (au a)),(iA b),(gp 69 [] [(A.ip (ae a2))])]=(mK a b a2).map fun y=>(bA y)
def kz (n:Nat) (d:(List al)) (e:Int) (a:al):Nat->Int->Option ((Int)⊕(Unit))
 | 0,_=>none
 | m+1,b=>bif (decide (b<e)) then ((bt d b).bind fun c=>bif (((a.No==c.No)&&((a.Holder==c.Holder)&&(a.Until==c.Until)))) then (some ((Sum.inl b))) else (kz n d e a m (wr .i64 (b+1)))) else (some ((Sum.inr (()))))
theorem EA {PJ:A} (i:(List al)) (j:Int) (a:al) {K:((Int)⊕(Unit))->Option γ} (l:∀ (k:Int) (c:A) (d:A) (f:A) (g:A) (q0:az),J φ (kr (St.mk [(0,c),(3,d),(4,(iA k)),(7,f),(8,g)] [q0])) kL (K (Sum.inl k)) some) (o:∀ (c:A) (d:A) (p:A) (f:A) (g:A) (q0:az),J φ (kx 0 (St.mk [(0,c),(3,d),(4,p),(7,f),(8,g)] [q0])) kL (K (Sum.inr (()))) some) :
  ∀ (m:Nat) (h:Int),J φ (aH (cx C) (ec C n 8) (ey C n 8) (n+8) 88 0 0 1 kx kg kr kp m (St.mk [(0,(im (i.map ae) false)),(3,(pt 0 0)),(4,PJ),(7,(iA j)),(8,(iA h))] [bx (ae a)])) kL (kz n i j a m h) K:=by
  refine nI (fun _=>.nn) fun m ih h=>.lp (MS ..) ?_
  unfold kz
  refine .st (aW ..) (.bX ?_ ?_)
  ·refine .s (ag (ae a)) (.bd (fa (e:=50) (es:=3)) fun b=>.s (ag (ae b)) (.s (bA (((a.No==b.No)&&((a.Holder==b.Holder)&&(a.Until==b.Until))))) (.bX ?_ ?_)))
   ·exact .ex (l _ _ _ _ _ _)
   refine .st (aM ..) (.s [bx (ae a)] (.cT j9 ?_))
   exact ih _
  exact .ex (o _ _ _ _ _ _)
def Pg (n:Nat) (a:(List al)) (b:al):Option Int:=
 (kz n a ((a.length:Int)) b (n+8) 0).bind fun c=>match c with | (Sum.inl d)=>some d | (Sum.inr _)=>some (-1)
theorem VP (C:OT) (n:Nat) (a:(List al)) (b:al):TJ C n 88 [(im (a.map ae) false),(ag (ae b))] (Pg n a b) (fun y=>(iA y)):=by
 refine .lp (WX ..) ?_
 unfold Pg
 refine .s ((pt 0 0),[bx (ae b)]) (.st (dr (e:=50)) (.as (EA C n _ _ _ _ a ((a.length:Int)) b ?_ ?_ _ 0)))
 ·intro c d f g h w46
  exact .un rfl (.lv rfl)
 ·intro i j k l o w52
  exact .un rfl (.cT j9 (.lv rfl))
def Pn (a:(List al)) (b:al):Option Int:=Pg aA a b
def Jb (C:OT):Prop:=∀ (a:(List al)) (b:al),C 88 [(im (a.map ae) false),(ag (ae b))]=(Pn a b).map fun y=>(iA y)
def O5 (n:Nat) (a:(List al)) (b:al):Option Bool:=
 (Pn a b).bind fun c=>some (decide (0<=c))
theorem VE (C:OT) (n:Nat) (c:Jb C) (b:(List al)) (a:al):TJ C n 71 [(im (b.map ae) false),(ag (ae a))] (O5 n b a) (fun y=>(bA y)):=by
 refine .lp (WH ..) ?_
 unfold O5
 exact .s ((pt 0 0),[bx (ae a)]) (.s (ag (ae a)) (.bd (g:=fun (y:Int)=>(iA y)) (by simp only[bJ,dg]; exact c b a) fun d=>.st (fj ..) (.lv rfl)))
def LO (a:(List al)) (b:al):Option Bool:=O5 aA a b
def I7 (C:OT):Prop:=∀ (a:(List al)) (b:al),C 71 [(im (a.map ae) false),(ag (ae b))]=(LO a b).map fun y=>(bA y)
def OS (n:Nat) (a:af) (e:al):Option (af×Int):=
 (DE a).bind fun i=>bif (!(i==0)) then ((some ((0,530))).bind fun f=>some (((af.mk f.1 ([]) ([]) ([])),f.2))) else ((LO a.Leases e).bind fun j=>bif j then ((some ((a.Self,a.Leases,a.Calls,a.Order,0))).bind fun b=>some (((af.mk b.1 b.2.1 b.2.2.1 b.2.2.2.1),b.2.2.2.2))) else ((bt a.Leases (wr .i64 (((a.Leases.length:Int)) - 1))).bind fun k=>(bif (k.Holder != a.Self) then ((IJ a e).bind fun l=>some l) else (some false)).bind fun o=>bif (!o) then ((some ((0,530))).bind fun g=>some (((af.mk g.1 ([]) ([]) ([])),g.2))) else (bif (!(decide (((a.Leases.length:Int))<256))) then ((some ((0,2))).bind fun h=>some (((af.mk h.1 ([]) ([]) ([])),h.2))) else ((CL a ((ar.mk true e ((av.mk 0 0))))).bind fun d=>(some ((d.Self,d.Leases,d.Calls,d.Order,0))).bind fun c=>some (((af.mk c.1 c.2.1 c.2.2.1 c.2.2.2.1),c.2.2.2.2))))))
theorem Vs (C:OT) (n:Nat) (o:p7 C) (p:xU C) (q:rI C) (r:I7 C) (a:af) (b:al):TJ C n 52 [(ag (aa a)),(ag (ae b))] (OS n a b) (fun y=>(tp [(ag (aa y.1)),(iA y.2)])):=by
 refine .lp (Wu ..) ?_
 unfold OS
 refine .s ((pt 0 0),[bx (aa a)]) (.sq (pt 1 0) (.sq (pt 2 0) (.s ((pt 3 0),[bx (aa a),bx (ae b),bx [(iA 0),XU,XU,XU],bx [(iA 0)]]) (.s (ag (aa a)) (.bd (g:=fun (y:Int)=>(iA y)) (by simp only[bJ,dg]; exact o a) fun u=>.st (aV ..) (.cl ((aw gq).trans (tn ..)) (.s (bA (!(u==0))) (.bX ?_ ?_))))))))
 ·refine .s (A.ifc 36 (iA 530)) (.pk (.cr (.gZ (.s cg (.bg (fun t (y:Int×Int) =>  t=(tp [(ag [(iA y.1),XU,XU,XU]),(iA y.2)])) ?_ ?_)))))
  ·exact .cl ((aw og).trans (EW ..)) (.sq (pt 4 0) (.s ((pt 5 0),[bx (aa a),bx (ae b),bx [(iA 0),XU,XU,XU],bx [(iA 0)],bx [(iA 0),XU,XU,XU],bx [(iA 0),XU,XU,XU]]) (.cl ((aw dT).trans (nT ..)) (.s (bA false) (.kS (.s (tp [(iA 530),(bA true)]) (.s (bA true) (.s (iA 530) (.hU (.cr (.ok (.s (bA true) (.hU (.s cg (.s [bx (aa a),bx (ae b),bx [(iA 0),XU,XU,XU],bx [(iA 0)],bx [(iA 0),XU,XU,XU],bx [(iA 0),XU,XU,XU]] (.s cg (.cr (.lp (by kernel_rfl:_=some (tp [cg,(iA 530)])) (.lg rfl)))))))))))))))))))
  rintro _ h rfl
  exact .s (ag [(iA h.1),XU,XU,XU]) (.s (iA h.2) (.sh (.s [bx (aa a),bx (ae b),bx [(iA h.1),XU,XU,XU],bx [(iA h.2)]] (.s (ag [(iA h.1),XU,XU,XU]) (.s (iA h.2) (.lv r9))))))
 refine .cr (.ok (.s2 (im (a.Leases.map ae) false) (.s (ag (ae b)) (.bd (g:=fun (y:Bool)=>(bA y)) (by simp only[bJ,dg]; exact r a.Leases b) fun z=>.bX ?_ ?_))))
 ·refine .s (ag (aa a)) (.sh (.s [bx (aa a),bx (ae b),bx (aa a),bx [(iA 0)]] (.s (ag (aa a)) (.bg (fun t (y:Int×(List al)×(List av)×(List Bool)×Int) =>  t=(tp [(ag [(iA y.1),(im (y.2.1.map ae) false),(im (y.2.2.1.map ah) false),(im (y.2.2.2.1.map cB) false)]),(iA y.2.2.2.2)])) ?_ ?_))))
  ·exact .cl ((aw og).trans (EW ..)) (.sq (pt 4 0) (.sq (pt 5 0) (.cl ((aw dT).trans (nT ..)) (.s (bA true) (.hU (.cr (.ok (.s (bA false) (.kS (.s (ag (aa a)) (.s [bx (aa a),bx (ae b),bx (aa a),bx [(iA 0)],bx (aa a),bx (aa a)] (.s (ag (aa a)) (.cr (.lp (Ir (v:=(tp [(ag (aa a)),(iA 0)])) u2) (.lg rfl)))))))))))))))
  rintro _ c rfl
  exact .s (ag [(iA c.1),(im (c.2.1.map ae) false),(im (c.2.2.1.map ah) false),(im (c.2.2.2.1.map cB) false)]) (.s (iA c.2.2.2.2) (.sh (.s [bx (aa a),bx (ae b),bx [(iA c.1),(im (c.2.1.map ae) false),(im (c.2.2.1.map ah) false),(im (c.2.2.2.1.map cB) false)],bx [(iA c.2.2.2.2)]] (.s (ag [(iA c.1),(im (c.2.1.map ae) false),(im (c.2.2.1.map ah) false),(im (c.2.2.2.1.map cB) false)]) (.s (iA c.2.2.2.2) (.lv r9))))))
 refine .s2 (im (a.Leases.map ae) false) (.s2 (im (a.Leases.map ae) false) (.st (dr (e:=50)) (.st (du ..) (.bd (fa (e:=50) (es:=3)) fun w=>.s2 (iA w.Holder) (.s2 (iA a.Self) (.st (bf ..) (.Lw (.bg (fun t (y:Bool)=>∃ l:A,t=[(bA y),l]) ?_ ?_))))))))
 ·refine .AV (fun k=>?_) (fun k=>?_)
  ·exact .bb (.s (ag (aa a)) (.s (ag (ae b)) (.cr (.uc (.uc (.ra k (.bd (g:=fun (y:Bool)=>(bA y)) (by simp only[bJ,dg]; exact p a b) fun a2=>.lg ⟨_,rfl⟩)))))))
  exact .bb (.cr (.uc (.uc (.q9 k (.lg ⟨_,rfl⟩)))))
 rintro _ x ⟨l,rfl⟩
 refine .uc (.uc (.cl ((aw gq).trans (tn ..)) (.s (bA (!x)) (.bX ?_ ?_))))
 ·refine .s (A.ifc 36 (iA 530)) (.pk (.cr (.gZ (.s cg (.bg (fun t (y:Int×Int) =>  t=(tp [(ag [(iA y.1),XU,XU,XU]),(iA y.2)])) ?_ ?_)))))
  ·exact .cl ((aw og).trans (EW ..)) (.sq (pt 4 0) (.s ((pt 5 0),[bx (aa a),bx (ae b),bx [(iA 0),XU,XU,XU],bx [(iA 0)],bx [(iA 0),XU,XU,XU],bx [(iA 0),XU,XU,XU]]) (.cl ((aw dT).trans (nT ..)) (.s (bA false) (.kS (.s (tp [(iA 530),(bA true)]) (.s (bA true) (.s (iA 530) (.hU (.cr (.ok (.s (bA true) (.hU (.s cg (.s [bx (aa a),bx (ae b),bx [(iA 0),XU,XU,XU],bx [(iA 0)],bx [(iA 0),XU,XU,XU],bx [(iA 0),XU,XU,XU]] (.s cg (.cr (.lp (by kernel_rfl:_=some (tp [cg,(iA 530)])) (.lg rfl)))))))))))))))))))
  rintro _ i rfl
  exact .s (ag [(iA i.1),XU,XU,XU]) (.s (iA i.2) (.sh (.s [bx (aa a),bx (ae b),bx [(iA i.1),XU,XU,XU],bx [(iA i.2)]] (.s (ag [(iA i.1),XU,XU,XU]) (.s (iA i.2) (.lv r9))))))
 refine .cr (.ok (.s2 (im (a.Leases.map ae) false) (.st (dr (e:=50)) (.st (aW ..) (.cl ((aw gq).trans (tn ..)) (.s (bA (!(decide (((a.Leases.length:Int))<256)))) (.bX ?_ ?_)))))))
 ·refine .s (A.ifc 36 (iA 2)) (.pk (.cr (.gZ (.s cg (.bg (fun t (y:Int×Int) =>  t=(tp [(ag [(iA y.1),XU,XU,XU]),(iA y.2)])) ?_ ?_)))))
  ·exact .cl ((aw og).trans (EW ..)) (.sq (pt 4 0) (.s ((pt 5 0),[bx (aa a),bx (ae b),bx [(iA 0),XU,XU,XU],bx [(iA 0)],bx [(iA 0),XU,XU,XU],bx [(iA 0),XU,XU,XU]]) (.cl ((aw dT).trans (nT ..)) (.s (bA false) (.kS (.s (tp [(iA 2),(bA true)]) (.s (bA true) (.s (iA 2) (.hU (.cr (.ok (.s (bA true) (.hU (.s cg (.s [bx (aa a),bx (ae b),bx [(iA 0),XU,XU,XU],bx [(iA 0)],bx [(iA 0),XU,XU,XU],bx [(iA 0),XU,XU,XU]] (.s cg (.cr (.lp (by kernel_rfl:_=some (tp [cg,(iA 2)])) (.lg rfl)))))))))))))))))))
  rintro _ j rfl
  exact .s (ag [(iA j.1),XU,XU,XU]) (.s (iA j.2) (.sh (.s [bx (aa a),bx (ae b),bx [(iA j.1),XU,XU,XU],bx [(iA j.2)]] (.s (ag [(iA j.1),XU,XU,XU]) (.s (iA j.2) (.lv r9))))))
 refine .cr (.ok (.s (ag (aa a)) (.s (ag (ae b)) (.s (ag ([(bA true)]++ae b++[(iA 0),(iA 0)])) (.bd (g:=fun (y:af)=>(ag (aa y))) (by simp only[bJ,dg]; exact q a ((ar.mk true b ((av.mk 0 0))))) fun f=>.sh (.s [bx (aa a),bx (ae b),bx (aa f),bx [(iA 0)]] (.s (ag (aa f)) (.bg (fun t (y:Int×(List al)×(List av)×(List Bool)×Int) =>  t=(tp [(ag [(iA y.1),(im (y.2.1.map ae) false),(im (y.2.2.1.map ah) false),(im (y.2.2.2.1.map cB) false)]),(iA y.2.2.2.2)])) ?_ ?_))))))))
 ·exact .cl ((aw og).trans (EW ..)) (.sq (pt 4 0) (.sq (pt 5 0) (.cl ((aw dT).trans (nT ..)) (.s (bA true) (.hU (.cr (.ok (.s (bA false) (.kS (.s (ag (aa f)) (.s [bx (aa a),bx (ae b),bx (aa f),bx [(iA 0)],bx (aa f),bx (aa f)] (.s (ag (aa f)) (.cr (.lp (Ir (v:=(tp [(ag (aa f)),(iA 0)])) u2) (.lg rfl)))))))))))))))
 rintro _ d rfl
 exact .s (ag [(iA d.1),(im (d.2.1.map ae) false),(im (d.2.2.1.map ah) false),(im (d.2.2.2.1.map cB) false)]) (.s (iA d.2.2.2.2) (.sh (.s [bx (aa a),bx (ae b),bx [(iA d.1),(im (d.2.1.map ae) false),(im (d.2.2.1.map ah) false),(im (d.2.2.2.1.map cB) false)],bx [(iA d.2.2.2.2)]] (.s (ag [(iA d.1),(im (d.2.1.map ae) false),(im (d.2.2.1.map ah) false),(im (d.2.2.2.1.map cB) false)]) (.s (iA d.2.2.2.2) (.lv r9))))))
def LF (a:af) (b:al):Option (af×Int):=OS aA a b
def IX (C:OT):Prop:=∀ (a:af) (b:al),C 52 [(ag (aa a)),(ag (ae b))]=(LF a b).map fun y=>(tp [(ag (aa y.1)),(iA y.2)])
end Go.Proofs.YtdmgdjnadbakfaaGreat
