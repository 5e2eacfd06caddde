/-
 The program's functions as plain functions: by a tool; each follows the interpreter.
-/
import Derived.Test.YtdmgdjnadbakfaaE
import Derived.KernelRfl
namespace Go.Proofs.Ytdmgdjnadbakfaa
open Go.Proofs.Try (prog)
set_option linter.unusedVariables false
set_option linter.unusedSimpArgs false
set_option maxHeartbeats 4000000
set_option maxRecDepth 100000
variable (C:Nat->List A->Option A) (n:Nat) {ρ γ:Type} {φ:ρ->γ->Prop} {kL:R->Option ρ} (kx kg:Nat->St->Option R) (kr:St->Option R) (kp:A->St->Option R)
abbrev OT:=Nat->List A->Option A
abbrev zB:=ByteArray.empty
abbrev sA (s:ByteArray):A:=.v (.string s)
abbrev se:A:=sA zB
abbrev im:=A.imm
abbrev ag:=A.agg
abbrev pt:=A.ptr
abbrev tp:=A.tup
abbrev cH:=A.sl
abbrev bx:=aD.box
abbrev fk (k:Nat) (a b:List A):A:=A.fn (Fn.func k) a b
abbrev Pg:aD:=aD.box [(A.imm [] true),(A.imm [] true),(iA 0),(bA false)]
abbrev Pf:aD:=aD.box [(A.imm [] true),(iA 0),(iA 0)]
noncomputable abbrev ec (C:Nat->List A->Option A) (n k:Nat):=aO (cx C) (n+k)
noncomputable abbrev ey (C:Nat->List A->Option A) (n k:Nat):=aA (cx C) (n+k)
structure ar where
 Kind:Int
 N:Int
 S:ByteArray
 L:(List ar)
 deriving Inhabited
mutual
def du:ar->A
 | .mk _ _ _ l=>.imm (cf l) false
def cf:List ar->List (List A)
 | []=>[]
 | x :: r=>[(iA x.Kind),(iA x.N),(sA x.S),du x] :: cf r
end
def aw (x:ar):List A:=[(iA x.Kind),(iA x.N),(sA x.S),du x]
theorem rX:∀ (l:List ar),cf l=l.map aw
 | []=>by rw[cf]; rfl
 | x :: r=>by rw[cf,rX r]; rfl
theorem yI (x:ar):du x=.imm (x.L.map aw) false:=by
 cases x; rw[du,rX]
theorem lS (x:ar):aw x=[(iA x.Kind),(iA x.N),(sA x.S),.imm (x.L.map aw) false]:=by
 show [(iA x.Kind),(iA x.N),(sA x.S),du x]=_
 rw[yI]
theorem lR (o:Option ar):(o.map fun x=>A.ip (aw x))=o.map fun x=>A.ip [(iA x.Kind),(iA x.N),(sA x.S),.imm (x.L.map aw) false]:=by
 cases o with
 | none=>rfl
 | some x=>exact congrArg (fun z=>some (A.ip z)) (lS x)
theorem yg:mo aw:=fun x=>by rw[lS]; rfl
mutual
theorem sK (L:Nat):∀ (x:ar),A.under L (du x)=true
 | .mk _ _ _ l=>by rw[du,A.under]; exact sO L l
theorem sO (L:Nat):∀ (l:List ar),aG L (cf l)=true
 | []=>by rw[cf]; rfl
 | x :: r=>by rw[cf,aG,sO L r]; simp only[aZ,A.under,sK L x,Bool.and_true,Bool.and_self]
end
mutual
theorem sB (g:Nat->Nat->Nat->A):∀ (x:ar),cG g (du x)=du x
 | .mk _ _ _ l=>by rw[du,cG,sJ g l]
theorem sJ (g:Nat->Nat->Nat->A):∀ (l:List ar),dm g (cf l)=cf l
 | []=>by rw[cf]; rfl
 | x :: r=>by rw[cf,dm,sJ g r]; simp only[aU,cG,sB g x]
end
theorem dt:dn aw:=fun L x=>by unfold aw; simp only[aZ,A.under,sK L x,Bool.and_true,Bool.and_self]
theorem c7:bQ aw:=fun g x=>by unfold aw; simp only[aU,cG,sB g x]
mutual
theorem rP:∀ (x y:ar),du x=du y->x.L=y.L
 | .mk xKind xN xS l,.mk yKind yN yS l'=>fun h=>by
  rw[du,du,A.imm.injEq] at h
  exact rU l l' h.1
theorem rU:∀ (l l':List ar),cf l=cf l'->l=l'
 | [],[]=>fun _=>rfl
 | [],y :: r=>fun h=>by rw[cf,cf] at h; cases h
 | x :: r,[]=>fun h=>by rw[cf,cf] at h; cases h
 | x :: r,y :: r'=>fun h=>by
  rw[cf,cf,List.cons.injEq] at h
  have h2:=rU r r' h.2
  have h1:=h.1
  simp only[List.cons.injEq,A.v.injEq,Value.int.injEq,Value.bool.injEq,Value.string.injEq,and_true,true_and] at h1
  have h3:=rP x y (by simp[h1])
  rw[h2]
  congr 1
  obtain ⟨xKind,xN,xS,lx⟩:=x; obtain ⟨yKind,yN,yS,ly⟩:=y
  simp_all
end
theorem zJ {T:Type} {f:T->List A} {H:ay} {l:List T} {rows:List (List A)} {c:Bool} (h:l.map f=rows):qh H (.imm rows c) f l:=by
 rw[<-h]; exact b8 ..
structure bj where
 Kind:Int
 Who:Int
 A:Int
 B:Int
 deriving DecidableEq,Inhabited
def al (x:bj):List A:=[(iA x.Kind),(iA x.Who),(iA x.A),(iA x.B)]
theorem dZ:dn al:=fun _ _=>by simp only[al,aZ,A.under,dc,kS,kQ,kR,kU,kT,Bool.and_true,Bool.true_and,dt]
theorem dX:bQ al:=fun _ _=>by simp only[al,cG,aU,cN,kM,eS,iG,kN,fV,c7]
structure ak where
 No:Int
 Holder:Int
 Until:Int
 deriving DecidableEq,Inhabited
def ae (x:ak):List A:=[(iA x.No),(iA x.Holder),(iA x.Until)]
theorem yf:mo ae:=fun _=>rfl
theorem dR:dn ae:=fun _ _=>by simp only[ae,aZ,A.under,dc,kS,kQ,kR,kU,kT,Bool.and_true,Bool.true_and,dt,dZ]
theorem cA:bQ ae:=fun _ _=>by simp only[ae,cG,aU,cN,kM,eS,iG,kN,fV,c7,dX]
structure av where
 Bar:Int
 Program:Int
 deriving DecidableEq,Inhabited
def af (x:av):List A:=[(iA x.Bar),(iA x.Program)]
theorem AN:mo af:=fun _=>rfl
theorem eU:dn af:=fun _ _=>by simp only[af,aZ,A.under,dc,kS,kQ,kR,kU,kT,Bool.and_true,Bool.true_and,dt,dZ,dR]
theorem cR:bQ af:=fun _ _=>by simp only[af,cG,aU,cN,kM,eS,iG,kN,fV,c7,dX,cA]
structure ah where
 Self:Int
 Leases:(List ak)
 Calls:(List av)
 Order:(List Bool)
 deriving DecidableEq,Inhabited
def aa (x:ah):List A:=[(iA x.Self),(im (List.map ae x.Leases) false),(im (List.map af x.Calls) false),(im (List.map cB x.Order) false)]
theorem dH:dn aa:=fun _ _=>by simp only[aa,aZ,A.under,dc,kS,kQ,kR,kU,kT,Bool.and_true,Bool.true_and,dt,dZ,dR,eU]
theorem dG:bQ aa:=fun _ _=>by simp only[aa,cG,aU,cN,kM,eS,iG,kN,fV,c7,dX,cA,cR]
structure aj where
 is:Bool
 lease:ak
 call:av
 deriving DecidableEq,Inhabited
def az (x:aj):List A:=[(bA x.is),(iA x.lease.No),(iA x.lease.Holder),(iA x.lease.Until),(iA x.call.Bar),(iA x.call.Program)]
theorem cE:dn az:=fun _ _=>by simp only[az,aZ,A.under,dc,kS,kQ,kR,kU,kT,Bool.and_true,Bool.true_and,dt,dZ,dR,eU,dH]
theorem cC:bQ az:=fun _ _=>by simp only[az,cG,aU,cN,kM,eS,iG,kN,fV,c7,dX,cA,cR,dG]
structure eO where
 rest:(List UInt8)
 deriving DecidableEq,Inhabited
def bw (x:eO):List A:=[(im (List.map c8 x.rest) false)]
theorem da:dn bw:=fun _ _=>by simp only[bw,aZ,A.under,dc,kS,kQ,kR,kU,kT,Bool.and_true,Bool.true_and,dt,dZ,dR,eU,dH,cE]
theorem c9:bQ bw:=fun _ _=>by simp only[bw,cG,aU,cN,kM,eS,iG,kN,fV,c7,dX,cA,cR,dG,cC]
def aR (x:(ah×ah)):List A:=[(iA x.1.Self),(im (List.map ae x.1.Leases) false),(im (List.map af x.1.Calls) false),(im (List.map cB x.1.Order) false),(iA x.2.Self),(im (List.map ae x.2.Leases) false),(im (List.map af x.2.Calls) false),(im (List.map cB x.2.Order) false)]
theorem cD:dn aR:=fun _ _=>by simp only[aR,aZ,A.under,dc,kS,kQ,kR,kU,kT,Bool.and_true,Bool.true_and,dt,dZ,dR,eU,dH,cE,da]
theorem cz:bQ aR:=fun _ _=>by simp only[aR,cG,aU,cN,kM,eS,iG,kN,fV,c7,dX,cA,cR,dG,cC,c9]
theorem lV (g:Nat->Nat->Nat->A) (x:(ah×ah)):aU g (aR x)=aR x:=cz g x
theorem kV (L:Nat) (x:(ah×ah)):aZ L (aR x)=true:=cD L x
def b7 (x:(Int×Int)):List A:=[(iA x.1),(iA x.2)]
theorem fg:dn b7:=fun _ _=>by simp only[b7,aZ,A.under,dc,kS,kQ,kR,kU,kT,Bool.and_true,Bool.true_and,dt,dZ,dR,eU,dH,cE,da,cD]
theorem ff:bQ b7:=fun _ _=>by simp only[b7,cG,aU,cN,kM,eS,iG,kN,fV,c7,dX,cA,cR,dG,cC,c9,cz]
theorem sY (g:Nat->Nat->Nat->A) (x:(Int×Int)):aU g (b7 x)=b7 x:=ff g x
theorem rK (L:Nat) (x:(Int×Int)):aZ L (b7 x)=true:=fg L x
def aQ (x:((List av)×(List av))):List A:=[(im (List.map af x.1) false),(im (List.map af x.2) false)]
theorem df:dn aQ:=fun _ _=>by simp only[aQ,aZ,A.under,dc,kS,kQ,kR,kU,kT,Bool.and_true,Bool.true_and,dt,dZ,dR,eU,dH,cE,da,cD,fg]
theorem de:bQ aQ:=fun _ _=>by simp only[aQ,cG,aU,cN,kM,eS,iG,kN,fV,c7,dX,cA,cR,dG,cC,c9,cz,ff]
theorem kl (g:Nat->Nat->Nat->A) (x:((List av)×(List av))):aU g (aQ x)=aQ x:=de g x
theorem jT (L:Nat) (x:((List av)×(List av))):aZ L (aQ x)=true:=df L x
structure aE where
 Desks:(ah×ah)
 Synced:(Int×Int)
 Told:(List ak)
 Spoken:((List av)×(List av))
 deriving DecidableEq,Inhabited
def ai (x:aE):List A:=[(iA x.Desks.1.Self),(im (List.map ae x.Desks.1.Leases) false),(im (List.map af x.Desks.1.Calls) false),(im (List.map cB x.Desks.1.Order) false),(iA x.Desks.2.Self),(im (List.map ae x.Desks.2.Leases) false),(im (List.map af x.Desks.2.Calls) false),(im (List.map cB x.Desks.2.Order) false),(iA x.Synced.1),(iA x.Synced.2),(im (List.map ae x.Told) false),(im (List.map af x.Spoken.1) false),(im (List.map af x.Spoken.2) false)]
theorem nA:dn ai:=fun _ _=>by simp only[ai,aZ,A.under,dc,kS,kQ,kR,kU,kT,Bool.and_true,Bool.true_and,dt,dZ,dR,eU,dH,cE,da,cD,fg,df]
theorem ny:bQ ai:=fun _ _=>by simp only[ai,cG,aU,cN,kM,eS,iG,kN,fV,c7,dX,cA,cR,dG,cC,c9,cz,ff,de]
structure aC where
 Pair:aE
 who:Int
 deriving DecidableEq,Inhabited
def aq (x:aC):List A:=[(iA x.Pair.Desks.1.Self),(im (List.map ae x.Pair.Desks.1.Leases) false),(im (List.map af x.Pair.Desks.1.Calls) false),(im (List.map cB x.Pair.Desks.1.Order) false),(iA x.Pair.Desks.2.Self),(im (List.map ae x.Pair.Desks.2.Leases) false),(im (List.map af x.Pair.Desks.2.Calls) false),(im (List.map cB x.Pair.Desks.2.Order) false),(iA x.Pair.Synced.1),(iA x.Pair.Synced.2),(im (List.map ae x.Pair.Told) false),(im (List.map af x.Pair.Spoken.1) false),(im (List.map af x.Pair.Spoken.2) false),(iA x.who)]
theorem gk:dn aq:=fun _ _=>by simp only[aq,aZ,A.under,dc,kS,kQ,kR,kU,kT,Bool.and_true,Bool.true_and,dt,dZ,dR,eU,dH,cE,da,cD,fg,df,nA]
theorem cP:bQ aq:=fun _ _=>by simp only[aq,cG,aU,cN,kM,eS,iG,kN,fV,c7,dX,cA,cR,dG,cC,c9,cz,ff,de,ny]
def dw (x:(Bool×Bool×Bool×Bool)):List A:=[(bA x.1),(bA x.2.1),(bA x.2.2.1),(bA x.2.2.2)]
theorem rJ:dn dw:=fun _ _=>by simp only[dw,aZ,A.under,dc,kS,kQ,kR,kU,kT,Bool.and_true,Bool.true_and,dt,dZ,dR,eU,dH,cE,da,cD,fg,df,nA,gk]
theorem rC:bQ dw:=fun _ _=>by simp only[dw,cG,aU,cN,kM,eS,iG,kN,fV,c7,dX,cA,cR,dG,cC,c9,cz,ff,de,ny,cP]
theorem yr (g:Nat->Nat->Nat->A) (x:(Bool×Bool×Bool×Bool)):aU g (dw x)=dw x:=rC g x
theorem wR (L:Nat) (x:(Bool×Bool×Bool×Bool)):aZ L (dw x)=true:=rJ L x
theorem yu (g:Nat->Nat->Nat->A) (x:ar):aU g (aw x)=aw x:=c7 g x
theorem wT (L:Nat) (x:ar):aZ L (aw x)=true:=dt L x
theorem AZ (g:Nat->Nat->Nat->A) (x:bj):aU g (al x)=al x:=dX g x
theorem yy (L:Nat) (x:bj):aZ L (al x)=true:=dZ L x
theorem yt (g:Nat->Nat->Nat->A) (x:ak):aU g (ae x)=ae x:=cA g x
theorem wS (L:Nat) (x:ak):aZ L (ae x)=true:=dR L x
theorem AY (g:Nat->Nat->Nat->A) (x:av):aU g (af x)=af x:=cR g x
theorem yx (L:Nat) (x:av):aZ L (af x)=true:=eU L x
theorem vj (g:Nat->Nat->Nat->A) (x:ah):aU g (aa x)=aa x:=dG g x
theorem tc (L:Nat) (x:ah):aZ L (aa x)=true:=dH L x
theorem n9 (g:Nat->Nat->Nat->A) (x:aj):aU g (az x)=az x:=cC g x
theorem nI (L:Nat) (x:aj):aZ L (az x)=true:=cE L x
theorem pf (g:Nat->Nat->Nat->A) (x:eO):aU g (bw x)=bw x:=c9 g x
theorem od (L:Nat) (x:eO):aZ L (bw x)=true:=da L x
theorem A0 (g:Nat->Nat->Nat->A) (x:aE):aU g (ai x)=ai x:=ny g x
theorem yz (L:Nat) (x:aE):aZ L (ai x)=true:=nA L x
theorem oa (g:Nat->Nat->Nat->A) (x:aC):aU g (aq x)=aq x:=cP g x
theorem nJ (L:Nat) (x:aC):aZ L (aq x)=true:=gk L x
theorem eo:HE aq:=fun _=>rfl
theorem uk:HE af:=fun _=>rfl
theorem ou:HE ae:=fun _=>rfl
theorem zu:sR prog 22 22 59 3 24 [(iA 0),(iA 0),(iA 0)] ae:=⟨by kernel_rfl,by kernel_rfl,by kernel_rfl,by kernel_rfl,rfl,by decide,by decide,by kernel_rfl,fun _=>rfl,yf⟩
theorem zw:sR prog 24 24 4 1 1 [(bA false)] cB:=⟨by kernel_rfl,by kernel_rfl,by kernel_rfl,by kernel_rfl,rfl,by decide,by decide,by kernel_rfl,fun _=>rfl,HO⟩
theorem zv:sR prog 23 23 62 2 16 [(iA 0),(iA 0)] af:=⟨by kernel_rfl,by kernel_rfl,by kernel_rfl,by kernel_rfl,rfl,by decide,by decide,by kernel_rfl,fun _=>rfl,AN⟩
theorem zx:sR prog 96 96 98 4 56 [(iA 0),(iA 0),se,(im [] true)] aw:=⟨by kernel_rfl,by kernel_rfl,by kernel_rfl,by kernel_rfl,rfl,by decide,by decide,by kernel_rfl,fun _=>rfl,yg⟩
theorem D2:sR prog 78 78 3 1 8 [(iA 0)] (cI .i64):=⟨by kernel_rfl,by kernel_rfl,by kernel_rfl,by kernel_rfl,rfl,by decide,by decide,by kernel_rfl,fun _=>rfl,(HP _)⟩
theorem dM:sR prog 30 30 5 1 1 [(uA 0)] c8:=⟨by kernel_rfl,by kernel_rfl,by kernel_rfl,by kernel_rfl,rfl,by decide,by decide,by kernel_rfl,fun _=>rfl,Ft⟩
theorem yc:sR prog 30 9 5 1 1 [(uA 0)] c8:=⟨by kernel_rfl,by kernel_rfl,by kernel_rfl,by kernel_rfl,rfl,by decide,by decide,by kernel_rfl,fun _=>rfl,Ft⟩
theorem qH:sR prog 27 27 30 1 24 [(im [] true)] (cL c8):=⟨by kernel_rfl,by kernel_rfl,by kernel_rfl,by kernel_rfl,rfl,by decide,by decide,by kernel_rfl,fun _=>rfl,HQ⟩
theorem fO:bQ aw/\bQ al/\bQ ae/\bQ af/\bQ aa/\bQ az/\bQ bw/\bQ aR/\bQ b7/\bQ aQ/\bQ ai/\bQ aq/\bQ dw/\(∀ (g:Nat->Nat->Nat->A) (x:ar),aU g (aw x)=aw x)/\(∀ (g:Nat->Nat->Nat->A) (x:bj),aU g (al x)=al x)/\(∀ (g:Nat->Nat->Nat->A) (x:ak),aU g (ae x)=ae x)/\(∀ (g:Nat->Nat->Nat->A) (x:av),aU g (af x)=af x)/\(∀ (g:Nat->Nat->Nat->A) (x:ah),aU g (aa x)=aa x)/\(∀ (g:Nat->Nat->Nat->A) (x:aj),aU g (az x)=az x)/\(∀ (g:Nat->Nat->Nat->A) (x:eO),aU g (bw x)=bw x)/\(∀ (g:Nat->Nat->Nat->A) (x:(ah×ah)),aU g (aR x)=aR x)/\(∀ (g:Nat->Nat->Nat->A) (x:(Int×Int)),aU g (b7 x)=b7 x)/\(∀ (g:Nat->Nat->Nat->A) (x:((List av)×(List av))),aU g (aQ x)=aQ x)/\(∀ (g:Nat->Nat->Nat->A) (x:aE),aU g (ai x)=ai x)/\(∀ (g:Nat->Nat->Nat->A) (x:aC),aU g (aq x)=aq x)/\(∀ (g:Nat->Nat->Nat->A) (x:(Bool×Bool×Bool×Bool)),aU g (dw x)=dw x)/\True:=⟨c7,dX,cA,cR,dG,cC,c9,cz,ff,de,ny,cP,rC,yu,AZ,yt,AY,vj,n9,pf,lV,sY,kl,A0,oa,yr,trivial⟩
theorem eA:(bQ aw/\bQ al/\bQ ae/\bQ af/\bQ aa/\bQ az/\bQ bw/\bQ aR/\bQ b7/\bQ aQ/\bQ ai/\bQ aq/\bQ dw/\(∀ (g:Nat->Nat->Nat->A) (x:ar),aU g (aw x)=aw x)/\(∀ (g:Nat->Nat->Nat->A) (x:bj),aU g (al x)=al x)/\(∀ (g:Nat->Nat->Nat->A) (x:ak),aU g (ae x)=ae x)/\(∀ (g:Nat->Nat->Nat->A) (x:av),aU g (af x)=af x)/\(∀ (g:Nat->Nat->Nat->A) (x:ah),aU g (aa x)=aa x)/\(∀ (g:Nat->Nat->Nat->A) (x:aj),aU g (az x)=az x)/\(∀ (g:Nat->Nat->Nat->A) (x:eO),aU g (bw x)=bw x)/\(∀ (g:Nat->Nat->Nat->A) (x:(ah×ah)),aU g (aR x)=aR x)/\(∀ (g:Nat->Nat->Nat->A) (x:(Int×Int)),aU g (b7 x)=b7 x)/\(∀ (g:Nat->Nat->Nat->A) (x:((List av)×(List av))),aU g (aQ x)=aQ x)/\(∀ (g:Nat->Nat->Nat->A) (x:aE),aU g (ai x)=ai x)/\(∀ (g:Nat->Nat->Nat->A) (x:aC),aU g (aq x)=aq x)/\(∀ (g:Nat->Nat->Nat->A) (x:(Bool×Bool×Bool×Bool)),aU g (dw x)=dw x)/\True)/\(∀ {T U:Type} (f:T->U) (a:T) (l:List T),(a :: l).map f=f a :: l.map f)/\(∀ {T U:Type} (f:T->U),[].map f=[]):=⟨fO,fun _ _ _=>rfl,fun _=>rfl⟩
theorem eG:dn aw/\dn al/\dn ae/\dn af/\dn aa/\dn az/\dn bw/\dn aR/\dn b7/\dn aQ/\dn ai/\dn aq/\dn dw/\(∀ (L:Nat) (x:ar),aZ L (aw x)=true)/\(∀ (L:Nat) (x:bj),aZ L (al x)=true)/\(∀ (L:Nat) (x:ak),aZ L (ae x)=true)/\(∀ (L:Nat) (x:av),aZ L (af x)=true)/\(∀ (L:Nat) (x:ah),aZ L (aa x)=true)/\(∀ (L:Nat) (x:aj),aZ L (az x)=true)/\(∀ (L:Nat) (x:eO),aZ L (bw x)=true)/\(∀ (L:Nat) (x:(ah×ah)),aZ L (aR x)=true)/\(∀ (L:Nat) (x:(Int×Int)),aZ L (b7 x)=true)/\(∀ (L:Nat) (x:((List av)×(List av))),aZ L (aQ x)=true)/\(∀ (L:Nat) (x:aE),aZ L (ai x)=true)/\(∀ (L:Nat) (x:aC),aZ L (aq x)=true)/\(∀ (L:Nat) (x:(Bool×Bool×Bool×Bool)),aZ L (dw x)=true)/\True:=⟨dt,dZ,dR,eU,dH,cE,da,cD,fg,df,nA,gk,rJ,wT,yy,wS,yx,tc,nI,od,kV,rK,jT,yz,nJ,wR,trivial⟩
def JY (n:Nat) (a0:Int) (a1:Int) (a2:Int):Option Bool :=
 (bif (decide (a1<=a0)) then (some (decide (a0<=a2))) else (some false)).bind fun d=>some d
theorem NW (C:OT) (n:Nat) (a0:Int) (a1:Int) (a2:Int):J (fun (o:R) y=>∃ v,o.1=.ret v/\aF o.2 v=(bA y)) (aB (cx C) (ec C n 8) (ey C n 8) (n+8) 47 [(iA a0),(iA a1),(iA a2)] [] 0) some (JY n a0 a1 a2) some:=by
 refine .lp (OD ..) ?_
 unfold JY
 refine .st (fx ..) (.bg (fun t (y:Bool)=>∃ d p q:A,t=[(bA y),d,p,q]) ?_ ?_)
 ·refine .eQ (fun u=>?_) (fun u=>?_)
  ·exact .st (fx ..) (.lg ⟨_,_,_,rfl⟩)
  exact .lg ⟨_,_,_,rfl⟩
 rintro _ y2 ⟨d,p,q,rfl⟩
 exact .u4 (.lv rfl)
def vR (a0:Int) (a1:Int) (a2:Int):Option Bool:=JY aH a0 a1 a2
def qM (C:OT):Prop:=∀ (a0:Int) (a1:Int) (a2:Int),C 47 [(iA a0),(iA a1),(iA a2)]=(vR a0 a1 a2).map fun y=>(bA y)
def JU (n:Nat) (a0:Int) (a1:Int) (a2:Int):Option (ah×Int) :=
 (vR a0 0 1).bind fun d=>(bif (!d) then (some true) else ((vR a1 0 1).bind fun p=>some (!p))).bind fun q=>(bif q then (some true) else ((vR a2 1 4096).bind fun u=>some (!u))).bind fun y=>bif y then (some (((ah.mk 0 ([]) ([]) ([])),1))) else (some (((ah.mk a0 ([(ak.mk 0 a1 a2)]) ([]) ([true])),0)))
theorem NQ (C:OT) (n:Nat) (d:qM C) (a0:Int) (a1:Int) (a2:Int):J (fun (o:R) y=>∃ v,o.1=.ret v/\aF o.2 v=(tp [(ag (aa y.1)),(iA y.2)])) (aB (cx C) (ec C n 8) (ey C n 8) (n+8) 25 [(iA a0),(iA a1),(iA a2)] [] 0) some (JU n a0 a1 a2) some:=by
 refine .lp (On ..) ?_
 unfold JU
 refine .s ((pt 0 0),[bx [(iA 0),(im [] true),(im [] true),(im [] true)]]) (.bd (d a0 0 1) fun y1=>.s (bA (!y1)) (.bg (fun t (y:Bool)=>∃ p q u:A,t=[(bA y),p,q,u]) ?_ ?_))
 ·refine .eQ (fun bm=>?_) (fun bm=>?_)
  ·exact .lg ⟨_,_,_,rfl⟩
  exact .bd (d a1 0 1) fun y3=>.s (bA (!y3)) (.lg ⟨_,_,_,rfl⟩)
 rintro _ y4 ⟨p,q,u,rfl⟩
 refine .u4 (.bg (fun t (y:Bool)=>∃ ab ad an:A,t=[(bA y),ab,ad,an]) ?_ ?_)
 ·refine .eQ (fun ca=>?_) (fun ca=>?_)
  ·exact .lg ⟨_,_,_,rfl⟩
  exact .bd (d a2 1 4096) fun y9=>.s (bA (!y9)) (.lg ⟨_,_,_,rfl⟩)
 rintro _ cm ⟨ab,ad,an,rfl⟩
 refine .u4 (.aY (fun ch=>?_) (fun ch=>?_))
 ·exact .s (ag [(iA 0),(im [] true),(im [] true),(im [] true)]) (.s [bx [(iA 0),(im [] true),(im [] true),(im [] true)]] (.s (ag [(iA 0),(im [] true),(im [] true),(im [] true)]) (.lv (by show aF _ (tp [(ag [(iA 0),(im [] true),(im [] true),(im [] true)]),(iA 1)])=_; simp only[cF,fO,aF]; first | done | rfl))))
 exact .s (ag [(iA 0),(iA a1),(iA a2)]) (.s (im [[(iA 0),(iA a1),(iA a2)]] true) (.s (im [[(bA true)]] true) (.s (ag [(iA a0),(im [[(iA 0),(iA a1),(iA a2)]] true),(im [] true),(im [[(bA true)]] true)]) (.s [bx [(iA a0),(im [[(iA 0),(iA a1),(iA a2)]] true),(im [] true),(im [[(bA true)]] true)]] (.s (ag [(iA a0),(im [[(iA 0),(iA a1),(iA a2)]] true),(im [] true),(im [[(bA true)]] true)]) (.lv (by show aF _ (tp [(ag [(iA a0),(im [[(iA 0),(iA a1),(iA a2)]] true),(im [] true),(im [[(bA true)]] true)]),(iA 0)])=_; simp only[cF,fO,aF]; first | done | rfl)))))))
def DU (a0:Int) (a1:Int) (a2:Int):Option (ah×Int):=JU aH a0 a1 a2
def zo (C:OT):Prop:=∀ (a0:Int) (a1:Int) (a2:Int),C 25 [(iA a0),(iA a1),(iA a2)]=(DU a0 a1 a2).map fun y=>(tp [(ag (aa y.1)),(iA y.2)])
def J6 (n:Nat) (a0:ah):Option Int :=
 bif (decide (0<((a0.Leases.length:Int)))) then ((bX a0.Leases (wr .i64 (((a0.Leases.length:Int)) - 1))).bind fun d=>some d.Until) else (some 0)
theorem N4 (C:OT) (n:Nat) (a0:ah):J (fun (o:R) y=>∃ v,o.1=.ret v/\aF o.2 v=(iA y)) (aB (cx C) (ec C n 8) (ey C n 8) (n+8) 74 [(ag (aa a0))] [] 0) some (J6 n a0) some:=by
 refine .lp (OM ..) ?_
 unfold J6
 refine .s ((pt 0 0),[bx (aa a0)]) (.s (pt 0 1) (.s (im (a0.Leases.map ae) false) (.st (eb (e:=59)) (.st (ee ..) (.aY (fun p=>?_) (fun p=>?_))))))
 ·exact .s (pt 0 1) (.s (im (a0.Leases.map ae) false) (.st (jB ..) (.bd (iT (e:=59) (es:=3)) fun d=>.s (A.ip [(iA d.Until)]) (.s (iA d.Until) (.lv rfl)))))
 exact .lv rfl
def Hy (a0:ah):Option Int:=J6 aH a0
def Fi (C:OT):Prop:=∀ (a0:ah),C 74 [(ag (aa a0))]=(Hy a0).map fun y=>(iA y)
def J1 (n:Nat) (a0:ah) (a1:ak):Option Bool :=
 (bif (a1.No==((a0.Leases.length:Int))) then ((vR a1.Holder 0 1).bind fun d=>some d) else (some false)).bind fun p=>bif p then ((Hy a0).bind fun q=>(some (decide (q<a1.Until))).bind fun u=>(bif u then (some (decide (a1.Until<=4096))) else (some false)).bind fun y=>some y) else ((some false).bind fun ab=>(bif ab then (some (decide (a1.Until<=4096))) else (some false)).bind fun ad=>some ad)
theorem NZ (C:OT) (n:Nat) (ch:qM C) (ck:Fi C) (a0:ah) (a1:ak):J (fun (o:R) y=>∃ v,o.1=.ret v/\aF o.2 v=(bA y)) (aB (cx C) (ec C n 8) (ey C n 8) (n+8) 50 [(ag (aa a0)),(ag (ae a1))] [] 0) some (J1 n a0 a1) some:=by
 refine .lp (OH ..) ?_
 unfold J1
 refine .s ((pt 0 0),[bx (aa a0)]) (.s ((pt 1 0),[bx (aa a0),bx (ae a1)]) (.s (pt 1 0) (.s (iA a1.No) (.s (pt 0 1) (.s (im (a0.Leases.map ae) false) (.st (eb (e:=59)) (.st (bC ..) (.bg (fun t (y:Bool)=>∃ p q u:A,t=[(bA y),p,q,u]) ?_ ?_))))))))
 ·refine .eQ (fun cm=>?_) (fun cm=>?_)
  ·exact .s (pt 1 1) (.s (iA a1.Holder) (.bd (ch a1.Holder 0 1) fun y2=>.lg ⟨_,_,_,rfl⟩))
  exact .lg ⟨_,_,_,rfl⟩
 rintro _ y3 ⟨p,q,u,rfl⟩
 refine .u4 (.CD (fun d=>?_) (fun d=>?_))
 ·refine .bb (.s (pt 1 2) (.s (iA a1.Until) (.s (ag (aa a0)) (.bd (g:=fun (y:Int)=>(iA y)) (by show C 74 [snap _ (ag (aa a0))]=_; simp only[cF,eA]; exact ck a0) fun ea=>.cr (.u4 (.bg (fun t (y:Bool)=>∃ ab:A,t=[(bA y),ab]) ?_ ?_))))))
  ·exact .vS d (.st (ee ..) (.lg ⟨_,rfl⟩))
  rintro _ eg ⟨ab,rfl⟩
  refine .uc (.uc (.bg (fun t (y:Bool)=>∃ ad an ao:A,t=[(bA y),ad,an,ao]) ?_ ?_))
  ·refine .eQ (fun cn=>?_) (fun cn=>?_)
   ·exact .s (pt 1 2) (.s (iA a1.Until) (.st (fx ..) (.lg ⟨_,_,_,rfl⟩)))
   exact .lg ⟨_,_,_,rfl⟩
  rintro _ ej ⟨ad,an,ao,rfl⟩
  exact .u4 (.lv rfl)
 refine .bb (.cr (.u4 (.bg (fun t (y:Bool)=>∃ bm:A,t=[(bA y),bm]) ?_ ?_)))
 ·exact .wj d (.lg ⟨_,rfl⟩)
 rintro _ en ⟨bm,rfl⟩
 refine .uc (.uc (.bg (fun t (y:Bool)=>∃ bs ca cc:A,t=[(bA y),bs,ca,cc]) ?_ ?_))
 ·refine .eQ (fun cv=>?_) (fun cv=>?_)
  ·exact .s (pt 1 2) (.s (iA a1.Until) (.st (fx ..) (.lg ⟨_,_,_,rfl⟩)))
  exact .lg ⟨_,_,_,rfl⟩
 rintro _ fs ⟨bs,ca,cc,rfl⟩
 exact .u4 (.lv rfl)
def Fa (a0:ah) (a1:ak):Option Bool:=J1 aH a0 a1
def vW (C:OT):Prop:=∀ (a0:ah) (a1:ak),C 50 [(ag (aa a0)),(ag (ae a1))]=(Fa a0 a1).map fun y=>(bA y)
def iB (n:Nat) (p:(List ak)) (y:Int) (q:Int) (ab:ah) (u:Int):Nat->Int->Option ((Int)⊕(Unit))
 | 0,_=>none
 | m+1,d=>bif (decide (d<q)) then ((bX p d).bind fun ad=>bif (decide (u<ad.Until)) then (some ((Sum.inl d))) else (iB n p y q ab u m (wr .i64 (d+1)))) else (some ((Sum.inr (()))))
theorem B6 (q:(List ak)) (ao:Int) (bm:Int) (p:ah) (d:Int) {K:((Int)⊕(Unit))->Option γ} (x0:∀ (o0:Int) (u:A) (s1:A) (y:A) (s8:A) (q2:aD),J φ (kr (St.mk [(0,u),(1,s1),(4,(iA o0)),(7,y),(8,s8)] [bx (aa p),bx [(iA d)],q2])) kL (K (Sum.inl o0)) some) (x1:∀ (u:A) (s1:A) (s4:A) (y:A) (s8:A),J φ (kx 0 (St.mk [(0,u),(1,s1),(4,s4),(7,y),(8,s8)] [bx (aa p),bx [(iA d)]])) kL (K (Sum.inr (()))) some) :
  ∀ (m:Nat) (ad:Int),J φ (aK (cx C) (ec C n 7) (ey C n 7) (n+7) 89 0 0 2 kx kg kr kp m (St.mk [(0,(im (q.map ae) false)),(1,(fk 90 [] [(pt 1 0)])),(4,(iA ao)),(7,(iA bm)),(8,(iA ad))] [bx (aa p),bx [(iA d)]])) kL (iB n q ao bm p d m ad) K:=by
 intro m
 induction m with
 | zero=>intros; exact .nn
 | succ m ih =>
  intro ad
  refine .lp (Iy ..) ?_
  unfold iB
  refine .st (aW ..) (.aY (fun ck=>?_) (fun ck=>?_))
  ·refine .bd (iT (e:=59) (es:=3)) fun an=>.s (ag (ae an)) (.dC (by kernel_rfl) (by kernel_rfl) (.cl ((au I2).trans (OV C (aO (cx C) (n+6)) (aA (cx C) (n+6)) (n+6) _ _ _ _)) (.s ((pt 2 0),[bx (aa p),bx [(iA d)],bx (ae an)]) (.s (iA d) (.s (pt 2 2) (.s (iA an.Until) (.st (aW ..) (.cr (.ok (.aY (fun cm=>?_) (fun cm=>?_)))))))))))
   ·exact .ex (x0 _ _ _ _ _ _)
   refine .st (aP ..) (.st (v:=[bx (aa p),bx [(iA d)]]) (dy (by kernel_rfl) (by simp only[uB,eF,eG,Nat.reduceLT,decide_true])) (.cT ((by kernel_rfl:_=(bif aG 2 (q.map ae) then true else false)).trans (by simp only[eF,eG])) ?_))
   exact ih _
  exact .ex (x1 _ _ _ _ _)
def J7 (n:Nat) (a0:ah) (a1:Int):Option Bool :=
 (iB n a0.Leases 0 ((a0.Leases.length:Int)) a0 a1 (n+7) 0).bind fun p=>match p with | (Sum.inl d)=>(bif (decide (0<=a1)) then (some (decide (0<=d))) else (some false)).bind fun q=>bif q then ((bX a0.Leases d).bind fun u=>(some (u.Holder==a0.Self)).bind fun y=>some y) else ((some false).bind fun ab=>some ab) | (Sum.inr _)=>(bif (decide (0<=a1)) then (some false) else (some false)).bind fun ad=>bif ad then ((bX a0.Leases (-1)).bind fun an=>(some (an.Holder==a0.Self)).bind fun ao=>some ao) else ((some false).bind fun bm=>some bm)
theorem N5 (C:OT) (n:Nat) (a0:ah) (a1:Int):J (fun (o:R) y=>∃ v,o.1=.ret v/\aF o.2 v=(bA y)) (aB (cx C) (ec C n 8) (ey C n 8) (n+8) 75 [(ag (aa a0)),(iA a1)] [] 0) some (J7 n a0 a1) some:=by
 refine .lp (ON ..) ?_
 unfold J7
 refine .s ((pt 0 0),[bx (aa a0)]) (.s ((pt 1 0),[bx (aa a0),bx [(iA a1)]]) (.s (pt 0 1) (.s (im (a0.Leases.map ae) false) (.cl ((au I1).trans (OU C (ec C n 7) (ey C n 7) (n+7) _ _ _ _)) (.st (eb (e:=59)) (.as (B6 C n _ _ _ _ a0.Leases 0 ((a0.Leases.length:Int)) a0 a1 ?_ ?_ _ 0)))))))
 ·intro cm cn cv cy dd w232
  refine .un rfl (.cr (.ok (.s (iA a1) (.st (iC ..) (.bg (fun t (y:Bool)=>∃ ab ad:A,t=[(bA y),ab,ad]) ?_ ?_)))))
  ·refine .eQ (fun ch=>?_) (fun ch=>?_)
   ·exact .st (iC ..) (.lg ⟨_,_,rfl⟩)
   exact .lg ⟨_,_,rfl⟩
  rintro _ ea ⟨ab,ad,rfl⟩
  refine .uc (.uc (.uc (.CD (fun d=>?_) (fun d=>?_))))
  ·refine .bb (.s (pt 0 1) (.s (im (a0.Leases.map ae) false) (.bd (iT (e:=59) (es:=3)) fun p=>.s (A.ip [(iA p.Holder),(iA p.Until)]) (.s (iA p.Holder) (.s (pt 0 0) (.s (iA a0.Self) (.cr (.u4 (.u4 (.bg (fun t (y:Bool)=>∃ an:A,t=[(bA y),an]) ?_ ?_))))))))))
   ·exact .vS d (.st (bC ..) (.lg ⟨_,rfl⟩))
   rintro _ eg ⟨an,rfl⟩
   exact .uc (.uc (.lv rfl))
  refine .bb (.cr (.u4 (.u4 (.bg (fun t (y:Bool)=>∃ ao:A,t=[(bA y),ao]) ?_ ?_))))
  ·exact .wj d (.lg ⟨_,rfl⟩)
  rintro _ ej ⟨ao,rfl⟩
  exact .uc (.uc (.lv rfl))
 ·intro en fs fv ha hf
  refine .un rfl (.cT (by kernel_rfl) (.cr (.ok (.s (iA a1) (.st (iC ..) (.bg (fun t (y:Bool)=>∃ bm bs:A,t=[(bA y),bm,bs]) ?_ ?_))))))
  ·refine .eQ (fun ck=>?_) (fun ck=>?_)
   ·exact .s (bA false) (.lg ⟨_,_,rfl⟩)
   exact .lg ⟨_,_,rfl⟩
  rintro _ hg ⟨bm,bs,rfl⟩
  refine .uc (.uc (.uc (.CD (fun q=>?_) (fun q=>?_))))
  ·refine .bb (.s (pt 0 1) (.s (im (a0.Leases.map ae) false) (.bd (iT (e:=59) (es:=3)) fun u=>.s (A.ip [(iA u.Holder),(iA u.Until)]) (.s (iA u.Holder) (.s (pt 0 0) (.s (iA a0.Self) (.cr (.u4 (.u4 (.bg (fun t (y:Bool)=>∃ ca:A,t=[(bA y),ca]) ?_ ?_))))))))))
   ·exact .vS q (.st (bC ..) (.lg ⟨_,rfl⟩))
   rintro _ hh ⟨ca,rfl⟩
   exact .uc (.uc (.lv rfl))
  refine .bb (.cr (.u4 (.u4 (.bg (fun t (y:Bool)=>∃ cc:A,t=[(bA y),cc]) ?_ ?_))))
  ·exact .wj q (.lg ⟨_,rfl⟩)
  rintro _ hi ⟨cc,rfl⟩
  exact .uc (.uc (.lv rfl))
def Hz (a0:ah) (a1:Int):Option Bool:=J7 aH a0 a1
def Fj (C:OT):Prop:=∀ (a0:ah) (a1:Int),C 75 [(ag (aa a0)),(iA a1)]=(Hz a0 a1).map fun y=>(bA y)
def J2 (n:Nat) (a0:ah) (a1:av):Option Bool :=
 (Hz a0 a1.Bar).bind fun d=>bif d then (bif (((a0.Calls.length:Int))==0) then ((some (())).bind fun ck=>((some true).bind fun p=>some p).bind fun q=>(bif q then ((vR a1.Program 1 8).bind fun u=>some u) else (some false)).bind fun y=>some y) else ((bX a0.Calls (wr .i64 (((a0.Calls.length:Int)) - 1))).bind fun ab=>(some (decide (ab.Bar<a1.Bar))).bind fun ad=>((some ad).bind fun an=>some an).bind fun ao=>(bif ao then ((vR a1.Program 1 8).bind fun bm=>some bm) else (some false)).bind fun bs=>some bs)) else ((some (())).bind fun cm=>(some false).bind fun ca=>(bif ca then ((vR a1.Program 1 8).bind fun cc=>some cc) else (some false)).bind fun ch=>some ch)
theorem N0 (C:OT) (n:Nat) (q:qM C) (cv:Fj C) (a0:ah) (a1:av):J (fun (o:R) y=>∃ v,o.1=.ret v/\aF o.2 v=(bA y)) (aB (cx C) (ec C n 8) (ey C n 8) (n+8) 51 [(ag (aa a0)),(ag [(iA a1.Bar),(iA a1.Program)])] [] 0) some (J2 n a0 a1) some:=by
 refine .lp (OI ..) ?_
 unfold J2
 refine .s ((pt 0 0),[bx (aa a0)]) (.s ((pt 1 0),[bx (aa a0),bx [(iA a1.Bar),(iA a1.Program)]]) (.s (pt 0 2) (.s (im (a0.Calls.map af) false) (.st (eb (e:=62)) (.s (ag (aa a0)) (.s (pt 1 0) (.s (iA a1.Bar) (.bd (g:=fun (y:Bool)=>(bA y)) (by show C 75 [snap _ (ag (aa a0)),snap _ (iA a1.Bar)]=_; simp only[cF,eA]; exact cv a0 a1.Bar) fun y1=>.CD (fun p=>?_) (fun p=>?_)))))))))
 ·refine .bb (.st (bC ..) (.Hl (fun d=>?_) (fun d=>?_)))
  ·refine .bb (.s (pt 1 0) (.s (iA a1.Bar) (.s (pt 0 2) (.s (im (a0.Calls.map af) false) (.st (jB ..) (.bd (iT (e:=62) (es:=2)) fun u=>.s (A.ip [(iA u.Bar),(iA u.Program)]) (.s (iA u.Bar) (.cr (.u4 (.u4 (.uc (.cr (.u4 (.u4 (.u4 (.bg (fun t (y:Bool) =>  t=[(bA y)]) ?_ ?_))))))))))))))))
   ·exact .lp (jX d) (.st (ee ..) (.lg rfl))
   rintro _ ej rfl
   refine .uc (.bg (fun t (y:Bool)=>∃ ab:A,t=[(bA y),ab]) ?_ ?_)
   ·refine .vS p (.bg (fun t (y:Bool) =>  t=(bA y)) ?_ ?_)
    ·exact .wj d (.lg rfl)
    rintro _ en rfl
    exact .lg ⟨_,rfl⟩
   rintro _ fs ⟨ab,rfl⟩
   refine .uc (.uc (.bg (fun t (y:Bool)=>∃ ad an ao:A,t=[(bA y),ad,an,ao]) ?_ ?_))
   ·refine .eQ (fun cy=>?_) (fun cy=>?_)
    ·exact .s (pt 1 1) (.s (iA a1.Program) (.bd (q a1.Program 1 8) fun fv=>.lg ⟨_,_,_,rfl⟩))
    exact .lg ⟨_,_,_,rfl⟩
   rintro _ ha ⟨ad,an,ao,rfl⟩
   exact .u4 (.lv rfl)
  refine .bb (.cr (.u4 (.u4 (.uc (.cr (.u4 (.u4 (.u4 (.bg (fun t (y:Unit) =>  t=[(A.v undef)]) ?_ ?_)))))))))
  ·exact .lp (jY d) (.lg rfl)
  rintro _ hf rfl
  refine .uc (.bg (fun t (y:Bool)=>∃ bm:A,t=[(bA y),bm]) ?_ ?_)
  ·refine .vS p (.bg (fun t (y:Bool) =>  t=(bA y)) ?_ ?_)
   ·exact .vS d (.lg rfl)
   rintro _ hg rfl
   exact .lg ⟨_,rfl⟩
  rintro _ hh ⟨bm,rfl⟩
  refine .uc (.uc (.bg (fun t (y:Bool)=>∃ bs ca cc:A,t=[(bA y),bs,ca,cc]) ?_ ?_))
  ·refine .eQ (fun dd=>?_) (fun dd=>?_)
   ·exact .s (pt 1 1) (.s (iA a1.Program) (.bd (q a1.Program 1 8) fun hi=>.lg ⟨_,_,_,rfl⟩))
   exact .lg ⟨_,_,_,rfl⟩
  rintro _ hj ⟨bs,ca,cc,rfl⟩
  exact .u4 (.lv rfl)
 refine .bb (.cr (.u4 (.u4 (.u4 (.bg (fun t (y:Unit) =>  t=[(A.v undef)]) ?_ ?_)))))
 ·exact .gU (.lg rfl)
 rintro _ hk rfl
 refine .uc (.bg (fun t (y:Bool)=>∃ ch:A,t=[(bA y),ch]) ?_ ?_)
 ·exact .wj p (.lg ⟨_,rfl⟩)
 rintro _ ho ⟨ch,rfl⟩
 refine .uc (.uc (.bg (fun t (y:Bool)=>∃ ck cm cn:A,t=[(bA y),ck,cm,cn]) ?_ ?_))
 ·refine .eQ (fun ea=>?_) (fun ea=>?_)
  ·exact .s (pt 1 1) (.s (iA a1.Program) (.bd (q a1.Program 1 8) fun hp=>.lg ⟨_,_,_,rfl⟩))
  exact .lg ⟨_,_,_,rfl⟩
 rintro _ hq ⟨ck,cm,cn,rfl⟩
 exact .u4 (.lv rfl)
def FW (a0:ah) (a1:av):Option Bool:=J2 aH a0 a1
def zq (C:OT):Prop:=∀ (a0:ah) (a1:av),C 51 [(ag (aa a0)),(ag [(iA a1.Bar),(iA a1.Program)])]=(FW a0 a1).map fun y=>(bA y)
def iV (a0:ah) (d:(List av)) (p:(List Bool)):aD:=bx [(iA a0.Self),(im (a0.Leases.map ae) false),(cH 3 0 d.length false),(cH 4 0 p.length false)]
def iW (a0:ah) (d:(List ak)) (p:(List Bool)):aD:=bx [(iA a0.Self),(cH 3 0 d.length false),(im (a0.Calls.map af) false),(cH 4 0 p.length false)]
def Hp (n:Nat) (a0:ah) (a1:aj):Option ah :=
 bif a1.is then ((et a0.Leases 0 ((a0.Leases.length:Int))).bind fun d=>(dS 24 d ([a1.lease])).bind fun p=>(et a0.Order 0 ((a0.Order.length:Int))).bind fun q=>(dS 1 q ([a1.is])).bind fun u=>some ((ah.mk a0.Self p a0.Calls u))) else ((et a0.Calls 0 ((a0.Calls.length:Int))).bind fun y=>(dS 16 y ([a1.call])).bind fun ab=>(et a0.Order 0 ((a0.Order.length:Int))).bind fun ad=>(dS 1 ad ([a1.is])).bind fun an=>some ((ah.mk a0.Self a0.Leases ab an)))
theorem NV (C:OT) (n:Nat) (a0:ah) (a1:aj):J (fun (o:R) y=>∃ v,o.1=.ret v/\aF o.2 v=(ag (aa y))) (aB (cx C) (ec C n 8) (ey C n 8) (n+8) 33 [(ag (aa a0)),(ag (az a1))] [] 0) some (Hp n a0 a1) some:=by
 refine .lp (Ou ..) ?_
 unfold Hp
 refine .s ((pt 0 0),[bx (aa a0)]) (.sq (pt 1 0) (.s ((pt 2 0),[bx (aa a0),bx (az a1),bx [(iA 0),(im [] true),(im [] true),(im [] true)]]) (.s (pt 1 0) (.s (bA a1.is) (.aY (fun ab=>?_) (fun ab=>?_))))))
 ·refine .s (pt 0 1) (.s (im (a0.Leases.map ae) false) (.s (pt 1 1) (.s (ag (ae a1.lease)) (.cT (by kernel_rfl) (.s (im [[(iA a1.lease.No),(iA a1.lease.Holder),(iA a1.lease.Until)]] true) (.cT (by kernel_rfl) (.cl ((au FG).trans (MQ C (ec C n 7) (ey C n 7) (n+7) _ _ _)) (.st (eb (e:=59)) (.st (eb (e:=59)) (.bd (gI (e:=59) (es:=3) (f:=ae) (l:=a0.Leases) (a:=0) (b:=(a0.Leases.length:Int)) (by kernel_rfl) (by kernel_rfl) (fun _=>rfl) (.inl ⟨rfl,rfl⟩)) fun y3=>.cr (.ok (.bd (g:=fun (y:List ak)=>((cH 3 0 y.length false),[bx (aa a0),bx (az a1),bx [(iA 0),(im [] true),(im [] true),(im [] true)],aD.row false 3 (y.map ae)])) (lN zu (l:=y3) (l2:=[a1.lease]) (b8 (f:=ae) ([a1.lease]:List ak) _ _)) fun d=>.s (pt 0 1) (.s [bx [(iA a0.Self),(cH 3 0 d.length false),(im (a0.Calls.map af) false),(im (a0.Order.map cB) false)],bx (az a1),bx [(iA 0),(im [] true),(im [] true),(im [] true)],aD.row false 3 (d.map ae)] (.s (pt 0 3) (.s (im (a0.Order.map cB) false) (.s (pt 1 0) (.s (bA a1.is) (.cT (by kernel_rfl) (.s (im [[(bA a1.is)]] true) (.cT (by kernel_rfl) (.cl ((au FI).trans (MS C (ec C n 7) (ey C n 7) (n+7) _ _ _)) ?_)))))))))))))))))))))
  exact .st (eb (e:=4)) (.st (eb (e:=4)) (.bd (gI (e:=4) (es:=1) (f:=cB) (l:=a0.Order) (a:=0) (b:=(a0.Order.length:Int)) (by kernel_rfl) (by kernel_rfl) (fun _=>rfl) (.inl ⟨rfl,rfl⟩)) fun y6=>.cr (.ok (.bd (g:=fun (y:List Bool)=>((cH 4 0 y.length false),[bx [(iA a0.Self),(cH 3 0 d.length false),(im (a0.Calls.map af) false),(im (a0.Order.map cB) false)],bx (az a1),bx [(iA 0),(im [] true),(im [] true),(im [] true)],aD.row false 3 (d.map ae),aD.row false 1 (y.map cB)])) (lN zw (l:=y6) (l2:=[a1.is]) (b8 (f:=cB) ([a1.is]:List Bool) _ _)) fun q=>.s (pt 0 3) (.sh (.s (ag [(iA a0.Self),(cH 3 0 d.length false),(im (a0.Calls.map af) false),(cH 4 0 q.length false)]) (.s [(iW a0 d q),bx (az a1),(iW a0 d q),aD.row false 3 (d.map ae),aD.row false 1 (q.map cB)] (.s (ag [(iA a0.Self),(cH 3 0 d.length false),(im (a0.Calls.map af) false),(cH 4 0 q.length false)]) (.lv (by show aF [(iW a0 d q),bx (az a1),(iW a0 d q),aD.row false 3 (d.map ae),aD.row false 1 (q.map cB)] (ag [(iA a0.Self),(cH 3 0 d.length false),(im (a0.Calls.map af) false),(cH 4 0 q.length false)])=_; first | (simp only[cF,eA,aF,bH (H:=[(iW a0 d q),bx (az a1),(iW a0 d q),aD.row false 3 (d.map ae),aD.row false 1 (q.map cB)]) (b:=3) (es:=3) (wr:=false) (l:=d) cA rfl,bH (H:=[(iW a0 d q),bx (az a1),(iW a0 d q),aD.row false 3 (d.map ae),aD.row false 1 (q.map cB)]) (b:=4) (es:=1) (wr:=false) (l:=q) iG rfl]; done) | (simp only[cF,fO,aF,bH (H:=[(iW a0 d q),bx (az a1),(iW a0 d q),aD.row false 3 (d.map ae),aD.row false 1 (q.map cB)]) (b:=3) (es:=3) (wr:=false) (l:=d) cA rfl,bH (H:=[(iW a0 d q),bx (az a1),(iW a0 d q),aD.row false 3 (d.map ae),aD.row false 1 (q.map cB)]) (b:=4) (es:=1) (wr:=false) (l:=q) iG rfl]; first | done | rfl)))))))))))
 refine .s (pt 0 2) (.s (im (a0.Calls.map af) false) (.s (pt 1 4) (.s (ag [(iA a1.call.Bar),(iA a1.call.Program)]) (.cT (by kernel_rfl) (.s (im [[(iA a1.call.Bar),(iA a1.call.Program)]] true) (.cT (by kernel_rfl) (.cl ((au FH).trans (MR C (ec C n 7) (ey C n 7) (n+7) _ _ _)) (.st (eb (e:=62)) (.st (eb (e:=62)) (.bd (gI (e:=62) (es:=2) (f:=af) (l:=a0.Calls) (a:=0) (b:=(a0.Calls.length:Int)) (by kernel_rfl) (by kernel_rfl) (fun _=>rfl) (.inl ⟨rfl,rfl⟩)) fun y9=>.cr (.ok (.bd (g:=fun (y:List av)=>((cH 3 0 y.length false),[bx (aa a0),bx (az a1),bx [(iA 0),(im [] true),(im [] true),(im [] true)],aD.row false 2 (y.map af)])) (lN zv (l:=y9) (l2:=[a1.call]) (b8 (f:=af) ([a1.call]:List av) _ _)) fun p=>.s (pt 0 2) (.s [bx [(iA a0.Self),(im (a0.Leases.map ae) false),(cH 3 0 p.length false),(im (a0.Order.map cB) false)],bx (az a1),bx [(iA 0),(im [] true),(im [] true),(im [] true)],aD.row false 2 (p.map af)] (.s (pt 0 3) (.s (im (a0.Order.map cB) false) (.s (pt 1 0) (.s (bA a1.is) (.cT (by kernel_rfl) (.s (im [[(bA a1.is)]] true) (.cT (by kernel_rfl) (.cl ((au FI).trans (MS C (ec C n 7) (ey C n 7) (n+7) _ _ _)) ?_)))))))))))))))))))))
 exact .st (eb (e:=4)) (.st (eb (e:=4)) (.bd (gI (e:=4) (es:=1) (f:=cB) (l:=a0.Order) (a:=0) (b:=(a0.Order.length:Int)) (by kernel_rfl) (by kernel_rfl) (fun _=>rfl) (.inl ⟨rfl,rfl⟩)) fun bm=>.cr (.ok (.bd (g:=fun (y:List Bool)=>((cH 4 0 y.length false),[bx [(iA a0.Self),(im (a0.Leases.map ae) false),(cH 3 0 p.length false),(im (a0.Order.map cB) false)],bx (az a1),bx [(iA 0),(im [] true),(im [] true),(im [] true)],aD.row false 2 (p.map af),aD.row false 1 (y.map cB)])) (lN zw (l:=bm) (l2:=[a1.is]) (b8 (f:=cB) ([a1.is]:List Bool) _ _)) fun u=>.s (pt 0 3) (.sh (.s (ag [(iA a0.Self),(im (a0.Leases.map ae) false),(cH 3 0 p.length false),(cH 4 0 u.length false)]) (.s [(iV a0 p u),bx (az a1),(iV a0 p u),aD.row false 2 (p.map af),aD.row false 1 (u.map cB)] (.s (ag [(iA a0.Self),(im (a0.Leases.map ae) false),(cH 3 0 p.length false),(cH 4 0 u.length false)]) (.lv (by show aF [(iV a0 p u),bx (az a1),(iV a0 p u),aD.row false 2 (p.map af),aD.row false 1 (u.map cB)] (ag [(iA a0.Self),(im (a0.Leases.map ae) false),(cH 3 0 p.length false),(cH 4 0 u.length false)])=_; first | (simp only[cF,eA,aF,bH (H:=[(iV a0 p u),bx (az a1),(iV a0 p u),aD.row false 2 (p.map af),aD.row false 1 (u.map cB)]) (b:=3) (es:=2) (wr:=false) (l:=p) cR rfl,bH (H:=[(iV a0 p u),bx (az a1),(iV a0 p u),aD.row false 2 (p.map af),aD.row false 1 (u.map cB)]) (b:=4) (es:=1) (wr:=false) (l:=u) iG rfl]; done) | (simp only[cF,fO,aF,bH (H:=[(iV a0 p u),bx (az a1),(iV a0 p u),aD.row false 2 (p.map af),aD.row false 1 (u.map cB)]) (b:=3) (es:=2) (wr:=false) (l:=p) cR rfl,bH (H:=[(iV a0 p u),bx (az a1),(iV a0 p u),aD.row false 2 (p.map af),aD.row false 1 (u.map cB)]) (b:=4) (es:=1) (wr:=false) (l:=u) iG rfl]; first | done | rfl)))))))))))
def xO (a0:ah) (a1:aj):Option ah:=Hp aH a0 a1
def qk (C:OT):Prop:=∀ (a0:ah) (a1:aj),C 33 [(ag (aa a0)),(ag (az a1))]=(xO a0 a1).map fun y=>(ag (aa y))
def mY (d:Int) (p:(List ak)) (q:(List av)) (u:(List Bool)):aD:=bx [(iA d),(im (p.map ae) false),(im (q.map af) false),(im (u.map cB) false)]
def bZ (p:Bool) (d:av):aD:=bx [(bA p),(iA 0),(iA 0),(iA 0),(iA d.Bar),(iA d.Program)]
def gA (n:Nat) (ca:(List Bool)) (cc:Int) (ch:ah) (ck:Int) (cm:ah):Nat->(List ak)->(List av)->Int->Int->(List ak)->(List av)->(List Bool)->Int->Option ((Int×Int)⊕((Int)⊕(Int)))
 | 0,_,_,_,_,_,_,_,_=>none
 | m+1,ad,an,ao,p,q,u,y,ab=>bif (decide (ao<cc)) then ((bX ca ao).bind fun d=>(bif d then (some (decide (0<((ad.length:Int))))) else (some false)).bind fun cy=>bif cy then ((bX ad 0).bind fun cn=>(et ad 1 ((ad.length:Int))).bind fun dd=>(bif d then ((Fa ((ah.mk p q u y)) cn).bind fun ea=>some (!ea)) else (some false)).bind fun eg=>(bif eg then (some true) else ((bif (!d) then ((FW ((ah.mk p q u y)) ((av.mk 0 0))).bind fun ej=>some (!ej)) else (some false)).bind fun en=>some en)).bind fun fs=>bif fs then (some ((Sum.inl ((530,ab))))) else ((xO ((ah.mk p q u y)) ((aj.mk d cn ((av.mk 0 0))))).bind fun bm=>gA n ca cc ch ck cm m dd an (wr .i64 (ao+1)) bm.Self bm.Leases bm.Calls bm.Order (wr .i64 (ab+1)))) else ((bif (!d) then (some (decide (0<((an.length:Int))))) else (some false)).bind fun fv=>bif fv then ((bX an 0).bind fun cv=>(et an 1 ((an.length:Int))).bind fun ha=>(bif d then ((Fa ((ah.mk p q u y)) ((ak.mk 0 0 0))).bind fun hf=>some (!hf)) else (some false)).bind fun hg=>(bif hg then (some true) else ((bif (!d) then ((FW ((ah.mk p q u y)) cv).bind fun hh=>some (!hh)) else (some false)).bind fun hi=>some hi)).bind fun hj=>bif hj then (some ((Sum.inl ((530,ab))))) else ((xO ((ah.mk p q u y)) ((aj.mk d ((ak.mk 0 0 0)) cv))).bind fun bs=>gA n ca cc ch ck cm m ad ha (wr .i64 (ao+1)) bs.Self bs.Leases bs.Calls bs.Order (wr .i64 (ab+1)))) else (some ((Sum.inr ((Sum.inl ab))))))) else (some ((Sum.inr ((Sum.inr ab)))))
theorem BS (en:qk C) (fs:vW C) (fv:zq C) (eg:(List Bool)) (ha:Int) (an:ah) (bs:Int) (ca:ah) {K:((Int×Int)⊕((Int)⊕(Int)))->Option γ} (x0:∀ (o0:Int) (o1:Int) (s0:A) (s3:A) (s4:A) (cy:A) (dd:A) (ea:A) (q2:aD) (q4:aD) (q6:aD) (q7:aD),J φ (kr (St.mk [(0,s0),(3,s3),(4,s4),(13,cy),(14,dd),(15,ea)] [bx (aa an),bx [(iA o0)],q2,bx [(iA o1)],q4,aD.rng (cp.done Fb.ret),q6,q7])) kL (K (Sum.inl ((o0,o1)))) some) (x1:∀ (o0:Int) (s0:A) (s3:A) (s4:A) (cy:A) (dd:A) (ea:A) (q2:aD) (q4:aD) (q6:aD),J φ (kr (St.mk [(0,s0),(3,s3),(4,s4),(13,cy),(14,dd),(15,ea)] [bx (aa an),bx [(iA bs)],q2,bx [(iA o0)],q4,aD.rng cp.ready,q6])) kL (K (Sum.inr ((Sum.inl o0)))) some) (x2:∀ (o0:Int) (s0:A) (s3:A) (s4:A) (cy:A) (dd:A) (ea:A) (q2:aD) (q4:aD),J φ (kx 0 (St.mk [(0,s0),(3,s3),(4,s4),(13,cy),(14,dd),(15,ea)] [bx (aa an),bx [(iA bs)],q2,bx [(iA o0)],q4,aD.rng cp.ready])) kL (K (Sum.inr ((Sum.inr o0)))) some) :
  ∀ (m:Nat) (ch:(List ak)) (ck:(List av)) (ej:Int) (p:Int) (q:(List ak)) (u:(List av)) (ab:(List Bool)) (ao:Int),J φ (aK (cx C) (aA (cx C) (n+7) (nM 124 (aO (cx C) (n+8)) 5 (gK (cx C) (ec C n 8) (ey C n 8) (n+8) 20 0 0 5 [(2,(pt 1 0)),(3,(pt 2 0)),(4,(pt 3 0))]))) (aA (cx C) (n+7)) (n+7) 55 0 0 6 kx kg kr kp m (St.mk [(0,(A.yld 5)),(3,(im (ch.map ae) false)),(4,(im (ck.map af) false)),(13,(im (eg.map cB) false)),(14,(iA ha)),(15,(iA ej))] [bx (aa an),bx [(iA bs)],(mY p q u ab),bx [(iA ao)],bx (aa ca),aD.rng cp.ready])) kL (gA n eg ha an bs ca m ch ck ej p q u ab ao) K:=by
 intro m
 induction m with
 | zero=>intros; exact .nn
 | succ m ih =>
  intro ch ck ej p q u ab ao
  refine .lp (zG ..) ?_
  unfold gA
  refine .st (aW ..) (.aY (fun xl=>?_) (fun xl=>?_))
  ·refine .bd (iT (e:=4) (es:=1)) fun d=>.s (bA d) (.s (ag [(bA d),(iA 0),(iA 0),(iA 0),(iA 0),(iA 0)]) (.sq (pt 6 0) (.s [bx (aa an),bx [(iA bs)],(mY p q u ab),bx [(iA ao)],bx (aa ca),aD.rng cp.ready,bx [(bA d),(iA 0),(iA 0),(iA 0),(iA 0),(iA 0)]] (.bg (fun t (y:Bool)=>∃ hh hi hj:A,t=[(bA y),hh,hi,hj]) ?_ ?_))))
   ·refine .eQ (fun xt=>?_) (fun xt=>?_)
    ·exact .st (eb (e:=59)) (.st (ee ..) (.lg ⟨_,_,_,rfl⟩))
    exact .lg ⟨_,_,_,rfl⟩
   rintro _ y1145 ⟨hh,hi,hj,rfl⟩
   refine .u4 (.aY (fun ys=>?_) (fun ys=>?_))
   ·refine .bd (iT (e:=59) (es:=3)) fun bm=>.s (ag (ae bm)) (.bd (eY (e:=59) (es:=3) (f:=ae) (l:=ch) (a:=1) (b:=(ch.length:Int)) (by kernel_rfl) (by kernel_rfl) (fun _=>rfl) (.inr ⟨_,rfl⟩) (.inl ⟨rfl,rfl⟩)) fun zc=>.s (pt 6 1) (.cT (by kernel_rfl) (.s [bx (aa an),bx [(iA bs)],(mY p q u ab),bx [(iA ao)],bx (aa ca),aD.rng cp.ready,bx ([(bA d)]++ae bm++[(iA 0),(iA 0)])] (.s (ag ([(bA d)]++ae bm++[(iA 0),(iA 0)])) (.dY rfl (.cl (yq.trans (ke.trans (Cm C (ec C n 8) (ey C n 8) (n+8) _ _ _ _ _ _ _ _ _))) (.cT (by kernel_rfl) (.lp (fQ rfl) (.sq (pt 7 0) (.s [bx (aa an),bx [(iA bs)],(mY p q u ab),bx [(iA ao)],bx (aa ca),aD.rng cp.ready,bx ([(bA d)]++ae bm++[(iA 0),(iA 0)]),bx ([(bA d)]++ae bm++[(iA 0),(iA 0)])] (.lp (fQ rfl) (.s (pt 7 0) (.s (bA d) (.bg (fun t (y:Bool)=>∃ hk ho hp hq hr:A,t=[(bA y),hk,ho,hp,hq,hr]) ?_ ?_))))))))))))))
    ·refine .eQ (fun zm=>?_) (fun zm=>?_)
     ·exact .s (ag [(iA p),(im (q.map ae) false),(im (u.map af) false),(im (ab.map cB) false)]) (.s (pt 7 1) (.s (ag (ae bm)) (.bd (g:=fun (y:Bool)=>(bA y)) (by show C 50 [snap _ (ag [(iA p),(im (q.map ae) false),(im (u.map af) false),(im (ab.map cB) false)]),snap _ (ag (ae bm))]=_; simp only[cF,eA]; exact fs ((ah.mk p q u ab)) bm) fun zn=>.s (bA (!zn)) (.lg ⟨_,_,_,_,_,rfl⟩))))
     exact .lg ⟨_,_,_,_,_,rfl⟩
    rintro _ y1154 ⟨hk,ho,hp,hq,hr,rfl⟩
    refine .u4 (.uc (.uc (.bg (fun t (y:Bool)=>∃ hs ht hv hx hy ie ik js kc kk:A,t=[(bA y),hs,ht,hv,hx,hy,ie,ik,js,kc,kk]) ?_ ?_)))
    ·refine .eQ (fun zz=>?_) (fun zz=>?_)
     ·exact .lg ⟨_,_,_,_,_,_,_,_,_,_,rfl⟩
     refine .s (pt 7 0) (.s (bA d) (.s (bA (!d)) (.bg (fun t (y:Bool)=>∃ kn ko kt lx ly:A,t=[(bA y),kn,ko,kt,lx,ly]) ?_ ?_)))
     ·refine .eQ (fun hk1161=>?_) (fun hk1161=>?_)
      ·exact .s (ag [(iA p),(im (q.map ae) false),(im (u.map af) false),(im (ab.map cB) false)]) (.s (pt 7 4) (.s (ag [(iA 0),(iA 0)]) (.bd (g:=fun (y:Bool)=>(bA y)) (by show C 51 [snap _ (ag [(iA p),(im (q.map ae) false),(im (u.map af) false),(im (ab.map cB) false)]),snap _ (ag [(iA 0),(iA 0)])]=_; simp only[cF,eA]; exact fv ((ah.mk p q u ab)) ((av.mk 0 0))) fun y1162=>.s (bA (!y1162)) (.lg ⟨_,_,_,_,_,rfl⟩))))
      exact .lg ⟨_,_,_,_,_,rfl⟩
     rintro _ y1163 ⟨kn,ko,kt,lx,ly,rfl⟩
     exact .u4 (.uc (.uc (.lg ⟨_,_,_,_,_,_,_,_,_,_,rfl⟩)))
    rintro _ y1169 ⟨hs,ht,hv,hx,hy,ie,ik,js,kc,kk,rfl⟩
    refine .u4 (.u4 (.uc (.uc (.uc (.aY (fun hk1180=>?_) (fun hk1180=>?_))))))
    ·exact .s [bx (aa an),bx [(iA 530)],(mY p q u ab),bx [(iA ao)],bx (aa ca),aD.rng cp.busy,bx ([(bA d)]++ae bm++[(iA 0),(iA 0)]),bx ([(bA d)]++ae bm++[(iA 0),(iA 0)])] (.lp (dT rfl) (.cr (.ok (.s (bA true) (.fe (.ex (x0 _ _ _ _ _ _ _ _ _ _ _ _)))))))
    refine .s (ag [(iA p),(im (q.map ae) false),(im (u.map af) false),(im (ab.map cB) false)]) (.s (ag ([(bA d)]++ae bm++[(iA 0),(iA 0)])) (.bd (g:=fun (y:ah)=>(ag [(iA y.Self),(im (y.Leases.map ae) false),(im (y.Calls.map af) false),(im (y.Order.map cB) false)])) (by show C 33 [snap _ (ag [(iA p),(im (q.map ae) false),(im (u.map af) false),(im (ab.map cB) false)]),snap _ (ag ([(bA d)]++ae bm++[(iA 0),(iA 0)]))]=_; simp only[cF,eA]; exact en ((ah.mk p q u ab)) ((aj.mk d bm ((av.mk 0 0))))) fun mn=>.sh (.s (iA ao) (.st (aP ..) (.s [bx (aa an),bx [(iA bs)],bx (aa mn),bx [(iA (wr .i64 (ao+1)))],bx (aa ca),aD.rng cp.busy,bx ([(bA d)]++ae bm++[(iA 0),(iA 0)]),bx ([(bA d)]++ae bm++[(iA 0),(iA 0)])] (.lp (dT rfl) (.cr (.ok (.s (bA false) (.gR (.st (aP ..) (.st (v:=[bx (aa an),bx [(iA bs)],bx (aa mn),bx [(iA (wr .i64 (ao+1)))],bx (aa ca),aD.rng cp.ready]) (dy (by kernel_rfl) (by simp only[uB,eF,eG,Nat.reduceLT,decide_true])) (.cT ((by kernel_rfl:_=(bif aG 6 (zc.map ae) then (bif aG 6 (ck.map af) then (bif aG 6 (eg.map cB) then true else false) else false) else false)).trans (by simp only[eF,eG])) ?_)))))))))))))
    exact ih _ _ _ _ _ _ _ _
   refine .s (bA (!d)) (.bg (fun t (y:Bool)=>∃ mx nb nf:A,t=[(bA y),mx,nb,nf]) ?_ ?_)
   ·refine .eQ (fun hk1182=>?_) (fun hk1182=>?_)
    ·exact .st (eb (e:=62)) (.st (ee ..) (.lg ⟨_,_,_,rfl⟩))
    exact .lg ⟨_,_,_,rfl⟩
   rintro _ y1183 ⟨mx,nb,nf,rfl⟩
   refine .u4 (.aY (fun hk1187=>?_) (fun hk1187=>?_))
   ·refine .bd (iT (e:=62) (es:=2)) fun ad=>.s (ag [(iA ad.Bar),(iA ad.Program)]) (.bd (eY (e:=62) (es:=2) (f:=af) (l:=ck) (a:=1) (b:=(ck.length:Int)) (by kernel_rfl) (by kernel_rfl) (fun _=>rfl) (.inr ⟨_,rfl⟩) (.inl ⟨rfl,rfl⟩)) fun y1189=>.s (pt 6 4) (.cT (by kernel_rfl) (.s [bx (aa an),bx [(iA bs)],(mY p q u ab),bx [(iA ao)],bx (aa ca),aD.rng cp.ready,(bZ d ad)] (.s (ag [(bA d),(iA 0),(iA 0),(iA 0),(iA ad.Bar),(iA ad.Program)]) (.dY rfl (.cl (yq.trans (ke.trans (Cm C (ec C n 8) (ey C n 8) (n+8) _ _ _ _ _ _ _ _ _))) (.cT (by kernel_rfl) (.lp (fQ rfl) (.sq (pt 7 0) (.s [bx (aa an),bx [(iA bs)],(mY p q u ab),bx [(iA ao)],bx (aa ca),aD.rng cp.ready,(bZ d ad),(bZ d ad)] (.lp (fQ rfl) (.s (pt 7 0) (.s (bA d) (.bg (fun t (y:Bool)=>∃ ni ns nt oc oi:A,t=[(bA y),ni,ns,nt,oc,oi]) ?_ ?_))))))))))))))
    ·refine .eQ (fun hk1190=>?_) (fun hk1190=>?_)
     ·exact .s (ag [(iA p),(im (q.map ae) false),(im (u.map af) false),(im (ab.map cB) false)]) (.s (pt 7 1) (.s (ag [(iA 0),(iA 0),(iA 0)]) (.bd (g:=fun (y:Bool)=>(bA y)) (by show C 50 [snap _ (ag [(iA p),(im (q.map ae) false),(im (u.map af) false),(im (ab.map cB) false)]),snap _ (ag [(iA 0),(iA 0),(iA 0)])]=_; simp only[cF,eA]; exact fs ((ah.mk p q u ab)) ((ak.mk 0 0 0))) fun y1191=>.s (bA (!y1191)) (.lg ⟨_,_,_,_,_,rfl⟩))))
     exact .lg ⟨_,_,_,_,_,rfl⟩
    rintro _ y1192 ⟨ni,ns,nt,oc,oi,rfl⟩
    refine .u4 (.uc (.uc (.bg (fun t (y:Bool)=>∃ oj oo oq pc ps qi qv si sk so:A,t=[(bA y),oj,oo,oq,pc,ps,qi,qv,si,sk,so]) ?_ ?_)))
    ·refine .eQ (fun hk1198=>?_) (fun hk1198=>?_)
     ·exact .lg ⟨_,_,_,_,_,_,_,_,_,_,rfl⟩
     refine .s (pt 7 0) (.s (bA d) (.s (bA (!d)) (.bg (fun t (y:Bool)=>∃ tb tk tm ts tw:A,t=[(bA y),tb,tk,tm,ts,tw]) ?_ ?_)))
     ·refine .eQ (fun hk1199=>?_) (fun hk1199=>?_)
      ·exact .s (ag [(iA p),(im (q.map ae) false),(im (u.map af) false),(im (ab.map cB) false)]) (.s (pt 7 4) (.s (ag [(iA ad.Bar),(iA ad.Program)]) (.bd (g:=fun (y:Bool)=>(bA y)) (by show C 51 [snap _ (ag [(iA p),(im (q.map ae) false),(im (u.map af) false),(im (ab.map cB) false)]),snap _ (ag [(iA ad.Bar),(iA ad.Program)])]=_; simp only[cF,eA]; exact fv ((ah.mk p q u ab)) ad) fun y1200=>.s (bA (!y1200)) (.lg ⟨_,_,_,_,_,rfl⟩))))
      exact .lg ⟨_,_,_,_,_,rfl⟩
     rintro _ y1201 ⟨tb,tk,tm,ts,tw,rfl⟩
     exact .u4 (.uc (.uc (.lg ⟨_,_,_,_,_,_,_,_,_,_,rfl⟩)))
    rintro _ y1207 ⟨oj,oo,oq,pc,ps,qi,qv,si,sk,so,rfl⟩
    refine .u4 (.u4 (.uc (.uc (.uc (.aY (fun hk1218=>?_) (fun hk1218=>?_))))))
    ·exact .s [bx (aa an),bx [(iA 530)],(mY p q u ab),bx [(iA ao)],bx (aa ca),aD.rng cp.busy,(bZ d ad),(bZ d ad)] (.lp (dT rfl) (.cr (.ok (.s (bA true) (.fe (.ex (x0 _ _ _ _ _ _ _ _ _ _ _ _)))))))
    refine .s (ag [(iA p),(im (q.map ae) false),(im (u.map af) false),(im (ab.map cB) false)]) (.s (ag [(bA d),(iA 0),(iA 0),(iA 0),(iA ad.Bar),(iA ad.Program)]) (.bd (g:=fun (y:ah)=>(ag [(iA y.Self),(im (y.Leases.map ae) false),(im (y.Calls.map af) false),(im (y.Order.map cB) false)])) (by show C 33 [snap _ (ag [(iA p),(im (q.map ae) false),(im (u.map af) false),(im (ab.map cB) false)]),snap _ (ag [(bA d),(iA 0),(iA 0),(iA 0),(iA ad.Bar),(iA ad.Program)])]=_; simp only[cF,eA]; exact en ((ah.mk p q u ab)) ((aj.mk d ((ak.mk 0 0 0)) ad))) fun vr=>.sh (.s (iA ao) (.st (aP ..) (.s [bx (aa an),bx [(iA bs)],bx (aa vr),bx [(iA (wr .i64 (ao+1)))],bx (aa ca),aD.rng cp.busy,(bZ d ad),(bZ d ad)] (.lp (dT rfl) (.cr (.ok (.s (bA false) (.gR (.st (aP ..) (.st (v:=[bx (aa an),bx [(iA bs)],bx (aa vr),bx [(iA (wr .i64 (ao+1)))],bx (aa ca),aD.rng cp.ready]) (dy (by kernel_rfl) (by simp only[uB,eF,eG,Nat.reduceLT,decide_true])) (.cT ((by kernel_rfl:_=(bif aG 6 (ch.map ae) then (bif aG 6 (y1189.map af) then (bif aG 6 (eg.map cB) then true else false) else false) else false)).trans (by simp only[eF,eG])) ?_)))))))))))))
    exact ih _ _ _ _ _ _ _ _
   exact .ex (x1 _ _ _ _ _ _ _ _ _ _)
  exact .ex (x2 _ _ _ _ _ _ _ _ _)
def JQ (n:Nat) (a0:ah):Option Int :=
 (vR a0.Self 0 1).bind fun d=>(bif (!d) then (some true) else (some (((a0.Order.length:Int))==0))).bind fun p=>(bif p then (some true) else (some (((a0.Order.length:Int)) != (wr .i64 (((a0.Leases.length:Int))+((a0.Calls.length:Int))))))).bind fun q=>(bif q then (some true) else (some (decide (256<((a0.Leases.length:Int)))))).bind fun u=>bif u then (some 530) else ((gA n a0.Order ((a0.Order.length:Int)) a0 0 a0 (n+7) a0.Leases a0.Calls 0 a0.Self ([]) ([]) ([]) 0).bind fun y=>match y with | (Sum.inl ((ab,cc)))=>some ab | (Sum.inr ((Sum.inl ad)))=>(bif (ad != ((a0.Order.length:Int))) then (some true) else ((bX a0.Order 0).bind fun an=>some (!an))).bind fun ao=>bif ao then (some 530) else (some 0) | (Sum.inr ((Sum.inr bm)))=>(bif (bm != ((a0.Order.length:Int))) then (some true) else ((bX a0.Order 0).bind fun bs=>some (!bs))).bind fun ca=>bif ca then (some 530) else (some 0))
theorem NM (C:OT) (n:Nat) (hp:qk C) (hq:qM C) (hr:vW C) (hs:zq C) (a0:ah):J (fun (o:R) y=>∃ v,o.1=.ret v/\aF o.2 v=(iA y)) (aB (cx C) (ec C n 8) (ey C n 8) (n+8) 20 [(ag (aa a0))] [] 0) some (JQ n a0) some:=by
 refine .lp (Gp ..) ?_
 unfold JQ
 refine .s ((pt 0 0),[bx (aa a0)]) (.s ((pt 1 0),[bx (aa a0),bx [(iA 0)]]) (.s (pt 0 0) (.s (iA a0.Self) (.bd (hq a0.Self 0 1) fun y1=>.s (bA (!y1)) (.bg (fun t (y:Bool)=>∃ q u j6 j7:A,t=[(bA y),q,u,j6,j7]) ?_ ?_)))))
 ·refine .eQ (fun hv=>?_) (fun hv=>?_)
  ·exact .lg ⟨_,_,_,_,rfl⟩
  exact .s (pt 0 3) (.s (im (a0.Order.map cB) false) (.st (eb (e:=4)) (.st (bC ..) (.lg ⟨_,_,_,_,rfl⟩))))
 rintro _ y3 ⟨q,u,j6,j7,rfl⟩
 refine .u4 (.uc (.bg (fun t (y:Bool)=>∃ an ao bm bs ca cc ch ck cm cn cv:A,t=[(bA y),an,ao,bm,bs,ca,cc,ch,ck,cm,cn,cv]) ?_ ?_))
 ·refine .eQ (fun hx=>?_) (fun hx=>?_)
  ·exact .lg ⟨_,_,_,_,_,_,_,_,_,_,_,rfl⟩
  exact .s (pt 0 3) (.s (im (a0.Order.map cB) false) (.st (eb (e:=4)) (.s (pt 0 1) (.s (im (a0.Leases.map ae) false) (.st (eb (e:=59)) (.s (pt 0 2) (.s (im (a0.Calls.map af) false) (.st (eb (e:=62)) (.st (aP ..) (.st (bq ..) (.lg ⟨_,_,_,_,_,_,_,_,_,_,_,rfl⟩)))))))))))
 rintro _ y9 ⟨an,ao,bm,bs,ca,cc,ch,ck,cm,cn,cv,rfl⟩
 refine .u4 (.u4 (.u4 (.bg (fun t (y:Bool)=>∃ cy dd ea eg:A,t=[(bA y),cy,dd,ea,eg]) ?_ ?_)))
 ·refine .eQ (fun hy=>?_) (fun hy=>?_)
  ·exact .lg ⟨_,_,_,_,rfl⟩
  exact .s (pt 0 1) (.s (im (a0.Leases.map ae) false) (.st (eb (e:=59)) (.st (ee ..) (.lg ⟨_,_,_,_,rfl⟩))))
 rintro _ kt ⟨cy,dd,ea,eg,rfl⟩
 refine .u4 (.uc (.aY (fun ie=>?_) (fun ie=>?_)))
 ·exact .s [bx (aa a0),bx [(iA 530)]] (.s (iA 530) (.lv rfl))
 refine .s (pt 0 0) (.s (iA a0.Self) (.s (ag [(iA a0.Self),(im [] true),(im [] true),(im [] true)]) (.sq (pt 2 0) (.sq (pt 3 0) (.sh (.sh (.s (ag (aa a0)) (.cl ((au zX).trans (Ke C (ec C n 7) (ey C n 7) (n+7) _ _ _)) (.s ((pt 4 0),[bx (aa a0),bx [(iA 0)],bx [(iA a0.Self),(im [] true),(im [] true),(im [] true)],bx [(iA 0)],bx (aa a0)]) (.cr (.ok (.s (55,[(pt 4 0)]) (.cT (by kernel_rfl) (.cl ((jJ zY).trans (Kg C (aA (cx C) (n+7) (nM 124 (aO (cx C) (n+8)) 5 (gK (cx C) (ec C n 8) (ey C n 8) (n+8) 20 0 0 5 [(2,(pt 1 0)),(3,(pt 2 0)),(4,(pt 3 0))]))) (aA (cx C) (n+7)) (n+7) _ _ _ _)) (.s (pt 4 1) (.s (im (a0.Leases.map ae) false) (.s (pt 4 2) (.s (im (a0.Calls.map af) false) (.s (pt 4 3) (.s (im (a0.Order.map cB) false) (.st (eb (e:=4)) (.as (BS C n _ _ _ _ hp hr hs a0.Order ((a0.Order.length:Int)) a0 0 a0 ?_ ?_ ?_ _ a0.Leases a0.Calls 0 a0.Self ([]) ([]) ([]) 0)))))))))))))))))))))))
 ·intro ih lx ly mn mx nb nf ni w1229 w1230 w1231 w1232
  exact .un rfl (.cr (.ok (.lp (GY rfl) (.s (iA ih) (.lv rfl)))))
 ·intro d ns nt oc oi oj oo w1240 w1241 w1242
  refine .un rfl (.cr (.ok (.lp (xw rfl) (.s (iA d) (.s (pt 0 3) (.s (im (a0.Order.map cB) false) (.st (eb (e:=4)) (.st (bq ..) (.bg (fun t (y:Bool)=>∃ ej en fs fv ha:A,t=[(bA y),ej,en,fs,fv,ha]) ?_ ?_)))))))))
  ·refine .eQ (fun ik=>?_) (fun ik=>?_)
   ·exact .lg ⟨_,_,_,_,_,rfl⟩
   exact .s (pt 0 3) (.s (im (a0.Order.map cB) false) (.bd (iT (e:=4) (es:=1)) fun hf=>.s (bA hf) (.s (bA (!hf)) (.lg ⟨_,_,_,_,_,rfl⟩))))
  rintro _ oq ⟨ej,en,fs,fv,ha,rfl⟩
  refine .u4 (.uc (.uc (.aY (fun js=>?_) (fun js=>?_))))
  ·exact .s [bx (aa a0),bx [(iA 530)],w1240,bx [(iA d)],w1241,aD.dead,w1242] (.s (iA 530) (.lv rfl))
  exact .s [bx (aa a0),bx [(iA 0)],w1240,bx [(iA d)],w1241,aD.dead,w1242] (.s (iA 0) (.lv rfl))
 ·intro p pc ps qi qv si sk w1259 w1260
  refine .un rfl (.cT (by kernel_rfl) (.cr (.ok (.lp (xw rfl) (.s (iA p) (.s (pt 0 3) (.s (im (a0.Order.map cB) false) (.st (eb (e:=4)) (.st (bq ..) (.bg (fun t (y:Bool)=>∃ hg hh hi hj hk:A,t=[(bA y),hg,hh,hi,hj,hk]) ?_ ?_))))))))))
  ·refine .eQ (fun kc=>?_) (fun kc=>?_)
   ·exact .lg ⟨_,_,_,_,_,rfl⟩
   exact .s (pt 0 3) (.s (im (a0.Order.map cB) false) (.bd (iT (e:=4) (es:=1)) fun ho=>.s (bA ho) (.s (bA (!ho)) (.lg ⟨_,_,_,_,_,rfl⟩))))
  rintro _ so ⟨hg,hh,hi,hj,hk,rfl⟩
  refine .u4 (.uc (.uc (.aY (fun kk=>?_) (fun kk=>?_))))
  ·exact .s [bx (aa a0),bx [(iA 530)],w1259,bx [(iA p)],w1260,aD.dead] (.s (iA 530) (.lv rfl))
  exact .s [bx (aa a0),bx [(iA 0)],w1259,bx [(iA p)],w1260,aD.dead] (.s (iA 0) (.lv rfl))
def AB (a0:ah):Option Int:=JQ aH a0
def mq (C:OT):Prop:=∀ (a0:ah),C 20 [(ag (aa a0))]=(AB a0).map fun y=>(iA y)
abbrev cq:A:=(ag [(iA 0),(im [] true),(im [] true),(im [] true)])
def JV (n:Nat) (a0:ah) (a1:Int) (a2:Int):Option (ah×Int) :=
 (AB a0).bind fun y1=>bif (!(y1==0)) then ((some ((0,530))).bind fun y=>some (((ah.mk y.1 ([]) ([]) ([])),y.2))) else ((bX a0.Leases (wr .i64 (((a0.Leases.length:Int)) - 1))).bind fun y5=>bif (y5.Holder==a0.Self) then (((Fa a0 ((ak.mk ((a0.Leases.length:Int)) a1 a2))).bind fun ca=>some ca).bind fun cc=>bif (!cc) then ((some ((0,530))).bind fun ab=>some (((ah.mk ab.1 ([]) ([]) ([])),ab.2))) else (bif (!(decide (((a0.Leases.length:Int))<256))) then ((some ((0,2))).bind fun ad=>some (((ah.mk ad.1 ([]) ([]) ([])),ad.2))) else ((xO a0 ((aj.mk true ((ak.mk ((a0.Leases.length:Int)) a1 a2)) ((av.mk 0 0))))).bind fun q=>(some ((q.Self,q.Leases,q.Calls,q.Order,0))).bind fun d=>some (((ah.mk d.1 d.2.1 d.2.2.1 d.2.2.2.1),d.2.2.2.2))))) else ((some false).bind fun ch=>bif (!ch) then ((some ((0,530))).bind fun an=>some (((ah.mk an.1 ([]) ([]) ([])),an.2))) else (bif (!(decide (((a0.Leases.length:Int))<256))) then ((some ((0,2))).bind fun ao=>some (((ah.mk ao.1 ([]) ([]) ([])),ao.2))) else ((xO a0 ((aj.mk true ((ak.mk ((a0.Leases.length:Int)) a1 a2)) ((av.mk 0 0))))).bind fun u=>(some ((u.Self,u.Leases,u.Calls,u.Order,0))).bind fun p=>some (((ah.mk p.1 p.2.1 p.2.2.1 p.2.2.2.1),p.2.2.2.2))))))
theorem NR (C:OT) (n:Nat) (cm:mq C) (cc:qk C) (cn:vW C) (a0:ah) (a1:Int) (a2:Int):J (fun (o:R) y=>∃ v,o.1=.ret v/\aF o.2 v=(tp [(ag (aa y.1)),(iA y.2)])) (aB (cx C) (ec C n 8) (ey C n 8) (n+8) 26 [(ag (aa a0)),(iA a1),(iA a2)] [] 0) some (JV n a0 a1 a2) some:=by
 refine .lp (Oo ..) ?_
 unfold JV
 refine .s ((pt 0 0),[bx (aa a0)]) (.sq (pt 1 0) (.s ((pt 2 0),[bx (aa a0),bx [(iA 0),(im [] true),(im [] true),(im [] true)],bx [(iA 0)]]) (.s (ag (aa a0)) (.bd (g:=fun (y:Int)=>(iA y)) (by show C 20 [snap _ (ag (aa a0))]=_; simp only[cF,eA]; exact cm a0) fun y1=>.st (bC ..) (.cl ((au eN).trans (pE C (ec C n 7) (ey C n 7) (n+7) _ _ _ _)) (.s (bA (!(y1==0))) (.aY (fun cy=>?_) (fun cy=>?_))))))))
 ·refine .s (A.ifc 31 (iA 530)) (.pk (.cr (.fP (.s cq (.bg (fun t (y:Int×Int) =>  t=(tp [(ag [(iA y.1),(im [] true),(im [] true),(im [] true)]),(iA y.2)])) ?_ ?_)))))
  ·exact .cl ((au iK).trans (wy C (ec C n 7) (ey C n 7) (n+7) _ _ _ _)) (.sq (pt 3 0) (.s ((pt 4 0),[bx (aa a0),bx [(iA 0),(im [] true),(im [] true),(im [] true)],bx [(iA 0)],bx [(iA 0),(im [] true),(im [] true),(im [] true)],bx [(iA 0),(im [] true),(im [] true),(im [] true)]]) (.cl ((au dj).trans (kK C (aO (cx C) (n+6)) (aA (cx C) (n+6)) (n+6) _ _ _)) (.s (bA false) (.gR (.s (tp [(iA 530),(bA true)]) (.s (bA true) (.s (iA 530) (.fe (.cr (.ok (.s (bA true) (.fe (.s cq (.s [bx (aa a0),bx [(iA 0),(im [] true),(im [] true),(im [] true)],bx [(iA 0)],bx [(iA 0),(im [] true),(im [] true),(im [] true)],bx [(iA 0),(im [] true),(im [] true),(im [] true)]] (.s cq (.cr (.lp (by kernel_rfl:_=some (tp [cq,(iA 530)])) (.lg rfl)))))))))))))))))))
  rintro _ q rfl
  exact .s (ag [(iA q.1),(im [] true),(im [] true),(im [] true)]) (.s (iA q.2) (.sh (.s [bx (aa a0),bx [(iA q.1),(im [] true),(im [] true),(im [] true)],bx [(iA q.2)]] (.s (ag [(iA q.1),(im [] true),(im [] true),(im [] true)]) (.s (iA q.2) (.lv (by show aF _ (tp [(ag [(iA q.1),(im [] true),(im [] true),(im [] true)]),(iA q.2)])=_; simp only[cF,fO,aF]; first | done | rfl)))))))
 refine .cr (.ok (.s (pt 0 1) (.s (im (a0.Leases.map ae) false) (.st (eb (e:=59)) (.s (ag [(iA ((a0.Leases.length:Int))),(iA a1),(iA a2)]) (.sq (pt 3 0) (.s [bx (aa a0),bx [(iA 0),(im [] true),(im [] true),(im [] true)],bx [(iA 0)],bx [(iA ((a0.Leases.length:Int))),(iA a1),(iA a2)]] (.s (pt 0 1) (.s (im (a0.Leases.map ae) false) (.s (pt 0 1) (.s (im (a0.Leases.map ae) false) (.st (eb (e:=59)) (.st (jB ..) (.bd (iT (e:=59) (es:=3)) fun y5=>.s (A.ip [(iA y5.Holder),(iA y5.Until)]) (.s (iA y5.Holder) (.s (pt 0 0) (.s (iA a0.Self) (.st (bC ..) (.CD (fun ca=>?_) (fun ca=>?_))))))))))))))))))))
 ·refine .bb (.s (ag (aa a0)) (.s (ag [(iA ((a0.Leases.length:Int))),(iA a1),(iA a2)]) (.cr (.uc (.uc (.bg (fun t (y:Bool)=>∃ ch:A,t=[(bA y),ch]) ?_ ?_))))))
  ·exact .vS ca (.bd (g:=fun (y:Bool)=>(bA y)) (by show C 50 [snap _ (ag (aa a0)),snap _ (ag [(iA ((a0.Leases.length:Int))),(iA a1),(iA a2)])]=_; simp only[cF,eA]; exact cn a0 ((ak.mk ((a0.Leases.length:Int)) a1 a2))) fun fv=>.lg ⟨_,rfl⟩)
  rintro _ dd ⟨ch,rfl⟩
  refine .uc (.uc (.cl ((au eN).trans (pE C (ec C n 7) (ey C n 7) (n+7) _ _ _ _)) (.s (bA (!dd)) (.aY (fun ea=>?_) (fun ea=>?_)))))
  ·refine .s (A.ifc 31 (iA 530)) (.pk (.cr (.fP (.s cq (.bg (fun t (y:Int×Int) =>  t=(tp [(ag [(iA y.1),(im [] true),(im [] true),(im [] true)]),(iA y.2)])) ?_ ?_)))))
   ·exact .cl ((au iK).trans (wy C (ec C n 7) (ey C n 7) (n+7) _ _ _ _)) (.sq (pt 4 0) (.s ((pt 5 0),[bx (aa a0),bx [(iA 0),(im [] true),(im [] true),(im [] true)],bx [(iA 0)],bx [(iA ((a0.Leases.length:Int))),(iA a1),(iA a2)],bx [(iA 0),(im [] true),(im [] true),(im [] true)],bx [(iA 0),(im [] true),(im [] true),(im [] true)]]) (.cl ((au dj).trans (kK C (aO (cx C) (n+6)) (aA (cx C) (n+6)) (n+6) _ _ _)) (.s (bA false) (.gR (.s (tp [(iA 530),(bA true)]) (.s (bA true) (.s (iA 530) (.fe (.cr (.ok (.s (bA true) (.fe (.s cq (.s [bx (aa a0),bx [(iA 0),(im [] true),(im [] true),(im [] true)],bx [(iA 0)],bx [(iA ((a0.Leases.length:Int))),(iA a1),(iA a2)],bx [(iA 0),(im [] true),(im [] true),(im [] true)],bx [(iA 0),(im [] true),(im [] true),(im [] true)]] (.s cq (.cr (.lp (by kernel_rfl:_=some (tp [cq,(iA 530)])) (.lg rfl)))))))))))))))))))
   rintro _ u rfl
   exact .s (ag [(iA u.1),(im [] true),(im [] true),(im [] true)]) (.s (iA u.2) (.sh (.s [bx (aa a0),bx [(iA u.1),(im [] true),(im [] true),(im [] true)],bx [(iA u.2)],bx [(iA ((a0.Leases.length:Int))),(iA a1),(iA a2)]] (.s (ag [(iA u.1),(im [] true),(im [] true),(im [] true)]) (.s (iA u.2) (.lv (by show aF _ (tp [(ag [(iA u.1),(im [] true),(im [] true),(im [] true)]),(iA u.2)])=_; simp only[cF,fO,aF]; first | done | rfl)))))))
  refine .cr (.ok (.s (pt 0 1) (.s (im (a0.Leases.map ae) false) (.st (eb (e:=59)) (.st (aW ..) (.cl ((au eN).trans (pE C (ec C n 7) (ey C n 7) (n+7) _ _ _ _)) (.s (bA (!(decide (((a0.Leases.length:Int))<256)))) (.aY (fun eg=>?_) (fun eg=>?_)))))))))
  ·refine .s (A.ifc 31 (iA 2)) (.pk (.cr (.fP (.s cq (.bg (fun t (y:Int×Int) =>  t=(tp [(ag [(iA y.1),(im [] true),(im [] true),(im [] true)]),(iA y.2)])) ?_ ?_)))))
   ·exact .cl ((au iK).trans (wy C (ec C n 7) (ey C n 7) (n+7) _ _ _ _)) (.sq (pt 4 0) (.s ((pt 5 0),[bx (aa a0),bx [(iA 0),(im [] true),(im [] true),(im [] true)],bx [(iA 0)],bx [(iA ((a0.Leases.length:Int))),(iA a1),(iA a2)],bx [(iA 0),(im [] true),(im [] true),(im [] true)],bx [(iA 0),(im [] true),(im [] true),(im [] true)]]) (.cl ((au dj).trans (kK C (aO (cx C) (n+6)) (aA (cx C) (n+6)) (n+6) _ _ _)) (.s (bA false) (.gR (.s (tp [(iA 2),(bA true)]) (.s (bA true) (.s (iA 2) (.fe (.cr (.ok (.s (bA true) (.fe (.s cq (.s [bx (aa a0),bx [(iA 0),(im [] true),(im [] true),(im [] true)],bx [(iA 0)],bx [(iA ((a0.Leases.length:Int))),(iA a1),(iA a2)],bx [(iA 0),(im [] true),(im [] true),(im [] true)],bx [(iA 0),(im [] true),(im [] true),(im [] true)]] (.s cq (.cr (.lp (by kernel_rfl:_=some (tp [cq,(iA 2)])) (.lg rfl)))))))))))))))))))
   rintro _ ab rfl
   exact .s (ag [(iA ab.1),(im [] true),(im [] true),(im [] true)]) (.s (iA ab.2) (.sh (.s [bx (aa a0),bx [(iA ab.1),(im [] true),(im [] true),(im [] true)],bx [(iA ab.2)],bx [(iA ((a0.Leases.length:Int))),(iA a1),(iA a2)]] (.s (ag [(iA ab.1),(im [] true),(im [] true),(im [] true)]) (.s (iA ab.2) (.lv (by show aF _ (tp [(ag [(iA ab.1),(im [] true),(im [] true),(im [] true)]),(iA ab.2)])=_; simp only[cF,fO,aF]; first | done | rfl)))))))
  refine .cr (.ok (.s (ag (aa a0)) (.s (ag [(iA ((a0.Leases.length:Int))),(iA a1),(iA a2)]) (.s (ag [(bA true),(iA ((a0.Leases.length:Int))),(iA a1),(iA a2),(iA 0),(iA 0)]) (.bd (g:=fun (y:ah)=>(ag [(iA y.Self),(im (y.Leases.map ae) false),(im (y.Calls.map af) false),(im (y.Order.map cB) false)])) (by show C 33 [snap _ (ag (aa a0)),snap _ (ag [(bA true),(iA ((a0.Leases.length:Int))),(iA a1),(iA a2),(iA 0),(iA 0)])]=_; simp only[cF,eA]; exact cc a0 ((aj.mk true ((ak.mk ((a0.Leases.length:Int)) a1 a2)) ((av.mk 0 0))))) fun ad=>.sh (.s [bx (aa a0),bx (aa ad),bx [(iA 0)],bx [(iA ((a0.Leases.length:Int))),(iA a1),(iA a2)]] (.s (ag (aa ad)) (.bg (fun t (y:Int×(List ak)×(List av)×(List Bool)×Int) =>  t=(tp [(ag [(iA y.1),(im (y.2.1.map ae) false),(im (y.2.2.1.map af) false),(im (y.2.2.2.1.map cB) false)]),(iA y.2.2.2.2)])) ?_ ?_))))))))
  ·exact .cl ((au iK).trans (wy C (ec C n 7) (ey C n 7) (n+7) _ _ _ _)) (.sq (pt 4 0) (.sq (pt 5 0) (.cl ((au dj).trans (kK C (aO (cx C) (n+6)) (aA (cx C) (n+6)) (n+6) _ _ _)) (.s (bA true) (.fe (.cr (.ok (.s (bA false) (.gR (.s (ag (aa ad)) (.s [bx (aa a0),bx (aa ad),bx [(iA 0)],bx [(iA ((a0.Leases.length:Int))),(iA a1),(iA a2)],bx (aa ad),bx (aa ad)] (.s (ag (aa ad)) (.cr (.lp (Be (v:=(tp [(ag (aa ad)),(iA 0)])) (by simp only[uB,eF,eG,Nat.reduceLT,decide_true])) (.lg rfl)))))))))))))))
  rintro _ d rfl
  exact .s (ag [(iA d.1),(im (d.2.1.map ae) false),(im (d.2.2.1.map af) false),(im (d.2.2.2.1.map cB) false)]) (.s (iA d.2.2.2.2) (.sh (.s [bx (aa a0),bx [(iA d.1),(im (d.2.1.map ae) false),(im (d.2.2.1.map af) false),(im (d.2.2.2.1.map cB) false)],bx [(iA d.2.2.2.2)],bx [(iA ((a0.Leases.length:Int))),(iA a1),(iA a2)]] (.s (ag [(iA d.1),(im (d.2.1.map ae) false),(im (d.2.2.1.map af) false),(im (d.2.2.2.1.map cB) false)]) (.s (iA d.2.2.2.2) (.lv (by show aF _ (tp [(ag [(iA d.1),(im (d.2.1.map ae) false),(im (d.2.2.1.map af) false),(im (d.2.2.2.1.map cB) false)]),(iA d.2.2.2.2)])=_; simp only[cF,fO,aF]; first | done | rfl)))))))
 refine .bb (.cr (.uc (.uc (.bg (fun t (y:Bool)=>∃ ck:A,t=[(bA y),ck]) ?_ ?_))))
 ·exact .wj ca (.lg ⟨_,rfl⟩)
 rintro _ ej ⟨ck,rfl⟩
 refine .uc (.uc (.cl ((au eN).trans (pE C (ec C n 7) (ey C n 7) (n+7) _ _ _ _)) (.s (bA (!ej)) (.aY (fun en=>?_) (fun en=>?_)))))
 ·refine .s (A.ifc 31 (iA 530)) (.pk (.cr (.fP (.s cq (.bg (fun t (y:Int×Int) =>  t=(tp [(ag [(iA y.1),(im [] true),(im [] true),(im [] true)]),(iA y.2)])) ?_ ?_)))))
  ·exact .cl ((au iK).trans (wy C (ec C n 7) (ey C n 7) (n+7) _ _ _ _)) (.sq (pt 4 0) (.s ((pt 5 0),[bx (aa a0),bx [(iA 0),(im [] true),(im [] true),(im [] true)],bx [(iA 0)],bx [(iA ((a0.Leases.length:Int))),(iA a1),(iA a2)],bx [(iA 0),(im [] true),(im [] true),(im [] true)],bx [(iA 0),(im [] true),(im [] true),(im [] true)]]) (.cl ((au dj).trans (kK C (aO (cx C) (n+6)) (aA (cx C) (n+6)) (n+6) _ _ _)) (.s (bA false) (.gR (.s (tp [(iA 530),(bA true)]) (.s (bA true) (.s (iA 530) (.fe (.cr (.ok (.s (bA true) (.fe (.s cq (.s [bx (aa a0),bx [(iA 0),(im [] true),(im [] true),(im [] true)],bx [(iA 0)],bx [(iA ((a0.Leases.length:Int))),(iA a1),(iA a2)],bx [(iA 0),(im [] true),(im [] true),(im [] true)],bx [(iA 0),(im [] true),(im [] true),(im [] true)]] (.s cq (.cr (.lp (by kernel_rfl:_=some (tp [cq,(iA 530)])) (.lg rfl)))))))))))))))))))
  rintro _ an rfl
  exact .s (ag [(iA an.1),(im [] true),(im [] true),(im [] true)]) (.s (iA an.2) (.sh (.s [bx (aa a0),bx [(iA an.1),(im [] true),(im [] true),(im [] true)],bx [(iA an.2)],bx [(iA ((a0.Leases.length:Int))),(iA a1),(iA a2)]] (.s (ag [(iA an.1),(im [] true),(im [] true),(im [] true)]) (.s (iA an.2) (.lv (by show aF _ (tp [(ag [(iA an.1),(im [] true),(im [] true),(im [] true)]),(iA an.2)])=_; simp only[cF,fO,aF]; first | done | rfl)))))))
 refine .cr (.ok (.s (pt 0 1) (.s (im (a0.Leases.map ae) false) (.st (eb (e:=59)) (.st (aW ..) (.cl ((au eN).trans (pE C (ec C n 7) (ey C n 7) (n+7) _ _ _ _)) (.s (bA (!(decide (((a0.Leases.length:Int))<256)))) (.aY (fun fs=>?_) (fun fs=>?_)))))))))
 ·refine .s (A.ifc 31 (iA 2)) (.pk (.cr (.fP (.s cq (.bg (fun t (y:Int×Int) =>  t=(tp [(ag [(iA y.1),(im [] true),(im [] true),(im [] true)]),(iA y.2)])) ?_ ?_)))))
  ·exact .cl ((au iK).trans (wy C (ec C n 7) (ey C n 7) (n+7) _ _ _ _)) (.sq (pt 4 0) (.s ((pt 5 0),[bx (aa a0),bx [(iA 0),(im [] true),(im [] true),(im [] true)],bx [(iA 0)],bx [(iA ((a0.Leases.length:Int))),(iA a1),(iA a2)],bx [(iA 0),(im [] true),(im [] true),(im [] true)],bx [(iA 0),(im [] true),(im [] true),(im [] true)]]) (.cl ((au dj).trans (kK C (aO (cx C) (n+6)) (aA (cx C) (n+6)) (n+6) _ _ _)) (.s (bA false) (.gR (.s (tp [(iA 2),(bA true)]) (.s (bA true) (.s (iA 2) (.fe (.cr (.ok (.s (bA true) (.fe (.s cq (.s [bx (aa a0),bx [(iA 0),(im [] true),(im [] true),(im [] true)],bx [(iA 0)],bx [(iA ((a0.Leases.length:Int))),(iA a1),(iA a2)],bx [(iA 0),(im [] true),(im [] true),(im [] true)],bx [(iA 0),(im [] true),(im [] true),(im [] true)]] (.s cq (.cr (.lp (by kernel_rfl:_=some (tp [cq,(iA 2)])) (.lg rfl)))))))))))))))))))
  rintro _ ao rfl
  exact .s (ag [(iA ao.1),(im [] true),(im [] true),(im [] true)]) (.s (iA ao.2) (.sh (.s [bx (aa a0),bx [(iA ao.1),(im [] true),(im [] true),(im [] true)],bx [(iA ao.2)],bx [(iA ((a0.Leases.length:Int))),(iA a1),(iA a2)]] (.s (ag [(iA ao.1),(im [] true),(im [] true),(im [] true)]) (.s (iA ao.2) (.lv (by show aF _ (tp [(ag [(iA ao.1),(im [] true),(im [] true),(im [] true)]),(iA ao.2)])=_; simp only[cF,fO,aF]; first | done | rfl)))))))
 refine .cr (.ok (.s (ag (aa a0)) (.s (ag [(iA ((a0.Leases.length:Int))),(iA a1),(iA a2)]) (.s (ag [(bA true),(iA ((a0.Leases.length:Int))),(iA a1),(iA a2),(iA 0),(iA 0)]) (.bd (g:=fun (y:ah)=>(ag [(iA y.Self),(im (y.Leases.map ae) false),(im (y.Calls.map af) false),(im (y.Order.map cB) false)])) (by show C 33 [snap _ (ag (aa a0)),snap _ (ag [(bA true),(iA ((a0.Leases.length:Int))),(iA a1),(iA a2),(iA 0),(iA 0)])]=_; simp only[cF,eA]; exact cc a0 ((aj.mk true ((ak.mk ((a0.Leases.length:Int)) a1 a2)) ((av.mk 0 0))))) fun bm=>.sh (.s [bx (aa a0),bx (aa bm),bx [(iA 0)],bx [(iA ((a0.Leases.length:Int))),(iA a1),(iA a2)]] (.s (ag (aa bm)) (.bg (fun t (y:Int×(List ak)×(List av)×(List Bool)×Int) =>  t=(tp [(ag [(iA y.1),(im (y.2.1.map ae) false),(im (y.2.2.1.map af) false),(im (y.2.2.2.1.map cB) false)]),(iA y.2.2.2.2)])) ?_ ?_))))))))
 ·exact .cl ((au iK).trans (wy C (ec C n 7) (ey C n 7) (n+7) _ _ _ _)) (.sq (pt 4 0) (.sq (pt 5 0) (.cl ((au dj).trans (kK C (aO (cx C) (n+6)) (aA (cx C) (n+6)) (n+6) _ _ _)) (.s (bA true) (.fe (.cr (.ok (.s (bA false) (.gR (.s (ag (aa bm)) (.s [bx (aa a0),bx (aa bm),bx [(iA 0)],bx [(iA ((a0.Leases.length:Int))),(iA a1),(iA a2)],bx (aa bm),bx (aa bm)] (.s (ag (aa bm)) (.cr (.lp (Be (v:=(tp [(ag (aa bm)),(iA 0)])) (by simp only[uB,eF,eG,Nat.reduceLT,decide_true])) (.lg rfl)))))))))))))))
 rintro _ p rfl
 exact .s (ag [(iA p.1),(im (p.2.1.map ae) false),(im (p.2.2.1.map af) false),(im (p.2.2.2.1.map cB) false)]) (.s (iA p.2.2.2.2) (.sh (.s [bx (aa a0),bx [(iA p.1),(im (p.2.1.map ae) false),(im (p.2.2.1.map af) false),(im (p.2.2.2.1.map cB) false)],bx [(iA p.2.2.2.2)],bx [(iA ((a0.Leases.length:Int))),(iA a1),(iA a2)]] (.s (ag [(iA p.1),(im (p.2.1.map ae) false),(im (p.2.2.1.map af) false),(im (p.2.2.2.1.map cB) false)]) (.s (iA p.2.2.2.2) (.lv (by show aF _ (tp [(ag [(iA p.1),(im (p.2.1.map ae) false),(im (p.2.2.1.map af) false),(im (p.2.2.2.1.map cB) false)]),(iA p.2.2.2.2)])=_; simp only[cF,fO,aF]; first | done | rfl)))))))
def Hc (a0:ah) (a1:Int) (a2:Int):Option (ah×Int):=JV aH a0 a1 a2
def Bx (C:OT):Prop:=∀ (a0:ah) (a1:Int) (a2:Int),C 26 [(ag (aa a0)),(iA a1),(iA a2)]=(Hc a0 a1 a2).map fun y=>(tp [(ag (aa y.1)),(iA y.2)])
def JT (n:Nat) (a0:ah) (a1:Int) (a2:Int):Option (ah×Int) :=
 (AB a0).bind fun u=>(bif (u==0) then ((FW a0 ((av.mk a1 a2))).bind fun y=>some y) else (some false)).bind fun y4=>bif (!y4) then ((some ((0,530))).bind fun q=>some (((ah.mk q.1 ([]) ([]) ([])),q.2))) else ((xO a0 ((aj.mk false ((ak.mk 0 0 0)) ((av.mk a1 a2))))).bind fun p=>(some ((p.Self,p.Leases,p.Calls,p.Order,0))).bind fun d=>some (((ah.mk d.1 d.2.1 d.2.2.1 d.2.2.2.1),d.2.2.2.2)))
theorem NP (C:OT) (n:Nat) (an:mq C) (ao:qk C) (bm:zq C) (a0:ah) (a1:Int) (a2:Int):J (fun (o:R) y=>∃ v,o.1=.ret v/\aF o.2 v=(tp [(ag (aa y.1)),(iA y.2)])) (aB (cx C) (ec C n 8) (ey C n 8) (n+8) 24 [(ag (aa a0)),(iA a1),(iA a2)] [] 0) some (JT n a0 a1 a2) some:=by
 refine .lp (Om ..) ?_
 unfold JT
 refine .s ((pt 0 0),[bx (aa a0)]) (.sq (pt 1 0) (.sq (pt 2 0) (.s (ag [(iA a1),(iA a2)]) (.sq (pt 3 0) (.s [bx (aa a0),bx [(iA 0),(im [] true),(im [] true),(im [] true)],bx [(iA 0)],bx [(iA a1),(iA a2)]] (.s (ag (aa a0)) (.bd (g:=fun (y:Int)=>(iA y)) (by show C 20 [snap _ (ag (aa a0))]=_; simp only[cF,eA]; exact an a0) fun y1=>.st (bC ..) (.bg (fun t (y:Bool)=>∃ u j6 j7:A,t=[(bA y),u,j6,j7]) ?_ ?_))))))))
 ·refine .eQ (fun bs=>?_) (fun bs=>?_)
  ·exact .s (ag (aa a0)) (.s (ag [(iA a1),(iA a2)]) (.bd (g:=fun (y:Bool)=>(bA y)) (by show C 51 [snap _ (ag (aa a0)),snap _ (ag [(iA a1),(iA a2)])]=_; simp only[cF,eA]; exact bm a0 ((av.mk a1 a2))) fun y3=>.lg ⟨_,_,_,rfl⟩))
  exact .lg ⟨_,_,_,rfl⟩
 rintro _ y4 ⟨u,j6,j7,rfl⟩
 refine .u4 (.cl ((au eN).trans (pE C (ec C n 7) (ey C n 7) (n+7) _ _ _ _)) (.s (bA (!y4)) (.aY (fun cc=>?_) (fun cc=>?_))))
 ·refine .s (A.ifc 31 (iA 530)) (.pk (.cr (.fP (.s (ag [(iA 0),(im [] true),(im [] true),(im [] true)]) (.bg (fun t (y:Int×Int) =>  t=(tp [(ag [(iA y.1),(im [] true),(im [] true),(im [] true)]),(iA y.2)])) ?_ ?_)))))
  ·exact .cl ((au iK).trans (wy C (ec C n 7) (ey C n 7) (n+7) _ _ _ _)) (.sq (pt 4 0) (.sq (pt 5 0) (.cl ((au dj).trans (kK C (aO (cx C) (n+6)) (aA (cx C) (n+6)) (n+6) _ _ _)) (.s (bA false) (.gR (.s (tp [(iA 530),(bA true)]) (.s (bA true) (.s (iA 530) (.fe (.cr (.ok (.s (bA true) (.fe (.s (ag [(iA 0),(im [] true),(im [] true),(im [] true)]) (.s [bx (aa a0),bx [(iA 0),(im [] true),(im [] true),(im [] true)],bx [(iA 0)],bx [(iA a1),(iA a2)],bx [(iA 0),(im [] true),(im [] true),(im [] true)],bx [(iA 0),(im [] true),(im [] true),(im [] true)]] (.s (ag [(iA 0),(im [] true),(im [] true),(im [] true)]) (.cr (.lp (by kernel_rfl:_=some (tp [(ag [(iA 0),(im [] true),(im [] true),(im [] true)]),(iA 530)])) (.lg rfl)))))))))))))))))))
  rintro _ p rfl
  exact .s (ag [(iA p.1),(im [] true),(im [] true),(im [] true)]) (.s (iA p.2) (.sh (.s [bx (aa a0),bx [(iA p.1),(im [] true),(im [] true),(im [] true)],bx [(iA p.2)],bx [(iA a1),(iA a2)]] (.s (ag [(iA p.1),(im [] true),(im [] true),(im [] true)]) (.s (iA p.2) (.lv (by show aF _ (tp [(ag [(iA p.1),(im [] true),(im [] true),(im [] true)]),(iA p.2)])=_; simp only[cF,fO,aF]; first | done | rfl)))))))
 refine .cr (.ok (.s (ag (aa a0)) (.s (ag [(iA a1),(iA a2)]) (.s (ag [(bA false),(iA 0),(iA 0),(iA 0),(iA a1),(iA a2)]) (.bd (g:=fun (y:ah)=>(ag [(iA y.Self),(im (y.Leases.map ae) false),(im (y.Calls.map af) false),(im (y.Order.map cB) false)])) (by show C 33 [snap _ (ag (aa a0)),snap _ (ag [(bA false),(iA 0),(iA 0),(iA 0),(iA a1),(iA a2)])]=_; simp only[cF,eA]; exact ao a0 ((aj.mk false ((ak.mk 0 0 0)) ((av.mk a1 a2))))) fun q=>.sh (.s [bx (aa a0),bx (aa q),bx [(iA 0)],bx [(iA a1),(iA a2)]] (.s (ag (aa q)) (.bg (fun t (y:Int×(List ak)×(List av)×(List Bool)×Int) =>  t=(tp [(ag [(iA y.1),(im (y.2.1.map ae) false),(im (y.2.2.1.map af) false),(im (y.2.2.2.1.map cB) false)]),(iA y.2.2.2.2)])) ?_ ?_))))))))
 ·exact .cl ((au iK).trans (wy C (ec C n 7) (ey C n 7) (n+7) _ _ _ _)) (.sq (pt 4 0) (.sq (pt 5 0) (.cl ((au dj).trans (kK C (aO (cx C) (n+6)) (aA (cx C) (n+6)) (n+6) _ _ _)) (.s (bA true) (.fe (.cr (.ok (.s (bA false) (.gR (.s (ag (aa q)) (.s [bx (aa a0),bx (aa q),bx [(iA 0)],bx [(iA a1),(iA a2)],bx (aa q),bx (aa q)] (.s (ag (aa q)) (.cr (.lp (Be (v:=(tp [(ag (aa q)),(iA 0)])) (by simp only[uB,eF,eG,Nat.reduceLT,decide_true])) (.lg rfl)))))))))))))))
 rintro _ d rfl
 exact .s (ag [(iA d.1),(im (d.2.1.map ae) false),(im (d.2.2.1.map af) false),(im (d.2.2.2.1.map cB) false)]) (.s (iA d.2.2.2.2) (.sh (.s [bx (aa a0),bx [(iA d.1),(im (d.2.1.map ae) false),(im (d.2.2.1.map af) false),(im (d.2.2.2.1.map cB) false)],bx [(iA d.2.2.2.2)],bx [(iA a1),(iA a2)]] (.s (ag [(iA d.1),(im (d.2.1.map ae) false),(im (d.2.2.1.map af) false),(im (d.2.2.2.1.map cB) false)]) (.s (iA d.2.2.2.2) (.lv (by show aF _ (tp [(ag [(iA d.1),(im (d.2.1.map ae) false),(im (d.2.2.1.map af) false),(im (d.2.2.2.1.map cB) false)]),(iA d.2.2.2.2)])=_; simp only[cF,fO,aF]; first | done | rfl)))))))
def Hb (a0:ah) (a1:Int) (a2:Int):Option (ah×Int):=JT aH a0 a1 a2
def Bw (C:OT):Prop:=∀ (a0:ah) (a1:Int) (a2:Int),C 24 [(ag (aa a0)),(iA a1),(iA a2)]=(Hb a0 a1 a2).map fun y=>(tp [(ag (aa y.1)),(iA y.2)])
def DQ (n:Nat) (a0:Int):Option Int :=
 some (qF .i64 (wr .i64 (ng .u64 a0 1)) (wr .i64 (0 - (wr .i64 (oN .u64 a0 1)))))
theorem KS (C:OT) (n:Nat) (a0:Int):J (fun (o:R) y=>∃ v,o.1=.ret v/\aF o.2 v=(iA y)) (aB (cx C) (ec C n 8) (ey C n 8) (n+8) 102 [(A.v (.int .u64 a0))] [] 0) some (DQ n a0) some:=by
 refine .lp (K6 ..) ?_
 unfold DQ
 exact .st (kG (hb:=by decide) ..) (.st (v:=(iA (wr .i64 (ng .u64 a0 1)))) (bh (hs:=by kernel_rfl) (hd:=by kernel_rfl) ..) (.st (nO ..) (.st (v:=(iA (wr .i64 (oN .u64 a0 1)))) (bh (hs:=by kernel_rfl) (hd:=by kernel_rfl) ..) (.s (iA (wr .i64 (0 - (wr .i64 (oN .u64 a0 1))))) (.st (nP ..) (.lv rfl))))))
def Bo (a0:Int):Option Int:=DQ aH a0
def uH (C:OT):Prop:=∀ (a0:Int),C 102 [(A.v (.int .u64 a0))]=(Bo a0).map fun y=>(iA y)
def bO:aD:=bx [(iA 0),(iA 0),se,(im [] true)]
def ia (d:UInt8):aD:=bx [(iA (wr .i64 ((d.toNat:Int)))),(iA 0),se,(im [] true)]
def FY (C:OT) (N:Nat) (self:(List UInt8)->Int->Option (Bool×ar×(List UInt8))):Prop:=∀ (a2:(List UInt8)) (a3:Int) (X:ay),J (fun (o:R) (y:(Bool×ar×(List UInt8)))=>o=((bif y.1 then Out.ret (ag [(iA y.2.1.Kind),(iA y.2.1.N),(sA y.2.1.S),(im (y.2.1.L.map aw) false)]) else Out.pan (A.ifc 31 (iA 10))),[bO,bx [(iA 0)],bx [(im (y.2.2.map c8) false)]]++X)) (aO (cx C) N 82 [(pt 2 0),(iA a3)] ([bO,bx [(iA 0)],bx [(im (a2.map c8) false)]]++X) 0) some (self a2 a3) some
def eB (n:Nat):Nat->Int->Int->(List UInt8)->Option (((List UInt8))⊕(Int×(List UInt8)))
 | 0,_,_,_=>none
 | m+1,y,d,p=>bif (!(decide (1<=((p.length:Int))))) then (some ((Sum.inl p))) else ((et p 0 1).bind fun ab=>(et p 1 ((p.length:Int))).bind fun u=>(bX ab 0).bind fun q=>(bif (d==0) then (some true) else (some (((q.toNat:Int)) != 0))).bind fun ad=>(bif ad then ((bif (decide (d<9)) then (some true) else (some (decide (((q.toNat:Int))<=1)))).bind fun an=>some an) else (some false)).bind fun ao=>bif (!ao) then (some ((Sum.inl u))) else (bif decide (0<=(wr .i64 (7*d))) then (bif (decide (((q.toNat:Int))<128)) then (some ((Sum.inr ((mF .u64 y (sD .u64 (wr .u64 (oN .u8 ((q.toNat:Int)) 127)) (wr .i64 (7*d))),u))))) else (eB n m (mF .u64 y (sD .u64 (wr .u64 (oN .u8 ((q.toNat:Int)) 127)) (wr .i64 (7*d)))) (wr .i64 (d+1)) u)) else none))
theorem mI {w767:aD} {K:(((List UInt8))⊕(Int×(List UInt8)))->Option γ} (x0:∀ (p:(List UInt8)) (q:A) (s2:A) (u:A),J φ (kp (A.ifc 31 (iA 10)) (St.mk [(0,q),(2,s2),(3,u)] [bO,bx [(iA 0)],bx [(im (p.map c8) false)],w767])) kL (K (Sum.inl p)) some) (x1:∀ (p:Int) (o1:(List UInt8)) (q:A) (u:A),J φ (kr (St.mk [(0,q),(2,(A.v (.int .u64 p))),(3,u)] [bO,bx [(iA 0)],bx [(im (o1.map c8) false)],w767])) kL (K (Sum.inr ((p,o1)))) some) :
  ∀ (m:Nat) (ab:Int) (ad:Int) (d:(List UInt8)),J φ (aK (cx C) (aO (cx C) (n+6)) (aA (cx C) (n+6)) (n+6) 103 0 0 4 kx kg kr kp m (St.mk [(0,(pt 2 0)),(2,(A.v (.int .u64 ab))),(3,(iA ad))] [bO,bx [(iA 0)],bx [(im (d.map c8) false)],w767])) kL (eB n  m ab ad d) K:=by
 intro m
 induction m with
 | zero=>intros; exact .nn
 | succ m ih =>
  intro ab ad d
  refine .lp (Gm ..) ?_
  unfold eB
  refine .cl ((au yJ).trans (Gk C (aO (cx C) (n+5)) (aA (cx C) (n+5)) (n+5) _ _ _ _)) (.s (pt 2 0) (.s (pt 2 0) (.s (im (d.map c8) false) (.st (eb (e:=5)) (.st (fx ..) (.cl ((au pn).trans (D7 C (aO (cx C) (n+4)) (aA (cx C) (n+4)) (n+4) _ _ _ _)) (.s (bA (!(decide (1<=((d.length:Int)))))) (.aY (fun ej=>?_) (fun ej=>?_)))))))))
  ·exact .s (A.ifc 31 (iA 10)) (.pk (.cr (.fP (.cr (.fP (.ex (x0 _ _ _ _)))))))
  refine .cr (.ok (.s (pt 2 0) (.s (pt 2 0) (.s (im (d.map c8) false) (.bd (gI (e:=5) (es:=1) (f:=c8) (l:=d) (a:=0) (b:=1) (by kernel_rfl) (by kernel_rfl) (fun _=>rfl) (.inl ⟨rfl,rfl⟩)) fun hi=>.s (pt 2 0) (.s (pt 2 0) (.s (im (d.map c8) false) (.bd (eY (e:=5) (es:=1) (f:=c8) (l:=d) (a:=1) (b:=(d.length:Int)) (by kernel_rfl) (by kernel_rfl) (fun _=>rfl) (.inr ⟨_,rfl⟩) (.inl ⟨rfl,rfl⟩)) fun bm=>.s (pt 2 0) (.s (pt 2 0) (.s [bO,bx [(iA 0)],bx [(im (bm.map c8) false)],w767] (.cr (.ok (.bd (iT (e:=5) (es:=1)) fun bs=>.s (uA ((bs.toNat:Int))) (.st (bC ..) (.bg (fun t (y:Bool)=>∃ ca cc:A,t=[(bA y),ca,cc]) ?_ ?_)))))))))))))))
  ·refine .eQ (fun en=>?_) (fun en=>?_)
   ·exact .lg ⟨_,_,rfl⟩
   exact .st (bq ..) (.lg ⟨_,_,rfl⟩)
  rintro _ hj ⟨ca,cc,rfl⟩
  refine .uc (.uc (.uc (.bg (fun t (y:Bool)=>∃ ch ck cm cn cv cy:A,t=[(bA y),ch,ck,cm,cn,cv,cy]) ?_ ?_)))
  ·refine .eQ (fun fs=>?_) (fun fs=>?_)
   ·refine .st (aW ..) (.bg (fun t (y:Bool)=>∃ dd ea:A,t=[(bA y),dd,ea]) ?_ ?_)
    ·refine .eQ (fun fv=>?_) (fun fv=>?_)
     ·exact .lg ⟨_,_,rfl⟩
     exact .st (fx ..) (.lg ⟨_,_,rfl⟩)
    rintro _ hk ⟨dd,ea,rfl⟩
    exact .uc (.uc (.uc (.lg ⟨_,_,_,_,_,_,rfl⟩)))
   exact .lg ⟨_,_,_,_,_,_,rfl⟩
  rintro _ ha ⟨ch,ck,cm,cn,cv,cy,rfl⟩
  refine .u4 (.uc (.uc (.uc (.cl ((au pn).trans (D7 C (aO (cx C) (n+5)) (aA (cx C) (n+5)) (n+5) _ _ _ _)) (.s (bA (!ha)) (.aY (fun hf=>?_) (fun hf=>?_)))))))
  ·exact .s (A.ifc 31 (iA 10)) (.pk (.cr (.fP (.ex (x0 _ _ _ _)))))
  refine .cr (.ok (.st (nO ..) (.st (v:=(A.v (.int .u64 (wr .u64 (oN .u8 ((bs.toNat:Int)) 127))))) (bh (hs:=by kernel_rfl) (hd:=by kernel_rfl) ..) (.st (B8 ..) (.gd fun hg=>.st (vZ (hb:=of_decide_eq_true hg) ..) (.st (gE ..) (.st (aW ..) (.aY (fun hh=>?_) (fun hh=>?_)))))))))
  ·exact .ex (x1 _ _ _ _)
  refine .st (aP ..) (.s [bO,bx [(iA 0)],bx [(im (bm.map c8) false)],w767] (.cT (by kernel_rfl) ?_))
  exact ih _ _ _
def gn (self:(List UInt8)->Int->Option (Bool×ar×(List UInt8))) (n:Nat) (p:Int) (q:Int) (ad:Int) (an:Int) (ao:ByteArray):Nat->Int->(List UInt8)->(List ar)->Option (((List UInt8))⊕((List UInt8)×(List ar)))
 | 0,_,_,_=>none
 | m+1,u,y,ab=>bif (decide (u<q)) then ((self y (wr .i64 (p+1))).bind fun d=>bif d.1 then ((dS 56 ab ([d.2.1])).bind fun bm=>gn self n p q ad an ao m (wr .i64 (u+1)) d.2.2 bm) else (some ((Sum.inl d.2.2)))) else (some ((Sum.inr ((y,ab)))))
theorem AD (self:(List UInt8)->Int->Option (Bool×ar×(List UInt8))) (hS:FY C (n+8) self) (ao:Int) (ck:Int) (q:Int) (u:Int) (ab:ByteArray) {K:(((List UInt8))⊕((List UInt8)×(List ar)))->Option γ} (x0:∀ (o0:(List UInt8)) (s0:A) (s1:A) (s4:A) (bs:A) (ca:A) (q3:aD) (q4:aD),J φ (kp (A.ifc 31 (iA 10)) (St.mk [(0,s0),(1,s1),(4,s4),(36,bs),(37,ca)] [bO,bx [(iA 0)],bx [(im (o0.map c8) false)],q3,q4])) kL (K (Sum.inl o0)) some) (x1:∀ (o0:(List UInt8)) (o1:(List ar)) (s0:A) (s1:A) (bs:A) (ca:A),J φ (kx 1 (St.mk [(0,s0),(1,s1),(4,(pt 3 0)),(36,bs),(37,ca)] [bO,bx [(iA 0)],bx [(im (o0.map c8) false)],bx [(iA q),(iA u),(sA ab),(cH 4 0 o1.length false)],aD.row false 4 (o1.map aw)])) kL (K (Sum.inr ((o0,o1)))) some) :
  ∀ (m:Nat) (ch:Int) (an:(List UInt8)) (d:(List ar)),J φ (aK (cx C) (ec C n 8) (ey C n 8) (n+8) 82 0 0 5 kx kg kr kp m (St.mk [(0,(pt 2 0)),(1,(iA ao)),(4,(pt 3 0)),(36,(iA ck)),(37,(iA ch))] [bO,bx [(iA 0)],bx [(im (an.map c8) false)],bx [(iA q),(iA u),(sA ab),(cH 4 0 d.length false)],aD.row false 4 (d.map aw)])) kL (gn self n ao ck q u ab m ch an d) K:=by
 intro m
 induction m with
 | zero=>intros; exact .nn
 | succ m ih =>
  intro ch an d
  refine .lp (Ix ..) ?_
  unfold gn
  refine .st (aW ..) (.aY (fun dd=>?_) (fun dd=>?_))
  ·refine .s (pt 3 3) (.s (cH 4 0 d.length false) (.st (aP ..) (.cT (by kernel_rfl) (.bg (fun (t:Out×ay) (y:(Bool×ar×(List UInt8)))=>t=((bif y.1 then Out.ret (ag [(iA y.2.1.Kind),(iA y.2.1.N),(sA y.2.1.S),(im (y.2.1.L.map aw) false)]) else Out.pan (A.ifc 31 (iA 10))),[bO,bx [(iA 0)],bx [(im (y.2.2.map c8) false)],bx [(iA q),(iA u),(sA ab),(cH 4 0 d.length false)],aD.row false 4 (d.map aw)])) (hS an (wr .i64 (ao+1)) [bx [(iA q),(iA u),(sA ab),(cH 4 0 d.length false)],aD.row false 4 (d.map aw)]) ?_))))
   rintro _ p rfl
   refine .ob ?_ ?_
   ·refine .ok (.s (im [[(iA p.2.1.Kind),(iA p.2.1.N),(sA p.2.1.S),(im (p.2.1.L.map aw) false)]] true) (.bd (g:=fun (y:List ar)=>((cH 4 0 y.length false),[bO,bx [(iA 0)],bx [(im (p.2.2.map c8) false)],bx [(iA q),(iA u),(sA ab),(cH 4 0 d.length false)],aD.row false 4 (y.map aw)])) (dB zx (l:=d) (l2:=[p.2.1]) (b:=4) rfl (by decide) (zJ (f:=aw) (l:=([p.2.1]:List ar)) (by simp only[List.map_cons,List.map_nil,lS]))) fun cm=>.s (pt 3 3) (.sh (.st (aP ..) (.s [bO,bx [(iA 0)],bx [(im (p.2.2.map c8) false)],bx [(iA q),(iA u),(sA ab),(cH 4 0 cm.length false)],aD.row false 4 (cm.map aw)] (.cT (by kernel_rfl) ?_))))))
    exact ih _ _ _
   exact .fP (.ex (x0 _ _ _ _ _ _ _ _))
  exact .ex (x1 _ _ _ _ _ _)
def vV (self:(List UInt8)->Int->Option (Bool×ar×(List UInt8))) (n:Nat) (a2:(List UInt8)) (a3:Int):Option (Bool×ar×(List UInt8)) :=
 bif (!(decide (1<=((a2.length:Int))))) then (some ((false,(default:ar),a2))) else ((et a2 0 1).bind fun y5=>(et a2 1 ((a2.length:Int))).bind fun q=>(bX y5 0).bind fun d=>bif ((wr .i64 ((d.toNat:Int)))==1) then ((eB (n+1)  (n+7) 0 0 q).bind fun an=>match an with | (Sum.inl ao)=>some ((false,(default:ar),ao)) | (Sum.inr ((bm,bs)))=>(Bo bm).bind fun ca=>some ((true,(ar.mk (wr .i64 ((d.toNat:Int))) ca zB ([])),bs))) else (bif ((wr .i64 ((d.toNat:Int)))==2) then ((eB n  (n+6) 0 0 q).bind fun cc=>match cc with | (Sum.inl ch)=>some ((false,(default:ar),ch)) | (Sum.inr ((u,p)))=>bif (!(decide (u<=(wr .u64 ((p.length:Int)))))) then (some ((false,(default:ar),p))) else (bif (!(decide ((wr .i64 (u))<=((p.length:Int))))) then (some ((false,(default:ar),p))) else ((et p 0 (wr .i64 (u))).bind fun ck=>(et p (wr .i64 (u)) ((p.length:Int))).bind fun cm=>some ((true,(ar.mk (wr .i64 ((d.toNat:Int))) 0 (nH ck) ([])),cm))))) else (bif ((wr .i64 ((d.toNat:Int)))==3) then (bif (!(decide (a3<16))) then (some ((false,(default:ar),q))) else ((eB n  (n+6) 0 0 q).bind fun cn=>match cn with | (Sum.inl cv)=>some ((false,(default:ar),cv)) | (Sum.inr ((ab,y)))=>bif (!(decide (ab<=(wr .u64 ((y.length:Int)))))) then (some ((false,(default:ar),y))) else ((gn self n a3 (wr .i64 (ab)) (wr .i64 ((d.toNat:Int))) 0 zB (n+8) 0 y (([]:List ar))).bind fun cy=>match cy with | (Sum.inl dd)=>some ((false,(default:ar),dd)) | (Sum.inr ((ea,eg)))=>some ((true,(ar.mk (wr .i64 ((d.toNat:Int))) 0 zB eg),ea))))) else (some ((false,(default:ar),q))))))
theorem KU (C:OT) (n:Nat) (ck:uH C) (self:(List UInt8)->Int->Option (Bool×ar×(List UInt8))) (hS:FY C (n+8) self) (a2:(List UInt8)) (a3:Int):J (fun (o:R) (y:(Bool×ar×(List UInt8)))=>∃ Z,o=((bif y.1 then Out.ret (ag [(iA y.2.1.Kind),(iA y.2.1.N),(sA y.2.1.S),(im (y.2.1.L.map aw) false)]) else Out.pan (A.ifc 31 (iA 10))),[bO,bx [(iA 0)],bx [(im (y.2.2.map c8) false)]]++Z)) (aB (cx C) (ec C n 8) (ey C n 8) (n+8) 82 [(pt 2 0),(iA a3)] [bO,bx [(iA 0)],bx [(im (a2.map c8) false)]] 0) some (vV self n a2 a3) some:=by
 refine .lp (OQ ..) ?_
 unfold vV
 refine .s ((pt 3 0),[bO,bx [(iA 0)],bx [(im (a2.map c8) false)],bO]) (.cl ((au yJ).trans (Gk C (ec C n 7) (ey C n 7) (n+7) _ _ _ _)) (.s (pt 2 0) (.s (pt 2 0) (.s (im (a2.map c8) false) (.st (eb (e:=5)) (.st (fx ..) (.cl ((au pn).trans (D7 C (aO (cx C) (n+6)) (aA (cx C) (n+6)) (n+6) _ _ _ _)) (.s (bA (!(decide (1<=((a2.length:Int)))))) (.aY (fun cm=>?_) (fun cm=>?_))))))))))
 ·exact .s (A.ifc 31 (iA 10)) (.pk (.cr (.fP (.cr (.fP (.lf rfl rfl ⟨[bO],rfl⟩))))))
 refine .cr (.ok (.s (pt 2 0) (.s (pt 2 0) (.s (im (a2.map c8) false) (.bd (gI (e:=5) (es:=1) (f:=c8) (l:=a2) (a:=0) (b:=1) (by kernel_rfl) (by kernel_rfl) (fun _=>rfl) (.inl ⟨rfl,rfl⟩)) fun y5=>.s (pt 2 0) (.s (pt 2 0) (.s (im (a2.map c8) false) (.bd (eY (e:=5) (es:=1) (f:=c8) (l:=a2) (a:=1) (b:=(a2.length:Int)) (by kernel_rfl) (by kernel_rfl) (fun _=>rfl) (.inr ⟨_,rfl⟩) (.inl ⟨rfl,rfl⟩)) fun y6=>.s (pt 2 0) (.s (pt 2 0) (.s [bO,bx [(iA 0)],bx [(im (y6.map c8) false)],bO] (.cr (.ok (.bd (iT (e:=5) (es:=1)) fun d=>.s (uA ((d.toNat:Int))) (.st (v:=(iA (wr .i64 ((d.toNat:Int))))) (bh (hs:=by kernel_rfl) (hd:=by kernel_rfl) ..) (.s (pt 3 0) (.s [bO,bx [(iA 0)],bx [(im (y6.map c8) false)],(ia d)] (.s (pt 3 0) (.s (iA (wr .i64 ((d.toNat:Int)))) (.st (bC ..) (.aY (fun cn=>?_) (fun cn=>?_)))))))))))))))))))))
 ·refine .cl ((au yK).trans (Gl C (ec C n 7) (ey C n 7) (n+7) _ _ _)) (.as (mI C (n+1) _ _ _ _  ?_ ?_ _ 0 0 y6))
  ·intro fv ha hf hg
   exact .un rfl (.cr (.fP (.lf rfl rfl ⟨[(ia d)],rfl⟩)))
  ·intro cv ch hh hi
   exact .un rfl (.cr (.ok (.bd (ck cv) fun an=>.s (pt 3 1) (.sh (.s (ag [(iA (wr .i64 ((d.toNat:Int)))),(iA an),se,(im [] true)]) (.s [bO,bx [(iA 0)],bx [(im (ch.map c8) false)],bx [(iA (wr .i64 ((d.toNat:Int)))),(iA an),se,(im [] true)]] (.s (ag [(iA (wr .i64 ((d.toNat:Int)))),(iA an),se,(im [] false)]) (.lf rfl rfl (q8 (o:=Out.ret (ag [(iA (wr .i64 ((d.toNat:Int)))),(iA an),se,(im [] false)])) (lo:=0) (off:=3) (b:=3) (p:=0) (H2:=[bO,bx [(iA 0)],bx [(im (ch.map c8) false)]]) (X:=[bx [(iA (wr .i64 ((d.toNat:Int)))),(iA an),se,(im [] true)]]) (Nat.le_of_ble_eq_true rfl))))))))))
 refine .st (bC ..) (.aY (fun cy=>?_) (fun cy=>?_))
 ·refine .cl ((au CT).trans (HU C (ec C n 7) (ey C n 7) (n+7) _ _ _)) (.cl ((au yK).trans (Gl C (aO (cx C) (n+6)) (aA (cx C) (n+6)) (n+6) _ _ _)) (.as (mI C n _ _ _ _  ?_ ?_ _ 0 0 y6)))
  ·intro hj hk ho hp
   exact .un rfl (.cr (.fP (.cr (.fP (.lf rfl rfl ⟨[(ia d)],rfl⟩)))))
  ·intro ao q hq hr
   refine .un rfl (.cr (.ok (.s (pt 2 0) (.s (pt 2 0) (.s (im (q.map c8) false) (.st (eb (e:=5)) (.st (v:=(A.v (.int .u64 (wr .u64 ((q.length:Int)))))) (bh (hs:=by kernel_rfl) (hd:=by kernel_rfl) ..) (.st (fx ..) (.cl ((au pn).trans (D7 C (aO (cx C) (n+6)) (aA (cx C) (n+6)) (n+6) _ _ _ _)) (.s (bA (!(decide (ao<=(wr .u64 ((q.length:Int))))))) (.aY (fun dd=>?_) (fun dd=>?_))))))))))))
   ·exact .s (A.ifc 31 (iA 10)) (.pk (.cr (.fP (.cr (.fP (.lf rfl rfl ⟨[(ia d)],rfl⟩))))))
   refine .cr (.ok (.st (v:=(iA (wr .i64 (ao)))) (bh (hs:=by kernel_rfl) (hd:=by kernel_rfl) ..) (.cr (.ok (.cl ((au yJ).trans (Gk C (ec C n 7) (ey C n 7) (n+7) _ _ _ _)) (.s (pt 2 0) (.s (pt 2 0) (.s (im (q.map c8) false) (.st (eb (e:=5)) (.st (fx ..) (.cl ((au pn).trans (D7 C (aO (cx C) (n+6)) (aA (cx C) (n+6)) (n+6) _ _ _ _)) (.s (bA (!(decide ((wr .i64 (ao))<=((q.length:Int)))))) (.aY (fun ea=>?_) (fun ea=>?_))))))))))))))
   ·exact .s (A.ifc 31 (iA 10)) (.pk (.cr (.fP (.cr (.fP (.lf rfl rfl ⟨[(ia d)],rfl⟩))))))
   exact .cr (.ok (.s (pt 2 0) (.s (pt 2 0) (.s (im (q.map c8) false) (.bd (gI (e:=5) (es:=1) (f:=c8) (l:=q) (a:=0) (b:=wr .i64 (ao)) (by kernel_rfl) (by kernel_rfl) (fun _=>rfl) (.inl ⟨rfl,rfl⟩)) fun ab=>.s (pt 2 0) (.s (pt 2 0) (.s (im (q.map c8) false) (.bd (eY (e:=5) (es:=1) (f:=c8) (l:=q) (a:=wr .i64 (ao)) (b:=(q.length:Int)) (by kernel_rfl) (by kernel_rfl) (fun _=>rfl) (.inr ⟨_,rfl⟩) (.inl ⟨rfl,rfl⟩)) fun bs=>.s (pt 2 0) (.s (pt 2 0) (.s [bO,bx [(iA 0)],bx [(im (bs.map c8) false)],(ia d)] (.cr (.ok (.st (v:=(A.v (Value.string (nH ab)))) (D4 (e:=5) (l:=ab) (by kernel_rfl) (by kernel_rfl) (by kernel_rfl) (by kernel_rfl) (b8 ..) rfl) (.s (pt 3 2) (.sh (.s (ag [(iA (wr .i64 ((d.toNat:Int)))),(iA 0),(A.v (Value.string (nH ab))),(im [] true)]) (.s [bO,bx [(iA 0)],bx [(im (bs.map c8) false)],bx [(iA (wr .i64 ((d.toNat:Int)))),(iA 0),(A.v (Value.string (nH ab))),(im [] true)]] (.s (ag [(iA (wr .i64 ((d.toNat:Int)))),(iA 0),(A.v (Value.string (nH ab))),(im [] false)]) (.lf rfl rfl (q8 (o:=Out.ret (ag [(iA (wr .i64 ((d.toNat:Int)))),(iA 0),(A.v (Value.string (nH ab))),(im [] false)])) (lo:=0) (off:=3) (b:=3) (p:=0) (H2:=[bO,bx [(iA 0)],bx [(im (bs.map c8) false)]]) (X:=[bx [(iA (wr .i64 ((d.toNat:Int)))),(iA 0),(A.v (Value.string (nH ab))),(im [] true)]]) (Nat.le_of_ble_eq_true rfl)))))))))))))))))))))
 refine .st (bC ..) (.aY (fun eg=>?_) (fun eg=>?_))
 ·refine .st (aW ..) (.cl ((au pn).trans (D7 C (ec C n 7) (ey C n 7) (n+7) _ _ _ _)) (.s (bA (!(decide (a3<16)))) (.aY (fun ej=>?_) (fun ej=>?_))))
  ·exact .s (A.ifc 31 (iA 10)) (.pk (.cr (.fP (.lf rfl rfl ⟨[(ia d)],rfl⟩))))
  refine .cr (.ok (.cl ((au CT).trans (HU C (ec C n 7) (ey C n 7) (n+7) _ _ _)) (.cl ((au yK).trans (Gl C (aO (cx C) (n+6)) (aA (cx C) (n+6)) (n+6) _ _ _)) (.as (mI C n _ _ _ _  ?_ ?_ _ 0 0 y6)))))
  ·intro ht hv hx hy
   exact .un rfl (.cr (.fP (.cr (.fP (.lf rfl rfl ⟨[(ia d)],rfl⟩)))))
  ·intro ca bm ie ih
   refine .un rfl (.cr (.ok (.s (pt 2 0) (.s (pt 2 0) (.s (im (bm.map c8) false) (.st (eb (e:=5)) (.st (v:=(A.v (.int .u64 (wr .u64 ((bm.length:Int)))))) (bh (hs:=by kernel_rfl) (hd:=by kernel_rfl) ..) (.st (fx ..) (.cl ((au pn).trans (D7 C (aO (cx C) (n+6)) (aA (cx C) (n+6)) (n+6) _ _ _ _)) (.s (bA (!(decide (ca<=(wr .u64 ((bm.length:Int))))))) (.aY (fun en=>?_) (fun en=>?_))))))))))))
   ·exact .s (A.ifc 31 (iA 10)) (.pk (.cr (.fP (.cr (.fP (.lf rfl rfl ⟨[(ia d)],rfl⟩))))))
   refine .cr (.ok (.st (v:=(iA (wr .i64 (ca)))) (bh (hs:=by kernel_rfl) (hd:=by kernel_rfl) ..) (.cr (.ok (.as (AD C n _ _ _ _ self hS a3 (wr .i64 (ca)) (wr .i64 ((d.toNat:Int))) 0 zB ?_ ?_ _ 0 bm (([]:List ar))))))))
   ·intro ik js kc kk kn ko w1516 w1517
    exact .un rfl (.lf rfl rfl ⟨[w1516,w1517],rfl⟩)
   ·intro cc u kt lx ly mn
    exact .un rfl (.cT (by kernel_rfl) (.s (ag [(iA (wr .i64 ((d.toNat:Int)))),(iA 0),se,(cH 4 0 u.length false)]) (.s [bO,bx [(iA 0)],bx [(im (cc.map c8) false)],bx [(iA (wr .i64 ((d.toNat:Int)))),(iA 0),se,(cH 4 0 u.length false)],aD.row false 4 (u.map aw)] (.st (v:=(ag [(iA (wr .i64 ((d.toNat:Int)))),(iA 0),se,(im (u.map aw) false)])) ((congrArg (fun z=>nQ prog 98 (pt 3 0) z) (Cd (H:=[bO,bx [(iA 0)],bx [(im (cc.map c8) false)],bx [(iA (wr .i64 ((d.toNat:Int)))),(iA 0),se,(cH 4 0 u.length false)],aD.row false 4 (u.map aw)]) (lo:=0) (off:=3) (b:=3) (o:=0) (b':=4) (es:=4) (l:=u) c7 rfl rfl rfl (Nat.le_of_ble_eq_true rfl))).trans (by kernel_rfl)) (.lf rfl rfl (q8 (o:=Out.ret (ag [(iA (wr .i64 ((d.toNat:Int)))),(iA 0),se,(im (u.map aw) false)])) (lo:=0) (off:=3) (b:=3) (p:=0) (H2:=[bO,bx [(iA 0)],bx [(im (cc.map c8) false)]]) (X:=[bx [(iA (wr .i64 ((d.toNat:Int)))),(iA 0),se,(cH 4 0 u.length false)],aD.row false 4 (u.map aw)]) (Nat.le_of_ble_eq_true rfl)))))))
 exact .cl ((au pn).trans (D7 C (ec C n 7) (ey C n 7) (n+7) _ _ _ _)) (.s (bA true) (.fe (.s (A.ifc 31 (iA 10)) (.pk (.cr (.fP (.lf rfl rfl ⟨[(ia d)],rfl⟩)))))))
def Bl:Nat->(List UInt8)->Int->Option (Bool×ar×(List UInt8))
 | 0=>fun _ _=>none
 | N+1=>fun a2 a3=>bif Nat.ble 8 N then vV (Bl N) (N - 8) a2 a3 else none
theorem HC (C:OT) (d:uH C):∀ N,FY C N (Bl N)
 | 0=>fun _ _ X r h=>by cases h
 | N+1=>fun a2 a3 X=>by
  show J _ _ _ (bif Nat.ble 8 N then vV (Bl N) (N - 8) a2 a3 else none) _
  cases h:Nat.ble 8 N with
  | false=>exact fun r h=>by cases h
  | true =>
   obtain ⟨n,rfl⟩:∃ n,N=n+8:=⟨N - 8,by have:=Nat.le_of_ble_eq_true h; omega⟩
   rw[Nat.add_sub_cancel]
   exact Fv (m:=3) (by kernel_rfl) (by kernel_rfl) (by decide) rfl (by kernel_rfl) ((by kernel_rfl:_=((((aG 3 (a2.map c8))&&true))&&true)).trans (by simp only[eF,eG])) (fun _=>rfl) (fun y=>(by show lq 3 (bif y.1 then Out.ret (ag [(iA y.2.1.Kind),(iA y.2.1.N),(sA y.2.1.S),(im (y.2.1.L.map aw) false)]) else Out.pan (A.ifc 31 (iA 10)))=true; cases y.1 with | true=>exact((by kernel_rfl:_=((aG 3 (y.2.1.L.map aw))&&true)).trans (by simp only[eF,eG])) | false=>rfl)) (fun y=>((by kernel_rfl:_=((((aG 3 (y.2.2.map c8))&&true))&&true)).trans (by simp only[eF,eG]))) (KU C n d (Bl (n+8)) (HC C d (n+8)) a2 a3)
abbrev pY:A:=(ag [(iA 0),(iA 0),se,(im [] true)])
def J4 (n:Nat) (a0:(List UInt8)):Option (ar×Int) :=
 (Bl (n+8) a0 0).bind fun d=>bif d.1 then (bif (!(((d.2.2.length:Int))==0)) then (some (((ar.mk 0 0 zB ([])),10))) else (some ((d.2.1,0)))) else (some (((ar.mk 0 0 zB ([])),10)))
theorem N2 (C:OT) (n:Nat) (p:uH C) (a0:(List UInt8)):J (fun (o:R) y=>∃ v,o.1=.ret v/\aF o.2 v=(tp [(ag [(iA y.1.Kind),(iA y.1.N),(sA y.1.S),(im (y.1.L.map aw) false)]),(iA y.2)])) (aB (cx C) (ec C n 8) (ey C n 8) (n+8) 59 [(im (a0.map c8) false)] [] 0) some (J4 n a0) some:=by
 refine .lp (OK ..) ?_
 unfold J4
 refine .s ((pt 0 0),[bO]) (.s ((pt 1 0),[bO,bx [(iA 0)]]) (.s (ag [(im (a0.map c8) false)]) (.s ((pt 2 0),[bO,bx [(iA 0)],bx [(im (a0.map c8) false)]]) (.bg (fun (t:Out×ay) (y:(Bool×ar×(List UInt8)))=>t=((bif y.1 then Out.ret (ag [(iA y.2.1.Kind),(iA y.2.1.N),(sA y.2.1.S),(im (y.2.1.L.map aw) false)]) else Out.pan (A.ifc 31 (iA 10))),[bO,bx [(iA 0)],bx [(im (y.2.2.map c8) false)]])) (HC C p (n+8) a0 0 []) ?_))))
 rintro _ d rfl
 refine .ob ?_ ?_
 ·refine .ok (.s [bx [(iA d.2.1.Kind),(iA d.2.1.N),(sA d.2.1.S),(im (d.2.1.L.map aw) false)],bx [(iA 0)],bx [(im (d.2.2.map c8) false)]] (.s (pt 2 0) (.s (pt 2 0) (.s (im (d.2.2.map c8) false) (.st (eb (e:=5)) (.st (bC ..) (.cl ((au pn).trans (D7 C (ec C n 7) (ey C n 7) (n+7) _ _ _ _)) (.s (bA (!(((d.2.2.length:Int))==0))) (.aY (fun q=>?_) (fun q=>?_))))))))))
  ·exact .s (A.ifc 31 (iA 10)) (.pk (.cr (.fP (.s (bA true) (.fe (.s pY (.s (iA 10) (.sh (.s [bO,bx [(iA 10)],bx [(im (d.2.2.map c8) false)]] (.s pY (.s (iA 10) (.lv (by show aF _ (tp [pY,(iA 10)])=_; simp only[cF,fO,aF]; first | done | rfl)))))))))))))
  exact .cr (.ok (.s (ag [(iA d.2.1.Kind),(iA d.2.1.N),(sA d.2.1.S),(im (d.2.1.L.map aw) false)]) (.sh (.s [bx [(iA d.2.1.Kind),(iA d.2.1.N),(sA d.2.1.S),(im (d.2.1.L.map aw) false)],bx [(iA 0)],bx [(im (d.2.2.map c8) false)]] (.s (bA false) (.gR (.s (ag [(iA d.2.1.Kind),(iA d.2.1.N),(sA d.2.1.S),(im (d.2.1.L.map aw) false)]) (.s (iA 0) (.lv (by show aF _ (tp [(ag [(iA d.2.1.Kind),(iA d.2.1.N),(sA d.2.1.S),(im (d.2.1.L.map aw) false)]),(iA 0)])=_; simp only[cF,fO,aF]; first | done | rfl))))))))))
 exact .fP (.s (bA true) (.fe (.s pY (.s (iA 10) (.sh (.s [bO,bx [(iA 10)],bx [(im (d.2.2.map c8) false)]] (.s pY (.s (iA 10) (.lv (by show aF _ (tp [pY,(iA 10)])=_; simp only[cF,fO,aF]; first | done | rfl))))))))))
def Hw (a0:(List UInt8)):Option (ar×Int):=J4 aH a0
def Fg (C:OT):Prop:=∀ (a0:(List UInt8)),C 59 [(im (a0.map c8) false)]=(Hw a0).map fun y=>(tp [(ag [(iA y.1.Kind),(iA y.1.N),(sA y.1.S),(im (y.1.L.map aw) false)]),(iA y.2)])
def aN (d:ar):aD:=bx [(iA d.Kind),(iA d.N),(sA d.S),(im (d.L.map aw) false)]
def mZ (d:Bool) (p:Int) (q:Int) (u:Int) (y:Int) (ab:Int):aD:=bx [(bA d),(iA p),(iA q),(iA u),(iA y),(iA ab)]
def jv (n:Nat) (ab:Bool) (p:(List ar)) (q:Int) (ad:Bool) (an:Int) (ao:Int) (bm:Int) (bs:Int) (ca:Int) (cc:ar):Nat->Int->(List Int)->Option ((Bool)⊕((List Int)))
 | 0,_,_=>none
 | m+1,d,u=>bif (decide (d<q)) then ((bX p d).bind fun y=>bif (y.Kind != 1) then (some ((Sum.inl false))) else ((dS 8 u ([y.N])).bind fun ch=>jv n ab p q ad an ao bm bs ca cc m (wr .i64 (d+1)) ch)) else (some ((Sum.inr u)))
theorem BX (cn:Bool) (ca:(List ar)) (cv:Int) (p:Bool) (q:Int) (u:Int) (ab:Int) (ad:Int) (an:Int) (bm:ar) {K:((Bool)⊕((List Int)))->Option γ} (x0:∀ (o0:Bool) (s6:A) (cc:A) (ch:A) (ck:A) (q1:aD) (q2:aD) (q3:aD),J φ (kr (St.mk [(2,(pt 0 0)),(3,(bA o0)),(6,s6),(23,cc),(24,ch),(25,ck)] [(mZ p q u ab ad an),q1,q2,q3])) kL (K (Sum.inl o0)) some) (x1:∀ (o0:(List Int)) (s3:A) (cc:A) (ch:A) (ck:A) (q1:aD),J φ (kx 0 (St.mk [(2,(pt 0 0)),(3,s3),(6,(cH 2 0 o0.length false)),(23,cc),(24,ch),(25,ck)] [(mZ p q u ab ad an),q1,aD.row false 1 (o0.map (cI .i64))])) kL (K (Sum.inr o0)) some) :
  ∀ (m:Nat) (cm:Int) (ao:(List Int)),J φ (aK (cx C) (ec C n 8) (ey C n 8) (n+8) 32 0 0 3 kx kg kr kp m (St.mk [(2,(pt 0 0)),(3,(bA cn)),(6,(cH 2 0 ao.length false)),(23,(im (ca.map aw) false)),(24,(iA cv)),(25,(iA cm))] [(mZ p q u ab ad an),(aN bm),aD.row false 1 (ao.map (cI .i64))])) kL (jv n cn ca cv p q u ab ad an bm m cm ao) K:=by
 intro m
 induction m with
 | zero=>intros; exact .nn
 | succ m ih =>
  intro cm ao
  refine .lp (Im ..) ?_
  unfold jv
  refine .st (aW ..) (.aY (fun ej=>?_) (fun ej=>?_))
  ·refine .bd ((iT (e:=98) (es:=4)).trans (lR _)) fun d=>.s (ag [(iA d.Kind),(iA d.N),(sA d.S),(im (d.L.map aw) false)]) (.sq (pt 3 0) (.s [(mZ p q u ab ad an),(aN bm),aD.row false 1 (ao.map (cI .i64)),bx [(iA d.Kind),(iA d.N),(sA d.S),(im (d.L.map aw) false)]] (.s (pt 3 0) (.s (iA d.Kind) (.st (bq ..) (.aY (fun en=>?_) (fun en=>?_)))))))
   ·exact .s (ag [(bA p),(iA q),(iA u),(iA ab),(iA ad),(iA an)]) (.s [(mZ p q u ab ad an),(aN bm),aD.row false 1 (ao.map (cI .i64)),bx [(iA d.Kind),(iA d.N),(sA d.S),(im (d.L.map aw) false)]] (.ex (x0 _ _ _ _ _ _ _ _)))
   refine .s (pt 3 1) (.s (iA d.N) (.s (im [[(iA d.N)]] true) (.bd (g:=fun (y:List Int)=>((cH 2 0 y.length false),[(mZ p q u ab ad an),(aN bm),aD.row false 1 (y.map (cI .i64)),bx [(iA d.Kind),(iA d.N),(sA d.S),(im (d.L.map aw) false)]])) (dB D2 (l:=ao) (l2:=[d.N]) (b:=2) rfl (by decide) (b8 (f:=(cI .i64)) ([d.N]:List Int) _ _)) fun fs=>.st (aP ..) (.st (v:=[(mZ p q u ab ad an),(aN bm),aD.row false 1 (fs.map (cI .i64))]) (dy (by kernel_rfl) (by simp only[uB,eF,eG,Nat.reduceLT,decide_true,aN,mZ])) (.cT ((by kernel_rfl:_=(bif aG 3 (ca.map aw) then true else false)).trans (by simp only[eF,eG])) ?_)))))
   exact ih _ _
  exact .ex (x1 _ _ _ _ _ _)
def JX (n:Nat) (a0:(List UInt8)):Option (aj×Bool) :=
 (Hw a0).bind fun p=>(bif (p.2 != 0) then (some true) else (some (p.1.Kind != 3))).bind fun q=>bif q then (some (((aj.mk false ((ak.mk 0 0 0)) ((av.mk 0 0))),false))) else ((jv n false p.1.L ((p.1.L.length:Int)) false 0 0 0 0 0 p.1 (n+8) 0 (([]:List Int))).bind fun u=>match u with | (Sum.inl y)=>some (((aj.mk false ((ak.mk 0 0 0)) ((av.mk 0 0))),y)) | (Sum.inr d)=>(bif (((d.length:Int))==4) then ((bX d 0).bind fun ab=>some (ab==1)) else (some false)).bind fun ad=>bif ad then ((bX d 1).bind fun an=>(bX d 2).bind fun ao=>(bX d 3).bind fun bm=>some (((aj.mk true ((ak.mk an ao bm)) ((av.mk 0 0))),true))) else ((bif (((d.length:Int))==3) then ((bX d 0).bind fun bs=>some (bs==2)) else (some false)).bind fun ca=>bif ca then ((bX d 1).bind fun cc=>(bX d 2).bind fun ch=>some (((aj.mk false ((ak.mk 0 0 0)) ((av.mk cc ch))),true))) else (some (((aj.mk false ((ak.mk 0 0 0)) ((av.mk 0 0))),false)))))
theorem NU (C:OT) (n:Nat) (dd:Fg C) (a0:(List UInt8)):J (fun (o:R) y=>∃ v,o.1=.ret v/\aF o.2 v=(tp [(ag (az y.1)),(bA y.2)])) (aB (cx C) (ec C n 8) (ey C n 8) (n+8) 32 [(im (a0.map c8) false)] [] 0) some (JX n a0) some:=by
 refine .lp (Ot ..) ?_
 unfold JX
 refine .s ((pt 0 0),[bx [(bA false),(iA 0),(iA 0),(iA 0),(iA 0),(iA 0)]]) (.bd (g:=fun (y:(ar×Int))=>(tp [(ag [(iA y.1.Kind),(iA y.1.N),(sA y.1.S),(im (y.1.L.map aw) false)]),(iA y.2)])) (by show C 59 [snap _ (im (a0.map c8) false)]=_; simp only[cF,eA]; exact dd a0) fun d=>.s (ag [(iA d.1.Kind),(iA d.1.N),(sA d.1.S),(im (d.1.L.map aw) false)]) (.s (iA d.2) (.sq (pt 1 0) (.s [bx [(bA false),(iA 0),(iA 0),(iA 0),(iA 0),(iA 0)],bx [(iA d.1.Kind),(iA d.1.N),(sA d.1.S),(im (d.1.L.map aw) false)]] (.st (bq ..) (.bg (fun t (y:Bool)=>∃ j4 j5 j6:A,t=[(bA y),j4,j5,j6]) ?_ ?_))))))
 ·refine .eQ (fun ea=>?_) (fun ea=>?_)
  ·exact .lg ⟨_,_,_,rfl⟩
  exact .s (pt 1 0) (.s (iA d.1.Kind) (.st (bq ..) (.lg ⟨_,_,_,rfl⟩)))
 rintro _ y3 ⟨j4,j5,j6,rfl⟩
 refine .u4 (.aY (fun eg=>?_) (fun eg=>?_))
 ·exact .s (ag [(bA false),(iA 0),(iA 0),(iA 0),(iA 0),(iA 0)]) (.s [bx [(bA false),(iA 0),(iA 0),(iA 0),(iA 0),(iA 0)],bx [(iA d.1.Kind),(iA d.1.N),(sA d.1.S),(im (d.1.L.map aw) false)]] (.s (ag [(bA false),(iA 0),(iA 0),(iA 0),(iA 0),(iA 0)]) (.lv rfl)))
 refine .s (pt 1 3) (.s (im (d.1.L.map aw) false) (.st (eb (e:=98)) (.as (BX C n _ _ _ _ false d.1.L ((d.1.L.length:Int)) false 0 0 0 0 0 d.1 ?_ ?_ _ 0 (([]:List Int))))))
 ·intro hh hi hj hk ho w202 w203 w204
  exact .un rfl (.s (ag [(bA false),(iA 0),(iA 0),(iA 0),(iA 0),(iA 0)]) (.lv rfl))
 ·intro p hp hq hr hs w210
  refine .un rfl (.cT (by kernel_rfl) (.st (Ar (e:=3) (by kernel_rfl) rfl rfl) (.st (bC ..) (.bg (fun t (y:Bool)=>∃ ca cc ch ck:A,t=[(bA y),ca,cc,ch,ck]) ?_ ?_))))
  ·refine .eQ (fun ej=>?_) (fun ej=>?_)
   ·exact .bd (g:=fun (y:Int)=>A.ip ((cI .i64) y)) (mh (e:=3) (es:=1) (l:=p) (by kernel_rfl) (by kernel_rfl) rfl) fun en=>.s (iA en) (.st (bC ..) (.lg ⟨_,_,_,_,rfl⟩))
   exact .lg ⟨_,_,_,_,rfl⟩
  rintro _ ht ⟨ca,cc,ch,ck,rfl⟩
  refine .u4 (.uc (.aY (fun fs=>?_) (fun fs=>?_)))
  ·exact .bd (g:=fun (y:Int)=>A.ip ((cI .i64) y)) (mh (e:=3) (es:=1) (l:=p) (by kernel_rfl) (by kernel_rfl) rfl) fun q=>.s (iA q) (.bd (g:=fun (y:Int)=>A.ip ((cI .i64) y)) (mh (e:=3) (es:=1) (l:=p) (by kernel_rfl) (by kernel_rfl) rfl) fun u=>.s (iA u) (.bd (g:=fun (y:Int)=>A.ip ((cI .i64) y)) (mh (e:=3) (es:=1) (l:=p) (by kernel_rfl) (by kernel_rfl) rfl) fun ab=>.s (iA ab) (.s (ag [(iA q),(iA u),(iA ab)]) (.s (ag [(bA true),(iA q),(iA u),(iA ab),(iA 0),(iA 0)]) (.s [bx [(bA true),(iA q),(iA u),(iA ab),(iA 0),(iA 0)],w210,aD.row false 1 (p.map (cI .i64))] (.s (ag [(bA true),(iA q),(iA u),(iA ab),(iA 0),(iA 0)]) (.lv rfl)))))))
  refine .st (Ar (e:=3) (by kernel_rfl) rfl rfl) (.st (bC ..) (.bg (fun t (y:Bool)=>∃ cm cn cv cy:A,t=[(bA y),cm,cn,cv,cy]) ?_ ?_))
  ·refine .eQ (fun fv=>?_) (fun fv=>?_)
   ·exact .bd (g:=fun (y:Int)=>A.ip ((cI .i64) y)) (mh (e:=3) (es:=1) (l:=p) (by kernel_rfl) (by kernel_rfl) rfl) fun ha=>.s (iA ha) (.st (bC ..) (.lg ⟨_,_,_,_,rfl⟩))
   exact .lg ⟨_,_,_,_,rfl⟩
  rintro _ hv ⟨cm,cn,cv,cy,rfl⟩
  refine .u4 (.uc (.aY (fun hf=>?_) (fun hf=>?_)))
  ·exact .bd (g:=fun (y:Int)=>A.ip ((cI .i64) y)) (mh (e:=3) (es:=1) (l:=p) (by kernel_rfl) (by kernel_rfl) rfl) fun ad=>.s (iA ad) (.bd (g:=fun (y:Int)=>A.ip ((cI .i64) y)) (mh (e:=3) (es:=1) (l:=p) (by kernel_rfl) (by kernel_rfl) rfl) fun an=>.s (iA an) (.s (ag [(iA ad),(iA an)]) (.s (ag [(bA false),(iA 0),(iA 0),(iA 0),(iA ad),(iA an)]) (.s [bx [(bA false),(iA 0),(iA 0),(iA 0),(iA ad),(iA an)],w210,aD.row false 1 (p.map (cI .i64))] (.s (ag [(bA false),(iA 0),(iA 0),(iA 0),(iA ad),(iA an)]) (.lv rfl))))))
  exact .s (ag [(bA false),(iA 0),(iA 0),(iA 0),(iA 0),(iA 0)]) (.s [bx [(bA false),(iA 0),(iA 0),(iA 0),(iA 0),(iA 0)],w210,aD.row false 1 (p.map (cI .i64))] (.s (ag [(bA false),(iA 0),(iA 0),(iA 0),(iA 0),(iA 0)]) (.lv rfl)))
def Hd (a0:(List UInt8)):Option (aj×Bool):=JX aH a0
def BA (C:OT):Prop:=∀ (a0:(List UInt8)),C 32 [(im (a0.map c8) false)]=(Hd a0).map fun y=>(tp [(ag (az y.1)),(bA y.2)])
def jt (n:Nat) (bm:Int) (q:(List (List UInt8))) (u:Int):Nat->Int->Int->(List ak)->(List av)->(List Bool)->Option ((Int×Int)⊕(Int×(List ak)×(List av)×(List Bool)))
 | 0,_,_,_,_,_=>none
 | m+1,p,y,ab,ad,an=>bif (decide (p<u)) then ((bX q p).bind fun bs=>(Hd bs).bind fun ao=>bif (!ao.2) then (some ((Sum.inl ((530,0))))) else ((xO ((ah.mk y ab ad an)) ao.1).bind fun d=>jt n bm q u m (wr .i64 (p+1)) d.Self d.Leases d.Calls d.Order)) else (some ((Sum.inr ((y,ab,ad,an)))))
theorem BC (dd:BA C) (ea:qk C) (ck:Int) (ao:(List (List UInt8))) (cm:Int) {K:((Int×Int)⊕(Int×(List ak)×(List av)×(List Bool)))->Option γ} (x0:∀ (o0:Int) (o1:Int) (bm:A) (bs:A) (ca:A) (q1:aD),J φ (kr (St.mk [(4,(pt 0 0)),(5,(iA o0)),(12,bm),(13,bs),(14,ca)] [bx [(iA o1),(im [] true),(im [] true),(im [] true)],q1])) kL (K (Sum.inl ((o0,o1)))) some) (x1:∀ (o0:Int) (o1:(List ak)) (o2:(List av)) (o3:(List Bool)) (s5:A) (bm:A) (bs:A) (ca:A),J φ (kx 0 (St.mk [(4,(pt 0 0)),(5,s5),(12,bm),(13,bs),(14,ca)] [bx [(iA o0),(im (o1.map ae) false),(im (o2.map af) false),(im (o3.map cB) false)]])) kL (K (Sum.inr ((o0,o1,o2,o3)))) some) :
  ∀ (m:Nat) (cc:Int) (p:Int) (q:(List ak)) (u:(List av)) (ab:(List Bool)),J φ (aK (cx C) (ec C n 8) (ey C n 8) (n+8) 11 0 0 1 kx kg kr kp m (St.mk [(4,(pt 0 0)),(5,(iA ck)),(12,(im (List.map (cL c8) ao) false)),(13,(iA cm)),(14,(iA cc))] [bx [(iA p),(im (q.map ae) false),(im (u.map af) false),(im (ab.map cB) false)]])) kL (jt n ck ao cm m cc p q u ab) K:=by
 intro m
 induction m with
 | zero=>intros; exact .nn
 | succ m ih =>
  intro cc p q u ab
  refine .lp (HV ..) ?_
  unfold jt
  refine .st (aW ..) (.aY (fun fs=>?_) (fun fs=>?_))
  ·refine .bd (iT (e:=30) (es:=1)) fun ch=>.s (im (ch.map c8) false) (.bd (g:=fun (y:(aj×Bool))=>(tp [(ag [(bA y.1.is),(iA y.1.lease.No),(iA y.1.lease.Holder),(iA y.1.lease.Until),(iA y.1.call.Bar),(iA y.1.call.Program)]),(bA y.2)])) (by show C 32 [snap _ (im (ch.map c8) false)]=_; simp only[cF,eA]; exact dd ch) fun d=>.s (ag (az d.1)) (.s (bA d.2) (.sq (pt 1 0) (.s [bx [(iA p),(im (q.map ae) false),(im (u.map af) false),(im (ab.map cB) false)],bx (az d.1)] (.s (bA (!d.2)) (.aY (fun fv=>?_) (fun fv=>?_)))))))
   ·exact .s (ag [(iA 0),(im [] true),(im [] true),(im [] true)]) (.s [bx [(iA 0),(im [] true),(im [] true),(im [] true)],bx (az d.1)] (.ex (x0 _ _ _ _ _ _)))
   refine .s (ag [(iA p),(im (q.map ae) false),(im (u.map af) false),(im (ab.map cB) false)]) (.s (ag (az d.1)) (.bd (g:=fun (y:ah)=>(ag [(iA y.Self),(im (y.Leases.map ae) false),(im (y.Calls.map af) false),(im (y.Order.map cB) false)])) (by show C 33 [snap _ (ag [(iA p),(im (q.map ae) false),(im (u.map af) false),(im (ab.map cB) false)]),snap _ (ag (az d.1))]=_; simp only[cF,eA]; exact ea ((ah.mk p q u ab)) d.1) fun cy=>.s [bx (aa cy),bx (az d.1)] (.st (aP ..) (.st (v:=[bx (aa cy)]) (dy (by kernel_rfl) (by simp only[uB,eF,eG,Nat.reduceLT,decide_true])) (.cT ((by kernel_rfl:_=(bif aG 1 (List.map (cL c8) ao) then true else false)).trans (by simp only[eF,eG])) ?_)))))
   exact ih _ _ _ _ _
  exact .ex (x1 _ _ _ _ _ _ _ _)
def JL (n:Nat) (a0:Int) (a1:(List (List UInt8))):Option (ah×Int) :=
 (jt n 0 a1 ((a1.length:Int)) (n+8) 0 a0 ([]) ([]) ([])).bind fun ab=>match ab with | (Sum.inl ((ad,an)))=>some (((ah.mk an ([]) ([]) ([])),ad)) | (Sum.inr ((d,p,q,u)))=>(AB ((ah.mk d p q u))).bind fun y=>bif (y != 0) then (some (((ah.mk 0 ([]) ([]) ([])),y))) else (some (((ah.mk d p q u),0)))
theorem NF (C:OT) (n:Nat) (ad:mq C) (an:BA C) (ao:qk C) (a0:Int) (a1:(List (List UInt8))):J (fun (o:R) y=>∃ v,o.1=.ret v/\aF o.2 v=(tp [(ag (aa y.1)),(iA y.2)])) (aB (cx C) (ec C n 8) (ey C n 8) (n+8) 11 [(iA a0),(im (List.map (cL c8) a1) false)] [] 0) some (JL n a0 a1) some:=by
 refine .lp (Oc ..) ?_
 unfold JL
 refine .sq (pt 0 0) (.s (pt 0 0) (.s [bx [(iA a0),(im [] true),(im [] true),(im [] true)]] (.st (eb (e:=30)) (.as (BC C n _ _ _ _ an ao 0 a1 ((a1.length:Int)) ?_ ?_ _ 0 a0 ([]) ([]) ([]))))))
 ·intro bm ab cc ch ck w116
  exact .un rfl (.s (ag [(iA ab),(im [] true),(im [] true),(im [] true)]) (.lv (by show aF _ (tp [(ag [(iA ab),(im [] true),(im [] true),(im [] true)]),(iA bm)])=_; simp only[cF,fO,aF]; first | done | rfl)))
 ·intro d p q u cm cn cv cy
  refine .un rfl (.cT (by kernel_rfl) (.s (ag [(iA d),(im (p.map ae) false),(im (q.map af) false),(im (u.map cB) false)]) (.bd (g:=fun (y:Int)=>(iA y)) (by show C 20 [snap _ (ag [(iA d),(im (p.map ae) false),(im (q.map af) false),(im (u.map cB) false)])]=_; simp only[cF,eA]; exact ad ((ah.mk d p q u))) fun bs=>.st (bq ..) (.aY (fun ca=>?_) (fun ca=>?_)))))
  ·exact .s (ag [(iA 0),(im [] true),(im [] true),(im [] true)]) (.s [bx [(iA 0),(im [] true),(im [] true),(im [] true)]] (.s (ag [(iA 0),(im [] true),(im [] true),(im [] true)]) (.lv (by show aF _ (tp [(ag [(iA 0),(im [] true),(im [] true),(im [] true)]),(iA bs)])=_; simp only[cF,fO,aF]; first | done | rfl))))
  exact .s (ag [(iA d),(im (p.map ae) false),(im (q.map af) false),(im (u.map cB) false)]) (.s [bx [(iA d),(im (p.map ae) false),(im (q.map af) false),(im (u.map cB) false)]] (.s (ag [(iA d),(im (p.map ae) false),(im (q.map af) false),(im (u.map cB) false)]) (.lv (by show aF _ (tp [(ag [(iA d),(im (p.map ae) false),(im (q.map af) false),(im (u.map cB) false)]),(iA 0)])=_; simp only[cF,fO,aF]; first | done | rfl))))
def E6 (a0:Int) (a1:(List (List UInt8))):Option (ah×Int):=JL aH a0 a1
def Br (C:OT):Prop:=∀ (a0:Int) (a1:(List (List UInt8))),C 11 [(iA a0),(im (List.map (cL c8) a1) false)]=(E6 a0 a1).map fun y=>(tp [(ag (aa y.1)),(iA y.2)])
def kB (n:Nat) (u:Int) (y:Int) (cn:(List ak)) (cv:(List av)) (cy:(List av)):Nat->Int->Int->Int->(List ak)->(List av)->(List Bool)->Int->(List ak)->(List av)->(List Bool)->Int->Int->Option ((Int×Int×Int×Int×Int)⊕(Int×(List ak)×(List av)×(List Bool)×Int×(List ak)×(List av)×(List Bool)×Int×Int))
 | 0,_,_,_,_,_,_,_,_,_,_,_,_=>none
 | m+1,dd,d,ab,ad,an,ao,bm,bs,ca,cc,ch,ck=>bif (decide (d<2)) then ((DU d u y).bind fun q=>bif (decide (0<=d)&&decide (d<2)) then ((jQ d ((q.1,(ah.mk bm bs ca cc))) (((ah.mk ab ad an ao),q.1))).bind fun p=>bif (q.2 != 0) then (some ((Sum.inl ((q.2,0,0,0,0))))) else (bif (decide (0<=d)&&decide (d<2)) then ((jQ d ((1,ck)) ((ch,1))).bind fun cm=>kB n u y cn cv cy m q.2 (wr .i64 (d+1)) p.1.Self p.1.Leases p.1.Calls p.1.Order p.2.Self p.2.Leases p.2.Calls p.2.Order cm.1 cm.2) else none)) else none) else (some ((Sum.inr ((ab,ad,an,ao,bm,bs,ca,cc,ch,ck)))))
theorem BE (hj:zo C) (cc:Int) (ch:Int) (d:(List ak)) (p:(List av)) (q:(List av)) {K:((Int×Int×Int×Int×Int)⊕(Int×(List ak)×(List av)×(List Bool)×Int×(List ak)×(List av)×(List Bool)×Int×Int))->Option γ} (x0:∀ (o0:Int) (o1:Int) (o2:Int) (o3:Int) (o4:Int) (s0:A) (s1:A) (s7:A),J φ (kr (St.mk [(0,s0),(1,s1),(4,(pt 0 0)),(5,(iA o0)),(7,s7)] [bx [(iA o1),(im [] true),(im [] true),(im [] true),(iA o2),(im [] true),(im [] true),(im [] true),(iA o3),(iA o4),(im [] true),(im [] true),(im [] true)]])) kL (K (Sum.inl ((o0,o1,o2,o3,o4)))) some) (x1:∀ (o0:Int) (o1:(List ak)) (o2:(List av)) (o3:(List Bool)) (o4:Int) (o5:(List ak)) (o6:(List av)) (o7:(List Bool)) (o8:Int) (o9:Int) (s0:A) (s1:A) (s5:A) (s7:A),J φ (kx 0 (St.mk [(0,s0),(1,s1),(4,(pt 0 0)),(5,s5),(7,s7)] [bx [(iA o0),(im (o1.map ae) false),(im (o2.map af) false),(im (o3.map cB) false),(iA o4),(im (o5.map ae) false),(im (o6.map af) false),(im (o7.map cB) false),(iA o8),(iA o9),(im (d.map ae) true),(im (p.map af) true),(im (q.map af) true)]])) kL (K (Sum.inr ((o0,o1,o2,o3,o4,o5,o6,o7,o8,o9)))) some) :
  ∀ (m:Nat) (cn:Int) (u:Int) (cv:Int) (cy:(List ak)) (dd:(List av)) (ea:(List Bool)) (eg:Int) (ej:(List ak)) (en:(List av)) (fs:(List Bool)) (bm:Int) (bs:Int),J φ (aK (cx C) (ec C n 8) (ey C n 8) (n+8) 15 0 0 1 kx kg kr kp m (St.mk [(0,(iA cc)),(1,(iA ch)),(4,(pt 0 0)),(5,(iA cn)),(7,(iA u))] [bx [(iA cv),(im (cy.map ae) false),(im (dd.map af) false),(im (ea.map cB) false),(iA eg),(im (ej.map ae) false),(im (en.map af) false),(im (fs.map cB) false),(iA bm),(iA bs),(im (d.map ae) true),(im (p.map af) true),(im (q.map af) true)]])) kL (kB n cc ch d p q m cn u cv cy dd ea eg ej en fs bm bs) K:=by
 intro m
 induction m with
 | zero=>intros; exact .nn
 | succ m ih =>
  intro cn u cv cy dd ea eg ej en fs bm bs
  refine .lp (HX ..) ?_
  unfold kB
  refine .st (aW ..) (.aY (fun hq=>?_) (fun hq=>?_))
  ·refine .bd (hj u cc ch) fun hh=>.s (ag (aa hh.1)) (.s (iA hh.2) (.s (pt 0 0) (.gd fun hg=>.st (v:=(pt 0 (0+Int.toNat u*4))) (bN (e:=26) (n:=4) (len:=2) (by kernel_rfl) (by kernel_rfl) rfl hg) (.a2 (f:=fun (y:ah×ah)=>[bx [(iA y.1.Self),(im (y.1.Leases.map ae) false),(im (y.1.Calls.map af) false),(im (y.1.Order.map cB) false),(iA y.2.Self),(im (y.2.Leases.map ae) false),(im (y.2.Calls.map af) false),(im (y.2.Order.map cB) false),(iA bm),(iA bs),(im (d.map ae) true),(im (p.map af) true),(im (q.map af) true)]]) (fun h=>by rw[h]; kernel_rfl) (fun h=>by rw[h]; kernel_rfl) fun ca=>.st (bq ..) (.aY (fun hr=>?_) (fun hr=>?_))))))
   ·exact .s (ag [(iA 0),(im [] true),(im [] true),(im [] true),(iA 0),(im [] true),(im [] true),(im [] true),(iA 0),(iA 0),(im [] true),(im [] true),(im [] true)]) (.s [bx [(iA 0),(im [] true),(im [] true),(im [] true),(iA 0),(im [] true),(im [] true),(im [] true),(iA 0),(iA 0),(im [] true),(im [] true),(im [] true)]] (.ex (x0 _ _ _ _ _ _ _ _)))
   refine .s (pt 0 8) (.gd fun hg=>.st (v:=(pt 0 (8+Int.toNat u*1))) (bN (e:=3) (n:=1) (len:=2) (by kernel_rfl) (by kernel_rfl) rfl hg) (.a2 (f:=fun (y:Int×Int)=>[bx (aa ca.1++aa ca.2++[(iA y.1),(iA y.2),(im (d.map ae) true),(im (p.map af) true),(im (q.map af) true)])]) (fun h=>by rw[h]; kernel_rfl) (fun h=>by rw[h]; kernel_rfl) fun hi=>.st (aP ..) (.s [bx (aa ca.1++aa ca.2++[(iA hi.1),(iA hi.2),(im (d.map ae) true),(im (p.map af) true),(im (q.map af) true)])] (.cT (by kernel_rfl) ?_))))
   exact ih _ _ _ _ _ _ _ _ _ _ _ _
  exact .ex (x1 _ _ _ _ _ _ _ _ _ _ _ _ _ _)
def JM (n:Nat) (a0:Int) (a1:Int):Option (aE×Int) :=
 (kB n a0 a1 ([]) ([]) ([]) (n+8) 0 0 0 ([]) ([]) ([]) 0 ([]) ([]) ([]) 0 0).bind fun d=>match d with | (Sum.inl ((p,q,u,y,ab)))=>some (((aE.mk (((ah.mk q ([]) ([]) ([])),(ah.mk u ([]) ([]) ([])))) ((y,ab)) ([]) (([],[]))),p)) | (Sum.inr ((ad,an,ao,bm,bs,ca,cc,ch,ck,cm)))=>some (((aE.mk (((ah.mk ad an ao bm),(ah.mk bs ca cc ch))) ((ck,cm)) ([]) (([],[]))),0))
theorem NH (C:OT) (n:Nat) (cm:zo C) (a0:Int) (a1:Int):J (fun (o:R) y=>∃ v,o.1=.ret v/\aF o.2 v=(tp [(ag (ai y.1)),(iA y.2)])) (aB (cx C) (ec C n 8) (ey C n 8) (n+8) 15 [(iA a0),(iA a1)] [] 0) some (JM n a0 a1) some:=by
 refine .lp (Oe ..) ?_
 unfold JM
 refine .s ((pt 0 0),[bx [(iA 0),(im [] true),(im [] true),(im [] true),(iA 0),(im [] true),(im [] true),(im [] true),(iA 0),(iA 0),(im [] true),(im [] true),(im [] true)]]) (.as (BE C n _ _ _ _ cm a0 a1 ([]) ([]) ([]) ?_ ?_ _ 0 0 0 ([]) ([]) ([]) 0 ([]) ([]) ([]) 0 0))
 ·intro cn ca cc ch ck cv cy dd
  exact .un rfl (.s (ag [(iA ca),(im [] true),(im [] true),(im [] true),(iA cc),(im [] true),(im [] true),(im [] true),(iA ch),(iA ck),(im [] true),(im [] true),(im [] true)]) (.lv (by show aF _ (tp [(ag [(iA ca),(im [] true),(im [] true),(im [] true),(iA cc),(im [] true),(im [] true),(im [] true),(iA ch),(iA ck),(im [] true),(im [] true),(im [] true)]),(iA cn)])=_; simp only[cF,fO,aF]; first | done | rfl)))
 ·intro d p q u ab ad an ao bm bs ea eg ej en
  exact .un rfl (.cT (by kernel_rfl) (.s (ag [(iA d),(im (p.map ae) false),(im (q.map af) false),(im (u.map cB) false),(iA ab),(im (ad.map ae) false),(im (an.map af) false),(im (ao.map cB) false),(iA bm),(iA bs),(im [] true),(im [] true),(im [] true)]) (.s [bx [(iA d),(im (p.map ae) false),(im (q.map af) false),(im (u.map cB) false),(iA ab),(im (ad.map ae) false),(im (an.map af) false),(im (ao.map cB) false),(iA bm),(iA bs),(im [] true),(im [] true),(im [] true)]] (.s (ag [(iA d),(im (p.map ae) false),(im (q.map af) false),(im (u.map cB) false),(iA ab),(im (ad.map ae) false),(im (an.map af) false),(im (ao.map cB) false),(iA bm),(iA bs),(im [] true),(im [] true),(im [] true)]) (.lv (by show aF _ (tp [(ag [(iA d),(im (p.map ae) false),(im (q.map af) false),(im (u.map cB) false),(iA ab),(im (ad.map ae) false),(im (an.map af) false),(im (ao.map cB) false),(iA bm),(iA bs),(im [] true),(im [] true),(im [] true)]),(iA 0)])=_; simp only[cF,fO,aF]; first | done | rfl))))))
def G8 (a0:Int) (a1:Int):Option (aE×Int):=JM aH a0 a1
def Bt (C:OT):Prop:=∀ (a0:Int) (a1:Int),C 15 [(iA a0),(iA a1)]=(G8 a0 a1).map fun y=>(tp [(ag (ai y.1)),(iA y.2)])
def cw (a2:av):aD:=bx [(fk 85 [] [(A.ip [(iA a2.Bar),(iA a2.Program)])])]
def dI (n:Nat) (a2:av) (ab:(List Bool)) (ad:Int) (p:aC) (d:Int) (an:Bool) (ao:ah):Nat->(List ak)->(List av)->Int->Option ((Bool)⊕((Unit)⊕(Unit)))
 | 0,_,_,_=>none
 | m+1,u,y,q=>bif (decide (q<ad)) then ((bX ab q).bind fun bm=>(bif bm then (some (decide (0<((u.length:Int))))) else (some false)).bind fun ch=>bif ch then ((bX u 0).bind fun en=>(et u 1 ((u.length:Int))).bind fun bs=>bif (decide (0<=d)&&decide (d<2)) then ((jQ d p.Pair.Synced.1 p.Pair.Synced.2).bind fun ck=>bif (decide (q<ck)) then (((bif (!bm) then (some (((0==a2.Bar)&&(0==a2.Program)))) else (some false)).bind fun cm=>some cm).bind fun cn=>bif cn then (some ((Sum.inl true))) else (dI n a2 ab ad p d an ao m bs y (wr .i64 (q+1)))) else ((some false).bind fun cv=>bif cv then (some ((Sum.inl true))) else (dI n a2 ab ad p d an ao m bs y (wr .i64 (q+1))))) else none) else ((bif (!bm) then (some (decide (0<((y.length:Int))))) else (some false)).bind fun cy=>bif cy then ((bX y 0).bind fun ca=>(et y 1 ((y.length:Int))).bind fun cc=>bif (decide (0<=d)&&decide (d<2)) then ((jQ d p.Pair.Synced.1 p.Pair.Synced.2).bind fun dd=>bif (decide (q<dd)) then (((bif (!bm) then (some (((ca.Bar==a2.Bar)&&(ca.Program==a2.Program)))) else (some false)).bind fun ea=>some ea).bind fun eg=>bif eg then (some ((Sum.inl true))) else (dI n a2 ab ad p d an ao m u cc (wr .i64 (q+1)))) else ((some false).bind fun ej=>bif ej then (some ((Sum.inl true))) else (dI n a2 ab ad p d an ao m u cc (wr .i64 (q+1))))) else none) else (some ((Sum.inr ((Sum.inl (())))))))) else (some ((Sum.inr ((Sum.inr (()))))))
theorem vX (a2:av) (bs:(List Bool)) (eg:Int) (d:aC) (q:Int) (ad:Bool) (ab:ah) {K:((Bool)⊕((Unit)⊕(Unit)))->Option γ} (x0:∀ (o0:Bool) (s0:A) (s3:A) (s4:A) (ck:A) (cm:A) (cn:A) (q0:aD) (q1:aD) (q2:aD) (q4:aD) (q6:aD) (q7:aD),J φ (kr (St.mk [(0,s0),(3,s3),(4,s4),(13,ck),(14,cm),(15,cn)] [q0,q1,q2,bx [(bA o0)],q4,aD.rng (cp.done Fb.ret),q6,q7])) kL (K (Sum.inl o0)) some) (x1:∀ (s0:A) (s3:A) (s4:A) (ck:A) (cm:A) (cn:A) (q0:aD) (q1:aD) (q2:aD) (q4:aD) (q6:aD),J φ (kr (St.mk [(0,s0),(3,s3),(4,s4),(13,ck),(14,cm),(15,cn)] [q0,q1,q2,bx [(bA ad)],q4,aD.rng cp.ready,q6])) kL (K (Sum.inr ((Sum.inl (()))))) some) (x2:∀ (s0:A) (s3:A) (s4:A) (ck:A) (cm:A) (cn:A) (q0:aD) (q1:aD) (q2:aD) (q4:aD),J φ (kx 0 (St.mk [(0,s0),(3,s3),(4,s4),(13,ck),(14,cm),(15,cn)] [q0,q1,q2,bx [(bA ad)],q4,aD.rng cp.ready])) kL (K (Sum.inr ((Sum.inr (()))))) some) :
  ∀ (m:Nat) (ao:(List ak)) (bm:(List av)) (cy:Int),J φ (aK (cx C) (aA (cx C) (n+7) (nM 124 (aO (cx C) (n+8)) 5 (gK (cx C) (ec C n 8) (ey C n 8) (n+8) 69 0 0 5 [(3,(pt 0 0)),(4,(pt 1 0)),(5,(pt 2 0)),(6,(pt 3 0))]))) (aA (cx C) (n+7)) (n+7) 55 0 0 6 kx kg kr kp m (St.mk [(0,(A.yld 5)),(3,(im (ao.map ae) false)),(4,(im (bm.map af) false)),(13,(im (bs.map cB) false)),(14,(iA eg)),(15,(iA cy))] [bx [(A.ip (aq d))],bx [(iA q)],(cw a2),bx [(bA ad)],bx (aa ab),aD.rng cp.ready])) kL (dI n a2 bs eg d q ad ab m ao bm cy) K:=by
 intro m
 induction m with
 | zero=>intros; exact .nn
 | succ m ih =>
  intro ao bm cy
  refine .lp (zG ..) ?_
  unfold dI
  refine .st (aW ..) (.aY (fun kk=>?_) (fun kk=>?_))
  ·refine .bd (iT (e:=4) (es:=1)) fun p=>.s (bA p) (.s (ag [(bA p),(iA 0),(iA 0),(iA 0),(iA 0),(iA 0)]) (.sq (pt 6 0) (.s [bx [(A.ip (aq d))],bx [(iA q)],(cw a2),bx [(bA ad)],bx (aa ab),aD.rng cp.ready,bx [(bA p),(iA 0),(iA 0),(iA 0),(iA 0),(iA 0)]] (.bg (fun t (y:Bool)=>∃ en fs fv:A,t=[(bA y),en,fs,fv]) ?_ ?_))))
   ·refine .eQ (fun kn=>?_) (fun kn=>?_)
    ·exact .st (eb (e:=59)) (.st (ee ..) (.lg ⟨_,_,_,rfl⟩))
    exact .lg ⟨_,_,_,rfl⟩
   rintro _ oc ⟨en,fs,fv,rfl⟩
   refine .u4 (.aY (fun ko=>?_) (fun ko=>?_))
   ·refine .bd (iT (e:=59) (es:=3)) fun an=>.s (ag (ae an)) (.bd (eY (e:=59) (es:=3) (f:=ae) (l:=ao) (a:=1) (b:=(ao.length:Int)) (by kernel_rfl) (by kernel_rfl) (fun _=>rfl) (.inr ⟨_,rfl⟩) (.inl ⟨rfl,rfl⟩)) fun ha=>.s (pt 6 1) (.cT (by kernel_rfl) (.s [bx [(A.ip (aq d))],bx [(iA q)],(cw a2),bx [(bA ad)],bx (aa ab),aD.rng cp.ready,bx ([(bA p)]++ae an++[(iA 0),(iA 0)])] (.s (ag ([(bA p)]++ae an++[(iA 0),(iA 0)])) (.dY rfl (.cl (yq.trans (ke.trans (uY C (ec C n 8) (ey C n 8) (n+8) _ _ _ _ _ _ _ _ _ _))) (.cT (by kernel_rfl) (.lp (fQ rfl) (.sq (pt 7 0) (.s [bx [(A.ip (aq d))],bx [(iA q)],(cw a2),bx [(bA ad)],bx (aa ab),aD.rng cp.ready,bx ([(bA p)]++ae an++[(iA 0),(iA 0)]),bx ([(bA p)]++ae an++[(iA 0),(iA 0)])] (.lp (fQ rfl) (.s (A.ip (aq d)) (.s (iA q) (.s (A.ip (aq d)) (.s (A.ip (aq d)) (.s (A.ip [(iA d.Pair.Synced.1),(iA d.Pair.Synced.2),(im (d.Pair.Told.map ae) false),(im (d.Pair.Spoken.1.map af) false),(im (d.Pair.Spoken.2.map af) false),(iA d.who)]) (.gd fun hg=>.st (v:=(A.ip (List.drop (Int.toNat q*1) [(iA d.Pair.Synced.1),(iA d.Pair.Synced.2),(im (d.Pair.Told.map ae) false),(im (d.Pair.Spoken.1.map af) false),(im (d.Pair.Spoken.2.map af) false),(iA d.who)]))) (pN (e:=3) (n:=1) (len:=2) (by kernel_rfl) (by kernel_rfl) hg) (.a2 (f:=fun (y:Int)=>(iA y)) (fun h=>by rw[h]; kernel_rfl) (fun h=>by rw[h]; kernel_rfl) fun oi=>.st (aW ..) (.CD (fun dd=>?_) (fun dd=>?_))))))))))))))))))))
    ·refine .bb (.s (fk 85 [] [(A.ip [(iA a2.Bar),(iA a2.Program)])]) (.s (ag ([(bA p)]++ae an++[(iA 0),(iA 0)])) (.cr (.uc (.uc (.bg (fun t (y:Bool)=>∃ hf:A,t=[(bA y),hf]) ?_ ?_))))))
     ·refine .vS dd (.vC (by kernel_rfl) (by kernel_rfl) (.bb (.cl ((au FK).trans (MV C (ec C n 7) (ey C n 7) (n+7) _ _ _ _)) (.s ((pt 8 0),[bx [(A.ip (aq d))],bx [(iA q)],(cw a2),bx [(bA ad)],bx (aa ab),aD.rng cp.busy,bx ([(bA p)]++ae an++[(iA 0),(iA 0)]),bx ([(bA p)]++ae an++[(iA 0),(iA 0)]),bx ([(bA p)]++ae an++[(iA 0),(iA 0)])]) (.s (pt 8 0) (.s (bA p) (.s (bA (!p)) (.bg (fun t (y:Bool)=>∃ hh hi hj hk:A,t=[(bA y),hh,hi,hj,hk]) ?_ ?_))))))))
      ·refine .eQ (fun kt=>?_) (fun kt=>?_)
       ·exact .s (pt 8 4) (.s (ag [(iA 0),(iA 0)]) (.s (ag [(iA a2.Bar),(iA a2.Program)]) (.s (bA (((0==a2.Bar)&&(0==a2.Program)))) (.lg ⟨_,_,_,_,rfl⟩))))
       exact .lg ⟨_,_,_,_,rfl⟩
      rintro _ lx ⟨hh,hi,hj,hk,rfl⟩
      exact .u4 (.uc (.cr (.lp (by kernel_rfl:_=some (bA lx)) (.cr (.lg ⟨_,rfl⟩)))))
     rintro _ oj ⟨hf,rfl⟩
     refine .uc (.uc (.aY (fun ly=>?_) (fun ly=>?_)))
     ·exact .s [bx [(A.ip (aq d))],bx [(iA q)],(cw a2),bx [(bA true)],bx (aa ab),aD.rng cp.busy,bx ([(bA p)]++ae an++[(iA 0),(iA 0)]),bx ([(bA p)]++ae an++[(iA 0),(iA 0)])] (.lp (dT rfl) (.cr (.ok (.s (bA true) (.fe (.ex (x0 _ _ _ _ _ _ _ _ _ _ _ _ _)))))))
     refine .lp (dT rfl) (.cr (.ok (.s (bA false) (.gR (.st (aP ..) (.st (v:=[bx [(A.ip (aq d))],bx [(iA q)],(cw a2),bx [(bA ad)],bx (aa ab),aD.rng cp.ready]) (dy (by kernel_rfl) (by simp only[uB,eF,eG,Nat.reduceLT,decide_true,cw])) (.cT ((by kernel_rfl:_=(bif aG 6 (ha.map ae) then (bif aG 6 (bm.map af) then (bif aG 6 (bs.map cB) then true else false) else false) else false)).trans (by simp only[eF,eG])) ?_)))))))
     exact ih _ _ _
    refine .bb (.cr (.uc (.uc (.bg (fun t (y:Bool)=>∃ ho:A,t=[(bA y),ho]) ?_ ?_))))
    ·exact .wj dd (.lg ⟨_,rfl⟩)
    rintro _ oo ⟨ho,rfl⟩
    refine .uc (.uc (.aY (fun mn=>?_) (fun mn=>?_)))
    ·exact .s [bx [(A.ip (aq d))],bx [(iA q)],(cw a2),bx [(bA true)],bx (aa ab),aD.rng cp.busy,bx ([(bA p)]++ae an++[(iA 0),(iA 0)]),bx ([(bA p)]++ae an++[(iA 0),(iA 0)])] (.lp (dT rfl) (.cr (.ok (.s (bA true) (.fe (.ex (x0 _ _ _ _ _ _ _ _ _ _ _ _ _)))))))
    refine .lp (dT rfl) (.cr (.ok (.s (bA false) (.gR (.st (aP ..) (.st (v:=[bx [(A.ip (aq d))],bx [(iA q)],(cw a2),bx [(bA ad)],bx (aa ab),aD.rng cp.ready]) (dy (by kernel_rfl) (by simp only[uB,eF,eG,Nat.reduceLT,decide_true,cw])) (.cT ((by kernel_rfl:_=(bif aG 6 (ha.map ae) then (bif aG 6 (bm.map af) then (bif aG 6 (bs.map cB) then true else false) else false) else false)).trans (by simp only[eF,eG])) ?_)))))))
    exact ih _ _ _
   refine .s (bA (!p)) (.bg (fun t (y:Bool)=>∃ hp hq hr:A,t=[(bA y),hp,hq,hr]) ?_ ?_)
   ·refine .eQ (fun mx=>?_) (fun mx=>?_)
    ·exact .st (eb (e:=62)) (.st (ee ..) (.lg ⟨_,_,_,rfl⟩))
    exact .lg ⟨_,_,_,rfl⟩
   rintro _ oq ⟨hp,hq,hr,rfl⟩
   refine .u4 (.aY (fun nb=>?_) (fun nb=>?_))
   ·refine .bd (iT (e:=62) (es:=2)) fun u=>.s (ag [(iA u.Bar),(iA u.Program)]) (.bd (eY (e:=62) (es:=2) (f:=af) (l:=bm) (a:=1) (b:=(bm.length:Int)) (by kernel_rfl) (by kernel_rfl) (fun _=>rfl) (.inr ⟨_,rfl⟩) (.inl ⟨rfl,rfl⟩)) fun hs=>.s (pt 6 4) (.cT (by kernel_rfl) (.s [bx [(A.ip (aq d))],bx [(iA q)],(cw a2),bx [(bA ad)],bx (aa ab),aD.rng cp.ready,(bZ p u)] (.s (ag [(bA p),(iA 0),(iA 0),(iA 0),(iA u.Bar),(iA u.Program)]) (.dY rfl (.cl (yq.trans (ke.trans (uY C (ec C n 8) (ey C n 8) (n+8) _ _ _ _ _ _ _ _ _ _))) (.cT (by kernel_rfl) (.lp (fQ rfl) (.sq (pt 7 0) (.s [bx [(A.ip (aq d))],bx [(iA q)],(cw a2),bx [(bA ad)],bx (aa ab),aD.rng cp.ready,(bZ p u),(bZ p u)] (.lp (fQ rfl) (.s (A.ip (aq d)) (.s (iA q) (.s (A.ip (aq d)) (.s (A.ip (aq d)) (.s (A.ip [(iA d.Pair.Synced.1),(iA d.Pair.Synced.2),(im (d.Pair.Told.map ae) false),(im (d.Pair.Spoken.1.map af) false),(im (d.Pair.Spoken.2.map af) false),(iA d.who)]) (.gd fun hg=>.st (v:=(A.ip (List.drop (Int.toNat q*1) [(iA d.Pair.Synced.1),(iA d.Pair.Synced.2),(im (d.Pair.Told.map ae) false),(im (d.Pair.Spoken.1.map af) false),(im (d.Pair.Spoken.2.map af) false),(iA d.who)]))) (pN (e:=3) (n:=1) (len:=2) (by kernel_rfl) (by kernel_rfl) hg) (.a2 (f:=fun (y:Int)=>(iA y)) (fun h=>by rw[h]; kernel_rfl) (fun h=>by rw[h]; kernel_rfl) fun pc=>.st (aW ..) (.CD (fun ea=>?_) (fun ea=>?_))))))))))))))))))))
    ·refine .bb (.s (fk 85 [] [(A.ip [(iA a2.Bar),(iA a2.Program)])]) (.s (ag [(bA p),(iA 0),(iA 0),(iA 0),(iA u.Bar),(iA u.Program)]) (.cr (.uc (.uc (.bg (fun t (y:Bool)=>∃ ht:A,t=[(bA y),ht]) ?_ ?_))))))
     ·refine .vS ea (.vC (by kernel_rfl) (by kernel_rfl) (.bb (.cl ((au FK).trans (MV C (ec C n 7) (ey C n 7) (n+7) _ _ _ _)) (.s ((pt 8 0),[bx [(A.ip (aq d))],bx [(iA q)],(cw a2),bx [(bA ad)],bx (aa ab),aD.rng cp.busy,(bZ p u),(bZ p u),(bZ p u)]) (.s (pt 8 0) (.s (bA p) (.s (bA (!p)) (.bg (fun t (y:Bool)=>∃ hv hx hy ie:A,t=[(bA y),hv,hx,hy,ie]) ?_ ?_))))))))
      ·refine .eQ (fun nf=>?_) (fun nf=>?_)
       ·exact .s (pt 8 4) (.s (ag [(iA u.Bar),(iA u.Program)]) (.s (ag [(iA a2.Bar),(iA a2.Program)]) (.s (bA (((u.Bar==a2.Bar)&&(u.Program==a2.Program)))) (.lg ⟨_,_,_,_,rfl⟩))))
       exact .lg ⟨_,_,_,_,rfl⟩
      rintro _ ni ⟨hv,hx,hy,ie,rfl⟩
      exact .u4 (.uc (.cr (.lp (by kernel_rfl:_=some (bA ni)) (.cr (.lg ⟨_,rfl⟩)))))
     rintro _ ps ⟨ht,rfl⟩
     refine .uc (.uc (.aY (fun ns=>?_) (fun ns=>?_)))
     ·exact .s [bx [(A.ip (aq d))],bx [(iA q)],(cw a2),bx [(bA true)],bx (aa ab),aD.rng cp.busy,(bZ p u),(bZ p u)] (.lp (dT rfl) (.cr (.ok (.s (bA true) (.fe (.ex (x0 _ _ _ _ _ _ _ _ _ _ _ _ _)))))))
     refine .lp (dT rfl) (.cr (.ok (.s (bA false) (.gR (.st (aP ..) (.st (v:=[bx [(A.ip (aq d))],bx [(iA q)],(cw a2),bx [(bA ad)],bx (aa ab),aD.rng cp.ready]) (dy (by kernel_rfl) (by simp only[uB,eF,eG,Nat.reduceLT,decide_true,cw])) (.cT ((by kernel_rfl:_=(bif aG 6 (ao.map ae) then (bif aG 6 (hs.map af) then (bif aG 6 (bs.map cB) then true else false) else false) else false)).trans (by simp only[eF,eG])) ?_)))))))
     exact ih _ _ _
    refine .bb (.cr (.uc (.uc (.bg (fun t (y:Bool)=>∃ ik:A,t=[(bA y),ik]) ?_ ?_))))
    ·exact .wj ea (.lg ⟨_,rfl⟩)
    rintro _ qi ⟨ik,rfl⟩
    refine .uc (.uc (.aY (fun nt=>?_) (fun nt=>?_)))
    ·exact .s [bx [(A.ip (aq d))],bx [(iA q)],(cw a2),bx [(bA true)],bx (aa ab),aD.rng cp.busy,(bZ p u),(bZ p u)] (.lp (dT rfl) (.cr (.ok (.s (bA true) (.fe (.ex (x0 _ _ _ _ _ _ _ _ _ _ _ _ _)))))))
    refine .lp (dT rfl) (.cr (.ok (.s (bA false) (.gR (.st (aP ..) (.st (v:=[bx [(A.ip (aq d))],bx [(iA q)],(cw a2),bx [(bA ad)],bx (aa ab),aD.rng cp.ready]) (dy (by kernel_rfl) (by simp only[uB,eF,eG,Nat.reduceLT,decide_true,cw])) (.cT ((by kernel_rfl:_=(bif aG 6 (ao.map ae) then (bif aG 6 (hs.map af) then (bif aG 6 (bs.map cB) then true else false) else false) else false)).trans (by simp only[eF,eG])) ?_)))))))
    exact ih _ _ _
   exact .ex (x1 _ _ _ _ _ _ _ _ _ _ _)
  exact .ex (x2 _ _ _ _ _ _ _ _ _ _)
def uF (n:Nat) (a0:aC) (a1:Int) (a2:av):Option Bool :=
 bif (decide (0<=a1)&&decide (a1<2)) then ((jQ a1 a0.Pair.Desks.1 a0.Pair.Desks.2).bind fun d=>(dI n a2 d.Order ((d.Order.length:Int)) a0 a1 false d (n+7) d.Leases d.Calls 0).bind fun p=>match p with | (Sum.inl q)=>some q | (Sum.inr ((Sum.inl _)))=>some false | (Sum.inr ((Sum.inr _)))=>some false) else none
theorem F5 (C:OT) (n:Nat) (a0:aC) (a1:Int) (a2:av):J (fun (o:R) y=>∃ v,o.1=.ret v/\aF o.2 v=(bA y)) (aB (cx C) (ec C n 8) (ey C n 8) (n+8) 69 [(A.ip (aq a0)),(iA a1),(fk 85 [] [(A.ip [(iA a2.Bar),(iA a2.Program)])])] [] 0) some (uF n a0 a1 a2) some:=by
 refine .lp (MT ..) ?_
 unfold uF
 refine .s ((pt 0 0),[bx [(A.ip (aq a0))]]) (.sq (pt 1 0) (.sq (pt 2 0) (.s ((pt 3 0),[bx [(A.ip (aq a0))],bx [(iA a1)],(cw a2),bx [(bA false)]]) (.s (A.ip (aq a0)) (.s (iA a1) (.s (A.ip (aq a0)) (.s (A.ip (aq a0)) (.s (A.ip (aq a0)) (.gd fun hg=>.st (v:=(A.ip (List.drop (Int.toNat a1*4) (aq a0)))) (pN (e:=26) (n:=4) (len:=2) (by kernel_rfl) (by kernel_rfl) hg) (.a2 (f:=fun (y:ah)=>(ag [(iA y.Self),(im (y.Leases.map ae) false),(im (y.Calls.map af) false),(im (y.Order.map cB) false)])) (fun h=>by rw[h]; kernel_rfl) (fun h=>by rw[h]; kernel_rfl) fun d=>.cl ((au zX).trans (Ke C (ec C n 7) (ey C n 7) (n+7) _ _ _)) (.s ((pt 4 0),[bx [(A.ip (aq a0))],bx [(iA a1)],(cw a2),bx [(bA false)],bx (aa d)]) (.cr (.ok (.s (55,[(pt 4 0)]) (.cT (by kernel_rfl) (.cl ((jJ zY).trans (Kg C (aA (cx C) (n+7) (nM 124 (aO (cx C) (n+8)) 5 (gK (cx C) (ec C n 8) (ey C n 8) (n+8) 69 0 0 5 [(3,(pt 0 0)),(4,(pt 1 0)),(5,(pt 2 0)),(6,(pt 3 0))]))) (aA (cx C) (n+7)) (n+7) _ _ _ _)) (.s (pt 4 1) (.s (im (d.Leases.map ae) false) (.s (pt 4 2) (.s (im (d.Calls.map af) false) (.s (pt 4 3) ?_)))))))))))))))))))))
 refine .s (im (d.Order.map cB) false) (.st (eb (e:=4)) (.as (vX C n _ _ _ _ a2 d.Order ((d.Order.length:Int)) a0 a1 false d ?_ ?_ ?_ _ d.Leases d.Calls 0)))
 ·intro p q u ab ad an ao w491 w492 w493 w494 w495 w496
  exact .un rfl (.cr (.ok (.lp (GY rfl) (.s (bA p) (.lv rfl)))))
 ·intro bm bs ca cc ch ck w503 w504 w505 w506 w507
  exact .un rfl (.cr (.ok (.lp (xw rfl) (.s [w503,w504,w505,bx [(bA false)],w506,aD.dead,w507] (.s (bA false) (.lv rfl))))))
 ·intro cm cn cv cy dd ea w514 w515 w516 w517
  exact .un rfl (.cT (by kernel_rfl) (.cr (.ok (.lp (xw rfl) (.s [w514,w515,w516,bx [(bA false)],w517,aD.dead] (.s (bA false) (.lv rfl)))))))
def lH (a0:aC) (a1:Int) (a2:av):Option Bool:=uF aH a0 a1 a2
def oH (C:OT):Prop:=∀ (a0:aC) (a1:Int) (a2:av),C 69 [(A.ip (aq a0)),(iA a1),(fk 85 [] [(A.ip [(iA a2.Bar),(iA a2.Program)])])]=(lH a0 a1 a2).map fun y=>(bA y)
end Go.Proofs.Ytdmgdjnadbakfaa
