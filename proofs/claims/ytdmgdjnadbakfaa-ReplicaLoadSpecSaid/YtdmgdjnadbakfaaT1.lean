/-
 The program's functions as plain functions: by a tool; each follows the interpreter.
-/
import Derived.Test.YtdmgdjnadbakfaaE
import Derived.KernelRfl
namespace Go.Proofs.Ytdmgdjnadbakfaa
open Go.Proofs.Try (prog)
set_option linter.unusedVariables false
set_option linter.unusedSimpArgs false
set_option maxHeartbeats 4000000
set_option maxRecDepth 100000
variable (C:Nat->List A->Option A) (n:Nat) {ρ γ:Type} {φ:ρ->γ->Prop} {kL:R->Option ρ} (kx kg:Nat->St->Option R) (kr:St->Option R) (kp:A->St->Option R)
abbrev OT:=Nat->List A->Option A
abbrev eH:=ByteArray.empty
abbrev sA (s:ByteArray):A:=.v (.string s)
abbrev se:A:=sA eH
abbrev im:=A.imm
abbrev ag:=A.agg
abbrev pt:=A.ptr
abbrev tp:=A.tup
abbrev aX:=A.sl
abbrev bx:=aA.box
abbrev xM (k:Nat) (a b:List A):A:=A.fn (Fn.func k) a b
abbrev Sh:aA:=aA.box [(A.imm [] true),(A.imm [] true),(iA 0),(bA false)]
abbrev Sg:aA:=aA.box [(A.imm [] true),(iA 0),(iA 0)]
noncomputable abbrev ec (C:Nat->List A->Option A) (n k:Nat):=br (cx C) (n+k)
noncomputable abbrev ey (C:Nat->List A->Option A) (n k:Nat):=aI (cx C) (n+k)
structure ai where
 Kind:Int
 N:Int
 S:ByteArray
 L:(List ai)
 deriving Inhabited
mutual
def dr:ai->A
 | .mk _ _ _ l=>.imm (cu l) false
def cu:List ai->List (List A)
 | []=>[]
 | x :: r=>[(iA x.Kind),(iA x.N),(sA x.S),dr x] :: cu r
end
def af (x:ai):List A:=[(iA x.Kind),(iA x.N),(sA x.S),dr x]
theorem sn:∀ (l:List ai),cu l=l.map af
 | []=>by rw[cu]; rfl
 | x :: r=>by rw[cu,sn r]; rfl
theorem zf (x:ai):dr x=.imm (x.L.map af) false:=by
 cases x; rw[dr,sn]
theorem dU (x:ai):af x=[(iA x.Kind),(iA x.N),(sA x.S),.imm (x.L.map af) false]:=by
 show [(iA x.Kind),(iA x.N),(sA x.S),dr x]=_
 rw[zf]
theorem eR (o:Option ai):(o.map fun x=>A.ip (af x))=o.map fun x=>A.ip [(iA x.Kind),(iA x.N),(sA x.S),.imm (x.L.map af) false]:=by
 cases o with
 | none=>rfl
 | some x=>exact congrArg (fun z=>some (A.ip z)) (dU x)
theorem yC:mB af:=fun x=>by rw[dU]; rfl
mutual
theorem sR (L:Nat):∀ (x:ai),A.under L (dr x)=true
 | .mk _ _ _ l=>by rw[dr,A.under]; exact sV L l
theorem sV (L:Nat):∀ (l:List ai),au L (cu l)=true
 | []=>by rw[cu]; rfl
 | x :: r=>by rw[cu,au,sV L r]; simp only[bl,A.under,sR L x,Bool.and_true,Bool.and_self]
end
mutual
theorem sJ (g:Nat->Nat->Nat->A):∀ (x:ai),cA g (dr x)=dr x
 | .mk _ _ _ l=>by rw[dr,cA,sP g l]
theorem sP (g:Nat->Nat->Nat->A):∀ (l:List ai),dj g (cu l)=cu l
 | []=>by rw[cu]; rfl
 | x :: r=>by rw[cu,dj,sP g r]; simp only[aU,cA,sJ g x]
end
theorem dq:dk af:=fun L x=>by unfold af; simp only[bl,A.under,sR L x,Bool.and_true,Bool.and_self]
theorem bM:cj af:=fun g x=>by unfold af; simp only[aU,cA,sJ g x]
mutual
theorem rY:∀ (x y:ai),dr x=dr y->x.L=y.L
 | .mk xKind xN xS l,.mk yKind yN yS l'=>fun h=>by
  rw[dr,dr,A.imm.injEq] at h
  exact sf l l' h.1
theorem sf:∀ (l l':List ai),cu l=cu l'->l=l'
 | [],[]=>fun _=>rfl
 | [],y :: r=>fun h=>by rw[cu,cu] at h; cases h
 | x :: r,[]=>fun h=>by rw[cu,cu] at h; cases h
 | x :: r,y :: r'=>fun h=>by
  rw[cu,cu,List.cons.injEq] at h
  have h2:=sf r r' h.2
  have h1:=h.1
  simp only[List.cons.injEq,A.v.injEq,Value.int.injEq,Value.bool.injEq,Value.string.injEq,and_true,true_and] at h1
  have h3:=rY x y (by simp[h1])
  rw[h2]
  congr 1
  obtain ⟨xKind,xN,xS,lx⟩:=x; obtain ⟨yKind,yN,yS,ly⟩:=y
  simp_all
end
theorem iU {T:Type} {f:T->List A} {H:ay} {l:List T} {rows:List (List A)} {c:Bool} (h:l.map f=rows):qu H (.imm rows c) f l:=by
 rw[<-h]; exact aY ..
structure ak where
 No:Int
 Holder:Int
 Until:Int
 deriving DecidableEq,Inhabited
def ae (x:ak):List A:=[(iA x.No),(iA x.Holder),(iA x.Until)]
theorem yz:mB ae:=fun _=>rfl
theorem dx:dk ae:=fun _ _=>by simp only[ae,bl,A.under,cZ,kN,kK,kM,kP,kO,Bool.and_true,Bool.true_and,dq]
theorem cz:cj ae:=fun _ _=>by simp only[ae,cA,aU,cG,jF,dc,fI,kH,eN,bM]
structure ar where
 Bar:Int
 Program:Int
 deriving DecidableEq,Inhabited
def ah (x:ar):List A:=[(iA x.Bar),(iA x.Program)]
theorem Bg:mB ah:=fun _=>rfl
theorem en:dk ah:=fun _ _=>by simp only[ah,bl,A.under,cZ,kN,kK,kM,kP,kO,Bool.and_true,Bool.true_and,dq,dx]
theorem c9:cj ah:=fun _ _=>by simp only[ah,cA,aU,cG,jF,dc,fI,kH,eN,bM,cz]
structure aj where
 Self:Int
 Leases:(List ak)
 Calls:(List ar)
 Order:(List Bool)
 deriving DecidableEq,Inhabited
def aa (x:aj):List A:=[(iA x.Self),(im (List.map ae x.Leases) false),(im (List.map ah x.Calls) false),(im (List.map cB x.Order) false)]
theorem dp:dk aa:=fun _ _=>by simp only[aa,bl,A.under,cZ,kN,kK,kM,kP,kO,Bool.and_true,Bool.true_and,dq,dx,en]
theorem dn:cj aa:=fun _ _=>by simp only[aa,cA,aU,cG,jF,dc,fI,kH,eN,bM,cz,c9]
structure al where
 is:Bool
 lease:ak
 call:ar
 deriving DecidableEq,Inhabited
def aw (x:al):List A:=[(bA x.is),(iA x.lease.No),(iA x.lease.Holder),(iA x.lease.Until),(iA x.call.Bar),(iA x.call.Program)]
theorem b8:dk aw:=fun _ _=>by simp only[aw,bl,A.under,cZ,kN,kK,kM,kP,kO,Bool.and_true,Bool.true_and,dq,dx,en,dp]
theorem b7:cj aw:=fun _ _=>by simp only[aw,cA,aU,cG,jF,dc,fI,kH,eN,bM,cz,c9,dn]
structure eJ where
 rest:(List UInt8)
 deriving DecidableEq,Inhabited
def bf (x:eJ):List A:=[(im (List.map c8 x.rest) false)]
theorem cK:dk bf:=fun _ _=>by simp only[bf,bl,A.under,cZ,kN,kK,kM,kP,kO,Bool.and_true,Bool.true_and,dq,dx,en,dp,b8]
theorem cJ:cj bf:=fun _ _=>by simp only[bf,cA,aU,cG,jF,dc,fI,kH,eN,bM,cz,c9,dn,b7]
def aO (x:(aj×aj)):List A:=[(iA x.1.Self),(im (List.map ae x.1.Leases) false),(im (List.map ah x.1.Calls) false),(im (List.map cB x.1.Order) false),(iA x.2.Self),(im (List.map ae x.2.Leases) false),(im (List.map ah x.2.Calls) false),(im (List.map cB x.2.Order) false)]
theorem bX:dk aO:=fun _ _=>by simp only[aO,bl,A.under,cZ,kN,kK,kM,kP,kO,Bool.and_true,Bool.true_and,dq,dx,en,dp,b8,cK]
theorem bW:cj aO:=fun _ _=>by simp only[aO,cA,aU,cG,jF,dc,fI,kH,eN,bM,cz,c9,dn,b7,cJ]
theorem lY (g:Nat->Nat->Nat->A) (x:(aj×aj)):aU g (aO x)=aO x:=bW g x
theorem kQ (L:Nat) (x:(aj×aj)):bl L (aO x)=true:=bX L x
def bR (x:(Int×Int)):List A:=[(iA x.1),(iA x.2)]
theorem eB:dk bR:=fun _ _=>by simp only[bR,bl,A.under,cZ,kN,kK,kM,kP,kO,Bool.and_true,Bool.true_and,dq,dx,en,dp,b8,cK,bX]
theorem eA:cj bR:=fun _ _=>by simp only[bR,cA,aU,cG,jF,dc,fI,kH,eN,bM,cz,c9,dn,b7,cJ,bW]
theorem tj (g:Nat->Nat->Nat->A) (x:(Int×Int)):aU g (bR x)=bR x:=eA g x
theorem rT (L:Nat) (x:(Int×Int)):bl L (bR x)=true:=eB L x
def aM (x:((List ar)×(List ar))):List A:=[(im (List.map ah x.1) false),(im (List.map ah x.2) false)]
theorem cF:dk aM:=fun _ _=>by simp only[aM,bl,A.under,cZ,kN,kK,kM,kP,kO,Bool.and_true,Bool.true_and,dq,dx,en,dp,b8,cK,bX,eB]
theorem cD:cj aM:=fun _ _=>by simp only[aM,cA,aU,cG,jF,dc,fI,kH,eN,bM,cz,c9,dn,b7,cJ,bW,eA]
theorem j0 (g:Nat->Nat->Nat->A) (x:((List ar)×(List ar))):aU g (aM x)=aM x:=cD g x
theorem jQ (L:Nat) (x:((List ar)×(List ar))):bl L (aM x)=true:=cF L x
structure bu where
 Desks:(aj×aj)
 Synced:(Int×Int)
 Told:(List ak)
 Spoken:((List ar)×(List ar))
 deriving DecidableEq,Inhabited
def aB (x:bu):List A:=[(iA x.Desks.1.Self),(im (List.map ae x.Desks.1.Leases) false),(im (List.map ah x.Desks.1.Calls) false),(im (List.map cB x.Desks.1.Order) false),(iA x.Desks.2.Self),(im (List.map ae x.Desks.2.Leases) false),(im (List.map ah x.Desks.2.Calls) false),(im (List.map cB x.Desks.2.Order) false),(iA x.Synced.1),(iA x.Synced.2),(im (List.map ae x.Told) false),(im (List.map ah x.Spoken.1) false),(im (List.map ah x.Spoken.2) false)]
theorem kJ:dk aB:=fun _ _=>by simp only[aB,bl,A.under,cZ,kN,kK,kM,kP,kO,Bool.and_true,Bool.true_and,dq,dx,en,dp,b8,cK,bX,eB,cF]
theorem kG:cj aB:=fun _ _=>by simp only[aB,cA,aU,cG,jF,dc,fI,kH,eN,bM,cz,c9,dn,b7,cJ,bW,eA,cD]
structure bG where
 Kind:Int
 Who:Int
 A:Int
 B:Int
 deriving DecidableEq,Inhabited
def bK (x:bG):List A:=[(iA x.Kind),(iA x.Who),(iA x.A),(iA x.B)]
theorem nI:dk bK:=fun _ _=>by simp only[bK,bl,A.under,cZ,kN,kK,kM,kP,kO,Bool.and_true,Bool.true_and,dq,dx,en,dp,b8,cK,bX,eB,cF,kJ]
theorem nH:cj bK:=fun _ _=>by simp only[bK,cA,aU,cG,jF,dc,fI,kH,eN,bM,cz,c9,dn,b7,cJ,bW,eA,cD,kG]
def c7 (x:(Bool×Bool×Bool×Bool)):List A:=[(bA x.1),(bA x.2.1),(bA x.2.2.1),(bA x.2.2.2)]
theorem oI:dk c7:=fun _ _=>by simp only[c7,bl,A.under,cZ,kN,kK,kM,kP,kO,Bool.and_true,Bool.true_and,dq,dx,en,dp,b8,cK,bX,eB,cF,kJ,nI]
theorem oE:cj c7:=fun _ _=>by simp only[c7,cA,aU,cG,jF,dc,fI,kH,eN,bM,cz,c9,dn,b7,cJ,bW,eA,cD,kG,nH]
theorem yP (g:Nat->Nat->Nat->A) (x:(Bool×Bool×Bool×Bool)):aU g (c7 x)=c7 x:=oE g x
theorem wS (L:Nat) (x:(Bool×Bool×Bool×Bool)):bl L (c7 x)=true:=oI L x
structure cC where
 B:(List UInt8)
 At:Int
 Bad:Bool
 deriving DecidableEq,Inhabited
def aF (x:cC):List A:=[(im (List.map c8 x.B) false),(iA x.At),(bA x.Bad)]
theorem fc:dk aF:=fun _ _=>by simp only[aF,bl,A.under,cZ,kN,kK,kM,kP,kO,Bool.and_true,Bool.true_and,dq,dx,en,dp,b8,cK,bX,eB,cF,kJ,nI,oI]
theorem fb:cj aF:=fun _ _=>by simp only[aF,cA,aU,cG,jF,dc,fI,kH,eN,bM,cz,c9,dn,b7,cJ,bW,eA,cD,kG,nH,oE]
theorem yR (g:Nat->Nat->Nat->A) (x:ai):aU g (af x)=af x:=bM g x
theorem wU (L:Nat) (x:ai):bl L (af x)=true:=dq L x
theorem yQ (g:Nat->Nat->Nat->A) (x:ak):aU g (ae x)=ae x:=cz g x
theorem wT (L:Nat) (x:ak):bl L (ae x)=true:=dx L x
theorem Br (g:Nat->Nat->Nat->A) (x:ar):aU g (ah x)=ah x:=c9 g x
theorem yV (L:Nat) (x:ar):bl L (ah x)=true:=en L x
theorem vi (g:Nat->Nat->Nat->A) (x:aj):aU g (aa x)=aa x:=dn g x
theorem tn (L:Nat) (x:aj):bl L (aa x)=true:=dp L x
theorem oG (g:Nat->Nat->Nat->A) (x:al):aU g (aw x)=aw x:=b7 g x
theorem nV (L:Nat) (x:al):bl L (aw x)=true:=b8 L x
theorem pG (g:Nat->Nat->Nat->A) (x:eJ):aU g (bf x)=bf x:=cJ g x
theorem oJ (L:Nat) (x:eJ):bl L (bf x)=true:=cK L x
theorem Bu (g:Nat->Nat->Nat->A) (x:bu):aU g (aB x)=aB x:=kG g x
theorem yX (L:Nat) (x:bu):bl L (aB x)=true:=kJ L x
theorem Bt (g:Nat->Nat->Nat->A) (x:bG):aU g (bK x)=bK x:=nH g x
theorem yW (L:Nat) (x:bG):bl L (bK x)=true:=nI L x
theorem iV (g:Nat->Nat->Nat->A) (x:cC):aU g (aF x)=aF x:=fb g x
theorem iE (L:Nat) (x:cC):bl L (aF x)=true:=fc L x
theorem zY:td prog 22 22 59 3 24 [(iA 0),(iA 0),(iA 0)] ae:=⟨by kernel_rfl,by kernel_rfl,by kernel_rfl,by kernel_rfl,rfl,by decide,by decide,by kernel_rfl,fun _=>rfl,yz⟩
theorem qQ:td prog 24 24 4 1 1 [(bA false)] cB:=⟨by kernel_rfl,by kernel_rfl,by kernel_rfl,by kernel_rfl,rfl,by decide,by decide,by kernel_rfl,fun _=>rfl,Jf⟩
theorem zZ:td prog 23 23 62 2 16 [(iA 0),(iA 0)] ah:=⟨by kernel_rfl,by kernel_rfl,by kernel_rfl,by kernel_rfl,rfl,by decide,by decide,by kernel_rfl,fun _=>rfl,Bg⟩
theorem iT:td prog 96 96 98 4 56 [(iA 0),(iA 0),se,(im [] true)] af:=⟨by kernel_rfl,by kernel_rfl,by kernel_rfl,by kernel_rfl,rfl,by decide,by decide,by kernel_rfl,fun _=>rfl,yC⟩
theorem Aa:td prog 78 78 3 1 8 [(iA 0)] (cI .i64):=⟨by kernel_rfl,by kernel_rfl,by kernel_rfl,by kernel_rfl,rfl,by decide,by decide,by kernel_rfl,fun _=>rfl,(Jg _)⟩
theorem cO:td prog 30 30 5 1 1 [(uA 0)] c8:=⟨by kernel_rfl,by kernel_rfl,by kernel_rfl,by kernel_rfl,rfl,by decide,by decide,by kernel_rfl,fun _=>rfl,Gl⟩
theorem uQ:td prog 30 9 5 1 1 [(uA 0)] c8:=⟨by kernel_rfl,by kernel_rfl,by kernel_rfl,by kernel_rfl,rfl,by decide,by decide,by kernel_rfl,fun _=>rfl,Gl⟩
theorem nE:td prog 27 27 30 1 24 [(im [] true)] (cL c8):=⟨by kernel_rfl,by kernel_rfl,by kernel_rfl,by kernel_rfl,rfl,by decide,by decide,by kernel_rfl,fun _=>rfl,Jh⟩
theorem jL:cj af/\cj ae/\cj ah/\cj aa/\cj aw/\cj bf/\cj aO/\cj bR/\cj aM/\cj aB/\cj bK/\cj c7/\cj aF/\(∀ (g:Nat->Nat->Nat->A) (x:ai),aU g (af x)=af x)/\(∀ (g:Nat->Nat->Nat->A) (x:ak),aU g (ae x)=ae x)/\(∀ (g:Nat->Nat->Nat->A) (x:ar),aU g (ah x)=ah x)/\(∀ (g:Nat->Nat->Nat->A) (x:aj),aU g (aa x)=aa x)/\(∀ (g:Nat->Nat->Nat->A) (x:al),aU g (aw x)=aw x)/\(∀ (g:Nat->Nat->Nat->A) (x:eJ),aU g (bf x)=bf x)/\(∀ (g:Nat->Nat->Nat->A) (x:(aj×aj)),aU g (aO x)=aO x)/\(∀ (g:Nat->Nat->Nat->A) (x:(Int×Int)),aU g (bR x)=bR x)/\(∀ (g:Nat->Nat->Nat->A) (x:((List ar)×(List ar))),aU g (aM x)=aM x)/\(∀ (g:Nat->Nat->Nat->A) (x:bu),aU g (aB x)=aB x)/\(∀ (g:Nat->Nat->Nat->A) (x:bG),aU g (bK x)=bK x)/\(∀ (g:Nat->Nat->Nat->A) (x:(Bool×Bool×Bool×Bool)),aU g (c7 x)=c7 x)/\(∀ (g:Nat->Nat->Nat->A) (x:cC),aU g (aF x)=aF x)/\True:=⟨bM,cz,c9,dn,b7,cJ,bW,eA,cD,kG,nH,oE,fb,yR,yQ,Br,vi,oG,pG,lY,tj,j0,Bu,Bt,yP,iV,trivial⟩
theorem dS:(cj af/\cj ae/\cj ah/\cj aa/\cj aw/\cj bf/\cj aO/\cj bR/\cj aM/\cj aB/\cj bK/\cj c7/\cj aF/\(∀ (g:Nat->Nat->Nat->A) (x:ai),aU g (af x)=af x)/\(∀ (g:Nat->Nat->Nat->A) (x:ak),aU g (ae x)=ae x)/\(∀ (g:Nat->Nat->Nat->A) (x:ar),aU g (ah x)=ah x)/\(∀ (g:Nat->Nat->Nat->A) (x:aj),aU g (aa x)=aa x)/\(∀ (g:Nat->Nat->Nat->A) (x:al),aU g (aw x)=aw x)/\(∀ (g:Nat->Nat->Nat->A) (x:eJ),aU g (bf x)=bf x)/\(∀ (g:Nat->Nat->Nat->A) (x:(aj×aj)),aU g (aO x)=aO x)/\(∀ (g:Nat->Nat->Nat->A) (x:(Int×Int)),aU g (bR x)=bR x)/\(∀ (g:Nat->Nat->Nat->A) (x:((List ar)×(List ar))),aU g (aM x)=aM x)/\(∀ (g:Nat->Nat->Nat->A) (x:bu),aU g (aB x)=aB x)/\(∀ (g:Nat->Nat->Nat->A) (x:bG),aU g (bK x)=bK x)/\(∀ (g:Nat->Nat->Nat->A) (x:(Bool×Bool×Bool×Bool)),aU g (c7 x)=c7 x)/\(∀ (g:Nat->Nat->Nat->A) (x:cC),aU g (aF x)=aF x)/\True)/\(∀ {T U:Type} (f:T->U) (a:T) (l:List T),(a :: l).map f=f a :: l.map f)/\(∀ {T U:Type} (f:T->U),[].map f=[]):=⟨jL,fun _ _ _=>rfl,fun _=>rfl⟩
theorem iD:dk af/\dk ae/\dk ah/\dk aa/\dk aw/\dk bf/\dk aO/\dk bR/\dk aM/\dk aB/\dk bK/\dk c7/\dk aF/\(∀ (L:Nat) (x:ai),bl L (af x)=true)/\(∀ (L:Nat) (x:ak),bl L (ae x)=true)/\(∀ (L:Nat) (x:ar),bl L (ah x)=true)/\(∀ (L:Nat) (x:aj),bl L (aa x)=true)/\(∀ (L:Nat) (x:al),bl L (aw x)=true)/\(∀ (L:Nat) (x:eJ),bl L (bf x)=true)/\(∀ (L:Nat) (x:(aj×aj)),bl L (aO x)=true)/\(∀ (L:Nat) (x:(Int×Int)),bl L (bR x)=true)/\(∀ (L:Nat) (x:((List ar)×(List ar))),bl L (aM x)=true)/\(∀ (L:Nat) (x:bu),bl L (aB x)=true)/\(∀ (L:Nat) (x:bG),bl L (bK x)=true)/\(∀ (L:Nat) (x:(Bool×Bool×Bool×Bool)),bl L (c7 x)=true)/\(∀ (L:Nat) (x:cC),bl L (aF x)=true)/\True:=⟨dq,dx,en,dp,b8,cK,bX,eB,cF,kJ,nI,oI,fc,wU,wT,yV,tn,nV,oJ,kQ,rT,jQ,yX,yW,wS,iE,trivial⟩
def D8 {X Y:Type} [DecidableEq X]:List (X×Y)->X->Option Y
 | [],_=>none
 | e :: t,z=>if e.1=z then some e.2 else D8 t z
theorem sQ {X Y:Type} [DecidableEq X]:∀ {t:List (X×Y)} {z:X} {y:Y},D8 t z=some y->(z,y)∈t
 | [],_,_,h=>by cases h
 | e :: t,z,y,h=>by
  unfold D8 at h
  split at h
  ·rename_i he
   cases h; subst he
   exact List.mem_cons_self ..
  ·exact List.mem_cons_of_mem _ (sQ h)
noncomputable def MZ (C:OT) (N:Nat) (k:Nat) (args:List A):Option A:=match br (cx C) N k args [] 0 with
 | some (.ret x,H)=>some (aE H x)
 | _=>none
noncomputable def Cn:Nat->Nat->List A->Option A
 | 0=>fun _ _=>none
 | m+1=>MZ (Cn m) 1000
def Lm (n:Nat) (d:Int) (h:Int) (p:Int):Option Bool :=
 (bif (decide (h<=d)) then (some (decide (d<=p))) else (some false)).bind fun q=>some q
theorem QD (C:OT) (n:Nat) (d:Int) (h:Int) (p:Int):J (fun (o:R) y=>∃ v,o.1=.ret v/\aE o.2 v=(bA y)) (av (cx C) (ec C n 8) (ey C n 8) (n+8) 47 [(iA d),(iA h),(iA p)] [] 0) some (Lm n d h p) some:=by
 refine .lp (Rk ..) ?_
 unfold Lm
 refine .st (df ..) (.bg (fun t (y:Bool)=>∃ q u j5:A,t=[(bA y),q,u,j5]) ?_ ?_)
 ·refine .dg (fun ad=>?_) (fun ad=>?_)
  ·exact .st (df ..) (.lg ⟨_,_,_,rfl⟩)
  exact .lg ⟨_,_,_,rfl⟩
 rintro _ y2 ⟨q,u,j5,rfl⟩
 exact .u4 (.lv rfl)
def BO (d:Int) (h:Int) (p:Int):Option Bool:=Lm aC d h p
def tD (C:OT):Prop:=∀ (d:Int) (h:Int) (p:Int),C 47 [(iA d),(iA h),(iA p)]=(BO d h p).map fun y=>(bA y)
def MH (n:Nat) (d:Int) (h:Int) (p:Int):Option (aj×Int) :=
 (BO d 0 1).bind fun q=>(bif (!q) then (some true) else ((BO h 0 1).bind fun u=>some (!u))).bind fun y=>(bif y then (some true) else ((BO p 1 4096).bind fun y9=>some (!y9))).bind fun ad=>bif ad then (some (((aj.mk 0 ([]) ([]) ([])),1))) else (some (((aj.mk d ([(ak.mk 0 h p)]) ([]) ([true])),0)))
theorem Qu (C:OT) (n:Nat) (q:tD C) (p:Int) (d:Int) (h:Int):J (fun (o:R) y=>∃ v,o.1=.ret v/\aE o.2 v=(tp [(ag [(iA y.1.Self),(im (y.1.Leases.map ae) false),(im (y.1.Calls.map ah) false),(im (y.1.Order.map cB) false)]),(iA y.2)])) (av (cx C) (ec C n 8) (ey C n 8) (n+8) 25 [(iA p),(iA d),(iA h)] [] 0) some (MH n p d h) some:=by
 refine .lp (Rb ..) ?_
 unfold MH
 refine .s ((pt 0 0),[bx [(iA 0),(im [] true),(im [] true),(im [] true)]]) (.bd (q p 0 1) fun y1=>.s (bA (!y1)) (.bg (fun t (y:Bool)=>∃ u j6 j7:A,t=[(bA y),u,j6,j7]) ?_ ?_))
 ·refine .dg (fun ca=>?_) (fun ca=>?_)
  ·exact .lg ⟨_,_,_,rfl⟩
  exact .bd (q d 0 1) fun y3=>.s (bA (!y3)) (.lg ⟨_,_,_,rfl⟩)
 rintro _ y4 ⟨u,j6,j7,rfl⟩
 refine .u4 (.bg (fun t (y:Bool)=>∃ an ao bm:A,t=[(bA y),an,ao,bm]) ?_ ?_)
 ·refine .dg (fun cc=>?_) (fun cc=>?_)
  ·exact .lg ⟨_,_,_,rfl⟩
  exact .bd (q h 1 4096) fun y9=>.s (bA (!y9)) (.lg ⟨_,_,_,rfl⟩)
 rintro _ cv ⟨an,ao,bm,rfl⟩
 refine .u4 (.aP (fun ck=>?_) (fun ck=>?_))
 ·exact .s (ag [(iA 0),(im [] true),(im [] true),(im [] true)]) (.s [bx [(iA 0),(im [] true),(im [] true),(im [] true)]] (.s (ag [(iA 0),(im [] true),(im [] true),(im [] true)]) (.lv (by show aE _ (tp [(ag [(iA 0),(im [] true),(im [] true),(im [] true)]),(iA 1)])=_; simp only[cR,jL,aE]; first | done | rfl))))
 exact .s (ag [(iA 0),(iA d),(iA h)]) (.s (im [[(iA 0),(iA d),(iA h)]] true) (.s (im [[(bA true)]] true) (.s (ag [(iA p),(im [[(iA 0),(iA d),(iA h)]] true),(im [] true),(im [[(bA true)]] true)]) (.s [bx [(iA p),(im [[(iA 0),(iA d),(iA h)]] true),(im [] true),(im [[(bA true)]] true)]] (.s (ag [(iA p),(im [[(iA 0),(iA d),(iA h)]] true),(im [] true),(im [[(bA true)]] true)]) (.lv (by show aE _ (tp [(ag [(iA p),(im [[(iA 0),(iA d),(iA h)]] true),(im [] true),(im [[(bA true)]] true)]),(iA 0)])=_; simp only[cR,jL,aE]; first | done | rfl)))))))
def G1 (d:Int) (h:Int) (p:Int):Option (aj×Int):=MH aC d h p
def zM (C:OT):Prop:=∀ (d:Int) (h:Int) (p:Int),C 25 [(iA d),(iA h),(iA p)]=(G1 d h p).map fun y=>(tp [(ag [(iA y.1.Self),(im (y.1.Leases.map ae) false),(im (y.1.Calls.map ah) false),(im (y.1.Order.map cB) false)]),(iA y.2)])
def K1:List ((aj×Int×Int)×(aj×Int)):=[((⟨0,[⟨0,1,5⟩],[],[true]⟩,0,9),(⟨0,[],[],[]⟩,530))]
def MM (d:aj) (h:Int) (p:Int):Option (aj×Int):=D8 K1 (d,h,p)
def FX (C:OT):Prop:=∀ (d:aj) (h:Int) (p:Int),C 26 [(ag (aa d)),(iA h),(iA p)]=(MM d h p).map fun y=>(tp [(ag [(iA y.1.Self),(im (y.1.Leases.map ae) false),(im (y.1.Calls.map ah) false),(im (y.1.Order.map cB) false)]),(iA y.2)])
def Lz (n:Nat) (d:aj):Option Int :=
 bif (decide (0<((d.Leases.length:Int)))) then ((bw d.Leases (wr .i64 (((d.Leases.length:Int)) - 1))).bind fun h=>some h.Until) else (some 0)
theorem QQ (C:OT) (n:Nat) (d:aj):J (fun (o:R) y=>∃ v,o.1=.ret v/\aE o.2 v=(iA y)) (av (cx C) (ec C n 8) (ey C n 8) (n+8) 74 [(ag (aa d))] [] 0) some (Lz n d) some:=by
 refine .lp (RB ..) ?_
 unfold Lz
 refine .s ((pt 0 0),[bx (aa d)]) (.s (pt 0 1) (.s (im (d.Leases.map ae) false) (.st (dQ (e:=59)) (.st (bQ ..) (.aP (fun p=>?_) (fun p=>?_))))))
 ·exact .s (pt 0 1) (.s (im (d.Leases.map ae) false) (.st (cX ..) (.bd (fJ (e:=59) (es:=3)) fun h=>.s (A.ip [(iA h.Until)]) (.s (iA h.Until) (.lv rfl)))))
 exact .lv rfl
def IZ (d:aj):Option Int:=Lz aC d
def F4 (C:OT):Prop:=∀ (d:aj),C 74 [(ag (aa d))]=(IZ d).map fun y=>(iA y)
def Ln (n:Nat) (h:aj) (d:ak):Option Bool :=
 (bif (d.No==((h.Leases.length:Int))) then ((BO d.Holder 0 1).bind fun p=>some p) else (some false)).bind fun q=>bif q then ((IZ h).bind fun u=>(some (decide (u<d.Until))).bind fun y=>(bif y then (some (decide (d.Until<=4096))) else (some false)).bind fun ab=>some ab) else ((some false).bind fun ad=>(bif ad then (some (decide (d.Until<=4096))) else (some false)).bind fun an=>some an)
theorem QE (C:OT) (n:Nat) (ch:tD C) (ck:F4 C) (h:aj) (d:ak):J (fun (o:R) y=>∃ v,o.1=.ret v/\aE o.2 v=(bA y)) (av (cx C) (ec C n 8) (ey C n 8) (n+8) 50 [(ag (aa h)),(ag (ae d))] [] 0) some (Ln n h d) some:=by
 refine .lp (Rl ..) ?_
 unfold Ln
 refine .s ((pt 0 0),[bx (aa h)]) (.s ((pt 1 0),[bx (aa h),bx (ae d)]) (.s (pt 1 0) (.s (iA d.No) (.s (pt 0 1) (.s (im (h.Leases.map ae) false) (.st (dQ (e:=59)) (.st (aN ..) (.bg (fun t (y:Bool)=>∃ q u j6:A,t=[(bA y),q,u,j6]) ?_ ?_))))))))
 ·refine .dg (fun cm=>?_) (fun cm=>?_)
  ·exact .s (pt 1 1) (.s (iA d.Holder) (.bd (ch d.Holder 0 1) fun y2=>.lg ⟨_,_,_,rfl⟩))
  exact .lg ⟨_,_,_,rfl⟩
 rintro _ y3 ⟨q,u,j6,rfl⟩
 refine .u4 (.JZ (fun p=>?_) (fun p=>?_))
 ·refine .bb (.s (pt 1 2) (.s (iA d.Until) (.s (ag (aa h)) (.bd (g:=fun (y:Int)=>(iA y)) (by show C 74 [snap _ (ag (aa h))]=_; simp only[cR,dS]; exact ck h) fun y8=>.cr (.u4 (.bg (fun t (y:Bool)=>∃ ad:A,t=[(bA y),ad]) ?_ ?_))))))
  ·exact .vN p (.st (bQ ..) (.lg ⟨_,rfl⟩))
  rintro _ y9 ⟨ad,rfl⟩
  refine .uc (.uc (.bg (fun t (y:Bool)=>∃ an ao bm:A,t=[(bA y),an,ao,bm]) ?_ ?_))
  ·refine .dg (fun cv=>?_) (fun cv=>?_)
   ·exact .s (pt 1 2) (.s (iA d.Until) (.st (df ..) (.lg ⟨_,_,_,rfl⟩)))
   exact .lg ⟨_,_,_,rfl⟩
  rintro _ ei ⟨an,ao,bm,rfl⟩
  exact .u4 (.lv rfl)
 refine .bb (.cr (.u4 (.bg (fun t (y:Bool)=>∃ bs:A,t=[(bA y),bs]) ?_ ?_)))
 ·exact .wo p (.lg ⟨_,rfl⟩)
 rintro _ ej ⟨bs,rfl⟩
 refine .uc (.uc (.bg (fun t (y:Bool)=>∃ ca cb cc:A,t=[(bA y),ca,cb,cc]) ?_ ?_))
 ·refine .dg (fun cy=>?_) (fun cy=>?_)
  ·exact .s (pt 1 2) (.s (iA d.Until) (.st (df ..) (.lg ⟨_,_,_,rfl⟩)))
  exact .lg ⟨_,_,_,rfl⟩
 rintro _ fs ⟨ca,cb,cc,rfl⟩
 exact .u4 (.lv rfl)
def Il (d:aj) (h:ak):Option Bool:=Ln aC d h
def B9 (C:OT):Prop:=∀ (d:aj) (h:ak),C 50 [(ag (aa d)),(ag (ae h))]=(Il d h).map fun y=>(bA y)
def ia (n:Nat) (v1:(List ak)) (v2:Int) (h:Int) (p:aj) (v6:Int):Nat->Int->Option ((Int×Int×Int×Int)⊕(Unit))
 | 0,_=>none
 | m+1,v4=>bif (decide (v4<h)) then ((bw v1 v4).bind fun d=>bif (decide (v6<d.Until)) then (some ((Sum.inl ((v4,d.No,d.Holder,d.Until))))) else (ia n v1 v2 h p v6 m (wr .i64 (v4+1)))) else (some ((Sum.inr (()))))
theorem CE (v1:(List ak)) (v2:Int) (y:Int) (d:aj) (v6:Int) {K:((Int×Int×Int×Int)⊕(Unit))->Option γ} (x0:∀ (o0:Int) (o1:Int) (o2:Int) (o3:Int) (h:A) (s1:A) (p:A) (q:A),J φ (kr (St.mk [(0,h),(1,s1),(4,(iA o0)),(7,p),(8,q)] [bx (aa d),bx [(iA v6)],bx [(iA o1),(iA o2),(iA o3)]])) kL (K (Sum.inl ((o0,o1,o2,o3)))) some) (x1:∀ (h:A) (s1:A) (s4:A) (p:A) (q:A),J φ (kx 0 (St.mk [(0,h),(1,s1),(4,s4),(7,p),(8,q)] [bx (aa d),bx [(iA v6)]])) kL (K (Sum.inr (()))) some) :
  ∀ (m:Nat) (v4:Int),J φ (aH (cx C) (ec C n 7) (ey C n 7) (n+7) 89 0 0 2 kx kg kr kp m (St.mk [(0,(im (v1.map ae) false)),(1,(xM 90 [] [(pt 1 0)])),(4,(iA v2)),(7,(iA y)),(8,(iA v4))] [bx (aa d),bx [(iA v6)]])) kL (ia n v1 v2 y d v6 m v4) K:=by
 intro m
 induction m with
 | zero=>intros; exact .nn
 | succ m ih =>
  intro v4
  refine .lp (JF ..) ?_
  unfold ia
  refine .st (aS ..) (.aP (fun ca=>?_) (fun ca=>?_))
  ·refine .bd (fJ (e:=59) (es:=3)) fun u=>.s (ag (ae u)) (.dC (by kernel_rfl) (by kernel_rfl) (.cl ((aK Kg).trans (RL C (br (cx C) (n+6)) (aI (cx C) (n+6)) (n+6) _ _ _ _)) (.s ((pt 2 0),[bx (aa d),bx [(iA v6)],bx (ae u)]) (.s (iA v6) (.s (pt 2 2) (.s (iA u.Until) (.st (aS ..) (.cr (.ok (.aP (fun cb=>?_) (fun cb=>?_)))))))))))
   ·exact .ex (x0 _ _ _ _ _ _ _ _)
   refine .st (aD ..) (.st (v:=[bx (aa d),bx [(iA v6)]]) ((by kernel_rfl:_=(bif ((((au 2 (d.Leases.map ae))&&((au 2 (d.Calls.map ah))&&((au 2 (d.Order.map cB))&&true))))&&true) then some [bx (aa d),bx [(iA v6)]] else none)).trans (by simp only[iC,iD])) (.cT ((by kernel_rfl:_=(bif au 2 (v1.map ae) then true else false)).trans (by simp only[iC,iD])) ?_))
   exact ih _
  exact .ex (x1 _ _ _ _ _)
def LA (n:Nat) (d:aj) (h:Int):Option Bool :=
 (ia n d.Leases 0 ((d.Leases.length:Int)) d h (n+7) 0).bind fun qW=>match qW with | (Sum.inl ((p,bs,ca,cb)))=>(bif (decide (0<=h)) then (some (decide (0<=p))) else (some false)).bind fun q=>bif q then ((bw d.Leases p).bind fun u=>(some (u.Holder==d.Self)).bind fun y=>some y) else ((some false).bind fun ab=>some ab) | (Sum.inr _)=>(bif (decide (0<=h)) then (some false) else (some false)).bind fun ad=>bif ad then ((bw d.Leases (-1)).bind fun an=>(some (an.Holder==d.Self)).bind fun ao=>some ao) else ((some false).bind fun bm=>some bm)
theorem QR (C:OT) (n:Nat) (d:aj) (h:Int):J (fun (o:R) y=>∃ v,o.1=.ret v/\aE o.2 v=(bA y)) (av (cx C) (ec C n 8) (ey C n 8) (n+8) 75 [(ag (aa d)),(iA h)] [] 0) some (LA n d h) some:=by
 refine .lp (RC ..) ?_
 unfold LA
 refine .s ((pt 0 0),[bx (aa d)]) (.s ((pt 1 0),[bx (aa d),bx [(iA h)]]) (.s (pt 0 1) (.s (im (d.Leases.map ae) false) (.cl ((aK Kf).trans (RK C (ec C n 7) (ey C n 7) (n+7) _ _ _ _)) (.st (dQ (e:=59)) (.as (CE C n _ _ _ _  d.Leases 0 ((d.Leases.length:Int)) d h ?_ ?_ _ 0)))))))
 ·intro cm cv cy dd ds ea eg ei
  refine .un rfl (.cr (.ok (.s (iA h) (.st (dB ..) (.bg (fun t (y:Bool)=>∃ ad an:A,t=[(bA y),ad,an]) ?_ ?_)))))
  ·refine .dg (fun ch=>?_) (fun ch=>?_)
   ·exact .st (dB ..) (.lg ⟨_,_,rfl⟩)
   exact .lg ⟨_,_,rfl⟩
  rintro _ ej ⟨ad,an,rfl⟩
  refine .uc (.uc (.uc (.JZ (fun p=>?_) (fun p=>?_))))
  ·refine .bb (.s (pt 0 1) (.s (im (d.Leases.map ae) false) (.bd (fJ (e:=59) (es:=3)) fun q=>.s (A.ip [(iA q.Holder),(iA q.Until)]) (.s (iA q.Holder) (.s (pt 0 0) (.s (iA d.Self) (.cr (.u4 (.u4 (.bg (fun t (y:Bool)=>∃ ao:A,t=[(bA y),ao]) ?_ ?_))))))))))
   ·exact .vN p (.st (aN ..) (.lg ⟨_,rfl⟩))
   rintro _ fs ⟨ao,rfl⟩
   exact .uc (.uc (.lv rfl))
  refine .bb (.cr (.u4 (.u4 (.bg (fun t (y:Bool)=>∃ bm:A,t=[(bA y),bm]) ?_ ?_))))
  ·exact .wo p (.lg ⟨_,rfl⟩)
  rintro _ fv ⟨bm,rfl⟩
  exact .uc (.uc (.lv rfl))
 ·intro gf ha hd hf hg
  refine .un rfl (.cT (by kernel_rfl) (.cr (.ok (.s (iA h) (.st (dB ..) (.bg (fun t (y:Bool)=>∃ bs ca:A,t=[(bA y),bs,ca]) ?_ ?_))))))
  ·refine .dg (fun ck=>?_) (fun ck=>?_)
   ·exact .s (bA false) (.lg ⟨_,_,rfl⟩)
   exact .lg ⟨_,_,rfl⟩
  rintro _ hh ⟨bs,ca,rfl⟩
  refine .uc (.uc (.uc (.JZ (fun u=>?_) (fun u=>?_))))
  ·refine .bb (.s (pt 0 1) (.s (im (d.Leases.map ae) false) (.bd (fJ (e:=59) (es:=3)) fun ab=>.s (A.ip [(iA ab.Holder),(iA ab.Until)]) (.s (iA ab.Holder) (.s (pt 0 0) (.s (iA d.Self) (.cr (.u4 (.u4 (.bg (fun t (y:Bool)=>∃ cb:A,t=[(bA y),cb]) ?_ ?_))))))))))
   ·exact .vN u (.st (aN ..) (.lg ⟨_,rfl⟩))
   rintro _ hi ⟨cb,rfl⟩
   exact .uc (.uc (.lv rfl))
  refine .bb (.cr (.u4 (.u4 (.bg (fun t (y:Bool)=>∃ cc:A,t=[(bA y),cc]) ?_ ?_))))
  ·exact .wo u (.lg ⟨_,rfl⟩)
  rintro _ hj ⟨cc,rfl⟩
  exact .uc (.uc (.lv rfl))
def I0 (d:aj) (h:Int):Option Bool:=LA aC d h
def F5 (C:OT):Prop:=∀ (d:aj) (h:Int),C 75 [(ag (aa d)),(iA h)]=(I0 d h).map fun y=>(bA y)
def Lo (n:Nat) (h:aj) (d:ar):Option Bool :=
 (I0 h d.Bar).bind fun p=>bif p then (bif (((h.Calls.length:Int))==0) then (((some true).bind fun q=>some q).bind fun u=>(bif u then ((BO d.Program 1 8).bind fun y=>some y) else (some false)).bind fun ab=>some ab) else ((bw h.Calls (wr .i64 (((h.Calls.length:Int)) - 1))).bind fun y4=>((some (decide (y4.Bar<d.Bar))).bind fun y5=>some y5).bind fun y6=>(bif y6 then ((BO d.Program 1 8).bind fun y9=>some y9) else (some false)).bind fun bs=>some bs)) else ((some (())).bind fun ch=>(some false).bind fun ca=>(bif ca then ((BO d.Program 1 8).bind fun cb=>some cb) else (some false)).bind fun cc=>some cc)
theorem QF (C:OT) (n:Nat) (u:tD C) (cy:F5 C) (h:aj) (d:ar):J (fun (o:R) y=>∃ v,o.1=.ret v/\aE o.2 v=(bA y)) (av (cx C) (ec C n 8) (ey C n 8) (n+8) 51 [(ag (aa h)),(ag [(iA d.Bar),(iA d.Program)])] [] 0) some (Lo n h d) some:=by
 refine .lp (Rm ..) ?_
 unfold Lo
 refine .s ((pt 0 0),[bx (aa h)]) (.s ((pt 1 0),[bx (aa h),bx [(iA d.Bar),(iA d.Program)]]) (.s (pt 0 2) (.s (im (h.Calls.map ah) false) (.st (dQ (e:=62)) (.s (ag (aa h)) (.s (pt 1 0) (.s (iA d.Bar) (.bd (g:=fun (y:Bool)=>(bA y)) (by show C 75 [snap _ (ag (aa h)),snap _ (iA d.Bar)]=_; simp only[cR,dS]; exact cy h d.Bar) fun y1=>.JZ (fun q=>?_) (fun q=>?_)))))))))
 ·refine .bb (.st (aN ..) (.BR (fun p=>?_) (fun p=>?_)))
  ·refine .bb (.s (pt 1 0) (.s (iA d.Bar) (.s (pt 0 2) (.s (im (h.Calls.map ah) false) (.st (cX ..) (.bd (fJ (e:=62) (es:=2)) fun y4=>.s (A.ip [(iA y4.Bar),(iA y4.Program)]) (.s (iA y4.Bar) (.cr (.u4 (.u4 (.uc (.cr (.u4 (.u4 (.u4 (.lp (congrArg (fun z=>Option.bind z _) (wV p)) (.bb (.st (bQ ..) (.cr (.uc (.bg (fun t (y:Bool)=>∃ j7:A,t=[(bA y),j7]) ?_ ?_)))))))))))))))))))))
   ·refine .vN q (.bg (fun t (y:Bool) =>  t=(bA y)) ?_ ?_)
    ·exact .wo p (.lg rfl)
    rintro _ y5 rfl
    exact .lg ⟨_,rfl⟩
   rintro _ y6 ⟨j7,rfl⟩
   refine .uc (.uc (.bg (fun t (y:Bool)=>∃ an ao bm:A,t=[(bA y),an,ao,bm]) ?_ ?_))
   ·refine .dg (fun dd=>?_) (fun dd=>?_)
    ·exact .s (pt 1 1) (.s (iA d.Program) (.bd (u d.Program 1 8) fun y9=>.lg ⟨_,_,_,rfl⟩))
    exact .lg ⟨_,_,_,rfl⟩
   rintro _ fv ⟨an,ao,bm,rfl⟩
   exact .u4 (.lv rfl)
  refine .bb (.cr (.u4 (.u4 (.uc (.cr (.u4 (.u4 (.u4 (.lp (congrArg (fun z=>Option.bind z _) (wW p)) (.bb (.cr (.uc (.bg (fun t (y:Bool)=>∃ bs:A,t=[(bA y),bs]) ?_ ?_)))))))))))))
  ·refine .vN q (.bg (fun t (y:Bool) =>  t=(bA y)) ?_ ?_)
   ·exact .vN p (.lg rfl)
   rintro _ gf rfl
   exact .lg ⟨_,rfl⟩
  rintro _ ha ⟨bs,rfl⟩
  refine .uc (.uc (.bg (fun t (y:Bool)=>∃ ca cb cc:A,t=[(bA y),ca,cb,cc]) ?_ ?_))
  ·refine .dg (fun ds=>?_) (fun ds=>?_)
   ·exact .s (pt 1 1) (.s (iA d.Program) (.bd (u d.Program 1 8) fun hd=>.lg ⟨_,_,_,rfl⟩))
   exact .lg ⟨_,_,_,rfl⟩
  rintro _ hf ⟨ca,cb,cc,rfl⟩
  exact .u4 (.lv rfl)
 refine .bb (.cr (.u4 (.u4 (.u4 (.bg (fun t (y:Unit) =>  t=[(A.v undef)]) ?_ ?_)))))
 ·exact .gU (.lg rfl)
 rintro _ hg rfl
 refine .uc (.bg (fun t (y:Bool)=>∃ ch:A,t=[(bA y),ch]) ?_ ?_)
 ·exact .wo q (.lg ⟨_,rfl⟩)
 rintro _ hh ⟨ch,rfl⟩
 refine .uc (.uc (.bg (fun t (y:Bool)=>∃ ck cm cv:A,t=[(bA y),ck,cm,cv]) ?_ ?_))
 ·refine .dg (fun ea=>?_) (fun ea=>?_)
  ·exact .s (pt 1 1) (.s (iA d.Program) (.bd (u d.Program 1 8) fun hi=>.lg ⟨_,_,_,rfl⟩))
  exact .lg ⟨_,_,_,rfl⟩
 rintro _ hj ⟨ck,cm,cv,rfl⟩
 exact .u4 (.lv rfl)
def G2 (d:aj) (h:ar):Option Bool:=Lo aC d h
def zO (C:OT):Prop:=∀ (h:aj) (d:ar),C 51 [(ag (aa h)),(ag [(iA d.Bar),(iA d.Program)])]=(G2 h d).map fun y=>(bA y)
def iG (d:aj) (h:(List ar)) (p:(List Bool)):aA:=bx [(iA d.Self),(im (d.Leases.map ae) false),(aX 3 0 h.length false),(aX 4 0 p.length false)]
def iH (d:aj) (h:(List ak)) (p:(List Bool)):aA:=bx [(iA d.Self),(aX 3 0 h.length false),(im (d.Calls.map ah) false),(aX 4 0 p.length false)]
def IH (n:Nat) (d:aj) (h:al):Option aj :=
 bif h.is then ((er d.Leases 0 ((d.Leases.length:Int))).bind fun p=>(cQ 24 p ([h.lease])).bind fun q=>(er d.Order 0 ((d.Order.length:Int))).bind fun u=>(cQ 1 u ([h.is])).bind fun y=>some ((aj.mk d.Self q d.Calls y))) else ((er d.Calls 0 ((d.Calls.length:Int))).bind fun y6=>(cQ 16 y6 ([h.call])).bind fun y7=>(er d.Order 0 ((d.Order.length:Int))).bind fun y8=>(cQ 1 y8 ([h.is])).bind fun y9=>some ((aj.mk d.Self d.Leases y7 y9)))
theorem QA (C:OT) (n:Nat) (d:aj) (h:al):J (fun (o:R) y=>∃ v,o.1=.ret v/\aE o.2 v=(ag [(iA y.Self),(im (y.Leases.map ae) false),(im (y.Calls.map ah) false),(im (y.Order.map cB) false)])) (av (cx C) (ec C n 8) (ey C n 8) (n+8) 33 [(ag (aa d)),(ag (aw h))] [] 0) some (IH n d h) some:=by
 refine .lp (Rg ..) ?_
 unfold IH
 refine .s ((pt 0 0),[bx (aa d)]) (.sq (pt 1 0) (.s ((pt 2 0),[bx (aa d),bx (aw h),bx [(iA 0),(im [] true),(im [] true),(im [] true)]]) (.s (pt 1 0) (.s (bA h.is) (.aP (fun ad=>?_) (fun ad=>?_))))))
 ·refine .s (pt 0 1) (.s (im (d.Leases.map ae) false) (.s (pt 1 1) (.s (ag (ae h.lease)) (.cT (by kernel_rfl) (.s (im [[(iA h.lease.No),(iA h.lease.Holder),(iA h.lease.Until)]] true) (.cT (by kernel_rfl) (.cl ((aK Kc).trans (Rt C (ec C n 7) (ey C n 7) (n+7) _ _ _)) (.st (dQ (e:=59)) (.st (dQ (e:=59)) (.bd (gr (e:=59) (es:=3) (f:=ae) (l:=d.Leases) (a:=0) (b:=(d.Leases.length:Int)) (by kernel_rfl) (by kernel_rfl) (fun _=>rfl) (.inl ⟨rfl,rfl⟩)) fun y2=>.cr (.ok (.bd (g:=fun (y:List ak)=>((aX 3 0 y.length false),[bx (aa d),bx (aw h),bx [(iA 0),(im [] true),(im [] true),(im [] true)],aA.row false 3 (y.map ae)])) (jB zY (l:=y2) (l2:=[h.lease]) (aY (f:=ae) ([h.lease]:List ak) _ _)) fun p=>.s (pt 0 1) (.s [bx [(iA d.Self),(aX 3 0 p.length false),(im (d.Calls.map ah) false),(im (d.Order.map cB) false)],bx (aw h),bx [(iA 0),(im [] true),(im [] true),(im [] true)],aA.row false 3 (p.map ae)] (.s (pt 0 3) (.s (im (d.Order.map cB) false) (.s (pt 1 0) (.s (bA h.is) (.cT (by kernel_rfl) (.s (im [[(bA h.is)]] true) (.cT (by kernel_rfl) (.cl ((aK GG).trans (PH C (ec C n 7) (ey C n 7) (n+7) _ _ _)) ?_)))))))))))))))))))))
  exact .st (dQ (e:=4)) (.st (dQ (e:=4)) (.bd (gr (e:=4) (es:=1) (f:=cB) (l:=d.Order) (a:=0) (b:=(d.Order.length:Int)) (by kernel_rfl) (by kernel_rfl) (fun _=>rfl) (.inl ⟨rfl,rfl⟩)) fun y4=>.cr (.ok (.bd (g:=fun (y:List Bool)=>((aX 4 0 y.length false),[bx [(iA d.Self),(aX 3 0 p.length false),(im (d.Calls.map ah) false),(im (d.Order.map cB) false)],bx (aw h),bx [(iA 0),(im [] true),(im [] true),(im [] true)],aA.row false 3 (p.map ae),aA.row false 1 (y.map cB)])) (jB qQ (l:=y4) (l2:=[h.is]) (aY (f:=cB) ([h.is]:List Bool) _ _)) fun u=>.s (pt 0 3) (.sh (.s (ag [(iA d.Self),(aX 3 0 p.length false),(im (d.Calls.map ah) false),(aX 4 0 u.length false)]) (.s [(iH d p u),bx (aw h),(iH d p u),aA.row false 3 (p.map ae),aA.row false 1 (u.map cB)] (.s (ag [(iA d.Self),(aX 3 0 p.length false),(im (d.Calls.map ah) false),(aX 4 0 u.length false)]) (.lv (by show aE [(iH d p u),bx (aw h),(iH d p u),aA.row false 3 (p.map ae),aA.row false 1 (u.map cB)] (ag [(iA d.Self),(aX 3 0 p.length false),(im (d.Calls.map ah) false),(aX 4 0 u.length false)])=_; first | (simp only[cR,dS,aE,aV (H:=[(iH d p u),bx (aw h),(iH d p u),aA.row false 3 (p.map ae),aA.row false 1 (u.map cB)]) (b:=3) (es:=3) (wr:=false) (l:=p) cz rfl,aV (H:=[(iH d p u),bx (aw h),(iH d p u),aA.row false 3 (p.map ae),aA.row false 1 (u.map cB)]) (b:=4) (es:=1) (wr:=false) (l:=u) fI rfl]; done) | (simp only[cR,jL,aE,aV (H:=[(iH d p u),bx (aw h),(iH d p u),aA.row false 3 (p.map ae),aA.row false 1 (u.map cB)]) (b:=3) (es:=3) (wr:=false) (l:=p) cz rfl,aV (H:=[(iH d p u),bx (aw h),(iH d p u),aA.row false 3 (p.map ae),aA.row false 1 (u.map cB)]) (b:=4) (es:=1) (wr:=false) (l:=u) fI rfl]; first | done | rfl)))))))))))
 refine .s (pt 0 2) (.s (im (d.Calls.map ah) false) (.s (pt 1 4) (.s (ag [(iA h.call.Bar),(iA h.call.Program)]) (.cT (by kernel_rfl) (.s (im [[(iA h.call.Bar),(iA h.call.Program)]] true) (.cT (by kernel_rfl) (.cl ((aK Kd).trans (Ru C (ec C n 7) (ey C n 7) (n+7) _ _ _)) (.st (dQ (e:=62)) (.st (dQ (e:=62)) (.bd (gr (e:=62) (es:=2) (f:=ah) (l:=d.Calls) (a:=0) (b:=(d.Calls.length:Int)) (by kernel_rfl) (by kernel_rfl) (fun _=>rfl) (.inl ⟨rfl,rfl⟩)) fun y6=>.cr (.ok (.bd (g:=fun (y:List ar)=>((aX 3 0 y.length false),[bx (aa d),bx (aw h),bx [(iA 0),(im [] true),(im [] true),(im [] true)],aA.row false 2 (y.map ah)])) (jB zZ (l:=y6) (l2:=[h.call]) (aY (f:=ah) ([h.call]:List ar) _ _)) fun q=>.s (pt 0 2) (.s [bx [(iA d.Self),(im (d.Leases.map ae) false),(aX 3 0 q.length false),(im (d.Order.map cB) false)],bx (aw h),bx [(iA 0),(im [] true),(im [] true),(im [] true)],aA.row false 2 (q.map ah)] (.s (pt 0 3) (.s (im (d.Order.map cB) false) (.s (pt 1 0) (.s (bA h.is) (.cT (by kernel_rfl) (.s (im [[(bA h.is)]] true) (.cT (by kernel_rfl) (.cl ((aK GG).trans (PH C (ec C n 7) (ey C n 7) (n+7) _ _ _)) ?_)))))))))))))))))))))
 exact .st (dQ (e:=4)) (.st (dQ (e:=4)) (.bd (gr (e:=4) (es:=1) (f:=cB) (l:=d.Order) (a:=0) (b:=(d.Order.length:Int)) (by kernel_rfl) (by kernel_rfl) (fun _=>rfl) (.inl ⟨rfl,rfl⟩)) fun y8=>.cr (.ok (.bd (g:=fun (y:List Bool)=>((aX 4 0 y.length false),[bx [(iA d.Self),(im (d.Leases.map ae) false),(aX 3 0 q.length false),(im (d.Order.map cB) false)],bx (aw h),bx [(iA 0),(im [] true),(im [] true),(im [] true)],aA.row false 2 (q.map ah),aA.row false 1 (y.map cB)])) (jB qQ (l:=y8) (l2:=[h.is]) (aY (f:=cB) ([h.is]:List Bool) _ _)) fun y9=>.s (pt 0 3) (.sh (.s (ag [(iA d.Self),(im (d.Leases.map ae) false),(aX 3 0 q.length false),(aX 4 0 y9.length false)]) (.s [(iG d q y9),bx (aw h),(iG d q y9),aA.row false 2 (q.map ah),aA.row false 1 (y9.map cB)] (.s (ag [(iA d.Self),(im (d.Leases.map ae) false),(aX 3 0 q.length false),(aX 4 0 y9.length false)]) (.lv (by show aE [(iG d q y9),bx (aw h),(iG d q y9),aA.row false 2 (q.map ah),aA.row false 1 (y9.map cB)] (ag [(iA d.Self),(im (d.Leases.map ae) false),(aX 3 0 q.length false),(aX 4 0 y9.length false)])=_; first | (simp only[cR,dS,aE,aV (H:=[(iG d q y9),bx (aw h),(iG d q y9),aA.row false 2 (q.map ah),aA.row false 1 (y9.map cB)]) (b:=3) (es:=2) (wr:=false) (l:=q) c9 rfl,aV (H:=[(iG d q y9),bx (aw h),(iG d q y9),aA.row false 2 (q.map ah),aA.row false 1 (y9.map cB)]) (b:=4) (es:=1) (wr:=false) (l:=y9) fI rfl]; done) | (simp only[cR,jL,aE,aV (H:=[(iG d q y9),bx (aw h),(iG d q y9),aA.row false 2 (q.map ah),aA.row false 1 (y9.map cB)]) (b:=3) (es:=2) (wr:=false) (l:=q) c9 rfl,aV (H:=[(iG d q y9),bx (aw h),(iG d q y9),aA.row false 2 (q.map ah),aA.row false 1 (y9.map cB)]) (b:=4) (es:=1) (wr:=false) (l:=y9) fI rfl]; first | done | rfl)))))))))))
def BX (d:aj) (h:al):Option aj:=IH aC d h
def tC (C:OT):Prop:=∀ (d:aj) (h:al),C 33 [(ag (aa d)),(ag (aw h))]=(BX d h).map fun y=>(ag [(iA y.Self),(im (y.Leases.map ae) false),(im (y.Calls.map ah) false),(im (y.Order.map cB) false)])
def na (d:Int) (h:(List ak)) (p:(List ar)) (q:(List Bool)):aA:=bx [(iA d),(im (h.map ae) false),(im (p.map ah) false),(im (q.map cB) false)]
def eh (h:Bool) (d:ar):aA:=bx [(bA h),(iA 0),(iA 0),(iA 0),(iA d.Bar),(iA d.Program)]
def gh (n:Nat) (v30:(List Bool)) (cb:Int) (cc:aj) (ch:Int) (ck:aj):Nat->(List ak)->(List ar)->Int->Int->(List ak)->(List ar)->(List Bool)->Int->Option ((Int×Int×(List ak)×(List ar)×(List Bool)×Int×Bool×Int×Int×Int×Int×Int×Bool×Int×Int×Int×Int×Int)⊕((Int×(List ak)×(List ar)×(List Bool)×Int×Bool×Int×Int×Int×Int×Int)⊕(Int×(List ak)×(List ar)×(List Bool)×Int)))
 | 0,_,_,_,_,_,_,_,_=>none
 | m+1,an,ao,bm,h,p,q,u,ab=>bif (decide (bm<cb)) then ((bw v30 bm).bind fun d=>(bif d then (some (decide (0<((an.length:Int))))) else (some false)).bind fun cm=>bif cm then ((bw an 0).bind fun y=>(er an 1 ((an.length:Int))).bind fun cv=>(bif d then ((Il ((aj.mk h p q u)) y).bind fun cy=>some (!cy)) else (some false)).bind fun dd=>(bif dd then (some true) else ((bif (!d) then ((G2 ((aj.mk h p q u)) ((ar.mk 0 0))).bind fun ds=>some (!ds)) else (some false)).bind fun ea=>some ea)).bind fun eg=>bif eg then (some ((Sum.inl ((530,h,p,q,u,ab,d,y.No,y.Holder,y.Until,0,0,d,y.No,y.Holder,y.Until,0,0))))) else ((BX ((aj.mk h p q u)) ((al.mk d y ((ar.mk 0 0))))).bind fun bs=>gh n v30 cb cc ch ck m cv ao (wr .i64 (bm+1)) bs.Self bs.Leases bs.Calls bs.Order (wr .i64 (ab+1)))) else ((bif (!d) then (some (decide (0<((ao.length:Int))))) else (some false)).bind fun ei=>bif ei then ((bw ao 0).bind fun ad=>(er ao 1 ((ao.length:Int))).bind fun ej=>(bif d then ((Il ((aj.mk h p q u)) ((ak.mk 0 0 0))).bind fun fs=>some (!fs)) else (some false)).bind fun fv=>(bif fv then (some true) else ((bif (!d) then ((G2 ((aj.mk h p q u)) ad).bind fun gf=>some (!gf)) else (some false)).bind fun ha=>some ha)).bind fun hd=>bif hd then (some ((Sum.inl ((530,h,p,q,u,ab,d,0,0,0,ad.Bar,ad.Program,d,0,0,0,ad.Bar,ad.Program))))) else ((BX ((aj.mk h p q u)) ((al.mk d ((ak.mk 0 0 0)) ad))).bind fun ca=>gh n v30 cb cc ch ck m an ej (wr .i64 (bm+1)) ca.Self ca.Leases ca.Calls ca.Order (wr .i64 (ab+1)))) else (some ((Sum.inr ((Sum.inl ((h,p,q,u,ab,d,0,0,0,0,0))))))))) else (some ((Sum.inr ((Sum.inr ((h,p,q,u,ab)))))))
theorem Cr (ha:tC C) (h47:tD C) (hd:B9 C) (hf:zO C) (v30:(List Bool)) (hg:Int) (ab:aj) (bm:Int) (ad:aj) {K:((Int×Int×(List ak)×(List ar)×(List Bool)×Int×Bool×Int×Int×Int×Int×Int×Bool×Int×Int×Int×Int×Int)⊕((Int×(List ak)×(List ar)×(List Bool)×Int×Bool×Int×Int×Int×Int×Int)⊕(Int×(List ak)×(List ar)×(List Bool)×Int)))->Option γ} (x0:∀ (o0:Int) (o1:Int) (o2:(List ak)) (o3:(List ar)) (o4:(List Bool)) (o5:Int) (o6:Bool) (o7:Int) (o8:Int) (o9:Int) (qW:Int) (BH:Int) (zo:Bool) (GL:Int) (BS:Int) (Eh:Int) (hi:Int) (DP:Int) (s0:A) (s3:A) (s4:A) (ej:A) (fs:A) (fv:A),J φ (kr (St.mk [(0,s0),(3,s3),(4,s4),(13,ej),(14,fs),(15,fv)] [bx (aa ab),bx [(iA o0)],bx [(iA o1),(im (o2.map ae) false),(im (o3.map ah) false),(im (o4.map cB) false)],bx [(iA o5)],bx (aa ad),aA.rng (dv.done I6.ret),bx [(bA o6),(iA o7),(iA o8),(iA o9),(iA qW),(iA BH)],bx [(bA zo),(iA GL),(iA BS),(iA Eh),(iA hi),(iA DP)]])) kL (K (Sum.inl ((o0,o1,o2,o3,o4,o5,o6,o7,o8,o9,qW,BH,zo,GL,BS,Eh,hi,DP)))) some) (x1:∀ (o0:Int) (o1:(List ak)) (o2:(List ar)) (o3:(List Bool)) (o4:Int) (o5:Bool) (o6:Int) (o7:Int) (o8:Int) (o9:Int) (qW:Int) (s0:A) (s3:A) (s4:A) (ej:A) (fs:A) (fv:A),J φ (kr (St.mk [(0,s0),(3,s3),(4,s4),(13,ej),(14,fs),(15,fv)] [bx (aa ab),bx [(iA bm)],bx [(iA o0),(im (o1.map ae) false),(im (o2.map ah) false),(im (o3.map cB) false)],bx [(iA o4)],bx (aa ad),aA.rng dv.ready,bx [(bA o5),(iA o6),(iA o7),(iA o8),(iA o9),(iA qW)]])) kL (K (Sum.inr ((Sum.inl ((o0,o1,o2,o3,o4,o5,o6,o7,o8,o9,qW)))))) some) (x2:∀ (o0:Int) (o1:(List ak)) (o2:(List ar)) (o3:(List Bool)) (o4:Int) (s0:A) (s3:A) (s4:A) (ej:A) (fs:A) (fv:A),J φ (kx 0 (St.mk [(0,s0),(3,s3),(4,s4),(13,ej),(14,fs),(15,fv)] [bx (aa ab),bx [(iA bm)],bx [(iA o0),(im (o1.map ae) false),(im (o2.map ah) false),(im (o3.map cB) false)],bx [(iA o4)],bx (aa ad),aA.rng dv.ready])) kL (K (Sum.inr ((Sum.inr ((o0,o1,o2,o3,o4)))))) some) :
  ∀ (m:Nat) (ck:(List ak)) (cm:(List ar)) (gf:Int) (h:Int) (p:(List ak)) (q:(List ar)) (u:(List Bool)) (ao:Int),J φ (aH (cx C) (aI (cx C) (n+7) (sZ 124 (br (cx C) (n+8)) 5 (nw (cx C) (ec C n 8) (ey C n 8) (n+8) 20 0 0 5 [(2,(pt 1 0)),(3,(pt 2 0)),(4,(pt 3 0))]))) (aI (cx C) (n+7)) (n+7) 55 0 0 6 kx kg kr kp m (St.mk [(0,(A.yld 5)),(3,(im (ck.map ae) false)),(4,(im (cm.map ah) false)),(13,(im (v30.map cB) false)),(14,(iA hg)),(15,(iA gf))] [bx (aa ab),bx [(iA bm)],(na h p q u),bx [(iA ao)],bx (aa ad),aA.rng dv.ready])) kL (gh n v30 hg ab bm ad m ck cm gf h p q u ao) K:=by
 intro m
 induction m with
 | zero=>intros; exact .nn
 | succ m ih =>
  intro ck cm gf h p q u ao
  refine .lp (Gp ..) ?_
  unfold gh
  refine .st (aS ..) (.aP (fun ts=>?_) (fun ts=>?_))
  ·refine .bd (fJ (e:=4) (es:=1)) fun d=>.s (bA d) (.s (ag [(bA d),(iA 0),(iA 0),(iA 0),(iA 0),(iA 0)]) (.sq (pt 6 0) (.s [bx (aa ab),bx [(iA bm)],(na h p q u),bx [(iA ao)],bx (aa ad),aA.rng dv.ready,bx [(bA d),(iA 0),(iA 0),(iA 0),(iA 0),(iA 0)]] (.bg (fun t (y:Bool)=>∃ hj hk ho:A,t=[(bA y),hj,hk,ho]) ?_ ?_))))
   ·refine .dg (fun tw=>?_) (fun tw=>?_)
    ·exact .st (dQ (e:=59)) (.st (bQ ..) (.lg ⟨_,_,_,rfl⟩))
    exact .lg ⟨_,_,_,rfl⟩
   rintro _ y44 ⟨hj,hk,ho,rfl⟩
   refine .u4 (.aP (fun vr=>?_) (fun vr=>?_))
   ·refine .bd (fJ (e:=59) (es:=3)) fun bs=>.s (ag (ae bs)) (.bd (eS (e:=59) (es:=3) (f:=ae) (l:=ck) (a:=1) (b:=(ck.length:Int)) (by kernel_rfl) (by kernel_rfl) (fun _=>rfl) (.inr ⟨_,rfl⟩) (.inl ⟨rfl,rfl⟩)) fun vt=>.s (pt 6 1) (.cT (by kernel_rfl) (.s [bx (aa ab),bx [(iA bm)],(na h p q u),bx [(iA ao)],bx (aa ad),aA.rng dv.ready,bx ([(bA d)]++ae bs++[(iA 0),(iA 0)])] (.s (ag ([(bA d)]++ae bs++[(iA 0),(iA 0)])) (.dY rfl (.cl (yq.trans (qY.trans (CX C (ec C n 8) (ey C n 8) (n+8) _ _ _ _ _ _ _ _ _))) (.cT (by kernel_rfl) (.lp (nr rfl) (.sq (pt 7 0) (.s [bx (aa ab),bx [(iA bm)],(na h p q u),bx [(iA ao)],bx (aa ad),aA.rng dv.ready,bx ([(bA d)]++ae bs++[(iA 0),(iA 0)]),bx ([(bA d)]++ae bs++[(iA 0),(iA 0)])] (.lp (nr rfl) (.s (pt 7 0) (.s (bA d) (.bg (fun t (y:Bool)=>∃ hp hq hr hs ht:A,t=[(bA y),hp,hq,hr,hs,ht]) ?_ ?_))))))))))))))
    ·refine .dg (fun wu=>?_) (fun wu=>?_)
     ·exact .s (ag [(iA h),(im (p.map ae) false),(im (q.map ah) false),(im (u.map cB) false)]) (.s (pt 7 1) (.s (ag (ae bs)) (.bd (g:=fun (y:Bool)=>(bA y)) (by show C 50 [snap _ (ag [(iA h),(im (p.map ae) false),(im (q.map ah) false),(im (u.map cB) false)]),snap _ (ag (ae bs))]=_; simp only[cR,dS]; exact hd ((aj.mk h p q u)) bs) fun xt=>.s (bA (!xt)) (.lg ⟨_,_,_,_,_,rfl⟩))))
     exact .lg ⟨_,_,_,_,_,rfl⟩
    rintro _ y53 ⟨hp,hq,hr,hs,ht,rfl⟩
    refine .u4 (.uc (.uc (.bg (fun t (y:Bool)=>∃ hv hx hy ie ik js kc kk kn ko:A,t=[(bA y),hv,hx,hy,ie,ik,js,kc,kk,kn,ko]) ?_ ?_)))
    ·refine .dg (fun ys=>?_) (fun ys=>?_)
     ·exact .lg ⟨_,_,_,_,_,_,_,_,_,_,rfl⟩
     refine .s (pt 7 0) (.s (bA d) (.s (bA (!d)) (.bg (fun t (y:Bool)=>∃ kt la lb lx ly:A,t=[(bA y),kt,la,lb,lx,ly]) ?_ ?_)))
     ·refine .dg (fun zc=>?_) (fun zc=>?_)
      ·exact .s (ag [(iA h),(im (p.map ae) false),(im (q.map ah) false),(im (u.map cB) false)]) (.s (pt 7 4) (.s (ag [(iA 0),(iA 0)]) (.bd (g:=fun (y:Bool)=>(bA y)) (by show C 51 [snap _ (ag [(iA h),(im (p.map ae) false),(im (q.map ah) false),(im (u.map cB) false)]),snap _ (ag [(iA 0),(iA 0)])]=_; simp only[cR,dS]; exact hf ((aj.mk h p q u)) ((ar.mk 0 0))) fun zm=>.s (bA (!zm)) (.lg ⟨_,_,_,_,_,rfl⟩))))
      exact .lg ⟨_,_,_,_,_,rfl⟩
     rintro _ y62 ⟨kt,la,lb,lx,ly,rfl⟩
     exact .u4 (.uc (.uc (.lg ⟨_,_,_,_,_,_,_,_,_,_,rfl⟩)))
    rintro _ y68 ⟨hv,hx,hy,ie,ik,js,kc,kk,kn,ko,rfl⟩
    refine .u4 (.u4 (.uc (.uc (.uc (.aP (fun zn=>?_) (fun zn=>?_))))))
    ·exact .s [bx (aa ab),bx [(iA 530)],(na h p q u),bx [(iA ao)],bx (aa ad),aA.rng dv.busy,bx ([(bA d)]++ae bs++[(iA 0),(iA 0)]),bx ([(bA d)]++ae bs++[(iA 0),(iA 0)])] (.lp (mQ rfl) (.cr (.ok (.s (bA true) (.CP (.ex (x0 _ _ _ _ _ _ _ _ _ _ _ _ _ _ _ _ _ _ _ _ _ _ _ _)))))))
    refine .s (ag [(iA h),(im (p.map ae) false),(im (q.map ah) false),(im (u.map cB) false)]) (.s (ag ([(bA d)]++ae bs++[(iA 0),(iA 0)])) (.bd (g:=fun (y:aj)=>(ag [(iA y.Self),(im (y.Leases.map ae) false),(im (y.Calls.map ah) false),(im (y.Order.map cB) false)])) (by show C 33 [snap _ (ag [(iA h),(im (p.map ae) false),(im (q.map ah) false),(im (u.map cB) false)]),snap _ (ag ([(bA d)]++ae bs++[(iA 0),(iA 0)]))]=_; simp only[cR,dS]; exact ha ((aj.mk h p q u)) ((al.mk d bs ((ar.mk 0 0))))) fun cv=>.sh (.s (iA ao) (.st (aD ..) (.s [bx (aa ab),bx [(iA bm)],bx (aa cv),bx [(iA (wr .i64 (ao+1)))],bx (aa ad),aA.rng dv.busy,bx ([(bA d)]++ae bs++[(iA 0),(iA 0)]),bx ([(bA d)]++ae bs++[(iA 0),(iA 0)])] (.lp (mQ rfl) (.cr (.ok (.s (bA false) (.BP (.st (aD ..) (.st (v:=[bx (aa ab),bx [(iA bm)],bx (aa cv),bx [(iA (wr .i64 (ao+1)))],bx (aa ad),aA.rng dv.ready]) ((by kernel_rfl:_=(bif ((((au 6 (ab.Leases.map ae))&&((au 6 (ab.Calls.map ah))&&((au 6 (ab.Order.map cB))&&true))))&&((((au 6 (cv.Leases.map ae))&&((au 6 (cv.Calls.map ah))&&((au 6 (cv.Order.map cB))&&true))))&&((((au 6 (ad.Leases.map ae))&&((au 6 (ad.Calls.map ah))&&((au 6 (ad.Order.map cB))&&true))))&&true))) then some [bx (aa ab),bx [(iA bm)],bx (aa cv),bx [(iA (wr .i64 (ao+1)))],bx (aa ad),aA.rng dv.ready] else none)).trans (by simp only[iC,iD])) (.cT ((by kernel_rfl:_=(bif au 6 (vt.map ae) then (bif au 6 (cm.map ah) then (bif au 6 (v30.map cB) then true else false) else false) else false)).trans (by simp only[iC,iD])) ?_)))))))))))))
    exact ih _ _ _ _ _ _ _ _
   refine .s (bA (!d)) (.bg (fun t (y:Bool)=>∃ mn mx nb:A,t=[(bA y),mn,mx,nb]) ?_ ?_)
   ·refine .dg (fun zz=>?_) (fun zz=>?_)
    ·exact .st (dQ (e:=62)) (.st (bQ ..) (.lg ⟨_,_,_,rfl⟩))
    exact .lg ⟨_,_,_,rfl⟩
   rintro _ y82 ⟨mn,mx,nb,rfl⟩
   refine .u4 (.aP (fun hk86=>?_) (fun hk86=>?_))
   ·refine .bd (fJ (e:=62) (es:=2)) fun an=>.s (ag [(iA an.Bar),(iA an.Program)]) (.bd (eS (e:=62) (es:=2) (f:=ah) (l:=cm) (a:=1) (b:=(cm.length:Int)) (by kernel_rfl) (by kernel_rfl) (fun _=>rfl) (.inr ⟨_,rfl⟩) (.inl ⟨rfl,rfl⟩)) fun y88=>.s (pt 6 4) (.cT (by kernel_rfl) (.s [bx (aa ab),bx [(iA bm)],(na h p q u),bx [(iA ao)],bx (aa ad),aA.rng dv.ready,(eh d an)] (.s (ag [(bA d),(iA 0),(iA 0),(iA 0),(iA an.Bar),(iA an.Program)]) (.dY rfl (.cl (yq.trans (qY.trans (CX C (ec C n 8) (ey C n 8) (n+8) _ _ _ _ _ _ _ _ _))) (.cT (by kernel_rfl) (.lp (nr rfl) (.sq (pt 7 0) (.s [bx (aa ab),bx [(iA bm)],(na h p q u),bx [(iA ao)],bx (aa ad),aA.rng dv.ready,(eh d an),(eh d an)] (.lp (nr rfl) (.s (pt 7 0) (.s (bA d) (.bg (fun t (y:Bool)=>∃ nf ni ns nt oa:A,t=[(bA y),nf,ni,ns,nt,oa]) ?_ ?_))))))))))))))
    ·refine .dg (fun hk89=>?_) (fun hk89=>?_)
     ·exact .s (ag [(iA h),(im (p.map ae) false),(im (q.map ah) false),(im (u.map cB) false)]) (.s (pt 7 1) (.s (ag [(iA 0),(iA 0),(iA 0)]) (.bd (g:=fun (y:Bool)=>(bA y)) (by show C 50 [snap _ (ag [(iA h),(im (p.map ae) false),(im (q.map ah) false),(im (u.map cB) false)]),snap _ (ag [(iA 0),(iA 0),(iA 0)])]=_; simp only[cR,dS]; exact hd ((aj.mk h p q u)) ((ak.mk 0 0 0))) fun y90=>.s (bA (!y90)) (.lg ⟨_,_,_,_,_,rfl⟩))))
     exact .lg ⟨_,_,_,_,_,rfl⟩
    rintro _ y91 ⟨nf,ni,ns,nt,oa,rfl⟩
    refine .u4 (.uc (.uc (.bg (fun t (y:Bool)=>∃ oc oi oj oo oq pc ps qi qv sa:A,t=[(bA y),oc,oi,oj,oo,oq,pc,ps,qi,qv,sa]) ?_ ?_)))
    ·refine .dg (fun hk97=>?_) (fun hk97=>?_)
     ·exact .lg ⟨_,_,_,_,_,_,_,_,_,_,rfl⟩
     refine .s (pt 7 0) (.s (bA d) (.s (bA (!d)) (.bg (fun t (y:Bool)=>∃ sb si sk so tb:A,t=[(bA y),sb,si,sk,so,tb]) ?_ ?_)))
     ·refine .dg (fun hk98=>?_) (fun hk98=>?_)
      ·exact .s (ag [(iA h),(im (p.map ae) false),(im (q.map ah) false),(im (u.map cB) false)]) (.s (pt 7 4) (.s (ag [(iA an.Bar),(iA an.Program)]) (.bd (g:=fun (y:Bool)=>(bA y)) (by show C 51 [snap _ (ag [(iA h),(im (p.map ae) false),(im (q.map ah) false),(im (u.map cB) false)]),snap _ (ag [(iA an.Bar),(iA an.Program)])]=_; simp only[cR,dS]; exact hf ((aj.mk h p q u)) an) fun y99=>.s (bA (!y99)) (.lg ⟨_,_,_,_,_,rfl⟩))))
      exact .lg ⟨_,_,_,_,_,rfl⟩
     rintro _ y100 ⟨sb,si,sk,so,tb,rfl⟩
     exact .u4 (.uc (.uc (.lg ⟨_,_,_,_,_,_,_,_,_,_,rfl⟩)))
    rintro _ y106 ⟨oc,oi,oj,oo,oq,pc,ps,qi,qv,sa,rfl⟩
    refine .u4 (.u4 (.uc (.uc (.uc (.aP (fun hk117=>?_) (fun hk117=>?_))))))
    ·exact .s [bx (aa ab),bx [(iA 530)],(na h p q u),bx [(iA ao)],bx (aa ad),aA.rng dv.busy,(eh d an),(eh d an)] (.lp (mQ rfl) (.cr (.ok (.s (bA true) (.CP (.ex (x0 _ _ _ _ _ _ _ _ _ _ _ _ _ _ _ _ _ _ _ _ _ _ _ _)))))))
    refine .s (ag [(iA h),(im (p.map ae) false),(im (q.map ah) false),(im (u.map cB) false)]) (.s (ag [(bA d),(iA 0),(iA 0),(iA 0),(iA an.Bar),(iA an.Program)]) (.bd (g:=fun (y:aj)=>(ag [(iA y.Self),(im (y.Leases.map ae) false),(im (y.Calls.map ah) false),(im (y.Order.map cB) false)])) (by show C 33 [snap _ (ag [(iA h),(im (p.map ae) false),(im (q.map ah) false),(im (u.map cB) false)]),snap _ (ag [(bA d),(iA 0),(iA 0),(iA 0),(iA an.Bar),(iA an.Program)])]=_; simp only[cR,dS]; exact ha ((aj.mk h p q u)) ((al.mk d ((ak.mk 0 0 0)) an))) fun cy=>.sh (.s (iA ao) (.st (aD ..) (.s [bx (aa ab),bx [(iA bm)],bx (aa cy),bx [(iA (wr .i64 (ao+1)))],bx (aa ad),aA.rng dv.busy,(eh d an),(eh d an)] (.lp (mQ rfl) (.cr (.ok (.s (bA false) (.BP (.st (aD ..) (.st (v:=[bx (aa ab),bx [(iA bm)],bx (aa cy),bx [(iA (wr .i64 (ao+1)))],bx (aa ad),aA.rng dv.ready]) ((by kernel_rfl:_=(bif ((((au 6 (ab.Leases.map ae))&&((au 6 (ab.Calls.map ah))&&((au 6 (ab.Order.map cB))&&true))))&&((((au 6 (cy.Leases.map ae))&&((au 6 (cy.Calls.map ah))&&((au 6 (cy.Order.map cB))&&true))))&&((((au 6 (ad.Leases.map ae))&&((au 6 (ad.Calls.map ah))&&((au 6 (ad.Order.map cB))&&true))))&&true))) then some [bx (aa ab),bx [(iA bm)],bx (aa cy),bx [(iA (wr .i64 (ao+1)))],bx (aa ad),aA.rng dv.ready] else none)).trans (by simp only[iC,iD])) (.cT ((by kernel_rfl:_=(bif au 6 (ck.map ae) then (bif au 6 (y88.map ah) then (bif au 6 (v30.map cB) then true else false) else false) else false)).trans (by simp only[iC,iD])) ?_)))))))))))))
    exact ih _ _ _ _ _ _ _ _
   exact .ex (x1 _ _ _ _ _ _ _ _ _ _ _ _ _ _ _ _ _)
  exact .ex (x2 _ _ _ _ _ _ _ _ _ _ _)
def Lf (n:Nat) (d:aj):Option Int :=
 (BO d.Self 0 1).bind fun h=>(bif (!h) then (some true) else (some (((d.Order.length:Int))==0))).bind fun p=>(bif p then (some true) else (some (((d.Order.length:Int)) != (wr .i64 (((d.Leases.length:Int))+((d.Calls.length:Int))))))).bind fun q=>(bif q then (some true) else (some (decide (256<((d.Leases.length:Int)))))).bind fun u=>bif u then (some 530) else ((gh n d.Order ((d.Order.length:Int)) d 0 d (n+7) d.Leases d.Calls 0 d.Self ([]) ([]) ([]) 0).bind fun y=>match y with | (Sum.inl ((ab,cb,cc,ch,ck,cm,cv,cy,dd,ds,ea,eg,ei,ej,fs,fv,gf,ha)))=>some ab | (Sum.inr ((Sum.inl ((hd,hf,hg,hh,ad,hi,hj,hk,ho,hp,hq)))))=>(bif (ad != ((d.Order.length:Int))) then (some true) else ((bw d.Order 0).bind fun an=>some (!an))).bind fun ao=>bif ao then (some 530) else (some 0) | (Sum.inr ((Sum.inr ((hr,hs,ht,hv,bm)))))=>(bif (bm != ((d.Order.length:Int))) then (some true) else ((bw d.Order 0).bind fun bs=>some (!bs))).bind fun ca=>bif ca then (some 530) else (some 0))
theorem Qr (C:OT) (n:Nat) (kc:tC C) (q:tD C) (kk:B9 C) (kn:zO C) (d:aj):J (fun (o:R) y=>∃ v,o.1=.ret v/\aE o.2 v=(iA y)) (av (cx C) (ec C n 8) (ey C n 8) (n+8) 20 [(ag (aa d))] [] 0) some (Lf n d) some:=by
 refine .lp (Q8 ..) ?_
 unfold Lf
 refine .s ((pt 0 0),[bx (aa d)]) (.s ((pt 1 0),[bx (aa d),bx [(iA 0)]]) (.s (pt 0 0) (.s (iA d.Self) (.bd (q d.Self 0 1) fun y1=>.s (bA (!y1)) (.bg (fun t (y:Bool)=>∃ u j5 j6 j7:A,t=[(bA y),u,j5,j6,j7]) ?_ ?_)))))
 ·refine .dg (fun kt=>?_) (fun kt=>?_)
  ·exact .lg ⟨_,_,_,_,rfl⟩
  exact .s (pt 0 3) (.s (im (d.Order.map cB) false) (.st (dQ (e:=4)) (.st (aN ..) (.lg ⟨_,_,_,_,rfl⟩))))
 rintro _ y3 ⟨u,j5,j6,j7,rfl⟩
 refine .u4 (.uc (.bg (fun t (y:Bool)=>∃ ao bm bs ca cb cc ch ck cm cv cy:A,t=[(bA y),ao,bm,bs,ca,cb,cc,ch,ck,cm,cv,cy]) ?_ ?_))
 ·refine .dg (fun la=>?_) (fun la=>?_)
  ·exact .lg ⟨_,_,_,_,_,_,_,_,_,_,_,rfl⟩
  exact .s (pt 0 3) (.s (im (d.Order.map cB) false) (.st (dQ (e:=4)) (.s (pt 0 1) (.s (im (d.Leases.map ae) false) (.st (dQ (e:=59)) (.s (pt 0 2) (.s (im (d.Calls.map ah) false) (.st (dQ (e:=62)) (.st (aD ..) (.st (ba ..) (.lg ⟨_,_,_,_,_,_,_,_,_,_,_,rfl⟩)))))))))))
 rintro _ y9 ⟨ao,bm,bs,ca,cb,cc,ch,ck,cm,cv,cy,rfl⟩
 refine .u4 (.u4 (.u4 (.bg (fun t (y:Bool)=>∃ dd ds ea eg:A,t=[(bA y),dd,ds,ea,eg]) ?_ ?_)))
 ·refine .dg (fun lb=>?_) (fun lb=>?_)
  ·exact .lg ⟨_,_,_,_,rfl⟩
  exact .s (pt 0 1) (.s (im (d.Leases.map ae) false) (.st (dQ (e:=59)) (.st (bQ ..) (.lg ⟨_,_,_,_,rfl⟩))))
 rintro _ nt ⟨dd,ds,ea,eg,rfl⟩
 refine .u4 (.uc (.aP (fun lx=>?_) (fun lx=>?_)))
 ·exact .s [bx (aa d),bx [(iA 530)]] (.s (iA 530) (.lv rfl))
 refine .s (pt 0 0) (.s (iA d.Self) (.s (ag [(iA d.Self),(im [] true),(im [] true),(im [] true)]) (.sq (pt 2 0) (.sq (pt 3 0) (.sh (.sh (.s (ag (aa d)) (.cl ((aK GB).trans (PD C (ec C n 7) (ey C n 7) (n+7) _ _ _)) (.s ((pt 4 0),[bx (aa d),bx [(iA 0)],bx [(iA d.Self),(im [] true),(im [] true),(im [] true)],bx [(iA 0)],bx (aa d)]) (.cr (.ok (.s (55,[(pt 4 0)]) (.cT (by kernel_rfl) (.cl ((oy GF).trans (PG C (aI (cx C) (n+7) (sZ 124 (br (cx C) (n+8)) 5 (nw (cx C) (ec C n 8) (ey C n 8) (n+8) 20 0 0 5 [(2,(pt 1 0)),(3,(pt 2 0)),(4,(pt 3 0))]))) (aI (cx C) (n+7)) (n+7) _ _ _ _)) (.s (pt 4 1) (.s (im (d.Leases.map ae) false) (.s (pt 4 2) (.s (im (d.Calls.map ah) false) (.s (pt 4 3) (.s (im (d.Order.map cB) false) (.st (dQ (e:=4)) (.as (Cr C n _ _ _ _ kc q kk kn d.Order ((d.Order.length:Int)) d 0 d ?_ ?_ ?_ _ d.Leases d.Calls 0 d.Self ([]) ([]) ([]) 0)))))))))))))))))))))))
 ·intro ly oa oc oi oj oo oq pc ps qi qv sa sb si sk so tb tk tm ts tw vr vt wu
  exact .un rfl (.cr (.ok (.lp (O4 rfl) (.s (iA ly) (.lv rfl)))))
 ·intro ei ej fs fv h gf ha hd hf hg hh xt ys zc zm zn zz
  refine .un rfl (.cr (.ok (.lp (FM rfl) (.s (iA h) (.s (pt 0 3) (.s (im (d.Order.map cB) false) (.st (dQ (e:=4)) (.st (ba ..) (.bg (fun t (y:Bool)=>∃ hi hj hk ho hp:A,t=[(bA y),hi,hj,hk,ho,hp]) ?_ ?_)))))))))
  ·refine .dg (fun mn=>?_) (fun mn=>?_)
   ·exact .lg ⟨_,_,_,_,_,rfl⟩
   exact .s (pt 0 3) (.s (im (d.Order.map cB) false) (.bd (fJ (e:=4) (es:=1)) fun hq=>.s (bA hq) (.s (bA (!hq)) (.lg ⟨_,_,_,_,_,rfl⟩))))
  rintro _ y163 ⟨hi,hj,hk,ho,hp,rfl⟩
  refine .u4 (.uc (.uc (.aP (fun mx=>?_) (fun mx=>?_))))
  ·exact .s [bx (aa d),bx [(iA 530)],bx [(iA ei),(im (ej.map ae) false),(im (fs.map ah) false),(im (fv.map cB) false)],bx [(iA h)],bx (aa d),aA.dead,bx [(bA gf),(iA ha),(iA hd),(iA hf),(iA hg),(iA hh)]] (.s (iA 530) (.lv rfl))
  exact .s [bx (aa d),bx [(iA 0)],bx [(iA ei),(im (ej.map ae) false),(im (fs.map ah) false),(im (fv.map cB) false)],bx [(iA h)],bx (aa d),aA.dead,bx [(bA gf),(iA ha),(iA hd),(iA hf),(iA hg),(iA hh)]] (.s (iA 0) (.lv rfl))
 ·intro hr hs ht hv p j175 j176 j177 j178 j179 j180
  refine .un rfl (.cT (by kernel_rfl) (.cr (.ok (.lp (FM rfl) (.s (iA p) (.s (pt 0 3) (.s (im (d.Order.map cB) false) (.st (dQ (e:=4)) (.st (ba ..) (.bg (fun t (y:Bool)=>∃ hx hy ie ih ik:A,t=[(bA y),hx,hy,ie,ih,ik]) ?_ ?_))))))))))
  ·refine .dg (fun nb=>?_) (fun nb=>?_)
   ·exact .lg ⟨_,_,_,_,_,rfl⟩
   exact .s (pt 0 3) (.s (im (d.Order.map cB) false) (.bd (fJ (e:=4) (es:=1)) fun js=>.s (bA js) (.s (bA (!js)) (.lg ⟨_,_,_,_,_,rfl⟩))))
  rintro _ y183 ⟨hx,hy,ie,ih,ik,rfl⟩
  refine .u4 (.uc (.uc (.aP (fun nf=>?_) (fun nf=>?_))))
  ·exact .s [bx (aa d),bx [(iA 530)],bx [(iA hr),(im (hs.map ae) false),(im (ht.map ah) false),(im (hv.map cB) false)],bx [(iA p)],bx (aa d),aA.dead] (.s (iA 530) (.lv rfl))
  exact .s [bx (aa d),bx [(iA 0)],bx [(iA hr),(im (hs.map ae) false),(im (ht.map ah) false),(im (hv.map cB) false)],bx [(iA p)],bx (aa d),aA.dead] (.s (iA 0) (.lv rfl))
def Eu (d:aj):Option Int:=Lf aC d
def q8 (C:OT):Prop:=∀ (d:aj),C 20 [(ag (aa d))]=(Eu d).map fun y=>(iA y)
def MG (n:Nat) (p:aj) (q:Int) (u:Int):Option (aj×Int) :=
 (Eu p).bind fun y1=>(bif (y1==0) then ((G2 p ((ar.mk q u))).bind fun y3=>some y3) else (some false)).bind fun y4=>bif (!y4) then ((some ((0,530))).bind fun y=>some (((aj.mk y.1 ([]) ([]) ([])),y.2))) else ((BX p ((al.mk false ((ak.mk 0 0 0)) ((ar.mk q u))))).bind fun h=>(some ((h.Self,h.Leases,h.Calls,h.Order,0))).bind fun d=>some (((aj.mk d.1 d.2.1 d.2.2.1 d.2.2.2.1),d.2.2.2.2)))
theorem Qt (C:OT) (n:Nat) (bm:q8 C) (bs:tC C) (ca:zO C) (h:aj) (p:Int) (q:Int):J (fun (o:R) y=>∃ v,o.1=.ret v/\aE o.2 v=(tp [(ag [(iA y.1.Self),(im (y.1.Leases.map ae) false),(im (y.1.Calls.map ah) false),(im (y.1.Order.map cB) false)]),(iA y.2)])) (av (cx C) (ec C n 8) (ey C n 8) (n+8) 24 [(ag (aa h)),(iA p),(iA q)] [] 0) some (MG n h p q) some:=by
 refine .lp (Ra ..) ?_
 unfold MG
 refine .s ((pt 0 0),[bx (aa h)]) (.sq (pt 1 0) (.sq (pt 2 0) (.s (ag [(iA p),(iA q)]) (.sq (pt 3 0) (.s [bx (aa h),bx [(iA 0),(im [] true),(im [] true),(im [] true)],bx [(iA 0)],bx [(iA p),(iA q)]] (.s (ag (aa h)) (.bd (g:=fun (y:Int)=>(iA y)) (by show C 20 [snap _ (ag (aa h))]=_; simp only[cR,dS]; exact bm h) fun y1=>.st (aN ..) (.bg (fun t (y:Bool)=>∃ j5 j6 j7:A,t=[(bA y),j5,j6,j7]) ?_ ?_))))))))
 ·refine .dg (fun cb=>?_) (fun cb=>?_)
  ·exact .s (ag (aa h)) (.s (ag [(iA p),(iA q)]) (.bd (g:=fun (y:Bool)=>(bA y)) (by show C 51 [snap _ (ag (aa h)),snap _ (ag [(iA p),(iA q)])]=_; simp only[cR,dS]; exact ca h ((ar.mk p q))) fun y3=>.lg ⟨_,_,_,rfl⟩))
  exact .lg ⟨_,_,_,rfl⟩
 rintro _ y4 ⟨j5,j6,j7,rfl⟩
 refine .u4 (.cl ((aK Kb).trans (Rj C (ec C n 7) (ey C n 7) (n+7) _ _ _ _)) (.s (bA (!y4)) (.aP (fun ch=>?_) (fun ch=>?_))))
 ·refine .s (A.ifc 31 (iA 530)) (.pk (.cr (.pU (.s (ag [(iA 0),(im [] true),(im [] true),(im [] true)]) (.bg (fun t (y:Int×Int) =>  t=(tp [(ag [(iA y.1),(im [] true),(im [] true),(im [] true)]),(iA y.2)])) ?_ ?_)))))
  ·exact .cl ((aK GD).trans (PF C (ec C n 7) (ey C n 7) (n+7) _ _ _ _)) (.sq (pt 4 0) (.sq (pt 5 0) (.cl ((aK GC).trans (PE C (br (cx C) (n+6)) (aI (cx C) (n+6)) (n+6) _ _ _)) (.s (bA false) (.BP (.s (tp [(iA 530),(bA true)]) (.s (bA true) (.s (iA 530) (.CP (.cr (.ok (.s (bA true) (.CP (.s (ag [(iA 0),(im [] true),(im [] true),(im [] true)]) (.s [bx (aa h),bx [(iA 0),(im [] true),(im [] true),(im [] true)],bx [(iA 0)],bx [(iA p),(iA q)],bx [(iA 0),(im [] true),(im [] true),(im [] true)],bx [(iA 0),(im [] true),(im [] true),(im [] true)]] (.s (ag [(iA 0),(im [] true),(im [] true),(im [] true)]) (.cr (.lp (by kernel_rfl:_=some (tp [(ag [(iA 0),(im [] true),(im [] true),(im [] true)]),(iA 530)])) (.lg rfl)))))))))))))))))))
  rintro _ y9 rfl
  exact .s (ag [(iA y9.1),(im [] true),(im [] true),(im [] true)]) (.s (iA y9.2) (.sh (.s [bx (aa h),bx [(iA y9.1),(im [] true),(im [] true),(im [] true)],bx [(iA y9.2)],bx [(iA p),(iA q)]] (.s (ag [(iA y9.1),(im [] true),(im [] true),(im [] true)]) (.s (iA y9.2) (.lv (by show aE _ (tp [(ag [(iA y9.1),(im [] true),(im [] true),(im [] true)]),(iA y9.2)])=_; simp only[cR,jL,aE]; first | done | rfl)))))))
 refine .cr (.ok (.s (ag (aa h)) (.s (ag [(iA p),(iA q)]) (.s (ag [(bA false),(iA 0),(iA 0),(iA 0),(iA p),(iA q)]) (.bd (g:=fun (y:aj)=>(ag [(iA y.Self),(im (y.Leases.map ae) false),(im (y.Calls.map ah) false),(im (y.Order.map cB) false)])) (by show C 33 [snap _ (ag (aa h)),snap _ (ag [(bA false),(iA 0),(iA 0),(iA 0),(iA p),(iA q)])]=_; simp only[cR,dS]; exact bs h ((al.mk false ((ak.mk 0 0 0)) ((ar.mk p q))))) fun u=>.sh (.s [bx (aa h),bx (aa u),bx [(iA 0)],bx [(iA p),(iA q)]] (.s (ag (aa u)) (.bg (fun t (y:Int×(List ak)×(List ar)×(List Bool)×Int) =>  t=(tp [(ag [(iA y.1),(im (y.2.1.map ae) false),(im (y.2.2.1.map ah) false),(im (y.2.2.2.1.map cB) false)]),(iA y.2.2.2.2)])) ?_ ?_))))))))
 ·exact .cl ((aK GD).trans (PF C (ec C n 7) (ey C n 7) (n+7) _ _ _ _)) (.sq (pt 4 0) (.sq (pt 5 0) (.cl ((aK GC).trans (PE C (br (cx C) (n+6)) (aI (cx C) (n+6)) (n+6) _ _ _)) (.s (bA true) (.CP (.cr (.ok (.s (bA false) (.BP (.s (ag (aa u)) (.s [bx (aa h),bx (aa u),bx [(iA 0)],bx [(iA p),(iA q)],bx (aa u),bx (aa u)] (.s (ag (aa u)) (.cr (.lp ((by kernel_rfl:_=(bif ((((au 4 (u.Leases.map ae))&&((au 4 (u.Calls.map ah))&&((au 4 (u.Order.map cB))&&true))))&&true) then some (tp [(ag (aa u)),(iA 0)]) else none)).trans (show _=some (tp [(ag (aa u)),(iA 0)]) from (by simp only[iC,iD]))) (.lg rfl)))))))))))))))
 rintro _ d rfl
 exact .s (ag [(iA d.1),(im (d.2.1.map ae) false),(im (d.2.2.1.map ah) false),(im (d.2.2.2.1.map cB) false)]) (.s (iA d.2.2.2.2) (.sh (.s [bx (aa h),bx [(iA d.1),(im (d.2.1.map ae) false),(im (d.2.2.1.map ah) false),(im (d.2.2.2.1.map cB) false)],bx [(iA d.2.2.2.2)],bx [(iA p),(iA q)]] (.s (ag [(iA d.1),(im (d.2.1.map ae) false),(im (d.2.2.1.map ah) false),(im (d.2.2.2.1.map cB) false)]) (.s (iA d.2.2.2.2) (.lv (by show aE _ (tp [(ag [(iA d.1),(im (d.2.1.map ae) false),(im (d.2.2.1.map ah) false),(im (d.2.2.2.1.map cB) false)]),(iA d.2.2.2.2)])=_; simp only[cR,jL,aE]; first | done | rfl)))))))
def ML (d:aj) (h:Int) (p:Int):Option (aj×Int):=MG aC d h p
def FW (C:OT):Prop:=∀ (d:aj) (h:Int) (p:Int),C 24 [(ag (aa d)),(iA h),(iA p)]=(ML d h p).map fun y=>(tp [(ag [(iA y.1.Self),(im (y.1.Leases.map ae) false),(im (y.1.Calls.map ah) false),(im (y.1.Order.map cB) false)]),(iA y.2)])
def Et (n:Nat) (d:Int):Option Int :=
 some (qN .i64 (wr .i64 (lA .u64 d 1)) (wr .i64 (0 - (wr .i64 (kB .u64 d 1)))))
theorem MP (C:OT) (n:Nat) (d:Int):J (fun (o:R) y=>∃ v,o.1=.ret v/\aE o.2 v=(iA y)) (av (cx C) (ec C n 8) (ey C n 8) (n+8) 102 [(A.v (.int .u64 d))] [] 0) some (Et n d) some:=by
 refine .lp (M4 ..) ?_
 unfold Et
 exact .st (gn (hb:=by decide) ..) (.st (v:=(iA (wr .i64 (lA .u64 d 1)))) (az (hs:=by kernel_rfl) (hd:=by kernel_rfl) ..) (.st (gV ..) (.st (v:=(iA (wr .i64 (kB .u64 d 1)))) (az (hs:=by kernel_rfl) (hd:=by kernel_rfl) ..) (.s (iA (wr .i64 (0 - (wr .i64 (kB .u64 d 1))))) (.st (n0 ..) (.lv rfl))))))
def BW (d:Int):Option Int:=Et aC d
def mN (C:OT):Prop:=∀ (d:Int),C 102 [(A.v (.int .u64 d))]=(BW d).map fun y=>(iA y)
def bO:aA:=bx [(iA 0),(iA 0),se,(im [] true)]
def gX (d:UInt8):aA:=bx [(iA (wr .i64 ((d.toNat:Int)))),(iA 0),se,(im [] true)]
def A1 (C:OT) (N:Nat) (self:(List UInt8)->Int->Option (Bool×ai×(List UInt8))):Prop:=∀ (d:(List UInt8)) (h:Int) (X:ay),J (fun (o:R) (y:(Bool×ai×(List UInt8)))=>o=((bif y.1 then Out.ret (ag [(iA y.2.1.Kind),(iA y.2.1.N),(sA y.2.1.S),(im (y.2.1.L.map af) false)]) else Out.pan (A.ifc 31 (iA 10))),[bO,bx [(iA 0)],bx [(im (y.2.2.map c8) false)]]++X)) (br (cx C) N 82 [(pt 2 0),(iA h)] ([bO,bx [(iA 0)],bx [(im (d.map c8) false)]]++X) 0) some (self d h) some
def jo (self:(List UInt8)->Int->Option (Bool×ai×(List UInt8))) (n:Nat) (u:Int) (v10:Int) (v11:ByteArray):Nat->Int->Int->(List UInt8)->Option (((List UInt8))⊕(Int×(List UInt8)))
 | 0,_,_,_=>none
 | m+1,v6,d,h=>bif (!(decide (1<=((h.length:Int))))) then (some ((Sum.inl h))) else ((er h 0 1).bind fun y=>(er h 1 ((h.length:Int))).bind fun q=>(bw y 0).bind fun p=>(bif (d==0) then (some true) else (some (((p.toNat:Int)) != 0))).bind fun ab=>(bif ab then ((bif (decide (d<9)) then (some true) else (some (decide (((p.toNat:Int))<=1)))).bind fun ad=>some ad) else (some false)).bind fun an=>bif (!an) then (some ((Sum.inl q))) else (bif decide (0<=(wr .i64 (7*d))) then (bif (decide (((p.toNat:Int))<128)) then (some ((Sum.inr ((gy .u64 v6 (gQ .u64 (wr .u64 (kB .u8 ((p.toNat:Int)) 127)) (wr .i64 (7*d))),q))))) else (jo self n u v10 v11 m (gy .u64 v6 (gQ .u64 (wr .u64 (kB .u8 ((p.toNat:Int)) 127)) (wr .i64 (7*d)))) (wr .i64 (d+1)) q)) else none))
theorem yb (ha:mN C) (self:(List UInt8)->Int->Option (Bool×ai×(List UInt8))) (hS:A1 C (n+8) self) (h:Int) (v10:Int) (v11:ByteArray) {K:(((List UInt8))⊕(Int×(List UInt8)))->Option γ} (x0:∀ (p:(List UInt8)) (q:A) (s2:A) (u:A),J φ (kp (A.ifc 31 (iA 10)) (St.mk [(0,q),(2,s2),(3,u)] [bO,bx [(iA 0)],bx [(im (p.map c8) false)],bx [(iA h),(iA v10),(sA v11),(im [] true)]])) kL (K (Sum.inl p)) some) (x1:∀ (p:Int) (o1:(List UInt8)) (q:A) (u:A),J φ (kr (St.mk [(0,q),(2,(A.v (.int .u64 p))),(3,u)] [bO,bx [(iA 0)],bx [(im (o1.map c8) false)],bx [(iA h),(iA v10),(sA v11),(im [] true)]])) kL (K (Sum.inr ((p,o1)))) some) :
  ∀ (m:Nat) (v6:Int) (v7:Int) (d:(List UInt8)),J φ (aH (cx C) (ec C n 7) (ey C n 7) (n+7) 103 0 0 4 kx kg kr kp m (St.mk [(0,(pt 2 0)),(2,(A.v (.int .u64 v6))),(3,(iA v7))] [bO,bx [(iA 0)],bx [(im (d.map c8) false)],bx [(iA h),(iA v10),(sA v11),(im [] true)]])) kL (jo self n h v10 v11 m v6 v7 d) K:=by
 intro m
 induction m with
 | zero=>intros; exact .nn
 | succ m ih =>
  intro v6 v7 d
  refine .lp (yH ..) ?_
  unfold jo
  refine .cl ((aK su).trans (CW C (br (cx C) (n+6)) (aI (cx C) (n+6)) (n+6) _ _ _ _)) (.s (pt 2 0) (.s (pt 2 0) (.s (im (d.map c8) false) (.st (dQ (e:=5)) (.st (df ..) (.cl ((aK k9).trans (Bh C (br (cx C) (n+5)) (aI (cx C) (n+5)) (n+5) _ _ _ _)) (.s (bA (!(decide (1<=((d.length:Int)))))) (.aP (fun ea=>?_) (fun ea=>?_)))))))))
  ·exact .s (A.ifc 31 (iA 10)) (.pk (.cr (.pU (.cr (.pU (.ex (x0 _ _ _ _)))))))
  refine .cr (.ok (.s (pt 2 0) (.s (pt 2 0) (.s (im (d.map c8) false) (.bd (gr (e:=5) (es:=1) (f:=c8) (l:=d) (a:=0) (b:=1) (by kernel_rfl) (by kernel_rfl) (fun _=>rfl) (.inl ⟨rfl,rfl⟩)) fun hf=>.s (pt 2 0) (.s (pt 2 0) (.s (im (d.map c8) false) (.bd (eS (e:=5) (es:=1) (f:=c8) (l:=d) (a:=1) (b:=(d.length:Int)) (by kernel_rfl) (by kernel_rfl) (fun _=>rfl) (.inr ⟨_,rfl⟩) (.inl ⟨rfl,rfl⟩)) fun ao=>.s (pt 2 0) (.s (pt 2 0) (.s [bO,bx [(iA 0)],bx [(im (ao.map c8) false)],bx [(iA h),(iA v10),(sA v11),(im [] true)]] (.cr (.ok (.bd (fJ (e:=5) (es:=1)) fun bm=>.s (uA ((bm.toNat:Int))) (.st (aN ..) (.bg (fun t (y:Bool)=>∃ bs ca:A,t=[(bA y),bs,ca]) ?_ ?_)))))))))))))))
  ·refine .dg (fun eg=>?_) (fun eg=>?_)
   ·exact .lg ⟨_,_,rfl⟩
   exact .st (ba ..) (.lg ⟨_,_,rfl⟩)
  rintro _ hh ⟨bs,ca,rfl⟩
  refine .uc (.uc (.uc (.bg (fun t (y:Bool)=>∃ cb cc ch ck cm cv:A,t=[(bA y),cb,cc,ch,ck,cm,cv]) ?_ ?_)))
  ·refine .dg (fun ei=>?_) (fun ei=>?_)
   ·refine .st (aS ..) (.bg (fun t (y:Bool)=>∃ cy dd:A,t=[(bA y),cy,dd]) ?_ ?_)
    ·refine .dg (fun ej=>?_) (fun ej=>?_)
     ·exact .lg ⟨_,_,rfl⟩
     exact .st (df ..) (.lg ⟨_,_,rfl⟩)
    rintro _ hi ⟨cy,dd,rfl⟩
    exact .uc (.uc (.uc (.lg ⟨_,_,_,_,_,_,rfl⟩)))
   exact .lg ⟨_,_,_,_,_,_,rfl⟩
  rintro _ fs ⟨cb,cc,ch,ck,cm,cv,rfl⟩
  refine .u4 (.uc (.uc (.uc (.cl ((aK k9).trans (Bh C (br (cx C) (n+6)) (aI (cx C) (n+6)) (n+6) _ _ _ _)) (.s (bA (!fs)) (.aP (fun fv=>?_) (fun fv=>?_)))))))
  ·exact .s (A.ifc 31 (iA 10)) (.pk (.cr (.pU (.ex (x0 _ _ _ _)))))
  refine .cr (.ok (.st (gV ..) (.st (v:=(A.v (.int .u64 (wr .u64 (kB .u8 ((bm.toNat:Int)) 127))))) (az (hs:=by kernel_rfl) (hd:=by kernel_rfl) ..) (.st (fg ..) (.gd fun hg=>.st (fG (hb:=of_decide_eq_true hg) ..) (.st (dz ..) (.st (aS ..) (.aP (fun gf=>?_) (fun gf=>?_)))))))))
  ·exact .ex (x1 _ _ _ _)
  refine .st (aD ..) (.s [bO,bx [(iA 0)],bx [(im (ao.map c8) false)],bx [(iA h),(iA v10),(sA v11),(im [] true)]] (.cT (by kernel_rfl) ?_))
  exact ih _ _ _
def ib (self:(List UInt8)->Int->Option (Bool×ai×(List UInt8))) (n:Nat) (y:Int) (ab:Int) (ad:ByteArray):Nat->Int->Int->(List UInt8)->Option (((List UInt8))⊕(Int×(List UInt8)))
 | 0,_,_,_=>none
 | m+1,u,d,h=>bif (!(decide (1<=((h.length:Int))))) then (some ((Sum.inl h))) else ((er h 0 1).bind fun an=>(er h 1 ((h.length:Int))).bind fun q=>(bw an 0).bind fun p=>(bif (d==0) then (some true) else (some (((p.toNat:Int)) != 0))).bind fun ao=>(bif ao then ((bif (decide (d<9)) then (some true) else (some (decide (((p.toNat:Int))<=1)))).bind fun bm=>some bm) else (some false)).bind fun bs=>bif (!bs) then (some ((Sum.inl q))) else (bif decide (0<=(wr .i64 (7*d))) then (bif (decide (((p.toNat:Int))<128)) then (some ((Sum.inr ((gy .u64 u (gQ .u64 (wr .u64 (kB .u8 ((p.toNat:Int)) 127)) (wr .i64 (7*d))),q))))) else (ib self n y ab ad m (gy .u64 u (gQ .u64 (wr .u64 (kB .u8 ((p.toNat:Int)) 127)) (wr .i64 (7*d)))) (wr .i64 (d+1)) q)) else none))
theorem vX (hi:mN C) (self:(List UInt8)->Int->Option (Bool×ai×(List UInt8))) (hS:A1 C (n+8) self) (h:Int) (p:Int) (q:ByteArray) {K:(((List UInt8))⊕(Int×(List UInt8)))->Option γ} (x0:∀ (u:(List UInt8)) (s0:A) (s2:A) (s3:A),J φ (kp (A.ifc 31 (iA 10)) (St.mk [(0,s0),(2,s2),(3,s3)] [bO,bx [(iA 0)],bx [(im (u.map c8) false)],bx [(iA h),(iA p),(sA q),(im [] true)]])) kL (K (Sum.inl u)) some) (x1:∀ (u:Int) (o1:(List UInt8)) (s0:A) (s3:A),J φ (kr (St.mk [(0,s0),(2,(A.v (.int .u64 u))),(3,s3)] [bO,bx [(iA 0)],bx [(im (o1.map c8) false)],bx [(iA h),(iA p),(sA q),(im [] true)]])) kL (K (Sum.inr ((u,o1)))) some) :
  ∀ (m:Nat) (an:Int) (ao:Int) (d:(List UInt8)),J φ (aH (cx C) (br (cx C) (n+6)) (aI (cx C) (n+6)) (n+6) 103 0 0 4 kx kg kr kp m (St.mk [(0,(pt 2 0)),(2,(A.v (.int .u64 an))),(3,(iA ao))] [bO,bx [(iA 0)],bx [(im (d.map c8) false)],bx [(iA h),(iA p),(sA q),(im [] true)]])) kL (ib self n h p q m an ao d) K:=by
 intro m
 induction m with
 | zero=>intros; exact .nn
 | succ m ih =>
  intro an ao d
  refine .lp (yH ..) ?_
  unfold ib
  refine .cl ((aK su).trans (CW C (br (cx C) (n+5)) (aI (cx C) (n+5)) (n+5) _ _ _ _)) (.s (pt 2 0) (.s (pt 2 0) (.s (im (d.map c8) false) (.st (dQ (e:=5)) (.st (df ..) (.cl ((aK k9).trans (Bh C (br (cx C) (n+4)) (aI (cx C) (n+4)) (n+4) _ _ _ _)) (.s (bA (!(decide (1<=((d.length:Int)))))) (.aP (fun ej=>?_) (fun ej=>?_)))))))))
  ·exact .s (A.ifc 31 (iA 10)) (.pk (.cr (.pU (.cr (.pU (.ex (x0 _ _ _ _)))))))
  refine .cr (.ok (.s (pt 2 0) (.s (pt 2 0) (.s (im (d.map c8) false) (.bd (gr (e:=5) (es:=1) (f:=c8) (l:=d) (a:=0) (b:=1) (by kernel_rfl) (by kernel_rfl) (fun _=>rfl) (.inl ⟨rfl,rfl⟩)) fun hj=>.s (pt 2 0) (.s (pt 2 0) (.s (im (d.map c8) false) (.bd (eS (e:=5) (es:=1) (f:=c8) (l:=d) (a:=1) (b:=(d.length:Int)) (by kernel_rfl) (by kernel_rfl) (fun _=>rfl) (.inr ⟨_,rfl⟩) (.inl ⟨rfl,rfl⟩)) fun ca=>.s (pt 2 0) (.s (pt 2 0) (.s [bO,bx [(iA 0)],bx [(im (ca.map c8) false)],bx [(iA h),(iA p),(sA q),(im [] true)]] (.cr (.ok (.bd (fJ (e:=5) (es:=1)) fun cb=>.s (uA ((cb.toNat:Int))) (.st (aN ..) (.bg (fun t (y:Bool)=>∃ cc ch:A,t=[(bA y),cc,ch]) ?_ ?_)))))))))))))))
  ·refine .dg (fun fs=>?_) (fun fs=>?_)
   ·exact .lg ⟨_,_,rfl⟩
   exact .st (ba ..) (.lg ⟨_,_,rfl⟩)
  rintro _ hk ⟨cc,ch,rfl⟩
  refine .uc (.uc (.uc (.bg (fun t (y:Bool)=>∃ ck cm cv cy dd ds:A,t=[(bA y),ck,cm,cv,cy,dd,ds]) ?_ ?_)))
  ·refine .dg (fun fv=>?_) (fun fv=>?_)
   ·refine .st (aS ..) (.bg (fun t (y:Bool)=>∃ ea eg:A,t=[(bA y),ea,eg]) ?_ ?_)
    ·refine .dg (fun gf=>?_) (fun gf=>?_)
     ·exact .lg ⟨_,_,rfl⟩
     exact .st (df ..) (.lg ⟨_,_,rfl⟩)
    rintro _ ho ⟨ea,eg,rfl⟩
    exact .uc (.uc (.uc (.lg ⟨_,_,_,_,_,_,rfl⟩)))
   exact .lg ⟨_,_,_,_,_,_,rfl⟩
  rintro _ ha ⟨ck,cm,cv,cy,dd,ds,rfl⟩
  refine .u4 (.uc (.uc (.uc (.cl ((aK k9).trans (Bh C (br (cx C) (n+5)) (aI (cx C) (n+5)) (n+5) _ _ _ _)) (.s (bA (!ha)) (.aP (fun hf=>?_) (fun hf=>?_)))))))
  ·exact .s (A.ifc 31 (iA 10)) (.pk (.cr (.pU (.ex (x0 _ _ _ _)))))
  refine .cr (.ok (.st (gV ..) (.st (v:=(A.v (.int .u64 (wr .u64 (kB .u8 ((cb.toNat:Int)) 127))))) (az (hs:=by kernel_rfl) (hd:=by kernel_rfl) ..) (.st (fg ..) (.gd fun hg=>.st (fG (hb:=of_decide_eq_true hg) ..) (.st (dz ..) (.st (aS ..) (.aP (fun hh=>?_) (fun hh=>?_)))))))))
  ·exact .ex (x1 _ _ _ _)
  refine .st (aD ..) (.s [bO,bx [(iA 0)],bx [(im (ca.map c8) false)],bx [(iA h),(iA p),(sA q),(im [] true)]] (.cT (by kernel_rfl) ?_))
  exact ih _ _ _
def ic (self:(List UInt8)->Int->Option (Bool×ai×(List UInt8))) (n:Nat) (y:Int) (ab:Int) (ad:ByteArray):Nat->Int->Int->(List UInt8)->Option (((List UInt8))⊕(Int×(List UInt8)))
 | 0,_,_,_=>none
 | m+1,u,d,h=>bif (!(decide (1<=((h.length:Int))))) then (some ((Sum.inl h))) else ((er h 0 1).bind fun an=>(er h 1 ((h.length:Int))).bind fun q=>(bw an 0).bind fun p=>(bif (d==0) then (some true) else (some (((p.toNat:Int)) != 0))).bind fun ao=>(bif ao then ((bif (decide (d<9)) then (some true) else (some (decide (((p.toNat:Int))<=1)))).bind fun bm=>some bm) else (some false)).bind fun bs=>bif (!bs) then (some ((Sum.inl q))) else (bif decide (0<=(wr .i64 (7*d))) then (bif (decide (((p.toNat:Int))<128)) then (some ((Sum.inr ((gy .u64 u (gQ .u64 (wr .u64 (kB .u8 ((p.toNat:Int)) 127)) (wr .i64 (7*d))),q))))) else (ic self n y ab ad m (gy .u64 u (gQ .u64 (wr .u64 (kB .u8 ((p.toNat:Int)) 127)) (wr .i64 (7*d)))) (wr .i64 (d+1)) q)) else none))
theorem vY (hi:mN C) (self:(List UInt8)->Int->Option (Bool×ai×(List UInt8))) (hS:A1 C (n+8) self) (h:Int) (p:Int) (q:ByteArray) {K:(((List UInt8))⊕(Int×(List UInt8)))->Option γ} (x0:∀ (u:(List UInt8)) (s0:A) (s2:A) (s3:A),J φ (kp (A.ifc 31 (iA 10)) (St.mk [(0,s0),(2,s2),(3,s3)] [bO,bx [(iA 0)],bx [(im (u.map c8) false)],bx [(iA h),(iA p),(sA q),(im [] true)]])) kL (K (Sum.inl u)) some) (x1:∀ (u:Int) (o1:(List UInt8)) (s0:A) (s3:A),J φ (kr (St.mk [(0,s0),(2,(A.v (.int .u64 u))),(3,s3)] [bO,bx [(iA 0)],bx [(im (o1.map c8) false)],bx [(iA h),(iA p),(sA q),(im [] true)]])) kL (K (Sum.inr ((u,o1)))) some) :
  ∀ (m:Nat) (an:Int) (ao:Int) (d:(List UInt8)),J φ (aH (cx C) (br (cx C) (n+6)) (aI (cx C) (n+6)) (n+6) 103 0 0 4 kx kg kr kp m (St.mk [(0,(pt 2 0)),(2,(A.v (.int .u64 an))),(3,(iA ao))] [bO,bx [(iA 0)],bx [(im (d.map c8) false)],bx [(iA h),(iA p),(sA q),(im [] true)]])) kL (ic self n h p q m an ao d) K:=by
 intro m
 induction m with
 | zero=>intros; exact .nn
 | succ m ih =>
  intro an ao d
  refine .lp (yH ..) ?_
  unfold ic
  refine .cl ((aK su).trans (CW C (br (cx C) (n+5)) (aI (cx C) (n+5)) (n+5) _ _ _ _)) (.s (pt 2 0) (.s (pt 2 0) (.s (im (d.map c8) false) (.st (dQ (e:=5)) (.st (df ..) (.cl ((aK k9).trans (Bh C (br (cx C) (n+4)) (aI (cx C) (n+4)) (n+4) _ _ _ _)) (.s (bA (!(decide (1<=((d.length:Int)))))) (.aP (fun ej=>?_) (fun ej=>?_)))))))))
  ·exact .s (A.ifc 31 (iA 10)) (.pk (.cr (.pU (.cr (.pU (.ex (x0 _ _ _ _)))))))
  refine .cr (.ok (.s (pt 2 0) (.s (pt 2 0) (.s (im (d.map c8) false) (.bd (gr (e:=5) (es:=1) (f:=c8) (l:=d) (a:=0) (b:=1) (by kernel_rfl) (by kernel_rfl) (fun _=>rfl) (.inl ⟨rfl,rfl⟩)) fun hj=>.s (pt 2 0) (.s (pt 2 0) (.s (im (d.map c8) false) (.bd (eS (e:=5) (es:=1) (f:=c8) (l:=d) (a:=1) (b:=(d.length:Int)) (by kernel_rfl) (by kernel_rfl) (fun _=>rfl) (.inr ⟨_,rfl⟩) (.inl ⟨rfl,rfl⟩)) fun ca=>.s (pt 2 0) (.s (pt 2 0) (.s [bO,bx [(iA 0)],bx [(im (ca.map c8) false)],bx [(iA h),(iA p),(sA q),(im [] true)]] (.cr (.ok (.bd (fJ (e:=5) (es:=1)) fun cb=>.s (uA ((cb.toNat:Int))) (.st (aN ..) (.bg (fun t (y:Bool)=>∃ cc ch:A,t=[(bA y),cc,ch]) ?_ ?_)))))))))))))))
  ·refine .dg (fun fs=>?_) (fun fs=>?_)
   ·exact .lg ⟨_,_,rfl⟩
   exact .st (ba ..) (.lg ⟨_,_,rfl⟩)
  rintro _ hk ⟨cc,ch,rfl⟩
  refine .uc (.uc (.uc (.bg (fun t (y:Bool)=>∃ ck cm cv cy dd ds:A,t=[(bA y),ck,cm,cv,cy,dd,ds]) ?_ ?_)))
  ·refine .dg (fun fv=>?_) (fun fv=>?_)
   ·refine .st (aS ..) (.bg (fun t (y:Bool)=>∃ ea eg:A,t=[(bA y),ea,eg]) ?_ ?_)
    ·refine .dg (fun gf=>?_) (fun gf=>?_)
     ·exact .lg ⟨_,_,rfl⟩
     exact .st (df ..) (.lg ⟨_,_,rfl⟩)
    rintro _ ho ⟨ea,eg,rfl⟩
    exact .uc (.uc (.uc (.lg ⟨_,_,_,_,_,_,rfl⟩)))
   exact .lg ⟨_,_,_,_,_,_,rfl⟩
  rintro _ ha ⟨ck,cm,cv,cy,dd,ds,rfl⟩
  refine .u4 (.uc (.uc (.uc (.cl ((aK k9).trans (Bh C (br (cx C) (n+5)) (aI (cx C) (n+5)) (n+5) _ _ _ _)) (.s (bA (!ha)) (.aP (fun hf=>?_) (fun hf=>?_)))))))
  ·exact .s (A.ifc 31 (iA 10)) (.pk (.cr (.pU (.ex (x0 _ _ _ _)))))
  refine .cr (.ok (.st (gV ..) (.st (v:=(A.v (.int .u64 (wr .u64 (kB .u8 ((cb.toNat:Int)) 127))))) (az (hs:=by kernel_rfl) (hd:=by kernel_rfl) ..) (.st (fg ..) (.gd fun hg=>.st (fG (hb:=of_decide_eq_true hg) ..) (.st (dz ..) (.st (aS ..) (.aP (fun hh=>?_) (fun hh=>?_)))))))))
  ·exact .ex (x1 _ _ _ _)
  refine .st (aD ..) (.s [bO,bx [(iA 0)],bx [(im (ca.map c8) false)],bx [(iA h),(iA p),(sA q),(im [] true)]] (.cT (by kernel_rfl) ?_))
  exact ih _ _ _
def fS (self:(List UInt8)->Int->Option (Bool×ai×(List UInt8))) (n:Nat) (p:Int) (q:Int) (ab:Int) (ad:Int) (an:ByteArray):Nat->Int->(List UInt8)->(List ai)->Option (((List UInt8)×(List ai))⊕((List UInt8)×(List ai)))
 | 0,_,_,_=>none
 | m+1,u,y,h=>bif (decide (u<q)) then ((self y (wr .i64 (p+1))).bind fun d=>bif d.1 then ((cQ 56 h ([d.2.1])).bind fun ao=>fS self n p q ab ad an m (wr .i64 (u+1)) d.2.2 ao) else (some ((Sum.inl ((d.2.2,h)))))) else (some ((Sum.inr ((y,h)))))
theorem A6 (dd:mN C) (self:(List UInt8)->Int->Option (Bool×ai×(List UInt8))) (hS:A1 C (n+8) self) (ao:Int) (cc:Int) (h:Int) (p:Int) (q:ByteArray) {K:(((List UInt8)×(List ai))⊕((List UInt8)×(List ai)))->Option γ} (x0:∀ (o0:(List UInt8)) (o1:(List ai)) (s0:A) (s1:A) (s4:A) (bs:A) (ca:A),J φ (kp (A.ifc 31 (iA 10)) (St.mk [(0,s0),(1,s1),(4,s4),(36,bs),(37,ca)] [bO,bx [(iA 0)],bx [(im (o0.map c8) false)],bx [(iA h),(iA p),(sA q),(aX 4 0 o1.length false)],aA.row false 4 (o1.map af)])) kL (K (Sum.inl ((o0,o1)))) some) (x1:∀ (o0:(List UInt8)) (o1:(List ai)) (s0:A) (s1:A) (bs:A) (ca:A),J φ (kx 1 (St.mk [(0,s0),(1,s1),(4,(pt 3 0)),(36,bs),(37,ca)] [bO,bx [(iA 0)],bx [(im (o0.map c8) false)],bx [(iA h),(iA p),(sA q),(aX 4 0 o1.length false)],aA.row false 4 (o1.map af)])) kL (K (Sum.inr ((o0,o1)))) some) :
  ∀ (m:Nat) (cb:Int) (an:(List UInt8)) (d:(List ai)),J φ (aH (cx C) (ec C n 8) (ey C n 8) (n+8) 82 0 0 5 kx kg kr kp m (St.mk [(0,(pt 2 0)),(1,(iA ao)),(4,(pt 3 0)),(36,(iA cc)),(37,(iA cb))] [bO,bx [(iA 0)],bx [(im (an.map c8) false)],bx [(iA h),(iA p),(sA q),(aX 4 0 d.length false)],aA.row false 4 (d.map af)])) kL (fS self n ao cc h p q m cb an d) K:=by
 intro m
 induction m with
 | zero=>intros; exact .nn
 | succ m ih =>
  intro cb an d
  refine .lp (JE ..) ?_
  unfold fS
  refine .st (aS ..) (.aP (fun cy=>?_) (fun cy=>?_))
  ·refine .s (pt 3 3) (.s (aX 4 0 d.length false) (.st (aD ..) (.cT (by kernel_rfl) (.bg (fun (t:Out×ay) (y:(Bool×ai×(List UInt8)))=>t=((bif y.1 then Out.ret (ag [(iA y.2.1.Kind),(iA y.2.1.N),(sA y.2.1.S),(im (y.2.1.L.map af) false)]) else Out.pan (A.ifc 31 (iA 10))),[bO,bx [(iA 0)],bx [(im (y.2.2.map c8) false)],bx [(iA h),(iA p),(sA q),(aX 4 0 d.length false)],aA.row false 4 (d.map af)])) (hS an (wr .i64 (ao+1)) [bx [(iA h),(iA p),(sA q),(aX 4 0 d.length false)],aA.row false 4 (d.map af)]) ?_))))
   rintro _ u rfl
   refine .ob ?_ ?_
   ·refine .ok (.s (im [[(iA u.2.1.Kind),(iA u.2.1.N),(sA u.2.1.S),(im (u.2.1.L.map af) false)]] true) (.bd (g:=fun (y:List ai)=>((aX 4 0 y.length false),[bO,bx [(iA 0)],bx [(im (u.2.2.map c8) false)],bx [(iA h),(iA p),(sA q),(aX 4 0 d.length false)],aA.row false 4 (y.map af)])) (bV iT (l:=d) (l2:=[u.2.1]) (b:=4) rfl (by decide) (iU (f:=af) (l:=([u.2.1]:List ai)) (by simp only[List.map_cons,List.map_nil,dU]))) fun ch=>.s (pt 3 3) (.sh (.st (aD ..) (.s [bO,bx [(iA 0)],bx [(im (u.2.2.map c8) false)],bx [(iA h),(iA p),(sA q),(aX 4 0 ch.length false)],aA.row false 4 (ch.map af)] (.cT (by kernel_rfl) ?_))))))
    exact ih _ _ _
   exact .pU (.ex (x0 _ _ _ _ _ _ _))
  exact .ex (x1 _ _ _ _ _ _)
def vR (self:(List UInt8)->Int->Option (Bool×ai×(List UInt8))) (n:Nat) (p:(List UInt8)) (a3:Int):Option (Bool×ai×(List UInt8)) :=
 bif (!(decide (1<=((p.length:Int))))) then (some ((false,(default:ai),p))) else ((er p 0 1).bind fun y2=>(er p 1 ((p.length:Int))).bind fun q=>(bw y2 0).bind fun d=>bif ((wr .i64 ((d.toNat:Int)))==1) then ((jo self n (wr .i64 ((d.toNat:Int))) 0 eH (n+7) 0 0 q).bind fun HG=>match HG with | (Sum.inl ao)=>some ((false,(default:ai),ao)) | (Sum.inr ((bm,bs)))=>(BW bm).bind fun ca=>some ((true,(ai.mk (wr .i64 ((d.toNat:Int))) ca eH ([])),bs))) else (bif ((wr .i64 ((d.toNat:Int)))==2) then ((ib self n (wr .i64 ((d.toNat:Int))) 0 eH (n+6) 0 0 q).bind fun cb=>match cb with | (Sum.inl cc)=>some ((false,(default:ai),cc)) | (Sum.inr ((u,h)))=>bif (!(decide (u<=(wr .u64 ((h.length:Int)))))) then (some ((false,(default:ai),h))) else (bif (!(decide ((wr .i64 (u))<=((h.length:Int))))) then (some ((false,(default:ai),h))) else ((er h 0 (wr .i64 (u))).bind fun ch=>(er h (wr .i64 (u)) ((h.length:Int))).bind fun ck=>some ((true,(ai.mk (wr .i64 ((d.toNat:Int))) 0 (cU ch) ([])),ck))))) else (bif ((wr .i64 ((d.toNat:Int)))==3) then (bif (!(decide (a3<16))) then (some ((false,(default:ai),q))) else ((ic self n (wr .i64 ((d.toNat:Int))) 0 eH (n+6) 0 0 q).bind fun cm=>match cm with | (Sum.inl cv)=>some ((false,(default:ai),cv)) | (Sum.inr ((ad,y)))=>bif (!(decide (ad<=(wr .u64 ((y.length:Int)))))) then (some ((false,(default:ai),y))) else ((fS self n a3 (wr .i64 (ad)) (wr .i64 ((d.toNat:Int))) 0 eH (n+8) 0 y (([]:List ai))).bind fun cy=>match cy with | (Sum.inl ((dd,eg)))=>some ((false,(default:ai),dd)) | (Sum.inr ((ds,ea)))=>some ((true,(ai.mk (wr .i64 ((d.toNat:Int))) 0 eH ea),ds))))) else (some ((false,(default:ai),q))))))
theorem MQ (C:OT) (n:Nat) (ad:mN C) (self:(List UInt8)->Int->Option (Bool×ai×(List UInt8))) (hS:A1 C (n+8) self) (h:(List UInt8)) (a3:Int):J (fun (o:R) (y:(Bool×ai×(List UInt8)))=>∃ Z,o=((bif y.1 then Out.ret (ag [(iA y.2.1.Kind),(iA y.2.1.N),(sA y.2.1.S),(im (y.2.1.L.map af) false)]) else Out.pan (A.ifc 31 (iA 10))),[bO,bx [(iA 0)],bx [(im (y.2.2.map c8) false)]]++Z)) (av (cx C) (ec C n 8) (ey C n 8) (n+8) 82 [(pt 2 0),(iA a3)] [bO,bx [(iA 0)],bx [(im (h.map c8) false)]] 0) some (vR self n h a3) some:=by
 refine .lp (RI ..) ?_
 unfold vR
 refine .s ((pt 3 0),[bO,bx [(iA 0)],bx [(im (h.map c8) false)],bO]) (.cl ((aK su).trans (CW C (ec C n 7) (ey C n 7) (n+7) _ _ _ _)) (.s (pt 2 0) (.s (pt 2 0) (.s (im (h.map c8) false) (.st (dQ (e:=5)) (.st (df ..) (.cl ((aK k9).trans (Bh C (br (cx C) (n+6)) (aI (cx C) (n+6)) (n+6) _ _ _ _)) (.s (bA (!(decide (1<=((h.length:Int)))))) (.aP (fun cv=>?_) (fun cv=>?_))))))))))
 ·exact .s (A.ifc 31 (iA 10)) (.pk (.cr (.pU (.cr (.pU (.lf rfl rfl ⟨[bO],rfl⟩))))))
 refine .cr (.ok (.s (pt 2 0) (.s (pt 2 0) (.s (im (h.map c8) false) (.bd (gr (e:=5) (es:=1) (f:=c8) (l:=h) (a:=0) (b:=1) (by kernel_rfl) (by kernel_rfl) (fun _=>rfl) (.inl ⟨rfl,rfl⟩)) fun y2=>.s (pt 2 0) (.s (pt 2 0) (.s (im (h.map c8) false) (.bd (eS (e:=5) (es:=1) (f:=c8) (l:=h) (a:=1) (b:=(h.length:Int)) (by kernel_rfl) (by kernel_rfl) (fun _=>rfl) (.inr ⟨_,rfl⟩) (.inl ⟨rfl,rfl⟩)) fun y3=>.s (pt 2 0) (.s (pt 2 0) (.s [bO,bx [(iA 0)],bx [(im (y3.map c8) false)],bO] (.cr (.ok (.bd (fJ (e:=5) (es:=1)) fun d=>.s (uA ((d.toNat:Int))) (.st (v:=(iA (wr .i64 ((d.toNat:Int))))) (az (hs:=by kernel_rfl) (hd:=by kernel_rfl) ..) (.s (pt 3 0) (.s [bO,bx [(iA 0)],bx [(im (y3.map c8) false)],(gX d)] (.s (pt 3 0) (.s (iA (wr .i64 ((d.toNat:Int)))) (.st (aN ..) (.aP (fun cy=>?_) (fun cy=>?_)))))))))))))))))))))
 ·refine .cl ((aK zg).trans (Hm C (ec C n 7) (ey C n 7) (n+7) _ _ _)) (.as (yb C n _ _ _ _ ad self hS (wr .i64 ((d.toNat:Int))) 0 eH ?_ ?_ _ 0 0 y3))
  ·intro gf ha hf hg
   exact .un rfl (.cr (.pU (.lf rfl rfl ⟨[(gX d)],rfl⟩)))
  ·intro dd ck hh hi
   exact .un rfl (.cr (.ok (.bd (ad dd) fun ao=>.s (pt 3 1) (.sh (.s (ag [(iA (wr .i64 ((d.toNat:Int)))),(iA ao),se,(im [] true)]) (.s [bO,bx [(iA 0)],bx [(im (ck.map c8) false)],bx [(iA (wr .i64 ((d.toNat:Int)))),(iA ao),se,(im [] true)]] (.s (ag [(iA (wr .i64 ((d.toNat:Int)))),(iA ao),se,(im [] false)]) (.lf rfl rfl (bH (o:=Out.ret (ag [(iA (wr .i64 ((d.toNat:Int)))),(iA ao),se,(im [] false)])) (lo:=0) (off:=3) (b:=3) (p:=0) (H2:=[bO,bx [(iA 0)],bx [(im (ck.map c8) false)]]) (X:=[bx [(iA (wr .i64 ((d.toNat:Int)))),(iA ao),se,(im [] true)]]) (Nat.le_of_ble_eq_true rfl))))))))))
 refine .st (aN ..) (.aP (fun ds=>?_) (fun ds=>?_))
 ·refine .cl ((aK DE).trans (Jk C (ec C n 7) (ey C n 7) (n+7) _ _ _)) (.cl ((aK zg).trans (Hm C (br (cx C) (n+6)) (aI (cx C) (n+6)) (n+6) _ _ _)) (.as (vX C n _ _ _ _ ad self hS (wr .i64 ((d.toNat:Int))) 0 eH ?_ ?_ _ 0 0 y3)))
  ·intro hj hk ho hp
   exact .un rfl (.cr (.pU (.cr (.pU (.lf rfl rfl ⟨[(gX d)],rfl⟩)))))
  ·intro bm q hq hr
   refine .un rfl (.cr (.ok (.s (pt 2 0) (.s (pt 2 0) (.s (im (q.map c8) false) (.st (dQ (e:=5)) (.st (v:=(A.v (.int .u64 (wr .u64 ((q.length:Int)))))) (az (hs:=by kernel_rfl) (hd:=by kernel_rfl) ..) (.st (df ..) (.cl ((aK k9).trans (Bh C (br (cx C) (n+6)) (aI (cx C) (n+6)) (n+6) _ _ _ _)) (.s (bA (!(decide (bm<=(wr .u64 ((q.length:Int))))))) (.aP (fun ea=>?_) (fun ea=>?_))))))))))))
   ·exact .s (A.ifc 31 (iA 10)) (.pk (.cr (.pU (.cr (.pU (.lf rfl rfl ⟨[(gX d)],rfl⟩))))))
   refine .cr (.ok (.st (v:=(iA (wr .i64 (bm)))) (az (hs:=by kernel_rfl) (hd:=by kernel_rfl) ..) (.cr (.ok (.cl ((aK su).trans (CW C (ec C n 7) (ey C n 7) (n+7) _ _ _ _)) (.s (pt 2 0) (.s (pt 2 0) (.s (im (q.map c8) false) (.st (dQ (e:=5)) (.st (df ..) (.cl ((aK k9).trans (Bh C (br (cx C) (n+6)) (aI (cx C) (n+6)) (n+6) _ _ _ _)) (.s (bA (!(decide ((wr .i64 (bm))<=((q.length:Int)))))) (.aP (fun eg=>?_) (fun eg=>?_))))))))))))))
   ·exact .s (A.ifc 31 (iA 10)) (.pk (.cr (.pU (.cr (.pU (.lf rfl rfl ⟨[(gX d)],rfl⟩))))))
   exact .cr (.ok (.s (pt 2 0) (.s (pt 2 0) (.s (im (q.map c8) false) (.bd (gr (e:=5) (es:=1) (f:=c8) (l:=q) (a:=0) (b:=wr .i64 (bm)) (by kernel_rfl) (by kernel_rfl) (fun _=>rfl) (.inl ⟨rfl,rfl⟩)) fun ab=>.s (pt 2 0) (.s (pt 2 0) (.s (im (q.map c8) false) (.bd (eS (e:=5) (es:=1) (f:=c8) (l:=q) (a:=wr .i64 (bm)) (b:=(q.length:Int)) (by kernel_rfl) (by kernel_rfl) (fun _=>rfl) (.inr ⟨_,rfl⟩) (.inl ⟨rfl,rfl⟩)) fun cb=>.s (pt 2 0) (.s (pt 2 0) (.s [bO,bx [(iA 0)],bx [(im (cb.map c8) false)],(gX d)] (.cr (.ok (.st (v:=(A.v (Value.string (cU ab)))) (gq (e:=5) (l:=ab) (by kernel_rfl) (by kernel_rfl) (by kernel_rfl) (by kernel_rfl) (aY ..) rfl) (.s (pt 3 2) (.sh (.s (ag [(iA (wr .i64 ((d.toNat:Int)))),(iA 0),(A.v (Value.string (cU ab))),(im [] true)]) (.s [bO,bx [(iA 0)],bx [(im (cb.map c8) false)],bx [(iA (wr .i64 ((d.toNat:Int)))),(iA 0),(A.v (Value.string (cU ab))),(im [] true)]] (.s (ag [(iA (wr .i64 ((d.toNat:Int)))),(iA 0),(A.v (Value.string (cU ab))),(im [] false)]) (.lf rfl rfl (bH (o:=Out.ret (ag [(iA (wr .i64 ((d.toNat:Int)))),(iA 0),(A.v (Value.string (cU ab))),(im [] false)])) (lo:=0) (off:=3) (b:=3) (p:=0) (H2:=[bO,bx [(iA 0)],bx [(im (cb.map c8) false)]]) (X:=[bx [(iA (wr .i64 ((d.toNat:Int)))),(iA 0),(A.v (Value.string (cU ab))),(im [] true)]]) (Nat.le_of_ble_eq_true rfl)))))))))))))))))))))
 refine .st (aN ..) (.aP (fun ei=>?_) (fun ei=>?_))
 ·refine .st (aS ..) (.cl ((aK k9).trans (Bh C (ec C n 7) (ey C n 7) (n+7) _ _ _ _)) (.s (bA (!(decide (a3<16)))) (.aP (fun ej=>?_) (fun ej=>?_))))
  ·exact .s (A.ifc 31 (iA 10)) (.pk (.cr (.pU (.lf rfl rfl ⟨[(gX d)],rfl⟩))))
  refine .cr (.ok (.cl ((aK DE).trans (Jk C (ec C n 7) (ey C n 7) (n+7) _ _ _)) (.cl ((aK zg).trans (Hm C (br (cx C) (n+6)) (aI (cx C) (n+6)) (n+6) _ _ _)) (.as (vY C n _ _ _ _ ad self hS (wr .i64 ((d.toNat:Int))) 0 eH ?_ ?_ _ 0 0 y3)))))
  ·intro ht hv hx hy
   exact .un rfl (.cr (.pU (.cr (.pU (.lf rfl rfl ⟨[(gX d)],rfl⟩)))))
  ·intro cc ca ie ih
   refine .un rfl (.cr (.ok (.s (pt 2 0) (.s (pt 2 0) (.s (im (ca.map c8) false) (.st (dQ (e:=5)) (.st (v:=(A.v (.int .u64 (wr .u64 ((ca.length:Int)))))) (az (hs:=by kernel_rfl) (hd:=by kernel_rfl) ..) (.st (df ..) (.cl ((aK k9).trans (Bh C (br (cx C) (n+6)) (aI (cx C) (n+6)) (n+6) _ _ _ _)) (.s (bA (!(decide (cc<=(wr .u64 ((ca.length:Int))))))) (.aP (fun fs=>?_) (fun fs=>?_))))))))))))
   ·exact .s (A.ifc 31 (iA 10)) (.pk (.cr (.pU (.cr (.pU (.lf rfl rfl ⟨[(gX d)],rfl⟩))))))
   refine .cr (.ok (.st (v:=(iA (wr .i64 (cc)))) (az (hs:=by kernel_rfl) (hd:=by kernel_rfl) ..) (.cr (.ok (.as (A6 C n _ _ _ _ ad self hS a3 (wr .i64 (cc)) (wr .i64 ((d.toNat:Int))) 0 eH ?_ ?_ _ 0 ca (([]:List ai))))))))
   ·intro ik cm js kc kk kn ko
    exact .un rfl (.lf rfl rfl ⟨[bx [(iA (wr .i64 ((d.toNat:Int)))),(iA 0),se,(aX 4 0 cm.length false)],aA.row false 4 (cm.map af)],rfl⟩)
   ·intro ch u kt la lb lx
    exact .un rfl (.cT (by kernel_rfl) (.s (ag [(iA (wr .i64 ((d.toNat:Int)))),(iA 0),se,(aX 4 0 u.length false)]) (.s [bO,bx [(iA 0)],bx [(im (ch.map c8) false)],bx [(iA (wr .i64 ((d.toNat:Int)))),(iA 0),se,(aX 4 0 u.length false)],aA.row false 4 (u.map af)] (.st (v:=(ag [(iA (wr .i64 ((d.toNat:Int)))),(iA 0),se,(im (u.map af) false)])) ((congrArg (fun z=>iJ prog 98 (pt 3 0) z) (jA (H:=[bO,bx [(iA 0)],bx [(im (ch.map c8) false)],bx [(iA (wr .i64 ((d.toNat:Int)))),(iA 0),se,(aX 4 0 u.length false)],aA.row false 4 (u.map af)]) (lo:=0) (off:=3) (b:=3) (o:=0) (b':=4) (es:=4) (l:=u) bM rfl rfl rfl (Nat.le_of_ble_eq_true rfl))).trans (by kernel_rfl)) (.lf rfl rfl (bH (o:=Out.ret (ag [(iA (wr .i64 ((d.toNat:Int)))),(iA 0),se,(im (u.map af) false)])) (lo:=0) (off:=3) (b:=3) (p:=0) (H2:=[bO,bx [(iA 0)],bx [(im (ch.map c8) false)]]) (X:=[bx [(iA (wr .i64 ((d.toNat:Int)))),(iA 0),se,(aX 4 0 u.length false)],aA.row false 4 (u.map af)]) (Nat.le_of_ble_eq_true rfl)))))))
 exact .cl ((aK k9).trans (Bh C (ec C n 7) (ey C n 7) (n+7) _ _ _ _)) (.s (bA true) (.CP (.s (A.ifc 31 (iA 10)) (.pk (.cr (.pU (.lf rfl rfl ⟨[(gX d)],rfl⟩)))))))
def yk:Nat->(List UInt8)->Int->Option (Bool×ai×(List UInt8))
 | 0=>fun _ _=>none
 | N+1=>fun a2 a3=>bif Nat.ble 8 N then vR (yk N) (N - 8) a2 a3 else none
theorem I3 (C:OT) (p:mN C):∀ N,A1 C N (yk N)
 | 0=>fun _ _ X r h=>by cases h
 | N+1=>fun d q X=>by
  show J _ _ _ (bif Nat.ble 8 N then vR (yk N) (N - 8) d q else none) _
  cases h:Nat.ble 8 N with
  | false=>exact fun r h=>by cases h
  | true =>
   obtain ⟨n,rfl⟩:∃ n,N=n+8:=⟨N - 8,by have:=Nat.le_of_ble_eq_true h; omega⟩
   rw[Nat.add_sub_cancel]
   exact CU (m:=3) (by kernel_rfl) (by kernel_rfl) (by decide) rfl (by kernel_rfl) ((by kernel_rfl:_=((((au 3 (d.map c8))&&true))&&true)).trans (by simp only[iC,iD])) (fun _=>rfl) (fun y=>(by show pL 3 (bif y.1 then Out.ret (ag [(iA y.2.1.Kind),(iA y.2.1.N),(sA y.2.1.S),(im (y.2.1.L.map af) false)]) else Out.pan (A.ifc 31 (iA 10)))=true; cases y.1 with | true=>exact((by kernel_rfl:_=((au 3 (y.2.1.L.map af))&&true)).trans (by simp only[iC,iD])) | false=>rfl)) (fun y=>((by kernel_rfl:_=((((au 3 (y.2.2.map c8))&&true))&&true)).trans (by simp only[iC,iD]))) (MQ C n p (yk (n+8)) (I3 C p (n+8)) d q)
def fm:aA:=bx [(iA 0),(iA 0),se,(im [] true)]
def Ls (n:Nat) (h:(List UInt8)):Option (ai×Int) :=
 (yk (n+8) h 0).bind fun d=>bif d.1 then (bif (!(((d.2.2.length:Int))==0)) then (some (((ai.mk 0 0 eH ([])),10))) else (some ((d.2.1,0)))) else (some (((ai.mk 0 0 eH ([])),10)))
theorem QJ (C:OT) (n:Nat) (p:mN C) (h:(List UInt8)):J (fun (o:R) y=>∃ v,o.1=.ret v/\aE o.2 v=(tp [(ag [(iA y.1.Kind),(iA y.1.N),(sA y.1.S),(im (y.1.L.map af) false)]),(iA y.2)])) (av (cx C) (ec C n 8) (ey C n 8) (n+8) 59 [(im (h.map c8) false)] [] 0) some (Ls n h) some:=by
 refine .lp (Rs ..) ?_
 unfold Ls
 refine .s ((pt 0 0),[fm]) (.s ((pt 1 0),[fm,bx [(iA 0)]]) (.s (ag [(im (h.map c8) false)]) (.s ((pt 2 0),[fm,bx [(iA 0)],bx [(im (h.map c8) false)]]) (.bg (fun (t:Out×ay) (y:(Bool×ai×(List UInt8)))=>t=((bif y.1 then Out.ret (ag [(iA y.2.1.Kind),(iA y.2.1.N),(sA y.2.1.S),(im (y.2.1.L.map af) false)]) else Out.pan (A.ifc 31 (iA 10))),[fm,bx [(iA 0)],bx [(im (y.2.2.map c8) false)]])) (I3 C p (n+8) h 0 []) ?_))))
 rintro _ d rfl
 refine .ob ?_ ?_
 ·refine .ok (.s [bx [(iA d.2.1.Kind),(iA d.2.1.N),(sA d.2.1.S),(im (d.2.1.L.map af) false)],bx [(iA 0)],bx [(im (d.2.2.map c8) false)]] (.s (pt 2 0) (.s (pt 2 0) (.s (im (d.2.2.map c8) false) (.st (dQ (e:=5)) (.st (aN ..) (.cl ((aK k9).trans (Bh C (ec C n 7) (ey C n 7) (n+7) _ _ _ _)) (.s (bA (!(((d.2.2.length:Int))==0))) (.aP (fun q=>?_) (fun q=>?_))))))))))
  ·exact .s (A.ifc 31 (iA 10)) (.pk (.cr (.pU (.s (bA true) (.CP (.s (ag [(iA 0),(iA 0),se,(im [] true)]) (.s (iA 10) (.sh (.s [fm,bx [(iA 10)],bx [(im (d.2.2.map c8) false)]] (.s (ag [(iA 0),(iA 0),se,(im [] true)]) (.s (iA 10) (.lv (by show aE _ (tp [(ag [(iA 0),(iA 0),se,(im [] true)]),(iA 10)])=_; simp only[cR,jL,aE]; first | done | rfl)))))))))))))
  exact .cr (.ok (.s (ag [(iA d.2.1.Kind),(iA d.2.1.N),(sA d.2.1.S),(im (d.2.1.L.map af) false)]) (.sh (.s [bx [(iA d.2.1.Kind),(iA d.2.1.N),(sA d.2.1.S),(im (d.2.1.L.map af) false)],bx [(iA 0)],bx [(im (d.2.2.map c8) false)]] (.s (bA false) (.BP (.s (ag [(iA d.2.1.Kind),(iA d.2.1.N),(sA d.2.1.S),(im (d.2.1.L.map af) false)]) (.s (iA 0) (.lv (by show aE _ (tp [(ag [(iA d.2.1.Kind),(iA d.2.1.N),(sA d.2.1.S),(im (d.2.1.L.map af) false)]),(iA 0)])=_; simp only[cR,jL,aE]; first | done | rfl))))))))))
 exact .pU (.s (bA true) (.CP (.s (ag [(iA 0),(iA 0),se,(im [] true)]) (.s (iA 10) (.sh (.s [fm,bx [(iA 10)],bx [(im (d.2.2.map c8) false)]] (.s (ag [(iA 0),(iA 0),se,(im [] true)]) (.s (iA 10) (.lv (by show aE _ (tp [(ag [(iA 0),(iA 0),se,(im [] true)]),(iA 10)])=_; simp only[cR,jL,aE]; first | done | rfl))))))))))
def IW (d:(List UInt8)):Option (ai×Int):=Ls aC d
def Cd (C:OT):Prop:=∀ (d:(List UInt8)),C 59 [(im (d.map c8) false)]=(IW d).map fun y=>(tp [(ag [(iA y.1.Kind),(iA y.1.N),(sA y.1.S),(im (y.1.L.map af) false)]),(iA y.2)])
def bt (d:ai):aA:=bx [(iA d.Kind),(iA d.N),(sA d.S),(im (d.L.map af) false)]
def rX (d:(ai×Int)):aA:=bx [(iA d.1.Kind),(iA d.1.N),(sA d.1.S),(im (d.1.L.map af) false)]
def gi (n:Nat) (q:Bool) (p:(List ai)) (v10:Int) (u:Bool) (y:Int) (ab:Int) (ad:Int) (an:Int) (ao:Int) (bm:ai):Nat->Int->(List Int)->Option ((Bool×(List Int)×Int×Int×ByteArray×(List ai))⊕((List Int)))
 | 0,_,_=>none
 | m+1,v11,h=>bif (decide (v11<v10)) then ((bw p v11).bind fun d=>bif (d.Kind != 1) then (some ((Sum.inl ((false,h,d.Kind,d.N,d.S,d.L))))) else ((cQ 8 h ([d.N])).bind fun bs=>gi n q p v10 u y ab ad an ao bm m (wr .i64 (v11+1)) bs)) else (some ((Sum.inr h)))
theorem Cw (fv:Cd C) (v8:Bool) (v9:(List ai)) (v10:Int) (h:Bool) (p:Int) (q:Int) (u:Int) (ab:Int) (ad:Int) (an:ai) {K:((Bool×(List Int)×Int×Int×ByteArray×(List ai))⊕((List Int)))->Option γ} (x0:∀ (o0:Bool) (o1:(List Int)) (o2:Int) (o3:Int) (o4:ByteArray) (o5:(List ai)) (s6:A) (ca:A) (cb:A) (cc:A),J φ (kr (St.mk [(2,(pt 0 0)),(3,(bA o0)),(6,s6),(23,ca),(24,cb),(25,cc)] [bx [(bA h),(iA p),(iA q),(iA u),(iA ab),(iA ad)],(bt an),aA.row false 1 (o1.map (cI .i64)),bx [(iA o2),(iA o3),(sA o4),(im (o5.map af) false)]])) kL (K (Sum.inl ((o0,o1,o2,o3,o4,o5)))) some) (x1:∀ (o0:(List Int)) (s3:A) (ca:A) (cb:A) (cc:A),J φ (kx 0 (St.mk [(2,(pt 0 0)),(3,s3),(6,(aX 2 0 o0.length false)),(23,ca),(24,cb),(25,cc)] [bx [(bA h),(iA p),(iA q),(iA u),(iA ab),(iA ad)],(bt an),aA.row false 1 (o0.map (cI .i64))])) kL (K (Sum.inr o0)) some) :
  ∀ (m:Nat) (v11:Int) (ao:(List Int)),J φ (aH (cx C) (ec C n 8) (ey C n 8) (n+8) 32 0 0 3 kx kg kr kp m (St.mk [(2,(pt 0 0)),(3,(bA v8)),(6,(aX 2 0 ao.length false)),(23,(im (v9.map af) false)),(24,(iA v10)),(25,(iA v11))] [bx [(bA h),(iA p),(iA q),(iA u),(iA ab),(iA ad)],(bt an),aA.row false 1 (ao.map (cI .i64))])) kL (gi n v8 v9 v10 h p q u ab ad an m v11 ao) K:=by
 intro m
 induction m with
 | zero=>intros; exact .nn
 | succ m ih =>
  intro v11 ao
  refine .lp (Jv ..) ?_
  unfold gi
  refine .st (aS ..) (.aP (fun ej=>?_) (fun ej=>?_))
  ·refine .bd ((fJ (e:=98) (es:=4)).trans (eR _)) fun d=>.s (ag [(iA d.Kind),(iA d.N),(sA d.S),(im (d.L.map af) false)]) (.sq (pt 3 0) (.s [bx [(bA h),(iA p),(iA q),(iA u),(iA ab),(iA ad)],(bt an),aA.row false 1 (ao.map (cI .i64)),bx [(iA d.Kind),(iA d.N),(sA d.S),(im (d.L.map af) false)]] (.s (pt 3 0) (.s (iA d.Kind) (.st (ba ..) (.aP (fun fs=>?_) (fun fs=>?_)))))))
   ·exact .s (ag [(bA h),(iA p),(iA q),(iA u),(iA ab),(iA ad)]) (.s [bx [(bA h),(iA p),(iA q),(iA u),(iA ab),(iA ad)],(bt an),aA.row false 1 (ao.map (cI .i64)),bx [(iA d.Kind),(iA d.N),(sA d.S),(im (d.L.map af) false)]] (.ex (x0 _ _ _ _ _ _ _ _ _ _)))
   refine .s (pt 3 1) (.s (iA d.N) (.s (im [[(iA d.N)]] true) (.bd (g:=fun (y:List Int)=>((aX 2 0 y.length false),[bx [(bA h),(iA p),(iA q),(iA u),(iA ab),(iA ad)],(bt an),aA.row false 1 (y.map (cI .i64)),bx [(iA d.Kind),(iA d.N),(sA d.S),(im (d.L.map af) false)]])) (bV Aa (l:=ao) (l2:=[d.N]) (b:=2) rfl (by decide) (aY (f:=(cI .i64)) ([d.N]:List Int) _ _)) fun ch=>.st (aD ..) (.st (v:=[bx [(bA h),(iA p),(iA q),(iA u),(iA ab),(iA ad)],(bt an),aA.row false 1 (ch.map (cI .i64))]) ((by kernel_rfl:_=(bif ((((au 3 (an.L.map af))&&true))&&((au 3 (ch.map (cI .i64)))&&true)) then some [bx [(bA h),(iA p),(iA q),(iA u),(iA ab),(iA ad)],(bt an),aA.row false 1 (ch.map (cI .i64))] else none)).trans (by simp only[iC,iD])) (.cT ((by kernel_rfl:_=(bif au 3 (v9.map af) then true else false)).trans (by simp only[iC,iD])) ?_)))))
   exact ih _ _
  exact .ex (x1 _ _ _ _ _)
def IG (n:Nat) (p:(List UInt8)):Option (al×Bool) :=
 (IW p).bind fun h=>(bif (h.2 != 0) then (some true) else (some (h.1.Kind != 3))).bind fun q=>bif q then (some (((al.mk false ((ak.mk 0 0 0)) ((ar.mk 0 0))),false))) else ((gi n false h.1.L ((h.1.L.length:Int)) false 0 0 0 0 0 h.1 (n+8) 0 (([]:List Int))).bind fun E3=>match E3 with | (Sum.inl ((u,cc,ch,ck,cm,cv)))=>some (((al.mk false ((ak.mk 0 0 0)) ((ar.mk 0 0))),u)) | (Sum.inr d)=>(bif (((d.length:Int))==4) then ((bw d 0).bind fun y=>some (y==1)) else (some false)).bind fun ab=>bif ab then ((bw d 1).bind fun ad=>(bw d 2).bind fun an=>(bw d 3).bind fun ao=>some (((al.mk true ((ak.mk ad an ao)) ((ar.mk 0 0))),true))) else ((bif (((d.length:Int))==3) then ((bw d 0).bind fun bm=>some (bm==2)) else (some false)).bind fun bs=>bif bs then ((bw d 1).bind fun ca=>(bw d 2).bind fun cb=>some (((al.mk false ((ak.mk 0 0 0)) ((ar.mk ca cb))),true))) else (some (((al.mk false ((ak.mk 0 0 0)) ((ar.mk 0 0))),false)))))
theorem Qz (C:OT) (n:Nat) (ao:Cd C) (a0:(List UInt8)):J (fun (o:R) y=>∃ v,o.1=.ret v/\aE o.2 v=(tp [(ag [(bA y.1.is),(iA y.1.lease.No),(iA y.1.lease.Holder),(iA y.1.lease.Until),(iA y.1.call.Bar),(iA y.1.call.Program)]),(bA y.2)])) (av (cx C) (ec C n 8) (ey C n 8) (n+8) 32 [(im (a0.map c8) false)] [] 0) some (IG n a0) some:=by
 refine .lp (Rf ..) ?_
 unfold IG
 refine .s ((pt 0 0),[bx [(bA false),(iA 0),(iA 0),(iA 0),(iA 0),(iA 0)]]) (.bd (g:=fun (y:(ai×Int))=>(tp [(ag [(iA y.1.Kind),(iA y.1.N),(sA y.1.S),(im (y.1.L.map af) false)]),(iA y.2)])) (by show C 59 [snap _ (im (a0.map c8) false)]=_; simp only[cR,dS]; exact ao a0) fun d=>.s (ag [(iA d.1.Kind),(iA d.1.N),(sA d.1.S),(im (d.1.L.map af) false)]) (.s (iA d.2) (.sq (pt 1 0) (.s [bx [(bA false),(iA 0),(iA 0),(iA 0),(iA 0),(iA 0)],(rX d)] (.st (ba ..) (.bg (fun t (y:Bool)=>∃ j4 j5 j6:A,t=[(bA y),j4,j5,j6]) ?_ ?_))))))
 ·refine .dg (fun ds=>?_) (fun ds=>?_)
  ·exact .lg ⟨_,_,_,rfl⟩
  exact .s (pt 1 0) (.s (iA d.1.Kind) (.st (ba ..) (.lg ⟨_,_,_,rfl⟩)))
 rintro _ y3 ⟨j4,j5,j6,rfl⟩
 refine .u4 (.aP (fun ea=>?_) (fun ea=>?_))
 ·exact .s (ag [(bA false),(iA 0),(iA 0),(iA 0),(iA 0),(iA 0)]) (.s [bx [(bA false),(iA 0),(iA 0),(iA 0),(iA 0),(iA 0)],(rX d)] (.s (ag [(bA false),(iA 0),(iA 0),(iA 0),(iA 0),(iA 0)]) (.lv rfl)))
 refine .s (pt 1 3) (.s (im (d.1.L.map af) false) (.st (dQ (e:=98)) (.as (Cw C n _ _ _ _ ao false d.1.L ((d.1.L.length:Int)) false 0 0 0 0 0 d.1 ?_ ?_ _ 0 (([]:List Int))))))
 ·intro hd hf hg hh hi hj hk ho hp hq
  exact .un rfl (.s (ag [(bA false),(iA 0),(iA 0),(iA 0),(iA 0),(iA 0)]) (.lv rfl))
 ·intro h hr hs ht hv
  refine .un rfl (.cT (by kernel_rfl) (.st (AP (e:=3) (by kernel_rfl) rfl rfl) (.st (aN ..) (.bg (fun t (y:Bool)=>∃ cb cc ch ck:A,t=[(bA y),cb,cc,ch,ck]) ?_ ?_))))
  ·refine .dg (fun eg=>?_) (fun eg=>?_)
   ·exact .bd (g:=fun (y:Int)=>A.ip ((cI .i64) y)) (mq (e:=3) (es:=1) (l:=h) (by kernel_rfl) (by kernel_rfl) rfl) fun ei=>.s (iA ei) (.st (aN ..) (.lg ⟨_,_,_,_,rfl⟩))
   exact .lg ⟨_,_,_,_,rfl⟩
  rintro _ hx ⟨cb,cc,ch,ck,rfl⟩
  refine .u4 (.uc (.aP (fun ej=>?_) (fun ej=>?_)))
  ·exact .bd (g:=fun (y:Int)=>A.ip ((cI .i64) y)) (mq (e:=3) (es:=1) (l:=h) (by kernel_rfl) (by kernel_rfl) rfl) fun p=>.s (iA p) (.bd (g:=fun (y:Int)=>A.ip ((cI .i64) y)) (mq (e:=3) (es:=1) (l:=h) (by kernel_rfl) (by kernel_rfl) rfl) fun q=>.s (iA q) (.bd (g:=fun (y:Int)=>A.ip ((cI .i64) y)) (mq (e:=3) (es:=1) (l:=h) (by kernel_rfl) (by kernel_rfl) rfl) fun u=>.s (iA u) (.s (ag [(iA p),(iA q),(iA u)]) (.s (ag [(bA true),(iA p),(iA q),(iA u),(iA 0),(iA 0)]) (.s [bx [(bA true),(iA p),(iA q),(iA u),(iA 0),(iA 0)],(rX d),aA.row false 1 (h.map (cI .i64))] (.s (ag [(bA true),(iA p),(iA q),(iA u),(iA 0),(iA 0)]) (.lv rfl)))))))
  refine .st (AP (e:=3) (by kernel_rfl) rfl rfl) (.st (aN ..) (.bg (fun t (y:Bool)=>∃ cm cv cy dd:A,t=[(bA y),cm,cv,cy,dd]) ?_ ?_))
  ·refine .dg (fun fs=>?_) (fun fs=>?_)
   ·exact .bd (g:=fun (y:Int)=>A.ip ((cI .i64) y)) (mq (e:=3) (es:=1) (l:=h) (by kernel_rfl) (by kernel_rfl) rfl) fun fv=>.s (iA fv) (.st (aN ..) (.lg ⟨_,_,_,_,rfl⟩))
   exact .lg ⟨_,_,_,_,rfl⟩
  rintro _ hy ⟨cm,cv,cy,dd,rfl⟩
  refine .u4 (.uc (.aP (fun gf=>?_) (fun gf=>?_)))
  ·exact .bd (g:=fun (y:Int)=>A.ip ((cI .i64) y)) (mq (e:=3) (es:=1) (l:=h) (by kernel_rfl) (by kernel_rfl) rfl) fun ab=>.s (iA ab) (.bd (g:=fun (y:Int)=>A.ip ((cI .i64) y)) (mq (e:=3) (es:=1) (l:=h) (by kernel_rfl) (by kernel_rfl) rfl) fun ad=>.s (iA ad) (.s (ag [(iA ab),(iA ad)]) (.s (ag [(bA false),(iA 0),(iA 0),(iA 0),(iA ab),(iA ad)]) (.s [bx [(bA false),(iA 0),(iA 0),(iA 0),(iA ab),(iA ad)],(rX d),aA.row false 1 (h.map (cI .i64))] (.s (ag [(bA false),(iA 0),(iA 0),(iA 0),(iA ab),(iA ad)]) (.lv rfl))))))
  exact .s (ag [(bA false),(iA 0),(iA 0),(iA 0),(iA 0),(iA 0)]) (.s [bx [(bA false),(iA 0),(iA 0),(iA 0),(iA 0),(iA 0)],(rX d),aA.row false 1 (h.map (cI .i64))] (.s (ag [(bA false),(iA 0),(iA 0),(iA 0),(iA 0),(iA 0)]) (.lv rfl)))
def Ij (d:(List UInt8)):Option (al×Bool):=IG aC d
def B7 (C:OT):Prop:=∀ (d:(List UInt8)),C 32 [(im (d.map c8) false)]=(Ij d).map fun y=>(tp [(ag [(bA y.1.is),(iA y.1.lease.No),(iA y.1.lease.Holder),(iA y.1.lease.Until),(iA y.1.call.Bar),(iA y.1.call.Program)]),(bA y.2)])
def gg (n:Nat) (v1:Int) (v2:(List (List UInt8))) (p:Int):Nat->Int->Int->(List ak)->(List ar)->(List Bool)->Option ((Int×Int×Bool×Int×Int×Int×Int×Int)⊕(Int×(List ak)×(List ar)×(List Bool)))
 | 0,_,_,_,_,_=>none
 | m+1,v4,q,v6,u,y=>bif (decide (v4<p)) then ((bw v2 v4).bind fun ab=>(Ij ab).bind fun d=>bif (!d.2) then (some ((Sum.inl ((530,0,d.1.is,d.1.lease.No,d.1.lease.Holder,d.1.lease.Until,d.1.call.Bar,d.1.call.Program))))) else ((BX ((aj.mk q v6 u y)) d.1).bind fun h=>gg n v1 v2 p m (wr .i64 (v4+1)) h.Self h.Leases h.Calls h.Order)) else (some ((Sum.inr ((q,v6,u,y)))))
theorem Ck (ei:q8 C) (cm:B7 C) (cv:tC C) (v1:Int) (v2:(List (List UInt8))) (v3:Int) {K:((Int×Int×Bool×Int×Int×Int×Int×Int)⊕(Int×(List ak)×(List ar)×(List Bool)))->Option γ} (x0:∀ (o0:Int) (o1:Int) (o2:Bool) (o3:Int) (o4:Int) (o5:Int) (o6:Int) (o7:Int) (ao:A) (bm:A) (bs:A),J φ (kr (St.mk [(4,(pt 0 0)),(5,(iA o0)),(12,ao),(13,bm),(14,bs)] [bx [(iA o1),(im [] true),(im [] true),(im [] true)],bx [(bA o2),(iA o3),(iA o4),(iA o5),(iA o6),(iA o7)]])) kL (K (Sum.inl ((o0,o1,o2,o3,o4,o5,o6,o7)))) some) (x1:∀ (o0:Int) (o1:(List ak)) (o2:(List ar)) (o3:(List Bool)) (s5:A) (ao:A) (bm:A) (bs:A),J φ (kx 0 (St.mk [(4,(pt 0 0)),(5,s5),(12,ao),(13,bm),(14,bs)] [bx [(iA o0),(im (o1.map ae) false),(im (o2.map ah) false),(im (o3.map cB) false)]])) kL (K (Sum.inr ((o0,o1,o2,o3)))) some) :
  ∀ (m:Nat) (v4:Int) (h:Int) (v6:(List ak)) (p:(List ar)) (q:(List Bool)),J φ (aH (cx C) (ec C n 8) (ey C n 8) (n+8) 11 0 0 1 kx kg kr kp m (St.mk [(4,(pt 0 0)),(5,(iA v1)),(12,(im (List.map (cL c8) v2) false)),(13,(iA v3)),(14,(iA v4))] [bx [(iA h),(im (v6.map ae) false),(im (p.map ah) false),(im (q.map cB) false)]])) kL (gg n v1 v2 v3 m v4 h v6 p q) K:=by
 intro m
 induction m with
 | zero=>intros; exact .nn
 | succ m ih =>
  intro v4 h v6 p q
  refine .lp (Jl ..) ?_
  unfold gg
  refine .st (aS ..) (.aP (fun ea=>?_) (fun ea=>?_))
  ·refine .bd (fJ (e:=30) (es:=1)) fun ca=>.s (im (ca.map c8) false) (.bd (g:=fun (y:(al×Bool))=>(tp [(ag [(bA y.1.is),(iA y.1.lease.No),(iA y.1.lease.Holder),(iA y.1.lease.Until),(iA y.1.call.Bar),(iA y.1.call.Program)]),(bA y.2)])) (by show C 32 [snap _ (im (ca.map c8) false)]=_; simp only[cR,dS]; exact cm ca) fun d=>.s (ag (aw d.1)) (.s (bA d.2) (.sq (pt 1 0) (.s [bx [(iA h),(im (v6.map ae) false),(im (p.map ah) false),(im (q.map cB) false)],bx (aw d.1)] (.s (bA (!d.2)) (.aP (fun eg=>?_) (fun eg=>?_)))))))
   ·exact .s (ag [(iA 0),(im [] true),(im [] true),(im [] true)]) (.s [bx [(iA 0),(im [] true),(im [] true),(im [] true)],bx (aw d.1)] (.ex (x0 _ _ _ _ _ _ _ _ _ _ _)))
   refine .s (ag [(iA h),(im (v6.map ae) false),(im (p.map ah) false),(im (q.map cB) false)]) (.s (ag (aw d.1)) (.bd (g:=fun (y:aj)=>(ag [(iA y.Self),(im (y.Leases.map ae) false),(im (y.Calls.map ah) false),(im (y.Order.map cB) false)])) (by show C 33 [snap _ (ag [(iA h),(im (v6.map ae) false),(im (p.map ah) false),(im (q.map cB) false)]),snap _ (ag (aw d.1))]=_; simp only[cR,dS]; exact cv ((aj.mk h v6 p q)) d.1) fun u=>.s [bx (aa u),bx (aw d.1)] (.st (aD ..) (.st (v:=[bx (aa u)]) ((by kernel_rfl:_=(bif ((((au 1 (u.Leases.map ae))&&((au 1 (u.Calls.map ah))&&((au 1 (u.Order.map cB))&&true))))&&true) then some [bx (aa u)] else none)).trans (by simp only[iC,iD])) (.cT ((by kernel_rfl:_=(bif au 1 (List.map (cL c8) v2) then true else false)).trans (by simp only[iC,iD])) ?_)))))
   exact ih _ _ _ _ _
  exact .ex (x1 _ _ _ _ _ _ _ _)
def La (n:Nat) (a0:Int) (d:(List (List UInt8))):Option (aj×Int) :=
 (gg n 0 d ((d.length:Int)) (n+8) 0 a0 ([]) ([]) ([])).bind fun BS=>match BS with | (Sum.inl ((ad,an,ao,bm,bs,ca,cb,cc)))=>some (((aj.mk an ([]) ([]) ([])),ad)) | (Sum.inr ((h,p,q,u)))=>(Eu ((aj.mk h p q u))).bind fun y=>bif (y != 0) then (some (((aj.mk 0 ([]) ([]) ([])),y))) else (some (((aj.mk h p q u),0)))
theorem Ql (C:OT) (n:Nat) (ad:q8 C) (ao:B7 C) (bm:tC C) (u:Int) (a1:(List (List UInt8))):J (fun (o:R) y=>∃ v,o.1=.ret v/\aE o.2 v=(tp [(ag [(iA y.1.Self),(im (y.1.Leases.map ae) false),(im (y.1.Calls.map ah) false),(im (y.1.Order.map cB) false)]),(iA y.2)])) (av (cx C) (ec C n 8) (ey C n 8) (n+8) 11 [(iA u),(im (List.map (cL c8) a1) false)] [] 0) some (La n u a1) some:=by
 refine .lp (Q2 ..) ?_
 unfold La
 refine .sq (pt 0 0) (.s (pt 0 0) (.s [bx [(iA u),(im [] true),(im [] true),(im [] true)]] (.st (dQ (e:=30)) (.as (Ck C n _ _ _ _ ad ao bm 0 a1 ((a1.length:Int)) ?_ ?_ _ 0 u ([]) ([]) ([]))))))
 ·intro bs an cc ch ck cm cv cy dd ds ea
  exact .un rfl (.s (ag [(iA an),(im [] true),(im [] true),(im [] true)]) (.lv (by show aE _ (tp [(ag [(iA an),(im [] true),(im [] true),(im [] true)]),(iA bs)])=_; simp only[cR,jL,aE]; first | done | rfl)))
 ·intro d h p q eg ei ej fs
  refine .un rfl (.cT (by kernel_rfl) (.s (ag [(iA d),(im (h.map ae) false),(im (p.map ah) false),(im (q.map cB) false)]) (.bd (g:=fun (y:Int)=>(iA y)) (by show C 20 [snap _ (ag [(iA d),(im (h.map ae) false),(im (p.map ah) false),(im (q.map cB) false)])]=_; simp only[cR,dS]; exact ad ((aj.mk d h p q))) fun ca=>.st (ba ..) (.aP (fun cb=>?_) (fun cb=>?_)))))
  ·exact .s (ag [(iA 0),(im [] true),(im [] true),(im [] true)]) (.s [bx [(iA 0),(im [] true),(im [] true),(im [] true)]] (.s (ag [(iA 0),(im [] true),(im [] true),(im [] true)]) (.lv (by show aE _ (tp [(ag [(iA 0),(im [] true),(im [] true),(im [] true)]),(iA ca)])=_; simp only[cR,jL,aE]; first | done | rfl))))
  exact .s (ag [(iA d),(im (h.map ae) false),(im (p.map ah) false),(im (q.map cB) false)]) (.s [bx [(iA d),(im (h.map ae) false),(im (p.map ah) false),(im (q.map cB) false)]] (.s (ag [(iA d),(im (h.map ae) false),(im (p.map ah) false),(im (q.map cB) false)]) (.lv (by show aE _ (tp [(ag [(iA d),(im (h.map ae) false),(im (p.map ah) false),(im (q.map cB) false)]),(iA 0)])=_; simp only[cR,jL,aE]; first | done | rfl))))
def FT (d:Int) (h:(List (List UInt8))):Option (aj×Int):=La aC d h
def zH (C:OT):Prop:=∀ (d:Int) (h:(List (List UInt8))),C 11 [(iA d),(im (List.map (cL c8) h) false)]=(FT d h).map fun y=>(tp [(ag [(iA y.1.Self),(im (y.1.Leases.map ae) false),(im (y.1.Calls.map ah) false),(im (y.1.Order.map cB) false)]),(iA y.2)])
def za:aA:=bx [(iA 0),(im [] true),(im [] true),(im [] true),(iA 0),(im [] true),(im [] true),(im [] true),(iA 0),(iA 0),(im [] true),(im [] true),(im [] true)]
def mL (n:Nat) (v1:Int) (v2:Int) (h:(List ak)) (p:(List ar)) (q:(List ar)):Nat->Int->Int->Int->(List ak)->(List ar)->(List Bool)->Int->(List ak)->(List ar)->(List Bool)->Int->Int->Option ((Int×Int×Int×Int×Int)⊕(Int×(List ak)×(List ar)×(List Bool)×Int×(List ak)×(List ar)×(List Bool)×Int×Int))
 | 0,_,_,_,_,_,_,_,_,_,_,_,_=>none
 | m+1,v3,v4,u,v6,y,v8,v9,v10,v11,an,ao,bm=>bif (decide (v4<2)) then ((G1 v4 v1 v2).bind fun d=>bif decide (v4=0) then (bif (d.2 != 0) then (some ((Sum.inl ((d.2,0,0,0,0))))) else (mL n v1 v2 h p q m d.2 (wr .i64 (v4+1)) d.1.Self d.1.Leases d.1.Calls d.1.Order v9 v10 v11 an 1 bm)) else bif decide (v4=1) then (bif (d.2 != 0) then (some ((Sum.inl ((d.2,0,0,0,0))))) else (mL n v1 v2 h p q m d.2 (wr .i64 (v4+1)) u v6 y v8 d.1.Self d.1.Leases d.1.Calls d.1.Order ao 1)) else none) else (some ((Sum.inr ((u,v6,y,v8,v9,v10,v11,an,ao,bm)))))
theorem Cp (eg:zM C) (v1:Int) (v2:Int) (d:(List ak)) (h:(List ar)) (p:(List ar)) {K:((Int×Int×Int×Int×Int)⊕(Int×(List ak)×(List ar)×(List Bool)×Int×(List ak)×(List ar)×(List Bool)×Int×Int))->Option γ} (x0:∀ (o0:Int) (o1:Int) (o2:Int) (o3:Int) (o4:Int) (s0:A) (s1:A) (s7:A),J φ (kr (St.mk [(0,s0),(1,s1),(4,(pt 0 0)),(5,(iA o0)),(7,s7)] [bx [(iA o1),(im [] true),(im [] true),(im [] true),(iA o2),(im [] true),(im [] true),(im [] true),(iA o3),(iA o4),(im [] true),(im [] true),(im [] true)]])) kL (K (Sum.inl ((o0,o1,o2,o3,o4)))) some) (x1:∀ (o0:Int) (o1:(List ak)) (o2:(List ar)) (o3:(List Bool)) (o4:Int) (o5:(List ak)) (o6:(List ar)) (o7:(List Bool)) (o8:Int) (o9:Int) (s0:A) (s1:A) (s5:A) (s7:A),J φ (kx 0 (St.mk [(0,s0),(1,s1),(4,(pt 0 0)),(5,s5),(7,s7)] [bx [(iA o0),(im (o1.map ae) false),(im (o2.map ah) false),(im (o3.map cB) false),(iA o4),(im (o5.map ae) false),(im (o6.map ah) false),(im (o7.map cB) false),(iA o8),(iA o9),(im (d.map ae) true),(im (h.map ah) true),(im (p.map ah) true)]])) kL (K (Sum.inr ((o0,o1,o2,o3,o4,o5,o6,o7,o8,o9)))) some) :
  ∀ (m:Nat) (v3:Int) (v4:Int) (v5:Int) (v6:(List ak)) (v7:(List ar)) (v8:(List Bool)) (v9:Int) (v10:(List ak)) (v11:(List ar)) (cc:(List Bool)) (q:Int) (u:Int),J φ (aH (cx C) (ec C n 8) (ey C n 8) (n+8) 15 0 0 1 kx kg kr kp m (St.mk [(0,(iA v1)),(1,(iA v2)),(4,(pt 0 0)),(5,(iA v3)),(7,(iA v4))] [bx [(iA v5),(im (v6.map ae) false),(im (v7.map ah) false),(im (v8.map cB) false),(iA v9),(im (v10.map ae) false),(im (v11.map ah) false),(im (cc.map cB) false),(iA q),(iA u),(im (d.map ae) true),(im (h.map ah) true),(im (p.map ah) true)]])) kL (mL n v1 v2 d h p m v3 v4 v5 v6 v7 v8 v9 v10 v11 cc q u) K:=by
 intro m
 induction m with
 | zero=>intros; exact .nn
 | succ m ih =>
  intro v3 v4 v5 v6 v7 v8 v9 v10 v11 cc q u
  refine .lp (Jp ..) ?_
  unfold mL
  refine .st (aS ..) (.aP (fun fs=>?_) (fun fs=>?_))
  ·refine .bd (eg v4 v1 v2) fun y=>.s (ag (aa y.1)) (.s (iA y.2) (.s (pt 0 0) (.sp (fun ds=>?_) (fun _=>?_))))
   ·refine .st (v:=(pt 0 0)) (by rw[of_decide_eq_true ds]; kernel_rfl) (.s [bx (aa y.1++[(iA v9),(im (v10.map ae) false),(im (v11.map ah) false),(im (cc.map cB) false),(iA q),(iA u),(im (d.map ae) true),(im (h.map ah) true),(im (p.map ah) true)])] (.st (ba ..) (.aP (fun fv=>?_) (fun fv=>?_))))
    ·exact .s (ag [(iA 0),(im [] true),(im [] true),(im [] true),(iA 0),(im [] true),(im [] true),(im [] true),(iA 0),(iA 0),(im [] true),(im [] true),(im [] true)]) (.s [za] (.ex (x0 _ _ _ _ _ _ _ _)))
    refine .s (pt 0 8) (.st (v:=(pt 0 8)) (by rw[of_decide_eq_true ds]; kernel_rfl) (.sh (.st (aD ..) (.s [bx (aa y.1++[(iA v9),(im (v10.map ae) false),(im (v11.map ah) false),(im (cc.map cB) false),(iA 1),(iA u),(im (d.map ae) true),(im (h.map ah) true),(im (p.map ah) true)])] (.cT (by kernel_rfl) ?_)))))
    exact ih _ _ _ _ _ _ _ _ _ _ _ _
   refine .sp (fun ea=>?_) (fun _=>?_)
   ·refine .st (v:=(pt 0 4)) (by rw[of_decide_eq_true ea]; kernel_rfl) (.s [bx ([(iA v5),(im (v6.map ae) false),(im (v7.map ah) false),(im (v8.map cB) false)]++aa y.1++[(iA q),(iA u),(im (d.map ae) true),(im (h.map ah) true),(im (p.map ah) true)])] (.st (ba ..) (.aP (fun gf=>?_) (fun gf=>?_))))
    ·exact .s (ag [(iA 0),(im [] true),(im [] true),(im [] true),(iA 0),(im [] true),(im [] true),(im [] true),(iA 0),(iA 0),(im [] true),(im [] true),(im [] true)]) (.s [za] (.ex (x0 _ _ _ _ _ _ _ _)))
    refine .s (pt 0 8) (.st (v:=(pt 0 9)) (by rw[of_decide_eq_true ea]; kernel_rfl) (.sh (.st (aD ..) (.s [bx ([(iA v5),(im (v6.map ae) false),(im (v7.map ah) false),(im (v8.map cB) false)]++aa y.1++[(iA q),(iA 1),(im (d.map ae) true),(im (h.map ah) true),(im (p.map ah) true)])] (.cT (by kernel_rfl) ?_)))))
    exact ih _ _ _ _ _ _ _ _ _ _ _ _
   exact .nn
  exact .ex (x1 _ _ _ _ _ _ _ _ _ _ _ _ _ _)
def MF (n:Nat) (d:Int) (h:Int):Option (bu×Int) :=
 (mL n d h ([]) ([]) ([]) (n+8) 0 0 0 ([]) ([]) ([]) 0 ([]) ([]) ([]) 0 0).bind fun E3=>match E3 with | (Sum.inl ((p,q,u,y,ab)))=>some (((bu.mk (((aj.mk q ([]) ([]) ([])),(aj.mk u ([]) ([]) ([])))) ((y,ab)) ([]) (([],[]))),p)) | (Sum.inr ((ad,an,ao,bm,bs,ca,cb,cc,ch,ck)))=>some (((bu.mk (((aj.mk ad an ao bm),(aj.mk bs ca cb cc))) ((ch,ck)) ([]) (([],[]))),0))
theorem Qp (C:OT) (n:Nat) (cm:zM C) (a0:Int) (a1:Int):J (fun (o:R) y=>∃ v,o.1=.ret v/\aE o.2 v=(tp [(ag [(iA y.1.Desks.1.Self),(im (y.1.Desks.1.Leases.map ae) false),(im (y.1.Desks.1.Calls.map ah) false),(im (y.1.Desks.1.Order.map cB) false),(iA y.1.Desks.2.Self),(im (y.1.Desks.2.Leases.map ae) false),(im (y.1.Desks.2.Calls.map ah) false),(im (y.1.Desks.2.Order.map cB) false),(iA y.1.Synced.1),(iA y.1.Synced.2),(im (y.1.Told.map ae) false),(im (y.1.Spoken.1.map ah) false),(im (y.1.Spoken.2.map ah) false)]),(iA y.2)])) (av (cx C) (ec C n 8) (ey C n 8) (n+8) 15 [(iA a0),(iA a1)] [] 0) some (MF n a0 a1) some:=by
 refine .lp (Q6 ..) ?_
 unfold MF
 refine .s ((pt 0 0),[za]) (.as (Cp C n _ _ _ _ cm a0 a1 ([]) ([]) ([]) ?_ ?_ _ 0 0 0 ([]) ([]) ([]) 0 ([]) ([]) ([]) 0 0))
 ·intro cv cb cc ch ck cy dd ds
  exact .un rfl (.s (ag [(iA cb),(im [] true),(im [] true),(im [] true),(iA cc),(im [] true),(im [] true),(im [] true),(iA ch),(iA ck),(im [] true),(im [] true),(im [] true)]) (.lv (by show aE _ (tp [(ag [(iA cb),(im [] true),(im [] true),(im [] true),(iA cc),(im [] true),(im [] true),(im [] true),(iA ch),(iA ck),(im [] true),(im [] true),(im [] true)]),(iA cv)])=_; simp only[cR,jL,aE]; first | done | rfl)))
 ·intro d h p q u ab ad an ao bm ea eg ei ej
  exact .un rfl (.cT (by kernel_rfl) (.s (ag [(iA d),(im (h.map ae) false),(im (p.map ah) false),(im (q.map cB) false),(iA u),(im (ab.map ae) false),(im (ad.map ah) false),(im (an.map cB) false),(iA ao),(iA bm),(im [] true),(im [] true),(im [] true)]) (.s [bx [(iA d),(im (h.map ae) false),(im (p.map ah) false),(im (q.map cB) false),(iA u),(im (ab.map ae) false),(im (ad.map ah) false),(im (an.map cB) false),(iA ao),(iA bm),(im [] true),(im [] true),(im [] true)]] (.s (ag [(iA d),(im (h.map ae) false),(im (p.map ah) false),(im (q.map cB) false),(iA u),(im (ab.map ae) false),(im (ad.map ah) false),(im (an.map cB) false),(iA ao),(iA bm),(im [] true),(im [] true),(im [] true)]) (.lv (by show aE _ (tp [(ag [(iA d),(im (h.map ae) false),(im (p.map ah) false),(im (q.map cB) false),(iA u),(im (ab.map ae) false),(im (ad.map ah) false),(im (an.map cB) false),(iA ao),(iA bm),(im [] true),(im [] true),(im [] true)]),(iA 0)])=_; simp only[cR,jL,aE]; first | done | rfl))))))
def MK (d:Int) (h:Int):Option (bu×Int):=MF aC d h
def FV (C:OT):Prop:=∀ (d:Int) (h:Int),C 15 [(iA d),(iA h)]=(MK d h).map fun y=>(tp [(ag [(iA y.1.Desks.1.Self),(im (y.1.Desks.1.Leases.map ae) false),(im (y.1.Desks.1.Calls.map ah) false),(im (y.1.Desks.1.Order.map cB) false),(iA y.1.Desks.2.Self),(im (y.1.Desks.2.Leases.map ae) false),(im (y.1.Desks.2.Calls.map ah) false),(im (y.1.Desks.2.Order.map cB) false),(iA y.1.Synced.1),(iA y.1.Synced.2),(im (y.1.Told.map ae) false),(im (y.1.Spoken.1.map ah) false),(im (y.1.Spoken.2.map ah) false)]),(iA y.2)])
def K0:List ((bu×bG)×(bu×Int)):=[((⟨(⟨0,[⟨0,0,10⟩],[],[true]⟩,⟨1,[⟨0,0,10⟩],[],[true]⟩),(1,1),[],([],[])⟩,⟨0,0,0,0⟩),(⟨(⟨0,[],[],[]⟩,⟨0,[],[],[]⟩),(0,0),[],([],[])⟩,530)),
 ((⟨(⟨0,[⟨0,0,10⟩],[],[true]⟩,⟨1,[⟨0,0,10⟩],[],[true]⟩),(1,1),[],([],[])⟩,⟨3,0,3,2⟩),(⟨(⟨0,[⟨0,0,10⟩],[⟨3,2⟩],[true,false]⟩,⟨1,[⟨0,0,10⟩],[],[true]⟩),(1,1),[],([],[])⟩,0)),
 ((⟨(⟨0,[⟨0,0,10⟩],[⟨3,2⟩],[true,false]⟩,⟨1,[⟨0,0,10⟩],[],[true]⟩),(1,1),[],([],[])⟩,⟨3,0,5,1⟩),(⟨(⟨0,[⟨0,0,10⟩],[⟨3,2⟩,⟨5,1⟩],[true,false,false]⟩,⟨1,[⟨0,0,10⟩],[],[true]⟩),(1,1),[],([],[])⟩,0)),
 ((⟨(⟨0,[⟨0,0,10⟩],[⟨3,2⟩,⟨5,1⟩],[true,false,false]⟩,⟨1,[⟨0,0,10⟩],[],[true]⟩),(1,1),[],([],[])⟩,⟨1,0,1,20⟩),(⟨(⟨0,[⟨0,0,10⟩,⟨1,1,20⟩],[⟨3,2⟩,⟨5,1⟩],[true,false,false,true]⟩,⟨1,[⟨0,0,10⟩],[],[true]⟩),(1,1),[],([],[])⟩,0)),
 ((⟨(⟨0,[⟨0,0,10⟩,⟨1,1,20⟩],[⟨3,2⟩,⟨5,1⟩],[true,false,false,true]⟩,⟨1,[⟨0,0,10⟩],[],[true]⟩),(1,1),[],([],[])⟩,⟨4,0,0,0⟩),(⟨(⟨0,[⟨0,0,10⟩,⟨1,1,20⟩],[⟨3,2⟩,⟨5,1⟩],[true,false,false,true]⟩,⟨1,[⟨0,0,10⟩],[],[true]⟩),(4,1),[],([],[])⟩,0)),
 ((⟨(⟨0,[⟨0,0,10⟩,⟨1,1,20⟩],[⟨3,2⟩,⟨5,1⟩],[true,false,false,true]⟩,⟨1,[⟨0,0,10⟩],[],[true]⟩),(4,1),[],([],[])⟩,⟨5,0,1,0⟩),(⟨(⟨0,[⟨0,0,10⟩,⟨1,1,20⟩],[⟨3,2⟩,⟨5,1⟩],[true,false,false,true]⟩,⟨1,[⟨0,0,10⟩],[],[true]⟩),(4,1),[⟨1,1,20⟩],([],[])⟩,0)),
 ((⟨(⟨0,[⟨0,0,10⟩,⟨1,1,20⟩],[⟨3,2⟩,⟨5,1⟩],[true,false,false,true]⟩,⟨1,[⟨0,0,10⟩],[],[true]⟩),(4,1),[⟨1,1,20⟩],([],[])⟩,⟨6,0,1,0⟩),(⟨(⟨0,[⟨0,0,10⟩,⟨1,1,20⟩],[⟨3,2⟩,⟨5,1⟩],[true,false,false,true]⟩,⟨1,[⟨0,0,10⟩],[],[true]⟩),(4,1),[⟨1,1,20⟩],([⟨5,1⟩],[])⟩,0)),
 ((⟨(⟨0,[⟨0,0,10⟩,⟨1,1,20⟩],[⟨3,2⟩,⟨5,1⟩],[true,false,false,true]⟩,⟨1,[⟨0,0,10⟩],[],[true]⟩),(4,1),[⟨1,1,20⟩],([⟨5,1⟩],[])⟩,⟨3,1,12,1⟩),(⟨(⟨0,[],[],[]⟩,⟨0,[],[],[]⟩),(0,0),[],([],[])⟩,530)),
 ((⟨(⟨0,[⟨0,0,10⟩,⟨1,1,20⟩],[⟨3,2⟩,⟨5,1⟩],[true,false,false,true]⟩,⟨1,[⟨0,0,10⟩],[],[true]⟩),(4,1),[⟨1,1,20⟩],([⟨5,1⟩],[])⟩,⟨2,1,0,0⟩),(⟨(⟨0,[⟨0,0,10⟩,⟨1,1,20⟩],[⟨3,2⟩,⟨5,1⟩],[true,false,false,true]⟩,⟨1,[⟨0,0,10⟩,⟨1,1,20⟩],[],[true,true]⟩),(4,1),[⟨1,1,20⟩],([⟨5,1⟩],[])⟩,0)),
 ((⟨(⟨0,[⟨0,0,10⟩,⟨1,1,20⟩],[⟨3,2⟩,⟨5,1⟩],[true,false,false,true]⟩,⟨1,[⟨0,0,10⟩,⟨1,1,20⟩],[],[true,true]⟩),(4,1),[⟨1,1,20⟩],([⟨5,1⟩],[])⟩,⟨3,1,12,4⟩),(⟨(⟨0,[⟨0,0,10⟩,⟨1,1,20⟩],[⟨3,2⟩,⟨5,1⟩],[true,false,false,true]⟩,⟨1,[⟨0,0,10⟩,⟨1,1,20⟩],[⟨12,4⟩],[true,true,false]⟩),(4,1),[⟨1,1,20⟩],([⟨5,1⟩],[])⟩,0)),
 ((⟨(⟨0,[⟨0,0,10⟩,⟨1,1,20⟩],[⟨3,2⟩,⟨5,1⟩],[true,false,false,true]⟩,⟨1,[⟨0,0,10⟩,⟨1,1,20⟩],[⟨12,4⟩],[true,true,false]⟩),(4,1),[⟨1,1,20⟩],([⟨5,1⟩],[])⟩,⟨6,1,0,0⟩),(⟨(⟨0,[],[],[]⟩,⟨0,[],[],[]⟩),(0,0),[],([],[])⟩,530)),
 ((⟨(⟨0,[⟨0,0,10⟩,⟨1,1,20⟩],[⟨3,2⟩,⟨5,1⟩],[true,false,false,true]⟩,⟨1,[⟨0,0,10⟩,⟨1,1,20⟩],[⟨12,4⟩],[true,true,false]⟩),(4,1),[⟨1,1,20⟩],([⟨5,1⟩],[])⟩,⟨7,1,2,0⟩),(⟨(⟨0,[⟨0,0,10⟩,⟨1,1,20⟩],[⟨3,2⟩,⟨5,1⟩],[true,false,false,true]⟩,⟨1,[⟨0,0,10⟩,⟨1,1,20⟩],[],[true,true]⟩),(4,1),[⟨1,1,20⟩],([⟨5,1⟩],[])⟩,0))]
def Ig (d:bu) (h:bG):Option (bu×Int):=D8 K0 (d,h)
def zJ (C:OT):Prop:=∀ (d:bu) (h:bG),C 17 [(ag (aB d)),(ag (bK h))]=(Ig d h).map fun y=>(tp [(ag [(iA y.1.Desks.1.Self),(im (y.1.Desks.1.Leases.map ae) false),(im (y.1.Desks.1.Calls.map ah) false),(im (y.1.Desks.1.Order.map cB) false),(iA y.1.Desks.2.Self),(im (y.1.Desks.2.Leases.map ae) false),(im (y.1.Desks.2.Calls.map ah) false),(im (y.1.Desks.2.Order.map cB) false),(iA y.1.Synced.1),(iA y.1.Synced.2),(im (y.1.Told.map ae) false),(im (y.1.Spoken.1.map ah) false),(im (y.1.Spoken.2.map ah) false)]),(iA y.2)])
def oM (v6:Int) (d:(List ak)) (h:(List ar)) (p:(List Bool)) (v10:Int) (v11:(List ak)) (q:(List ar)) (u:(List Bool)) (y:Int) (ab:Int) (ad:(List ak)) (an:(List ar)) (ao:(List ar)):aA:=bx [(iA v6),(im (d.map ae) true),(im (h.map ah) true),(im (p.map cB) true),(iA v10),(im (v11.map ae) true),(im (q.map ah) true),(im (u.map cB) true),(iA y),(iA ab),(im (ad.map ae) true),(im (an.map ah) true),(im (ao.map ah) true)]
def pd (n:Nat) (v1:Bool) (v2:(List bG)) (q:Int) (v6:Int) (u:(List ak)) (y:(List ar)) (v9:(List Bool)) (v10:Int) (v11:(List ak)) (ad:(List ar)) (an:(List Bool)) (ao:Int) (bm:Int) (bs:(List ak)) (ca:(List ar)) (cb:(List ar)):Nat->Int->bu->Option ((Bool×Int×(List ak)×(List ar)×(List Bool)×Int×(List ak)×(List ar)×(List Bool)×Int×Int×(List ak)×(List ar)×(List ar)×Int×(List ak)×(List ar)×(List Bool)×Int×(List ak)×(List ar)×(List Bool)×Int×Int×(List ak)×(List ar)×(List ar)×Int×Int×Int×Int×Int×(List ak)×(List ar)×(List Bool)×Int×(List ak)×(List ar)×(List Bool)×Int×Int×(List ak)×(List ar)×(List ar))⊕(Int×(List ak)×(List ar)×(List Bool)×Int×(List ak)×(List ar)×(List Bool)×Int×Int×(List ak)×(List ar)×(List ar)))
 | 0,_,_=>none
 | m+1,v4,d=>bif (decide (v4<q)) then ((bw v2 v4).bind fun p=>(Ig d p).bind fun h=>bif (h.2 != 0) then (some ((Sum.inl ((false,d.Desks.1.Self,d.Desks.1.Leases,d.Desks.1.Calls,d.Desks.1.Order,d.Desks.2.Self,d.Desks.2.Leases,d.Desks.2.Calls,d.Desks.2.Order,d.Synced.1,d.Synced.2,d.Told,d.Spoken.1,d.Spoken.2,d.Desks.1.Self,d.Desks.1.Leases,d.Desks.1.Calls,d.Desks.1.Order,d.Desks.2.Self,d.Desks.2.Leases,d.Desks.2.Calls,d.Desks.2.Order,d.Synced.1,d.Synced.2,d.Told,d.Spoken.1,d.Spoken.2,p.Kind,p.Who,p.A,p.B,h.1.Desks.1.Self,h.1.Desks.1.Leases,h.1.Desks.1.Calls,h.1.Desks.1.Order,h.1.Desks.2.Self,h.1.Desks.2.Leases,h.1.Desks.2.Calls,h.1.Desks.2.Order,h.1.Synced.1,h.1.Synced.2,h.1.Told,h.1.Spoken.1,h.1.Spoken.2))))) else (pd n v1 v2 q v6 u y v9 v10 v11 ad an ao bm bs ca cb m (wr .i64 (v4+1)) h.1)) else (some ((Sum.inr ((d.Desks.1.Self,d.Desks.1.Leases,d.Desks.1.Calls,d.Desks.1.Order,d.Desks.2.Self,d.Desks.2.Leases,d.Desks.2.Calls,d.Desks.2.Order,d.Synced.1,d.Synced.2,d.Told,d.Spoken.1,d.Spoken.2)))))
theorem Ct (ho:zJ C) (v1:Bool) (v2:(List bG)) (v3:Int) (v6:Int) (p:(List ak)) (q:(List ar)) (u:(List Bool)) (v10:Int) (v11:(List ak)) (ab:(List ar)) (ad:(List Bool)) (bs:Int) (ca:Int) (an:(List ak)) (ao:(List ar)) (bm:(List ar)) {K:((Bool×Int×(List ak)×(List ar)×(List Bool)×Int×(List ak)×(List ar)×(List Bool)×Int×Int×(List ak)×(List ar)×(List ar)×Int×(List ak)×(List ar)×(List Bool)×Int×(List ak)×(List ar)×(List Bool)×Int×Int×(List ak)×(List ar)×(List ar)×Int×Int×Int×Int×Int×(List ak)×(List ar)×(List Bool)×Int×(List ak)×(List ar)×(List Bool)×Int×Int×(List ak)×(List ar)×(List ar))⊕(Int×(List ak)×(List ar)×(List Bool)×Int×(List ak)×(List ar)×(List Bool)×Int×Int×(List ak)×(List ar)×(List ar)))->Option γ} (x0:∀ (o0:Bool) (o1:Int) (o2:(List ak)) (o3:(List ar)) (o4:(List Bool)) (o5:Int) (o6:(List ak)) (o7:(List ar)) (o8:(List Bool)) (o9:Int) (qW:Int) (BH:(List ak)) (zo:(List ar)) (GL:(List ar)) (BS:Int) (Eh:(List ak)) (ei:(List ar)) (DP:(List Bool)) (ej:Int) (HD:(List ak)) (HE:(List ar)) (Kr:(List Bool)) (fs:Int) (fv:Int) (E3:(List ak)) (Ks:(List ar)) (IA:(List ar)) (HF:Int) (gf:Int) (Kt:Int) (Ku:Int) (Kv:Int) (Kw:(List ak)) (Kx:(List ar)) (HG:(List Bool)) (Ky:Int) (ha:(List ak)) (hd:(List ar)) (hf:(List Bool)) (hg:Int) (hh:Int) (hi:(List ak)) (hj:(List ar)) (hk:(List ar)) (s2:A) (dd:A) (ds:A) (ea:A),J φ (kr (St.mk [(2,s2),(4,(pt 1 0)),(5,(bA o0)),(10,dd),(11,ds),(12,ea)] [bx [(iA o1),(im (o2.map ae) false),(im (o3.map ah) false),(im (o4.map cB) false),(iA o5),(im (o6.map ae) false),(im (o7.map ah) false),(im (o8.map cB) false),(iA o9),(iA qW),(im (BH.map ae) false),(im (zo.map ah) false),(im (GL.map ah) false)],bx [(iA BS),(im (Eh.map ae) false),(im (ei.map ah) false),(im (DP.map cB) false),(iA ej),(im (HD.map ae) false),(im (HE.map ah) false),(im (Kr.map cB) false),(iA fs),(iA fv),(im (E3.map ae) false),(im (Ks.map ah) false),(im (IA.map ah) false)],bx [(iA HF),(iA gf),(iA Kt),(iA Ku)],bx [(iA Kv),(im (Kw.map ae) false),(im (Kx.map ah) false),(im (HG.map cB) false),(iA Ky),(im (ha.map ae) false),(im (hd.map ah) false),(im (hf.map cB) false),(iA hg),(iA hh),(im (hi.map ae) false),(im (hj.map ah) false),(im (hk.map ah) false)]])) kL (K (Sum.inl ((o0,o1,o2,o3,o4,o5,o6,o7,o8,o9,qW,BH,zo,GL,BS,Eh,ei,DP,ej,HD,HE,Kr,fs,fv,E3,Ks,IA,HF,gf,Kt,Ku,Kv,Kw,Kx,HG,Ky,ha,hd,hf,hg,hh,hi,hj,hk)))) some) (x1:∀ (o0:Int) (o1:(List ak)) (o2:(List ar)) (o3:(List Bool)) (o4:Int) (o5:(List ak)) (o6:(List ar)) (o7:(List Bool)) (o8:Int) (o9:Int) (qW:(List ak)) (BH:(List ar)) (zo:(List ar)) (s5:A) (dd:A) (ds:A) (ea:A),J φ (kx 0 (St.mk [(2,(pt 0 0)),(4,(pt 1 0)),(5,s5),(10,dd),(11,ds),(12,ea)] [bx [(iA o0),(im (o1.map ae) false),(im (o2.map ah) false),(im (o3.map cB) false),(iA o4),(im (o5.map ae) false),(im (o6.map ah) false),(im (o7.map cB) false),(iA o8),(iA o9),(im (qW.map ae) false),(im (BH.map ah) false),(im (zo.map ah) false)],(oM v6 p q u v10 v11 ab ad bs ca an ao bm)])) kL (K (Sum.inr ((o0,o1,o2,o3,o4,o5,o6,o7,o8,o9,qW,BH,zo)))) some) :
  ∀ (m:Nat) (v4:Int) (h:bu),J φ (aH (cx C) (ec C n 8) (ey C n 8) (n+8) 27 0 0 2 kx kg kr kp m (St.mk [(2,(pt 0 0)),(4,(pt 1 0)),(5,(bA v1)),(10,(im (v2.map bK) false)),(11,(iA v3)),(12,(iA v4))] [bx (aB h),(oM v6 p q u v10 v11 ab ad bs ca an ao bm)])) kL (pd n v1 v2 v3 v6 p q u v10 v11 ab ad bs ca an ao bm m v4 h) K:=by
 intro m
 induction m with
 | zero=>intros; exact .nn
 | succ m ih =>
  intro v4 h
  refine .lp (Js ..) ?_
  unfold pd
  refine .st (aS ..) (.aP (fun hs=>?_) (fun hs=>?_))
  ·refine .bd (fJ (e:=49) (es:=4)) fun cb=>.s (ag (bK cb)) (.sq (pt 2 0) (.s [bx (aB h),(oM v6 p q u v10 v11 ab ad bs ca an ao bm),bx (bK cb)] (.s (ag (aB h)) (.s (ag (bK cb)) (.bd (g:=fun (y:(bu×Int))=>(tp [(ag [(iA y.1.Desks.1.Self),(im (y.1.Desks.1.Leases.map ae) false),(im (y.1.Desks.1.Calls.map ah) false),(im (y.1.Desks.1.Order.map cB) false),(iA y.1.Desks.2.Self),(im (y.1.Desks.2.Leases.map ae) false),(im (y.1.Desks.2.Calls.map ah) false),(im (y.1.Desks.2.Order.map cB) false),(iA y.1.Synced.1),(iA y.1.Synced.2),(im (y.1.Told.map ae) false),(im (y.1.Spoken.1.map ah) false),(im (y.1.Spoken.2.map ah) false)]),(iA y.2)])) (by show C 17 [snap _ (ag (aB h)),snap _ (ag (bK cb))]=_; simp only[cR,dS]; exact ho h cb) fun d=>.s (ag (aB d.1)) (.s (iA d.2) (.sq (pt 3 0) (.s [bx (aB h),(oM v6 p q u v10 v11 ab ad bs ca an ao bm),bx (bK cb),bx (aB d.1)] (.st (ba ..) (.aP (fun ht=>?_) (fun ht=>?_)))))))))))
   ·exact .s (ag (aB h)) (.s [bx (aB h),bx (aB h),bx (bK cb),bx (aB d.1)] (.ex (x0 _ _ _ _ _ _ _ _ _ _ _ _ _ _ _ _ _ _ _ _ _ _ _ _ _ _ _ _ _ _ _ _ _ _ _ _ _ _ _ _ _ _ _ _ _ _ _ _)))
   refine .s (ag (aB d.1)) (.s [bx (aB d.1),(oM v6 p q u v10 v11 ab ad bs ca an ao bm),bx (bK cb),bx (aB d.1)] (.st (aD ..) (.st (v:=[bx (aB d.1),(oM v6 p q u v10 v11 ab ad bs ca an ao bm)]) ((by kernel_rfl:_=(bif ((((au 2 (d.1.Desks.1.Leases.map ae))&&((au 2 (d.1.Desks.1.Calls.map ah))&&((au 2 (d.1.Desks.1.Order.map cB))&&((au 2 (d.1.Desks.2.Leases.map ae))&&((au 2 (d.1.Desks.2.Calls.map ah))&&((au 2 (d.1.Desks.2.Order.map cB))&&((au 2 (d.1.Told.map ae))&&((au 2 (d.1.Spoken.1.map ah))&&((au 2 (d.1.Spoken.2.map ah))&&true))))))))))&&((((au 2 (p.map ae))&&((au 2 (q.map ah))&&((au 2 (u.map cB))&&((au 2 (v11.map ae))&&((au 2 (ab.map ah))&&((au 2 (ad.map cB))&&((au 2 (an.map ae))&&((au 2 (ao.map ah))&&((au 2 (bm.map ah))&&true))))))))))&&true)) then some [bx (aB d.1),(oM v6 p q u v10 v11 ab ad bs ca an ao bm)] else none)).trans (by simp only[iC,iD])) (.cT ((by kernel_rfl:_=(bif au 2 (v2.map bK) then true else false)).trans (by simp only[iC,iD])) ?_))))
   exact ih _ _
  exact .ex (x1 _ _ _ _ _ _ _ _ _ _ _ _ _ _ _ _ _)
def MI (n:Nat) (h:bu) (d:(List bG)):Option (bu×Bool) :=
 (pd n false d ((d.length:Int)) 0 ([]) ([]) ([]) 0 ([]) ([]) ([]) 0 0 ([]) ([]) ([]) (n+8) 0 h).bind fun p=>match p with | (Sum.inl ((q,hd,hf,hg,hh,hi,hj,hk,ho,hp,hq,hr,hs,ht,u,y,ab,ad,an,ao,bm,bs,ca,cb,cc,ch,ck,hv,hx,hy,ie,ih,ik,js,kc,kk,kn,ko,kt,la,lb,lx,ly,mn)))=>some (((bu.mk (((aj.mk u y ab ad),(aj.mk an ao bm bs))) ((ca,cb)) cc ((ch,ck))),q)) | (Sum.inr ((cm,cv,cy,dd,ds,ea,eg,ei,ej,fs,fv,gf,ha)))=>some (((bu.mk (((aj.mk cm cv cy dd),(aj.mk ds ea eg ei))) ((ej,fs)) fv ((gf,ha))),true))
theorem Qv (C:OT) (n:Nat) (ha:zJ C) (d:bu) (a1:(List bG)):J (fun (o:R) y=>∃ v,o.1=.ret v/\aE o.2 v=(tp [(ag [(iA y.1.Desks.1.Self),(im (y.1.Desks.1.Leases.map ae) false),(im (y.1.Desks.1.Calls.map ah) false),(im (y.1.Desks.1.Order.map cB) false),(iA y.1.Desks.2.Self),(im (y.1.Desks.2.Leases.map ae) false),(im (y.1.Desks.2.Calls.map ah) false),(im (y.1.Desks.2.Order.map cB) false),(iA y.1.Synced.1),(iA y.1.Synced.2),(im (y.1.Told.map ae) false),(im (y.1.Spoken.1.map ah) false),(im (y.1.Spoken.2.map ah) false)]),(bA y.2)])) (av (cx C) (ec C n 8) (ey C n 8) (n+8) 27 [(ag (aB d)),(im (a1.map bK) false)] [] 0) some (MI n d a1) some:=by
 refine .lp (Rc ..) ?_
 unfold MI
 refine .s ((pt 0 0),[bx (aB d)]) (.s ((pt 1 0),[bx (aB d),bx [(iA 0),(im [] true),(im [] true),(im [] true),(iA 0),(im [] true),(im [] true),(im [] true),(iA 0),(iA 0),(im [] true),(im [] true),(im [] true)]]) (.st (dQ (e:=49)) (.as (Ct C n _ _ _ _ ha false a1 ((a1.length:Int)) 0 ([]) ([]) ([]) 0 ([]) ([]) ([]) 0 0 ([]) ([]) ([]) ?_ ?_ _ 0 d))))
 ·intro hd hf hg hh hi hj hk ho hp hq hr hs ht hv ck cm cv cy dd ds ea eg ei ej fs fv gf hx hy ie ih ik js kc kk kn ko kt la lb lx ly mn mx nb nf ni ns
  exact .un rfl (.s (ag [(iA ck),(im (cm.map ae) false),(im (cv.map ah) false),(im (cy.map cB) false),(iA dd),(im (ds.map ae) false),(im (ea.map ah) false),(im (eg.map cB) false),(iA ei),(iA ej),(im (fs.map ae) false),(im (fv.map ah) false),(im (gf.map ah) false)]) (.lv (by show aE _ (tp [(ag [(iA ck),(im (cm.map ae) false),(im (cv.map ah) false),(im (cy.map cB) false),(iA dd),(im (ds.map ae) false),(im (ea.map ah) false),(im (eg.map cB) false),(iA ei),(iA ej),(im (fs.map ae) false),(im (fv.map ah) false),(im (gf.map ah) false)]),(bA hd)])=_; simp only[cR,jL,aE]; first | done | rfl)))
 ·intro h p q u ab ad an ao bm bs ca cb cc nt oa oc oi
  exact .un rfl (.cT (by kernel_rfl) (.s (ag [(iA h),(im (p.map ae) false),(im (q.map ah) false),(im (u.map cB) false),(iA ab),(im (ad.map ae) false),(im (an.map ah) false),(im (ao.map cB) false),(iA bm),(iA bs),(im (ca.map ae) false),(im (cb.map ah) false),(im (cc.map ah) false)]) (.s [bx [(iA h),(im (p.map ae) false),(im (q.map ah) false),(im (u.map cB) false),(iA ab),(im (ad.map ae) false),(im (an.map ah) false),(im (ao.map cB) false),(iA bm),(iA bs),(im (ca.map ae) false),(im (cb.map ah) false),(im (cc.map ah) false)],bx [(iA h),(im (p.map ae) false),(im (q.map ah) false),(im (u.map cB) false),(iA ab),(im (ad.map ae) false),(im (an.map ah) false),(im (ao.map cB) false),(iA bm),(iA bs),(im (ca.map ae) false),(im (cb.map ah) false),(im (cc.map ah) false)]] (.s (ag [(iA h),(im (p.map ae) false),(im (q.map ah) false),(im (u.map cB) false),(iA ab),(im (ad.map ae) false),(im (an.map ah) false),(im (ao.map cB) false),(iA bm),(iA bs),(im (ca.map ae) false),(im (cb.map ah) false),(im (cc.map ah) false)]) (.lv (by show aE _ (tp [(ag [(iA h),(im (p.map ae) false),(im (q.map ah) false),(im (u.map cB) false),(iA ab),(im (ad.map ae) false),(im (an.map ah) false),(im (ao.map cB) false),(iA bm),(iA bs),(im (ca.map ae) false),(im (cb.map ah) false),(im (cc.map ah) false)]),(bA true)])=_; simp only[cR,jL,aE]; first | done | rfl))))))
def IT (d:bu) (h:(List bG)):Option (bu×Bool):=MI aC d h
def FY (C:OT):Prop:=∀ (d:bu) (h:(List bG)),C 27 [(ag (aB d)),(im (h.map bK) false)]=(IT d h).map fun y=>(tp [(ag [(iA y.1.Desks.1.Self),(im (y.1.Desks.1.Leases.map ae) false),(im (y.1.Desks.1.Calls.map ah) false),(im (y.1.Desks.1.Order.map cB) false),(iA y.1.Desks.2.Self),(im (y.1.Desks.2.Leases.map ae) false),(im (y.1.Desks.2.Calls.map ah) false),(im (y.1.Desks.2.Order.map cB) false),(iA y.1.Synced.1),(iA y.1.Synced.2),(im (y.1.Told.map ae) false),(im (y.1.Spoken.1.map ah) false),(im (y.1.Spoken.2.map ah) false)]),(bA y.2)])
def kl (n:Nat) (v2:(List ak)) (q:(List ak)) (v4:Bool):Nat->Int->Option ((Bool)⊕(Unit))
 | 0,_=>none
 | m+1,d=>bif (decide (d<((v2.length:Int)))) then ((bw v2 d).bind fun h=>(bw q d).bind fun p=>bif (!((h.No==p.No)&&((h.Holder==p.Holder)&&(h.Until==p.Until)))) then (some ((Sum.inl false))) else (kl n v2 q v4 m (wr .i64 (d+1)))) else (some ((Sum.inr (()))))
theorem Cq (v2:(List ak)) (y:(List ak)) (v4:Bool) {K:((Bool)⊕(Unit))->Option γ} (x0:∀ (o0:Bool) (p:A) (s1:A) (q:A),J φ (kr (St.mk [(0,p),(1,s1),(4,(bA o0)),(5,q)] [])) kL (K (Sum.inl o0)) some) (x1:∀ (p:A) (s1:A) (s4:A) (q:A),J φ (kx 0 (St.mk [(0,p),(1,s1),(4,s4),(5,q)] [])) kL (K (Sum.inr (()))) some) :
  ∀ (m:Nat) (u:Int),J φ (aH (cx C) (ec C n 8) (ey C n 8) (n+8) 19 0 0 0 kx kg kr kp m (St.mk [(0,(im (v2.map ae) false)),(1,(im (y.map ae) false)),(4,(bA v4)),(5,(iA u))] [])) kL (kl n v2 y v4 m u) K:=by
 intro m
 induction m with
 | zero=>intros; exact .nn
 | succ m ih =>
  intro u
  refine .lp (Jq ..) ?_
  unfold kl
  refine .st (dQ (e:=59)) (.st (aS ..) (.aP (fun bm=>?_) (fun bm=>?_)))
  ·refine .bd (fJ (e:=59) (es:=3)) fun d=>.s (ag (ae d)) (.bd (fJ (e:=59) (es:=3)) fun h=>.s (ag (ae h)) (.s (bA (!((d.No==h.No)&&((d.Holder==h.Holder)&&(d.Until==h.Until))))) (.aP (fun bs=>?_) (fun bs=>?_))))
   ·exact .ex (x0 _ _ _ _)
   refine .st (aD ..) (.s [] (.cT (by kernel_rfl) ?_))
   exact ih _
  exact .ex (x1 _ _ _ _)
def Le (n:Nat) (d:(List ak)) (h:(List ak)):Option Bool :=
 bif (((d.length:Int)) != ((h.length:Int))) then (some false) else ((kl n d h false (n+8) 0).bind fun qW=>match qW with | (Sum.inl p)=>some p | (Sum.inr _)=>some true)
theorem Qq (C:OT) (n:Nat) (d:(List ak)) (h:(List ak)):J (fun (o:R) y=>∃ v,o.1=.ret v/\aE o.2 v=(bA y)) (av (cx C) (ec C n 8) (ey C n 8) (n+8) 19 [(im (d.map ae) false),(im (h.map ae) false)] [] 0) some (Le n d h) some:=by
 refine .lp (Q7 ..) ?_
 unfold Le
 refine .st (dQ (e:=59)) (.st (dQ (e:=59)) (.st (ba ..) (.aP (fun p=>?_) (fun p=>?_))))
 ·exact .lv rfl
 refine .as (Cq C n _ _ _ _  d h false ?_ ?_ _ 0)
 ·intro q u ab ad
  exact .un rfl (.lv rfl)
 ·intro an ao bm bs
  exact .un rfl (.cT (by kernel_rfl) (.lv rfl))
def Ih (d:(List ak)) (h:(List ak)):Option Bool:=Le aC d h
def zK (C:OT):Prop:=∀ (d:(List ak)) (h:(List ak)),C 19 [(im (d.map ae) false),(im (h.map ae) false)]=(Ih d h).map fun y=>(bA y)
def km (n:Nat) (v2:(List ar)) (h:(List ar)) (v4:Bool):Nat->Int->Option ((Bool)⊕(Unit))
 | 0,_=>none
 | m+1,d=>bif (decide (d<((v2.length:Int)))) then ((bw v2 d).bind fun p=>(bw h d).bind fun q=>bif (!((p.Bar==q.Bar)&&(p.Program==q.Program))) then (some ((Sum.inl false))) else (km n v2 h v4 m (wr .i64 (d+1)))) else (some ((Sum.inr (()))))
theorem Cs (v2:(List ar)) (y:(List ar)) (v4:Bool) {K:((Bool)⊕(Unit))->Option γ} (x0:∀ (o0:Bool) (p:A) (s1:A) (q:A),J φ (kr (St.mk [(0,p),(1,s1),(4,(bA o0)),(5,q)] [])) kL (K (Sum.inl o0)) some) (x1:∀ (p:A) (s1:A) (s4:A) (q:A),J φ (kx 0 (St.mk [(0,p),(1,s1),(4,s4),(5,q)] [])) kL (K (Sum.inr (()))) some) :
  ∀ (m:Nat) (u:Int),J φ (aH (cx C) (ec C n 8) (ey C n 8) (n+8) 21 0 0 0 kx kg kr kp m (St.mk [(0,(im (v2.map ah) false)),(1,(im (y.map ah) false)),(4,(bA v4)),(5,(iA u))] [])) kL (km n v2 y v4 m u) K:=by
 intro m
 induction m with
 | zero=>intros; exact .nn
 | succ m ih =>
  intro u
  refine .lp (Jr ..) ?_
  unfold km
  refine .st (dQ (e:=62)) (.st (aS ..) (.aP (fun bm=>?_) (fun bm=>?_)))
  ·refine .bd (fJ (e:=62) (es:=2)) fun d=>.s (ag [(iA d.Bar),(iA d.Program)]) (.bd (fJ (e:=62) (es:=2)) fun h=>.s (ag [(iA h.Bar),(iA h.Program)]) (.s (bA (!((d.Bar==h.Bar)&&(d.Program==h.Program)))) (.aP (fun bs=>?_) (fun bs=>?_))))
   ·exact .ex (x0 _ _ _ _)
   refine .st (aD ..) (.s [] (.cT (by kernel_rfl) ?_))
   exact ih _
  exact .ex (x1 _ _ _ _)
def Lg (n:Nat) (d:(List ar)) (h:(List ar)):Option Bool :=
 bif (((d.length:Int)) != ((h.length:Int))) then (some false) else ((km n d h false (n+8) 0).bind fun qW=>match qW with | (Sum.inl p)=>some p | (Sum.inr _)=>some true)
theorem Qs (C:OT) (n:Nat) (d:(List ar)) (h:(List ar)):J (fun (o:R) y=>∃ v,o.1=.ret v/\aE o.2 v=(bA y)) (av (cx C) (ec C n 8) (ey C n 8) (n+8) 21 [(im (d.map ah) false),(im (h.map ah) false)] [] 0) some (Lg n d h) some:=by
 refine .lp (Q9 ..) ?_
 unfold Lg
 refine .st (dQ (e:=62)) (.st (dQ (e:=62)) (.st (ba ..) (.aP (fun p=>?_) (fun p=>?_))))
 ·exact .lv rfl
 refine .as (Cs C n _ _ _ _  d h false ?_ ?_ _ 0)
 ·intro q u ab ad
  exact .un rfl (.lv rfl)
 ·intro an ao bm bs
  exact .un rfl (.cT (by kernel_rfl) (.lv rfl))
def Ii (d:(List ar)) (h:(List ar)):Option Bool:=Lg aC d h
def zL (C:OT):Prop:=∀ (d:(List ar)) (h:(List ar)),C 21 [(im (d.map ah) false),(im (h.map ah) false)]=(Ii d h).map fun y=>(bA y)
def kj (n:Nat) (p:Bool) (d:aj) (h:aj):Nat->Int->Option ((Bool)⊕(Unit))
 | 0,_=>none
 | m+1,v30=>bif (decide (v30<((d.Order.length:Int)))) then ((bw d.Order v30).bind fun q=>(bw h.Order v30).bind fun u=>bif (q != u) then (some ((Sum.inl false))) else (kj n p d h m (wr .i64 (v30+1)))) else (some ((Sum.inr (()))))
theorem Co (cb:zK C) (cc:zL C) (u:Bool) (d:aj) (h:aj) {K:((Bool)⊕(Unit))->Option γ} (x0:∀ (y:Bool) (s2:A) (p:A) (q:A),J φ (kr (St.mk [(2,s2),(3,p),(4,(bA y)),(5,q)] [bx (aa d),bx (aa h)])) kL (K (Sum.inl y)) some) (x1:∀ (s2:A) (p:A) (s4:A) (q:A),J φ (kx 0 (St.mk [(2,s2),(3,p),(4,s4),(5,q)] [bx (aa d),bx (aa h)])) kL (K (Sum.inr (()))) some) :
  ∀ (m:Nat) (v30:Int),J φ (aH (cx C) (ec C n 8) (ey C n 8) (n+8) 14 0 0 2 kx kg kr kp m (St.mk [(2,(pt 0 0)),(3,(pt 1 0)),(4,(bA u)),(5,(iA v30))] [bx (aa d),bx (aa h)])) kL (kj n u d h m v30) K:=by
 intro m
 induction m with
 | zero=>intros; exact .nn
 | succ m ih =>
  intro v30
  refine .lp (Jo ..) ?_
  unfold kj
  refine .s (pt 0 3) (.s (im (d.Order.map cB) false) (.st (dQ (e:=4)) (.st (aS ..) (.aP (fun bs=>?_) (fun bs=>?_)))))
  ·refine .s (pt 0 3) (.s (im (d.Order.map cB) false) (.bd (fJ (e:=4) (es:=1)) fun ab=>.s (bA ab) (.s (pt 1 3) (.s (im (h.Order.map cB) false) (.bd (fJ (e:=4) (es:=1)) fun ad=>.s (bA ad) (.s (bA (ab != ad)) (.aP (fun ca=>?_) (fun ca=>?_))))))))
   ·exact .ex (x0 _ _ _ _)
   refine .st (aD ..) (.s [bx (aa d),bx (aa h)] (.cT (by kernel_rfl) ?_))
   exact ih _
  exact .ex (x1 _ _ _ _)
def Ld (n:Nat) (d:aj) (h:aj):Option Bool :=
 (bif (d.Self != h.Self) then (some true) else ((Ih d.Leases h.Leases).bind fun p=>some (!p))).bind fun q=>(bif q then (some true) else ((Ii d.Calls h.Calls).bind fun u=>some (!u))).bind fun y=>(bif y then (some true) else (some (((d.Order.length:Int)) != ((h.Order.length:Int))))).bind fun ab=>bif ab then (some false) else ((kj n false d h (n+8) 0).bind fun ad=>match ad with | (Sum.inl an)=>some an | (Sum.inr _)=>some true)
theorem Qo (C:OT) (n:Nat) (p:zK C) (q:zL C) (d:aj) (h:aj):J (fun (o:R) y=>∃ v,o.1=.ret v/\aE o.2 v=(bA y)) (av (cx C) (ec C n 8) (ey C n 8) (n+8) 14 [(ag (aa d)),(ag (aa h))] [] 0) some (Ld n d h) some:=by
 refine .lp (Q5 ..) ?_
 unfold Ld
 refine .s ((pt 0 0),[bx (aa d)]) (.s ((pt 1 0),[bx (aa d),bx (aa h)]) (.s (pt 0 0) (.s (iA d.Self) (.s (pt 1 0) (.s (iA h.Self) (.st (ba ..) (.bg (fun t (y:Bool)=>∃ u j5 j6 j7 j8 j9:A,t=[(bA y),u,j5,j6,j7,j8,j9]) ?_ ?_)))))))
 ·refine .dg (fun ei=>?_) (fun ei=>?_)
  ·exact .lg ⟨_,_,_,_,_,_,rfl⟩
  exact .s (pt 0 1) (.s (im (d.Leases.map ae) false) (.s (pt 1 1) (.s (im (h.Leases.map ae) false) (.bd (g:=fun (y:Bool)=>(bA y)) (by show C 19 [snap _ (im (d.Leases.map ae) false),snap _ (im (h.Leases.map ae) false)]=_; simp only[cR,dS]; exact p d.Leases h.Leases) fun y2=>.s (bA (!y2)) (.lg ⟨_,_,_,_,_,_,rfl⟩)))))
 rintro _ y3 ⟨u,j5,j6,j7,j8,j9,rfl⟩
 refine .u4 (.uc (.uc (.uc (.bg (fun t (y:Bool)=>∃ bs ca cb cc ch ck:A,t=[(bA y),bs,ca,cb,cc,ch,ck]) ?_ ?_))))
 ·refine .dg (fun fs=>?_) (fun fs=>?_)
  ·exact .lg ⟨_,_,_,_,_,_,rfl⟩
  exact .s (pt 0 2) (.s (im (d.Calls.map ah) false) (.s (pt 1 2) (.s (im (h.Calls.map ah) false) (.bd (g:=fun (y:Bool)=>(bA y)) (by show C 21 [snap _ (im (d.Calls.map ah) false),snap _ (im (h.Calls.map ah) false)]=_; simp only[cR,dS]; exact q d.Calls h.Calls) fun fv=>.s (bA (!fv)) (.lg ⟨_,_,_,_,_,_,rfl⟩)))))
 rintro _ hf ⟨bs,ca,cb,cc,ch,ck,rfl⟩
 refine .u4 (.uc (.uc (.uc (.bg (fun t (y:Bool)=>∃ cm cv cy dd ds ea eg:A,t=[(bA y),cm,cv,cy,dd,ds,ea,eg]) ?_ ?_))))
 ·refine .dg (fun gf=>?_) (fun gf=>?_)
  ·exact .lg ⟨_,_,_,_,_,_,_,rfl⟩
  exact .s (pt 0 3) (.s (im (d.Order.map cB) false) (.st (dQ (e:=4)) (.s (pt 1 3) (.s (im (h.Order.map cB) false) (.st (dQ (e:=4)) (.st (ba ..) (.lg ⟨_,_,_,_,_,_,_,rfl⟩)))))))
 rintro _ hg ⟨cm,cv,cy,dd,ds,ea,eg,rfl⟩
 refine .u4 (.u4 (.aP (fun ha=>?_) (fun ha=>?_)))
 ·exact .lv rfl
 refine .as (Co C n _ _ _ _ p q false d h ?_ ?_ _ 0)
 ·intro hh hi hj hk
  exact .un rfl (.lv rfl)
 ·intro ho hp hq hr
  exact .un rfl (.cT (by kernel_rfl) (.lv rfl))
def Ed (d:aj) (h:aj):Option Bool:=Ld aC d h
def zI (C:OT):Prop:=∀ (d:aj) (h:aj),C 14 [(ag (aa d)),(ag (aa h))]=(Ed d h).map fun y=>(bA y)
end Go.Proofs.Ytdmgdjnadbakfaa
