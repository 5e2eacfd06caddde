/-
 The program's functions as plain functions: by a tool; each follows the interpreter.
-/
import Derived.Test.YtebkhfhcipnfgaaE
namespace Go.Proofs.Ytebkhfhcipnfgaa
open Go.Proofs.Try (prog)
set_option linter.unusedVariables false
set_option linter.unusedSimpArgs false
set_option maxHeartbeats 4000000
set_option maxRecDepth 100000
set_option linter.defProp false
theorem so {p:Prop} (h:p:=by simp only[cP,gR,bp]; first | done | rfl):p:=h
theorem u2 {p:Prop} (h:p:=by simp only[df,dg]):p:=h
theorem x8 {p:Prop} (h:p:=by simp only[uB,df,bO,eu,Nat.reduceAdd,dg,Nat.reduceLT,decide_true]):p:=h
theorem H7 {p:Prop} (h:p:=by simp only[List.map_cons,List.map_nil,dB]):p:=h
theorem ZY {p:Prop} (h:p:=by simp only[uB,df,List.length_cons,List.length_nil,Nat.reduceAdd,dg,Nat.reduceLT,decide_true]):p:=h
theorem Z1 {p:Prop} (h:p:=by simp only[uB,df,List.length_cons,List.length_nil,Nat.reduceAdd,dg,Nat.reduceLT,decide_true,bo]):p:=h
theorem Z3 {p:Prop} (h:p:=by simp only[uB,df,List.length_cons,List.length_nil,Nat.reduceAdd,dg,Nat.reduceLT,decide_true,qQ]):p:=h
def qdw:=@Nat.add_sub_cancel
variable (C:Nat->List A->Option A) (n:Nat) {ρ γ:Type} {φ:ρ->γ->Prop} {kL:R->Option ρ} (kx kg:Nat->St->Option R) (kr:St->Option R) (kp:A->St->Option R)
abbrev OT:=Nat->List A->Option A
abbrev jR:=ByteArray.empty
abbrev sA (s:ByteArray):A:=.v (.string s)
abbrev se:A:=sA jR
abbrev im:=A.imm
abbrev Z5:A:=im [] true
abbrev ag:=A.agg
abbrev pt:=A.ptr
abbrev tp:=A.tup
abbrev bD:=A.sl
abbrev bx:=aA.box
abbrev tz (k:Nat) (a b:List A):A:=A.fn (Fn.func k) a b
abbrev ZN:aA:=aA.box [(A.imm [] true),(A.imm [] true),(iA 0),(bA false)]
abbrev ZM:aA:=aA.box [(A.imm [] true),(iA 0),(iA 0)]
noncomputable abbrev ec (C:Nat->List A->Option A) (n k:Nat):=dH (cx C) (n+k)
noncomputable abbrev ey (C:Nat->List A->Option A) (n k:Nat):=bz (cx C) (n+k)
structure aw where
 Kind:Int
 N:Int
 S:ByteArray
 L:(List aw)
 deriving Inhabited
mutual
def dQ:aw->A
 | .mk _ _ _ l=>.imm (cO l) false
def cO:List aw->List (List A)
 | []=>[]
 | x :: r=>[(iA x.Kind),(iA x.N),(sA x.S),dQ x] :: cO r
end
def az (x:aw):List A:=[(iA x.Kind),(iA x.N),(sA x.S),dQ x]
theorem vD:∀ (l:List aw),cO l=l.map az
 | []=>by rw[cO]; rfl
 | x :: r=>by rw[cO,vD r]; rfl
theorem Cu (x:aw):dQ x=.imm (x.L.map az) false:=by
 cases x; rw[dQ,vD]
abbrev ar (x:aw):List A:=[(iA x.Kind),(iA x.N),(sA x.S),.imm (x.L.map az) false]
theorem dB (x:aw):az x=[(iA x.Kind),(iA x.N),(sA x.S),.imm (x.L.map az) false]:=by
 show [(iA x.Kind),(iA x.N),(sA x.S),dQ x]=_;rw[Cu]
theorem fc (o:Option aw):(o.map λx=>A.ip (az x))=o.map λx=>A.ip [(iA x.Kind),(iA x.N),(sA x.S),.imm (x.L.map az) false]:=by
 cases o with
 | none=>rfl
 | some x=>exact qa7 (λz=>some (A.ip z)) (dB x)
theorem B8:mi az:=λx=>by rw[dB]; rfl
mutual
theorem wm (L:Nat):∀ (x:aw),A.under L (dQ x)=true
 | .mk _ _ _ l=>by rw[dQ,A.under]; exact wv L l
theorem wv (L:Nat):∀ (l:List aw),aH L (cO l)=true
 | []=>by rw[cO]; rfl
 | x :: r=>by rw[cO,aH,wv L r]; simp only[bw,A.under,wm L x,qbn,qbm]
end
mutual
theorem vZ (g:Nat->Nat->Nat->A):∀ (x:aw),cZ g (dQ x)=dQ x
 | .mk _ _ _ l=>by rw[dQ,cZ,wk g l]
theorem wk (g:Nat->Nat->Nat->A):∀ (l:List aw),dM g (cO l)=cO l
 | []=>by rw[cO]; rfl
 | x :: r=>by rw[cO,dM,wk g r]; simp only[bu,cZ,vZ g x]
end
theorem dI:dG az:=λL x=>by unfold az; simp only[bw,A.under,wm L x,qbn,qbm]
theorem cH:cz az:=λg x=>by unfold az; simp only[bu,cZ,vZ g x]
mutual
theorem vw:∀ (x y:aw),dQ x=dQ y->x.L=y.L
 | .mk xKind xN xS l,.mk yKind yN yS l'=>λh=>by
  rw[dQ,dQ,A.imm.injEq] at h;exact vA l l' h.1
theorem vA:∀ (l l':List aw),cO l=cO l'->l=l'
 | [],[]=>λ_=>rfl
 | [],y :: r=>λh=>by rw[cO,cO] at h; cases h
 | x :: r,[]=>λh=>by rw[cO,cO] at h; cases h
 | x :: r,y :: r'=>λh=>by
  rw[cO,cO,qa9] at h;have h2:=vA r r' h.2;have h1:=h.1;simp only[qa9,A.v.injEq,qbD,qbE,qbA,qcr,qcd] at h1;have h3:=vw x y (by simp[h1]);rw[h2];congr 1;obtain ⟨xKind,xN,xS,lx⟩:=x; obtain ⟨yKind,yN,yS,ly⟩:=y
  simp_all
end
theorem iX {T:Type} {f:T->List A} {H:Heap} {l:List T} {rows:List (List A)} {c:Bool} (h:l.map f=rows):qm H (.imm rows c) f l:=by
 rw[<-h]; exact bM ..
structure aJ where
 Kind:Int
 At:Int
 Role:Int
 Program:Int
 No:Int
 Bar:Int
 Deaf:Int
 Groups:(List UInt8)
 deriving DecidableEq,Inhabited
def ak (x:aJ):List A:=[(uA x.Kind),(uA x.At),(uA x.Role),(uA x.Program),(uA x.No),(A.v (.int .i8 x.Bar)),(A.v (.int .u16 x.Deaf)),(im (List.map c8 x.Groups) false)]
theorem br:dG ak:=λ_ _=>by simp only[ak,bw,A.under,dn,mD,mB,mC,mF,mE,qbn,qaX,dI]
theorem bq:cz ak:=λ_ _=>by simp only[ak,cZ,bu,cF,gI,fN,mz,mA,lP,cH]
structure aC where
 From:Int
 To:Int
 Data:(List UInt8)
 deriving DecidableEq,Inhabited
def al (x:aC):List A:=[(iA x.From),(iA x.To),(im (List.map c8 x.Data) false)]
theorem Ag:mi al:=λ_=>rfl
theorem dK:dG al:=λ_ _=>by simp only[al,bw,A.under,dn,mD,mB,mC,mF,mE,qbn,qaX,dI,br]
theorem cV:cz al:=λ_ _=>by simp only[al,cZ,bu,cF,gI,fN,mz,mA,lP,cH,bq]
def au (x:(Int×Int)):List A:=[(iA x.1),(iA x.2)]
theorem dq:dG au:=λ_ _=>by simp only[au,bw,A.under,dn,mD,mB,mC,mF,mE,qbn,qaX,dI,br,dK]
theorem dp:cz au:=λ_ _=>by simp only[au,cZ,bu,cF,gI,fN,mz,mA,lP,cH,bq,cV]
theorem wG (g:Nat->Nat->Nat->A) (x:(Int×Int)):bu g (au x)=au x:=dp g x
theorem vn (L:Nat) (x:(Int×Int)):bw L (au x)=true:=dq L x
structure aP where
 Queue:(List aC)
 Apart:(List (Int×Int))
 deriving DecidableEq,Inhabited
def dF (x:aP):List A:=[(im (List.map al x.Queue) false),(im (List.map au x.Apart) false)]
theorem hJ:dG dF:=λ_ _=>by simp only[dF,bw,A.under,dn,mD,mB,mC,mF,mE,qbn,qaX,dI,br,dK,dq]
theorem g9:cz dF:=λ_ _=>by simp only[dF,cZ,bu,cF,gI,fN,mz,mA,lP,cH,bq,cV,dp]
structure aE where
 No:Int
 Role:Int
 Bar:Int
 Program:Int
 deriving DecidableEq,Inhabited
def av (x:aE):List A:=[(iA x.No),(iA x.Role),(iA x.Bar),(iA x.Program)]
theorem rC:mi av:=λ_=>rfl
theorem iQ:dG av:=λ_ _=>by simp only[av,bw,A.under,dn,mD,mB,mC,mF,mE,qbn,qaX,dI,br,dK,dq,hJ]
theorem gq:cz av:=λ_ _=>by simp only[av,cZ,bu,cF,gI,fN,mz,mA,lP,cH,bq,cV,dp,g9]
structure aR where
 Cues:(List aE)
 Got:(List Int)
 Did:(List Int)
 deriving DecidableEq,Inhabited
def aB (x:aR):List A:=[(im (List.map av x.Cues) false),(im (List.map (cI .i64) x.Got) false),(im (List.map (cI .i64) x.Did) false)]
theorem rD:mi aB:=λ_=>rfl
theorem jB:dG aB:=λ_ _=>by simp only[aB,bw,A.under,dn,mD,mB,mC,mF,mE,qbn,qaX,dI,br,dK,dq,hJ,iQ]
theorem eh:cz aB:=λ_ _=>by simp only[aB,cZ,bu,cF,gI,fN,mz,mA,lP,cH,bq,cV,dp,g9,gq]
structure ay where
 Net:aP
 Ears:(List aR)
 Bar:Int
 deriving DecidableEq,Inhabited
def aq (x:ay):List A:=[(im (List.map al x.Net.Queue) false),(im (List.map au x.Net.Apart) false),(im (List.map aB x.Ears) false),(iA x.Bar)]
theorem hU:dG aq:=λ_ _=>by simp only[aq,bw,A.under,dn,mD,mB,mC,mF,mE,qbn,qaX,dI,br,dK,dq,hJ,iQ,jB]
theorem gi:cz aq:=λ_ _=>by simp only[aq,cZ,bu,cF,gI,fN,mz,mA,lP,cH,bq,cV,dp,g9,gq,eh]
structure c9 where
 w:ay
 arrived:(List (List aE))
 deriving DecidableEq,Inhabited
def aU (x:c9):List A:=[(im (List.map al x.w.Net.Queue) false),(im (List.map au x.w.Net.Apart) false),(im (List.map aB x.w.Ears) false),(iA x.w.Bar),(im (List.map (cL av) x.arrived) false)]
theorem b6:dG aU:=λ_ _=>by simp only[aU,bw,A.under,dn,mD,mB,mC,mF,mE,qbn,qaX,dI,br,dK,dq,hJ,iQ,jB,hU]
theorem bZ:cz aU:=λ_ _=>by simp only[aU,cZ,bu,cF,gI,fN,mz,mA,lP,cH,bq,cV,dp,g9,gq,eh,gi]
structure bH where
 Role:Int
 Bar:Int
 Program:Int
 deriving DecidableEq,Inhabited
def bF (x:bH):List A:=[(iA x.Role),(iA x.Bar),(iA x.Program)]
theorem ji:dG bF:=λ_ _=>by simp only[bF,bw,A.under,dn,mD,mB,mC,mF,mE,qbn,qaX,dI,br,dK,dq,hJ,iQ,jB,hU,b6]
theorem jh:cz bF:=λ_ _=>by simp only[bF,cZ,bu,cF,gI,fN,mz,mA,lP,cH,bq,cV,dp,g9,gq,eh,gi,bZ]
structure aQ where
 kind:Int
 cue:aE
 report:bH
 deriving DecidableEq,Inhabited
def ax (x:aQ):List A:=[(iA x.kind),(iA x.cue.No),(iA x.cue.Role),(iA x.cue.Bar),(iA x.cue.Program),(iA x.report.Role),(iA x.report.Bar),(iA x.report.Program)]
theorem ff:dG ax:=λ_ _=>by simp only[ax,bw,A.under,dn,mD,mB,mC,mF,mE,qbn,qaX,dI,br,dK,dq,hJ,iQ,jB,hU,b6,ji]
theorem fe:cz ax:=λ_ _=>by simp only[ax,cZ,bu,cF,gI,fN,mz,mA,lP,cH,bq,cV,dp,g9,gq,eh,gi,bZ,jh]
structure fQ where
 rest:(List UInt8)
 deriving DecidableEq,Inhabited
def bR (x:fQ):List A:=[(im (List.map c8 x.rest) false)]
theorem gJ:dG bR:=λ_ _=>by simp only[bR,bw,A.under,dn,mD,mB,mC,mF,mE,qbn,qaX,dI,br,dK,dq,hJ,iQ,jB,hU,b6,ji,ff]
theorem gG:cz bR:=λ_ _=>by simp only[bR,cZ,bu,cF,gI,fN,mz,mA,lP,cH,bq,cV,dp,g9,gq,eh,gi,bZ,jh,fe]
def dS (x:(Bool×Bool×Bool×Bool)):List A:=[(bA x.1),(bA x.2.1),(bA x.2.2.1),(bA x.2.2.2)]
theorem qN:dG dS:=λ_ _=>by simp only[dS,bw,A.under,dn,mD,mB,mC,mF,mE,qbn,qaX,dI,br,dK,dq,hJ,iQ,jB,hU,b6,ji,ff,gJ]
theorem qL:cz dS:=λ_ _=>by simp only[dS,cZ,bu,cF,gI,fN,mz,mA,lP,cH,bq,cV,dp,g9,gq,eh,gi,bZ,jh,fe,gG]
theorem Ck (g:Nat->Nat->Nat->A) (x:(Bool×Bool×Bool×Bool)):bu g (dS x)=dS x:=qL g x
theorem AI (L:Nat) (x:(Bool×Bool×Bool×Bool)):bw L (dS x)=true:=qN L x
structure da where
 B:(List UInt8)
 At:Int
 Bad:Bool
 deriving DecidableEq,Inhabited
def aW (x:da):List A:=[(im (List.map c8 x.B) false),(iA x.At),(bA x.Bad)]
theorem gK:dG aW:=λ_ _=>by simp only[aW,bw,A.under,dn,mD,mB,mC,mF,mE,qbn,qaX,dI,br,dK,dq,hJ,iQ,jB,hU,b6,ji,ff,gJ,qN]
theorem gH:cz aW:=λ_ _=>by simp only[aW,cZ,bu,cF,gI,fN,mz,mA,lP,cH,bq,cV,dp,g9,gq,eh,gi,bZ,jh,fe,gG,qL]
theorem Cl (g:Nat->Nat->Nat->A) (x:aw):bu g (az x)=az x:=cH g x
theorem AJ (L:Nat) (x:aw):bw L (az x)=true:=dI L x
theorem mf (g:Nat->Nat->Nat->A) (x:aJ):bu g (ak x)=ak x:=bq g x
theorem lR (L:Nat) (x:aJ):bw L (ak x)=true:=br L x
theorem AE (g:Nat->Nat->Nat->A) (x:aC):bu g (al x)=al x:=cV g x
theorem yL (L:Nat) (x:aC):bw L (al x)=true:=dK L x
theorem Hf (g:Nat->Nat->Nat->A) (x:aP):bu g (dF x)=dF x:=g9 g x
theorem E0 (L:Nat) (x:aP):bw L (dF x)=true:=hJ L x
theorem Hd (g:Nat->Nat->Nat->A) (x:aE):bu g (av x)=av x:=gq g x
theorem EY (L:Nat) (x:aE):bw L (av x)=true:=iQ L x
theorem He (g:Nat->Nat->Nat->A) (x:aR):bu g (aB x)=aB x:=eh g x
theorem EZ (L:Nat) (x:aR):bw L (aB x)=true:=jB L x
theorem Cm (g:Nat->Nat->Nat->A) (x:ay):bu g (aq x)=aq x:=gi g x
theorem AK (L:Nat) (x:ay):bw L (aq x)=true:=hU L x
theorem kS (g:Nat->Nat->Nat->A) (x:c9):bu g (aU x)=aU x:=bZ g x
theorem kG (L:Nat) (x:c9):bw L (aU x)=true:=b6 L x
theorem AF (g:Nat->Nat->Nat->A) (x:bH):bu g (bF x)=bF x:=jh g x
theorem yM (L:Nat) (x:bH):bw L (bF x)=true:=ji L x
theorem qM (g:Nat->Nat->Nat->A) (x:aQ):bu g (ax x)=ax x:=fe g x
theorem qh (L:Nat) (x:aQ):bw L (ax x)=true:=ff L x
theorem rN (g:Nat->Nat->Nat->A) (x:fQ):bu g (bR x)=bR x:=gG g x
theorem qO (L:Nat) (x:fQ):bw L (bR x)=true:=gJ L x
theorem k9 (g:Nat->Nat->Nat->A) (x:da):bu g (aW x)=aW x:=gH g x
theorem kT (L:Nat) (x:da):bw L (aW x)=true:=gK L x
theorem fB:xQ prog 105 105 107 4 56 [(iA 0),(iA 0),se,Z5] az:=⟨r7,r7,r7,r7,rfl,by decide,by decide,r7,λ_=>rfl,B8⟩
theorem dE:xQ prog 46 46 5 1 1 [(uA 0)] c8:=⟨r7,r7,r7,r7,rfl,by decide,by decide,r7,λ_=>rfl,LB⟩
theorem yo:xQ prog 46 9 5 1 1 [(uA 0)] c8:=⟨r7,r7,r7,r7,rfl,by decide,by decide,r7,λ_=>rfl,LB⟩
theorem Dm:xQ prog 22 22 48 3 40 [(iA 0),(iA 0),Z5] al:=⟨r7,r7,r7,r7,rfl,by decide,by decide,r7,λ_=>rfl,Ag⟩
theorem tW:xQ prog 53 53 30 4 32 [(iA 0),(iA 0),(iA 0),(iA 0)] av:=⟨r7,r7,r7,r7,rfl,by decide,by decide,r7,λ_=>rfl,rC⟩
theorem Dn:xQ prog 26 26 55 3 72 [Z5,Z5,Z5] aB:=⟨r7,r7,r7,r7,rfl,by decide,by decide,r7,λ_=>rfl,rD⟩
theorem pW:xQ prog 50 50 3 1 8 [(iA 0)] (cI .i64):=⟨r7,r7,r7,r7,rfl,by decide,by decide,r7,λ_=>rfl,(LC _)⟩
abbrev TJ {T:Type} (C:OT) (n k:Nat) (args:List A) (X:Option T) (f:T->A):Prop:=J (λ(o:R) y=>∃ v,o.1=.ret v/\bp o.2 v=f y) (aK (cx C) (ec C n 8) (ey C n 8) (n+8) k args [] 0) some X some
theorem nI {P:Nat->Prop} (h0:P 0) (hs:∀ m,P m->P (m+1)) (m:Nat):P m:=by
 induction m with
 | zero=>exact h0
 | succ m ih=>exact hs m ih
theorem bT {a b:Bool} (h:a=true) (h2:b=true):(bif a then b else false)=true:=by rw[h,h2]; rfl
section
variable {ρ γ σ α τ:Type} {φ:ρ->γ->Prop} {kL:σ->Option ρ} {K:α->Option γ} {R:Option α} {k:τ->Option σ}
theorem J.NJ {X:Option (List A)} {F:A->A->A->A->A->A->A->A->A->A->A->A->A->Option τ} (h:J φ (((X).bind λl=>aV l λa l=>aV l λb l=>aV l λc l=>aV l λd l=>aV l λe l=>aV l λf l=>aV l λg l=>aV l λh l=>aV l λi l=>aV l λj l=>aV l λm l=>aV l λn l=>aV l λo l=>F a b c d e f g h i j m n o).bind k) kL R K):J φ ((X).bind λl=>aV l λa l=>aV l λb l=>aV l λc l=>aV l λd l=>aV l λe l=>aV l λf l=>aV l λg l=>aV l λh l=>aV l λi l=>aV l λj l=>aV l λm l=>aV l λn l=>aV l λo l=>(F a b c d e f g h i j m n o).bind k) kL R K:=by simpa only [qaN,gw] using h
theorem J.NL {X:Option (List A)} {Y:A->A->A->A->A->A->A->A->A->A->A->A->A->A->A->A->A->A->A->A->A->A->A->A->A->A->A->A->A->Option (List A)} {F:A->A->A->A->A->A->A->A->A->A->A->A->A->A->A->A->A->A->A->A->A->A->A->A->A->A->A->A->A->A->Option τ} (h:J φ (((X).bind λl=>aV l λa l=>aV l λb l=>aV l λc l=>aV l λd l=>aV l λe l=>aV l λf l=>aV l λg l=>aV l λh l=>aV l λi l=>aV l λj l=>aV l λm l=>aV l λn l=>aV l λo l=>aV l λp l=>aV l λq l=>aV l λr l=>aV l λs l=>aV l λt l=>aV l λu l=>aV l λv l=>aV l λw l=>aV l λaa l=>aV l λab l=>aV l λac l=>aV l λad l=>aV l λae l=>aV l λaf l=>aV l λag l=>aV l λah l=>(Y a b c d e f g h i j m n o p q r s t u v w aa ab ac ad ae af ag ah).bind λl=>aV l λai l=>F a b c d e f g h i j m n o p q r s t u v w aa ab ac ad ae af ag ah ai).bind k) kL R K):J φ ((X).bind λl=>aV l λa l=>aV l λb l=>aV l λc l=>aV l λd l=>aV l λe l=>aV l λf l=>aV l λg l=>aV l λh l=>aV l λi l=>aV l λj l=>aV l λm l=>aV l λn l=>aV l λo l=>aV l λp l=>aV l λq l=>aV l λr l=>aV l λs l=>aV l λt l=>aV l λu l=>aV l λv l=>aV l λw l=>aV l λaa l=>aV l λab l=>aV l λac l=>aV l λad l=>aV l λae l=>aV l λaf l=>aV l λag l=>aV l λah l=>(Y a b c d e f g h i j m n o p q r s t u v w aa ab ac ad ae af ag ah).bind λl=>aV l λai l=>(F a b c d e f g h i j m n o p q r s t u v w aa ab ac ad ae af ag ah ai).bind k) kL R K:=by simpa only [qaN,gw] using h
theorem J.NM {X:Option (List A)} {Y:A->A->A->A->A->A->A->A->A->A->A->A->A->A->A->A->A->A->A->A->A->A->A->A->A->A->A->A->A->A->A->A->A->A->A->A->A->A->A->A->A->A->A->A->A->A->A->Option (List A)} {F:A->A->A->A->A->A->A->A->A->A->A->A->A->A->A->A->A->A->A->A->A->A->A->A->A->A->A->A->A->A->A->A->A->A->A->A->A->A->A->A->A->A->A->A->A->A->A->A->Option τ} (h:J φ (((X).bind λl=>aV l λa l=>aV l λb l=>aV l λc l=>aV l λd l=>aV l λe l=>aV l λf l=>aV l λg l=>aV l λh l=>aV l λi l=>aV l λj l=>aV l λm l=>aV l λn l=>aV l λo l=>aV l λp l=>aV l λq l=>aV l λr l=>aV l λs l=>aV l λt l=>aV l λu l=>aV l λv l=>aV l λw l=>aV l λaa l=>aV l λab l=>aV l λac l=>aV l λad l=>aV l λae l=>aV l λaf l=>aV l λag l=>aV l λah l=>aV l λai l=>aV l λaj l=>aV l λba l=>aV l λbb l=>aV l λbc l=>aV l λbd l=>aV l λbe l=>aV l λbf l=>aV l λbg l=>aV l λbh l=>aV l λbi l=>aV l λbj l=>aV l λca l=>aV l λcb l=>aV l λcc l=>aV l λcd l=>aV l λce l=>aV l λcf l=>(Y a b c d e f g h i j m n o p q r s t u v w aa ab ac ad ae af ag ah ai aj ba bb bc bd be bf bg bh bi bj ca cb cc cd ce cf).bind λl=>aV l λcg l=>F a b c d e f g h i j m n o p q r s t u v w aa ab ac ad ae af ag ah ai aj ba bb bc bd be bf bg bh bi bj ca cb cc cd ce cf cg).bind k) kL R K):J φ ((X).bind λl=>aV l λa l=>aV l λb l=>aV l λc l=>aV l λd l=>aV l λe l=>aV l λf l=>aV l λg l=>aV l λh l=>aV l λi l=>aV l λj l=>aV l λm l=>aV l λn l=>aV l λo l=>aV l λp l=>aV l λq l=>aV l λr l=>aV l λs l=>aV l λt l=>aV l λu l=>aV l λv l=>aV l λw l=>aV l λaa l=>aV l λab l=>aV l λac l=>aV l λad l=>aV l λae l=>aV l λaf l=>aV l λag l=>aV l λah l=>aV l λai l=>aV l λaj l=>aV l λba l=>aV l λbb l=>aV l λbc l=>aV l λbd l=>aV l λbe l=>aV l λbf l=>aV l λbg l=>aV l λbh l=>aV l λbi l=>aV l λbj l=>aV l λca l=>aV l λcb l=>aV l λcc l=>aV l λcd l=>aV l λce l=>aV l λcf l=>(Y a b c d e f g h i j m n o p q r s t u v w aa ab ac ad ae af ag ah ai aj ba bb bc bd be bf bg bh bi bj ca cb cc cd ce cf).bind λl=>aV l λcg l=>(F a b c d e f g h i j m n o p q r s t u v w aa ab ac ad ae af ag ah ai aj ba bb bc bd be bf bg bh bi bj ca cb cc cd ce cf cg).bind k) kL R K:=by simpa only [qaN,gw] using h
theorem J.QN {X:Option (List A)} {F:A->A->A->A->A->A->A->A->A->A->A->A->Option τ} (h:J φ (((X).bind λl=>aV l λa l=>aV l λb l=>aV l λc l=>aV l λd l=>aV l λe l=>aV l λf l=>aV l λg l=>aV l λh l=>aV l λi l=>aV l λj l=>aV l λm l=>aV l λn l=>F a b c d e f g h i j m n).bind k) kL R K):J φ ((X).bind λl=>aV l λa l=>aV l λb l=>aV l λc l=>aV l λd l=>aV l λe l=>aV l λf l=>aV l λg l=>aV l λh l=>aV l λi l=>aV l λj l=>aV l λm l=>aV l λn l=>(F a b c d e f g h i j m n).bind k) kL R K:=by simpa only [qaN,gw] using h
theorem J.ZD {X:Option (List A)} {F:A->A->A->A->A->Option τ} (h:J φ (((X).bind λl=>aV l λa l=>aV l λb l=>aV l λc l=>aV l λd l=>aV l λe l=>F a b c d e).bind k) kL R K):J φ ((X).bind λl=>aV l λa l=>aV l λb l=>aV l λc l=>aV l λd l=>aV l λe l=>(F a b c d e).bind k) kL R K:=by simpa only [qaN,gw] using h
theorem J.ZB {X:Option (List A)} {F:A->A->A->Option τ} (h:J φ (((X).bind λl=>aV l λa l=>aV l λb l=>aV l λc l=>F a b c).bind k) kL R K):J φ ((X).bind λl=>aV l λa l=>aV l λb l=>aV l λc l=>(F a b c).bind k) kL R K:=by simpa only [qaN,gw] using h
theorem J.ZA {X:Option (List A)} {F:A->A->Option τ} (h:J φ (((X).bind λl=>aV l λa l=>aV l λb l=>F a b).bind k) kL R K):J φ ((X).bind λl=>aV l λa l=>aV l λb l=>(F a b).bind k) kL R K:=by simpa only [qaN,gw] using h
theorem J.ZE {X:Option (List A)} {F:A->A->A->A->A->A->Option τ} (h:J φ (((X).bind λl=>aV l λa l=>aV l λb l=>aV l λc l=>aV l λd l=>aV l λe l=>aV l λf l=>F a b c d e f).bind k) kL R K):J φ ((X).bind λl=>aV l λa l=>aV l λb l=>aV l λc l=>aV l λd l=>aV l λe l=>aV l λf l=>(F a b c d e f).bind k) kL R K:=by simpa only [qaN,gw] using h
theorem J.NK {X:Option (List A)} {Y:A->A->A->A->A->A->A->A->A->A->A->A->A->A->A->A->A->A->A->A->Option (List A)} {F:A->A->A->A->A->A->A->A->A->A->A->A->A->A->A->A->A->A->A->A->A->Option τ} (h:J φ (((X).bind λl=>aV l λa l=>aV l λb l=>aV l λc l=>aV l λd l=>aV l λe l=>aV l λf l=>aV l λg l=>aV l λh l=>aV l λi l=>aV l λj l=>aV l λm l=>aV l λn l=>aV l λo l=>aV l λp l=>aV l λq l=>aV l λr l=>aV l λs l=>aV l λt l=>aV l λu l=>aV l λv l=>(Y a b c d e f g h i j m n o p q r s t u v).bind λl=>aV l λw l=>F a b c d e f g h i j m n o p q r s t u v w).bind k) kL R K):J φ ((X).bind λl=>aV l λa l=>aV l λb l=>aV l λc l=>aV l λd l=>aV l λe l=>aV l λf l=>aV l λg l=>aV l λh l=>aV l λi l=>aV l λj l=>aV l λm l=>aV l λn l=>aV l λo l=>aV l λp l=>aV l λq l=>aV l λr l=>aV l λs l=>aV l λt l=>aV l λu l=>aV l λv l=>(Y a b c d e f g h i j m n o p q r s t u v).bind λl=>aV l λw l=>(F a b c d e f g h i j m n o p q r s t u v w).bind k) kL R K:=by simpa only [qaN,gw] using h
theorem J.QO {X:Option (List A)} {Y:A->A->A->A->A->A->Option (List A)} {F:A->A->A->A->A->A->A->A->A->Option τ} (h:J φ (((X).bind λl=>aV l λa l=>aV l λb l=>aV l λc l=>aV l λd l=>aV l λe l=>aV l λf l=>(Y a b c d e f).bind λl=>aV l λg l=>aV l λh l=>aV l λi l=>F a b c d e f g h i).bind k) kL R K):J φ ((X).bind λl=>aV l λa l=>aV l λb l=>aV l λc l=>aV l λd l=>aV l λe l=>aV l λf l=>(Y a b c d e f).bind λl=>aV l λg l=>aV l λh l=>aV l λi l=>(F a b c d e f g h i).bind k) kL R K:=by simpa only [qaN,gw] using h
theorem J.ZC {X:Option (List A)} {F:A->A->A->A->Option τ} (h:J φ (((X).bind λl=>aV l λa l=>aV l λb l=>aV l λc l=>aV l λd l=>F a b c d).bind k) kL R K):J φ ((X).bind λl=>aV l λa l=>aV l λb l=>aV l λc l=>aV l λd l=>(F a b c d).bind k) kL R K:=by simpa only [qaN,gw] using h
theorem J.Vx {X:Option (List A)} {F:A->A->A->A->A->A->A->A->A->A->A->A->A->A->A->Option τ} (h:J φ (((X).bind λl=>aV l λa l=>aV l λb l=>aV l λc l=>aV l λd l=>aV l λe l=>aV l λf l=>aV l λg l=>aV l λh l=>aV l λi l=>aV l λj l=>aV l λm l=>aV l λn l=>aV l λo l=>aV l λp l=>aV l λq l=>F a b c d e f g h i j m n o p q).bind k) kL R K):J φ ((X).bind λl=>aV l λa l=>aV l λb l=>aV l λc l=>aV l λd l=>aV l λe l=>aV l λf l=>aV l λg l=>aV l λh l=>aV l λi l=>aV l λj l=>aV l λm l=>aV l λn l=>aV l λo l=>aV l λp l=>aV l λq l=>(F a b c d e f g h i j m n o p q).bind k) kL R K:=by simpa only [qaN,gw] using h
end
theorem gR:cz az/\cz ak/\cz al/\cz au/\cz dF/\cz av/\cz aB/\cz aq/\cz aU/\cz bF/\cz ax/\cz bR/\cz dS/\cz aW/\(∀ (g:Nat->Nat->Nat->A) (x:aw),bu g (az x)=az x)/\(∀ (g:Nat->Nat->Nat->A) (x:aJ),bu g (ak x)=ak x)/\(∀ (g:Nat->Nat->Nat->A) (x:aC),bu g (al x)=al x)/\(∀ (g:Nat->Nat->Nat->A) (x:(Int×Int)),bu g (au x)=au x)/\(∀ (g:Nat->Nat->Nat->A) (x:aP),bu g (dF x)=dF x)/\(∀ (g:Nat->Nat->Nat->A) (x:aE),bu g (av x)=av x)/\(∀ (g:Nat->Nat->Nat->A) (x:aR),bu g (aB x)=aB x)/\(∀ (g:Nat->Nat->Nat->A) (x:ay),bu g (aq x)=aq x)/\(∀ (g:Nat->Nat->Nat->A) (x:c9),bu g (aU x)=aU x)/\(∀ (g:Nat->Nat->Nat->A) (x:bH),bu g (bF x)=bF x)/\(∀ (g:Nat->Nat->Nat->A) (x:aQ),bu g (ax x)=ax x)/\(∀ (g:Nat->Nat->Nat->A) (x:fQ),bu g (bR x)=bR x)/\(∀ (g:Nat->Nat->Nat->A) (x:(Bool×Bool×Bool×Bool)),bu g (dS x)=dS x)/\(∀ (g:Nat->Nat->Nat->A) (x:da),bu g (aW x)=aW x)/\True:=⟨cH,bq,cV,dp,g9,gq,eh,gi,bZ,jh,fe,gG,qL,gH,Cl,mf,AE,wG,Hf,Hd,He,Cm,kS,AF,qM,rN,Ck,k9,trivial⟩
theorem fo:(cz az/\cz ak/\cz al/\cz au/\cz dF/\cz av/\cz aB/\cz aq/\cz aU/\cz bF/\cz ax/\cz bR/\cz dS/\cz aW/\(∀ (g:Nat->Nat->Nat->A) (x:aw),bu g (az x)=az x)/\(∀ (g:Nat->Nat->Nat->A) (x:aJ),bu g (ak x)=ak x)/\(∀ (g:Nat->Nat->Nat->A) (x:aC),bu g (al x)=al x)/\(∀ (g:Nat->Nat->Nat->A) (x:(Int×Int)),bu g (au x)=au x)/\(∀ (g:Nat->Nat->Nat->A) (x:aP),bu g (dF x)=dF x)/\(∀ (g:Nat->Nat->Nat->A) (x:aE),bu g (av x)=av x)/\(∀ (g:Nat->Nat->Nat->A) (x:aR),bu g (aB x)=aB x)/\(∀ (g:Nat->Nat->Nat->A) (x:ay),bu g (aq x)=aq x)/\(∀ (g:Nat->Nat->Nat->A) (x:c9),bu g (aU x)=aU x)/\(∀ (g:Nat->Nat->Nat->A) (x:bH),bu g (bF x)=bF x)/\(∀ (g:Nat->Nat->Nat->A) (x:aQ),bu g (ax x)=ax x)/\(∀ (g:Nat->Nat->Nat->A) (x:fQ),bu g (bR x)=bR x)/\(∀ (g:Nat->Nat->Nat->A) (x:(Bool×Bool×Bool×Bool)),bu g (dS x)=dS x)/\(∀ (g:Nat->Nat->Nat->A) (x:da),bu g (aW x)=aW x)/\True)/\(∀ {T U:Type} (f:T->U) (a:T) (l:List T),(a :: l).map f=f a :: l.map f)/\(∀ {T U:Type} (f:T->U),[].map f=[]):=⟨gR,λ_ _ _=>rfl,λ_=>rfl⟩
theorem dg:dG az/\dG ak/\dG al/\dG au/\dG dF/\dG av/\dG aB/\dG aq/\dG aU/\dG bF/\dG ax/\dG bR/\dG dS/\dG aW/\(∀ (L:Nat) (x:aw),bw L (az x)=true)/\(∀ (L:Nat) (x:aJ),bw L (ak x)=true)/\(∀ (L:Nat) (x:aC),bw L (al x)=true)/\(∀ (L:Nat) (x:(Int×Int)),bw L (au x)=true)/\(∀ (L:Nat) (x:aP),bw L (dF x)=true)/\(∀ (L:Nat) (x:aE),bw L (av x)=true)/\(∀ (L:Nat) (x:aR),bw L (aB x)=true)/\(∀ (L:Nat) (x:ay),bw L (aq x)=true)/\(∀ (L:Nat) (x:c9),bw L (aU x)=true)/\(∀ (L:Nat) (x:bH),bw L (bF x)=true)/\(∀ (L:Nat) (x:aQ),bw L (ax x)=true)/\(∀ (L:Nat) (x:fQ),bw L (bR x)=true)/\(∀ (L:Nat) (x:(Bool×Bool×Bool×Bool)),bw L (dS x)=true)/\(∀ (L:Nat) (x:da),bw L (aW x)=true)/\True:=⟨dI,br,dK,dq,hJ,iQ,jB,hU,b6,ji,ff,gJ,qN,gK,AJ,lR,yL,vn,E0,EY,EZ,AK,kG,yM,qh,qO,AI,kT,trivial⟩
def K2 {X Y:Type} [DecidableEq X]:List (X×Y)->X->Option Y
 | [],_=>none
 | e :: t,z=>if e.1=z then some e.2 else K2 t z
theorem Bt {X Y:Type} [DecidableEq X]:∀ {t:List (X×Y)} {z:X} {y:Y},K2 t z=some y->(z,y)∈t
 | [],_,_,h=>by cases h
 | e :: t,z,y,h=>by
  unfold K2 at h;split at h
  ·rename_i he;cases h; subst he;exact qbq ..
  ·exact qbp _ (Bt h)
noncomputable def RR (C:OT) (N:Nat) (k:Nat) (args:List A):Option A:=match dH (cx C) N k args [] 0 with
 | some (.ret x,H)=>some (bp H x)
 | _=>none
noncomputable def Cn:Nat->Nat->List A->Option A
 | 0=>λ_ _=>none
 | m+1=>RR (Cn m) 1000
def W4:List ((Unit)×Bool):=[((),true)]
def G7  : Option Bool:=K2 W4 ()
def OS (C:OT):Prop:=∀ (_:Unit),C 7 []=(G7 ).map λy=>(bA y)
def Rd (n:Nat) (a0:Int) (a1:Int) (a2:Int):Option Bool:=
 (bif (decide (a1<=a0)) then (some (decide (a0<=a2))) else (some false)).bind λa=>some a
theorem XG (C:OT) (n:Nat) (a0:Int) (a1:Int) (a2:Int):TJ C n 30 [(iA a0),(iA a1),(iA a2)] (Rd n a0 a1 a2) (λy=>(bA y)):=by
 refine .lp (Yv ..) ?_;unfold Rd;refine .st (jw ..) (.bg (λt (y:Bool)=>∃ a b c:A,t=[(bA y),a,b,c]) ?_ ?_)
 ·refine .bi ?_ ?_
  ·exact .st (jw ..) (.lg ⟨_,_,_,rfl⟩)
  exact .lg ⟨_,_,_,rfl⟩
 rintro _ d ⟨a,b,c,rfl⟩
 exact .u4 (.lv rfl)
def zH (a0:Int) (a1:Int) (a2:Int):Option Bool:=Rd aD a0 a1 a2
def oP (C:OT):Prop:=∀ (a0:Int) (a1:Int) (a2:Int),C 30 [(iA a0),(iA a1),(iA a2)]=(zH a0 a1 a2).map λy=>(bA y)
def S1 (n:Nat)  : Option aP:=
 some ((aP.mk ([]) ([])))
theorem XH (C:OT) (n:Nat):TJ C n 31 [] (S1 n ) (λy=>(ag [(im (y.Queue.map al) false),(im (y.Apart.map au) false)])):=by
 refine .lp (Yw ..) ?_;unfold S1;exact .s ((pt 0 0),[bx [Z5,Z5]]) (.s (ag [Z5,Z5]) (.s [bx [Z5,Z5]] (.s (ag [Z5,Z5]) (.lv so))))
def S5  : Option aP:=S1 aD
def Lh (C:OT):Prop:=∀ (_:Unit),C 31 []=(S5 ).map λy=>(ag [(im (y.Queue.map al) false),(im (y.Apart.map au) false)])
def Q5 (n:Nat) (a0:Int):Option (ay×Int):=
 (zH a0 1 12).bind λa=>bif (!a) then (some (((ay.mk ((aP.mk ([]) ([]))) ([]) 0),1))) else ((S5 ).bind λb=>(BE 72 a0 ((aR.mk ([]) ([]) ([])))).bind λc=>some (((ay.mk b c 0),0)))
theorem Xw (C:OT) (n:Nat) (c:oP C) (d:Lh C) (a0:Int):TJ C n 11 [(iA a0)] (Q5 n a0) (λy=>(tp [(ag (aq y.1)),(iA y.2)])):=by
 refine .lp (Yk ..) ?_;unfold Q5;refine .s ((pt 0 0),[bx [Z5,Z5,Z5,(iA 0)]]) (.bd (c a0 1 12) λh=>.s (bA (!h)) (.cu ?_ ?_))
 ·exact .s (ag [Z5,Z5,Z5,(iA 0)]) (.s [bx [Z5,Z5,Z5,(iA 0)]] (.s (ag [Z5,Z5,Z5,(iA 0)]) (.lv so)))
 exact .bd (d ()) λa=>.bd (g:=λ(y:List aR)=>((im (y.map aB) false),[bx [Z5,Z5,Z5,(iA 0)]])) (CS (e:=55) (es:=3) (f:=aB) (z:=(aR.mk ([]) ([]) ([]))) (z':=[Z5,Z5,Z5]) r7 r7 r7 r7 rfl (by decide) (λ_=>rfl)) λb=>.s (ag [(im (a.Queue.map al) false),(im (a.Apart.map au) false),(im (b.map aB) false),(iA 0)]) (.s [bx [(im (a.Queue.map al) false),(im (a.Apart.map au) false),(im (b.map aB) false),(iA 0)]] (.s (ag [(im (a.Queue.map al) false),(im (a.Apart.map au) false),(im (b.map aB) false),(iA 0)]) (.lv so)))
def Ol (a0:Int):Option (ay×Int):=Q5 aD a0
def Lg (C:OT):Prop:=∀ (a0:Int),C 11 [(iA a0)]=(Ol a0).map λy=>(tp [(ag (aq y.1)),(iA y.2)])
def S3 (n:Nat) (a0:Int) (a1:Int):Option (Int×Int):=
 some (((if a1<a0 then a1 else a0),(if a0<a1 then a1 else a0)))
theorem X3 (C:OT) (n:Nat) (a0:Int) (a1:Int):TJ C n 72 [(iA a0),(iA a1)] (S3 n a0 a1) (λy=>(ag [(iA y.1),(iA y.2)])):=by
 refine .lp (YW ..) ?_;unfold S3;exact .s ((pt 0 0),[bx [(iA 0),(iA 0)]]) (.s (iA ((if a1<a0 then a1 else a0))) (.s (iA ((if a0<a1 then a1 else a0))) (.s (ag [(iA ((if a1<a0 then a1 else a0))),(iA ((if a0<a1 then a1 else a0)))]) (.s [bx [(iA ((if a1<a0 then a1 else a0))),(iA ((if a0<a1 then a1 else a0)))]] (.s (ag [(iA ((if a1<a0 then a1 else a0))),(iA ((if a0<a1 then a1 else a0)))]) (.lv rfl))))))
def OE (a0:Int) (a1:Int):Option (Int×Int):=S3 aD a0 a1
def FX (C:OT):Prop:=∀ (a0:Int) (a1:Int),C 72 [(iA a0),(iA a1)]=(OE a0 a1).map λy=>(ag [(iA y.1),(iA y.2)])
def Rw (n:Nat) (a0:(Int×Int)):Option Bool:=
 (bif (decide (0<=a0.1)) then (some (decide (a0.1<a0.2))) else (some false)).bind λa=>(bif a then (some (decide (a0.2<24))) else (some false)).bind λb=>some b
theorem XZ (C:OT) (n:Nat) (a0:(Int×Int)):TJ C n 64 [(ag [(iA a0.1),(iA a0.2)])] (Rw n a0) (λy=>(bA y)):=by
 refine .lp (YR ..) ?_;unfold Rw;refine .s ((pt 0 0),[bx [(iA a0.1),(iA a0.2)]]) (.s (pt 0 0) (.s (iA a0.1) (.st (dD ..) (.bg (λt (y:Bool)=>∃ a b c d e:A,t=[(bA y),a,b,c,d,e]) ?_ ?_))))
 ·refine .bi ?_ ?_
  ·exact .s (pt 0 0) (.s (iA a0.1) (.s (pt 0 1) (.s (iA a0.2) (.st (aZ ..) (.lg ⟨_,_,_,_,_,rfl⟩)))))
  exact .lg ⟨_,_,_,_,_,rfl⟩
 rintro _ h ⟨a,b,c,d,e,rfl⟩
 refine .u4 (.uc (.uc (.bg (λt (y:Bool)=>∃ tC f g:A,t=[(bA y),tC,f,g]) ?_ ?_)))
 ·refine .bi ?_ ?_
  ·exact .s (pt 0 1) (.s (iA a0.2) (.st (aZ ..) (.lg ⟨_,_,_,rfl⟩)))
  exact .lg ⟨_,_,_,rfl⟩
 rintro _ i ⟨tC,f,g,rfl⟩
 exact .u4 (.lv rfl)
def NY (a0:(Int×Int)):Option Bool:=Rw aD a0
def Dd (C:OT):Prop:=∀ (a0:(Int×Int)),C 64 [(ag [(iA a0.1),(iA a0.2)])]=(NY a0).map λy=>(bA y)
def Rq (n:Nat) (a0:aC):Option Bool:=
 (OE a0.From a0.To).bind λa=>(NY a).bind λb=>(bif b then (some (decide (((a0.Data.length:Int))<=1048576))) else (some false)).bind λc=>some c
theorem XU (C:OT) (n:Nat) (f:Dd C) (g:FX C) (a0:aC):TJ C n 56 [(ag (al a0))] (Rq n a0) (λy=>(bA y)):=by
 refine .lp (YL ..) ?_;unfold Rq;refine .s ((pt 0 0),[bx (al a0)]) (.s2 (iA a0.From) (.s2 (iA a0.To) (.bd (g a0.From a0.To) λh=>.bd (f h) λi=>.bg (λt (y:Bool)=>∃ a b c d:A,t=[(bA y),a,b,c,d]) ?_ ?_)))
 ·refine .bi ?_ ?_
  ·exact .s (pt 0 2) (.s (im (a0.Data.map c8) false) (.st (eS (e:=5)) (.st (jw ..) (.lg ⟨_,_,_,_,rfl⟩))))
  exact .lg ⟨_,_,_,_,rfl⟩
 rintro _ j ⟨a,b,c,d,rfl⟩
 exact .u4 (.uc (.lv rfl))
def NW (a0:aC):Option Bool:=Rq aD a0
def FV (C:OT):Prop:=∀ (a0:aC),C 56 [(ag (al a0))]=(NW a0).map λy=>(bA y)
def Rv (n:Nat) (a0:aC):Option Bool:=
 (NW a0).bind λa=>some (!a)
theorem XY (C:OT) (n:Nat) (a:FV C) (a0:aC):TJ C n 63 [(ag (al a0))] (Rv n a0) (λy=>(bA y)):=by
 refine .lp (YQ ..) ?_;unfold Rv;exact .s ((pt 0 0),[bx (al a0)]) (.s (ag (al a0)) (.bd (g:=λ(y:Bool)=>(bA y)) (by simp only[cP,fo]; exact a a0) λb=>.s (bA (!b)) (.lv rfl)))
def OB (a0:aC):Option Bool:=Rv aD a0
def FW (C:OT):Prop:=∀ (a0:aC),C 63 [(ag (al a0))]=(OB a0).map λy=>(bA y)
def gV (n:Nat) (b:(List aC)) (c:Int):Nat->Int->Option ((Int)⊕(Unit))
 | 0,_=>none
 | m+1,a=>bif (decide (a<c)) then ((bG b a).bind λd=>(OB d).bind λe=>bif e then (some ((Sum.inl a))) else (gV n b c m (wr .i64 (a+1)))) else (some ((Sum.inr (()))))
theorem zU (l:FW C) {o:A} (h:(List aC)) (i:Int) {K:((Int)⊕(Unit))->Option γ} (p:∀ (j:Int) (a:A) (b:A) (c:A) (d:A),J φ (kr (St.mk [(0,a),(1,b),(4,(iA j)),(7,c),(8,d)] [])) kL (K (Sum.inl j)) some) (q:∀ (a:A) (b:A) (r:A) (c:A) (d:A),J φ (kx 0 (St.mk [(0,a),(1,b),(4,r),(7,c),(8,d)] [])) kL (K (Sum.inr (()))) some) :
  ∀ (m:Nat) (f:Int),J φ (aI (cx C) (ec C n 8) (ey C n 8) (n+8) 88 0 0 0 kx kg kr kp m (St.mk [(0,(im (h.map al) false)),(1,(tz 63 [] [])),(4,o),(7,(iA i)),(8,(iA f))] [])) kL (gV n h i m f) K:=by
  refine nI (λ_=>.nn) λm ih f=>.lp (PC ..) ?_;unfold gV;refine .st (aZ ..) (.cu ?_ ?_)
  ·refine .bd (fx (e:=48) (es:=3)) λk=>.s (ag (al k)) (.dO r7 r7 (.bd (g:=λ(y:Bool)=>(bA y)) (by simp only[qbd,qaS,qaW,cP,fo]; exact l k) λt=>.cu ?_ ?_))
   ·exact .ex (p _ _ _ _ _)
   refine .st (aF ..) (.s [] (.cT r7 ?_));exact ih _
  exact .ex (q _ _ _ _ _)
def xY (n:Nat) (a0:(List aC)):Option Int:=
 (gV n a0 ((a0.length:Int)) (n+8) 0).bind λa=>match a with | (Sum.inl b)=>some b | (Sum.inr _)=>some (-1)
theorem Mx (C:OT) (n:Nat) (a:FW C) (a0:(List aC)):TJ C n 88 [(im (a0.map al) false),(tz 63 [] [])] (xY n a0) (λy=>(iA y)):=by
 refine .lp (Y9 ..) ?_;unfold xY;refine .st (eS (e:=48)) (.as (zU C n _ _ _ _ a  a0 ((a0.length:Int)) ?_ ?_ _ 0))
 ·intro b c d f g;exact .un rfl (.lv rfl)
 ·intro h i j k l;exact .un rfl (.cT r7 (.lv rfl))
def xZ (a0:(List aC)):Option Int:=xY aD a0
def zL (C:OT):Prop:=∀ (a0:(List aC)),C 88 [(im (a0.map al) false),(tz 63 [] [])]=(xZ a0).map λy=>(iA y)
def xX (n:Nat) (a0:(List aC)):Option Bool:=
 (xZ a0).bind λa=>some (decide (0<=a))
theorem Mv (C:OT) (n:Nat) (a:zL C) (a0:(List aC)):TJ C n 62 [(im (a0.map al) false),(tz 63 [] [])] (xX n a0) (λy=>(bA y)):=by
 refine .lp (YP ..) ?_;unfold xX;exact .bd (g:=λ(y:Int)=>(iA y)) (by simp only[cP,fo]; exact a a0) λb=>.st (dD ..) (.lv rfl)
def um (a0:(List aC)):Option Bool:=xX aD a0
def zK (C:OT):Prop:=∀ (a0:(List aC)),C 62 [(im (a0.map al) false),(tz 63 [] [])]=(um a0).map λy=>(bA y)
def Je (n:Nat) (a0:Int):Option Bool:=
 some (a0 != a0)
theorem Tb (C:OT) (n:Nat) (a0:Int):TJ C n 106 [(iA a0)] (Je n a0) (λy=>(bA y)):=by
 refine .lp (Tv ..) ?_;unfold Je;exact .st (aO ..) (.lv rfl)
def zG (a0:Int):Option Bool:=Je aD a0
def ya (C:OT):Prop:=∀ (a0:Int),C 106 [(iA a0)]=(zG a0).map λy=>(bA y)
def qQ (a:(List aC)) (b:(List (Int×Int))):aA:=bx [(im (a.map al) false),(im (b.map au) false)]
def iK (n:Nat) (e:(List Int)) (f:Int) (c:Int) (d:Int):Nat->Int->Option ((Int)⊕(Unit))
 | 0,_=>none
 | m+1,a=>bif (decide (a<f)) then ((bG e a).bind λb=>bif (decide (2<=a)) then (some ((Sum.inl 1))) else (bif decide (a=0) then (((zG b).bind λk=>(zG c).bind λg=>bif k then (bif g then (some 0) else (some (-1))) else (bif g then (some 1) else (bif (decide (b<c)) then (some (-1)) else (bif (decide (c<b)) then (some 1) else (some 0))))).bind λh=>bif (h != 0) then (some ((Sum.inl h))) else (iK n e f c d m (wr .i64 (a+1)))) else bif decide (a=1) then (((zG b).bind λl=>(zG d).bind λi=>bif l then (bif i then (some 0) else (some (-1))) else (bif i then (some 1) else (bif (decide (b<d)) then (some (-1)) else (bif (decide (d<b)) then (some 1) else (some 0))))).bind λj=>bif (j != 0) then (some ((Sum.inl j))) else (iK n e f c d m (wr .i64 (a+1)))) else none)) else (some ((Sum.inr (()))))
theorem Gl (d:ya C) {l r:A} {c:aA} (o:(List Int)) (p:Int) (a:Int) (b:Int) {K:((Int)⊕(Unit))->Option γ} (f:∀ (q:Int) (u:A) (w:A) (g:A) (h:A) (i:A) (q1:aA),J φ (kr (St.mk [(0,u),(1,w),(4,(iA q)),(9,g),(10,h),(11,i)] [c,q1])) kL (K (Sum.inl q)) some) (x:∀ (z:A) (g:A) (h:A) (i:A),J φ (kx 0 (St.mk [(0,l),(1,(bD 1 0 2 true)),(4,z),(9,g),(10,h),(11,i)] [c,aA.row true 1 [[(iA a)],[(iA b)]]])) kL (K (Sum.inr (()))) some) :
  ∀ (m:Nat) (j:Int),J φ (aI (cx C) (ec C n 7) (ey C n 7) (n+7) 65 0 0 2 kx kg kr kp m (St.mk [(0,l),(1,(bD 1 0 2 true)),(4,r),(9,(im (o.map (cI .i64)) true)),(10,(iA p)),(11,(iA j))] [c,aA.row true 1 [[(iA a)],[(iA b)]]])) kL (iK n o p a b m j) K:=by
  refine nI (λ_=>.nn) λm ih j=>.lp (Px ..) ?_;unfold iK;refine .st (aZ ..) (.cu ?_ ?_)
  ·refine .bd (fx (e:=3) (es:=1)) λk=>.s (iA k) (.s (iA 2) (.st (dD ..) (.cu ?_ ?_)))
   ·exact .ex (f _ _ _ _ _ _ _)
   refine .sp (λa0=>?_) (λ_=>?_)
   ·refine .st (v:=(A.ep 1 0 0)) (by rw[qai a0]; kernel_rfl) (.s (iA a) (.bg (λ(t:Out×Heap) (y:Int)=>t=(Out.ret (iA y),[c,aA.row true 1 [[(iA a)],[(iA b)]]])) ?_ ?_))
    ·refine .lp ((bk L7).trans (V6 ..)) (.bd (d k) λa2=>.bd (d a) λa3=>.cu ?_ ?_)
     ·refine .cu ?_ ?_
      ·exact .lg rfl
      exact .lg rfl
     refine .cu ?_ ?_
     ·exact .lg rfl
     refine .st (aZ ..) (.cu ?_ ?_)
     ·exact .lg rfl
     refine .st (eZ ..) (.cu ?_ ?_)
     ·exact .lg rfl
     exact .lg rfl
    rintro _ a4 rfl
    refine .ok (.st (aO ..) (.cu ?_ ?_))
    ·exact .ex (f _ _ _ _ _ _ _)
    refine .st (aF ..) (.s [c,aA.row true 1 [[(iA a)],[(iA b)]]] (.cT r7 ?_));exact ih _
   refine .sp (λa1=>?_) (λ_=>?_)
   ·refine .st (v:=(A.ep 1 1 0)) (by rw[qai a1]; kernel_rfl) (.s (iA b) (.bg (λ(t:Out×Heap) (y:Int)=>t=(Out.ret (iA y),[c,aA.row true 1 [[(iA a)],[(iA b)]]])) ?_ ?_))
    ·refine .lp ((bk L7).trans (V6 ..)) (.bd (d k) λa5=>.bd (d b) λa6=>.cu ?_ ?_)
     ·refine .cu ?_ ?_
      ·exact .lg rfl
      exact .lg rfl
     refine .cu ?_ ?_
     ·exact .lg rfl
     refine .st (aZ ..) (.cu ?_ ?_)
     ·exact .lg rfl
     refine .st (eZ ..) (.cu ?_ ?_)
     ·exact .lg rfl
     exact .lg rfl
    rintro _ a7 rfl
    refine .ok (.st (aO ..) (.cu ?_ ?_))
    ·exact .ex (f _ _ _ _ _ _ _)
    refine .st (aF ..) (.s [c,aA.row true 1 [[(iA a)],[(iA b)]]] (.cT r7 ?_));exact ih _
   exact .nn
  exact .ex (x _ _ _ _)
def jr (n:Nat) (f:Int) (b:(List (Int×Int))) (c:Int) (g:(List aC)) (d:(List (Int×Int))):Nat->Int->Option ((Int)⊕(Unit))
 | 0,_=>none
 | m+1,a=>bif (decide (a<c)) then ((bG b a).bind λe=>(NY e).bind λi=>bif (!i) then ((some (())).bind λr=>(some (())).bind λs=>some ((Sum.inl 60))) else (bif (decide (0<a)) then ((bG d (wr .i64 (a - 1))).bind λh=>((iK n ([h.1,h.2]) 2 e.1 e.2 (n+7) 0).bind λj=>match j with | (Sum.inl k)=>some k | (Sum.inr _)=>some 0).bind λl=>(some (decide (0<=l))).bind λo=>((some o).bind λp=>some p).bind λq=>bif q then (some ((Sum.inl 60))) else (jr n f b c g d m (wr .i64 (a+1)))) else ((some (())).bind λt=>((some (())).bind λu=>some (())).bind λv=>jr n f b c g d m (wr .i64 (a+1))))) else (some ((Sum.inr (()))))
theorem Gk (a2:ya C) (a3:Dd C) (q:Int) (f:(List (Int×Int))) (r:Int) (d:(List aC)) (b:(List (Int×Int))) {K:((Int)⊕(Unit))->Option γ} (u:∀ (w:Int) (i:A) (j:A) (k:A) (l:A) (o:aA) (q1:aA),J φ (kr (St.mk [(1,i),(2,(iA w)),(15,j),(16,k),(17,l)] [o,q1])) kL (K (Sum.inl w)) some) (x1:∀ (i:A) (s2:A) (j:A) (k:A) (l:A) (o:aA),J φ (kx 0 (St.mk [(1,i),(2,s2),(15,j),(16,k),(17,l)] [o])) kL (K (Sum.inr (()))) some) :
  ∀ (m:Nat) (p:Int),J φ (aI (cx C) (ec C n 8) (ey C n 8) (n+8) 33 0 0 1 kx kg kr kp m (St.mk [(1,(pt 0 0)),(2,(iA q)),(15,(im (f.map au) false)),(16,(iA r)),(17,(iA p))] [(qQ d b)])) kL (jr n q f r d b m p) K:=by
  refine nI (λ_=>.nn) λm ih p=>.lp (Pm ..) ?_;unfold jr;refine .st (aZ ..) (.cu ?_ ?_)
  ·refine .bd (fx (e:=115) (es:=2)) λa=>.s (ag [(iA a.1),(iA a.2)]) (.sq (A.ep 1 0 0) (.s [(qQ d b),aA.row true 1 [[(iA a.1)],[(iA a.2)]]] (.s (ag [(iA a.1),(iA a.2)]) (.bd (a3 a) λa5=>.s (bA (!a5)) (.Fx (λg=>?_) (λg=>?_))))))
   ·refine .bb (.st (eZ ..) (.Hp (λc=>?_) (λc=>?_)))
    ·refine .bb (.s (pt 0 1) (.s (im (b.map au) false) (.st (fF ..) (.bd (fx (e:=115) (es:=2)) λh=>.s (im [[(iA h.1)],[(iA h.2)]] true) (.s (bD 1 0 2 true) (.cr (.u4 (.uc (.uc (.uc (.cr (.u4 (.u4 (.uc (.uc (.lp (cX c) (.bg (λ(t:Out×Heap) (y:Int)=>∃ x:aA,t=(Out.ret (iA y),[(qQ d b),x])) ?_ ?_)))))))))))))))))
     ·refine .lp ((bk P5).trans (YS ..)) (.s (iA 2) (.as (Gl C n _ _ _ _ a2  ([h.1,h.2]) 2 a.1 a.2 ?_ ?_ _ 0)))
      ·intro a6 a7 a8 a9 aa ab ad;exact .un rfl (.lg ⟨_,rfl⟩)
      ·intro ae af ah ai;exact .un rfl (.cT r7 (.s (iA 2) (.s (iA 2) (.s (bA false) (.MF (.lg ⟨_,rfl⟩))))))
     rintro _ aj ⟨x,rfl⟩
     refine .ok (.bg (λt (y:Bool) =>  t=[(bA y)]) ?_ ?_)
     ·exact .lp (cX c) (.st (dD ..) (.lg rfl))
     rintro _ ak rfl
     refine .uc (.bg (λt (y:Bool)=>∃ z:A,t=[(bA y),z]) ?_ ?_)
     ·refine .tK g (.bg (λt (y:Bool) =>  t=(bA y)) ?_ ?_)
      ·exact .sj c (.lg rfl)
      rintro _ al rfl
      exact .lg ⟨_,rfl⟩
     rintro _ am ⟨z,rfl⟩
     refine .uc (.uc (.cu ?_ ?_))
     ·exact .ex (u _ _ _ _ _ _ _)
     refine .st (aF ..) (.st (v:=[(qQ d b)]) (de r7 Z3) (.cT ((by kernel_rfl:_=(bif aH 1 (f.map au) then true else false)).trans u2) ?_));exact ih _
    refine .bb (.cr (.u4 (.uc (.uc (.uc (.cr (.u4 (.u4 (.uc (.uc (.lp (cW c) (.bg (λt (y:Unit) =>  t=[(A.v undef)]) ?_ ?_))))))))))))
    ·exact .lp (cW c) (.lg rfl)
    rintro _ an rfl
    refine .uc (.bg (λt (y:Unit)=>∃ a0:A,t=[(bA false),a0]) ?_ ?_)
    ·refine .tK g (.bg (λt (y:Unit) =>  t=(bA false)) ?_ ?_)
     ·exact .tK c (.lg rfl)
     rintro _ ao rfl
     exact .lg ⟨_,rfl⟩
    rintro _ ap ⟨a0,rfl⟩
    refine .uc (.uc (.MF (.st (aF ..) (.st (v:=[(qQ d b)]) (de r7 Z3) (.cT ((by kernel_rfl:_=(bif aH 1 (f.map au) then true else false)).trans u2) ?_)))));exact ih _
   refine .bb (.cr (.u4 (.u4 (.uc (.uc (.gU (.bg (λt (y:Unit) =>  t=[(A.v undef)]) ?_ ?_)))))))
   ·exact .gU (.lg rfl)
   rintro _ aq rfl
   refine .uc (.bg (λt (y:Unit)=>∃ a1:A,t=[(bA true),a1]) ?_ ?_)
   ·exact .sj g (.lg ⟨_,rfl⟩)
   rintro _ ar ⟨a1,rfl⟩
   exact .uc (.uc (.N0 (.ex (u _ _ _ _ _ _ _))))
  exact .ex (x1 _ _ _ _ _ _)
def Re (n:Nat) (a0:aP):Option Int:=
 (bif (decide (4096<((a0.Queue.length:Int)))) then (some true) else ((um a0.Queue).bind λa=>some a)).bind λb=>bif b then (some 60) else ((jr n 0 a0.Apart ((a0.Apart.length:Int)) a0.Queue a0.Apart (n+8) 0).bind λc=>match c with | (Sum.inl d)=>some d | (Sum.inr _)=>some 0)
theorem XI (C:OT) (n:Nat) (d:ya C) (f:zK C) (h:Dd C) (a0:aP):TJ C n 33 [(ag [(im (a0.Queue.map al) false),(im (a0.Apart.map au) false)])] (Re n a0) (λy=>(iA y)):=by
 refine .lp (Yx ..) ?_;unfold Re;refine .s ((pt 0 0),[bx [(im (a0.Queue.map al) false),(im (a0.Apart.map au) false)]]) (.s2 (im (a0.Queue.map al) false) (.st (eS (e:=48)) (.st (eZ ..) (.bg (λt (y:Bool)=>∃ a b c:A,t=[(bA y),a,b,c]) ?_ ?_))))
 ·refine .bi ?_ ?_
  ·exact .lg ⟨_,_,_,rfl⟩
  exact .s (pt 0 0) (.s (im (a0.Queue.map al) false) (.bd (g:=λ(y:Bool)=>(bA y)) (by simp only[cP,fo]; exact f a0.Queue) λi=>.lg ⟨_,_,_,rfl⟩))
 rintro _ j ⟨a,b,c,rfl⟩
 refine .u4 (.cu ?_ ?_)
 ·exact .lv rfl
 refine .s2 (im (a0.Apart.map au) false) (.st (eS (e:=115)) (.as (Gk C n _ _ _ _ d h  0 a0.Apart ((a0.Apart.length:Int)) a0.Queue a0.Apart ?_ ?_ _ 0)))
 ·intro k l o p q r u;exact .un rfl (.lv rfl)
 ·intro v w x z a1 a2;exact .un rfl (.cT r7 (.lv rfl))
def Mm (a0:aP):Option Int:=Re aD a0
def Db (C:OT):Prop:=∀ (a0:aP),C 33 [(ag [(im (a0.Queue.map al) false),(im (a0.Apart.map au) false)])]=(Mm a0).map λy=>(iA y)
def Rb (n:Nat) (a0:aE) (a1:Int):Option Bool:=
 (zH a0.No 0 1048576).bind λa=>(bif a then ((zH a0.Role 0 (wr .i64 (a1 - 1))).bind λb=>some b) else (some false)).bind λc=>(bif c then ((zH a0.Bar 0 4095).bind λd=>some d) else (some false)).bind λe=>(bif e then ((zH a0.Program 1 8).bind λf=>some f) else (some false)).bind λg=>some g
theorem XC (C:OT) (n:Nat) (a:oP C) (a0:aE) (a1:Int):TJ C n 24 [(ag (av a0)),(iA a1)] (Rb n a0 a1) (λy=>(bA y)):=by
 refine .lp (Yr ..) ?_;unfold Rb;refine .s ((pt 0 0),[bx (av a0)]) (.s2 (iA a0.No) (.bd (a a0.No 0 1048576) λo=>.bg (λt (y:Bool)=>∃ b c d e f:A,t=[(bA y),b,c,d,e,f]) ?_ ?_))
 ·refine .bi ?_ ?_
  ·exact .s (pt 0 1) (.s (iA a0.Role) (.st (fF ..) (.bd (a a0.Role 0 (wr .i64 (a1 - 1))) λp=>.lg ⟨_,_,_,_,_,rfl⟩)))
  exact .lg ⟨_,_,_,_,_,rfl⟩
 rintro _ q ⟨b,c,d,e,f,rfl⟩
 refine .u4 (.uc (.uc (.bg (λt (y:Bool)=>∃ g h i:A,t=[(bA y),g,h,i]) ?_ ?_)))
 ·refine .bi ?_ ?_
  ·exact .s (pt 0 2) (.s (iA a0.Bar) (.bd (a a0.Bar 0 4095) λr=>.lg ⟨_,_,_,rfl⟩))
  exact .lg ⟨_,_,_,rfl⟩
 rintro _ u ⟨g,h,i,rfl⟩
 refine .u4 (.bg (λt (y:Bool)=>∃ j k l:A,t=[(bA y),j,k,l]) ?_ ?_)
 ·refine .bi ?_ ?_
  ·exact .s (pt 0 3) (.s (iA a0.Program) (.bd (a a0.Program 1 8) λv=>.lg ⟨_,_,_,rfl⟩))
  exact .lg ⟨_,_,_,rfl⟩
 rintro _ w ⟨j,k,l,rfl⟩
 exact .u4 (.lv rfl)
def Ml (a0:aE) (a1:Int):Option Bool:=Rb aD a0 a1
def w5 (C:OT):Prop:=∀ (a0:aE) (a1:Int),C 24 [(ag (av a0)),(iA a1)]=(Ml a0 a1).map λy=>(bA y)
def nd (n:Nat) (c:(List Int)) (d:Int) (b:aR):Nat->Int->Option ((Bool)⊕(Unit))
 | 0,_=>none
 | m+1,a=>bif (decide (a<d)) then ((bG c a).bind λe=>(zH e 0 8).bind λf=>(bif (!f) then (some true) else ((bG b.Did a).bind λg=>(bif (g != e) then ((bG b.Did a).bind λh=>some (h != 0)) else (some false)).bind λi=>some i)).bind λj=>bif j then (some ((Sum.inl false))) else (nd n c d b m (wr .i64 (a+1)))) else (some ((Sum.inr (()))))
theorem Gm (af:oP C) {g h i j:A} (k:(List Int)) (l:Int) (a:aR) {K:((Bool)⊕(Unit))->Option γ} (x0:∀ (o:Bool) (s1:A) (s2:A) (s3:A) (s4:A) (b:A) (c:A) (d:A) (q0:aA),J φ (kr (St.mk [(1,s1),(2,s2),(3,s3),(4,s4),(8,(bA o)),(27,b),(28,c),(29,d)] [q0])) kL (K (Sum.inl o)) some) (x1:∀ (b:A) (c:A) (d:A),J φ (kx 0 (St.mk [(1,g),(2,h),(3,i),(4,(pt 0 0)),(8,j),(27,b),(28,c),(29,d)] [bx (aB a)])) kL (K (Sum.inr (()))) some) :
  ∀ (m:Nat) (f:Int),J φ (aI (cx C) (ec C n 8) (ey C n 8) (n+8) 34 0 0 1 kx kg kr kp m (St.mk [(1,g),(2,h),(3,i),(4,(pt 0 0)),(8,j),(27,(im (k.map (cI .i64)) false)),(28,(iA l)),(29,(iA f))] [bx (aB a)])) kL (nd n k l a m f) K:=by
  refine nI (λ_=>.nn) λm ih f=>.lp (Pn ..) ?_;unfold nd;refine .st (aZ ..) (.cu ?_ ?_)
  ·refine .bd (fx (e:=3) (es:=1)) λp=>.s (iA p) (.bd (af p 0 8) λam=>.s (bA (!am)) (.bg (λt (y:Bool)=>∃ q r u v w x z a0 a1 a2 a3 a4 a5 a6 a7:A,t=[(bA y),q,r,u,v,w,x,z,a0,a1,a2,a3,a4,a5,a6,a7]) ?_ ?_))
   ·refine .bi ?_ ?_
    ·exact .lg ⟨_,_,_,_,_,_,_,_,_,_,_,_,_,_,_,rfl⟩
    refine .s (pt 0 2) (.s (im (a.Did.map (cI .i64)) false) (.bd (fx (e:=3) (es:=1)) λan=>.s (iA an) (.st (aO ..) (.bg (λt (y:Bool)=>∃ a8 a9 aa ab ad ae:A,t=[(bA y),a8,a9,aa,ab,ad,ae]) ?_ ?_))))
    ·refine .bi ?_ ?_
     ·exact .s (pt 0 2) (.s (im (a.Did.map (cI .i64)) false) (.bd (fx (e:=3) (es:=1)) λao=>.s (iA ao) (.st (aO ..) (.lg ⟨_,_,_,_,_,_,rfl⟩))))
     exact .lg ⟨_,_,_,_,_,_,rfl⟩
    rintro _ ap ⟨a8,a9,aa,ab,ad,ae,rfl⟩
    exact .u4 (.uc (.uc (.uc (.lg ⟨_,_,_,_,_,_,_,_,_,_,_,_,_,_,_,rfl⟩))))
   rintro _ aq ⟨q,r,u,v,w,x,z,a0,a1,a2,a3,a4,a5,a6,a7,rfl⟩
   refine .u4 (.u4 (.u4 (.u4 (.cu ?_ ?_))))
   ·exact .ex (x0 _ _ _ _ _ _ _ _ _)
   refine .st (aF ..) (.s [bx (aB a)] (.cT r7 ?_));exact ih _
  exact .ex (x1 _ _ _)
def ng (n:Nat) (c:Int) (d:Int) (g:Bool) (e:(List aE)) (f:Int):Nat->Int->Int->Option ((Bool)⊕(Unit))
 | 0,_,_=>none
 | m+1,h,b=>bif (decide (b<f)) then ((bG e b).bind λa=>(Ml a d).bind λi=>(bif (!i) then (some true) else (some (a.Role != c))).bind λj=>(bif j then (some true) else (some (decide (a.Bar<h)))).bind λk=>bif k then (some ((Sum.inl false))) else (ng n c d g e f m (wr .i64 (a.Bar+1)) (wr .i64 (b+1)))) else (some ((Sum.inr (()))))
theorem Gn (a4:w5 C) {a:aA} (a5:aA.under 1 a=true) (o:Int) (c:Int) (p:Bool) (d:(List aE)) (q:Int) {K:((Bool)⊕(Unit))->Option γ} (x0:∀ (r:Bool) (f:A) (s2:A) (g:A) (h:A) (i:A) (j:A) (q1:aA),J φ (kr (St.mk [(1,f),(2,s2),(8,(bA r)),(11,g),(57,h),(58,i),(59,j)] [a,q1])) kL (K (Sum.inl r)) some) (x1:∀ (f:A) (s2:A) (s8:A) (g:A) (h:A) (i:A) (j:A),J φ (kx 2 (St.mk [(1,f),(2,s2),(8,s8),(11,g),(57,h),(58,i),(59,j)] [a])) kL (K (Sum.inr (()))) some) :
  ∀ (m:Nat) (k:Int) (l:Int),J φ (aI (cx C) (ec C n 8) (ey C n 8) (n+8) 34 0 1 1 kx kg kr kp m (St.mk [(1,(iA o)),(2,(iA c)),(8,(bA p)),(11,(iA k)),(57,(im (d.map av) false)),(58,(iA q)),(59,(iA l))] [a])) kL (ng n o c p d q m k l) K:=by
  refine nI (λ_ _=>.nn) λm ih k l=>.lp (Po ..) ?_;unfold ng;refine .st (aZ ..) (.cu ?_ ?_)
  ·refine .bd (fx (e:=30) (es:=4)) λb=>.s (ag (av b)) (.s ((pt 1 0),[a,bx [(iA 0),(iA 0),(iA 0),(iA 0)]]) (.s [a,bx (av b)] (.s (ag (av b)) (.bd (a4 b c) λa9=>.s (bA (!a9)) (.bg (λt (y:Bool)=>∃ u w x z:A,t=[(bA y),u,w,x,z]) ?_ ?_)))))
   ·refine .bi ?_ ?_
    ·exact .lg ⟨_,_,_,_,rfl⟩
    exact .s (pt 1 1) (.s (iA b.Role) (.st (aO ..) (.lg ⟨_,_,_,_,rfl⟩)))
   rintro _ aa ⟨u,w,x,z,rfl⟩
   refine .u4 (.uc (.bg (λt (y:Bool)=>∃ a0 a1 a2 a3:A,t=[(bA y),a0,a1,a2,a3]) ?_ ?_))
   ·refine .bi ?_ ?_
    ·exact .lg ⟨_,_,_,_,rfl⟩
    exact .s (pt 1 2) (.s (iA b.Bar) (.st (aZ ..) (.lg ⟨_,_,_,_,rfl⟩)))
   rintro _ ab ⟨a0,a1,a2,a3,rfl⟩
   refine .u4 (.uc (.cu ?_ ?_))
   ·exact .ex (x0 _ _ _ _ _ _ _ _)
   refine .s2 (iA b.Bar) (.st (aF ..) (.st (aF ..) (.st (v:=[a]) (de r7 (by simp only[uB,df,qae,qaq,Nat.reduceAdd,dg,Nat.reduceLT,qam,a5])) (.cT ((by kernel_rfl:_=(bif aH 1 (d.map av) then true else false)).trans u2) ?_))));exact ih _ _
  exact .ex (x1 _ _ _ _ _ _ _)
def Rf (n:Nat) (a0:aR) (a1:Int) (a2:Int) (a3:Int):Option Bool:=
 (bif (((a0.Got.length:Int)) != a3) then (some true) else (some (((a0.Did.length:Int)) != a3))).bind λa=>bif a then (some false) else ((nd n a0.Got ((a0.Got.length:Int)) a0 (n+8) 0).bind λb=>match b with | (Sum.inl c)=>some c | (Sum.inr _)=>(ng n a1 a2 false a0.Cues ((a0.Cues.length:Int)) (n+8) a3 0).bind λd=>match d with | (Sum.inl e)=>some e | (Sum.inr _)=>some true)
theorem XJ (C:OT) (n:Nat) (g:w5 C) (h:oP C) (a0:aR) (a1:Int) (a2:Int) (a3:Int):TJ C n 34 [(ag (aB a0)),(iA a1),(iA a2),(iA a3)] (Rf n a0 a1 a2 a3) (λy=>(bA y)):=by
 refine .lp (Yy ..) ?_;unfold Rf;refine .s ((pt 0 0),[bx (aB a0)]) (.s2 (im (a0.Got.map (cI .i64)) false) (.st (eS (e:=3)) (.st (aO ..) (.bg (λt (y:Bool)=>∃ a b c d f:A,t=[(bA y),a,b,c,d,f]) ?_ ?_))))
 ·refine .bi ?_ ?_
  ·exact .lg ⟨_,_,_,_,_,rfl⟩
  exact .s (pt 0 2) (.s (im (a0.Did.map (cI .i64)) false) (.st (eS (e:=3)) (.st (aO ..) (.lg ⟨_,_,_,_,_,rfl⟩))))
 rintro _ i ⟨a,b,c,d,f,rfl⟩
 refine .u4 (.uc (.uc (.cu ?_ ?_)))
 ·exact .lv rfl
 refine .s2 (im (a0.Got.map (cI .i64)) false) (.st (eS (e:=3)) (.as (Gm C n _ _ _ _ h  a0.Got ((a0.Got.length:Int)) a0 ?_ ?_ _ 0)))
 ·intro j k l o p q r u v;exact .un rfl (.lv rfl)
 ·intro w x z;refine .un rfl (.cT r7 (.s2 (im (a0.Cues.map av) false) (.st (eS (e:=30)) (.as (Gn C n _ _ _ _ g x8 a1 a2 false a0.Cues ((a0.Cues.length:Int)) ?_ ?_ _ a3 0)))))
  ·intro a4 a5 a6 a7 a8 a9 aa ab;exact .un rfl (.lv rfl)
  ·intro ad ae af ah ai aj ak;exact .un rfl (.cT r7 (.lv rfl))
def Ou (a0:aR) (a1:Int) (a2:Int) (a3:Int):Option Bool:=Rf aD a0 a1 a2 a3
def FN (C:OT):Prop:=∀ (a0:aR) (a1:Int) (a2:Int) (a3:Int),C 34 [(ag (aB a0)),(iA a1),(iA a2),(iA a3)]=(Ou a0 a1 a2 a3).map λy=>(bA y)
def Jf (n:Nat) (a0:Int):Option Int:=
 some (tQ .i64 (wr .i64 (jJ .u64 a0 1)) (wr .i64 (0 - (wr .i64 (nQ .u64 a0 1)))))
theorem Tc (C:OT) (n:Nat) (a0:Int):TJ C n 108 [(A.v (.int .u64 a0))] (Jf n a0) (λy=>(iA y)):=by
 refine .lp (Tw ..) ?_;unfold Jf;exact .st (jx (hb:=by decide) ..) (.st (v:=(iA (wr .i64 (jJ .u64 a0 1)))) (aM (hs:=by kernel_rfl) (hd:=by kernel_rfl) ..) (.st (j0 ..) (.st (v:=(iA (wr .i64 (nQ .u64 a0 1)))) (aM (hs:=by kernel_rfl) (hd:=by kernel_rfl) ..) (.s (iA (wr .i64 (0 - (wr .i64 (nQ .u64 a0 1))))) (.st (qo ..) (.lv rfl))))))
def FB (a0:Int):Option Int:=Jf aD a0
def yb (C:OT):Prop:=∀ (a0:Int),C 108 [(A.v (.int .u64 a0))]=(FB a0).map λy=>(iA y)
def aN:aA:=bx [(iA 0),(iA 0),se,Z5]
def kd (a:UInt8):aA:=bx [(iA (wr .i64 ((a.toNat:Int)))),(iA 0),se,Z5]
def Mr (C:OT) (N:Nat) (self:(List UInt8)->Int->Option (Bool×aw×(List UInt8))):Prop:=∀ (a2:(List UInt8)) (a3:Int) (X:Heap),J (λ(o:R) (y:(Bool×aw×(List UInt8)))=>o=((bif y.1 then Out.ret (ag [(iA y.2.1.Kind),(iA y.2.1.N),(sA y.2.1.S),(im (y.2.1.L.map az) false)]) else Out.pan (A.ifc 33 (iA 10))),[aN,bx [(iA 0)],bx [(im (y.2.2.map c8) false)]]++X)) (dH (cx C) N 91 [(pt 2 0),(iA a3)] ([aN,bx [(iA 0)],bx [(im (a2.map c8) false)]]++X) 0) some (self a2 a3) some
def fE (n:Nat):Nat->Int->Int->(List UInt8)->Option (((List UInt8))⊕(Int×(List UInt8)))
 | 0,_,_,_=>none
 | m+1,e,a,b=>bif (!(decide (1<=((b.length:Int))))) then (some ((Sum.inl b))) else ((gv b 0 1).bind λf=>(gv b 1 ((b.length:Int))).bind λd=>(bG f 0).bind λc=>(bif (a==0) then (some true) else (some (((c.toNat:Int)) != 0))).bind λg=>(bif g then ((bif (decide (a<9)) then (some true) else (some (decide (((c.toNat:Int))<=1)))).bind λh=>some h) else (some false)).bind λi=>bif (!i) then (some ((Sum.inl d))) else (bif decide (0<=(wr .i64 (7*a))) then (bif (decide (((c.toNat:Int))<128)) then (some ((Sum.inr ((oO .u64 e (rf .u64 (wr .u64 (nQ .u8 ((c.toNat:Int)) 127)) (wr .i64 (7*a))),d))))) else (fE n m (oO .u64 e (rf .u64 (wr .u64 (nQ .u8 ((c.toNat:Int)) 127)) (wr .i64 (7*a)))) (wr .i64 (a+1)) d)) else none))
theorem oS {d:aA} {K:(((List UInt8))⊕(Int×(List UInt8)))->Option γ} (o:∀ (g:(List UInt8)) (h:A) (s2:A) (i:A),J φ (kp (A.ifc 33 (iA 10)) (St.mk [(0,h),(2,s2),(3,i)] [aN,bx [(iA 0)],bx [(im (g.map c8) false)],d])) kL (K (Sum.inl g)) some) (x1:∀ (g:Int) (p:(List UInt8)) (h:A) (i:A),J φ (kr (St.mk [(0,h),(2,(A.v (.int .u64 g))),(3,i)] [aN,bx [(iA 0)],bx [(im (p.map c8) false)],d])) kL (K (Sum.inr ((g,p)))) some) :
  ∀ (m:Nat) (j:Int) (k:Int) (c:(List UInt8)),J φ (aI (cx C) (dH (cx C) (n+6)) (bz (cx C) (n+6)) (n+6) 109 0 0 4 kx kg kr kp m (St.mk [(0,(pt 2 0)),(2,(A.v (.int .u64 j))),(3,(iA k))] [aN,bx [(iA 0)],bx [(im (c.map c8) false)],d])) kL (fE n  m j k c) K:=by
  refine nI (λ_ _ _=>.nn) λm ih j k c=>.lp (MU ..) ?_;unfold fE;refine .cl ((bk Cw).trans (MS ..)) (.s (pt 2 0) (.s2 (im (c.map c8) false) (.st (eS (e:=5)) (.st (jw ..) (.cl ((bk rP).trans (JA ..)) (.s (bA (!(decide (1<=((c.length:Int)))))) (.cu ?_ ?_)))))))
  ·exact .s (A.ifc 33 (iA 10)) (.pk (.cr (.kY (.cr (.kY (.ex (o _ _ _ _)))))))
  refine .cr (.ok (.s (pt 2 0) (.s2 (im (c.map c8) false) (.bd (oY (e:=5) (es:=1) (f:=c8) (l:=c) (a:=0) (b:=1) r7 r7 (λ_=>rfl) (.inl ⟨rfl,rfl⟩)) λa8=>.s (pt 2 0) (.s2 (im (c.map c8) false) (.bd (mw (e:=5) (es:=1) (f:=c8) (l:=c) (a:=1) (b:=(c.length:Int)) r7 r7 (λ_=>rfl) (.inr ⟨_,rfl⟩) (.inl ⟨rfl,rfl⟩)) λq=>.s (pt 2 0) (.s (pt 2 0) (.s [aN,bx [(iA 0)],bx [(im (q.map c8) false)],d] (.cr (.ok (.bd (fx (e:=5) (es:=1)) λr=>.s (uA ((r.toNat:Int))) (.st (aX ..) (.bg (λt (y:Bool)=>∃ u w:A,t=[(bA y),u,w]) ?_ ?_)))))))))))))
  ·refine .bi ?_ ?_
   ·exact .lg ⟨_,_,rfl⟩
   exact .st (aO ..) (.lg ⟨_,_,rfl⟩)
  rintro _ a9 ⟨u,w,rfl⟩
  refine .uc (.uc (.uc (.bg (λt (y:Bool)=>∃ x z a0 a1 a2 a3:A,t=[(bA y),x,z,a0,a1,a2,a3]) ?_ ?_)))
  ·refine .bi ?_ ?_
   ·refine .st (aZ ..) (.bg (λt (y:Bool)=>∃ a4 a5:A,t=[(bA y),a4,a5]) ?_ ?_)
    ·refine .bi ?_ ?_
     ·exact .lg ⟨_,_,rfl⟩
     exact .st (jw ..) (.lg ⟨_,_,rfl⟩)
    rintro _ aa ⟨a4,a5,rfl⟩
    exact .uc (.uc (.uc (.lg ⟨_,_,_,_,_,_,rfl⟩)))
   exact .lg ⟨_,_,_,_,_,_,rfl⟩
  rintro _ a7 ⟨x,z,a0,a1,a2,a3,rfl⟩
  refine .u4 (.uc (.uc (.uc (.cl ((bk rP).trans (JA ..)) (.s (bA (!a7)) (.cu ?_ ?_))))))
  ·exact .s (A.ifc 33 (iA 10)) (.pk (.cr (.kY (.ex (o _ _ _ _)))))
  refine .cr (.ok (.st (j0 ..) (.st (v:=(A.v (.int .u64 (wr .u64 (nQ .u8 ((r.toNat:Int)) 127))))) (aM (hs:=by kernel_rfl) (hd:=by kernel_rfl) ..) (.st (rm ..) (.gd λhg=>.st (ux (hb:=qai hg) ..) (.st (jv ..) (.st (aZ ..) (.cu ?_ ?_))))))))
  ·exact .ex (x1 _ _ _ _)
  refine .st (aF ..) (.s [aN,bx [(iA 0)],bx [(im (q.map c8) false)],d] (.cT r7 ?_));exact ih _ _ _
def jf (self:(List UInt8)->Int->Option (Bool×aw×(List UInt8))) (n:Nat) (b:Int) (c:Int) (g:Int) (h:Int) (i:ByteArray):Nat->Int->(List UInt8)->(List aw)->Option (((List UInt8))⊕((List UInt8)×(List aw)))
 | 0,_,_,_=>none
 | m+1,d,e,f=>bif (decide (d<c)) then ((self e (wr .i64 (b+1))).bind λa=>bif a.1 then ((cU 56 f ([a.2.1])).bind λj=>jf self n b c g h i m (wr .i64 (d+1)) a.2.2 j) else (some ((Sum.inl a.2.2)))) else (some ((Sum.inr ((e,f)))))
theorem Ew (self:(List UInt8)->Int->Option (Bool×aw×(List UInt8))) (hS:Mr C (n+8) self) (k:Int) (w:Int) (d:Int) (e:Int) (h:ByteArray) {K:(((List UInt8))⊕((List UInt8)×(List aw)))->Option γ} (z:∀ (i:(List UInt8)) (o:A) (p:A) (s4:A) (q:A) (r:A) (q3:aA) (q4:aA),J φ (kp (A.ifc 33 (iA 10)) (St.mk [(0,o),(1,p),(4,s4),(36,q),(37,r)] [aN,bx [(iA 0)],bx [(im (i.map c8) false)],q3,q4])) kL (K (Sum.inl i)) some) (x1:∀ (i:(List UInt8)) (u:(List aw)) (o:A) (p:A) (q:A) (r:A),J φ (kx 1 (St.mk [(0,o),(1,p),(4,(pt 3 0)),(36,q),(37,r)] [aN,bx [(iA 0)],bx [(im (i.map c8) false)],bx [(iA d),(iA e),(sA h),(bD 4 0 u.length false)],aA.row false 4 (u.map az)])) kL (K (Sum.inr ((i,u)))) some) :
  ∀ (m:Nat) (v:Int) (j:(List UInt8)) (a:(List aw)),J φ (aI (cx C) (ec C n 8) (ey C n 8) (n+8) 91 0 0 5 kx kg kr kp m (St.mk [(0,(pt 2 0)),(1,(iA k)),(4,(pt 3 0)),(36,(iA w)),(37,(iA v))] [aN,bx [(iA 0)],bx [(im (j.map c8) false)],bx [(iA d),(iA e),(sA h),(bD 4 0 a.length false)],aA.row false 4 (a.map az)])) kL (jf self n k w d e h m v j a) K:=by
  refine nI (λ_ _ _=>.nn) λm ih v j a=>.lp (PD ..) ?_;unfold jf;refine .st (aZ ..) (.cu ?_ ?_)
  ·refine .s (pt 3 3) (.s (bD 4 0 a.length false) (.st (aF ..) (.cT r7 (.bg (λ(t:Out×Heap) (y:(Bool×aw×(List UInt8)))=>t=((bif y.1 then Out.ret (ag [(iA y.2.1.Kind),(iA y.2.1.N),(sA y.2.1.S),(im (y.2.1.L.map az) false)]) else Out.pan (A.ifc 33 (iA 10))),[aN,bx [(iA 0)],bx [(im (y.2.2.map c8) false)],bx [(iA d),(iA e),(sA h),(bD 4 0 a.length false)],aA.row false 4 (a.map az)])) (hS j (wr .i64 (k+1)) [bx [(iA d),(iA e),(sA h),(bD 4 0 a.length false)],aA.row false 4 (a.map az)]) ?_))))
   rintro _ c rfl
   refine .ob ?_ ?_
   ·refine .ok (.s (im [[(iA c.2.1.Kind),(iA c.2.1.N),(sA c.2.1.S),(im (c.2.1.L.map az) false)]] true) (.bd (g:=λ(y:List aw)=>((bD 4 0 y.length false),[aN,bx [(iA 0)],bx [(im (c.2.2.map c8) false)],bx [(iA d),(iA e),(sA h),(bD 4 0 a.length false)],aA.row false 4 (y.map az)])) (cC fB (l:=a) (l2:=[c.2.1]) (b:=4) rfl (by decide) (iX (f:=az) (l:=([c.2.1]:List aw)) H7)) λx=>.s (pt 3 3) (.sh (.st (aF ..) (.s [aN,bx [(iA 0)],bx [(im (c.2.2.map c8) false)],bx [(iA d),(iA e),(sA h),(bD 4 0 x.length false)],aA.row false 4 (x.map az)] (.cT r7 ?_))))));exact ih _ _ _
   exact .kY (.ex (z _ _ _ _ _ _ _ _))
  exact .ex (x1 _ _ _ _ _ _)
def zE (self:(List UInt8)->Int->Option (Bool×aw×(List UInt8))) (n:Nat) (a2:(List UInt8)) (a3:Int):Option (Bool×aw×(List UInt8)):=
 bif (!(decide (1<=((a2.length:Int))))) then (some ((false,(default:aw),a2))) else ((gv a2 0 1).bind λg=>(gv a2 1 ((a2.length:Int))).bind λc=>(bG g 0).bind λa=>bif ((wr .i64 ((a.toNat:Int)))==1) then ((fE (n+1)  (n+7) 0 0 c).bind λh=>match h with | (Sum.inl i)=>some ((false,(default:aw),i)) | (Sum.inr ((j,k)))=>(FB j).bind λl=>some ((true,(aw.mk (wr .i64 ((a.toNat:Int))) l jR ([])),k))) else (bif ((wr .i64 ((a.toNat:Int)))==2) then ((fE n  (n+6) 0 0 c).bind λo=>match o with | (Sum.inl p)=>some ((false,(default:aw),p)) | (Sum.inr ((d,b)))=>bif (!(decide (d<=(wr .u64 ((b.length:Int)))))) then (some ((false,(default:aw),b))) else (bif (!(decide ((wr .i64 (d))<=((b.length:Int))))) then (some ((false,(default:aw),b))) else ((gv b 0 (wr .i64 (d))).bind λq=>(gv b (wr .i64 (d)) ((b.length:Int))).bind λr=>some ((true,(aw.mk (wr .i64 ((a.toNat:Int))) 0 (iv q) ([])),r))))) else (bif ((wr .i64 ((a.toNat:Int)))==3) then (bif (!(decide (a3<16))) then (some ((false,(default:aw),c))) else ((fE n  (n+6) 0 0 c).bind λs=>match s with | (Sum.inl t)=>some ((false,(default:aw),t)) | (Sum.inr ((f,e)))=>bif (!(decide (f<=(wr .u64 ((e.length:Int)))))) then (some ((false,(default:aw),e))) else ((jf self n a3 (wr .i64 (f)) (wr .i64 ((a.toNat:Int))) 0 jR (n+8) 0 e (([]:List aw))).bind λu=>match u with | (Sum.inl v)=>some ((false,(default:aw),v)) | (Sum.inr ((w,x)))=>some ((true,(aw.mk (wr .i64 ((a.toNat:Int))) 0 jR x),w))))) else (some ((false,(default:aw),c))))))
theorem Td (C:OT) (n:Nat) (x:yb C) (self:(List UInt8)->Int->Option (Bool×aw×(List UInt8))) (hS:Mr C (n+8) self) (a2:(List UInt8)) (a3:Int):J (λ(o:R) (y:(Bool×aw×(List UInt8)))=>∃ Z,o=((bif y.1 then Out.ret (ag [(iA y.2.1.Kind),(iA y.2.1.N),(sA y.2.1.S),(im (y.2.1.L.map az) false)]) else Out.pan (A.ifc 33 (iA 10))),[aN,bx [(iA 0)],bx [(im (y.2.2.map c8) false)]]++Z)) (aK (cx C) (ec C n 8) (ey C n 8) (n+8) 91 [(pt 2 0),(iA a3)] [aN,bx [(iA 0)],bx [(im (a2.map c8) false)]] 0) some (zE self n a2 a3) some:=by
 refine .lp (Za ..) ?_;unfold zE;refine .s ((pt 3 0),[aN,bx [(iA 0)],bx [(im (a2.map c8) false)],aN]) (.cl ((bk Cw).trans (MS ..)) (.s (pt 2 0) (.s2 (im (a2.map c8) false) (.st (eS (e:=5)) (.st (jw ..) (.cl ((bk rP).trans (JA ..)) (.s (bA (!(decide (1<=((a2.length:Int)))))) (.cu ?_ ?_))))))))
 ·exact .s (A.ifc 33 (iA 10)) (.pk (.cr (.kY (.cr (.kY (.lf rfl rfl ⟨[aN],rfl⟩))))))
 refine .cr (.ok (.s (pt 2 0) (.s2 (im (a2.map c8) false) (.bd (oY (e:=5) (es:=1) (f:=c8) (l:=a2) (a:=0) (b:=1) r7 r7 (λ_=>rfl) (.inl ⟨rfl,rfl⟩)) λy5=>.s (pt 2 0) (.s2 (im (a2.map c8) false) (.bd (mw (e:=5) (es:=1) (f:=c8) (l:=a2) (a:=1) (b:=(a2.length:Int)) r7 r7 (λ_=>rfl) (.inr ⟨_,rfl⟩) (.inl ⟨rfl,rfl⟩)) λi=>.s (pt 2 0) (.s (pt 2 0) (.s [aN,bx [(iA 0)],bx [(im (i.map c8) false)],aN] (.cr (.ok (.bd (fx (e:=5) (es:=1)) λc=>.s (uA ((c.toNat:Int))) (.st (v:=(iA (wr .i64 ((c.toNat:Int))))) (aM (hs:=by kernel_rfl) (hd:=by kernel_rfl) ..) (.s (pt 3 0) (.s [aN,bx [(iA 0)],bx [(im (i.map c8) false)],(kd c)] (.s2 (iA (wr .i64 ((c.toNat:Int)))) (.st (aX ..) (.cu ?_ ?_)))))))))))))))))
 ·refine .cl ((bk Cy).trans (MT ..)) (.as (oS C (n+1) _ _ _ _   ?_ ?_ _ 0 0 i))
  ·intro a6 a7 a8 a9;exact .un rfl (.cr (.kY (.lf rfl rfl ⟨[(kd c)],rfl⟩)))
  ·intro a0 w aa ab;exact .un rfl (.cr (.ok (.bd (x a0) λj=>.s (pt 3 1) (.sh (.s (ag [(iA (wr .i64 ((c.toNat:Int)))),(iA j),se,Z5]) (.s [aN,bx [(iA 0)],bx [(im (w.map c8) false)],bx [(iA (wr .i64 ((c.toNat:Int)))),(iA j),se,Z5]] (.s (ag [(iA (wr .i64 ((c.toNat:Int)))),(iA j),se,(im [] false)]) (.lf rfl rfl (iM (o:=Out.ret (ag [(iA (wr .i64 ((c.toNat:Int)))),(iA j),se,(im [] false)])) (lo:=0) (off:=3) (b:=3) (p:=0) (H2:=[aN,bx [(iA 0)],bx [(im (w.map c8) false)]]) (X:=[bx [(iA (wr .i64 ((c.toNat:Int)))),(iA j),se,Z5]]) (qax rfl))))))))))
 refine .st (aX ..) (.cu ?_ ?_)
 ·refine .cl ((bk HX).trans (Pb ..)) (.cl ((bk Cy).trans (MT ..)) (.as (oS C n _ _ _ _   ?_ ?_ _ 0 0 i)))
  ·intro ad ae af ah;exact .un rfl (.cr (.kY (.cr (.kY (.lf rfl rfl ⟨[(kd c)],rfl⟩)))))
  ·intro k d ai aj;refine .un rfl (.cr (.ok (.s (pt 2 0) (.s2 (im (d.map c8) false) (.st (eS (e:=5)) (.st (v:=(A.v (.int .u64 (wr .u64 ((d.length:Int)))))) (aM (hs:=by kernel_rfl) (hd:=by kernel_rfl) ..) (.st (jw ..) (.cl ((bk rP).trans (JA ..)) (.s (bA (!(decide (k<=(wr .u64 ((d.length:Int))))))) (.cu ?_ ?_))))))))))
   ·exact .s (A.ifc 33 (iA 10)) (.pk (.cr (.kY (.cr (.kY (.lf rfl rfl ⟨[(kd c)],rfl⟩))))))
   refine .cr (.ok (.st (v:=(iA (wr .i64 (k)))) (aM (hs:=by kernel_rfl) (hd:=by kernel_rfl) ..) (.cr (.ok (.cl ((bk Cw).trans (MS ..)) (.s (pt 2 0) (.s2 (im (d.map c8) false) (.st (eS (e:=5)) (.st (jw ..) (.cl ((bk rP).trans (JA ..)) (.s (bA (!(decide ((wr .i64 (k))<=((d.length:Int)))))) (.cu ?_ ?_))))))))))))
   ·exact .s (A.ifc 33 (iA 10)) (.pk (.cr (.kY (.cr (.kY (.lf rfl rfl ⟨[(kd c)],rfl⟩))))))
   exact .cr (.ok (.s (pt 2 0) (.s2 (im (d.map c8) false) (.bd (oY (e:=5) (es:=1) (f:=c8) (l:=d) (a:=0) (b:=wr .i64 (k)) r7 r7 (λ_=>rfl) (.inl ⟨rfl,rfl⟩)) λh=>.s (pt 2 0) (.s2 (im (d.map c8) false) (.bd (mw (e:=5) (es:=1) (f:=c8) (l:=d) (a:=wr .i64 (k)) (b:=(d.length:Int)) r7 r7 (λ_=>rfl) (.inr ⟨_,rfl⟩) (.inl ⟨rfl,rfl⟩)) λr=>.s (pt 2 0) (.s (pt 2 0) (.s [aN,bx [(iA 0)],bx [(im (r.map c8) false)],(kd c)] (.cr (.ok (.st (v:=(A.v (Value.string (iv h)))) (pY (e:=5) (l:=h) r7 r7 r7 r7 (bM ..) rfl) (.s (pt 3 2) (.sh (.s (ag [(iA (wr .i64 ((c.toNat:Int)))),(iA 0),(A.v (Value.string (iv h))),Z5]) (.s [aN,bx [(iA 0)],bx [(im (r.map c8) false)],bx [(iA (wr .i64 ((c.toNat:Int)))),(iA 0),(A.v (Value.string (iv h))),Z5]] (.s (ag [(iA (wr .i64 ((c.toNat:Int)))),(iA 0),(A.v (Value.string (iv h))),(im [] false)]) (.lf rfl rfl (iM (o:=Out.ret (ag [(iA (wr .i64 ((c.toNat:Int)))),(iA 0),(A.v (Value.string (iv h))),(im [] false)])) (lo:=0) (off:=3) (b:=3) (p:=0) (H2:=[aN,bx [(iA 0)],bx [(im (r.map c8) false)]]) (X:=[bx [(iA (wr .i64 ((c.toNat:Int)))),(iA 0),(A.v (Value.string (iv h))),Z5]]) (qax rfl)))))))))))))))))))
 refine .st (aX ..) (.cu ?_ ?_)
 ·refine .st (aZ ..) (.cl ((bk rP).trans (JA ..)) (.s (bA (!(decide (a3<16)))) (.cu ?_ ?_)))
  ·exact .s (A.ifc 33 (iA 10)) (.pk (.cr (.kY (.lf rfl rfl ⟨[(kd c)],rfl⟩))))
  refine .cr (.ok (.cl ((bk HX).trans (Pb ..)) (.cl ((bk Cy).trans (MT ..)) (.as (oS C n _ _ _ _   ?_ ?_ _ 0 0 i)))))
  ·intro ak al am an;exact .un rfl (.cr (.kY (.cr (.kY (.lf rfl rfl ⟨[(kd c)],rfl⟩)))))
  ·intro t q ao ap;refine .un rfl (.cr (.ok (.s (pt 2 0) (.s2 (im (q.map c8) false) (.st (eS (e:=5)) (.st (v:=(A.v (.int .u64 (wr .u64 ((q.length:Int)))))) (aM (hs:=by kernel_rfl) (hd:=by kernel_rfl) ..) (.st (jw ..) (.cl ((bk rP).trans (JA ..)) (.s (bA (!(decide (t<=(wr .u64 ((q.length:Int))))))) (.cu ?_ ?_))))))))))
   ·exact .s (A.ifc 33 (iA 10)) (.pk (.cr (.kY (.cr (.kY (.lf rfl rfl ⟨[(kd c)],rfl⟩))))))
   refine .cr (.ok (.st (v:=(iA (wr .i64 (t)))) (aM (hs:=by kernel_rfl) (hd:=by kernel_rfl) ..) (.cr (.ok (.as (Ew C n _ _ _ _ self hS  a3 (wr .i64 (t)) (wr .i64 ((c.toNat:Int))) 0 jR ?_ ?_ _ 0 q (([]:List aw))))))))
   ·intro aq ar au av ax ay a1 a4;exact .un rfl (.lf rfl rfl ⟨[a1,a4],rfl⟩)
   ·intro u g b0 b1 b2 b3;exact .un rfl (.cT r7 (.s (ag [(iA (wr .i64 ((c.toNat:Int)))),(iA 0),se,(bD 4 0 g.length false)]) (.s [aN,bx [(iA 0)],bx [(im (u.map c8) false)],bx [(iA (wr .i64 ((c.toNat:Int)))),(iA 0),se,(bD 4 0 g.length false)],aA.row false 4 (g.map az)] (.st (v:=(ag [(iA (wr .i64 ((c.toNat:Int)))),(iA 0),se,(im (g.map az) false)])) ((qa7 (λz=>lL prog 107 (pt 3 0) z) (z8 (H:=[aN,bx [(iA 0)],bx [(im (u.map c8) false)],bx [(iA (wr .i64 ((c.toNat:Int)))),(iA 0),se,(bD 4 0 g.length false)],aA.row false 4 (g.map az)]) (lo:=0) (off:=3) (b:=3) (o:=0) (b':=4) (es:=4) (l:=g) cH rfl rfl rfl (qax rfl))).trans r7) (.lf rfl rfl (iM (o:=Out.ret (ag [(iA (wr .i64 ((c.toNat:Int)))),(iA 0),se,(im (g.map az) false)])) (lo:=0) (off:=3) (b:=3) (p:=0) (H2:=[aN,bx [(iA 0)],bx [(im (u.map c8) false)]]) (X:=[bx [(iA (wr .i64 ((c.toNat:Int)))),(iA 0),se,(bD 4 0 g.length false)],aA.row false 4 (g.map az)]) (qax rfl)))))))
 exact .cl ((bk rP).trans (JA ..)) (.s (bA true) (.N0 (.s (A.ifc 33 (iA 10)) (.pk (.cr (.kY (.lf rfl rfl ⟨[(kd c)],rfl⟩)))))))
def Fw:Nat->(List UInt8)->Int->Option (Bool×aw×(List UInt8))
 | 0=>λ_ _=>none
 | N+1=>λa2 a3=>bif Nat.ble 8 N then zE (Fw N) (N - 8) a2 a3 else none
theorem ON (C:OT) (a:yb C):∀ N,Mr C N (Fw N)
 | 0=>λ_ _ X r h=>by cases h
 | N+1=>λa2 a3 X=>by
  show J _ _ _ (bif Nat.ble 8 N then zE (Fw N) (N - 8) a2 a3 else none) _;cases h:Nat.ble 8 N with
  | false=>exact λr h=>by cases h
  | true=>
   obtain ⟨n,rfl⟩:∃ n,N=n+8:=⟨N - 8,by have:=qax h; omega⟩
   rw[qdw];exact GQ (m:=3) r7 r7 (by decide) rfl r7 ((by kernel_rfl:_=((((aH 3 (a2.map c8))&&true))&&true)).trans u2) (λ_=>rfl) (λy=>(by show rU 3 (bif y.1 then Out.ret (ag [(iA y.2.1.Kind),(iA y.2.1.N),(sA y.2.1.S),(im (y.2.1.L.map az) false)]) else Out.pan (A.ifc 33 (iA 10)))=true; cases y.1 with | true=>exact((by kernel_rfl:_=((aH 3 (y.2.1.L.map az))&&true)).trans u2) | false=>rfl)) (λy=>((by kernel_rfl:_=((((aH 3 (y.2.2.map c8))&&true))&&true)).trans u2)) (Td C n a (Fw (n+8)) (ON C a (n+8)) a2 a3)
def Rx (n:Nat) (a0:(List UInt8)):Option (aw×Int):=
 (Fw (n+8) a0 0).bind λa=>bif a.1 then (bif (!(((a.2.2.length:Int))==0)) then (some (((aw.mk 0 0 jR ([])),10))) else (some ((a.2.1,0)))) else (some (((aw.mk 0 0 jR ([])),10)))
theorem X0 (C:OT) (n:Nat) (b:yb C) (a0:(List UInt8)):TJ C n 66 [(im (a0.map c8) false)] (Rx n a0) (λy=>(tp [(ag (ar y.1)),(iA y.2)])):=by
 refine .lp (YT ..) ?_;unfold Rx;refine .s ((pt 0 0),[aN]) (.s ((pt 1 0),[aN,bx [(iA 0)]]) (.s (ag [(im (a0.map c8) false)]) (.s ((pt 2 0),[aN,bx [(iA 0)],bx [(im (a0.map c8) false)]]) (.bg (λ(t:Out×Heap) (y:(Bool×aw×(List UInt8)))=>t=((bif y.1 then Out.ret (ag [(iA y.2.1.Kind),(iA y.2.1.N),(sA y.2.1.S),(im (y.2.1.L.map az) false)]) else Out.pan (A.ifc 33 (iA 10))),[aN,bx [(iA 0)],bx [(im (y.2.2.map c8) false)]])) (ON C b (n+8) a0 0 []) ?_))))
 rintro _ a rfl
 refine .ob ?_ ?_
 ·refine .ok (.s [bx (ar a.2.1),bx [(iA 0)],bx [(im (a.2.2.map c8) false)]] (.s (pt 2 0) (.s2 (im (a.2.2.map c8) false) (.st (eS (e:=5)) (.st (aX ..) (.cl ((bk rP).trans (JA ..)) (.s (bA (!(((a.2.2.length:Int))==0))) (.cu ?_ ?_))))))))
  ·exact .s (A.ifc 33 (iA 10)) (.pk (.cr (.kY (.s (bA true) (.N0 (.s (ag [(iA 0),(iA 0),se,Z5]) (.s (iA 10) (.sh (.s [aN,bx [(iA 10)],bx [(im (a.2.2.map c8) false)]] (.s (ag [(iA 0),(iA 0),se,Z5]) (.s (iA 10) (.lv so))))))))))))
  exact .cr (.ok (.s (ag (ar a.2.1)) (.sh (.s [bx (ar a.2.1),bx [(iA 0)],bx [(im (a.2.2.map c8) false)]] (.s (bA false) (.MF (.s (ag (ar a.2.1)) (.s (iA 0) (.lv so)))))))))
 exact .kY (.s (bA true) (.N0 (.s (ag [(iA 0),(iA 0),se,Z5]) (.s (iA 10) (.sh (.s [aN,bx [(iA 10)],bx [(im (a.2.2.map c8) false)]] (.s (ag [(iA 0),(iA 0),se,Z5]) (.s (iA 10) (.lv so)))))))))
def OC (a0:(List UInt8)):Option (aw×Int):=Rx aD a0
def Ln (C:OT):Prop:=∀ (a0:(List UInt8)),C 66 [(im (a0.map c8) false)]=(OC a0).map λy=>(tp [(ag (ar y.1)),(iA y.2)])
def eI (n:Nat) (j:Bool) (b:(List aw)) (c:Int) (k:Int) (l:Int) (o:Int):Nat->Int->Int->Int->Int->Int->Int->Option ((Bool×Int×Int×Int×Int×Int)⊕(Int×Int×Int×Int×Int))
 | 0,_,_,_,_,_,_=>none
 | m+1,a,d,e,f,g,h=>bif (decide (a<c)) then ((bG b a).bind λi=>bif (i.Kind != 1) then (some ((Sum.inl ((false,d,e,f,g,h))))) else (bif decide (a=0) then (eI n j b c k l o m (wr .i64 (a+1)) i.N e f g h) else bif decide (a=1) then (eI n j b c k l o m (wr .i64 (a+1)) d i.N f g h) else bif decide (a=2) then (eI n j b c k l o m (wr .i64 (a+1)) d e i.N g h) else bif decide (a=3) then (eI n j b c k l o m (wr .i64 (a+1)) d e f i.N h) else bif decide (a=4) then (eI n j b c k l o m (wr .i64 (a+1)) d e f g i.N) else none)) else (some ((Sum.inr ((d,e,f,g,h)))))
theorem Gp {f:aA} (o:aA.under 3 f=true) (a1:Bool) (l:(List aw)) (a2:Int) (b:Int) (c:Int) (d:Int) {K:((Bool×Int×Int×Int×Int×Int)⊕(Int×Int×Int×Int×Int))->Option γ} (x0:∀ (p:Bool) (q:Int) (r:Int) (t:Int) (u:Int) (o5:Int) (w:A) (x:A) (y:A) (z:A) (q2:aA) (q3:aA),J φ (kr (St.mk [(2,(pt 0 0)),(3,(bA p)),(6,w),(53,x),(54,y),(55,z)] [bx [(iA q),(iA r),(iA t),(iA u),(iA o5),(iA b),(iA c),(iA d)],f,q2,q3])) kL (K (Sum.inl ((p,q,r,t,u,o5)))) some) (x1:∀ (p:Int) (q:Int) (r:Int) (t:Int) (u:Int) (s3:A) (w:A) (x:A) (y:A) (z:A) (q2:aA),J φ (kx 0 (St.mk [(2,(pt 0 0)),(3,s3),(6,w),(53,x),(54,y),(55,z)] [bx [(iA p),(iA q),(iA r),(iA t),(iA u),(iA b),(iA c),(iA d)],f,q2])) kL (K (Sum.inr ((p,q,r,t,u)))) some) :
  ∀ (m:Nat) (a0:Int) (g:Int) (h:Int) (i:Int) (j:Int) (k:Int),J φ (aI (cx C) (ec C n 8) (ey C n 8) (n+8) 35 0 0 3 kx kg kr kp m (St.mk [(2,(pt 0 0)),(3,(bA a1)),(6,(bD 2 0 5 false)),(53,(im (l.map az) false)),(54,(iA a2)),(55,(iA a0))] [bx [(iA g),(iA h),(iA i),(iA j),(iA k),(iA b),(iA c),(iA d)],f,aA.row true 1 [[(pt 0 0)],[(pt 0 1)],[(pt 0 2)],[(pt 0 3)],[(pt 0 4)],[(pt 0 0)],[(pt 0 5)],[(pt 0 6)],[(pt 0 7)]]])) kL (eI n a1 l a2 b c d m a0 g h i j k) K:=by
  refine nI (λ_ _ _ _ _ _=>.nn) λm ih a0 g h i j k=>.lp (LH ..) ?_;unfold eI;refine .st (aZ ..) (.cu ?_ ?_)
  ·refine .bd ((fx (e:=107) (es:=4)).trans (fc _)) λa=>.s (ag (ar a)) (.sq (pt 3 0) (.s [bx [(iA g),(iA h),(iA i),(iA j),(iA k),(iA b),(iA c),(iA d)],f,aA.row true 1 [[(pt 0 0)],[(pt 0 1)],[(pt 0 2)],[(pt 0 3)],[(pt 0 4)],[(pt 0 0)],[(pt 0 5)],[(pt 0 6)],[(pt 0 7)]],bx (ar a)] (.s2 (iA a.Kind) (.st (aO ..) (.cu ?_ ?_)))))
   ·exact .s (ag [(iA g),(iA h),(iA i),(iA j),(iA k),(iA b),(iA c),(iA d)]) (.s [bx [(iA g),(iA h),(iA i),(iA j),(iA k),(iA b),(iA c),(iA d)],f,aA.row true 1 [[(pt 0 0)],[(pt 0 1)],[(pt 0 2)],[(pt 0 3)],[(pt 0 4)],[(pt 0 0)],[(pt 0 5)],[(pt 0 6)],[(pt 0 7)]],bx (ar a)] (.ex (x0 _ _ _ _ _ _ _ _ _ _ _ _)))
   refine .sp (λa7=>?_) (λ_=>?_)
   ·refine .st (v:=(A.ep 2 0 0)) (by rw[qai a7]; kernel_rfl) (.s (pt 0 0) (.s2 (iA a.N) (.s (pt 0 0) (.s [bx [(iA a.N),(iA h),(iA i),(iA j),(iA k),(iA b),(iA c),(iA d)],f,aA.row true 1 [[(pt 0 0)],[(pt 0 1)],[(pt 0 2)],[(pt 0 3)],[(pt 0 4)],[(pt 0 0)],[(pt 0 5)],[(pt 0 6)],[(pt 0 7)]],bx (ar a)] (.st (aF ..) (.st (v:=[bx [(iA a.N),(iA h),(iA i),(iA j),(iA k),(iA b),(iA c),(iA d)],f,aA.row true 1 [[(pt 0 0)],[(pt 0 1)],[(pt 0 2)],[(pt 0 3)],[(pt 0 4)],[(pt 0 0)],[(pt 0 5)],[(pt 0 6)],[(pt 0 7)]]]) (de r7 (by simp only[uB,df,qae,qaq,Nat.reduceAdd,dg,Nat.reduceLT,qam,o])) (.cT ((by kernel_rfl:_=(bif aH 3 (l.map az) then true else false)).trans u2) ?_)))))));exact ih _ _ _ _ _ _
   refine .sp (λa8=>?_) (λ_=>?_)
   ·refine .st (v:=(A.ep 2 1 0)) (by rw[qai a8]; kernel_rfl) (.s (pt 0 1) (.s2 (iA a.N) (.s (pt 0 1) (.s [bx [(iA g),(iA a.N),(iA i),(iA j),(iA k),(iA b),(iA c),(iA d)],f,aA.row true 1 [[(pt 0 0)],[(pt 0 1)],[(pt 0 2)],[(pt 0 3)],[(pt 0 4)],[(pt 0 0)],[(pt 0 5)],[(pt 0 6)],[(pt 0 7)]],bx (ar a)] (.st (aF ..) (.st (v:=[bx [(iA g),(iA a.N),(iA i),(iA j),(iA k),(iA b),(iA c),(iA d)],f,aA.row true 1 [[(pt 0 0)],[(pt 0 1)],[(pt 0 2)],[(pt 0 3)],[(pt 0 4)],[(pt 0 0)],[(pt 0 5)],[(pt 0 6)],[(pt 0 7)]]]) (de r7 (by simp only[uB,df,qae,qaq,Nat.reduceAdd,dg,Nat.reduceLT,qam,o])) (.cT ((by kernel_rfl:_=(bif aH 3 (l.map az) then true else false)).trans u2) ?_)))))));exact ih _ _ _ _ _ _
   refine .sp (λa9=>?_) (λ_=>?_)
   ·refine .st (v:=(A.ep 2 2 0)) (by rw[qai a9]; kernel_rfl) (.s (pt 0 2) (.s2 (iA a.N) (.s (pt 0 2) (.s [bx [(iA g),(iA h),(iA a.N),(iA j),(iA k),(iA b),(iA c),(iA d)],f,aA.row true 1 [[(pt 0 0)],[(pt 0 1)],[(pt 0 2)],[(pt 0 3)],[(pt 0 4)],[(pt 0 0)],[(pt 0 5)],[(pt 0 6)],[(pt 0 7)]],bx (ar a)] (.st (aF ..) (.st (v:=[bx [(iA g),(iA h),(iA a.N),(iA j),(iA k),(iA b),(iA c),(iA d)],f,aA.row true 1 [[(pt 0 0)],[(pt 0 1)],[(pt 0 2)],[(pt 0 3)],[(pt 0 4)],[(pt 0 0)],[(pt 0 5)],[(pt 0 6)],[(pt 0 7)]]]) (de r7 (by simp only[uB,df,qae,qaq,Nat.reduceAdd,dg,Nat.reduceLT,qam,o])) (.cT ((by kernel_rfl:_=(bif aH 3 (l.map az) then true else false)).trans u2) ?_)))))));exact ih _ _ _ _ _ _
   refine .sp (λaa=>?_) (λ_=>?_)
   ·refine .st (v:=(A.ep 2 3 0)) (by rw[qai aa]; kernel_rfl) (.s (pt 0 3) (.s2 (iA a.N) (.s (pt 0 3) (.s [bx [(iA g),(iA h),(iA i),(iA a.N),(iA k),(iA b),(iA c),(iA d)],f,aA.row true 1 [[(pt 0 0)],[(pt 0 1)],[(pt 0 2)],[(pt 0 3)],[(pt 0 4)],[(pt 0 0)],[(pt 0 5)],[(pt 0 6)],[(pt 0 7)]],bx (ar a)] (.st (aF ..) (.st (v:=[bx [(iA g),(iA h),(iA i),(iA a.N),(iA k),(iA b),(iA c),(iA d)],f,aA.row true 1 [[(pt 0 0)],[(pt 0 1)],[(pt 0 2)],[(pt 0 3)],[(pt 0 4)],[(pt 0 0)],[(pt 0 5)],[(pt 0 6)],[(pt 0 7)]]]) (de r7 (by simp only[uB,df,qae,qaq,Nat.reduceAdd,dg,Nat.reduceLT,qam,o])) (.cT ((by kernel_rfl:_=(bif aH 3 (l.map az) then true else false)).trans u2) ?_)))))));exact ih _ _ _ _ _ _
   refine .sp (λab=>?_) (λ_=>?_)
   ·refine .st (v:=(A.ep 2 4 0)) (by rw[qai ab]; kernel_rfl) (.s (pt 0 4) (.s2 (iA a.N) (.s (pt 0 4) (.s [bx [(iA g),(iA h),(iA i),(iA j),(iA a.N),(iA b),(iA c),(iA d)],f,aA.row true 1 [[(pt 0 0)],[(pt 0 1)],[(pt 0 2)],[(pt 0 3)],[(pt 0 4)],[(pt 0 0)],[(pt 0 5)],[(pt 0 6)],[(pt 0 7)]],bx (ar a)] (.st (aF ..) (.st (v:=[bx [(iA g),(iA h),(iA i),(iA j),(iA a.N),(iA b),(iA c),(iA d)],f,aA.row true 1 [[(pt 0 0)],[(pt 0 1)],[(pt 0 2)],[(pt 0 3)],[(pt 0 4)],[(pt 0 0)],[(pt 0 5)],[(pt 0 6)],[(pt 0 7)]]]) (de r7 (by simp only[uB,df,qae,qaq,Nat.reduceAdd,dg,Nat.reduceLT,qam,o])) (.cT ((by kernel_rfl:_=(bif aH 3 (l.map az) then true else false)).trans u2) ?_)))))));exact ih _ _ _ _ _ _
   exact .nn
  exact .ex (x1 _ _ _ _ _ _ _ _ _ _ _)
def eE (n:Nat) (i:Bool) (b:(List aw)) (c:Int) (j:Int) (k:Int) (l:Int) (o:Int):Nat->Int->Int->Int->Int->Int->Option ((Bool×Int×Int×Int×Int)⊕(Int×Int×Int×Int))
 | 0,_,_,_,_,_=>none
 | m+1,a,d,e,f,g=>bif (decide (a<c)) then ((bG b a).bind λh=>bif (h.Kind != 1) then (some ((Sum.inl ((false,d,e,f,g))))) else (bif decide (a=0) then (eE n i b c j k l o m (wr .i64 (a+1)) h.N e f g) else bif decide (a=1) then (eE n i b c j k l o m (wr .i64 (a+1)) d h.N f g) else bif decide (a=2) then (eE n i b c j k l o m (wr .i64 (a+1)) d e h.N g) else bif decide (a=3) then (eE n i b c j k l o m (wr .i64 (a+1)) d e f h.N) else none)) else (some ((Sum.inr ((d,e,f,g)))))
theorem Eu {g:aA} (t:aA.under 3 g=true) (a0:Bool) (l:(List aw)) (a1:Int) (b:Int) (c:Int) (d:Int) (f:Int) {K:((Bool×Int×Int×Int×Int)⊕(Int×Int×Int×Int))->Option γ} (x0:∀ (o:Bool) (p:Int) (q:Int) (r:Int) (o4:Int) (u:A) (w:A) (x:A) (y:A) (q2:aA) (q3:aA),J φ (kr (St.mk [(2,(pt 0 0)),(3,(bA o)),(6,u),(53,w),(54,x),(55,y)] [bx [(iA p),(iA b),(iA c),(iA d),(iA f),(iA q),(iA r),(iA o4)],g,q2,q3])) kL (K (Sum.inl ((o,p,q,r,o4)))) some) (x1:∀ (o:Int) (p:Int) (q:Int) (r:Int) (s3:A) (u:A) (w:A) (x:A) (y:A) (q2:aA),J φ (kx 0 (St.mk [(2,(pt 0 0)),(3,s3),(6,u),(53,w),(54,x),(55,y)] [bx [(iA o),(iA b),(iA c),(iA d),(iA f),(iA p),(iA q),(iA r)],g,q2])) kL (K (Sum.inr ((o,p,q,r)))) some) :
  ∀ (m:Nat) (z:Int) (h:Int) (i:Int) (j:Int) (k:Int),J φ (aI (cx C) (ec C n 8) (ey C n 8) (n+8) 35 0 0 3 kx kg kr kp m (St.mk [(2,(pt 0 0)),(3,(bA a0)),(6,(bD 2 5 4 true)),(53,(im (l.map az) false)),(54,(iA a1)),(55,(iA z))] [bx [(iA h),(iA b),(iA c),(iA d),(iA f),(iA i),(iA j),(iA k)],g,aA.row true 1 [[(pt 0 0)],[(pt 0 1)],[(pt 0 2)],[(pt 0 3)],[(pt 0 4)],[(pt 0 0)],[(pt 0 5)],[(pt 0 6)],[(pt 0 7)]]])) kL (eE n a0 l a1 b c d f m z h i j k) K:=by
  refine nI (λ_ _ _ _ _=>.nn) λm ih z h i j k=>.lp (LH ..) ?_;unfold eE;refine .st (aZ ..) (.cu ?_ ?_)
  ·refine .bd ((fx (e:=107) (es:=4)).trans (fc _)) λa=>.s (ag (ar a)) (.sq (pt 3 0) (.s [bx [(iA h),(iA b),(iA c),(iA d),(iA f),(iA i),(iA j),(iA k)],g,aA.row true 1 [[(pt 0 0)],[(pt 0 1)],[(pt 0 2)],[(pt 0 3)],[(pt 0 4)],[(pt 0 0)],[(pt 0 5)],[(pt 0 6)],[(pt 0 7)]],bx (ar a)] (.s2 (iA a.Kind) (.st (aO ..) (.cu ?_ ?_)))))
   ·exact .s (ag [(iA h),(iA b),(iA c),(iA d),(iA f),(iA i),(iA j),(iA k)]) (.s [bx [(iA h),(iA b),(iA c),(iA d),(iA f),(iA i),(iA j),(iA k)],g,aA.row true 1 [[(pt 0 0)],[(pt 0 1)],[(pt 0 2)],[(pt 0 3)],[(pt 0 4)],[(pt 0 0)],[(pt 0 5)],[(pt 0 6)],[(pt 0 7)]],bx (ar a)] (.ex (x0 _ _ _ _ _ _ _ _ _ _ _)))
   refine .sp (λa6=>?_) (λ_=>?_)
   ·refine .st (v:=(A.ep 2 5 0)) (by rw[qai a6]; kernel_rfl) (.s (pt 0 0) (.s2 (iA a.N) (.s (pt 0 0) (.s [bx [(iA a.N),(iA b),(iA c),(iA d),(iA f),(iA i),(iA j),(iA k)],g,aA.row true 1 [[(pt 0 0)],[(pt 0 1)],[(pt 0 2)],[(pt 0 3)],[(pt 0 4)],[(pt 0 0)],[(pt 0 5)],[(pt 0 6)],[(pt 0 7)]],bx (ar a)] (.st (aF ..) (.st (v:=[bx [(iA a.N),(iA b),(iA c),(iA d),(iA f),(iA i),(iA j),(iA k)],g,aA.row true 1 [[(pt 0 0)],[(pt 0 1)],[(pt 0 2)],[(pt 0 3)],[(pt 0 4)],[(pt 0 0)],[(pt 0 5)],[(pt 0 6)],[(pt 0 7)]]]) (de r7 (by simp only[uB,df,qae,qaq,Nat.reduceAdd,dg,Nat.reduceLT,qam,t])) (.cT ((by kernel_rfl:_=(bif aH 3 (l.map az) then true else false)).trans u2) ?_)))))));exact ih _ _ _ _ _
   refine .sp (λa7=>?_) (λ_=>?_)
   ·refine .st (v:=(A.ep 2 6 0)) (by rw[qai a7]; kernel_rfl) (.s (pt 0 5) (.s2 (iA a.N) (.s (pt 0 5) (.s [bx [(iA h),(iA b),(iA c),(iA d),(iA f),(iA a.N),(iA j),(iA k)],g,aA.row true 1 [[(pt 0 0)],[(pt 0 1)],[(pt 0 2)],[(pt 0 3)],[(pt 0 4)],[(pt 0 0)],[(pt 0 5)],[(pt 0 6)],[(pt 0 7)]],bx (ar a)] (.st (aF ..) (.st (v:=[bx [(iA h),(iA b),(iA c),(iA d),(iA f),(iA a.N),(iA j),(iA k)],g,aA.row true 1 [[(pt 0 0)],[(pt 0 1)],[(pt 0 2)],[(pt 0 3)],[(pt 0 4)],[(pt 0 0)],[(pt 0 5)],[(pt 0 6)],[(pt 0 7)]]]) (de r7 (by simp only[uB,df,qae,qaq,Nat.reduceAdd,dg,Nat.reduceLT,qam,t])) (.cT ((by kernel_rfl:_=(bif aH 3 (l.map az) then true else false)).trans u2) ?_)))))));exact ih _ _ _ _ _
   refine .sp (λa8=>?_) (λ_=>?_)
   ·refine .st (v:=(A.ep 2 7 0)) (by rw[qai a8]; kernel_rfl) (.s (pt 0 6) (.s2 (iA a.N) (.s (pt 0 6) (.s [bx [(iA h),(iA b),(iA c),(iA d),(iA f),(iA i),(iA a.N),(iA k)],g,aA.row true 1 [[(pt 0 0)],[(pt 0 1)],[(pt 0 2)],[(pt 0 3)],[(pt 0 4)],[(pt 0 0)],[(pt 0 5)],[(pt 0 6)],[(pt 0 7)]],bx (ar a)] (.st (aF ..) (.st (v:=[bx [(iA h),(iA b),(iA c),(iA d),(iA f),(iA i),(iA a.N),(iA k)],g,aA.row true 1 [[(pt 0 0)],[(pt 0 1)],[(pt 0 2)],[(pt 0 3)],[(pt 0 4)],[(pt 0 0)],[(pt 0 5)],[(pt 0 6)],[(pt 0 7)]]]) (de r7 (by simp only[uB,df,qae,qaq,Nat.reduceAdd,dg,Nat.reduceLT,qam,t])) (.cT ((by kernel_rfl:_=(bif aH 3 (l.map az) then true else false)).trans u2) ?_)))))));exact ih _ _ _ _ _
   refine .sp (λa9=>?_) (λ_=>?_)
   ·refine .st (v:=(A.ep 2 8 0)) (by rw[qai a9]; kernel_rfl) (.s (pt 0 7) (.s2 (iA a.N) (.s (pt 0 7) (.s [bx [(iA h),(iA b),(iA c),(iA d),(iA f),(iA i),(iA j),(iA a.N)],g,aA.row true 1 [[(pt 0 0)],[(pt 0 1)],[(pt 0 2)],[(pt 0 3)],[(pt 0 4)],[(pt 0 0)],[(pt 0 5)],[(pt 0 6)],[(pt 0 7)]],bx (ar a)] (.st (aF ..) (.st (v:=[bx [(iA h),(iA b),(iA c),(iA d),(iA f),(iA i),(iA j),(iA a.N)],g,aA.row true 1 [[(pt 0 0)],[(pt 0 1)],[(pt 0 2)],[(pt 0 3)],[(pt 0 4)],[(pt 0 0)],[(pt 0 5)],[(pt 0 6)],[(pt 0 7)]]]) (de r7 (by simp only[uB,df,qae,qaq,Nat.reduceAdd,dg,Nat.reduceLT,qam,t])) (.cT ((by kernel_rfl:_=(bif aH 3 (l.map az) then true else false)).trans u2) ?_)))))));exact ih _ _ _ _ _
   exact .nn
  exact .ex (x1 _ _ _ _ _ _ _ _ _ _)
def Rg (n:Nat) (a0:(List UInt8)):Option (aQ×Bool):=
 (OC a0).bind λa=>(bif (a.2 != 0) then (some true) else (some (a.1.Kind != 3))).bind λc=>(bif c then (some true) else (some (((a.1.L.length:Int))==0))).bind λd=>bif d then (some (((aQ.mk 0 ((aE.mk 0 0 0 0)) ((bH.mk 0 0 0))),false))) else ((bG a.1.L 0).bind λb=>bif (b.N==1) then ((bif (b.N != 1) then (some (b.N != 2)) else (some false)).bind λe=>(bif e then (some true) else (some (((a.1.L.length:Int)) != 5))).bind λf=>bif f then (some (((aQ.mk b.N ((aE.mk 0 0 0 0)) ((bH.mk 0 0 0))),false))) else ((eI n false a.1.L ((a.1.L.length:Int)) 0 0 0 (n+8) 0 b.N 0 0 0 0).bind λg=>match g with | (Sum.inl ((h,i,j,k,l,o)))=>some (((aQ.mk i ((aE.mk j k l o)) ((bH.mk 0 0 0))),h)) | (Sum.inr ((p,q,r,s,t)))=>some (((aQ.mk p ((aE.mk q r s t)) ((bH.mk 0 0 0))),true)))) else ((bif (b.N != 1) then (some (b.N != 2)) else (some false)).bind λu=>(bif u then (some true) else (some (((a.1.L.length:Int)) != 4))).bind λv=>bif v then (some (((aQ.mk b.N ((aE.mk 0 0 0 0)) ((bH.mk 0 0 0))),false))) else ((eE n false a.1.L ((a.1.L.length:Int)) 0 0 0 0 (n+8) 0 b.N 0 0 0).bind λw=>match w with | (Sum.inl ((x,y,z,a1,a2)))=>some (((aQ.mk y ((aE.mk 0 0 0 0)) ((bH.mk z a1 a2))),x)) | (Sum.inr ((a3,a4,a5,a6)))=>some (((aQ.mk a3 ((aE.mk 0 0 0 0)) ((bH.mk a4 a5 a6))),true)))))
theorem XK (C:OT) (n:Nat) (aj:Ln C) (a0:(List UInt8)):TJ C n 35 [(im (a0.map c8) false)] (Rg n a0) (λy=>(tp [(ag (ax y.1)),(bA y.2)])):=by
 refine .lp (Yz ..) ?_;unfold Rg;refine .s ((pt 0 0),[bx [(iA 0),(iA 0),(iA 0),(iA 0),(iA 0),(iA 0),(iA 0),(iA 0)]]) (.bd (g:=λ(y:(aw×Int))=>(tp [(ag (ar y.1)),(iA y.2)])) (by simp only[cP,fo]; exact aj a0) λa=>.s (ag (ar a.1)) (.s (iA a.2) (.sq (pt 1 0) (.s [bx [(iA 0),(iA 0),(iA 0),(iA 0),(iA 0),(iA 0),(iA 0),(iA 0)],bx (ar a.1)] (.st (aO ..) (.bg (λt (y:Bool)=>∃ p q r:A,t=[(bA y),p,q,r]) ?_ ?_))))))
 ·refine .bi ?_ ?_
  ·exact .lg ⟨_,_,_,rfl⟩
  exact .s (pt 1 0) (.s (iA a.1.Kind) (.st (aO ..) (.lg ⟨_,_,_,rfl⟩)))
 rintro _ y3 ⟨p,q,r,rfl⟩
 refine .u4 (.bg (λt (y:Bool)=>∃ u tC v w:A,t=[(bA y),u,tC,v,w]) ?_ ?_)
 ·refine .bi ?_ ?_
  ·exact .lg ⟨_,_,_,_,rfl⟩
  exact .s (pt 1 3) (.s (im (a.1.L.map az) false) (.st (eS (e:=107)) (.st (aX ..) (.lg ⟨_,_,_,_,rfl⟩))))
 rintro _ y8 ⟨u,tC,v,w,rfl⟩
 refine .u4 (.uc (.cu ?_ ?_))
 ·exact .s (ag [(iA 0),(iA 0),(iA 0),(iA 0),(iA 0),(iA 0),(iA 0),(iA 0)]) (.s [bx [(iA 0),(iA 0),(iA 0),(iA 0),(iA 0),(iA 0),(iA 0),(iA 0)],bx (ar a.1)] (.s (ag [(iA 0),(iA 0),(iA 0),(iA 0),(iA 0),(iA 0),(iA 0),(iA 0)]) (.lv rfl)))
 refine .s2 (im (a.1.L.map az) false) (.bd ((fx (e:=107) (es:=4)).trans (fc _)) λb=>.s2 (iA b.N) (.s (pt 0 0) (.sh (.cl ((bk L5).trans (V4 ..)) (.s (pt 0 0) (.s (pt 0 0) (.s (pt 0 0) (.s (pt 0 1) (.s (pt 0 1) (.s (pt 0 0) (.s (pt 0 1) (.s (pt 0 2) (.s (pt 0 0) (.s (pt 0 1) (.s (pt 0 3) (.s (pt 0 0) (.s (pt 0 1) (.s (pt 0 4) (.s (pt 0 0) (.s (pt 0 0) (.s (pt 0 0) (.s (pt 0 5) ?_))))))))))))))))))))));refine .s (pt 0 5) (.s (pt 0 0) (.s (pt 0 5) (.s (pt 0 6) (.s (pt 0 0) (.s (pt 0 5) (.s (pt 0 7) (.s (ag [(pt 0 0),(pt 0 1),(pt 0 2),(pt 0 3),(pt 0 4),(pt 0 0),(pt 0 5),(pt 0 6),(pt 0 7)]) (.cT r7 (.sq (A.ep 2 0 0) (.s [bx [(iA b.N),(iA 0),(iA 0),(iA 0),(iA 0),(iA 0),(iA 0),(iA 0)],bx (ar a.1),aA.row true 1 [[(pt 0 0)],[(pt 0 1)],[(pt 0 2)],[(pt 0 3)],[(pt 0 4)],[(pt 0 0)],[(pt 0 5)],[(pt 0 6)],[(pt 0 7)]]] (.s (pt 0 0) (.s2 (iA b.N) (.st (aX ..) (.cu ?_ ?_))))))))))))))
 ·refine .s (bD 2 0 5 false) (.cr (.ok (.s2 (iA b.N) (.st (aO ..) (.bg (λt (y:Bool)=>∃ x z a1:A,t=[(bA y),x,z,a1]) ?_ ?_)))))
  ·refine .bi ?_ ?_
   ·exact .s (pt 0 0) (.s (iA b.N) (.st (aO ..) (.lg ⟨_,_,_,rfl⟩)))
   exact .lg ⟨_,_,_,rfl⟩
  rintro _ b3 ⟨x,z,a1,rfl⟩
  refine .u4 (.bg (λt (y:Bool)=>∃ a2 a3 a4 a5 a6 a7:A,t=[(bA y),a2,a3,a4,a5,a6,a7]) ?_ ?_)
  ·refine .bi ?_ ?_
   ·exact .lg ⟨_,_,_,_,_,_,rfl⟩
   exact .s (pt 1 3) (.s (im (a.1.L.map az) false) (.st (eS (e:=107)) (.s (iA 5) (.st (aO ..) (.lg ⟨_,_,_,_,_,_,rfl⟩)))))
  rintro _ b4 ⟨a2,a3,a4,a5,a6,a7,rfl⟩
  refine .u4 (.uc (.uc (.uc (.cu ?_ ?_))))
  ·exact .s (ag [(iA b.N),(iA 0),(iA 0),(iA 0),(iA 0),(iA 0),(iA 0),(iA 0)]) (.s [bx [(iA b.N),(iA 0),(iA 0),(iA 0),(iA 0),(iA 0),(iA 0),(iA 0)],bx (ar a.1),aA.row true 1 [[(pt 0 0)],[(pt 0 1)],[(pt 0 2)],[(pt 0 3)],[(pt 0 4)],[(pt 0 0)],[(pt 0 5)],[(pt 0 6)],[(pt 0 7)]]] (.s (ag [(iA b.N),(iA 0),(iA 0),(iA 0),(iA 0),(iA 0),(iA 0),(iA 0)]) (.lv rfl)))
  refine .s2 (im (a.1.L.map az) false) (.st (eS (e:=107)) (.as (Gp C n _ _ _ _ x8 false a.1.L ((a.1.L.length:Int)) 0 0 0 ?_ ?_ _ 0 b.N 0 0 0 0)))
  ·intro b5 ak al am an ao b6 b7 b8 b9 ba bb;exact .un rfl (.s (ag [(iA ak),(iA al),(iA am),(iA an),(iA ao),(iA 0),(iA 0),(iA 0)]) (.lv rfl))
  ·intro c d f h i bc be bf bh bj ap;exact .un rfl (.cT r7 (.s (ag [(iA c),(iA d),(iA f),(iA h),(iA i),(iA 0),(iA 0),(iA 0)]) (.s [bx [(iA c),(iA d),(iA f),(iA h),(iA i),(iA 0),(iA 0),(iA 0)],bx (ar a.1),ap] (.s (ag [(iA c),(iA d),(iA f),(iA h),(iA i),(iA 0),(iA 0),(iA 0)]) (.lv rfl)))))
 refine .s (bD 2 5 4 true) (.cr (.ok (.s2 (iA b.N) (.st (aO ..) (.bg (λt (y:Bool)=>∃ a8 a9 aa:A,t=[(bA y),a8,a9,aa]) ?_ ?_)))))
 ·refine .bi ?_ ?_
  ·exact .s (pt 0 0) (.s (iA b.N) (.st (aO ..) (.lg ⟨_,_,_,rfl⟩)))
  exact .lg ⟨_,_,_,rfl⟩
 rintro _ bl ⟨a8,a9,aa,rfl⟩
 refine .u4 (.bg (λt (y:Bool)=>∃ ab ad ae af ah ai:A,t=[(bA y),ab,ad,ae,af,ah,ai]) ?_ ?_)
 ·refine .bi ?_ ?_
  ·exact .lg ⟨_,_,_,_,_,_,rfl⟩
  exact .s (pt 1 3) (.s (im (a.1.L.map az) false) (.st (eS (e:=107)) (.s (iA 4) (.st (aO ..) (.lg ⟨_,_,_,_,_,_,rfl⟩)))))
 rintro _ bm ⟨ab,ad,ae,af,ah,ai,rfl⟩
 refine .u4 (.uc (.uc (.uc (.cu ?_ ?_))))
 ·exact .s (ag [(iA b.N),(iA 0),(iA 0),(iA 0),(iA 0),(iA 0),(iA 0),(iA 0)]) (.s [bx [(iA b.N),(iA 0),(iA 0),(iA 0),(iA 0),(iA 0),(iA 0),(iA 0)],bx (ar a.1),aA.row true 1 [[(pt 0 0)],[(pt 0 1)],[(pt 0 2)],[(pt 0 3)],[(pt 0 4)],[(pt 0 0)],[(pt 0 5)],[(pt 0 6)],[(pt 0 7)]]] (.s (ag [(iA b.N),(iA 0),(iA 0),(iA 0),(iA 0),(iA 0),(iA 0),(iA 0)]) (.lv rfl)))
 refine .s2 (im (a.1.L.map az) false) (.st (eS (e:=107)) (.as (Eu C n _ _ _ _ x8 false a.1.L ((a.1.L.length:Int)) 0 0 0 0 ?_ ?_ _ 0 b.N 0 0 0)))
 ·intro bn aq au av ay bo bp bq br bs bt;exact .un rfl (.s (ag [(iA aq),(iA 0),(iA 0),(iA 0),(iA 0),(iA au),(iA av),(iA ay)]) (.lv rfl))
 ·intro j k l o bu bv bw bz c0 b0;exact .un rfl (.cT r7 (.s (ag [(iA j),(iA 0),(iA 0),(iA 0),(iA 0),(iA k),(iA l),(iA o)]) (.s [bx [(iA j),(iA 0),(iA 0),(iA 0),(iA 0),(iA k),(iA l),(iA o)],bx (ar a.1),b0] (.s (ag [(iA j),(iA 0),(iA 0),(iA 0),(iA 0),(iA k),(iA l),(iA o)]) (.lv rfl)))))
def NT (a0:(List UInt8)):Option (aQ×Bool):=Rg aD a0
def Dc (C:OT):Prop:=∀ (a0:(List UInt8)),C 35 [(im (a0.map c8) false)]=(NT a0).map λy=>(tp [(ag (ax y.1)),(bA y.2)])
def mY (n:Nat) (f:Int) (b:Int) (c:(List aR)) (d:Int) (e:ay):Nat->Int->Option ((Int)⊕(Unit))
 | 0,_=>none
 | m+1,a=>bif (decide (a<d)) then ((bG c a).bind λg=>(Ou g a b e.Bar).bind λh=>bif (!h) then (some ((Sum.inl 490))) else (mY n f b c d e m (wr .i64 (a+1)))) else (some ((Sum.inr (()))))
theorem F5 (p:FN C) (f:Int) (b:Int) (h:(List aR)) (l:Int) (a:ay) {K:((Int)⊕(Unit))->Option γ} (q:∀ (o:Int) (r:A) (t:A) (i:A) (j:A) (k:A) (u:aA) (q1:aA),J φ (kr (St.mk [(1,r),(2,(iA o)),(3,t),(31,i),(32,j),(33,k)] [u,q1])) kL (K (Sum.inl o)) some) (w:∀ (i:A) (j:A) (k:A),J φ (kx 0 (St.mk [(1,(pt 0 0)),(2,(iA f)),(3,(iA b)),(31,i),(32,j),(33,k)] [bx (aq a)])) kL (K (Sum.inr (()))) some) :
  ∀ (m:Nat) (c:Int),J φ (aI (cx C) (ec C n 8) (ey C n 8) (n+8) 13 0 0 1 kx kg kr kp m (St.mk [(1,(pt 0 0)),(2,(iA f)),(3,(iA b)),(31,(im (h.map aB) false)),(32,(iA l)),(33,(iA c))] [bx (aq a)])) kL (mY n f b h l a m c) K:=by
  refine nI (λ_=>.nn) λm ih c=>.lp (Pd ..) ?_;unfold mY;refine .st (aZ ..) (.cu ?_ ?_)
  ·refine .bd (fx (e:=55) (es:=3)) λd=>.s (ag (aB d)) (.sq (pt 1 0) (.s [bx (aq a),bx (aB d)] (.s (ag (aB d)) (.s2 (iA a.Bar) (.bd (g:=λ(y:Bool)=>(bA y)) (by simp only[cP,fo]; exact p d c b a.Bar) λx=>.s (bA (!x)) (.cu ?_ ?_))))))
   ·exact .ex (q _ _ _ _ _ _ _ _)
   refine .st (aF ..) (.st (v:=[bx (aq a)]) (de r7 ZY) (.cT ((by kernel_rfl:_=(bif aH 1 (h.map aB) then true else false)).trans u2) ?_));exact ih _
  exact .ex (w _ _ _)
def km (n:Nat) (h:Int) (b:Int) (f:(List aC)) (g:Int) (c:ay):Nat->Int->Option ((Int)⊕(Unit))
 | 0,_=>none
 | m+1,d=>bif (decide (d<g)) then ((bG f d).bind λe=>(NT e.Data).bind λa=>(bif a.2 then (some (a.1.kind==1)) else (some false)).bind λi=>bif i then ((Ml a.1.cue b).bind λj=>(bif j then (some (e.From==0)) else (some false)).bind λk=>(bif k then (some (e.To==(wr .i64 (a.1.cue.Role+1)))) else (some false)).bind λl=>bif (!l) then (some ((Sum.inl 490))) else (km n h b f g c m (wr .i64 (d+1)))) else (bif a.2 then ((zH a.1.report.Role 0 (wr .i64 (b - 1))).bind λo=>(bif o then ((zH a.1.report.Bar 0 (wr .i64 (c.Bar - 1))).bind λp=>some p) else (some false)).bind λq=>(bif q then (some (e.From==(wr .i64 (a.1.report.Role+1)))) else (some false)).bind λr=>(bif r then (some (e.To==0)) else (some false)).bind λs=>(bif s then ((bG c.Ears a.1.report.Role).bind λt=>(bG t.Did a.1.report.Bar).bind λu=>some (u==a.1.report.Program)) else (some false)).bind λv=>bif (!v) then (some ((Sum.inl 490))) else (km n h b f g c m (wr .i64 (d+1)))) else (bif (!a.2) then (some ((Sum.inl 490))) else (km n h b f g c m (wr .i64 (d+1)))))) else (some ((Sum.inr (()))))
theorem F7 (b2:w5 C) (u:oP C) (b3:Dc C) (w:Int) (f:Int) (d:(List aC)) (x:Int) (b:ay) {K:((Int)⊕(Unit))->Option γ} (h:∀ (z:Int) (i:A) (j:A) (k:A) (l:A) (o:A) (p:aA) (q1:aA) (q2:aA) (q3:aA) (q4:aA),J φ (kr (St.mk [(1,i),(2,(iA z)),(3,j),(48,k),(49,l),(50,o)] [p,q1,q2,q3,q4])) kL (K (Sum.inl z)) some) (x1:∀ (i:A) (s2:A) (j:A) (k:A) (l:A) (o:A) (p:aA),J φ (kx 2 (St.mk [(1,i),(2,s2),(3,j),(48,k),(49,l),(50,o)] [p])) kL (K (Sum.inr (()))) some) :
  ∀ (m:Nat) (q:Int),J φ (aI (cx C) (ec C n 8) (ey C n 8) (n+8) 13 0 1 1 kx kg kr kp m (St.mk [(1,(pt 0 0)),(2,(iA w)),(3,(iA f)),(48,(im (d.map al) false)),(49,(iA x)),(50,(iA q))] [bx (aq b)])) kL (km n w f d x b m q) K:=by
  refine nI (λ_=>.nn) λm ih q=>.lp (Pe ..) ?_;unfold km;refine .st (aZ ..) (.cu ?_ ?_)
  ·refine .bd (fx (e:=48) (es:=3)) λc=>.s (ag (al c)) (.sq (pt 1 0) (.s [bx (aq b),bx (al c)] (.s2 (im (c.Data.map c8) false) (.bd (g:=λ(y:(aQ×Bool))=>(tp [(ag (ax y.1)),(bA y.2)])) (by simp only[cP,fo]; exact b3 c.Data) λa=>.s (ag (ax a.1)) (.s (bA a.2) (.sq (pt 2 0) (.sh (.sq (pt 3 0) (.s ((pt 4 0),[bx (aq b),bx (al c),bx (ax a.1),bx [(iA 0),(iA 0),(iA 0),(iA 0)],bx [(iA 0),(iA 0),(iA 0)]]) (.s2 (ag (av a.1.cue)) (.s (pt 2 5) (.s (ag (bF a.1.report)) (.cT r7 (.sh (.s [bx (aq b),bx (al c),bx (ax a.1),bx (av a.1.cue),bx (bF a.1.report)] (.bg (λt (y:Bool)=>∃ a0 a1 a2:A,t=[(bA y),a0,a1,a2]) ?_ ?_))))))))))))))))
   ·refine .bi ?_ ?_
    ·exact .s (pt 2 0) (.s (iA a.1.kind) (.st (aX ..) (.lg ⟨_,_,_,rfl⟩)))
    exact .lg ⟨_,_,_,rfl⟩
   rintro _ b8 ⟨a0,a1,a2,rfl⟩
   refine .u4 (.cu ?_ ?_)
   ·refine .s (ag (av a.1.cue)) (.bd (b2 a.1.cue f) λb9=>.bg (λt (y:Bool)=>∃ a3 a4 a5:A,t=[(bA y),a3,a4,a5]) ?_ ?_)
    ·refine .bi ?_ ?_
     ·exact .s (pt 1 0) (.s (iA c.From) (.st (aX ..) (.lg ⟨_,_,_,rfl⟩)))
     exact .lg ⟨_,_,_,rfl⟩
    rintro _ ba ⟨a3,a4,a5,rfl⟩
    refine .u4 (.bg (λt (y:Bool)=>∃ a6 a7 a8 a9 aa ab:A,t=[(bA y),a6,a7,a8,a9,aa,ab]) ?_ ?_)
    ·refine .bi ?_ ?_
     ·exact .s (pt 1 1) (.s (iA c.To) (.s (pt 3 1) (.s (iA a.1.cue.Role) (.st (aF ..) (.st (aX ..) (.lg ⟨_,_,_,_,_,_,rfl⟩))))))
     exact .lg ⟨_,_,_,_,_,_,rfl⟩
    rintro _ b5 ⟨a6,a7,a8,a9,aa,ab,rfl⟩
    refine .u4 (.uc (.uc (.uc (.s (bA (!b5)) (.cu ?_ ?_)))))
    ·exact .ex (h _ _ _ _ _ _ _ _ _ _ _)
    refine .st (aF ..) (.st (v:=[bx (aq b)]) (de r7 ZY) (.cT ((by kernel_rfl:_=(bif aH 1 (d.map al) then true else false)).trans u2) ?_));exact ih _
   refine .cu ?_ ?_
   ·refine .s2 (iA a.1.report.Role) (.st (fF ..) (.bd (u a.1.report.Role 0 (wr .i64 (f - 1))) λbc=>.bg (λt (y:Bool)=>∃ ad ae af ah ai aj:A,t=[(bA y),ad,ae,af,ah,ai,aj]) ?_ ?_))
    ·refine .bi ?_ ?_
     ·exact .s (pt 4 1) (.s (iA a.1.report.Bar) (.s (pt 0 3) (.s (iA b.Bar) (.st (fF ..) (.bd (u a.1.report.Bar 0 (wr .i64 (b.Bar - 1))) λbe=>.lg ⟨_,_,_,_,_,_,rfl⟩)))))
     exact .lg ⟨_,_,_,_,_,_,rfl⟩
    rintro _ bf ⟨ad,ae,af,ah,ai,aj,rfl⟩
    refine .u4 (.uc (.uc (.uc (.bg (λt (y:Bool)=>∃ ak am an ao ap ar:A,t=[(bA y),ak,am,an,ao,ap,ar]) ?_ ?_))))
    ·refine .bi ?_ ?_
     ·exact .s (pt 1 0) (.s (iA c.From) (.s (pt 4 0) (.s (iA a.1.report.Role) (.st (aF ..) (.st (aX ..) (.lg ⟨_,_,_,_,_,_,rfl⟩))))))
     exact .lg ⟨_,_,_,_,_,_,rfl⟩
    rintro _ bh ⟨ak,am,an,ao,ap,ar,rfl⟩
    refine .u4 (.uc (.uc (.uc (.bg (λt (y:Bool)=>∃ au aw az:A,t=[(bA y),au,aw,az]) ?_ ?_))))
    ·refine .bi ?_ ?_
     ·exact .s (pt 1 1) (.s (iA c.To) (.st (aX ..) (.lg ⟨_,_,_,rfl⟩)))
     exact .lg ⟨_,_,_,rfl⟩
    rintro _ bj ⟨au,aw,az,rfl⟩
    refine .u4 (.NJ (.bg (λt (y:Bool)=>∃ b0:A,t=[(bA y),b0]) ?_ ?_))
    ·refine .Hp (λr=>?_) (λr=>?_)
     ·exact .bb (.s (pt 0 2) (.s (im (b.Ears.map aB) false) (.s (pt 4 0) (.s (iA a.1.report.Role) (.bd (fx (e:=55) (es:=3)) λb1=>.s (A.ip [(im (b1.Did.map (cI .i64)) false)]) (.s (im (b1.Did.map (cI .i64)) false) (.s (pt 4 1) (.s (iA a.1.report.Bar) (.bd (fx (e:=3) (es:=1)) λb6=>.s (iA b6) (.s (pt 4 2) (.s (iA a.1.report.Program) (.cr (.u4 (.u4 (.u4 (.uc (.sj r (.st (aX ..) (.lg ⟨_,rfl⟩)))))))))))))))))))
     exact .bb (.cr (.u4 (.u4 (.u4 (.uc (.tK r (.lg ⟨_,rfl⟩)))))))
    rintro _ b7 ⟨b0,rfl⟩
    refine .uc (.uc (.s (bA (!b7)) (.cu ?_ ?_)))
    ·exact .ex (h _ _ _ _ _ _ _ _ _ _ _)
    refine .st (aF ..) (.st (v:=[bx (aq b)]) (de r7 ZY) (.cT ((by kernel_rfl:_=(bif aH 1 (d.map al) then true else false)).trans u2) ?_));exact ih _
   refine .s (bA (!a.2)) (.cu ?_ ?_)
   ·exact .ex (h _ _ _ _ _ _ _ _ _ _ _)
   refine .st (aF ..) (.st (v:=[bx (aq b)]) (de r7 ZY) (.cT ((by kernel_rfl:_=(bif aH 1 (d.map al) then true else false)).trans u2) ?_));exact ih _
  exact .ex (x1 _ _ _ _ _ _ _)
def Q6 (n:Nat) (a0:ay):Option Int:=
 (zH ((a0.Ears.length:Int)) 1 12).bind λa=>(bif (!a) then (some true) else ((zH a0.Bar 0 4096).bind λb=>some (!b))).bind λc=>(bif c then (some true) else ((Mm a0.Net).bind λd=>some (d != 0))).bind λe=>bif e then (some 490) else ((mY n 0 ((a0.Ears.length:Int)) a0.Ears ((a0.Ears.length:Int)) a0 (n+8) 0).bind λf=>match f with | (Sum.inl g)=>some g | (Sum.inr _)=>(km n 0 ((a0.Ears.length:Int)) a0.Net.Queue ((a0.Net.Queue.length:Int)) a0 (n+8) 0).bind λh=>match h with | (Sum.inl i)=>some i | (Sum.inr _)=>some 0)
theorem Xx (C:OT) (n:Nat) (l:w5 C) (a:oP C) (o:Db C) (p:FN C) (q:Dc C) (a0:ay):TJ C n 13 [(ag (aq a0))] (Q6 n a0) (λy=>(iA y)):=by
 refine .lp (Yl ..) ?_;unfold Q6;refine .s ((pt 0 0),[bx (aq a0)]) (.s2 (im (a0.Ears.map aB) false) (.st (eS (e:=55)) (.bd (a ((a0.Ears.length:Int)) 1 12) λr=>.s (bA (!r)) (.bg (λt (y:Bool)=>∃ b c d f:A,t=[(bA y),b,c,d,f]) ?_ ?_))))
 ·refine .bi ?_ ?_
  ·exact .lg ⟨_,_,_,_,rfl⟩
  exact .s (pt 0 3) (.s (iA a0.Bar) (.bd (a a0.Bar 0 4096) λu=>.s (bA (!u)) (.lg ⟨_,_,_,_,rfl⟩)))
 rintro _ v ⟨b,c,d,f,rfl⟩
 refine .u4 (.uc (.bg (λt (y:Bool)=>∃ h i j k:A,t=[(bA y),h,i,j,k]) ?_ ?_))
 ·refine .bi ?_ ?_
  ·exact .lg ⟨_,_,_,_,rfl⟩
  exact .s (pt 0 0) (.s (ag [(im (a0.Net.Queue.map al) false),(im (a0.Net.Apart.map au) false)]) (.bd (g:=λ(y:Int)=>(iA y)) (by simp only[cP,fo]; exact o a0.Net) λw=>.st (aO ..) (.lg ⟨_,_,_,_,rfl⟩)))
 rintro _ x ⟨h,i,j,k,rfl⟩
 refine .u4 (.uc (.cu ?_ ?_))
 ·exact .lv rfl
 refine .s2 (im (a0.Ears.map aB) false) (.st (eS (e:=55)) (.as (F5 C n _ _ _ _ p  0 ((a0.Ears.length:Int)) a0.Ears ((a0.Ears.length:Int)) a0 ?_ ?_ _ 0)))
 ·intro z a1 a2 a3 a4 a5 a6 a7;exact .un rfl (.lv rfl)
 ·intro a8 a9 aa;refine .un rfl (.cT r7 (.s (pt 0 0) (.s2 (im (a0.Net.Queue.map al) false) (.st (eS (e:=48)) (.as (F7 C n _ _ _ _ l a q  0 ((a0.Ears.length:Int)) a0.Net.Queue ((a0.Net.Queue.length:Int)) a0 ?_ ?_ _ 0))))))
  ·intro ab ad ae af ah ai aj ak am an ao;exact .un rfl (.lv rfl)
  ·intro ap ar av aw ax az b0;exact .un rfl (.cT r7 (.lv rfl))
def Fv (a0:ay):Option Int:=Q6 aD a0
def ri (C:OT):Prop:=∀ (a0:ay),C 13 [(ag (aq a0))]=(Fv a0).map λy=>(iA y)
def BJ (C:OT) (self:aw->Option (Int×Bool)):Prop:=∀ (a0:aw),C 96 [(ag (ar a0))]=(self a0).map λy=>(tp [(iA y.1),(bA y.2)])
def lJ (self:aw->Option (Int×Bool)) (n:Nat) (f:Bool) (d:(List aw)) (e:Int):Nat->Int->Int->Option ((Int×Bool)⊕(Int))
 | 0,_,_=>none
 | m+1,a,b=>bif (decide (b<e)) then ((bG d b).bind λg=>(self g).bind λc=>bif (!c.2) then (some ((Sum.inl ((0,false))))) else (lJ self n f d e m ((if a<c.1 then c.1 else a)) (wr .i64 (b+1)))) else (some ((Sum.inr a)))
theorem Gy (self:aw->Option (Int×Bool)) (hS:BJ C self) {a b:aA} (t:aA.under 2 a=true) (u:aA.under 2 b=true) (p:Bool) (i:(List aw)) (q:Int) {K:((Int×Bool)⊕(Int))->Option γ} (w:∀ (c:Int) (r:Bool) (j:A) (k:A) (l:A) (q2:aA),J φ (kr (St.mk [(2,(iA c)),(3,(bA r)),(55,j),(56,k),(57,l)] [a,b,q2])) kL (K (Sum.inl ((c,r)))) some) (x:∀ (c:Int) (z:A) (j:A) (k:A) (l:A),J φ (kx 0 (St.mk [(2,(iA c)),(3,z),(55,j),(56,k),(57,l)] [a,b])) kL (K (Sum.inr c)) some) :
  ∀ (m:Nat) (d:Int) (o:Int),J φ (aI (cx C) (ec C n 8) (ey C n 8) (n+8) 96 0 0 2 kx kg kr kp m (St.mk [(2,(iA d)),(3,(bA p)),(55,(im (i.map az) false)),(56,(iA q)),(57,(iA o))] [a,b])) kL (lJ self n p i q m d o) K:=by
  refine nI (λ_ _=>.nn) λm ih d o=>.lp (PG ..) ?_;unfold lJ;refine .st (aZ ..) (.cu ?_ ?_)
  ·refine .bd ((fx (e:=107) (es:=4)).trans (fc _)) λf=>.s (ag (ar f)) (.s ((pt 2 0),[a,b,bx [(iA 0),(iA 0),se,Z5]]) (.s [a,b,bx (ar f)] (.s (ag (ar f)) (.bd (g:=λ(y:(Int×Bool))=>(tp [(iA y.1),(bA y.2)])) (by show C 96 [snap _ (ag (ar f))]=_; simp only[cP,fo]; exact hS f) λh=>.s (iA h.1) (.s (bA h.2) (.s (bA (!h.2)) (.cu ?_ ?_)))))))
   ·exact .ex (w _ _ _ _ _ _)
   refine .s (iA ((if d<h.1 then h.1 else d))) (.st (aF ..) (.st (v:=[a,b]) (de r7 (by simp only[uB,df,qae,qaq,Nat.reduceAdd,dg,Nat.reduceLT,qam,u,t])) (.cT ((by kernel_rfl:_=(bif aH 2 (i.map az) then true else false)).trans u2) ?_)));exact ih _ _
  exact .ex (x _ _ _ _ _)
def Oj (self:aw->Option (Int×Bool)) (n:Nat) (a0:aw):Option (Int×Bool):=
 (bif (kR a0.S ((ByteArray.mk #[]))) then (some (((a0.L.length:Int))==0)) else (some false)).bind λa=>(bif (a0.N==0) then (some (((a0.L.length:Int))==0)) else (some false)).bind λb=>(bif (a0.N==0) then (some (kR a0.S ((ByteArray.mk #[])))) else (some false)).bind λc=>(bif (decide (a0.Kind<1)) then (some true) else (some (decide (3<a0.Kind)))).bind λd=>(bif d then (some true) else (bif decide (a0.Kind=0) then (some true) else bif decide (a0.Kind=1) then (some (!a)) else bif decide (a0.Kind=2) then (some (!b)) else bif decide (a0.Kind=3) then (some (!c)) else none)).bind λe=>bif e then (some ((0,false))) else (bif (decide (a0.Kind<3)) then (some ((0,true))) else ((lJ self n false a0.L ((a0.L.length:Int)) (n+8) 0 0).bind λf=>match f with | (Sum.inl ((g,h)))=>some ((g,h)) | (Sum.inr i)=>some ((wr .i64 (i+1),true))))
theorem Yg (C:OT) (n:Nat) (self:aw->Option (Int×Bool)) (hS:BJ C self) (a0:aw):TJ C n 96 [(ag (ar a0))] (Oj self n a0) (λy=>(tp [(iA y.1),(bA y.2)])):=by
 refine .lp (Zd ..) ?_;unfold Oj;refine .s ((pt 0 0),[bx (ar a0)]) (.s2 (sA a0.S) (.st (nP ..) (.bg (λt (y:Bool)=>∃ d f g h:A,t=[(bA y),d,f,g,h]) ?_ ?_)))
 ·refine .bi ?_ ?_
  ·exact .s (pt 0 3) (.s (im (a0.L.map az) false) (.st (eS (e:=107)) (.st (aX ..) (.lg ⟨_,_,_,_,rfl⟩))))
  exact .lg ⟨_,_,_,_,rfl⟩
 rintro _ a ⟨d,f,g,h,rfl⟩
 refine .u4 (.uc (.s2 (iA a0.N) (.st (aX ..) (.bg (λt (y:Bool)=>∃ i tC j k:A,t=[(bA y),i,tC,j,k]) ?_ ?_))))
 ·refine .bi ?_ ?_
  ·exact .s (pt 0 3) (.s (im (a0.L.map az) false) (.st (eS (e:=107)) (.st (aX ..) (.lg ⟨_,_,_,_,rfl⟩))))
  exact .lg ⟨_,_,_,_,rfl⟩
 rintro _ b ⟨i,tC,j,k,rfl⟩
 refine .u4 (.uc (.s2 (iA a0.N) (.st (aX ..) (.bg (λt (y:Bool)=>∃ l o p:A,t=[(bA y),l,o,p]) ?_ ?_))))
 ·refine .bi ?_ ?_
  ·exact .s (pt 0 2) (.s (sA a0.S) (.st (nP ..) (.lg ⟨_,_,_,rfl⟩)))
  exact .lg ⟨_,_,_,rfl⟩
 rintro _ c ⟨l,o,p,rfl⟩
 refine .u4 (.s (ag [(bA false),(bA a),(bA b),(bA c)]) (.sq (pt 1 0) (.s [bx (ar a0),bx [(bA false),(bA a),(bA b),(bA c)]] (.s2 (iA a0.Kind) (.st (aZ ..) (.bg (λt (y:Bool)=>∃ q r u:A,t=[(bA y),q,r,u]) ?_ ?_))))))
 ·refine .bi ?_ ?_
  ·exact .lg ⟨_,_,_,rfl⟩
  exact .s (pt 0 0) (.s (iA a0.Kind) (.st (eZ ..) (.lg ⟨_,_,_,rfl⟩)))
 rintro _ a7 ⟨q,r,u,rfl⟩
 refine .u4 (.bg (λt (y:Bool)=>∃ w x z a1 a2:A,t=[(bA y),w,x,z,a1,a2]) ?_ ?_)
 ·refine .bi ?_ ?_
  ·exact .lg ⟨_,_,_,_,_,rfl⟩
  refine .s (pt 0 0) (.s (iA a0.Kind) (.sp (λa3=>?_) (λ_=>?_)))
  ·exact .st (v:=(pt 1 0)) (by rw[qai a3]; kernel_rfl) (.s (bA false) (.s (bA true) (.lg ⟨_,_,_,_,_,rfl⟩)))
  refine .sp (λa4=>?_) (λ_=>?_)
  ·exact .st (v:=(pt 1 1)) (by rw[qai a4]; kernel_rfl) (.s (bA a) (.s (bA (!a)) (.lg ⟨_,_,_,_,_,rfl⟩)))
  refine .sp (λa5=>?_) (λ_=>?_)
  ·exact .st (v:=(pt 1 2)) (by rw[qai a5]; kernel_rfl) (.s (bA b) (.s (bA (!b)) (.lg ⟨_,_,_,_,_,rfl⟩)))
  refine .sp (λa6=>?_) (λ_=>?_)
  ·exact .st (v:=(pt 1 3)) (by rw[qai a6]; kernel_rfl) (.s (bA c) (.s (bA (!c)) (.lg ⟨_,_,_,_,_,rfl⟩)))
  exact .nn
 rintro _ a8 ⟨w,x,z,a1,a2,rfl⟩
 refine .u4 (.uc (.uc (.cu ?_ ?_)))
 ·exact .lv rfl
 refine .s2 (iA a0.Kind) (.st (aZ ..) (.cu ?_ ?_))
 ·exact .lv rfl
 refine .s2 (im (a0.L.map az) false) (.st (eS (e:=107)) (.as (Gy C n _ _ _ _ self hS x8 x8 false a0.L ((a0.L.length:Int)) ?_ ?_ _ 0 0)))
 ·intro a9 aa ab ad ae af;exact .un rfl (.lv rfl)
 ·intro ah ai aj ak al;exact .un rfl (.cT r7 (.st (aF ..) (.lv rfl)))
def Ly:Nat->aw->Option (Int×Bool)
 | 0=>λ_=>none
 | q+1=>λa0=>Oj (Ly q) aD a0
def RO (a0:aw):Option (Int×Bool):=Ly aD a0
def Lv (C:OT):Prop:=∀ (a0:aw),C 96 [(ag (ar a0))]=(RO a0).map λy=>(tp [(iA y.1),(bA y.2)])
def RH (n:Nat) (a0:aw):Option Int:=
 (RO a0).bind λa=>bif (!a.2) then (some 1) else (bif (decide (16<a.1)) then (some 2) else (some 0))
theorem Yb (C:OT) (n:Nat) (b:Lv C) (a0:aw):TJ C n 83 [(ag (ar a0))] (RH n a0) (λy=>(iA y)):=by
 refine .lp (Y4 ..) ?_;unfold RH;refine .s ((pt 0 0),[bx (ar a0)]) (.s (ag (ar a0)) (.bd (g:=λ(y:(Int×Bool))=>(tp [(iA y.1),(bA y.2)])) (by simp only[cP,fo]; exact b a0) λa=>.s (iA a.1) (.s (bA a.2) (.s (bA (!a.2)) (.cu ?_ ?_)))))
 ·exact .lv rfl
 refine .st (eZ ..) (.cu ?_ ?_)
 ·exact .lv rfl
 exact .lv rfl
def OL (a0:aw):Option Int:=RH aD a0
def Lt (C:OT):Prop:=∀ (a0:aw),C 83 [(ag (ar a0))]=(OL a0).map λy=>(iA y)
def RK (n:Nat) (a0:Int):Option Int:=
 some (tQ .u64 (rf .u64 (wr .u64 (a0)) 1) (wr .u64 (jJ .i64 a0 63)))
theorem Yh (C:OT) (n:Nat) (a0:Int):TJ C n 99 [(iA a0)] (RK n a0) (λy=>(A.v (.int .u64 y))):=by
 refine .lp (Ze ..) ?_;unfold RK;exact .st (v:=(A.v (.int .u64 (wr .u64 (a0))))) (aM (hs:=by kernel_rfl) (hd:=by kernel_rfl) ..) (.st (ux (hb:=by decide) ..) (.st (jx (hb:=by decide) ..) (.st (v:=(A.v (.int .u64 (wr .u64 (jJ .i64 a0 63))))) (aM (hs:=by kernel_rfl) (hd:=by kernel_rfl) ..) (.st (qo ..) (.lv rfl)))))
def Mq (a0:Int):Option Int:=RK aD a0
def w6 (C:OT):Prop:=∀ (a0:Int),C 99 [(iA a0)]=(Mq a0).map λy=>(A.v (.int .u64 y))
def bo:aA:=bx [(A.v Value.nilFunc),(tz 97 [] []),(tz 100 [] []),(tz 101 [] [(pt 2 0)])]
def FC (C:OT) (N:Nat) (self:aw->aw->(List UInt8)->aw->Option (List UInt8)):Prop:=∀ (a0:aw) (a1:aw) (a2:(List UInt8)) (a3:aw) (X:Heap),J (λ(o:R) (y:(List UInt8))=>o=(Out.ret (bD 4 0 y.length false),[bx (ar a0),bo,bx [(pt 1 0)],bx (ar a1),aA.row false 1 (y.map c8)]++X)) (dH (cx C) N 101 [(bD 4 0 a2.length false),(ag (ar a3)),(pt 2 0)] ([bx (ar a0),bo,bx [(pt 1 0)],bx (ar a1),aA.row false 1 (a2.map c8)]++X) 0) some (self a0 a1 a2 a3) some
def lB (n:Nat):Nat->Int->(List UInt8)->Option (Int×(List UInt8))
 | 0,_,_=>none
 | m+1,a,b=>bif (decide (128<=a)) then (bif (decide (0<=(oO .u8 (wr .u8 (a)) 128))&&decide ((oO .u8 (wr .u8 (a)) 128)<256)) then ((cU 1 b ([(UInt8.ofNat (Int.toNat (oO .u8 (wr .u8 (a)) 128)))])).bind λc=>lB n m (jJ .u64 a 7) c) else none) else (some ((a,b)))
theorem BL {p:A} {d e h i j:aA} {K:(Int×(List UInt8))->Option γ} (q:∀ (o:Int) (k:(List UInt8)) (r:A),J φ (kx 0 (St.mk [(0,(bD 4 0 k.length false)),(1,(A.v (.int .u64 o))),(4,r)] [d,e,h,i,aA.row false 1 (k.map c8),j])) kL (K (o,k)) some) :
  ∀ (m:Nat) (a:Int) (c:(List UInt8)),J φ (aI (cx C) (ec C n 7) (ey C n 7) (n+7) 98 0 0 6 kx kg kr kp m (St.mk [(0,(bD 4 0 c.length false)),(1,(A.v (.int .u64 a))),(4,p)] [d,e,h,i,aA.row false 1 (c.map c8),j])) kL (lB n  m a c) K:=by
  refine nI (λ_ _=>.nn) λm ih a c=>.lp (Dw ..) ?_;unfold lB;refine .st (dD ..) (.cu ?_ ?_)
  ·refine .st (v:=(uA (wr .u8 (a)))) (aM (hs:=by kernel_rfl) (hd:=by kernel_rfl) ..) (.st (jv ..) (.gd λhg=>.st (v:=(im [[(uA (((UInt8.ofNat (Int.toNat (oO .u8 (wr .u8 (a)) 128))).toNat:Int)))]] true)) (by rw[gM hg]; kernel_rfl) (.bd (g:=λ(y:List UInt8)=>((bD 4 0 y.length false),[d,e,h,i,aA.row false 1 (y.map c8),j])) (cC dE (l:=c) (l2:=[(UInt8.ofNat (Int.toNat (oO .u8 (wr .u8 (a)) 128)))]) (b:=4) rfl (by decide) (bM (f:=c8) ([(UInt8.ofNat (Int.toNat (oO .u8 (wr .u8 (a)) 128)))]:List UInt8) _ _)) λt=>.st (jx (hb:=by decide) ..) (.s [d,e,h,i,aA.row false 1 (t.map c8),j] (.cT r7 ?_)))));exact ih _ _
  exact .ex (q _ _ _)
def gS (n:Nat):Nat->Int->(List UInt8)->Option (Int×(List UInt8))
 | 0,_,_=>none
 | m+1,a,b=>bif (decide (128<=a)) then (bif (decide (0<=(oO .u8 (wr .u8 (a)) 128))&&decide ((oO .u8 (wr .u8 (a)) 128)<256)) then ((cU 1 b ([(UInt8.ofNat (Int.toNat (oO .u8 (wr .u8 (a)) 128)))])).bind λc=>gS n m (jJ .u64 a 7) c) else none) else (some ((a,b)))
theorem tn {r:A} {d e h i j k o:aA} {K:(Int×(List UInt8))->Option γ} (t:∀ (q:Int) (p:(List UInt8)) (u:A),J φ (kx 0 (St.mk [(0,(bD 4 0 p.length false)),(1,(A.v (.int .u64 q))),(4,u)] [d,e,h,i,aA.row false 1 (p.map c8),j,k,o])) kL (K (q,p)) some) :
  ∀ (m:Nat) (a:Int) (c:(List UInt8)),J φ (aI (cx C) (dH (cx C) (n+6)) (bz (cx C) (n+6)) (n+6) 98 0 0 8 kx kg kr kp m (St.mk [(0,(bD 4 0 c.length false)),(1,(A.v (.int .u64 a))),(4,r)] [d,e,h,i,aA.row false 1 (c.map c8),j,k,o])) kL (gS n  m a c) K:=by
  refine nI (λ_ _=>.nn) λm ih a c=>.lp (Dw ..) ?_;unfold gS;refine .st (dD ..) (.cu ?_ ?_)
  ·refine .st (v:=(uA (wr .u8 (a)))) (aM (hs:=by kernel_rfl) (hd:=by kernel_rfl) ..) (.st (jv ..) (.gd λhg=>.st (v:=(im [[(uA (((UInt8.ofNat (Int.toNat (oO .u8 (wr .u8 (a)) 128))).toNat:Int)))]] true)) (by rw[gM hg]; kernel_rfl) (.bd (g:=λ(y:List UInt8)=>((bD 4 0 y.length false),[d,e,h,i,aA.row false 1 (y.map c8),j,k,o])) (cC dE (l:=c) (l2:=[(UInt8.ofNat (Int.toNat (oO .u8 (wr .u8 (a)) 128)))]) (b:=4) rfl (by decide) (bM (f:=c8) ([(UInt8.ofNat (Int.toNat (oO .u8 (wr .u8 (a)) 128)))]:List UInt8) _ _)) λw=>.st (jx (hb:=by decide) ..) (.s [d,e,h,i,aA.row false 1 (w.map c8),j,k,o] (.cT r7 ?_)))));exact ih _ _
  exact .ex (t _ _ _)
def fD (self:aw->aw->(List UInt8)->aw->Option (List UInt8)) (n:Nat) (h:(List UInt8)) (c:(List aw)) (d:Int) (e:aw) (f:aw):Nat->Int->(List UInt8)->Option ((List UInt8))
 | 0,_,_=>none
 | m+1,b,g=>bif (decide (b<d)) then ((bG c b).bind λa=>bif decide (a.Kind=0) then (none) else bif decide (a.Kind=1) then ((cU 1 g ([(1:UInt8)])).bind λk=>(Mq a.N).bind λl=>(gS n  (n+6) l k).bind λo=>match o with | (i,p)=>bif (decide (0<=(wr .u8 (i)))&&decide ((wr .u8 (i))<256)) then ((cU 1 p ([(UInt8.ofNat (Int.toNat (wr .u8 (i))))])).bind λq=>fD self n h c d e f m (wr .i64 (b+1)) q) else none) else bif decide (a.Kind=2) then ((cU 1 g ([(2:UInt8)])).bind λr=>(gS n  (n+6) (wr .u64 ((a.S.size:Int))) r).bind λs=>match s with | (j,t)=>bif (decide (0<=(wr .u8 (j)))&&decide ((wr .u8 (j))<256)) then ((cU 1 t ([(UInt8.ofNat (Int.toNat (wr .u8 (j))))])).bind λu=>(cU 1 u (ky a.S)).bind λv=>fD self n h c d e f m (wr .i64 (b+1)) v) else none) else bif decide (a.Kind=3) then ((self e f g a).bind λw=>fD self n h c d e f m (wr .i64 (b+1)) w) else none) else (some g)
theorem zS (x:w6 C) (self:aw->aw->(List UInt8)->aw->Option (List UInt8)) (hS:FC C (n+8) self) {c:aA} (q:aA.under 6 c=true) (j:(List UInt8)) (k:(List aw)) (w:Int) (d:aw) (h:aw) {K:((List UInt8))->Option γ} (z:∀ (r:(List UInt8)) (s2:A) (s5:A) (a1:A) (a2:A) (a3:A),J φ (kx 0 (St.mk [(0,(bD 4 0 r.length false)),(2,s2),(5,s5),(17,a1),(18,a2),(19,a3)] [bx (ar d),bo,bx [(pt 1 0)],bx (ar h),aA.row false 1 (r.map c8),c])) kL (K r) some) :
  ∀ (m:Nat) (u:Int) (i:(List UInt8)),J φ (aI (cx C) (ec C n 8) (ey C n 8) (n+8) 101 0 0 6 kx kg kr kp m (St.mk [(0,(bD 4 0 i.length false)),(2,(pt 2 0)),(5,(im (j.map c8) true)),(17,(im (k.map az) false)),(18,(iA w)),(19,(iA u))] [bx (ar d),bo,bx [(pt 1 0)],bx (ar h),aA.row false 1 (i.map c8),c])) kL (fD self n j k w d h m u i) K:=by
  refine nI (λ_ _=>.nn) λm ih u i=>.lp (G1 ..) ?_;unfold fD;refine .st (aZ ..) (.cu ?_ ?_)
  ·refine .bd ((fx (e:=107) (es:=4)).trans (fc _)) λa=>.s (ag (ar a)) (.sq (pt 6 0) (.s [bx (ar d),bo,bx [(pt 1 0)],bx (ar h),aA.row false 1 (i.map c8),c,bx (ar a)] (.s (pt 1 0) (.s2 (iA a.Kind) (.s (pt 1 0) (.sp (λa4=>?_) (λ_=>?_)))))))
   ·exact .st (v:=(pt 1 0)) (by rw[qai a4]; kernel_rfl) (.s2 (A.v Value.nilFunc) (.s (ag (ar a)) (.nn)))
   refine .sp (λa5=>?_) (λ_=>?_)
   ·refine .st (v:=(pt 1 1)) (by rw[qai a5]; kernel_rfl) (.s2 (tz 97 [] []) (.s (ag (ar a)) (.dC r7 r7 (.cl ((bk Ia).trans (Tz ..)) (.s ((pt 7 0),[bx (ar d),bo,bx [(pt 1 0)],bx (ar h),aA.row false 1 (i.map c8),c,bx (ar a),bx (ar a)]) (.s (im [[(uA 1)]] true) (.bd (g:=λ(y:List UInt8)=>((bD 4 0 y.length false),[bx (ar d),bo,bx [(pt 1 0)],bx (ar h),aA.row false 1 (y.map c8),c,bx (ar a),bx (ar a)])) (cC dE (l:=i) (l2:=[(1:UInt8)]) (b:=4) rfl (by decide) (bM (f:=c8) ([(1:UInt8)]:List UInt8) _ _)) λa6=>.cT r7 (.s (pt 7 1) (.cT r7 (.s (iA a.N) (.bd (x a.N) λa7=>.cl ((bk tD).trans (LK ..)) (.as (tn C n _ _ _ _   ?_ _ a7 a6)))))))))))))
    ·intro o a8 aj;refine .un rfl (.cT r7 (.st (v:=(uA (wr .u8 (o)))) (aM (hs:=by kernel_rfl) (hd:=by kernel_rfl) ..) (.gd λhg=>.st (v:=(im [[(uA (((UInt8.ofNat (Int.toNat (wr .u8 (o)))).toNat:Int)))]] true)) (by rw[gM hg]; kernel_rfl) (.bd (g:=λ(y:List UInt8)=>((bD 4 0 y.length false),[bx (ar d),bo,bx [(pt 1 0)],bx (ar h),aA.row false 1 (y.map c8),c,bx (ar a),bx (ar a)])) (cC dE (l:=a8) (l2:=[(UInt8.ofNat (Int.toNat (wr .u8 (o))))]) (b:=4) rfl (by decide) (bM (f:=c8) ([(UInt8.ofNat (Int.toNat (wr .u8 (o))))]:List UInt8) _ _)) λa9=>.cr (.ok (.cr (.ok (.st (aF ..) (.st (v:=[bx (ar d),bo,bx [(pt 1 0)],bx (ar h),aA.row false 1 (a9.map c8),c]) (de r7 (by simp only[uB,df,qae,qaq,Nat.reduceAdd,dg,Nat.reduceLT,qam,q,bo])) (.cT ((by kernel_rfl:_=(bif aH 6 (j.map c8) then (bif aH 6 (k.map az) then true else false) else false)).trans u2) ?_))))))))));exact ih _ _
   refine .sp (λaa=>?_) (λ_=>?_)
   ·refine .st (v:=(pt 1 2)) (by rw[qai aa]; kernel_rfl) (.s2 (tz 100 [] []) (.s (ag (ar a)) (.dC r7 r7 (.cl ((bk Cv).trans (MP ..)) (.s ((pt 7 0),[bx (ar d),bo,bx [(pt 1 0)],bx (ar h),aA.row false 1 (i.map c8),c,bx (ar a),bx (ar a)]) (.s ((A.ip (ar a)),[bx (ar d),bo,bx [(pt 1 0)],bx (ar h),aA.row false 1 (i.map c8),c,bx (ar a),aA.dead]) (.cT r7 (.s (im [[(uA 2)]] true) (.s (A.ip [(sA a.S),(im (a.L.map az) false)]) (.s (sA a.S) (.s (iA ((a.S.size:Int))) (.st (v:=(A.v (.int .u64 (wr .u64 ((a.S.size:Int)))))) (aM (hs:=by kernel_rfl) (hd:=by kernel_rfl) ..) (.s (A.ip [(sA a.S),(im (a.L.map az) false)]) (.s (sA a.S) (.cT r7 (.bd (g:=λ(y:List UInt8)=>((bD 4 0 y.length false),[bx (ar d),bo,bx [(pt 1 0)],bx (ar h),aA.row false 1 (y.map c8),c,bx (ar a),aA.dead])) (cC dE (l:=i) (l2:=[(2:UInt8)]) (b:=4) rfl (by decide) (bM (f:=c8) ([(2:UInt8)]:List UInt8) _ _)) λab=>.cT r7 (.cl ((bk tD).trans (LK ..)) (.as (tn C n _ _ _ _   ?_ _ (wr .u64 ((a.S.size:Int))) ab)))))))))))))))))))
    ·intro p ad ak;refine .un rfl (.cT r7 (.st (v:=(uA (wr .u8 (p)))) (aM (hs:=by kernel_rfl) (hd:=by kernel_rfl) ..) (.gd λhg=>.st (v:=(im [[(uA (((UInt8.ofNat (Int.toNat (wr .u8 (p)))).toNat:Int)))]] true)) (by rw[gM hg]; kernel_rfl) (.bd (g:=λ(y:List UInt8)=>((bD 4 0 y.length false),[bx (ar d),bo,bx [(pt 1 0)],bx (ar h),aA.row false 1 (y.map c8),c,bx (ar a),aA.dead])) (cC dE (l:=ad) (l2:=[(UInt8.ofNat (Int.toNat (wr .u8 (p))))]) (b:=4) rfl (by decide) (bM (f:=c8) ([(UInt8.ofNat (Int.toNat (wr .u8 (p))))]:List UInt8) _ _)) λae=>.cr (.ok (.bd (g:=λ(y:List UInt8)=>((bD 4 0 y.length false),[bx (ar d),bo,bx [(pt 1 0)],bx (ar h),aA.row false 1 (y.map c8),c,bx (ar a),aA.dead])) (cC yo (l:=ae) (l2:=ky a.S) (b:=4) rfl (by decide) (tY ..)) λaf=>.cr (.ok (.st (aF ..) (.st (v:=[bx (ar d),bo,bx [(pt 1 0)],bx (ar h),aA.row false 1 (af.map c8),c]) (de r7 (by simp only[uB,df,qae,qaq,Nat.reduceAdd,dg,Nat.reduceLT,qam,q,bo])) (.cT ((by kernel_rfl:_=(bif aH 6 (j.map c8) then (bif aH 6 (k.map az) then true else false) else false)).trans u2) ?_))))))))));exact ih _ _
   refine .sp (λah=>?_) (λ_=>?_)
   ·refine .st (v:=(pt 1 3)) (by rw[qai ah]; kernel_rfl) (.s2 (tz 101 [] [(pt 2 0)]) (.s (ag (ar a)) (.dC r7 r7 (.bg (λ(t:R) (y:(List UInt8))=>t=(Out.ret (bD 4 0 y.length false),[bx (ar d),bo,bx [(pt 1 0)],bx (ar h),aA.row false 1 (y.map c8),c,bx (ar a)])) (hS d h i a [c,bx (ar a)]) ?_))))
    rintro _ ai rfl
    refine .ok (.st (aF ..) (.st (v:=[bx (ar d),bo,bx [(pt 1 0)],bx (ar h),aA.row false 1 (ai.map c8),c]) (de r7 (by simp only[uB,df,qae,qaq,Nat.reduceAdd,dg,Nat.reduceLT,qam,q,bo])) (.cT ((by kernel_rfl:_=(bif aH 6 (j.map c8) then (bif aH 6 (k.map az) then true else false) else false)).trans u2) ?_)));exact ih _ _
   exact .nn
  exact .ex (z _ _ _ _ _ _)
def wY (self:aw->aw->(List UInt8)->aw->Option (List UInt8)) (n:Nat) (a0:aw) (a1:aw) (a2:(List UInt8)) (a3:aw):Option (List UInt8):=
 (cU 1 a2 ([(3:UInt8)])).bind λb=>(lB n  (n+7) (wr .u64 ((a3.L.length:Int))) b).bind λc=>match c with | (a,d)=>bif (decide (0<=(wr .u8 (a)))&&decide ((wr .u8 (a))<256)) then ((cU 1 d ([(UInt8.ofNat (Int.toNat (wr .u8 (a))))])).bind λe=>(fD self n ([]) a3.L ((a3.L.length:Int)) a0 a1 (n+8) 0 e).bind λf=>match f with | g=>some g) else none
theorem OW (C:OT) (n:Nat) (c:w6 C) (self:aw->aw->(List UInt8)->aw->Option (List UInt8)) (hS:FC C (n+8) self) (a0:aw) (a1:aw) (a2:(List UInt8)) (a3:aw):J (λ(o:R) (y:(List UInt8))=>∃ Z,o=(Out.ret (bD 4 0 y.length false),[bx (ar a0),bo,bx [(pt 1 0)],bx (ar a1),aA.row false 1 (y.map c8)]++Z)) (aK (cx C) (ec C n 8) (ey C n 8) (n+8) 101 [(bD 4 0 a2.length false),(ag (ar a3)),(pt 2 0)] [bx (ar a0),bo,bx [(pt 1 0)],bx (ar a1),aA.row false 1 (a2.map c8)] 0) some (wY self n a0 a1 a2 a3) some:=by
 refine .lp (O9 ..) ?_;unfold wY;refine .s ((pt 5 0),[bx (ar a0),bo,bx [(pt 1 0)],bx (ar a1),aA.row false 1 (a2.map c8),bx (ar a3)]) (.s (im [[(uA 3)]] true) (.bd (g:=λ(y:List UInt8)=>((bD 4 0 y.length false),[bx (ar a0),bo,bx [(pt 1 0)],bx (ar a1),aA.row false 1 (y.map c8),bx (ar a3)])) (cC dE (l:=a2) (l2:=[(3:UInt8)]) (b:=4) rfl (by decide) (bM (f:=c8) ([(3:UInt8)]:List UInt8) _ _)) λd=>.cT r7 (.s (pt 5 3) (.cT r7 (.s (im (a3.L.map az) false) (.cT r7 (.st (eS (e:=107)) (.cT r7 (.st (v:=(A.v (.int .u64 (wr .u64 ((a3.L.length:Int)))))) (aM (hs:=by kernel_rfl) (hd:=by kernel_rfl) ..) (.cl ((bk tD).trans (LK ..)) (.as (BL C n _ _ _ _   ?_ _ (wr .u64 ((a3.L.length:Int))) d))))))))))))
 ·intro a h j;refine .un rfl (.cT r7 (.st (v:=(uA (wr .u8 (a)))) (aM (hs:=by kernel_rfl) (hd:=by kernel_rfl) ..) (.gd λhg=>.st (v:=(im [[(uA (((UInt8.ofNat (Int.toNat (wr .u8 (a)))).toNat:Int)))]] true)) (by rw[gM hg]; kernel_rfl) (.bd (g:=λ(y:List UInt8)=>((bD 4 0 y.length false),[bx (ar a0),bo,bx [(pt 1 0)],bx (ar a1),aA.row false 1 (y.map c8),bx (ar a3)])) (cC dE (l:=h) (l2:=[(UInt8.ofNat (Int.toNat (wr .u8 (a))))]) (b:=4) rfl (by decide) (bM (f:=c8) ([(UInt8.ofNat (Int.toNat (wr .u8 (a))))]:List UInt8) _ _)) λi=>.cr (.ok (.s2 (im (a3.L.map az) false) (.st (eS (e:=107)) (.as (zS C n _ _ _ _ c self hS (by simp only[uB,df,bO,eu,Nat.reduceAdd,dg,Nat.reduceLT,qam,bo]) ([]) a3.L ((a3.L.length:Int)) a0 a1 ?_ _ 0 i)))))))))
  ·intro k p q r t u;exact .un rfl (.cT r7 (.lf rfl rfl ⟨[bx (ar a3)],rfl⟩))
def ye:Nat->aw->aw->(List UInt8)->aw->Option (List UInt8)
 | 0=>λ_ _ _ _=>none
 | N+1=>λa0 a1 a2 a3=>bif Nat.ble 8 N then wY (ye N) (N - 8) a0 a1 a2 a3 else none
theorem Ld (C:OT) (a:w6 C):∀ N,FC C N (ye N)
 | 0=>λ_ _ _ _ X r h=>by cases h
 | N+1=>λa0 a1 a2 a3 X=>by
  show J _ _ _ (bif Nat.ble 8 N then wY (ye N) (N - 8) a0 a1 a2 a3 else none) _;cases h:Nat.ble 8 N with
  | false=>exact λr h=>by cases h
  | true=>
   obtain ⟨n,rfl⟩:∃ n,N=n+8:=⟨N - 8,by have:=qax h; omega⟩
   rw[qdw];exact GQ (m:=5) r7 r7 (by decide) rfl ((by kernel_rfl:_=((((aH 5 (a3.L.map az))&&true))&&true)).trans u2) ((by kernel_rfl:_=((((aH 5 (a0.L.map az))&&true))&&((((aH 5 (a1.L.map az))&&true))&&((aH 5 (a2.map c8))&&true)))).trans u2) (λ_=>rfl) (λy=>r7) (λy=>((by kernel_rfl:_=((((aH 5 (a0.L.map az))&&true))&&((((aH 5 (a1.L.map az))&&true))&&((aH 5 (y.map c8))&&true)))).trans u2)) (OW C n a (ye (n+8)) (Ld C a (n+8)) a0 a1 a2 a3)
def jt (n:Nat):Nat->Int->(List UInt8)->Option (Int×(List UInt8))
 | 0,_,_=>none
 | m+1,a,b=>bif (decide (128<=a)) then (bif (decide (0<=(oO .u8 (wr .u8 (a)) 128))&&decide ((oO .u8 (wr .u8 (a)) 128)<256)) then ((cU 1 b ([(UInt8.ofNat (Int.toNat (oO .u8 (wr .u8 (a)) 128)))])).bind λc=>jt n m (jJ .u64 a 7) c) else none) else (some ((a,b)))
theorem ur {o:A} {d e h i:aA} {K:(Int×(List UInt8))->Option γ} (p:∀ (k:Int) (j:(List UInt8)) (q:A),J φ (kx 0 (St.mk [(0,(bD 4 0 j.length false)),(1,(A.v (.int .u64 k))),(4,q)] [d,e,h,i,aA.row false 1 (j.map c8)])) kL (K (k,j)) some) :
  ∀ (m:Nat) (a:Int) (c:(List UInt8)),J φ (aI (cx C) (dH (cx C) (n+6)) (bz (cx C) (n+6)) (n+6) 98 0 0 5 kx kg kr kp m (St.mk [(0,(bD 4 0 c.length false)),(1,(A.v (.int .u64 a))),(4,o)] [d,e,h,i,aA.row false 1 (c.map c8)])) kL (jt n  m a c) K:=by
  refine nI (λ_ _=>.nn) λm ih a c=>.lp (Dw ..) ?_;unfold jt;refine .st (dD ..) (.cu ?_ ?_)
  ·refine .st (v:=(uA (wr .u8 (a)))) (aM (hs:=by kernel_rfl) (hd:=by kernel_rfl) ..) (.st (jv ..) (.gd λhg=>.st (v:=(im [[(uA (((UInt8.ofNat (Int.toNat (oO .u8 (wr .u8 (a)) 128))).toNat:Int)))]] true)) (by rw[gM hg]; kernel_rfl) (.bd (g:=λ(y:List UInt8)=>((bD 4 0 y.length false),[d,e,h,i,aA.row false 1 (y.map c8)])) (cC dE (l:=c) (l2:=[(UInt8.ofNat (Int.toNat (oO .u8 (wr .u8 (a)) 128)))]) (b:=4) rfl (by decide) (bM (f:=c8) ([(UInt8.ofNat (Int.toNat (oO .u8 (wr .u8 (a)) 128)))]:List UInt8) _ _)) λr=>.st (jx (hb:=by decide) ..) (.s [d,e,h,i,aA.row false 1 (r.map c8)] (.cT r7 ?_)))));exact ih _ _
  exact .ex (p _ _ _)
def jO (n:Nat):Nat->Int->(List UInt8)->Option (Int×(List UInt8))
 | 0,_,_=>none
 | m+1,a,b=>bif (decide (128<=a)) then (bif (decide (0<=(oO .u8 (wr .u8 (a)) 128))&&decide ((oO .u8 (wr .u8 (a)) 128)<256)) then ((cU 1 b ([(UInt8.ofNat (Int.toNat (oO .u8 (wr .u8 (a)) 128)))])).bind λc=>jO n m (jJ .u64 a 7) c) else none) else (some ((a,b)))
theorem w9 {q:A} {d e h i j k:aA} {K:(Int×(List UInt8))->Option γ} (r:∀ (p:Int) (o:(List UInt8)) (t:A),J φ (kx 0 (St.mk [(0,(bD 4 0 o.length false)),(1,(A.v (.int .u64 p))),(4,t)] [d,e,h,i,aA.row false 1 (o.map c8),j,k])) kL (K (p,o)) some) :
  ∀ (m:Nat) (a:Int) (c:(List UInt8)),J φ (aI (cx C) (dH (cx C) (n+5)) (bz (cx C) (n+5)) (n+5) 98 0 0 7 kx kg kr kp m (St.mk [(0,(bD 4 0 c.length false)),(1,(A.v (.int .u64 a))),(4,q)] [d,e,h,i,aA.row false 1 (c.map c8),j,k])) kL (jO n  m a c) K:=by
  refine nI (λ_ _=>.nn) λm ih a c=>.lp (Dw ..) ?_;unfold jO;refine .st (dD ..) (.cu ?_ ?_)
  ·refine .st (v:=(uA (wr .u8 (a)))) (aM (hs:=by kernel_rfl) (hd:=by kernel_rfl) ..) (.st (jv ..) (.gd λhg=>.st (v:=(im [[(uA (((UInt8.ofNat (Int.toNat (oO .u8 (wr .u8 (a)) 128))).toNat:Int)))]] true)) (by rw[gM hg]; kernel_rfl) (.bd (g:=λ(y:List UInt8)=>((bD 4 0 y.length false),[d,e,h,i,aA.row false 1 (y.map c8),j,k])) (cC dE (l:=c) (l2:=[(UInt8.ofNat (Int.toNat (oO .u8 (wr .u8 (a)) 128)))]) (b:=4) rfl (by decide) (bM (f:=c8) ([(UInt8.ofNat (Int.toNat (oO .u8 (wr .u8 (a)) 128)))]:List UInt8) _ _)) λu=>.st (jx (hb:=by decide) ..) (.s [d,e,h,i,aA.row false 1 (u.map c8),j,k] (.cT r7 ?_)))));exact ih _ _
  exact .ex (r _ _ _)
def iq (n:Nat) (h:(List UInt8)) (c:(List aw)) (d:Int) (e:aw) (f:aw):Nat->Int->(List UInt8)->Option ((List UInt8))
 | 0,_,_=>none
 | m+1,b,g=>bif (decide (b<d)) then ((bG c b).bind λa=>bif decide (a.Kind=0) then (none) else bif decide (a.Kind=1) then ((cU 1 g ([(1:UInt8)])).bind λk=>(Mq a.N).bind λl=>(jO n  (n+5) l k).bind λo=>match o with | (i,p)=>bif (decide (0<=(wr .u8 (i)))&&decide ((wr .u8 (i))<256)) then ((cU 1 p ([(UInt8.ofNat (Int.toNat (wr .u8 (i))))])).bind λq=>iq n h c d e f m (wr .i64 (b+1)) q) else none) else bif decide (a.Kind=2) then ((cU 1 g ([(2:UInt8)])).bind λr=>(jO n  (n+5) (wr .u64 ((a.S.size:Int))) r).bind λs=>match s with | (j,t)=>bif (decide (0<=(wr .u8 (j)))&&decide ((wr .u8 (j))<256)) then ((cU 1 t ([(UInt8.ofNat (Int.toNat (wr .u8 (j))))])).bind λu=>(cU 1 u (ky a.S)).bind λv=>iq n h c d e f m (wr .i64 (b+1)) v) else none) else bif decide (a.Kind=3) then ((ye (n+7) e f g a).bind λw=>iq n h c d e f m (wr .i64 (b+1)) w) else none) else (some g)
theorem Ev (r:w6 C) (i:(List UInt8)) (j:(List aw)) (u:Int) (c:aw) (d:aw) {K:((List UInt8))->Option γ} (w:∀ (p:(List UInt8)) (s2:A) (x:A) (z:A) (a0:A) (a1:A) (q0:aA) (q1:aA) (q2:aA) (q3:aA),J φ (kx 0 (St.mk [(0,(bD 4 0 p.length false)),(2,s2),(5,x),(17,z),(18,a0),(19,a1)] [q0,q1,q2,q3,aA.row false 1 (p.map c8)])) kL (K p) some) :
  ∀ (m:Nat) (q:Int) (h:(List UInt8)),J φ (aI (cx C) (ec C n 7) (ey C n 7) (n+7) 101 0 0 5 kx kg kr kp m (St.mk [(0,(bD 4 0 h.length false)),(2,(pt 2 0)),(5,(im (i.map c8) true)),(17,(im (j.map az) false)),(18,(iA u)),(19,(iA q))] [bx (ar c),bo,bx [(pt 1 0)],bx (ar d),aA.row false 1 (h.map c8)])) kL (iq n i j u c d m q h) K:=by
  refine nI (λ_ _=>.nn) λm ih q h=>.lp (G1 ..) ?_;unfold iq;refine .st (aZ ..) (.cu ?_ ?_)
  ·refine .bd ((fx (e:=107) (es:=4)).trans (fc _)) λa=>.s (ag (ar a)) (.sq (pt 5 0) (.s [bx (ar c),bo,bx [(pt 1 0)],bx (ar d),aA.row false 1 (h.map c8),bx (ar a)] (.s (pt 1 0) (.s2 (iA a.Kind) (.s (pt 1 0) (.sp (λa3=>?_) (λ_=>?_)))))))
   ·exact .st (v:=(pt 1 0)) (by rw[qai a3]; kernel_rfl) (.s2 (A.v Value.nilFunc) (.s (ag (ar a)) (.nn)))
   refine .sp (λa4=>?_) (λ_=>?_)
   ·refine .st (v:=(pt 1 1)) (by rw[qai a4]; kernel_rfl) (.s2 (tz 97 [] []) (.s (ag (ar a)) (.dC r7 r7 (.cl ((bk Ia).trans (Tz ..)) (.s ((pt 6 0),[bx (ar c),bo,bx [(pt 1 0)],bx (ar d),aA.row false 1 (h.map c8),bx (ar a),bx (ar a)]) (.s (im [[(uA 1)]] true) (.bd (g:=λ(y:List UInt8)=>((bD 4 0 y.length false),[bx (ar c),bo,bx [(pt 1 0)],bx (ar d),aA.row false 1 (y.map c8),bx (ar a),bx (ar a)])) (cC dE (l:=h) (l2:=[(1:UInt8)]) (b:=4) rfl (by decide) (bM (f:=c8) ([(1:UInt8)]:List UInt8) _ _)) λa5=>.cT r7 (.s (pt 6 1) (.cT r7 (.s (iA a.N) (.bd (r a.N) λa6=>.cl ((bk tD).trans (LK ..)) (.as (w9 C n _ _ _ _   ?_ _ a6 a5)))))))))))))
    ·intro k a7 ai;refine .un rfl (.cT r7 (.st (v:=(uA (wr .u8 (k)))) (aM (hs:=by kernel_rfl) (hd:=by kernel_rfl) ..) (.gd λhg=>.st (v:=(im [[(uA (((UInt8.ofNat (Int.toNat (wr .u8 (k)))).toNat:Int)))]] true)) (by rw[gM hg]; kernel_rfl) (.bd (g:=λ(y:List UInt8)=>((bD 4 0 y.length false),[bx (ar c),bo,bx [(pt 1 0)],bx (ar d),aA.row false 1 (y.map c8),bx (ar a),bx (ar a)])) (cC dE (l:=a7) (l2:=[(UInt8.ofNat (Int.toNat (wr .u8 (k))))]) (b:=4) rfl (by decide) (bM (f:=c8) ([(UInt8.ofNat (Int.toNat (wr .u8 (k))))]:List UInt8) _ _)) λa8=>.cr (.ok (.cr (.ok (.st (aF ..) (.st (v:=[bx (ar c),bo,bx [(pt 1 0)],bx (ar d),aA.row false 1 (a8.map c8)]) (de r7 Z1) (.cT ((by kernel_rfl:_=(bif aH 5 (i.map c8) then (bif aH 5 (j.map az) then true else false) else false)).trans u2) ?_))))))))));exact ih _ _
   refine .sp (λa9=>?_) (λ_=>?_)
   ·refine .st (v:=(pt 1 2)) (by rw[qai a9]; kernel_rfl) (.s2 (tz 100 [] []) (.s (ag (ar a)) (.dC r7 r7 (.cl ((bk Cv).trans (MP ..)) (.s ((pt 6 0),[bx (ar c),bo,bx [(pt 1 0)],bx (ar d),aA.row false 1 (h.map c8),bx (ar a),bx (ar a)]) (.s ((A.ip (ar a)),[bx (ar c),bo,bx [(pt 1 0)],bx (ar d),aA.row false 1 (h.map c8),bx (ar a),aA.dead]) (.cT r7 (.s (im [[(uA 2)]] true) (.s (A.ip [(sA a.S),(im (a.L.map az) false)]) (.s (sA a.S) (.s (iA ((a.S.size:Int))) (.st (v:=(A.v (.int .u64 (wr .u64 ((a.S.size:Int)))))) (aM (hs:=by kernel_rfl) (hd:=by kernel_rfl) ..) (.s (A.ip [(sA a.S),(im (a.L.map az) false)]) (.s (sA a.S) (.cT r7 (.bd (g:=λ(y:List UInt8)=>((bD 4 0 y.length false),[bx (ar c),bo,bx [(pt 1 0)],bx (ar d),aA.row false 1 (y.map c8),bx (ar a),aA.dead])) (cC dE (l:=h) (l2:=[(2:UInt8)]) (b:=4) rfl (by decide) (bM (f:=c8) ([(2:UInt8)]:List UInt8) _ _)) λaa=>.cT r7 (.cl ((bk tD).trans (LK ..)) (.as (w9 C n _ _ _ _   ?_ _ (wr .u64 ((a.S.size:Int))) aa)))))))))))))))))))
    ·intro o ab aj;refine .un rfl (.cT r7 (.st (v:=(uA (wr .u8 (o)))) (aM (hs:=by kernel_rfl) (hd:=by kernel_rfl) ..) (.gd λhg=>.st (v:=(im [[(uA (((UInt8.ofNat (Int.toNat (wr .u8 (o)))).toNat:Int)))]] true)) (by rw[gM hg]; kernel_rfl) (.bd (g:=λ(y:List UInt8)=>((bD 4 0 y.length false),[bx (ar c),bo,bx [(pt 1 0)],bx (ar d),aA.row false 1 (y.map c8),bx (ar a),aA.dead])) (cC dE (l:=ab) (l2:=[(UInt8.ofNat (Int.toNat (wr .u8 (o))))]) (b:=4) rfl (by decide) (bM (f:=c8) ([(UInt8.ofNat (Int.toNat (wr .u8 (o))))]:List UInt8) _ _)) λad=>.cr (.ok (.bd (g:=λ(y:List UInt8)=>((bD 4 0 y.length false),[bx (ar c),bo,bx [(pt 1 0)],bx (ar d),aA.row false 1 (y.map c8),bx (ar a),aA.dead])) (cC yo (l:=ad) (l2:=ky a.S) (b:=4) rfl (by decide) (tY ..)) λae=>.cr (.ok (.st (aF ..) (.st (v:=[bx (ar c),bo,bx [(pt 1 0)],bx (ar d),aA.row false 1 (ae.map c8)]) (de r7 Z1) (.cT ((by kernel_rfl:_=(bif aH 5 (i.map c8) then (bif aH 5 (j.map az) then true else false) else false)).trans u2) ?_))))))))));exact ih _ _
   refine .sp (λaf=>?_) (λ_=>?_)
   ·refine .st (v:=(pt 1 3)) (by rw[qai af]; kernel_rfl) (.s2 (tz 101 [] [(pt 2 0)]) (.s (ag (ar a)) (.dC r7 r7 (.bg (λ(t:R) (y:(List UInt8))=>t=(Out.ret (bD 4 0 y.length false),[bx (ar c),bo,bx [(pt 1 0)],bx (ar d),aA.row false 1 (y.map c8),bx (ar a)])) (Ld C r (n+7) c d h a [bx (ar a)]) ?_))))
    rintro _ ah rfl
    refine .ok (.st (aF ..) (.st (v:=[bx (ar c),bo,bx [(pt 1 0)],bx (ar d),aA.row false 1 (ah.map c8)]) (de r7 Z1) (.cT ((by kernel_rfl:_=(bif aH 5 (i.map c8) then (bif aH 5 (j.map az) then true else false) else false)).trans u2) ?_)));exact ih _ _
   exact .nn
  exact .ex (w _ _ _ _ _ _ _ _ _ _)
def Rs (n:Nat) (a0:aw):Option ((List UInt8)×Int):=
 (OL a0).bind λd=>bif (d != 0) then (some (([],d))) else (bif decide (a0.Kind=0) then (none) else bif decide (a0.Kind=1) then ((cU 1 ([]) ([(1:UInt8)])).bind λe=>(Mq a0.N).bind λf=>(jt n  (n+6) f e).bind λRZ=>match RZ with | (a,g)=>bif (decide (0<=(wr .u8 (a)))&&decide ((wr .u8 (a))<256)) then ((cU 1 g ([(UInt8.ofNat (Int.toNat (wr .u8 (a))))])).bind λh=>some ((h,0))) else none) else bif decide (a0.Kind=2) then ((cU 1 ([]) ([(2:UInt8)])).bind λi=>(jt n  (n+6) (wr .u64 ((a0.S.size:Int))) i).bind λj=>match j with | (b,k)=>bif (decide (0<=(wr .u8 (b)))&&decide ((wr .u8 (b))<256)) then ((cU 1 k ([(UInt8.ofNat (Int.toNat (wr .u8 (b))))])).bind λl=>(cU 1 l (ky a0.S)).bind λo=>some ((o,0))) else none) else bif decide (a0.Kind=3) then ((cU 1 ([]) ([(3:UInt8)])).bind λp=>(jt n  (n+6) (wr .u64 ((a0.L.length:Int))) p).bind λq=>match q with | (c,r)=>bif (decide (0<=(wr .u8 (c)))&&decide ((wr .u8 (c))<256)) then ((cU 1 r ([(UInt8.ofNat (Int.toNat (wr .u8 (c))))])).bind λs=>(iq n ([]) a0.L ((a0.L.length:Int)) a0 a0 (n+7) 0 s).bind λt=>match t with | u=>some ((u,0))) else none) else none)
theorem XV (C:OT) (n:Nat) (t:Lt C) (r:w6 C) (a0:aw):TJ C n 58 [(ag (ar a0))] (Rs n a0) (λy=>(tp [(im (y.1.map c8) false),(iA y.2)])):=by
 refine .lp (YM ..) ?_;unfold Rs;refine .s ((pt 0 0),[bx (ar a0)]) (.s (ag (ar a0)) (.bd (g:=λ(y:Int)=>(iA y)) (by simp only[cP,fo]; exact t a0) λy1=>.st (aO ..) (.cu ?_ ?_)))
 ·exact .lv so
 refine .s (pt 0 0) (.s (iA a0.Kind) (.s (ag (ar a0)) (.cT r7 (.cl ((bk P6).trans (Y5 ..)) (.s (ag [(A.v Value.nilFunc),(A.v Value.nilFunc),(A.v Value.nilFunc),(A.v Value.nilFunc)]) (.sq (pt 1 0) (.sq (pt 2 0) (.sh (.s (pt 1 0) (.s (pt 1 0) (.s (pt 1 1) (.s (pt 1 1) (.sh (.s (pt 1 0) (.s (pt 1 0) (.s (pt 1 2) (.s (pt 1 2) (.sh (.s (pt 1 0) (.s (pt 1 0) (.s (pt 1 3) (.s (pt 1 3) (.s [bx (ar a0),bo,bx [(pt 1 0)]] ?_)))))))))))))))))))))));refine .s (pt 1 0) (.cr (.ok (.s (pt 1 0) (.sp (λu=>?_) (λ_=>?_)))))
 ·exact .st (v:=(pt 1 0)) (by rw[qai u]; kernel_rfl) (.s2 (A.v Value.nilFunc) (.nn))
 refine .sp (λw=>?_) (λ_=>?_)
 ·refine .st (v:=(pt 1 1)) (by rw[qai w]; kernel_rfl) (.s2 (tz 97 [] []) (.dC r7 r7 (.cl ((bk Ia).trans (Tz ..)) (.s ((pt 3 0),[bx (ar a0),bo,bx [(pt 1 0)],bx (ar a0)]) (.s (im [[(uA 1)]] true) (.bd (g:=λ(y:List UInt8)=>((bD 4 0 y.length false),[bx (ar a0),bo,bx [(pt 1 0)],bx (ar a0),aA.row false 1 (y.map c8)])) (nR dE (l:=[]) (l2:=[(1:UInt8)]) (bM (f:=c8) ([(1:UInt8)]:List UInt8) _ _)) λx=>.cT r7 (.s (pt 3 1) (.cT r7 (.s (iA a0.N) (.bd (r a0.N) λz=>.cl ((bk tD).trans (LK ..)) (.as (ur C n _ _ _ _   ?_ _ z x))))))))))))
  ·intro h a1 ab;exact .un rfl (.cT r7 (.st (v:=(uA (wr .u8 (h)))) (aM (hs:=by kernel_rfl) (hd:=by kernel_rfl) ..) (.gd λhg=>.st (v:=(im [[(uA (((UInt8.ofNat (Int.toNat (wr .u8 (h)))).toNat:Int)))]] true)) (by rw[gM hg]; kernel_rfl) (.bd (g:=λ(y:List UInt8)=>((bD 4 0 y.length false),[bx (ar a0),bo,bx [(pt 1 0)],bx (ar a0),aA.row false 1 (y.map c8)])) (cC dE (l:=a1) (l2:=[(UInt8.ofNat (Int.toNat (wr .u8 (h))))]) (b:=4) rfl (by decide) (bM (f:=c8) ([(UInt8.ofNat (Int.toNat (wr .u8 (h))))]:List UInt8) _ _)) λa=>.cr (.ok (.cr (.ok (.lv (by show bp [bx (ar a0),bo,bx [(pt 1 0)],bx (ar a0),aA.row false 1 (a.map c8)] (tp [(bD 4 0 a.length false),(iA 0)])=_; first | (simp only[cP,fo,bp,cq (H:=[bx (ar a0),bo,bx [(pt 1 0)],bx (ar a0),aA.row false 1 (a.map c8)]) (b:=4) (es:=1) (wr:=false) (l:=a) fN rfl]; done) | (simp only[cP,gR,bp,cq (H:=[bx (ar a0),bo,bx [(pt 1 0)],bx (ar a0),aA.row false 1 (a.map c8)]) (b:=4) (es:=1) (wr:=false) (l:=a) fN rfl]; first | done | rfl))))))))))
 refine .sp (λa2=>?_) (λ_=>?_)
 ·refine .st (v:=(pt 1 2)) (by rw[qai a2]; kernel_rfl) (.s2 (tz 100 [] []) (.dC r7 r7 (.cl ((bk Cv).trans (MP ..)) (.s ((pt 3 0),[bx (ar a0),bo,bx [(pt 1 0)],bx (ar a0)]) (.s ((A.ip (ar a0)),[bx (ar a0),bo,bx [(pt 1 0)],aA.dead]) (.cT r7 (.s (im [[(uA 2)]] true) (.s (A.ip [(sA a0.S),(im (a0.L.map az) false)]) (.s (sA a0.S) (.s (iA ((a0.S.size:Int))) (.st (v:=(A.v (.int .u64 (wr .u64 ((a0.S.size:Int)))))) (aM (hs:=by kernel_rfl) (hd:=by kernel_rfl) ..) (.s (A.ip [(sA a0.S),(im (a0.L.map az) false)]) (.s (sA a0.S) (.cT r7 (.bd (g:=λ(y:List UInt8)=>((bD 4 0 y.length false),[bx (ar a0),bo,bx [(pt 1 0)],aA.dead,aA.row false 1 (y.map c8)])) (nR dE (l:=[]) (l2:=[(2:UInt8)]) (bM (f:=c8) ([(2:UInt8)]:List UInt8) _ _)) λa3=>.cT r7 (.cl ((bk tD).trans (LK ..)) (.as (ur C n _ _ _ _   ?_ _ (wr .u64 ((a0.S.size:Int))) a3))))))))))))))))))
  ·intro i a4 ad;exact .un rfl (.cT r7 (.st (v:=(uA (wr .u8 (i)))) (aM (hs:=by kernel_rfl) (hd:=by kernel_rfl) ..) (.gd λhg=>.st (v:=(im [[(uA (((UInt8.ofNat (Int.toNat (wr .u8 (i)))).toNat:Int)))]] true)) (by rw[gM hg]; kernel_rfl) (.bd (g:=λ(y:List UInt8)=>((bD 4 0 y.length false),[bx (ar a0),bo,bx [(pt 1 0)],aA.dead,aA.row false 1 (y.map c8)])) (cC dE (l:=a4) (l2:=[(UInt8.ofNat (Int.toNat (wr .u8 (i))))]) (b:=4) rfl (by decide) (bM (f:=c8) ([(UInt8.ofNat (Int.toNat (wr .u8 (i))))]:List UInt8) _ _)) λa5=>.cr (.ok (.bd (g:=λ(y:List UInt8)=>((bD 4 0 y.length false),[bx (ar a0),bo,bx [(pt 1 0)],aA.dead,aA.row false 1 (y.map c8)])) (cC yo (l:=a5) (l2:=ky a0.S) (b:=4) rfl (by decide) (tY ..)) λc=>.cr (.ok (.lv (by show bp [bx (ar a0),bo,bx [(pt 1 0)],aA.dead,aA.row false 1 (c.map c8)] (tp [(bD 4 0 c.length false),(iA 0)])=_; first | (simp only[cP,fo,bp,cq (H:=[bx (ar a0),bo,bx [(pt 1 0)],aA.dead,aA.row false 1 (c.map c8)]) (b:=4) (es:=1) (wr:=false) (l:=c) fN rfl]; done) | (simp only[cP,gR,bp,cq (H:=[bx (ar a0),bo,bx [(pt 1 0)],aA.dead,aA.row false 1 (c.map c8)]) (b:=4) (es:=1) (wr:=false) (l:=c) fN rfl]; first | done | rfl))))))))))
 refine .sp (λa6=>?_) (λ_=>?_)
 ·refine .st (v:=(pt 1 3)) (by rw[qai a6]; kernel_rfl) (.s2 (tz 101 [] [(pt 2 0)]) (.dC r7 r7 (.cl ((bk M8).trans (O9 ..)) (.s ((pt 3 0),[bx (ar a0),bo,bx [(pt 1 0)],bx (ar a0)]) (.s (im [[(uA 3)]] true) (.bd (g:=λ(y:List UInt8)=>((bD 4 0 y.length false),[bx (ar a0),bo,bx [(pt 1 0)],bx (ar a0),aA.row false 1 (y.map c8)])) (nR dE (l:=[]) (l2:=[(3:UInt8)]) (bM (f:=c8) ([(3:UInt8)]:List UInt8) _ _)) λa7=>.cT r7 (.s (pt 3 3) (.cT r7 (.s (im (a0.L.map az) false) (.cT r7 (.st (eS (e:=107)) (.cT r7 (.st (v:=(A.v (.int .u64 (wr .u64 ((a0.L.length:Int)))))) (aM (hs:=by kernel_rfl) (hd:=by kernel_rfl) ..) (.cl ((bk tD).trans (LK ..)) (.as (ur C n _ _ _ _   ?_ _ (wr .u64 ((a0.L.length:Int))) a7))))))))))))))))
  ·intro j a8 ae;refine .un rfl (.cT r7 (.st (v:=(uA (wr .u8 (j)))) (aM (hs:=by kernel_rfl) (hd:=by kernel_rfl) ..) (.gd λhg=>.st (v:=(im [[(uA (((UInt8.ofNat (Int.toNat (wr .u8 (j)))).toNat:Int)))]] true)) (by rw[gM hg]; kernel_rfl) (.bd (g:=λ(y:List UInt8)=>((bD 4 0 y.length false),[bx (ar a0),bo,bx [(pt 1 0)],bx (ar a0),aA.row false 1 (y.map c8)])) (cC dE (l:=a8) (l2:=[(UInt8.ofNat (Int.toNat (wr .u8 (j))))]) (b:=4) rfl (by decide) (bM (f:=c8) ([(UInt8.ofNat (Int.toNat (wr .u8 (j))))]:List UInt8) _ _)) λa9=>.cr (.ok (.s2 (im (a0.L.map az) false) (.st (eS (e:=107)) (.as (Ev C n _ _ _ _ r  ([]) a0.L ((a0.L.length:Int)) a0 a0 ?_ _ 0 a9)))))))))
   ·intro d af ah ai aj ak k o p q;exact .un rfl (.cT r7 (.cr (.ok (.lv (by show bp [k,o,p,q,aA.row false 1 (d.map c8)] (tp [(bD 4 0 d.length false),(iA 0)])=_; first | (simp only[cP,fo,bp,cq (H:=[k,o,p,q,aA.row false 1 (d.map c8)]) (b:=4) (es:=1) (wr:=false) (l:=d) fN rfl]; done) | (simp only[cP,gR,bp,cq (H:=[k,o,p,q,aA.row false 1 (d.map c8)]) (b:=4) (es:=1) (wr:=false) (l:=d) fN rfl]; first | done | rfl))))))
 exact .nn
def Mn (a0:aw):Option ((List UInt8)×Int):=Rs aD a0
def Lk (C:OT):Prop:=∀ (a0:aw),C 58 [(ag (ar a0))]=(Mn a0).map λy=>(tp [(im (y.1.map c8) false),(iA y.2)])
end Go.Proofs.Ytebkhfhcipnfgaa
