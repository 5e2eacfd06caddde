/-
 The program's functions as plain functions: by a tool; each follows the interpreter.
-/
import Derived.Test.YtebkhfhcipnfgaaT3
namespace Go.Proofs.Ytebkhfhcipnfgaa
open Go.Proofs.Try (prog)
set_option linter.unusedVariables false
set_option linter.unusedSimpArgs false
set_option maxHeartbeats 4000000
set_option maxRecDepth 100000
set_option linter.defProp false
variable (C:Nat->List A->Option A) (n:Nat) {ρ γ:Type} {φ:ρ->γ->Prop} {kL:R->Option ρ} (kx kg:Nat->St->Option R) (kr:St->Option R) (kp:A->St->Option R)
def nM (n:Nat) (b:Int) (c:aJ):Nat->Int->(List Int)->Option ((List Int))
 | 0,_,_=>none
 | m+1,a,d=>bif (decide (a<b)) then (bif decide (0<=a) then (bif ((nQ .u16 (jJ .u16 c.Deaf a) 1)==1) then ((cU 8 d ([a])).bind λe=>nM n b c m (wr .i64 (a+1)) e) else (nM n b c m (wr .i64 (a+1)) d)) else none) else (some d)
theorem Jm {w x z a0:A} {e h i j k o p q r t:aA} (a1:Int) (a:aJ) {K:((List Int))->Option γ} (x0:∀ (u:(List Int)) (a3:A) (a4:A),J φ (kx 0 (St.mk [(0,w),(3,(pt 10 0)),(4,x),(5,z),(6,a0),(7,(bD 11 0 u.length false)),(30,a3),(31,a4)] [e,h,i,j,k,o,p,q,r,t,bx (ak a),aA.row false 1 (u.map (cI .i64))])) kL (K u) some) :
  ∀ (m:Nat) (c:Int) (d:(List Int)),J φ (aI (cx C) (dH (cx C) (n+6)) (bz (cx C) (n+6)) (n+6) 54 0 0 12 kx kg kr kp m (St.mk [(0,w),(3,(pt 10 0)),(4,x),(5,z),(6,a0),(7,(bD 11 0 d.length false)),(30,(iA a1)),(31,(iA c))] [e,h,i,j,k,o,p,q,r,t,bx (ak a),aA.row false 1 (d.map (cI .i64))])) kL (nM n a1 a m c d) K:=by
  refine nI (λ_ _=>.nn) λm ih c d=>.lp (Pr ..) ?_;unfold nM;refine .st (aZ ..) (.cu ?_ ?_)
  ·refine .s2 (A.v (.int .u16 a.Deaf)) (.gd λhg=>.st (jx (hb:=qai hg) ..) (.st (j0 ..) (.st (aX ..) (.cu ?_ ?_))))
   ·refine .s (im [[(iA c)]] true) (.bd (g:=λ(y:List Int)=>((bD 11 0 y.length false),[e,h,i,j,k,o,p,q,r,t,bx (ak a),aA.row false 1 (y.map (cI .i64))])) (cC pW (l:=d) (l2:=[c]) (b:=11) rfl (by decide) (bM (f:=(cI .i64)) ([c]:List Int) _ _)) λa5=>.st (aF ..) (.s [e,h,i,j,k,o,p,q,r,t,bx (ak a),aA.row false 1 (a5.map (cI .i64))] (.cT r7 ?_)));exact ih _ _
   refine .st (aF ..) (.s [e,h,i,j,k,o,p,q,r,t,bx (ak a),aA.row false 1 (d.map (cI .i64))] (.cT r7 ?_));exact ih _ _
  exact .ex (x0 _ _ _)
def nN (n:Nat) (q:Bool) (r:(List Int)) (a:Int) (e:(List aR)) (f:Int) (g:Nat) (d:ay) (h:Nat) (i:(List aE)) (j:(List aE)) (k:(List aE)) (l:(List aE)) (o:aJ):Nat->Int->Option ((Bool)⊕(Unit))
 | 0,_=>none
 | m+1,b=>bif (decide (b<f)) then ((bG e b).bind λc=>(bif (((c.Got.length:Int)) != (wr .i64 (a+1))) then (some true) else (some (((c.Did.length:Int)) != (wr .i64 (a+1))))).bind λs=>(bif s then (some true) else ((gv c.Got 0 a).bind λt=>(bG d.Ears b).bind λu=>(Lc t u.Got).bind λv=>some (!v))).bind λw=>(bif w then (some true) else ((gv c.Did 0 a).bind λx=>(bG d.Ears b).bind λy=>(Lc x y.Did).bind λz=>some (!z))).bind λa0=>bif a0 then (some ((Sum.inl false))) else ((gO h b).bind λp=>bif (decide (p<g)&&decide (p<4)) then ((OK ((four p i j k l)) a).bind λa1=>bif decide (0<=b) then (bif ((nQ .u16 (jJ .u16 o.Deaf b) 1)==1) then ((bG c.Got a).bind λa2=>bif (a2 != 0) then (some ((Sum.inl false))) else (nN n q r a e f g d h i j k l o m (wr .i64 (b+1)))) else ((bG c.Got a).bind λa3=>bif (a3 != a1) then (some ((Sum.inl false))) else (nN n q r a e f g d h i j k l o m (wr .i64 (b+1))))) else none) else none)) else (some ((Sum.inr (()))))
theorem Jn (ah:zJ C) (bo:Df C) {p q r u w x:aA} (ai:aA.under 13 p=true) (aj:aA.under 13 q=true) (al:aA.under 13 r=true) (am:aA.under 13 u=true) (an:aA.under 13 w=true) (ao:aA.under 13 x=true) (a5:Bool) (a2:(List Int)) (a1:Int) (a3:(List aR)) (ap:Int) (z:Nat) (j:ay) (o:Nat) (c:(List aE)) (d:(List aE)) (h:(List aE)) (i:(List aE)) (a0:aJ) {K:((Bool)⊕(Unit))->Option γ} (x0:∀ (o0:Bool) (s0:A) (s3:A) (s6:A) (s9:A) (bs:A) (a8:A) (a9:A) (aa:A) (bt:aA) (bu:aA),J φ (kr (St.mk [(0,s0),(3,s3),(4,(bA o0)),(6,s6),(9,s9),(11,bs),(98,a8),(99,a9),(100,aa)] [p,fV z 3 c.length d.length h.length i.length,bx (aq j++[(bD 1 0 o true)]),aA.row false 4 (c.map av),aA.row false 4 (d.map av),aA.row false 4 (h.map av),aA.row false 4 (i.map av),q,r,u,bt,w,x,bu])) kL (K (Sum.inl o0)) some) (x1:∀ (s3:A) (a8:A) (a9:A) (aa:A),J φ (kx 2 (St.mk [(0,(pt 2 0)),(3,s3),(4,(bA a5)),(6,(im (a2.map (cI .i64)) false)),(9,(pt 12 0)),(11,(iA a1)),(98,a8),(99,a9),(100,aa)] [p,fV z 3 c.length d.length h.length i.length,bx (aq j++[(bD 1 0 o true)]),aA.row false 4 (c.map av),aA.row false 4 (d.map av),aA.row false 4 (h.map av),aA.row false 4 (i.map av),q,r,u,bx (ak a0),w,x])) kL (K (Sum.inr (()))) some) :
  ∀ (m:Nat) (ab:Int),J φ (aI (cx C) (dH (cx C) (n+6)) (bz (cx C) (n+6)) (n+6) 54 0 1 13 kx kg kr kp m (St.mk [(0,(pt 2 0)),(3,(pt 10 0)),(4,(bA a5)),(6,(im (a2.map (cI .i64)) false)),(9,(pt 12 0)),(11,(iA a1)),(98,(im (a3.map aB) false)),(99,(iA ap)),(100,(iA ab))] [p,fV z 3 c.length d.length h.length i.length,bx (aq j++[(bD 1 0 o true)]),aA.row false 4 (c.map av),aA.row false 4 (d.map av),aA.row false 4 (h.map av),aA.row false 4 (i.map av),q,r,u,bx (ak a0),w,x])) kL (nN n a5 a2 a1 a3 ap z j o c d h i a0 m ab) K:=by
  refine nI (λ_=>.nn) λm ih ab=>.lp (Ps ..) ?_;unfold nN;refine .st (aZ ..) (.cu ?_ ?_)
  ·refine .bd (fx (e:=55) (es:=3)) λk=>.s (ag (aB k)) (.s ((pt 13 0),[p,fV z 3 c.length d.length h.length i.length,bx (aq j++[(bD 1 0 o true)]),aA.row false 4 (c.map av),aA.row false 4 (d.map av),aA.row false 4 (h.map av),aA.row false 4 (i.map av),q,r,u,bx (ak a0),w,x,bx [Z5,Z5,Z5]]) (.s [p,fV z 3 c.length d.length h.length i.length,bx (aq j++[(bD 1 0 o true)]),aA.row false 4 (c.map av),aA.row false 4 (d.map av),aA.row false 4 (h.map av),aA.row false 4 (i.map av),q,r,u,bx (ak a0),w,x,bx (aB k)] (.s2 (im (k.Got.map (cI .i64)) false) (.st (eS (e:=3)) (.st (aF ..) (.st (aO ..) (.bg (λt (y:Bool)=>∃ au aw ax az b0 b1:A,t=[(bA y),au,aw,ax,az,b0,b1]) ?_ ?_)))))))
   ·refine .bi ?_ ?_
    ·exact .lg ⟨_,_,_,_,_,_,rfl⟩
    exact .s (pt 13 2) (.s (im (k.Did.map (cI .i64)) false) (.st (eS (e:=3)) (.st (aF ..) (.st (aO ..) (.lg ⟨_,_,_,_,_,_,rfl⟩)))))
   rintro _ c5 ⟨au,aw,ax,az,b0,b1,rfl⟩
   refine .u4 (.uc (.uc (.uc (.bg (λt (y:Bool)=>∃ b2 b3 b4 b5 b6 b7 b8 b9 ba bc be bf bh bj bk:A,t=[(bA y),b2,b3,b4,b5,b6,b7,b8,b9,ba,bc,be,bf,bh,bj,bk]) ?_ ?_))))
   ·refine .bi ?_ ?_
    ·exact .lg ⟨_,_,_,_,_,_,_,_,_,_,_,_,_,_,_,rfl⟩
    exact .s (pt 13 1) (.s (im (k.Got.map (cI .i64)) false) (.bd (mw (e:=3) (es:=1) (f:=(cI .i64)) (l:=k.Got) (a:=0) (b:=a1) r7 r7 (λ_=>rfl) (.inl ⟨rfl,rfl⟩) (.inr ⟨_,rfl⟩)) λbw=>.s (pt 2 0) (.s (pt 2 0) (.s (pt 2 2) (.s (im (j.Ears.map aB) false) (.bd (fx (e:=55) (es:=3)) λa4=>.s (A.ip [(im (a4.Got.map (cI .i64)) false),(im (a4.Did.map (cI .i64)) false)]) (.s (im (a4.Got.map (cI .i64)) false) (.bd (g:=λ(y:Bool)=>(bA y)) (by simp only[cP,fo]; exact ah bw a4.Got) λc0=>.s (bA (!c0)) (.lg ⟨_,_,_,_,_,_,_,_,_,_,_,_,_,_,_,rfl⟩)))))))))
   rintro _ c6 ⟨b2,b3,b4,b5,b6,b7,b8,b9,ba,bc,be,bf,bh,bj,bk,rfl⟩
   refine .u4 (.u4 (.u4 (.u4 (.NJ (.bg (λt (y:Bool)=>∃ bl bm:A,t=[(bA y),bl,bm]) ?_ ?_)))))
   ·refine .Fx (λad=>?_) (λad=>?_)
    ·exact .bb (.s (pt 13 2) (.s (im (k.Did.map (cI .i64)) false) (.bd (mw (e:=3) (es:=1) (f:=(cI .i64)) (l:=k.Did) (a:=0) (b:=a1) r7 r7 (λ_=>rfl) (.inl ⟨rfl,rfl⟩) (.inr ⟨_,rfl⟩)) λc1=>.s (pt 2 0) (.s (pt 2 0) (.s (pt 2 2) (.s (im (j.Ears.map aB) false) (.bd (fx (e:=55) (es:=3)) λae=>.s (A.ip [(im (ae.Did.map (cI .i64)) false)]) (.s (im (ae.Did.map (cI .i64)) false) (.cr (.u4 (.u4 (.u4 (.uc (.tK ad (.bd (g:=λ(y:Bool)=>(bA y)) (by simp only[cP,fo]; exact ah c1 ae.Did) λc2=>.s (bA (!c2)) (.lg ⟨_,_,rfl⟩))))))))))))))))
    exact .bb (.cr (.u4 (.u4 (.u4 (.uc (.sj ad (.lg ⟨_,_,rfl⟩)))))))
   rintro _ c7 ⟨bl,bm,rfl⟩
   refine .uc (.uc (.uc (.cu ?_ ?_)))
   ·exact .ex (x0 _ _ _ _ _ _ _ _ _ _ _)
   refine .s (pt 2 0) (.s2 (bD 1 0 o true) (.V1 (g:=λ(y:Nat)=>A.ep 1 y 0) (CF (e:=53) r7 r7 rfl) λaf c8=>.gd λbn=>.st (v:=(bD (3+af) 0 (four af c.length d.length h.length i.length) false)) (Ed bn r7 r7 rfl) (.bd (g:=λ(y:Int)=>(iA y)) (by simp only[cP,fo,KZ (H:=[p,fV z 3 c.length d.length h.length i.length,bx (aq j++[(bD 1 0 o true)]),aA.row false 4 (c.map av),aA.row false 4 (d.map av),aA.row false 4 (h.map av),aA.row false 4 (i.map av),q,r,u,bx (ak a0),w,x,bx (aB k)]) (es:=4) (L:=3) (l0:=c) (l1:=d) (l2:=h) (l3:=i) gq bn rfl rfl rfl rfl]; exact bo ((four af c d h i)) a1) λc9=>.s2 (A.v (.int .u16 a0.Deaf)) (.gd λhg=>.st (jx (hb:=qai hg) ..) (.st (j0 ..) (.st (aX ..) (.cu ?_ ?_)))))))
   ·refine .s2 (im (k.Got.map (cI .i64)) false) (.bd (fx (e:=3) (es:=1)) λc3=>.s (iA c3) (.st (aO ..) (.cu ?_ ?_)))
    ·exact .ex (x0 _ _ _ _ _ _ _ _ _ _ _)
    refine .st (aF ..) (.st (v:=[p,fV z 3 c.length d.length h.length i.length,bx (aq j++[(bD 1 0 o true)]),aA.row false 4 (c.map av),aA.row false 4 (d.map av),aA.row false 4 (h.map av),aA.row false 4 (i.map av),q,r,u,bx (ak a0),w,x]) (de r7 (by simp only[uB,df,bO,qae,qaq,Nat.reduceAdd,dg,Nat.reduceLT,qam,ao,an,am,al,aj,ai])) (.cT ((by kernel_rfl:_=(bif aH 13 (a2.map (cI .i64)) then (bif aH 13 (a3.map aB) then true else false) else false)).trans u2) ?_));exact ih _
   refine .s2 (im (k.Got.map (cI .i64)) false) (.bd (fx (e:=3) (es:=1)) λc4=>.s (iA c4) (.st (aO ..) (.cu ?_ ?_)))
   ·exact .ex (x0 _ _ _ _ _ _ _ _ _ _ _)
   refine .st (aF ..) (.st (v:=[p,fV z 3 c.length d.length h.length i.length,bx (aq j++[(bD 1 0 o true)]),aA.row false 4 (c.map av),aA.row false 4 (d.map av),aA.row false 4 (h.map av),aA.row false 4 (i.map av),q,r,u,bx (ak a0),w,x]) (de r7 (by simp only[uB,df,bO,qae,qaq,Nat.reduceAdd,dg,Nat.reduceLT,qam,ao,an,am,al,aj,ai])) (.cT ((by kernel_rfl:_=(bif aH 13 (a2.map (cI .i64)) then (bif aH 13 (a3.map aB) then true else false) else false)).trans u2) ?_));exact ih _
  exact .ex (x1 _ _ _ _)
def pU (n:Nat) (i:Bool) (b:(List Int)) (c:Int) (d:Int) (j:(List aR)) (k:Int) (l:Int) (e:(List aR)) (f:Int) (g:aR):Nat->Bool->Int->Option (Bool)
 | 0,_,_=>none
 | m+1,h,a=>bif (decide (a<f)) then ((bG e a).bind λo=>(bif h then ((bG b d).bind λp=>(bG b a).bind λq=>bif (p != q) then ((some (())).bind λw=>(some (())).bind λx=>some true) else ((bG o.Got c).bind λr=>(bG g.Got c).bind λs=>(some (r==s)).bind λt=>(some t).bind λu=>some u)) else ((some (())).bind λy=>some false)).bind λv=>pU n i b c d j k l e f g m v (wr .i64 (a+1))) else (some h)
theorem Jp {b c d f g h i j k l o p q:aA} (ab:aA.under 14 b=true) (ad:aA.under 14 c=true) (ae:aA.under 14 d=true) (af:aA.under 14 f=true) (ah:aA.under 14 g=true) (ai:aA.under 14 h=true) (aj:aA.under 14 i=true) (ak:aA.under 14 j=true) (al:aA.under 14 k=true) (am:aA.under 14 l=true) (an:aA.under 14 o=true) (ao:aA.under 14 p=true) (ap:aA.under 14 q=true) (z:Bool) (u:(List Int)) (a0:Int) (a7:Int) (w:(List aR)) (a1:Int) (a2:Int) (a3:(List aR)) (a8:Int) (a:aR) {K:(Bool)->Option γ} (x0:∀ (o0:Bool) (ar:A) (au:A) (av:A) (aw:A),J φ (kx 6 (St.mk [(0,(pt 2 0)),(4,(bA z)),(6,(im (u.map (cI .i64)) false)),(9,(pt 12 0)),(11,(iA a0)),(15,ar),(16,(pt 13 0)),(17,(bA o0)),(177,(im (w.map aB) false)),(178,(iA a1)),(179,(iA a2)),(185,au),(186,av),(187,aw)] [b,c,d,f,g,h,i,j,k,l,o,p,q,bx (aB a)])) kL (K o0) some) :
  ∀ (m:Nat) (a4:Bool) (a5:Int),J φ (aI (cx C) (dH (cx C) (n+6)) (bz (cx C) (n+6)) (n+6) 54 0 3 14 kx kg kr kp m (St.mk [(0,(pt 2 0)),(4,(bA z)),(6,(im (u.map (cI .i64)) false)),(9,(pt 12 0)),(11,(iA a0)),(15,(iA a7)),(16,(pt 13 0)),(17,(bA a4)),(177,(im (w.map aB) false)),(178,(iA a1)),(179,(iA a2)),(185,(im (a3.map aB) false)),(186,(iA a8)),(187,(iA a5))] [b,c,d,f,g,h,i,j,k,l,o,p,q,bx (aB a)])) kL (pU n z u a0 a7 w a1 a2 a3 a8 a m a4 a5) K:=by
  refine nI (λ_ _=>.nn) λm ih a4 a5=>.lp (Pu ..) ?_;unfold pU;refine .st (aZ ..) (.cu ?_ ?_)
  ·refine .bd (fx (e:=55) (es:=3)) λa6=>.s (ag (aB a6)) (.s ((pt 14 0),[b,c,d,f,g,h,i,j,k,l,o,p,q,bx (aB a),bx [Z5,Z5,Z5]]) (.s [b,c,d,f,g,h,i,j,k,l,o,p,q,bx (aB a),bx (aB a6)] (.NK (.bg (λt (y:Bool)=>∃ aa:A,t=[(bA y),aa]) ?_ ?_))))
   ·refine .Hp (λx=>?_) (λx=>?_)
    ·refine .bb (.bd (fx (e:=3) (es:=1)) λax=>.s (iA ax) (.bd (fx (e:=3) (es:=1)) λay=>.s (iA ay) (.st (aO ..) (.Fx (λr=>?_) (λr=>?_)))))
     ·refine .bb (.s (pt 14 1) (.s (im (a6.Got.map (cI .i64)) false) (.bd (fx (e:=3) (es:=1)) λaz=>.s (iA az) (.s (pt 13 1) (.s (im (a.Got.map (cI .i64)) false) (.bd (fx (e:=3) (es:=1)) λb0=>.s (iA b0) (.cr (.u4 (.u4 (.uc (.uc (.cr (.u4 (.u4 (.u4 (.u4 (.u4 (.bg (λt (y:Bool) =>  t=[(bA y)]) ?_ ?_))))))))))))))))))
      ·exact .lp (pv r) (.st (aX ..) (.lg rfl))
      rintro _ b1 rfl
      refine .uc (.sj x (.bg (λt (y:Bool) =>  t=(bA y)) ?_ ?_))
      ·exact .tK r (.lg rfl)
      rintro _ b2 rfl
      exact .lg ⟨_,rfl⟩
     refine .bb (.cr (.u4 (.u4 (.uc (.uc (.cr (.u4 (.u4 (.u4 (.u4 (.u4 (.bg (λt (y:Unit) =>  t=[(A.v undef)]) ?_ ?_))))))))))))
     ·exact .lp (px r) (.lg rfl)
     rintro _ b3 rfl
     refine .uc (.sj x (.bg (λt (y:Unit) =>  t=(bA true)) ?_ ?_))
     ·exact .sj r (.lg rfl)
     rintro _ b4 rfl
     exact .lg ⟨_,rfl⟩
    refine .bb (.cr (.u4 (.u4 (.u4 (.u4 (.u4 (.bg (λt (y:Unit) =>  t=[(A.v undef)]) ?_ ?_)))))))
    ·exact .gU (.lg rfl)
    rintro _ b5 rfl
    exact .uc (.tK x (.lg ⟨_,rfl⟩))
   rintro _ b6 ⟨aa,rfl⟩
   refine .uc (.uc (.st (aF ..) (.st (v:=[b,c,d,f,g,h,i,j,k,l,o,p,q,bx (aB a)]) (de r7 (by simp only[uB,df,qae,qaq,Nat.reduceAdd,dg,Nat.reduceLT,qam,ap,ao,an,am,al,ak,aj,ai,ah,af,ae,ad,ab])) (.cT ((by kernel_rfl:_=(bif aH 14 (u.map (cI .i64)) then (bif aH 14 (w.map aB) then (bif aH 14 (a3.map aB) then true else false) else false) else false)).trans u2) ?_))));exact ih _ _
  exact .ex (x0 _ _ _ _ _)
def pT (n:Nat) (g:Bool) (h:(List Int)) (a:Int) (d:(List aR)) (e:Int) (f:ay):Nat->Int->Option ((Bool)⊕(Unit))
 | 0,_=>none
 | m+1,b=>bif (decide (b<e)) then ((bG d b).bind λc=>(pU n g h a b d e b f.Ears ((f.Ears.length:Int)) c (n+6) true 0).bind λj=>match j with | i=>(bif i then ((bG c.Did a).bind λk=>(bG c.Got a).bind λl=>some (k != l)) else (some false)).bind λo=>(bif o then ((some (())).bind λt=>some true) else (bif (!i) then (((bG c.Did a).bind λp=>some (p != 0)).bind λq=>(some q).bind λr=>some r) else ((some (())).bind λu=>(some (())).bind λv=>some false))).bind λs=>bif s then (some ((Sum.inl false))) else (pT n g h a d e f m (wr .i64 (b+1)))) else (some ((Sum.inr (()))))
theorem Jo {b c d f g h i j k l o p:aA} (aw:aA.under 13 b=true) (ax:aA.under 14 b=true) (az:aA.under 13 c=true) (b0:aA.under 14 c=true) (b1:aA.under 13 d=true) (b2:aA.under 14 d=true) (b3:aA.under 13 f=true) (b4:aA.under 14 f=true) (b5:aA.under 13 g=true) (b6:aA.under 14 g=true) (b7:aA.under 13 h=true) (b8:aA.under 14 h=true) (b9:aA.under 13 i=true) (ba:aA.under 14 i=true) (bc:aA.under 13 j=true) (be:aA.under 14 j=true) (bf:aA.under 13 k=true) (bh:aA.under 14 k=true) (bj:aA.under 13 l=true) (bk:aA.under 14 l=true) (bl:aA.under 13 o=true) (bm:aA.under 14 o=true) (bn:aA.under 13 p=true) (bo:aA.under 14 p=true) (a0:Bool) (w:(List Int)) (a1:Int) (x:(List aR)) (a2:Int) (a:ay) {K:((Bool)⊕(Unit))->Option γ} (x0:∀ (o0:Bool) (s0:A) (s6:A) (s9:A) (a4:A) (a5:A) (a6:A) (a7:A) (bs:aA) (bt:aA),J φ (kr (St.mk [(0,s0),(4,(bA o0)),(6,s6),(9,s9),(11,a4),(177,a5),(178,a6),(179,a7)] [b,c,d,f,g,h,i,j,k,l,o,p,bs,bt])) kL (K (Sum.inl o0)) some) (x1:∀ (s4:A) (s6:A) (a4:A) (a5:A) (a6:A) (a7:A),J φ (kx 4 (St.mk [(0,(pt 2 0)),(4,s4),(6,s6),(9,(pt 12 0)),(11,a4),(177,a5),(178,a6),(179,a7)] [b,c,d,f,g,h,i,j,k,l,o,p,bx (aq a)])) kL (K (Sum.inr (()))) some) :
  ∀ (m:Nat) (r:Int),J φ (aI (cx C) (dH (cx C) (n+6)) (bz (cx C) (n+6)) (n+6) 54 0 2 13 kx kg kr kp m (St.mk [(0,(pt 2 0)),(4,(bA a0)),(6,(im (w.map (cI .i64)) false)),(9,(pt 12 0)),(11,(iA a1)),(177,(im (x.map aB) false)),(178,(iA a2)),(179,(iA r))] [b,c,d,f,g,h,i,j,k,l,o,p,bx (aq a)])) kL (pT n a0 w a1 x a2 a m r) K:=by
  refine nI (λ_=>.nn) λm ih r=>.lp (Pt ..) ?_;unfold pT;refine .st (aZ ..) (.cu ?_ ?_)
  ·refine .bd (fx (e:=55) (es:=3)) λq=>.s (ag (aB q)) (.s ((pt 13 0),[b,c,d,f,g,h,i,j,k,l,o,p,bx (aq a),bx [Z5,Z5,Z5]]) (.s [b,c,d,f,g,h,i,j,k,l,o,p,bx (aq a),bx (aB q)] (.s2 (im (a.Ears.map aB) false) (.st (eS (e:=55)) (.as (Jp C n _ _ _ _ ax b0 b2 b4 b6 b8 ba be bh bk bm bo x8 a0 w a1 r x a2 r a.Ears ((a.Ears.length:Int)) q ?_ _ true 0))))))
   ·intro bw c3 c4 c5 c6;refine .un rfl (.cT r7 (.bg (λt (y:Bool)=>∃ a9 aa ab ad ae af ah ai aj ak al:A,t=[(bA y),a9,aa,ab,ad,ae,af,ah,ai,aj,ak,al]) ?_ ?_))
    ·refine .bi ?_ ?_
     ·exact .s (pt 13 2) (.s (im (q.Did.map (cI .i64)) false) (.bd (fx (e:=3) (es:=1)) λc0=>.s (iA c0) (.s (pt 13 1) (.s (im (q.Got.map (cI .i64)) false) (.bd (fx (e:=3) (es:=1)) λc1=>.s (iA c1) (.st (aO ..) (.lg ⟨_,_,_,_,_,_,_,_,_,_,_,rfl⟩)))))))
     exact .lg ⟨_,_,_,_,_,_,_,_,_,_,_,rfl⟩
    rintro _ c7 ⟨a9,aa,ab,ad,ae,af,ah,ai,aj,ak,al,rfl⟩
    refine .u4 (.u4 (.u4 (.QO (.bg (λt (y:Bool)=>∃ am:A,t=[(bA y),am]) ?_ ?_))))
    ·refine .Fx (λz=>?_) (λz=>?_)
     ·refine .bb (.s (bA (!bw)) (.Hp (λu=>?_) (λu=>?_)))
      ·refine .bb (.s (pt 13 2) (.s (im (q.Did.map (cI .i64)) false) (.cr (.uc (.uc (.uc (.cr (.u4 (.uc (.uc (.bg (λt (y:Bool)=>∃ an ao:A,t=[(bA y),an,ao]) ?_ ?_)))))))))))
       ·exact .lp (cX u) (.bd (fx (e:=3) (es:=1)) λc2=>.s (iA c2) (.st (aO ..) (.lg ⟨_,_,rfl⟩)))
       rintro _ c8 ⟨an,ao,rfl⟩
       refine .uc (.uc (.uc (.tK z (.bg (λt (y:Bool) =>  t=(bA y)) ?_ ?_))))
       ·exact .sj u (.lg rfl)
       rintro _ c9 rfl
       exact .lg ⟨_,rfl⟩
      refine .bb (.cr (.uc (.uc (.uc (.cr (.u4 (.uc (.uc (.bg (λt (y:Unit)=>∃ ap ar:A,t=[(A.v undef),ap,ar]) ?_ ?_)))))))))
      ·exact .lp (cW u) (.lg ⟨_,_,rfl⟩)
      rintro _ ca ⟨ap,ar,rfl⟩
      refine .uc (.uc (.uc (.tK z (.bg (λt (y:Unit) =>  t=(bA false)) ?_ ?_))))
      ·exact .tK u (.lg rfl)
      rintro _ cb rfl
      exact .lg ⟨_,rfl⟩
     refine .bb (.cr (.u4 (.uc (.uc (.bg (λt (y:Unit)=>∃ au av:A,t=[(A.v undef),au,av]) ?_ ?_)))))
     ·exact .gU (.lg ⟨_,_,rfl⟩)
     rintro _ cc ⟨au,av,rfl⟩
     exact .uc (.uc (.uc (.sj z (.lg ⟨_,rfl⟩))))
    rintro _ cd ⟨am,rfl⟩
    refine .uc (.uc (.cu ?_ ?_))
    ·exact .ex (x0 _ _ _ _ _ _ _ _ _ _)
    refine .st (aF ..) (.st (v:=[b,c,d,f,g,h,i,j,k,l,o,p,bx (aq a)]) (de r7 (by simp only[uB,df,qae,qaq,Nat.reduceAdd,dg,Nat.reduceLT,qam,bn,bl,bj,bf,bc,b9,b7,b5,b3,b1,az,aw])) (.cT ((by kernel_rfl:_=(bif aH 13 (w.map (cI .i64)) then (bif aH 13 (x.map aB) then true else false) else false)).trans u2) ?_));exact ih _
  exact .ex (x1 _ _ _ _ _ _)
def pS (n:Nat) (d:Int) (b:ay) (e:Nat) (c:ay):Nat->Int->Option ((Bool)⊕(Unit))
 | 0,_=>none
 | m+1,a=>bif (decide (a<d)) then ((bG c.Ears a).bind λf=>(bG b.Ears a).bind λg=>(Lc f.Got g.Got).bind λh=>(bif (!h) then (some true) else ((bG c.Ears a).bind λi=>(bG b.Ears a).bind λj=>(Lc i.Did j.Did).bind λk=>some (!k))).bind λl=>bif l then (some ((Sum.inl false))) else (pS n d b e c m (wr .i64 (a+1)))) else (some ((Sum.inr (()))))
theorem Jl (x:zJ C) {a5:A} {d f h i j k l o:aA} (z:Int) (a:ay) (c:Nat) (b:ay) {K:((Bool)⊕(Unit))->Option γ} (x0:∀ (o0:Bool) (s0:A) (s7:A) (p:A) (q:A) (q9:aA),J φ (kr (St.mk [(0,s0),(4,(bA o0)),(7,s7),(405,p),(406,q)] [d,f,bx (aq a++[(bD 1 0 c true)]),h,i,j,k,l,o,q9])) kL (K (Sum.inl o0)) some) (x1:∀ (s4:A) (p:A) (q:A),J φ (kx 1 (St.mk [(0,(pt 2 0)),(4,s4),(7,(pt 9 0)),(405,p),(406,q)] [d,f,bx (aq a++[(bD 1 0 c true)]),h,i,j,k,l,o,bx (aq b)])) kL (K (Sum.inr (()))) some) :
  ∀ (m:Nat) (r:Int),J φ (aI (cx C) (ec C n 7) (ey C n 7) (n+7) 20 0 0 10 kx kg kr kp m (St.mk [(0,(pt 2 0)),(4,a5),(7,(pt 9 0)),(405,(iA z)),(406,(iA r))] [d,f,bx (aq a++[(bD 1 0 c true)]),h,i,j,k,l,o,bx (aq b)])) kL (pS n z a c b m r) K:=by
  refine nI (λ_=>.nn) λm ih r=>.lp (Pk ..) ?_;unfold pS;refine .st (aZ ..) (.cu ?_ ?_)
  ·refine .s2 (im (b.Ears.map aB) false) (.bd (fx (e:=55) (es:=3)) λa1=>.s2 (im (a1.Got.map (cI .i64)) false) (.s (pt 2 0) (.s (pt 2 0) (.s2 (im (a.Ears.map aB) false) (.bd (fx (e:=55) (es:=3)) λa2=>.s2 (im (a2.Got.map (cI .i64)) false) (.bd (g:=λ(y:Bool)=>(bA y)) (by simp only[cP,fo]; exact x a1.Got a2.Got) λad=>.s (bA (!ad)) (.Vx (.bg (λt (y:Bool)=>∃ a3 a4:A,t=[(bA y),a3,a4]) ?_ ?_))))))))
   ·refine .Fx (λu=>?_) (λu=>?_)
    ·exact .bb (.s (pt 9 2) (.s (im (b.Ears.map aB) false) (.bd (fx (e:=55) (es:=3)) λv=>.s (A.ip [(im (v.Did.map (cI .i64)) false)]) (.s (im (v.Did.map (cI .i64)) false) (.s (pt 2 0) (.s (pt 2 0) (.s (pt 2 2) (.s (im (a.Ears.map aB) false) (.bd (fx (e:=55) (es:=3)) λw=>.s (A.ip [(im (w.Did.map (cI .i64)) false)]) (.s (im (w.Did.map (cI .i64)) false) (.cr (.u4 (.u4 (.u4 (.uc (.uc (.uc (.tK u (.bd (g:=λ(y:Bool)=>(bA y)) (by simp only[cP,fo]; exact x v.Did w.Did) λae=>.s (bA (!ae)) (.lg ⟨_,_,rfl⟩))))))))))))))))))))
    exact .bb (.cr (.u4 (.u4 (.u4 (.uc (.uc (.uc (.sj u (.lg ⟨_,_,rfl⟩)))))))))
   rintro _ af ⟨a3,a4,rfl⟩
   refine .uc (.uc (.uc (.cu ?_ ?_)))
   ·exact .ex (x0 _ _ _ _ _ _)
   refine .st (aF ..) (.s [d,f,bx (aq a++[(bD 1 0 c true)]),h,i,j,k,l,o,bx (aq b)] (.cT r7 ?_));exact ih _
  exact .ex (x1 _ _ _)
def ss (n:Nat) (a0:Bool) (x:(List aJ)) (y:Int) (r:Nat):Nat->Int->Nat->ay->(List aE)->(List aE)->(List aE)->(List aE)->Option ((Bool)⊕(Unit))
 | 0,_,_,_,_,_,_,_=>none
 | m+1,v,e,a,f,g,h,i=>bif (decide (v<y)) then ((bG x v).bind λc=>(bif decide (((a.Ears.length:Int))≠0) then (bif decide (((if 1<(a.Net.Queue.length:Int) then (a.Net.Queue.length:Int) else 1))≠0) then (((bif ((Int.tmod c.Kind 8)==0) then (some ((Int.tmod c.Kind 8)==0)) else (some ((Int.tmod c.Kind 8)==1))).bind λa1=>bif a1 then ((G9 a ((aE.mk (Int.tmod (wr .i64 (c.No)) 8) (Int.tmod (wr .i64 (c.Role)) ((a.Ears.length:Int))) (wr .i64 (a.Bar+(Int.tmod (wr .i64 (c.Bar)) 4))) (wr .i64 (1+(Int.tmod (wr .i64 (c.Program)) 3)))))).bind λk=>(bif (k.2==0) then (bif (((k.1.Net.Queue.length:Int)) != (wr .i64 (((a.Net.Queue.length:Int))+1))) then ((some (())).bind λbd=>(some (())).bind λbe=>some true) else ((bG k.1.Net.Queue (wr .i64 (((k.1.Net.Queue.length:Int)) - 1))).bind λa2=>(Ot ((aE.mk (Int.tmod (wr .i64 (c.No)) 8) (Int.tmod (wr .i64 (c.Role)) ((a.Ears.length:Int))) (wr .i64 (a.Bar+(Int.tmod (wr .i64 (c.Bar)) 4))) (wr .i64 (1+(Int.tmod (wr .i64 (c.Program)) 3)))))).bind λa3=>(some (!kR (iv a2.Data) (iv a3))).bind λa4=>(some a4).bind λa5=>some a5)) else ((some (())).bind λbf=>some false)).bind λa6=>bif a6 then (some ((false,false,e,a,f,g,h,i,k.1))) else (bif (k.2 != 0) then ((bif (decide ((wr .i64 (a.Bar+(Int.tmod (wr .i64 (c.Bar)) 4)))<0)) then (some (k.2==1)) else (some false)).bind λa7=>some ((false,a7,e,a,f,g,h,i,k.1))) else (some ((true,false,e,a,f,g,h,i,k.1))))) else ((bif ((Int.tmod c.Kind 8)==2) then (some ((Int.tmod c.Kind 8)==2)) else (some ((Int.tmod c.Kind 8)==3))).bind λa8=>bif a8 then ((Om a (Int.tmod (wr .i64 (c.At)) ((if 1<(a.Net.Queue.length:Int) then (a.Net.Queue.length:Int) else 1)))).bind λd=>(bif (d.2.2.2 != 0) then (some true) else (some (((a.Net.Queue.length:Int))==0))).bind λa9=>bif a9 then ((bif (((a.Net.Queue.length:Int))==0) then (some (d.2.2.2==1)) else (some false)).bind λaa=>some ((false,aa,e,a,f,g,h,i,d.1))) else ((bG a.Net.Queue (Int.tmod (wr .i64 (c.At)) ((if 1<(a.Net.Queue.length:Int) then (a.Net.Queue.length:Int) else 1)))).bind λz=>(bif (d.2.2.1 != (z.To==0)) then (some true) else ((bif (!d.2.2.1) then (some (!((d.2.1.Role==0)&&((d.2.1.Bar==0)&&(d.2.1.Program==0))))) else (some false)).bind λab=>some ab)).bind λad=>bif ad then (some ((false,false,e,a,f,g,h,i,d.1))) else ((bif d.2.2.1 then ((bif (decide (d.2.1.Role<0)) then (some true) else (some (decide (((a.Ears.length:Int))<=d.2.1.Role)))).bind λae=>(bif ae then (some true) else (some (decide (d.2.1.Bar<0)))).bind λaf=>(bif af then (some true) else ((bG a.Ears d.2.1.Role).bind λag=>some (decide (((ag.Did.length:Int))<=d.2.1.Bar)))).bind λah=>bif ah then ((some (())).bind λbg=>(some (())).bind λbh=>some true) else ((bG a.Ears d.2.1.Role).bind λai=>(bG ai.Did d.2.1.Bar).bind λaj=>(some (aj != d.2.1.Program)).bind λak=>(some ak).bind λal=>some al)) else ((some (())).bind λbi=>some false)).bind λam=>bif am then (some ((false,false,e,a,f,g,h,i,d.1))) else ((On z.Data).bind λp=>(bif p.2 then (some (!d.2.2.1)) else (some false)).bind λan=>(bif an then (some (decide (a.Bar<=p.1.Bar))) else (some false)).bind λao=>(bif ao then (some (decide (0<=p.1.Role))) else (some false)).bind λap=>(bif ap then (some (decide (p.1.Role<((a.Ears.length:Int))))) else (some false)).bind λaq=>bif aq then ((gO r p.1.Role).bind λl=>bif (decide (l<e)&&decide (l<4)) then ((cU 32 (four l f g h i) ([p.1])).bind λs=>some ((true,false,e,a,(eV l 0 s f),(eV l 1 s g),(eV l 2 s h),(eV l 3 s i),d.1))) else none) else (some ((true,false,e,a,f,g,h,i,d.1))))))) else (bif ((Int.tmod c.Kind 8)==4) then ((Oy a (Int.tmod (wr .i64 (c.At)) ((if 1<(a.Net.Queue.length:Int) then (a.Net.Queue.length:Int) else 1)))).bind λt=>bif (t.2 != 0) then ((bif (((a.Net.Queue.length:Int))==0) then (some (t.2==1)) else (some false)).bind λar=>some ((false,ar,e,a,f,g,h,i,t.1))) else (some ((true,false,e,a,f,g,h,i,t.1)))) else (bif ((Int.tmod c.Kind 8)==5) then ((Oz a (Int.tmod (wr .i64 (c.At)) ((if 1<(a.Net.Queue.length:Int) then (a.Net.Queue.length:Int) else 1)))).bind λu=>bif (u.2 != 0) then ((bif (((a.Net.Queue.length:Int))==0) then (some (u.2==1)) else (some false)).bind λau=>some ((false,au,e,a,f,g,h,i,u.1))) else (some ((true,false,e,a,f,g,h,i,u.1)))) else (bif ((Int.tmod c.Kind 8)==6) then ((OJ c.Groups ((a.Ears.length:Int))).bind λw=>(nM n ((a.Ears.length:Int)) c (n+6) 0 (([]:List Int))).bind λav=>match av with | aw=>(Oo a aw w).bind λj=>(bif (j.2 != 0) then (some true) else (some (j.1.Bar != (wr .i64 (a.Bar+1))))).bind λax=>(bif ax then (some true) else (some (((j.1.Ears.length:Int)) != ((a.Ears.length:Int))))).bind λaz=>(bif az then (some true) else ((Fv j.1).bind λb0=>some (b0 != 0))).bind λb1=>(bif b1 then (some true) else (some (((j.1.Net.Queue.length:Int)) != (wr .i64 (((a.Net.Queue.length:Int))+((a.Ears.length:Int))))))).bind λb2=>bif b2 then (some ((false,false,e,a,f,g,h,i,a))) else ((nN n false w a.Bar j.1.Ears ((j.1.Ears.length:Int)) e a r f g h i c (n+6) 0).bind λb3=>match b3 with | (Sum.inl b4)=>some ((false,b4,e,a,f,g,h,i,a)) | (Sum.inr _)=>(pT n false w a.Bar j.1.Ears ((j.1.Ears.length:Int)) j.1 (n+6) 0).bind λb5=>match b5 with | (Sum.inl b6)=>some ((false,b6,e,a,f,g,h,i,a)) | (Sum.inr _)=>some ((false,true,e,j.1,f,g,h,i,a)))) else ((Oq a (Int.tmod (wr .i64 (c.Role)) ((a.Ears.length:Int)))).bind λq=>bif (q.2 != 0) then ((bif (a.Bar==0) then (some (q.2==1)) else (some false)).bind λb7=>some ((false,b7,e,a,f,g,h,i,q.1))) else (bif (((q.1.Net.Queue.length:Int)) != (wr .i64 (((a.Net.Queue.length:Int))+a.Bar))) then (some ((false,false,e,a,f,g,h,i,q.1))) else (some ((true,false,e,a,f,g,h,i,q.1)))))))))).bind λb=>bif b.1 then ((bif (b.2.2.2.2.2.2.2.2.Bar != b.2.2.2.1.Bar) then (some true) else (some (((b.2.2.2.2.2.2.2.2.Ears.length:Int)) != ((a.Ears.length:Int))))).bind λb8=>(bif b8 then (some true) else ((Fv b.2.2.2.2.2.2.2.2).bind λb9=>some (b9 != 0))).bind λba=>bif ba then (some ((false,b.2.2.1,b.2.2.2.1,b.2.2.2.2.1,b.2.2.2.2.2.1,b.2.2.2.2.2.2.1,b.2.2.2.2.2.2.2.1))) else ((pS n ((b.2.2.2.2.2.2.2.2.Ears.length:Int)) b.2.2.2.1 r b.2.2.2.2.2.2.2.2 (n+7) 0).bind λbb=>match bb with | (Sum.inl bc)=>some ((bc,b.2.2.1,b.2.2.2.1,b.2.2.2.2.1,b.2.2.2.2.2.1,b.2.2.2.2.2.2.1,b.2.2.2.2.2.2.2.1)) | (Sum.inr _)=>some ((true,b.2.2.1,b.2.2.2.2.2.2.2.2,b.2.2.2.2.1,b.2.2.2.2.2.1,b.2.2.2.2.2.2.1,b.2.2.2.2.2.2.2.1)))) else (some ((b.2.1,b.2.2.1,b.2.2.2.1,b.2.2.2.2.1,b.2.2.2.2.2.1,b.2.2.2.2.2.2.1,b.2.2.2.2.2.2.2.1)))) else none) else none).bind λo=>bif (!o.1) then (some ((Sum.inl false))) else (ss n a0 x y r m (wr .i64 (v+1)) o.2.1 o.2.2.1 o.2.2.2.1 o.2.2.2.2.1 o.2.2.2.2.2.1 o.2.2.2.2.2.2)) else (some ((Sum.inr (()))))
theorem Mw (b0:ri C) (e1:FI C) (e2:FJ C) (e3:FK C) (e4:FL C) (e5:FM C) (e6:FT C) (e7:FU C) (b1:zJ C) (e8:FZ C) (e9:Df C) (h9:Mt C) {o:aA} (eb:aA.under 7 o=true) (a2:aA.under 10 o=true) (b2:aA.under 13 o=true) (ed:aA.under 14 o=true) (b3:Bool) (aj:(List aJ)) (b4:Int) (q:Nat) {K:((Bool)⊕(Unit))->Option γ} (x0:∀ (o0:Bool) (s8:A) (an:A) (ao:A) (ap:A) (q1:aA) (q2:aA) (q3:aA) (q4:aA) (q5:aA) (q6:aA) (q7:aA) (q8:aA) (q9:aA),J φ (kr (St.mk [(4,(bA o0)),(8,s8),(39,an),(40,ao),(41,ap)] [o,q1,q2,q3,q4,q5,q6,q7,q8,q9])) kL (K (Sum.inl o0)) some) (x1:∀ (s4:A) (s8:A) (an:A) (ao:A) (ap:A) (q1:aA) (q2:aA) (q3:aA) (q4:aA) (q5:aA) (q6:aA),J φ (kx 0 (St.mk [(4,s4),(8,s8),(39,an),(40,ao),(41,ap)] [o,q1,q2,q3,q4,q5,q6])) kL (K (Sum.inr (()))) some) :
  ∀ (m:Nat) (au:Int) (r:Nat) (c:ay) (d:(List aE)) (h:(List aE)) (i:(List aE)) (j:(List aE)),J φ (aI (cx C) (ec C n 8) (ey C n 8) (n+8) 6 0 0 7 kx kg kr kp m (St.mk [(4,(bA b3)),(8,(pt 2 0)),(39,(im (aj.map ak) false)),(40,(iA b4)),(41,(iA au))] [o,fV r 3 d.length h.length i.length j.length,bx (aq c++[(bD 1 0 q true)]),aA.row false 4 (d.map av),aA.row false 4 (h.map av),aA.row false 4 (i.map av),aA.row false 4 (j.map av)])) kL (ss n b3 aj b4 q m au r c d h i j) K:=by
  refine nI (λ_ _ _ _ _ _ _=>.nn) λm ih au r c d h i j=>.lp (Ty ..) ?_;unfold ss;refine .st (aZ ..) (.cu ?_ ?_)
  ·refine .bd (fx (e:=65) (es:=8)) λa=>.s (ag (ak a)) (.s ((pt 7 0),[o,fV r 3 d.length h.length i.length j.length,bx (aq c++[(bD 1 0 q true)]),aA.row false 4 (d.map av),aA.row false 4 (h.map av),aA.row false 4 (i.map av),aA.row false 4 (j.map av),bx [(uA 0),(uA 0),(uA 0),(uA 0),(uA 0),(A.v (.int .i8 0)),(A.v (.int .u16 0)),Z5]]) (.s [o,fV r 3 d.length h.length i.length j.length,bx (aq c++[(bD 1 0 q true)]),aA.row false 4 (d.map av),aA.row false 4 (h.map av),aA.row false 4 (i.map av),aA.row false 4 (j.map av),bx (ak a)] (.s (ag (ak a)) (.bg (λ(t:Out×Heap) (y:Bool×Nat×ay×(List aE)×(List aE)×(List aE)×(List aE))=>∃ b6:aA,t=(Out.ret (bA y.1),[o,fV y.2.1 3 y.2.2.2.1.length y.2.2.2.2.1.length y.2.2.2.2.2.1.length y.2.2.2.2.2.2.length,bx (aq y.2.2.1++[(bD 1 0 q true)]),aA.row false 4 (y.2.2.2.1.map av),aA.row false 4 (y.2.2.2.2.1.map av),aA.row false 4 (y.2.2.2.2.2.1.map av),aA.row false 4 (y.2.2.2.2.2.2.map av),bx (ak a),bx (ak a),b6])) ?_ ?_))))
   ·refine .lp ((bk P2).trans (Yp ..)) (.s ((pt 8 0),[o,fV r 3 d.length h.length i.length j.length,bx (aq c++[(bD 1 0 q true)]),aA.row false 4 (d.map av),aA.row false 4 (h.map av),aA.row false 4 (i.map av),aA.row false 4 (j.map av),bx (ak a),bx (ak a)]) (.s (pt 2 0) (.s (pt 2 0) (.s2 (im (c.Ears.map aB) false) (.st (eS (e:=55)) (.s2 (uA a.Role) (.st (v:=(iA (wr .i64 (a.Role)))) (aM (hs:=by kernel_rfl) (hd:=by kernel_rfl) ..) (.gd λhg=>.st (gn (hb:=qai hg) ..) (.s (pt 2 0) (.s2 (ag (aq c)) (.s ((pt 9 0),[o,fV r 3 d.length h.length i.length j.length,bx (aq c++[(bD 1 0 q true)]),aA.row false 4 (d.map av),aA.row false 4 (h.map av),aA.row false 4 (i.map av),aA.row false 4 (j.map av),bx (ak a),bx (ak a),bx [Z5,Z5,Z5,(iA 0)]]) (.s [o,fV r 3 d.length h.length i.length j.length,bx (aq c++[(bD 1 0 q true)]),aA.row false 4 (d.map av),aA.row false 4 (h.map av),aA.row false 4 (i.map av),aA.row false 4 (j.map av),bx (ak a),bx (ak a),bx (aq c)] (.s (pt 2 0) (.s (pt 2 0) (.s (pt 2 0) (.s2 (im (c.Net.Queue.map al) false) (.st (eS (e:=48)) (.s (iA ((if 1<(c.Net.Queue.length:Int) then (c.Net.Queue.length:Int) else 1))) (.s2 (uA a.At) (.st (v:=(iA (wr .i64 (a.At)))) (aM (hs:=by kernel_rfl) (hd:=by kernel_rfl) ..) (.gd λhg=>.st (gn (hb:=qai hg) ..) ?_)))))))))))))))))))));refine .bg (λ(t:Out×Heap) (y:Bool×Bool×Nat×ay×(List aE)×(List aE)×(List aE)×(List aE)×ay)=>t=(Out.ret (tp [(bA y.1),(pt 2 0),(bA y.2.1),(iA ((c.Ears.length:Int))),(pt 9 0)]),[o,fV y.2.2.1 3 y.2.2.2.2.1.length y.2.2.2.2.2.1.length y.2.2.2.2.2.2.1.length y.2.2.2.2.2.2.2.1.length,bx (aq y.2.2.2.1++[(bD 1 0 q true)]),aA.row false 4 (y.2.2.2.2.1.map av),aA.row false 4 (y.2.2.2.2.2.1.map av),aA.row false 4 (y.2.2.2.2.2.2.1.map av),aA.row false 4 (y.2.2.2.2.2.2.2.1.map av),bx (ak a),bx (ak a),bx (aq y.2.2.2.2.2.2.2.2)])) ?_ ?_
    ·refine .s2 (uA a.Kind) (.st (gn (hb:=by decide) ..) (.bg (λ(t:Out×Heap) (y:Bool)=>t=(Out.ret (tp [(bA true),(pt 2 0),(pt 8 0),(bA false),(iA ((c.Ears.length:Int))),(iA (Int.tmod (wr .i64 (a.Role)) ((c.Ears.length:Int)))),(pt 9 0),(iA 0),(iA ((if 1<(c.Net.Queue.length:Int) then (c.Net.Queue.length:Int) else 1))),(iA (Int.tmod (wr .i64 (a.At)) ((if 1<(c.Net.Queue.length:Int) then (c.Net.Queue.length:Int) else 1)))),(uA (Int.tmod a.Kind 8)),(bA y),A.any]),[o,fV r 3 d.length h.length i.length j.length,bx (aq c++[(bD 1 0 q true)]),aA.row false 4 (d.map av),aA.row false 4 (h.map av),aA.row false 4 (i.map av),aA.row false 4 (j.map av),bx (ak a),bx (ak a),bx (aq c)])) ?_ ?_))
     ·refine .st (aX ..) (.cu ?_ ?_)
      ·exact .s [o,fV r 3 d.length h.length i.length j.length,bx (aq c++[(bD 1 0 q true)]),aA.row false 4 (d.map av),aA.row false 4 (h.map av),aA.row false 4 (i.map av),aA.row false 4 (j.map av),bx (ak a),bx (ak a),bx (aq c)] (.cT r7 (.lg rfl))
      exact .st (aX ..) (.s [o,fV r 3 d.length h.length i.length j.length,bx (aq c++[(bD 1 0 q true)]),aA.row false 4 (d.map av),aA.row false 4 (h.map av),aA.row false 4 (i.map av),aA.row false 4 (j.map av),bx (ak a),bx (ak a),bx (aq c)] (.cT r7 (.lg rfl)))
     rintro _ ek rfl
     refine .rj (.u4 (.u4 (.u4 (.uc (.bT (.cu ?_ ?_))))))
     ·refine .s (pt 8 4) (.s (uA a.No) (.st (v:=(iA (wr .i64 (a.No)))) (aM (hs:=by kernel_rfl) (hd:=by kernel_rfl) ..) (.st (gn (hb:=by decide) ..) (.s (pt 2 0) (.s (pt 2 0) (.s (pt 2 3) (.s (iA c.Bar) (.s (pt 8 5) (.s (A.v (.int .i8 a.Bar)) (.st (v:=(iA (wr .i64 (a.Bar)))) (aM (hs:=by kernel_rfl) (hd:=by kernel_rfl) ..) (.st (gn (hb:=by decide) ..) (.st (aF ..) (.s (pt 8 3) (.s (uA a.Program) (.st (v:=(iA (wr .i64 (a.Program)))) (aM (hs:=by kernel_rfl) (hd:=by kernel_rfl) ..) (.st (gn (hb:=by decide) ..) (.st (aF ..) (.s (ag [(iA (Int.tmod (wr .i64 (a.No)) 8)),(iA (Int.tmod (wr .i64 (a.Role)) ((c.Ears.length:Int)))),(iA (wr .i64 (c.Bar+(Int.tmod (wr .i64 (a.Bar)) 4)))),(iA (wr .i64 (1+(Int.tmod (wr .i64 (a.Program)) 3))))]) (.cT r7 (.s ((pt 10 0),[o,fV r 3 d.length h.length i.length j.length,bx (aq c++[(bD 1 0 q true)]),aA.row false 4 (d.map av),aA.row false 4 (h.map av),aA.row false 4 (i.map av),aA.row false 4 (j.map av),bx (ak a),bx (ak a),bx (aq c),bx [(iA 0),(iA 0),(iA 0),(iA 0)]]) (.s [o,fV r 3 d.length h.length i.length j.length,bx (aq c++[(bD 1 0 q true)]),aA.row false 4 (d.map av),aA.row false 4 (h.map av),aA.row false 4 (i.map av),aA.row false 4 (j.map av),bx (ak a),bx (ak a),bx (aq c),bx [(iA (Int.tmod (wr .i64 (a.No)) 8)),(iA (Int.tmod (wr .i64 (a.Role)) ((c.Ears.length:Int)))),(iA (wr .i64 (c.Bar+(Int.tmod (wr .i64 (a.Bar)) 4)))),(iA (wr .i64 (1+(Int.tmod (wr .i64 (a.Program)) 3))))]] (.s (pt 2 0) (.s2 (ag (aq c)) ?_)))))))))))))))))))))));refine .s (ag [(iA (Int.tmod (wr .i64 (a.No)) 8)),(iA (Int.tmod (wr .i64 (a.Role)) ((c.Ears.length:Int)))),(iA (wr .i64 (c.Bar+(Int.tmod (wr .i64 (a.Bar)) 4)))),(iA (wr .i64 (1+(Int.tmod (wr .i64 (a.Program)) 3))))]) (.bd (g:=λ(y:(ay×Int))=>(tp [(ag (aq y.1)),(iA y.2)])) (by simp only[cP,fo]; exact h9 c ((aE.mk (Int.tmod (wr .i64 (a.No)) 8) (Int.tmod (wr .i64 (a.Role)) ((c.Ears.length:Int))) (wr .i64 (c.Bar+(Int.tmod (wr .i64 (a.Bar)) 4))) (wr .i64 (1+(Int.tmod (wr .i64 (a.Program)) 3)))))) λa5=>.s (ag (aq a5.1)) (.s (iA a5.2) (.s [o,fV r 3 d.length h.length i.length j.length,bx (aq c++[(bD 1 0 q true)]),aA.row false 4 (d.map av),aA.row false 4 (h.map av),aA.row false 4 (i.map av),aA.row false 4 (j.map av),bx (ak a),bx (ak a),bx (aq a5.1),bx [(iA (Int.tmod (wr .i64 (a.No)) 8)),(iA (Int.tmod (wr .i64 (a.Role)) ((c.Ears.length:Int)))),(iA (wr .i64 (c.Bar+(Int.tmod (wr .i64 (a.Bar)) 4)))),(iA (wr .i64 (1+(Int.tmod (wr .i64 (a.Program)) 3))))]] (.st (aX ..) (.NL (.bg (λt (y:Bool)=>∃ b7:A,t=[(bA y),b7]) ?_ ?_))))))
      ·refine .Hp (λae=>?_) (λae=>?_)
       ·refine .bb (.s (pt 9 0) (.s (pt 9 0) (.s (im (a5.1.Net.Queue.map al) false) (.st (eS (e:=48)) (.s (pt 2 0) (.s (pt 2 0) (.s (pt 2 0) (.s (pt 2 0) (.s (im (c.Net.Queue.map al) false) (.st (eS (e:=48)) (.st (aF ..) (.st (aO ..) (.Fx (λa9=>?_) (λa9=>?_))))))))))))))
        ·refine .bb (.s (pt 9 0) (.s (pt 9 0) (.s (im (a5.1.Net.Queue.map al) false) (.s (pt 9 0) (.s (pt 9 0) (.s (im (a5.1.Net.Queue.map al) false) (.st (eS (e:=48)) (.st (fF ..) (.bd (fx (e:=48) (es:=3)) λaf=>.s (A.ip [(im (af.Data.map c8) false)]) (.s (im (af.Data.map c8) false) (.st (v:=(A.v (Value.string (iv af.Data)))) (pY (e:=5) (l:=af.Data) r7 r7 r7 r7 (bM ..) rfl) (.s (ag [(iA (Int.tmod (wr .i64 (a.No)) 8)),(iA (Int.tmod (wr .i64 (a.Role)) ((c.Ears.length:Int)))),(iA (wr .i64 (c.Bar+(Int.tmod (wr .i64 (a.Bar)) 4)))),(iA (wr .i64 (1+(Int.tmod (wr .i64 (a.Program)) 3))))]) (.bd (e5 ((aE.mk (Int.tmod (wr .i64 (a.No)) 8) (Int.tmod (wr .i64 (a.Role)) ((c.Ears.length:Int))) (wr .i64 (c.Bar+(Int.tmod (wr .i64 (a.Bar)) 4))) (wr .i64 (1+(Int.tmod (wr .i64 (a.Program)) 3)))))) λb8=>.st (v:=(A.v (Value.string (iv b8)))) (pY (e:=5) (l:=b8) r7 r7 r7 r7 (bM ..) rfl) (.cr (.u4 (.u4 (.u4 (.uc (.uc (.uc (.cr (.u4 (.u4 (.u4 (.u4 (.u4 (.u4 (.u4 (.uc (.bg (λt (y:Bool) =>  t=[(bA y)]) ?_ ?_))))))))))))))))))))))))))))))
         ·exact .lp (pv a9) (.st (uv ..) (.lg rfl))
         rintro _ en rfl
         refine .uc (.sj ae (.bg (λt (y:Bool) =>  t=(bA y)) ?_ ?_))
         ·exact .tK a9 (.lg rfl)
         rintro _ eo rfl
         exact .lg ⟨_,rfl⟩
        refine .bb (.cr (.u4 (.u4 (.u4 (.uc (.uc (.uc (.cr (.u4 (.u4 (.u4 (.u4 (.u4 (.u4 (.u4 (.uc (.bg (λt (y:Unit) =>  t=[(A.v undef)]) ?_ ?_)))))))))))))))))
        ·exact .lp (px a9) (.lg rfl)
        rintro _ er rfl
        refine .uc (.sj ae (.bg (λt (y:Unit) =>  t=(bA true)) ?_ ?_))
        ·exact .sj a9 (.lg rfl)
        rintro _ et rfl
        exact .lg ⟨_,rfl⟩
       refine .bb (.cr (.u4 (.u4 (.u4 (.u4 (.u4 (.u4 (.u4 (.uc (.bg (λt (y:Unit) =>  t=[(A.v undef)]) ?_ ?_))))))))))
       ·exact .gU (.lg rfl)
       rintro _ ev rfl
       exact .uc (.tK ae (.lg ⟨_,rfl⟩))
      rintro _ ew ⟨b7,rfl⟩
      refine .uc (.uc (.cu ?_ ?_))
      ·exact .st (v:=[o,fV r 3 d.length h.length i.length j.length,bx (aq c++[(bD 1 0 q true)]),aA.row false 4 (d.map av),aA.row false 4 (h.map av),aA.row false 4 (i.map av),aA.row false 4 (j.map av),bx (ak a),bx (ak a),bx (aq a5.1)]) (de r7 (by simp only[uB,df,bO,qae,qaq,Nat.reduceAdd,dg,Nat.reduceLT,qam,a2])) (.cT r7 (.lg rfl))
      refine .st (aO ..) (.cu ?_ ?_)
      ·refine .s2 (iA (wr .i64 (c.Bar+(Int.tmod (wr .i64 (a.Bar)) 4)))) (.st (aZ ..) (.bg (λt (y:Bool)=>∃ b9 ba:A,t=[(bA y),b9,ba]) ?_ ?_))
       ·refine .bi ?_ ?_
        ·exact .st (aX ..) (.lg ⟨_,_,rfl⟩)
        exact .lg ⟨_,_,rfl⟩
       rintro _ ez ⟨b9,ba,rfl⟩
       exact .uc (.uc (.uc (.st (v:=[o,fV r 3 d.length h.length i.length j.length,bx (aq c++[(bD 1 0 q true)]),aA.row false 4 (d.map av),aA.row false 4 (h.map av),aA.row false 4 (i.map av),aA.row false 4 (j.map av),bx (ak a),bx (ak a),bx (aq a5.1)]) (de r7 (by simp only[uB,df,bO,qae,qaq,Nat.reduceAdd,dg,Nat.reduceLT,qam,a2])) (.cT r7 (.lg rfl)))))
      exact .st (v:=[o,fV r 3 d.length h.length i.length j.length,bx (aq c++[(bD 1 0 q true)]),aA.row false 4 (d.map av),aA.row false 4 (h.map av),aA.row false 4 (i.map av),aA.row false 4 (j.map av),bx (ak a),bx (ak a),bx (aq a5.1)]) (de r7 (by simp only[uB,df,bO,qae,qaq,Nat.reduceAdd,dg,Nat.reduceLT,qam,a2])) (.cT r7 (.lg rfl))
     refine .bg (λ(t:Out×Heap) (y:Bool)=>t=(Out.ret (tp [(bA true),(pt 2 0),(pt 8 0),(bA false),(iA ((c.Ears.length:Int))),(iA (Int.tmod (wr .i64 (a.Role)) ((c.Ears.length:Int)))),(pt 9 0),(iA 0),(iA ((if 1<(c.Net.Queue.length:Int) then (c.Net.Queue.length:Int) else 1))),(iA (Int.tmod (wr .i64 (a.At)) ((if 1<(c.Net.Queue.length:Int) then (c.Net.Queue.length:Int) else 1)))),(uA (Int.tmod a.Kind 8)),(bA ek),(bA y)]),[o,fV r 3 d.length h.length i.length j.length,bx (aq c++[(bD 1 0 q true)]),aA.row false 4 (d.map av),aA.row false 4 (h.map av),aA.row false 4 (i.map av),aA.row false 4 (j.map av),bx (ak a),bx (ak a),bx (aq c)])) ?_ ?_
     ·refine .st (aX ..) (.cu ?_ ?_)
      ·exact .s [o,fV r 3 d.length h.length i.length j.length,bx (aq c++[(bD 1 0 q true)]),aA.row false 4 (d.map av),aA.row false 4 (h.map av),aA.row false 4 (i.map av),aA.row false 4 (j.map av),bx (ak a),bx (ak a),bx (aq c)] (.cT r7 (.lg rfl))
      exact .st (aX ..) (.s [o,fV r 3 d.length h.length i.length j.length,bx (aq c++[(bD 1 0 q true)]),aA.row false 4 (d.map av),aA.row false 4 (h.map av),aA.row false 4 (i.map av),aA.row false 4 (j.map av),bx (ak a),bx (ak a),bx (aq c)] (.cT r7 (.lg rfl)))
     rintro _ f0 rfl
     refine .rj (.u4 (.u4 (.u4 (.uc (.bT (.cu ?_ ?_))))))
     ·refine .s ((pt 10 0),[o,fV r 3 d.length h.length i.length j.length,bx (aq c++[(bD 1 0 q true)]),aA.row false 4 (d.map av),aA.row false 4 (h.map av),aA.row false 4 (i.map av),aA.row false 4 (j.map av),bx (ak a),bx (ak a),bx (aq c),bx [(iA 0),(iA 0),(iA 0)]]) (.s (pt 2 0) (.s2 (ag (aq c)) (.bd (g:=λ(y:(ay×bH×Bool×Int))=>(tp [(ag (aq y.1)),(ag (bF y.2.1)),(bA y.2.2.1),(iA y.2.2.2)])) (by simp only[cP,fo]; exact e1 c (Int.tmod (wr .i64 (a.At)) ((if 1<(c.Net.Queue.length:Int) then (c.Net.Queue.length:Int) else 1)))) λu=>.s (ag (aq u.1)) (.s (ag (bF u.2.1)) (.s (bA u.2.2.1) (.s (iA u.2.2.2) (.s [o,fV r 3 d.length h.length i.length j.length,bx (aq c++[(bD 1 0 q true)]),aA.row false 4 (d.map av),aA.row false 4 (h.map av),aA.row false 4 (i.map av),aA.row false 4 (j.map av),bx (ak a),bx (ak a),bx (aq u.1),bx [(iA 0),(iA 0),(iA 0)]] (.s [o,fV r 3 d.length h.length i.length j.length,bx (aq c++[(bD 1 0 q true)]),aA.row false 4 (d.map av),aA.row false 4 (h.map av),aA.row false 4 (i.map av),aA.row false 4 (j.map av),bx (ak a),bx (ak a),bx (aq u.1),bx (bF u.2.1)] (.st (aO ..) (.bg (λt (y:Bool)=>∃ bc be bf bh bj bl bm bn:A,t=[(bA y),bc,be,bf,bh,bj,bl,bm,bn]) ?_ ?_))))))))))
      ·refine .bi ?_ ?_
       ·exact .lg ⟨_,_,_,_,_,_,_,_,rfl⟩
       exact .s (pt 2 0) (.s (pt 2 0) (.s (pt 2 0) (.s (pt 2 0) (.s (im (c.Net.Queue.map al) false) (.st (eS (e:=48)) (.st (aX ..) (.lg ⟨_,_,_,_,_,_,_,_,rfl⟩)))))))
      rintro _ f1 ⟨bc,be,bf,bh,bj,bl,bm,bn,rfl⟩
      refine .u4 (.u4 (.uc (.cu ?_ ?_)))
      ·refine .s (pt 2 0) (.s (pt 2 0) (.s (pt 2 0) (.s2 (im (c.Net.Queue.map al) false) (.st (eS (e:=48)) (.st (aX ..) (.bg (λt (y:Bool)=>∃ bo bp:A,t=[(bA y),bo,bp]) ?_ ?_))))))
       ·refine .bi ?_ ?_
        ·exact .st (aX ..) (.lg ⟨_,_,rfl⟩)
        exact .lg ⟨_,_,rfl⟩
       rintro _ f2 ⟨bo,bp,rfl⟩
       exact .uc (.uc (.uc (.st (v:=[o,fV r 3 d.length h.length i.length j.length,bx (aq c++[(bD 1 0 q true)]),aA.row false 4 (d.map av),aA.row false 4 (h.map av),aA.row false 4 (i.map av),aA.row false 4 (j.map av),bx (ak a),bx (ak a),bx (aq u.1)]) (de r7 (by simp only[uB,df,bO,qae,qaq,Nat.reduceAdd,dg,Nat.reduceLT,qam,a2])) (.cT r7 (.lg rfl)))))
      refine .s (pt 2 0) (.s (pt 2 0) (.s (pt 2 0) (.s2 (im (c.Net.Queue.map al) false) (.bd (fx (e:=48) (es:=3)) λa3=>.s (ag (al a3)) (.s ((pt 11 0),[o,fV r 3 d.length h.length i.length j.length,bx (aq c++[(bD 1 0 q true)]),aA.row false 4 (d.map av),aA.row false 4 (h.map av),aA.row false 4 (i.map av),aA.row false 4 (j.map av),bx (ak a),bx (ak a),bx (aq u.1),bx (bF u.2.1),bx [(iA 0),(iA 0),Z5]]) (.s [o,fV r 3 d.length h.length i.length j.length,bx (aq c++[(bD 1 0 q true)]),aA.row false 4 (d.map av),aA.row false 4 (h.map av),aA.row false 4 (i.map av),aA.row false 4 (j.map av),bx (ak a),bx (ak a),bx (aq u.1),bx (bF u.2.1),bx (al a3)] (.s2 (iA a3.To) (.st (aX ..) (.s (bA (u.2.2.1 != (a3.To==0))) (.bg (λt (y:Bool)=>∃ bq br bs bt bu bv bw:A,t=[(bA y),bq,br,bs,bt,bu,bv,bw]) ?_ ?_))))))))))
      ·refine .bi ?_ ?_
       ·exact .lg ⟨_,_,_,_,_,_,_,rfl⟩
       refine .s (bA (!u.2.2.1)) (.bg (λt (y:Bool)=>∃ bz c0 c1:A,t=[(bA y),bz,c0,c1]) ?_ ?_)
       ·refine .bi ?_ ?_
        ·exact .s (ag (bF u.2.1)) (.s (ag [(iA 0),(iA 0),(iA 0)]) (.s (bA (!((u.2.1.Role==0)&&((u.2.1.Bar==0)&&(u.2.1.Program==0))))) (.lg ⟨_,_,_,rfl⟩)))
        exact .lg ⟨_,_,_,rfl⟩
       rintro _ f3 ⟨bz,c0,c1,rfl⟩
       exact .u4 (.lg ⟨_,_,_,_,_,_,_,rfl⟩)
      rintro _ f4 ⟨bq,br,bs,bt,bu,bv,bw,rfl⟩
      refine .u4 (.u4 (.cu ?_ ?_))
      ·exact .st (v:=[o,fV r 3 d.length h.length i.length j.length,bx (aq c++[(bD 1 0 q true)]),aA.row false 4 (d.map av),aA.row false 4 (h.map av),aA.row false 4 (i.map av),aA.row false 4 (j.map av),bx (ak a),bx (ak a),bx (aq u.1)]) (de r7 (by simp only[uB,df,bO,qae,qaq,Nat.reduceAdd,dg,Nat.reduceLT,qam,a2])) (.cT r7 (.lg rfl))
      refine .NM (.bg (λt (y:Bool)=>∃ c2:A,t=[(bA y),c2]) ?_ ?_)
      ·refine .Hp (λah=>?_) (λah=>?_)
       ·refine .bb (.s (pt 10 0) (.s (iA u.2.1.Role) (.st (aZ ..) (.bg (λt (y:Bool)=>∃ c3 c4 c5 c6:A,t=[(bA y),c3,c4,c5,c6]) ?_ ?_))))
        ·refine .bi ?_ ?_
         ·exact .lg ⟨_,_,_,_,rfl⟩
         exact .s (pt 10 0) (.s (iA u.2.1.Role) (.st (dD ..) (.lg ⟨_,_,_,_,rfl⟩)))
        rintro _ f5 ⟨c3,c4,c5,c6,rfl⟩
        refine .u4 (.uc (.bg (λt (y:Bool)=>∃ c7 c9 ca:A,t=[(bA y),c7,c9,ca]) ?_ ?_))
        ·refine .bi ?_ ?_
         ·exact .lg ⟨_,_,_,rfl⟩
         exact .s (pt 10 1) (.s (iA u.2.1.Bar) (.st (aZ ..) (.lg ⟨_,_,_,rfl⟩)))
        rintro _ f6 ⟨c7,c9,ca,rfl⟩
        refine .u4 (.bg (λt (y:Bool)=>∃ cb cc cd ce cf cg ch ci cj ck cm cn co cp:A,t=[(bA y),cb,cc,cd,ce,cf,cg,ch,ci,cj,ck,cm,cn,co,cp]) ?_ ?_)
        ·refine .bi ?_ ?_
         ·exact .lg ⟨_,_,_,_,_,_,_,_,_,_,_,_,_,_,rfl⟩
         exact .s (pt 10 1) (.s (iA u.2.1.Bar) (.s (pt 2 0) (.s (pt 2 0) (.s (pt 2 2) (.s (im (c.Ears.map aB) false) (.s (pt 10 0) (.s (iA u.2.1.Role) (.bd (fx (e:=55) (es:=3)) λcq=>.s (A.ip [(im (cq.Did.map (cI .i64)) false)]) (.s (im (cq.Did.map (cI .i64)) false) (.st (eS (e:=3)) (.st (dD ..) (.lg ⟨_,_,_,_,_,_,_,_,_,_,_,_,_,_,rfl⟩))))))))))))
        rintro _ f7 ⟨cb,cc,cd,ce,cf,cg,ch,ci,cj,ck,cm,cn,co,cp,rfl⟩
        refine .u4 (.u4 (.u4 (.uc (.uc (.uc (.Fx (λaa=>?_) (λaa=>?_)))))))
        ·refine .bb (.s (pt 2 0) (.s (pt 2 0) (.s (pt 2 2) (.s (im (c.Ears.map aB) false) (.s (pt 10 0) (.s (iA u.2.1.Role) (.bd (fx (e:=55) (es:=3)) λcs=>.s (A.ip [(im (cs.Did.map (cI .i64)) false)]) (.s (im (cs.Did.map (cI .i64)) false) (.s (pt 10 1) (.s (iA u.2.1.Bar) (.bd (fx (e:=3) (es:=1)) λel=>.s (iA el) (.s (pt 10 2) (.s (iA u.2.1.Program) (.cr (.u4 (.u4 (.u4 (.u4 (.cr ?_)))))))))))))))))))
         iterate 47 refine .uc ?_
         refine .bg (λt (y:Bool) =>  t=[(bA y)]) ?_ ?_
         ·exact .lp (pv aa) (.st (aO ..) (.lg rfl))
         rintro _ f8 rfl
         refine .uc (.sj ah (.bg (λt (y:Bool) =>  t=(bA y)) ?_ ?_))
         ·exact .tK aa (.lg rfl)
         rintro _ f9 rfl
         exact .lg ⟨_,rfl⟩
        refine .bb (.cr (.u4 (.u4 (.u4 (.u4 (.cr ?_))))))
        iterate 47 refine .uc ?_
        refine .bg (λt (y:Unit) =>  t=[(A.v undef)]) ?_ ?_
        ·exact .lp (px aa) (.lg rfl)
        rintro _ fa rfl
        refine .uc (.sj ah (.bg (λt (y:Unit) =>  t=(bA true)) ?_ ?_))
        ·exact .sj aa (.lg rfl)
        rintro _ fb rfl
        exact .lg ⟨_,rfl⟩
       refine .bb (.cr ?_)
       iterate 47 refine .uc ?_
       refine .bg (λt (y:Unit) =>  t=[(A.v undef)]) ?_ ?_
       ·exact .gU (.lg rfl)
       rintro _ fc rfl
       exact .uc (.tK ah (.lg ⟨_,rfl⟩))
      rintro _ fd ⟨c2,rfl⟩
      refine .uc (.uc (.cu ?_ ?_))
      ·exact .st (v:=[o,fV r 3 d.length h.length i.length j.length,bx (aq c++[(bD 1 0 q true)]),aA.row false 4 (d.map av),aA.row false 4 (h.map av),aA.row false 4 (i.map av),aA.row false 4 (j.map av),bx (ak a),bx (ak a),bx (aq u.1)]) (de r7 (by simp only[uB,df,bO,qae,qaq,Nat.reduceAdd,dg,Nat.reduceLT,qam,a2])) (.cT r7 (.lg rfl))
      refine .s2 (im (a3.Data.map c8) false) (.bd (g:=λ(y:(aE×Bool))=>(tp [(ag (av y.1)),(bA y.2)])) (by simp only[cP,fo]; exact e2 a3.Data) λw=>.s (ag (av w.1)) (.s (bA w.2) (.s ((pt 12 0),[o,fV r 3 d.length h.length i.length j.length,bx (aq c++[(bD 1 0 q true)]),aA.row false 4 (d.map av),aA.row false 4 (h.map av),aA.row false 4 (i.map av),aA.row false 4 (j.map av),bx (ak a),bx (ak a),bx (aq u.1),bx (bF u.2.1),bx (al a3),bx [(iA 0),(iA 0),(iA 0),(iA 0)]]) (.s [o,fV r 3 d.length h.length i.length j.length,bx (aq c++[(bD 1 0 q true)]),aA.row false 4 (d.map av),aA.row false 4 (h.map av),aA.row false 4 (i.map av),aA.row false 4 (j.map av),bx (ak a),bx (ak a),bx (aq u.1),bx (bF u.2.1),bx (al a3),bx (av w.1)] (.bg (λt (y:Bool)=>∃ ct cv:A,t=[(bA y),ct,cv]) ?_ ?_)))))
      ·refine .bi ?_ ?_
       ·exact .s (bA (!u.2.2.1)) (.lg ⟨_,_,rfl⟩)
       exact .lg ⟨_,_,rfl⟩
      rintro _ fe ⟨ct,cv,rfl⟩
      refine .uc (.uc (.uc (.bg (λt (y:Bool)=>∃ cw cy cz d0 d1 d2 d3 d4:A,t=[(bA y),cw,cy,cz,d0,d1,d2,d3,d4]) ?_ ?_)))
      ·refine .bi ?_ ?_
       ·exact .s (pt 12 2) (.s (iA w.1.Bar) (.s (pt 2 0) (.s (pt 2 0) (.s (pt 2 3) (.s (iA c.Bar) (.st (dD ..) (.lg ⟨_,_,_,_,_,_,_,_,rfl⟩)))))))
       exact .lg ⟨_,_,_,_,_,_,_,_,rfl⟩
      rintro _ ff ⟨cw,cy,cz,d0,d1,d2,d3,d4,rfl⟩
      refine .u4 (.u4 (.uc (.bg (λt (y:Bool)=>∃ d5 d6 d7:A,t=[(bA y),d5,d6,d7]) ?_ ?_)))
      ·refine .bi ?_ ?_
       ·exact .s (pt 12 1) (.s (iA w.1.Role) (.st (dD ..) (.lg ⟨_,_,_,rfl⟩)))
       exact .lg ⟨_,_,_,rfl⟩
      rintro _ fg ⟨d5,d6,d7,rfl⟩
      refine .u4 (.ZB (.bg (λt (y:Bool)=>∃ d8:A,t=[(bA y),d8]) ?_ ?_))
      ·refine .Hp (λaw=>?_) (λaw=>?_)
       ·exact .bb (.s (pt 12 1) (.s (iA w.1.Role) (.cr (.uc (.uc (.uc (.sj aw (.st (aZ ..) (.lg ⟨_,rfl⟩)))))))))
       exact .bb (.cr (.uc (.uc (.uc (.tK aw (.lg ⟨_,rfl⟩))))))
      rintro _ fh ⟨d8,rfl⟩
      refine .uc (.uc (.cu ?_ ?_))
      ·refine .s (pt 2 0) (.s (pt 2 4) (.s (bD 1 0 q true) (.s (pt 12 1) (.s (iA w.1.Role) (.s (pt 2 0) (.s2 (bD 1 0 q true) (.s2 (iA w.1.Role) (.V1 (g:=λ(y:Nat)=>A.ep 1 y 0) (CF (e:=53) r7 r7 rfl) λx em=>.gd λa6=>.st (v:=(bD (3+x) 0 (four x d.length h.length i.length j.length) false)) (Ed a6 r7 r7 rfl) (.s (ag (av w.1)) (.s (im [[(iA w.1.No),(iA w.1.Role),(iA w.1.Bar),(iA w.1.Program)]] true) (.cT (bT (rr a6 (by decide) rfl) (bT (rr a6 (by decide) rfl) (bT (rr a6 (by decide) rfl) (bT (rr a6 (by decide) rfl) (bT (rr a6 (by decide) rfl) r7))))) ?_)))))))))));refine .bd (g:=λ(y:List aE)=>((bD (3+x) 0 y.length false),[o,fV r 3 d.length h.length i.length j.length,bx (aq c++[(bD 1 0 q true)]),aA.row false 4 (List.map av ((eV x 0 y d))),aA.row false 4 (List.map av ((eV x 1 y h))),aA.row false 4 (List.map av ((eV x 2 y i))),aA.row false 4 (List.map av ((eV x 3 y j))),bx (ak a),bx (ak a),bx (aq u.1),bx (bF u.2.1),bx (al a3),bx (av w.1)])) (vk (p:=λk=>bU prog 53 53 false (bD (3+k) 0 (four k d.length h.length i.length j.length) false) (im [[(iA w.1.No),(iA w.1.Role),(iA w.1.Bar),(iA w.1.Program)]] true) [o,fV r 3 d.length h.length i.length j.length,bx (aq c++[(bD 1 0 q true)]),aA.row false 4 (d.map av),aA.row false 4 (h.map av),aA.row false 4 (i.map av),aA.row false 4 (j.map av),bx (ak a),bx (ak a),bx (aq u.1),bx (bF u.2.1),bx (al a3),bx (av w.1)] 0=(cU 32 (four k d h i j) ([w.1])).map λ(y:List aE)=>((bD (3+k) 0 y.length false),[o,fV r 3 d.length h.length i.length j.length,bx (aq c++[(bD 1 0 q true)]),aA.row false 4 (List.map av ((eV k 0 y d))),aA.row false 4 (List.map av ((eV k 1 y h))),aA.row false 4 (List.map av ((eV k 2 y i))),aA.row false 4 (List.map av ((eV k 3 y j))),bx (ak a),bx (ak a),bx (aq u.1),bx (bF u.2.1),bx (al a3),bx (av w.1)])) a6 (cC tW (l:=d) (l2:=[w.1]) (b:=3) rfl (by decide) (bM (f:=av) ([w.1]:List aE) _ _)) (cC tW (l:=h) (l2:=[w.1]) (b:=4) rfl (by decide) (bM (f:=av) ([w.1]:List aE) _ _)) (cC tW (l:=i) (l2:=[w.1]) (b:=5) rfl (by decide) (bM (f:=av) ([w.1]:List aE) _ _)) (cC tW (l:=j) (l2:=[w.1]) (b:=6) rfl (by decide) (bM (f:=av) ([w.1]:List aE) _ _))) λa1=>?_;exact .st (v:=(A.ep 1 x 0)) ((CF (e:=53) r7 r7 rfl).trans (qa7 _ em)) (.st (v:=[o,fV r 3 (((eV x 0 a1 d)).length) (((eV x 1 a1 h)).length) (((eV x 2 a1 i)).length) (((eV x 3 a1 j)).length),bx (aq c++[(bD 1 0 q true)]),aA.row false 4 (List.map av ((eV x 0 a1 d))),aA.row false 4 (List.map av ((eV x 1 a1 h))),aA.row false 4 (List.map av ((eV x 2 a1 i))),aA.row false 4 (List.map av ((eV x 3 a1 j))),bx (ak a),bx (ak a),bx (aq u.1),bx (bF u.2.1),bx (al a3),bx (av w.1)]) (IC (y:=a1) (l0:=d) (l1:=h) (l2:=i) (l3:=j) a6 r7 rfl (by decide)) (.st (v:=[o,fV r 3 (((eV x 0 a1 d)).length) (((eV x 1 a1 h)).length) (((eV x 2 a1 i)).length) (((eV x 3 a1 j)).length),bx (aq c++[(bD 1 0 q true)]),aA.row false 4 (List.map av ((eV x 0 a1 d))),aA.row false 4 (List.map av ((eV x 1 a1 h))),aA.row false 4 (List.map av ((eV x 2 a1 i))),aA.row false 4 (List.map av ((eV x 3 a1 j))),bx (ak a),bx (ak a),bx (aq u.1)]) (de r7 (by simp only[uB,df,bO,qae,qaq,Nat.reduceAdd,dg,Nat.reduceLT,qam,a2])) (.cT r7 (.lg rfl))))
      exact .st (v:=[o,fV r 3 d.length h.length i.length j.length,bx (aq c++[(bD 1 0 q true)]),aA.row false 4 (d.map av),aA.row false 4 (h.map av),aA.row false 4 (i.map av),aA.row false 4 (j.map av),bx (ak a),bx (ak a),bx (aq u.1)]) (de r7 (by simp only[uB,df,bO,qae,qaq,Nat.reduceAdd,dg,Nat.reduceLT,qam,a2])) (.cT r7 (.lg rfl))
     refine .st (aX ..) (.cu ?_ ?_)
     ·refine .s (pt 2 0) (.s2 (ag (aq c)) (.bd (g:=λ(y:(ay×Int))=>(tp [(ag (aq y.1)),(iA y.2)])) (by simp only[cP,fo]; exact e6 c (Int.tmod (wr .i64 (a.At)) ((if 1<(c.Net.Queue.length:Int) then (c.Net.Queue.length:Int) else 1)))) λab=>.s (ag (aq ab.1)) (.s (iA ab.2) (.s [o,fV r 3 d.length h.length i.length j.length,bx (aq c++[(bD 1 0 q true)]),aA.row false 4 (d.map av),aA.row false 4 (h.map av),aA.row false 4 (i.map av),aA.row false 4 (j.map av),bx (ak a),bx (ak a),bx (aq ab.1)] (.st (aO ..) (.cu ?_ ?_))))))
      ·refine .s (pt 2 0) (.s (pt 2 0) (.s (pt 2 0) (.s2 (im (c.Net.Queue.map al) false) (.st (eS (e:=48)) (.st (aX ..) (.bg (λt (y:Bool)=>∃ d9 da:A,t=[(bA y),d9,da]) ?_ ?_))))))
       ·refine .bi ?_ ?_
        ·exact .st (aX ..) (.lg ⟨_,_,rfl⟩)
        exact .lg ⟨_,_,rfl⟩
       rintro _ fi ⟨d9,da,rfl⟩
       exact .uc (.uc (.uc (.s [o,fV r 3 d.length h.length i.length j.length,bx (aq c++[(bD 1 0 q true)]),aA.row false 4 (d.map av),aA.row false 4 (h.map av),aA.row false 4 (i.map av),aA.row false 4 (j.map av),bx (ak a),bx (ak a),bx (aq ab.1)] (.cT r7 (.lg rfl)))))
      exact .s [o,fV r 3 d.length h.length i.length j.length,bx (aq c++[(bD 1 0 q true)]),aA.row false 4 (d.map av),aA.row false 4 (h.map av),aA.row false 4 (i.map av),aA.row false 4 (j.map av),bx (ak a),bx (ak a),bx (aq ab.1)] (.cT r7 (.lg rfl))
     refine .st (aX ..) (.cu ?_ ?_)
     ·refine .s (pt 2 0) (.s2 (ag (aq c)) (.bd (g:=λ(y:(ay×Int))=>(tp [(ag (aq y.1)),(iA y.2)])) (by simp only[cP,fo]; exact e7 c (Int.tmod (wr .i64 (a.At)) ((if 1<(c.Net.Queue.length:Int) then (c.Net.Queue.length:Int) else 1)))) λad=>.s (ag (aq ad.1)) (.s (iA ad.2) (.s [o,fV r 3 d.length h.length i.length j.length,bx (aq c++[(bD 1 0 q true)]),aA.row false 4 (d.map av),aA.row false 4 (h.map av),aA.row false 4 (i.map av),aA.row false 4 (j.map av),bx (ak a),bx (ak a),bx (aq ad.1)] (.st (aO ..) (.cu ?_ ?_))))))
      ·refine .s (pt 2 0) (.s (pt 2 0) (.s (pt 2 0) (.s2 (im (c.Net.Queue.map al) false) (.st (eS (e:=48)) (.st (aX ..) (.bg (λt (y:Bool)=>∃ db dc:A,t=[(bA y),db,dc]) ?_ ?_))))))
       ·refine .bi ?_ ?_
        ·exact .st (aX ..) (.lg ⟨_,_,rfl⟩)
        exact .lg ⟨_,_,rfl⟩
       rintro _ fj ⟨db,dc,rfl⟩
       exact .uc (.uc (.uc (.s [o,fV r 3 d.length h.length i.length j.length,bx (aq c++[(bD 1 0 q true)]),aA.row false 4 (d.map av),aA.row false 4 (h.map av),aA.row false 4 (i.map av),aA.row false 4 (j.map av),bx (ak a),bx (ak a),bx (aq ad.1)] (.cT r7 (.lg rfl)))))
      exact .s [o,fV r 3 d.length h.length i.length j.length,bx (aq c++[(bD 1 0 q true)]),aA.row false 4 (d.map av),aA.row false 4 (h.map av),aA.row false 4 (i.map av),aA.row false 4 (j.map av),bx (ak a),bx (ak a),bx (aq ad.1)] (.cT r7 (.lg rfl))
     refine .st (aX ..) (.cu ?_ ?_)
     ·refine .s (ag (ak a)) (.cl ((bk P4).trans (YJ ..)) (.s ((pt 10 0),[o,fV r 3 d.length h.length i.length j.length,bx (aq c++[(bD 1 0 q true)]),aA.row false 4 (d.map av),aA.row false 4 (h.map av),aA.row false 4 (i.map av),aA.row false 4 (j.map av),bx (ak a),bx (ak a),bx (aq c),bx (ak a)]) (.s (pt 2 0) (.s (pt 2 0) (.s2 (im (c.Ears.map aB) false) (.st (eS (e:=55)) (.s2 (im (a.Groups.map c8) false) (.bd (g:=λ(y:(List Int))=>(im (y.map (cI .i64)) false)) (by simp only[cP,fo]; exact e8 a.Groups ((c.Ears.length:Int))) λai=>.as (Jm C n _ _ _ _  ((c.Ears.length:Int)) a ?_ _ 0 (([]:List Int)))))))))))
      ·intro a7 fk fl;refine .un rfl (.cT r7 (.s (pt 2 0) (.s2 (ag (aq c)) (.bd (g:=λ(y:(ay×Int))=>(tp [(ag (aq y.1)),(iA y.2)])) (by show C 19 [snap _ (ag (aq c)),snap [o,fV r 3 d.length h.length i.length j.length,bx (aq c++[(bD 1 0 q true)]),aA.row false 4 (d.map av),aA.row false 4 (h.map av),aA.row false 4 (i.map av),aA.row false 4 (j.map av),bx (ak a),bx (ak a),bx (aq c),bx (ak a),aA.row false 1 (a7.map (cI .i64))] (bD 11 0 a7.length false),snap _ (im (ai.map (cI .i64)) false)]=_; simp only[cP,fo,gC (H:=[o,fV r 3 d.length h.length i.length j.length,bx (aq c++[(bD 1 0 q true)]),aA.row false 4 (d.map av),aA.row false 4 (h.map av),aA.row false 4 (i.map av),aA.row false 4 (j.map av),bx (ak a),bx (ak a),bx (aq c),bx (ak a),aA.row false 1 (a7.map (cI .i64))]) (b:=11) (es:=1) (l:=a7) (gI _) rfl]; exact e3 c a7 ai) λa0=>.s (ag (aq a0.1)) (.s (iA a0.2) (.s ((pt 12 0),[o,fV r 3 d.length h.length i.length j.length,bx (aq c++[(bD 1 0 q true)]),aA.row false 4 (d.map av),aA.row false 4 (h.map av),aA.row false 4 (i.map av),aA.row false 4 (j.map av),bx (ak a),bx (ak a),bx (aq c),bx (ak a),aA.row false 1 (a7.map (cI .i64)),bx [Z5,Z5,Z5,(iA 0)]]) ?_))))));refine .s [o,fV r 3 d.length h.length i.length j.length,bx (aq c++[(bD 1 0 q true)]),aA.row false 4 (d.map av),aA.row false 4 (h.map av),aA.row false 4 (i.map av),aA.row false 4 (j.map av),bx (ak a),bx (ak a),bx (aq c),bx (ak a),aA.row false 1 (a7.map (cI .i64)),bx (aq a0.1)] (.s (pt 2 0) (.s (pt 2 0) (.s2 (iA c.Bar) (.st (aO ..) (.bg (λt (y:Bool)=>∃ dd dh di dj dk:A,t=[(bA y),dd,dh,di,dj,dk]) ?_ ?_)))))
       ·refine .bi ?_ ?_
        ·exact .lg ⟨_,_,_,_,_,rfl⟩
        exact .s (pt 12 3) (.s (iA a0.1.Bar) (.st (aF ..) (.st (aO ..) (.lg ⟨_,_,_,_,_,rfl⟩))))
       rintro _ fm ⟨dd,dh,di,dj,dk,rfl⟩
       refine .u4 (.uc (.uc (.bg (λt (y:Bool)=>∃ dl dm dn dp dq:A,t=[(bA y),dl,dm,dn,dp,dq]) ?_ ?_)))
       ·refine .bi ?_ ?_
        ·exact .lg ⟨_,_,_,_,_,rfl⟩
        exact .s (pt 12 2) (.s (im (a0.1.Ears.map aB) false) (.st (eS (e:=55)) (.st (aO ..) (.lg ⟨_,_,_,_,_,rfl⟩))))
       rintro _ fn ⟨dl,dm,dn,dp,dq,rfl⟩
       refine .u4 (.uc (.uc (.bg (λt (y:Bool)=>∃ dr ds dt:A,t=[(bA y),dr,ds,dt]) ?_ ?_)))
       ·refine .bi ?_ ?_
        ·exact .lg ⟨_,_,_,rfl⟩
        exact .s (ag (aq a0.1)) (.bd (g:=λ(y:Int)=>(iA y)) (by simp only[cP,fo]; exact b0 a0.1) λfp=>.st (aO ..) (.lg ⟨_,_,_,rfl⟩))
       rintro _ fq ⟨dr,ds,dt,rfl⟩
       refine .u4 (.NJ (.bg (λt (y:Bool)=>∃ du:A,t=[(bA y),du]) ?_ ?_))
       ·refine .Fx (λax=>?_) (λax=>?_)
        ·exact .bb (.s (pt 12 0) (.s (pt 12 0) (.s (im (a0.1.Net.Queue.map al) false) (.st (eS (e:=48)) (.s (pt 2 0) (.s (pt 2 0) (.s (pt 2 0) (.s (pt 2 0) (.s (im (c.Net.Queue.map al) false) (.st (eS (e:=48)) (.st (aF ..) (.cr (.u4 (.u4 (.u4 (.uc (.tK ax (.st (aO ..) (.lg ⟨_,rfl⟩)))))))))))))))))))
        exact .bb (.cr (.u4 (.u4 (.u4 (.uc (.sj ax (.lg ⟨_,rfl⟩)))))))
       rintro _ fr ⟨du,rfl⟩
       refine .uc (.uc (.cu ?_ ?_))
       ·exact .cr (.ok (.st (v:=[o,fV r 3 d.length h.length i.length j.length,bx (aq c++[(bD 1 0 q true)]),aA.row false 4 (d.map av),aA.row false 4 (h.map av),aA.row false 4 (i.map av),aA.row false 4 (j.map av),bx (ak a),bx (ak a),bx (aq c)]) (de r7 (by simp only[uB,df,bO,qae,qaq,Nat.reduceAdd,dg,Nat.reduceLT,qam,a2])) (.cT r7 (.lg rfl))))
       refine .s2 (im (a0.1.Ears.map aB) false) (.st (eS (e:=55)) (.as (Jn C n _ _ _ _ b1 e9 b2 x8 x8 x8 x8 x8 false ai c.Bar a0.1.Ears ((a0.1.Ears.length:Int)) r c q d h i j a ?_ ?_ _ 0)))
       ·intro fs ft fu fv fw fy fz g0 g1 g2 g3;exact .un rfl (.cr (.ok (.st (v:=[o,fV r 3 d.length h.length i.length j.length,bx (aq c++[(bD 1 0 q true)]),aA.row false 4 (d.map av),aA.row false 4 (h.map av),aA.row false 4 (i.map av),aA.row false 4 (j.map av),bx (ak a),bx (ak a),bx (aq c)]) (de r7 (by simp only[uB,df,bO,qae,qaq,Nat.reduceAdd,dg,Nat.reduceLT,qam,a2])) (.cT r7 (.lg rfl)))))
       ·intro g4 g5 g6 g7;refine .un rfl (.cT r7 (.s2 (im (a0.1.Ears.map aB) false) (.st (eS (e:=55)) (.as (Jo C n _ _ _ _ b2 ed x8 x8 x8 x8 x8 x8 x8 x8 x8 x8 x8 x8 x8 x8 x8 x8 x8 x8 x8 x8 x8 x8 false ai c.Bar a0.1.Ears ((a0.1.Ears.length:Int)) a0.1 ?_ ?_ _ 0)))))
        ·intro g8 g9 ga gb gc ge gf gg gh gi;exact .un rfl (.cr (.ok (.st (v:=[o,fV r 3 d.length h.length i.length j.length,bx (aq c++[(bD 1 0 q true)]),aA.row false 4 (d.map av),aA.row false 4 (h.map av),aA.row false 4 (i.map av),aA.row false 4 (j.map av),bx (ak a),bx (ak a),bx (aq c)]) (de r7 (by simp only[uB,df,bO,qae,qaq,Nat.reduceAdd,dg,Nat.reduceLT,qam,a2])) (.cT r7 (.lg rfl)))))
        ·intro gj gk gl gm go gp;exact .un rfl (.cT r7 (.s (ag (aq a0.1)) (.s (pt 2 0) (.s (pt 2 0) (.s [o,fV r 3 d.length h.length i.length j.length,bx (aq a0.1++[(bD 1 0 q true)]),aA.row false 4 (d.map av),aA.row false 4 (h.map av),aA.row false 4 (i.map av),aA.row false 4 (j.map av),bx (ak a),bx (ak a),bx (aq c),bx (ak a),aA.row false 1 (a7.map (cI .i64)),bx (aq a0.1)] (.cr (.ok (.st (v:=[o,fV r 3 d.length h.length i.length j.length,bx (aq a0.1++[(bD 1 0 q true)]),aA.row false 4 (d.map av),aA.row false 4 (h.map av),aA.row false 4 (i.map av),aA.row false 4 (j.map av),bx (ak a),bx (ak a),bx (aq c)]) (de r7 (by simp only[uB,df,bO,qae,qaq,Nat.reduceAdd,dg,Nat.reduceLT,qam,a2])) (.cT r7 (.lg rfl))))))))))
     refine .s (pt 2 0) (.s2 (ag (aq c)) (.bd (g:=λ(y:(ay×Int))=>(tp [(ag (aq y.1)),(iA y.2)])) (by simp only[cP,fo]; exact e4 c (Int.tmod (wr .i64 (a.Role)) ((c.Ears.length:Int)))) λa8=>.s (ag (aq a8.1)) (.s (iA a8.2) (.s [o,fV r 3 d.length h.length i.length j.length,bx (aq c++[(bD 1 0 q true)]),aA.row false 4 (d.map av),aA.row false 4 (h.map av),aA.row false 4 (i.map av),aA.row false 4 (j.map av),bx (ak a),bx (ak a),bx (aq a8.1)] (.st (aO ..) (.cu ?_ ?_))))))
     ·refine .s (pt 2 0) (.s (pt 2 0) (.s2 (iA c.Bar) (.st (aX ..) (.bg (λt (y:Bool)=>∃ dv dw:A,t=[(bA y),dv,dw]) ?_ ?_))))
      ·refine .bi ?_ ?_
       ·exact .st (aX ..) (.lg ⟨_,_,rfl⟩)
       exact .lg ⟨_,_,rfl⟩
      rintro _ gq ⟨dv,dw,rfl⟩
      exact .uc (.uc (.uc (.s [o,fV r 3 d.length h.length i.length j.length,bx (aq c++[(bD 1 0 q true)]),aA.row false 4 (d.map av),aA.row false 4 (h.map av),aA.row false 4 (i.map av),aA.row false 4 (j.map av),bx (ak a),bx (ak a),bx (aq a8.1)] (.cT r7 (.lg rfl)))))
     refine .s (pt 9 0) (.s2 (im (a8.1.Net.Queue.map al) false) (.st (eS (e:=48)) (.s (pt 2 0) (.s (pt 2 0) (.s (pt 2 0) (.s2 (im (c.Net.Queue.map al) false) (.st (eS (e:=48)) (.s (pt 2 0) (.s (pt 2 0) (.s2 (iA c.Bar) (.st (aF ..) (.st (aO ..) (.cu ?_ ?_)))))))))))))
     ·exact .s [o,fV r 3 d.length h.length i.length j.length,bx (aq c++[(bD 1 0 q true)]),aA.row false 4 (d.map av),aA.row false 4 (h.map av),aA.row false 4 (i.map av),aA.row false 4 (j.map av),bx (ak a),bx (ak a),bx (aq a8.1)] (.cT r7 (.lg rfl))
     exact .s [o,fV r 3 d.length h.length i.length j.length,bx (aq c++[(bD 1 0 q true)]),aA.row false 4 (d.map av),aA.row false 4 (h.map av),aA.row false 4 (i.map av),aA.row false 4 (j.map av),bx (ak a),bx (ak a),bx (aq a8.1)] (.cT r7 (.lg rfl))
    rintro _ z rfl
    refine .rj (.u4 (.uc (.bi ?_ ?_)))
    ·refine .s2 (iA z.2.2.2.2.2.2.2.2.Bar) (.s (pt 2 0) (.s (pt 2 0) (.s2 (iA z.2.2.2.1.Bar) (.st (aO ..) (.ZC (.bg (λt (y:Bool)=>∃ dx:A,t=[(bA y),dx]) ?_ ?_))))))
     ·refine .Fx (λaz=>?_) (λaz=>?_)
      ·exact .bb (.s (pt 9 2) (.s (im (z.2.2.2.2.2.2.2.2.Ears.map aB) false) (.st (eS (e:=55)) (.cr (.u4 (.tK az (.st (aO ..) (.lg ⟨_,rfl⟩))))))))
      exact .bb (.cr (.u4 (.sj az (.lg ⟨_,rfl⟩))))
     rintro _ gr ⟨dx,rfl⟩
     refine .uc (.uc (.bg (λt (y:Bool)=>∃ dy dz e0:A,t=[(bA y),dy,dz,e0]) ?_ ?_))
     ·refine .bi ?_ ?_
      ·exact .lg ⟨_,_,_,rfl⟩
      exact .s (ag (aq z.2.2.2.2.2.2.2.2)) (.bd (g:=λ(y:Int)=>(iA y)) (by simp only[cP,fo]; exact b0 z.2.2.2.2.2.2.2.2) λgs=>.st (aO ..) (.lg ⟨_,_,_,rfl⟩))
     rintro _ gt ⟨dy,dz,e0,rfl⟩
     refine .u4 (.cu ?_ ?_)
     ·exact .lg ⟨_,rfl⟩
     refine .s2 (im (z.2.2.2.2.2.2.2.2.Ears.map aB) false) (.st (eS (e:=55)) (.as (Jl C n _ _ _ _ b1  ((z.2.2.2.2.2.2.2.2.Ears.length:Int)) z.2.2.2.1 q z.2.2.2.2.2.2.2.2 ?_ ?_ _ 0)))
     ·intro gu gv gw gx gy gz;exact .un rfl (.lg ⟨_,rfl⟩)
     ·intro h0 h1 h2;exact .un rfl (.cT r7 (.s (ag (aq z.2.2.2.2.2.2.2.2)) (.s (pt 2 0) (.s (pt 2 0) (.s [o,fV z.2.2.1 3 z.2.2.2.2.1.length z.2.2.2.2.2.1.length z.2.2.2.2.2.2.1.length z.2.2.2.2.2.2.2.1.length,bx (aq z.2.2.2.2.2.2.2.2++[(bD 1 0 q true)]),aA.row false 4 (z.2.2.2.2.1.map av),aA.row false 4 (z.2.2.2.2.2.1.map av),aA.row false 4 (z.2.2.2.2.2.2.1.map av),aA.row false 4 (z.2.2.2.2.2.2.2.1.map av),bx (ak a),bx (ak a),bx (aq z.2.2.2.2.2.2.2.2)] (.lg ⟨_,rfl⟩))))))
    exact .lg ⟨_,rfl⟩
   rintro _ a4 ⟨b6,rfl⟩
   refine .ok (.s (bA (!a4.1)) (.cu ?_ ?_))
   ·exact .ex (x0 _ _ _ _ _ _ _ _ _ _ _ _ _ _)
   refine .st (aF ..) (.st (v:=[o,fV a4.2.1 3 a4.2.2.2.1.length a4.2.2.2.2.1.length a4.2.2.2.2.2.1.length a4.2.2.2.2.2.2.length,bx (aq a4.2.2.1++[(bD 1 0 q true)]),aA.row false 4 (a4.2.2.2.1.map av),aA.row false 4 (a4.2.2.2.2.1.map av),aA.row false 4 (a4.2.2.2.2.2.1.map av),aA.row false 4 (a4.2.2.2.2.2.2.map av)]) (de r7 (by simp only[uB,df,bO,qae,qaq,Nat.reduceAdd,dg,Nat.reduceLT,qam,eb])) (.cT ((by kernel_rfl:_=(bif aH 7 (aj.map ak) then true else false)).trans u2) ?_));exact ih _ _ _ _ _ _ _
  exact .ex (x1 _ _ _ _ _ _ _ _ _ _ _)
def F6 (n:Nat) (a0:Int) (a1:(List aJ)):Option Bool:=
 (G7 ).bind λb=>bif (!b) then (some false) else (bif (decide (40<((a1.length:Int)))) then (some true) else ((Ol (wr .i64 (1+(Int.tmod (wr .i64 (a0)) 4)))).bind λa=>(bif (a.2 != 0) then (some true) else (some (((a.1.Ears.length:Int)) != (wr .i64 (1+(Int.tmod (wr .i64 (a0)) 4)))))).bind λc=>bif c then (some false) else (bif (decide (0<=(wr .i64 (1+(Int.tmod (wr .i64 (a0)) 4))))&&decide ((wr .i64 (1+(Int.tmod (wr .i64 (a0)) 4)))<=4)) then (bif decide (((Int.toNat (wr .i64 (1+(Int.tmod (wr .i64 (a0)) 4)))))<=4) then ((ss n false a1 ((a1.length:Int)) ((Int.toNat (wr .i64 (1+(Int.tmod (wr .i64 (a0)) 4))))) (n+8) 0 ((Int.toNat (wr .i64 (1+(Int.tmod (wr .i64 (a0)) 4))))) a.1 (([]:List aE)) (([]:List aE)) (([]:List aE)) (([]:List aE))).bind λd=>match d with | (Sum.inl e)=>some e | (Sum.inr _)=>some true) else none) else none)))
theorem T6 (C:OT) (n:Nat) (h:Lg C) (i:ri C) (j:FI C) (k:FJ C) (l:FK C) (o:FL C) (p:FM C) (q:FT C) (r:FU C) (u:zJ C) (w:OS C) (x:FZ C) (z:Df C) (h9:Mt C) (a0:Int) (a1:(List aJ)):TJ C n 6 [(uA a0),(im (a1.map ak) false)] (F6 n a0 a1) (λy=>(bA y)):=by
 refine .lp (e6 ..) ?_;unfold F6;refine .bd (w ()) λy1=>.s (bA (!y1)) (.cu ?_ ?_)
 ·exact .lv rfl
 refine .st (eS (e:=65)) (.st (eZ ..) (.cu ?_ ?_))
 ·exact .lv rfl
 refine .st (v:=(iA (wr .i64 (a0)))) (aM (hs:=by kernel_rfl) (hd:=by kernel_rfl) ..) (.st (gn (hb:=by decide) ..) (.st (aF ..) (.bd (h (wr .i64 (1+(Int.tmod (wr .i64 (a0)) 4)))) λa=>.s (ag (aq a.1)) (.s (iA a.2) (.sq (pt 0 0) (.s [bx (aq a.1)] (.st (aO ..) (.bg (λt (y:Bool)=>∃ b c d tC g:A,t=[(bA y),b,c,d,tC,g]) ?_ ?_))))))))
 ·refine .bi ?_ ?_
  ·exact .lg ⟨_,_,_,_,_,rfl⟩
  exact .s (pt 0 2) (.s (im (a.1.Ears.map aB) false) (.st (eS (e:=55)) (.st (aO ..) (.lg ⟨_,_,_,_,_,rfl⟩))))
 rintro _ y6 ⟨b,c,d,tC,g,rfl⟩
 refine .u4 (.uc (.uc (.cu ?_ ?_)))
 ·exact .lv rfl
 refine .s (ag (aq a.1)) (.cT r7 (.gd λhg=>.st (v:=((bD 1 0 ((Int.toNat (wr .i64 (1+(Int.tmod (wr .i64 (a0)) 4))))) true),[bx (aq a.1),II ((Int.toNat (wr .i64 (1+(Int.tmod (wr .i64 (a0)) 4)))))])) (P7 (e:=53) (by_:=24) r7 r7 r7 r7 (by decide) hg) (.s (ag (aq a.1++[(bD 1 0 ((Int.toNat (wr .i64 (1+(Int.tmod (wr .i64 (a0)) 4))))) true)])) (.s ((pt 2 0),[bx (aq a.1),II ((Int.toNat (wr .i64 (1+(Int.tmod (wr .i64 (a0)) 4))))),bx (aq a.1++[(bD 1 0 ((Int.toNat (wr .i64 (1+(Int.tmod (wr .i64 (a0)) 4))))) true)])]) (.gd λhg=>.st (v:=((bD 1 0 ((Int.toNat (wr .i64 (1+(Int.tmod (wr .i64 (a0)) 4))))) true),[bx (aq a.1),fV ((Int.toNat (wr .i64 (1+(Int.tmod (wr .i64 (a0)) 4))))) 3 ((([]:List aE)).length) ((([]:List aE)).length) ((([]:List aE)).length) ((([]:List aE)).length),bx (aq a.1++[(bD 1 0 ((Int.toNat (wr .i64 (1+(Int.tmod (wr .i64 (a0)) 4))))) true)]),aA.row false 4 (List.map av (([]:List aE))),aA.row false 4 (List.map av (([]:List aE))),aA.row false 4 (List.map av (([]:List aE))),aA.row false 4 (List.map av (([]:List aE)))])) (JG (T:=aE) (f:=av) hg rfl (by decide)) (.st (eS (e:=65)) (.as (Mw C n _ _ _ _ i j k l o p q r u x z h9 x8 x8 x8 x8 false a1 ((a1.length:Int)) ((Int.toNat (wr .i64 (1+(Int.tmod (wr .i64 (a0)) 4))))) ?_ ?_ _ 0 ((Int.toNat (wr .i64 (1+(Int.tmod (wr .i64 (a0)) 4))))) a.1 (([]:List aE)) (([]:List aE)) (([]:List aE)) (([]:List aE))))))))))
 ·intro a5 a6 a7 a8 a9 aa ab ad ae af ah ai aj al;exact .un rfl (.lv rfl)
 ·intro am an ao ap ar au aw ax ay az b0;exact .un rfl (.cT r7 (.lv rfl))
def G6 (a0:Int) (a1:(List aJ)):Option Bool:=F6 aD a0 a1
end Go.Proofs.Ytebkhfhcipnfgaa
