/-
 The program's functions as plain functions: by a tool; each follows the interpreter.
-/
import Derived.Test.YtebkhfhcipnfgaaT2
namespace Go.Proofs.Ytebkhfhcipnfgaa
open Go.Proofs.Try (prog)
set_option linter.unusedVariables false
set_option linter.unusedSimpArgs false
set_option maxHeartbeats 4000000
set_option maxRecDepth 100000
set_option linter.defProp false
theorem ZS {p:Prop} (h:p:=by simp only[uB,df,bO,eu,Nat.reduceAdd,dg,Nat.reduceLT,decide_true,jd,jD,dX]):p:=h
theorem Z4 {p:Prop} (h:p:=by simp only[uB,df,bO,eu,Nat.reduceAdd,dg,Nat.reduceLT,decide_true,dX]):p:=h
variable (C:Nat->List A->Option A) (n:Nat) {ρ γ:Type} {φ:ρ->γ->Prop} {kL:R->Option ρ} (kx kg:Nat->St->Option R) (kr:St->Option R) (kp:A->St->Option R)
def jd (a0:ay) (a:(List aR)):aA:=bx [(im (a0.Net.Queue.map al) false),(im (a0.Net.Apart.map au) false),(bD 5 0 a.length false),(iA (wr .i64 (a0.Bar+1)))]
def b9 (a:(List aC)) (b:(List (Int×Int))) (c:(List aR)) (d:Int):aA:=bx [(im (a.map al) true),(im (b.map au) true),(im (c.map aB) true),(iA d)]
def lV (a:(List aC)) (b:(List (Int×Int))) (c:Nat) (d:Int):aA:=bx [(im (a.map al) false),(im (b.map au) false),(bD 5 0 c false),(iA d)]
def jD (a:(List aC)) (b:(List (Int×Int))) (c:(List aR)) (a0:ay):aA:=bx [(im (a.map al) false),(im (b.map au) false),(bD 5 0 c.length false),(iA (wr .i64 (a0.Bar+1)))]
def yQ (a:(List aC)) (b:(List (Int×Int))) (c:(List aR)) (d:Int):aA:=bx [(im (a.map al) false),(im (b.map au) false),(bD 5 0 c.length false),(iA d)]
def mZ (n:Nat) (b:Int) (c:(List Int)) (d:Int) (f:(List aC)) (g:(List (Int×Int))) (h:(List aR)) (i:Int):Nat->Int->Int->Option ((Int)⊕(Unit))
 | 0,_,_=>none
 | m+1,j,a=>bif (decide (a<d)) then ((bG c a).bind λe=>(zH e (wr .i64 (j+1)) (wr .i64 (b - 1))).bind λk=>bif (!k) then (some ((Sum.inl 1))) else (mZ n b c d f g h i m e (wr .i64 (a+1)))) else (some ((Sum.inr (()))))
theorem F8 (y:oP C) {p q r t:A} {f:aA} (g:Int) (u:(List Int)) (v:Int) (a:(List aC)) (b:(List (Int×Int))) (c:(List aR)) (d:Int) {K:((Int)⊕(Unit))->Option γ} (z:∀ (w:Int) (s1:A) (s2:A) (s3:A) (s8:A) (i:A) (j:A) (k:A) (l:A),J φ (kr (St.mk [(1,s1),(2,s2),(3,s3),(6,(pt 1 0)),(7,(iA w)),(8,s8),(9,i),(33,j),(34,k),(35,l)] [f,(b9 a b c d)])) kL (K (Sum.inl w)) some) (x1:∀ (i:A) (j:A) (k:A) (l:A),J φ (kx 0 (St.mk [(1,p),(2,q),(3,r),(6,(pt 1 0)),(7,t),(8,(iA g)),(9,i),(33,j),(34,k),(35,l)] [f,(b9 a b c d)])) kL (K (Sum.inr (()))) some) :
  ∀ (m:Nat) (h:Int) (o:Int),J φ (aI (cx C) (ec C n 8) (ey C n 8) (n+8) 19 0 0 2 kx kg kr kp m (St.mk [(1,p),(2,q),(3,r),(6,(pt 1 0)),(7,t),(8,(iA g)),(9,(iA h)),(33,(im (u.map (cI .i64)) false)),(34,(iA v)),(35,(iA o))] [f,(b9 a b c d)])) kL (mZ n g u v a b c d m h o) K:=by
  refine nI (λ_ _=>.nn) λm ih h o=>.lp (Pf ..) ?_;unfold mZ;refine .st (aZ ..) (.cu ?_ ?_)
  ·refine .bd (fx (e:=3) (es:=1)) λx=>.s (iA x) (.st (aF ..) (.st (fF ..) (.bd (y x (wr .i64 (h+1)) (wr .i64 (g - 1))) λa4=>.s (bA (!a4)) (.cu ?_ ?_))))
   ·exact .s (ag [(im (a.map al) true),(im (b.map au) true),(im (c.map aB) true),(iA d)]) (.s [f,(b9 a b c d)] (.ex (z _ _ _ _ _ _ _ _ _)))
   refine .st (aF ..) (.s [f,(b9 a b c d)] (.cT r7 ?_));exact ih _ _
  exact .ex (x1 _ _ _ _)
def na (n:Nat) (c:(List Int)) (d:(List Int)) (e:Int) (f:(List aC)) (g:(List (Int×Int))) (h:(List aR)) (i:Int):Nat->Int->Option ((Int)⊕(Unit))
 | 0,_=>none
 | m+1,a=>bif (decide (a<e)) then ((bG d a).bind λb=>(zH b 0 a).bind λj=>(bif (!j) then (some true) else ((bG c b).bind λk=>some (k != b))).bind λl=>bif l then (some ((Sum.inl 1))) else (na n c d e f g h i m (wr .i64 (a+1)))) else (some ((Sum.inr (()))))
theorem Ga (a4:oP C) {l o p q:A} {f:aA} (h:(List Int)) (r:(List Int)) (u:Int) (a:(List aC)) (b:(List (Int×Int))) (c:(List aR)) (d:Int) {K:((Int)⊕(Unit))->Option γ} (x0:∀ (v:Int) (s1:A) (s2:A) (s3:A) (s8:A) (i:A) (j:A) (k:A),J φ (kr (St.mk [(1,s1),(2,s2),(3,s3),(6,(pt 1 0)),(7,(iA v)),(8,s8),(54,i),(55,j),(56,k)] [f,(b9 a b c d)])) kL (K (Sum.inl v)) some) (x1:∀ (i:A) (j:A) (k:A),J φ (kx 2 (St.mk [(1,l),(2,(im (h.map (cI .i64)) false)),(3,o),(6,(pt 1 0)),(7,p),(8,q),(54,i),(55,j),(56,k)] [f,(b9 a b c d)])) kL (K (Sum.inr (()))) some) :
  ∀ (m:Nat) (g:Int),J φ (aI (cx C) (ec C n 8) (ey C n 8) (n+8) 19 0 1 2 kx kg kr kp m (St.mk [(1,l),(2,(im (h.map (cI .i64)) false)),(3,o),(6,(pt 1 0)),(7,p),(8,q),(54,(im (r.map (cI .i64)) false)),(55,(iA u)),(56,(iA g))] [f,(b9 a b c d)])) kL (na n h r u a b c d m g) K:=by
  refine nI (λ_=>.nn) λm ih g=>.lp (Pg ..) ?_;unfold na;refine .st (aZ ..) (.cu ?_ ?_)
  ·refine .bd (fx (e:=3) (es:=1)) λw=>.s (iA w) (.bd (a4 w 0 g) λaa=>.s (bA (!aa)) (.bg (λt (y:Bool)=>∃ x z a0 a1 a2 a3:A,t=[(bA y),x,z,a0,a1,a2,a3]) ?_ ?_))
   ·refine .bi ?_ ?_
    ·exact .lg ⟨_,_,_,_,_,_,rfl⟩
    exact .bd (fx (e:=3) (es:=1)) λab=>.s (iA ab) (.st (aO ..) (.lg ⟨_,_,_,_,_,_,rfl⟩))
   rintro _ ad ⟨x,z,a0,a1,a2,a3,rfl⟩
   refine .u4 (.uc (.uc (.uc (.cu ?_ ?_))))
   ·exact .s (ag [(im (a.map al) true),(im (b.map au) true),(im (c.map aB) true),(iA d)]) (.s [f,(b9 a b c d)] (.ex (x0 _ _ _ _ _ _ _ _)))
   refine .st (aF ..) (.s [f,(b9 a b c d)] (.cT r7 ?_));exact ih _
  exact .ex (x1 _ _ _)
def jq (n:Nat) (f:(List Int)) (b:(List Int)) (k:Int) (c:Nat) (g:(List aR)) (h:Int) (i:ay):Nat->Int->(List Int)->(List (Int×Int))->(List Int)->Option ((List Int)×(List (Int×Int))×(List Int))
 | 0,_,_,_,_=>none
 | m+1,a,e,d,j=>bif (decide (a<h)) then ((bG g a).bind λo=>(bif (decide (0<((o.Cues.length:Int)))) then ((bG o.Cues 0).bind λr=>some (r.Bar==i.Bar)) else (some false)).bind λs=>(bif s then ((Ox f a).bind λt=>some (!t)) else (some false)).bind λu=>bif u then ((bG o.Cues 0).bind λv=>(gO c a).bind λw=>(lY e w (λ(y:Int)=>v.Program)).bind λl=>(bG b a).bind λp=>(bif ((getM d p).isSome) then ((gO c a).bind λx=>(l[x]?).bind λz=>some (((getM d p).getD 0) != z)) else (some false)).bind λa0=>bif a0 then ((bG b a).bind λa1=>(cU 8 j ([a])).bind λa2=>jq n f b k c g h i m (wr .i64 (a+1)) l (jM d a1 0) a2) else ((bG b a).bind λa3=>(gO c a).bind λa4=>(l[a4]?).bind λa5=>(cU 8 j ([a])).bind λa6=>jq n f b k c g h i m (wr .i64 (a+1)) l (jM d a3 a5) a6)) else ((bG b a).bind λq=>(bif ((getM d q).isSome) then ((gO c a).bind λa7=>(e[a7]?).bind λa8=>some (((getM d q).getD 0) != a8)) else (some false)).bind λa9=>bif a9 then ((bG b a).bind λaa=>(cU 8 j ([a])).bind λab=>jq n f b k c g h i m (wr .i64 (a+1)) e (jM d aa 0) ab) else ((bG b a).bind λad=>(gO c a).bind λae=>(e[ae]?).bind λaf=>(cU 8 j ([a])).bind λag=>jq n f b k c g h i m (wr .i64 (a+1)) e (jM d ad af) ag))) else (some ((e,d,j)))
theorem Gb (ba:FP C) {d:aA} (a1:aA.under 5 d=true) (p:(List Int)) (q:(List Int)) (a8:Int) (a9:Nat) (r:(List aR)) (af:Int) (c:ay) {K:((List Int)×(List (Int×Int))×(List Int))->Option γ} (x0:∀ (o0:(List Int)) (o1:(List (Int×Int))) (o2:(List Int)) (s1:A) (bf:A) (bh:A) (bj:A),J φ (kx 4 (St.mk [(1,s1),(2,(im (q.map (cI .i64)) false)),(3,(pt 0 0)),(6,(pt 1 0)),(7,(iA a8)),(14,(bD 2 0 a9 false)),(15,(A.mr 3)),(16,(bD 4 0 o2.length false)),(83,bf),(84,bh),(85,bj)] [bx (aq c),d,aA.row true 1 (o0.map (cI .i64)),mW .i64 iA o1,aA.row false 1 (o2.map (cI .i64))])) kL (K (o0,o1,o2)) some) :
  ∀ (m:Nat) (h:Int) (i:(List Int)) (a:(List (Int×Int))) (j:(List Int)),J φ (aI (cx C) (ec C n 8) (ey C n 8) (n+8) 19 0 2 5 kx kg kr kp m (St.mk [(1,(im (p.map (cI .i64)) false)),(2,(im (q.map (cI .i64)) false)),(3,(pt 0 0)),(6,(pt 1 0)),(7,(iA a8)),(14,(bD 2 0 a9 false)),(15,(A.mr 3)),(16,(bD 4 0 j.length false)),(83,(im (r.map aB) false)),(84,(iA af)),(85,(iA h))] [bx (aq c),d,aA.row true 1 (i.map (cI .i64)),mW .i64 iA a,aA.row false 1 (j.map (cI .i64))])) kL (jq n p q a8 a9 r af c m h i a j) K:=by
  refine nI (λ_ _ _ _=>.nn) λm ih h i a j=>.lp (Ph ..) ?_;unfold jq;refine .st (aZ ..) (.cu ?_ ?_)
  ·refine .bd (fx (e:=55) (es:=3)) λk=>.s (ag (aB k)) (.sq (pt 5 0) (.s [bx (aq c),d,aA.row true 1 (i.map (cI .i64)),mW .i64 iA a,aA.row false 1 (j.map (cI .i64)),bx (aB k)] (.s2 (im (k.Cues.map av) false) (.st (eS (e:=30)) (.st (eZ ..) (.bg (λt (y:Bool)=>∃ aj ak al am an ao ap ar:A,t=[(bA y),aj,ak,al,am,an,ao,ap,ar]) ?_ ?_))))))
   ·refine .bi ?_ ?_
    ·exact .s (pt 5 0) (.s (im (k.Cues.map av) false) (.bd (fx (e:=30) (es:=4)) λab=>.s (A.ip [(iA ab.Bar),(iA ab.Program)]) (.s (iA ab.Bar) (.s (pt 0 3) (.s (iA c.Bar) (.st (aX ..) (.lg ⟨_,_,_,_,_,_,_,_,rfl⟩)))))))
    exact .lg ⟨_,_,_,_,_,_,_,_,rfl⟩
   rintro _ bp ⟨aj,ak,al,am,an,ao,ap,ar,rfl⟩
   refine .u4 (.u4 (.uc (.ZA (.bg (λt (y:Bool)=>∃ au aw:A,t=[(bA y),au,aw]) ?_ ?_))))
   ·refine .Hp (λad=>?_) (λad=>?_)
    ·exact .bb (.cr (.uc (.uc (.sj ad (.bd (g:=λ(y:Bool)=>(bA y)) (by simp only[cP,fo]; exact ba p h) λbk=>.s (bA (!bk)) (.lg ⟨_,_,rfl⟩))))))
    exact .bb (.cr (.uc (.uc (.tK ad (.lg ⟨_,_,rfl⟩)))))
   rintro _ bq ⟨au,aw,rfl⟩
   refine .uc (.uc (.uc (.cu ?_ ?_)))
   ·refine .s2 (im (k.Cues.map av) false) (.bd (fx (e:=30) (es:=4)) λae=>.s2 (iA ae.Program) (.bd (g:=λ(y:Nat)=>A.ep 2 y 0) (dU (e:=3) (es:=1) (l:=i) r7 r7 rfl) λbr=>.bd (g:=λ(y:List Int)=>[bx (aq c),d,aA.row true 1 (y.map (cI .i64)),mW .i64 iA a,aA.row false 1 (j.map (cI .i64)),bx (aB k)]) ((gm (es:=1) (n:=1) (l:=i) (xs:=[(iA ae.Program)]) (u:=λ(y:Int)=>ae.Program) r7 r7 (by decide) rfl (λ_=>rfl) (by decide) (by decide) rfl (λ_=>rfl))) λo=>.bd (fx (e:=3) (es:=1)) λw=>.s (iA w) (.st (v:=(tp [(iA ((getM a w).getD 0)),(bA ((getM a w).isSome))])) (Ib (vt:=3) (f:=iA) (l:=a) (z:=0) (v:=Value.int .i64 0) r7 rfl r7 rfl) (.s (iA ((getM a w).getD 0)) (.s (bA ((getM a w).isSome)) (.bg (λt (y:Bool)=>∃ ax az b0 b1 b2 b3:A,t=[(bA y),ax,az,b0,b1,b2,b3]) ?_ ?_))))))
    ·refine .bi ?_ ?_
     ·exact .bd (g:=λ(y:Nat)=>A.ep 2 y 0) (dU (e:=3) (es:=1) (l:=o) r7 r7 rfl) λbs=>.bd (g:=λ(y:Int)=>(iA y)) (jZ (es:=1) (n:=1) (l:=o) r7 (by decide) (λ_=>rfl) (by decide) rfl (λ_=>r7)) λbt=>.st (aO ..) (.lg ⟨_,_,_,_,_,_,rfl⟩)
     exact .lg ⟨_,_,_,_,_,_,rfl⟩
    rintro _ bu ⟨ax,az,b0,b1,b2,b3,rfl⟩
    refine .u4 (.uc (.uc (.uc (.cu ?_ ?_))))
    ·refine .bd (fx (e:=3) (es:=1)) λa2=>.s (iA a2) (.st (v:=[bx (aq c),d,aA.row true 1 (o.map (cI .i64)),mW .i64 iA (jM a a2 0),aA.row false 1 (j.map (cI .i64)),bx (aB k)]) (zh (vt:=3) (f:=iA) (l:=a) (x:=0) r7 rfl r7) (.s (im [[(iA h)]] true) (.bd (g:=λ(y:List Int)=>((bD 4 0 y.length false),[bx (aq c),d,aA.row true 1 (o.map (cI .i64)),mW .i64 iA (jM a a2 0),aA.row false 1 (y.map (cI .i64)),bx (aB k)])) (cC pW (l:=j) (l2:=[h]) (b:=4) rfl (by decide) (bM (f:=(cI .i64)) ([h]:List Int) _ _)) λbl=>.st (aF ..) (.st (v:=[bx (aq c),d,aA.row true 1 (o.map (cI .i64)),mW .i64 iA (jM a a2 0),aA.row false 1 (bl.map (cI .i64))]) (de r7 (by simp only[uB,df,eu,qae,qaq,Nat.reduceAdd,dg,Nat.reduceLT,qam,a1])) (.cT ((by kernel_rfl:_=(bif aH 5 (p.map (cI .i64)) then (bif aH 5 (q.map (cI .i64)) then (bif aH 5 (r.map aB) then true else false) else false) else false)).trans u2) ?_)))));exact ih _ _ _ _
    refine .bd (fx (e:=3) (es:=1)) λa3=>.s (iA a3) (.bd (g:=λ(y:Nat)=>A.ep 2 y 0) (dU (e:=3) (es:=1) (l:=o) r7 r7 rfl) λbv=>.bd (g:=λ(y:Int)=>(iA y)) (jZ (es:=1) (n:=1) (l:=o) r7 (by decide) (λ_=>rfl) (by decide) rfl (λ_=>r7)) λa4=>.st (v:=[bx (aq c),d,aA.row true 1 (o.map (cI .i64)),mW .i64 iA (jM a a3 a4),aA.row false 1 (j.map (cI .i64)),bx (aB k)]) (zh (vt:=3) (f:=iA) (l:=a) (x:=a4) r7 rfl r7) (.s (im [[(iA h)]] true) (.bd (g:=λ(y:List Int)=>((bD 4 0 y.length false),[bx (aq c),d,aA.row true 1 (o.map (cI .i64)),mW .i64 iA (jM a a3 a4),aA.row false 1 (y.map (cI .i64)),bx (aB k)])) (cC pW (l:=j) (l2:=[h]) (b:=4) rfl (by decide) (bM (f:=(cI .i64)) ([h]:List Int) _ _)) λbm=>.st (aF ..) (.st (v:=[bx (aq c),d,aA.row true 1 (o.map (cI .i64)),mW .i64 iA (jM a a3 a4),aA.row false 1 (bm.map (cI .i64))]) (de r7 (by simp only[uB,df,eu,qae,qaq,Nat.reduceAdd,dg,Nat.reduceLT,qam,a1])) (.cT ((by kernel_rfl:_=(bif aH 5 (p.map (cI .i64)) then (bif aH 5 (q.map (cI .i64)) then (bif aH 5 (r.map aB) then true else false) else false) else false)).trans u2) ?_)))));exact ih _ _ _ _
   refine .bd (fx (e:=3) (es:=1)) λa0=>.s (iA a0) (.st (v:=(tp [(iA ((getM a a0).getD 0)),(bA ((getM a a0).isSome))])) (Ib (vt:=3) (f:=iA) (l:=a) (z:=0) (v:=Value.int .i64 0) r7 rfl r7 rfl) (.s (iA ((getM a a0).getD 0)) (.s (bA ((getM a a0).isSome)) (.bg (λt (y:Bool)=>∃ b4 b5 b6 b7 b8 b9:A,t=[(bA y),b4,b5,b6,b7,b8,b9]) ?_ ?_))))
   ·refine .bi ?_ ?_
    ·exact .bd (g:=λ(y:Nat)=>A.ep 2 y 0) (dU (e:=3) (es:=1) (l:=i) r7 r7 rfl) λbw=>.bd (g:=λ(y:Int)=>(iA y)) (jZ (es:=1) (n:=1) (l:=i) r7 (by decide) (λ_=>rfl) (by decide) rfl (λ_=>r7)) λbz=>.st (aO ..) (.lg ⟨_,_,_,_,_,_,rfl⟩)
    exact .lg ⟨_,_,_,_,_,_,rfl⟩
   rintro _ c0 ⟨b4,b5,b6,b7,b8,b9,rfl⟩
   refine .u4 (.uc (.uc (.uc (.cu ?_ ?_))))
   ·refine .bd (fx (e:=3) (es:=1)) λa5=>.s (iA a5) (.st (v:=[bx (aq c),d,aA.row true 1 (i.map (cI .i64)),mW .i64 iA (jM a a5 0),aA.row false 1 (j.map (cI .i64)),bx (aB k)]) (zh (vt:=3) (f:=iA) (l:=a) (x:=0) r7 rfl r7) (.s (im [[(iA h)]] true) (.bd (g:=λ(y:List Int)=>((bD 4 0 y.length false),[bx (aq c),d,aA.row true 1 (i.map (cI .i64)),mW .i64 iA (jM a a5 0),aA.row false 1 (y.map (cI .i64)),bx (aB k)])) (cC pW (l:=j) (l2:=[h]) (b:=4) rfl (by decide) (bM (f:=(cI .i64)) ([h]:List Int) _ _)) λbn=>.st (aF ..) (.st (v:=[bx (aq c),d,aA.row true 1 (i.map (cI .i64)),mW .i64 iA (jM a a5 0),aA.row false 1 (bn.map (cI .i64))]) (de r7 (by simp only[uB,df,eu,qae,qaq,Nat.reduceAdd,dg,Nat.reduceLT,qam,a1])) (.cT ((by kernel_rfl:_=(bif aH 5 (p.map (cI .i64)) then (bif aH 5 (q.map (cI .i64)) then (bif aH 5 (r.map aB) then true else false) else false) else false)).trans u2) ?_)))));exact ih _ _ _ _
   refine .bd (fx (e:=3) (es:=1)) λa6=>.s (iA a6) (.bd (g:=λ(y:Nat)=>A.ep 2 y 0) (dU (e:=3) (es:=1) (l:=i) r7 r7 rfl) λc1=>.bd (g:=λ(y:Int)=>(iA y)) (jZ (es:=1) (n:=1) (l:=i) r7 (by decide) (λ_=>rfl) (by decide) rfl (λ_=>r7)) λa7=>.st (v:=[bx (aq c),d,aA.row true 1 (i.map (cI .i64)),mW .i64 iA (jM a a6 a7),aA.row false 1 (j.map (cI .i64)),bx (aB k)]) (zh (vt:=3) (f:=iA) (l:=a) (x:=a7) r7 rfl r7) (.s (im [[(iA h)]] true) (.bd (g:=λ(y:List Int)=>((bD 4 0 y.length false),[bx (aq c),d,aA.row true 1 (i.map (cI .i64)),mW .i64 iA (jM a a6 a7),aA.row false 1 (y.map (cI .i64)),bx (aB k)])) (cC pW (l:=j) (l2:=[h]) (b:=4) rfl (by decide) (bM (f:=(cI .i64)) ([h]:List Int) _ _)) λbo=>.st (aF ..) (.st (v:=[bx (aq c),d,aA.row true 1 (i.map (cI .i64)),mW .i64 iA (jM a a6 a7),aA.row false 1 (bo.map (cI .i64))]) (de r7 (by simp only[uB,df,eu,qae,qaq,Nat.reduceAdd,dg,Nat.reduceLT,qam,a1])) (.cT ((by kernel_rfl:_=(bif aH 5 (p.map (cI .i64)) then (bif aH 5 (q.map (cI .i64)) then (bif aH 5 (r.map aB) then true else false) else false) else false)).trans u2) ?_)))));exact ih _ _ _ _
  exact .ex (x0 _ _ _ _ _ _ _)
def lC (n:Nat) (c:(List Int)) (k:Int) (d:Nat) (l:Nat) (g:(List aR)) (h:Int) (i:ay) (o:(List aC)) (p:(List (Int×Int))) (q:Int) (e:(List Int)) (f:(List (Int×Int))):Nat->Int->(List aR)->Option ((List aR))
 | 0,_,_=>none
 | m+1,b,j=>bif (decide (b<h)) then ((bG g b).bind λa=>(bif (decide (0<((a.Cues.length:Int)))) then ((bG a.Cues 0).bind λr=>some (r.Bar==i.Bar)) else (some false)).bind λs=>bif s then ((gv a.Cues 1 ((a.Cues.length:Int))).bind λt=>(gO d b).bind λu=>(e[u]?).bind λv=>(Lb a.Got v).bind λw=>(bG c b).bind λx=>(Lb a.Did ((getM f x).getD 0)).bind λy=>(cU 72 j ([(aR.mk t w y)])).bind λz=>lC n c k d l g h i o p q e f m (wr .i64 (b+1)) z) else ((gO d b).bind λa0=>(e[a0]?).bind λa1=>(Lb a.Got a1).bind λa2=>(bG c b).bind λa3=>(Lb a.Did ((getM f a3).getD 0)).bind λa4=>(cU 72 j ([(aR.mk a.Cues a2 a4)])).bind λa5=>lC n c k d l g h i o p q e f m (wr .i64 (b+1)) a5)) else (some j)
theorem Gc (r:FQ C) {k:aA} (ae:aA.under 6 k=true) (u:(List Int)) (af:Int) (ah:Nat) (a6:Nat) (w:(List aR)) (ai:Int) (j:ay) (o:(List aC)) (p:(List (Int×Int))) (q:Int) (h:(List Int)) (d:(List (Int×Int))) {K:((List aR))->Option γ} (x0:∀ (o0:(List aR)) (s2:A) (s7:A) (an:A) (ao:A) (ap:A) (ar:A) (aw:A),J φ (kx 6 (St.mk [(2,s2),(3,(pt 0 0)),(6,(pt 1 0)),(7,s7),(14,an),(15,ao),(16,(bD 4 0 a6 false)),(162,ap),(163,ar),(164,aw)] [bx (aq j),bx [(im (o.map al) false),(im (p.map au) false),(bD 5 0 o0.length false),(iA q)],aA.row true 1 (h.map (cI .i64)),mW .i64 iA d,k,aA.row false 3 (o0.map aB)])) kL (K o0) some) :
  ∀ (m:Nat) (a8:Int) (i:(List aR)),J φ (aI (cx C) (ec C n 8) (ey C n 8) (n+8) 19 0 3 6 kx kg kr kp m (St.mk [(2,(im (u.map (cI .i64)) false)),(3,(pt 0 0)),(6,(pt 1 0)),(7,(iA af)),(14,(bD 2 0 ah false)),(15,(A.mr 3)),(16,(bD 4 0 a6 false)),(162,(im (w.map aB) false)),(163,(iA ai)),(164,(iA a8))] [bx (aq j),(yQ o p i q),aA.row true 1 (h.map (cI .i64)),mW .i64 iA d,k,aA.row false 3 (i.map aB)])) kL (lC n u af ah a6 w ai j o p q h d m a8 i) K:=by
  refine nI (λ_ _=>.nn) λm ih a8 i=>.lp (Pj ..) ?_;unfold lC;refine .st (aZ ..) (.cu ?_ ?_)
  ·refine .bd (fx (e:=55) (es:=3)) λc=>.s (ag (aB c)) (.sq (pt 6 0) (.s [bx (aq j),(yQ o p i q),aA.row true 1 (h.map (cI .i64)),mW .i64 iA d,k,aA.row false 3 (i.map aB),bx (aB c)] (.s2 (im (c.Cues.map av) false) (.st (eS (e:=30)) (.st (eZ ..) (.ZE (.bg (λt (y:Bool)=>∃ aj:A,t=[(bA y),aj]) ?_ ?_)))))))
   ·refine .Hp (λa9=>?_) (λa9=>?_)
    ·exact .bb (.bd (fx (e:=30) (es:=4)) λaa=>.s (A.ip [(iA aa.Bar),(iA aa.Program)]) (.s (iA aa.Bar) (.s (pt 0 3) (.s (iA j.Bar) (.cr (.u4 (.uc (.uc (.sj a9 (.st (aX ..) (.lg ⟨_,rfl⟩)))))))))))
    exact .bb (.cr (.u4 (.uc (.uc (.tK a9 (.lg ⟨_,rfl⟩))))))
   rintro _ b0 ⟨aj,rfl⟩
   refine .uc (.uc (.cu ?_ ?_))
   ·refine .bd (mw (e:=30) (es:=4) (f:=av) (l:=c.Cues) (a:=1) (b:=(c.Cues.length:Int)) r7 r7 (λ_=>rfl) (.inr ⟨_,rfl⟩) (.inl ⟨rfl,rfl⟩)) λx=>.s2 (bD 5 0 i.length false) (.s2 (im (c.Got.map (cI .i64)) false) (.bd (g:=λ(y:Nat)=>A.ep 2 y 0) (dU (e:=3) (es:=1) (l:=h) r7 r7 rfl) λb1=>.bd (g:=λ(y:Int)=>(iA y)) (jZ (es:=1) (n:=1) (l:=h) r7 (by decide) (λ_=>rfl) (by decide) rfl (λ_=>r7)) λax=>.bd (g:=λ(y:(List Int))=>(im (y.map (cI .i64)) false)) (by simp only[cP,fo]; exact r c.Got ax) λa0=>.s2 (im (c.Did.map (cI .i64)) false) (.bd (fx (e:=3) (es:=1)) λab=>.s (iA ab) (.st (v:=(iA ((getM d ab).getD 0))) (DW (vt:=3) (f:=iA) (l:=d) (z:=0) (v:=Value.int .i64 0) r7 rfl r7 rfl) (.bd (g:=λ(y:(List Int))=>(im (y.map (cI .i64)) false)) (by simp only[cP,fo]; exact r c.Did ((getM d ab).getD 0)) λa1=>.s (ag [(im (x.map av) false),(im (a0.map (cI .i64)) false),(im (a1.map (cI .i64)) false)]) (.s (im [[(im (x.map av) false),(im (a0.map (cI .i64)) false),(im (a1.map (cI .i64)) false)]] true) (.bd (g:=λ(y:List aR)=>((bD 5 0 y.length false),[bx (aq j),(yQ o p i q),aA.row true 1 (h.map (cI .i64)),mW .i64 iA d,k,aA.row false 3 (y.map aB),bx (aB c)])) (cC Dn (l:=i) (l2:=[(aR.mk x a0 a1)]) (b:=5) rfl (by decide) (bM (f:=aB) ([(aR.mk x a0 a1)]:List aR) _ _)) λa2=>.s (pt 1 2) (.s [bx (aq j),bx [(im (o.map al) false),(im (p.map au) false),(bD 5 0 a2.length false),(iA q)],aA.row true 1 (h.map (cI .i64)),mW .i64 iA d,k,aA.row false 3 (a2.map aB),bx (aB c)] (.st (aF ..) ?_)))))))));refine .st (v:=[bx (aq j),bx [(im (o.map al) false),(im (p.map au) false),(bD 5 0 a2.length false),(iA q)],aA.row true 1 (h.map (cI .i64)),mW .i64 iA d,k,aA.row false 3 (a2.map aB)]) (de r7 (by simp only[uB,df,eu,qae,qaq,Nat.reduceAdd,dg,Nat.reduceLT,qam,ae])) (.cT ((by kernel_rfl:_=(bif aH 6 (u.map (cI .i64)) then (bif aH 6 (w.map aB) then true else false) else false)).trans u2) ?_);exact ih _ _
   refine .s2 (bD 5 0 i.length false) (.s2 (im (c.Got.map (cI .i64)) false) (.bd (g:=λ(y:Nat)=>A.ep 2 y 0) (dU (e:=3) (es:=1) (l:=h) r7 r7 rfl) λb2=>.bd (g:=λ(y:Int)=>(iA y)) (jZ (es:=1) (n:=1) (l:=h) r7 (by decide) (λ_=>rfl) (by decide) rfl (λ_=>r7)) λaz=>.bd (g:=λ(y:(List Int))=>(im (y.map (cI .i64)) false)) (by simp only[cP,fo]; exact r c.Got az) λa3=>.s2 (im (c.Did.map (cI .i64)) false) (.bd (fx (e:=3) (es:=1)) λad=>.s (iA ad) (.st (v:=(iA ((getM d ad).getD 0))) (DW (vt:=3) (f:=iA) (l:=d) (z:=0) (v:=Value.int .i64 0) r7 rfl r7 rfl) (.bd (g:=λ(y:(List Int))=>(im (y.map (cI .i64)) false)) (by simp only[cP,fo]; exact r c.Did ((getM d ad).getD 0)) λa4=>.s (ag [(im (c.Cues.map av) false),(im (a3.map (cI .i64)) false),(im (a4.map (cI .i64)) false)]) (.s (im [[(im (c.Cues.map av) false),(im (a3.map (cI .i64)) false),(im (a4.map (cI .i64)) false)]] true) (.bd (g:=λ(y:List aR)=>((bD 5 0 y.length false),[bx (aq j),(yQ o p i q),aA.row true 1 (h.map (cI .i64)),mW .i64 iA d,k,aA.row false 3 (y.map aB),bx (aB c)])) (cC Dn (l:=i) (l2:=[(aR.mk c.Cues a3 a4)]) (b:=5) rfl (by decide) (bM (f:=aB) ([(aR.mk c.Cues a3 a4)]:List aR) _ _)) λa5=>.s (pt 1 2) (.s [bx (aq j),bx [(im (o.map al) false),(im (p.map au) false),(bD 5 0 a5.length false),(iA q)],aA.row true 1 (h.map (cI .i64)),mW .i64 iA d,k,aA.row false 3 (a5.map aB),bx (aB c)] (.st (aF ..) ?_)))))))));refine .st (v:=[bx (aq j),bx [(im (o.map al) false),(im (p.map au) false),(bD 5 0 a5.length false),(iA q)],aA.row true 1 (h.map (cI .i64)),mW .i64 iA d,k,aA.row false 3 (a5.map aB)]) (de r7 (by simp only[uB,df,eu,qae,qaq,Nat.reduceAdd,dg,Nat.reduceLT,qam,ae])) (.cT ((by kernel_rfl:_=(bif aH 6 (u.map (cI .i64)) then (bif aH 6 (w.map aB) then true else false) else false)).trans u2) ?_);exact ih _ _
  exact .ex (x0 _ _ _ _ _ _ _ _)
def lD (n:Nat) (l:ay) (e:Int) (c:Int) (o:(List Int)) (p:Int) (q:Int) (f:(List Int)) (g:Int) (r:Nat) (s:Int) (t:(List aC)) (u:(List (Int×Int))) (v:(List aR)) (w:Int) (x:Int):Nat->Int->(List aC)->(List (Int×Int))->Option ((Int)⊕((List aC)×(List (Int×Int))))
 | 0,_,_,_=>none
 | m+1,b,h,i=>bif (decide (b<g)) then ((bG f b).bind λy=>bif (decide (e<=b)) then ((some c).bind λz=>(some (wr .i64 (z+1))).bind λa0=>(some ((c,b,y))).bind λj=>(some ((2,0,0,0,0,j.1,j.2.1,j.2.2))).bind λa=>((Jj ((aQ.mk a.1 ((aE.mk a.2.1 a.2.2.1 a.2.2.2.1 a.2.2.2.2.1)) ((bH.mk a.2.2.2.2.2.1 a.2.2.2.2.2.2.1 a.2.2.2.2.2.2.2))))).bind λa1=>some a1).bind λa2=>(some ((a0,0,a2))).bind λk=>(I6 ((aP.mk h i)) ((aC.mk k.1 k.2.1 k.2.2))).bind λd=>bif (d.2 != 0) then ((some (())).bind λa3=>some ((Sum.inl d.2))) else ((some (())).bind λa4=>lD n l e c o p q f g r s t u v w x m (wr .i64 (b+1)) d.1.Queue d.1.Apart)) else ((some (())).bind λa5=>(some (())).bind λa6=>(some (())).bind λa7=>(some (())).bind λa8=>(some (())).bind λa9=>(some (())).bind λaa=>(some (())).bind λab=>lD n l e c o p q f g r s t u v w x m (wr .i64 (b+1)) h i)) else (some ((Sum.inr ((h,i)))))
theorem Gf (az:rk C) (b0:tj C) {j k l o p q:aA} (ai:aA.under 10 j=true) (aj:aA.under 10 k=true) (ak:aA.under 10 l=true) (am:aA.under 10 o=true) (an:aA.under 10 p=true) (ao:aA.under 10 q=true) (a3:ay) (a6:Int) (a1:Int) (a5:(List Int)) (a8:Int) (a9:Int) (aa:(List Int)) (ap:Int) (r:Nat) (u:Int) (d:(List aC)) (f:(List (Int×Int))) (h:(List aR)) (i:Int) (z:Int) {K:((Int)⊕((List aC)×(List (Int×Int))))->Option γ} (x0:∀ (o0:Int) (s6:A) (ad:A) (ae:A) (af:A) (q6:aA) (b3:aA) (b4:aA) (b5:aA),J φ (kr (St.mk [(0,(A.yld 9)),(2,(A.ip (aq a3))),(3,(A.ip [(iA a6)])),(6,s6),(10,(im (a5.map (cI .i64)) false)),(11,(iA a8)),(12,(iA a9)),(21,ad),(22,ae),(23,af)] [j,k,l,o,p,q,q6,(b9 d f h i),bx [(iA o0)],aA.rng (ku.done Lf.ret),b3,b4,b5])) kL (K (Sum.inl o0)) some) (x1:∀ (o0:(List aC)) (o1:(List (Int×Int))) (s6:A) (ad:A) (ae:A) (af:A),J φ (kx 2 (St.mk [(0,(A.yld 9)),(2,(A.ip (aq a3))),(3,(A.ip [(iA a6)])),(6,s6),(10,(im (a5.map (cI .i64)) false)),(11,(iA a8)),(12,(iA a9)),(21,ad),(22,ae),(23,af)] [j,k,l,o,p,q,bx [(im (o0.map al) false),(im (o1.map au) false),(bD 5 0 r false),(iA u)],(b9 d f h i),bx [(iA z)],aA.rng ku.ready])) kL (K (Sum.inr ((o0,o1)))) some) :
  ∀ (m:Nat) (a0:Int) (w:(List aC)) (x:(List (Int×Int))),J φ (aI (cx C) (bz (cx C) (n+6) (wV 130 (dH (cx C) (n+7)) 9 (sW (cx C) (ec C n 7) (ey C n 7) (n+7) 50 6 0 9 [(2,(pt 6 0)),(4,(pt 7 0)),(5,(pt 8 0))]))) (bz (cx C) (n+6)) (n+6) 78 6 1 10 kx kg kr kp m (St.mk [(0,(A.yld 9)),(2,(A.ip (aq a3))),(3,(A.ip [(iA a6)])),(6,(iA a1)),(10,(im (a5.map (cI .i64)) false)),(11,(iA a8)),(12,(iA a9)),(21,(im (aa.map (cI .i64)) false)),(22,(iA ap)),(23,(iA a0))] [j,k,l,o,p,q,(lV w x r u),(b9 d f h i),bx [(iA z)],aA.rng ku.ready])) kL (lD n a3 a6 a1 a5 a8 a9 aa ap r u d f h i z m a0 w x) K:=by
  refine nI (λ_ _ _=>.nn) λm ih a0 w x=>.lp (LJ ..) ?_;unfold lD;refine .st (aZ ..) (.cu ?_ ?_)
  ·refine .bd (fx (e:=3) (es:=1)) λa2=>.s (iA a2) (.s (ag [(iA a1),(iA a0),(iA a2)]) (.s ((pt 10 0),[j,k,l,o,p,q,(lV w x r u),(b9 d f h i),bx [(iA z)],aA.rng ku.ready,bx [(iA 0),(iA 0),(iA 0)]]) (.s [j,k,l,o,p,q,(lV w x r u),(b9 d f h i),bx [(iA z)],aA.rng ku.ready,bx [(iA a1),(iA a0),(iA a2)]] (.s (iA a6) (.st (dD ..) (.Hp (λb=>?_) (λb=>?_)))))))
   ·refine .bb (.cr (.bg (λt (y:Int) =>  t=(iA y)) ?_ ?_))
    ·exact .lp (cX b) (.lg rfl)
    rintro _ ba rfl
    refine .bg (λt (y:Int) =>  t=(iA y)) ?_ ?_
    ·exact .lp (cX b) (.st (aF ..) (.lg rfl))
    rintro _ b7 rfl
    refine .bg (λt (y:Int×Int×Int) =>  t=(ag [(iA y.1),(iA y.2.1),(iA y.2.2)])) ?_ ?_
    ·exact .lp (cX b) (.s (ag [(iA a1),(iA a0),(iA a2)]) (.lg rfl))
    rintro _ ah rfl
    refine .bg (λt (y:Int×Int×Int×Int×Int×Int×Int×Int) =>  t=(ag [(iA y.1),(iA y.2.1),(iA y.2.2.1),(iA y.2.2.2.1),(iA y.2.2.2.2.1),(iA y.2.2.2.2.2.1),(iA y.2.2.2.2.2.2.1),(iA y.2.2.2.2.2.2.2)])) ?_ ?_
    ·exact .lp (cX b) (.s (ag [(iA 2),(iA 0),(iA 0),(iA 0),(iA 0),(iA ah.1),(iA ah.2.1),(iA ah.2.2)]) (.lg rfl))
    rintro _ a4 rfl
    refine .bg (λt (y:(List UInt8)) =>  t=(im (y.map c8) false)) ?_ ?_
    ·exact .lp (cX b) (.bd (b0 ((aQ.mk a4.1 ((aE.mk a4.2.1 a4.2.2.1 a4.2.2.2.1 a4.2.2.2.2.1)) ((bH.mk a4.2.2.2.2.2.1 a4.2.2.2.2.2.2.1 a4.2.2.2.2.2.2.2))))) λbc=>.lg rfl)
    rintro _ b8 rfl
    refine .bg (λt (y:Int×Int×(List UInt8)) =>  t=(ag [(iA y.1),(iA y.2.1),(im (y.2.2.map c8) false)])) ?_ ?_
    ·exact .lp (cX b) (.s (ag [(iA b7),(iA 0),(im (b8.map c8) false)]) (.lg rfl))
    rintro _ a rfl
    refine .lp (cX b) (.dY rfl (.cl (yq.trans (Er.trans (G2 C (ec C n 7) (ey C n 7) (n+7) _ _ _ _ _ _ _ _))) (.cT r7 (.lp (zx rfl) (.s ((pt 11 0),[j,k,l,o,p,q,(lV w x r u),(b9 d f h i),bx [(iA z)],aA.rng ku.ready,bx [(iA a1),(iA a0),(iA a2)],bx [(iA 0),(iA 0),Z5]]) (.s [j,k,l,o,p,q,(lV w x r u),(b9 d f h i),bx [(iA z)],aA.rng ku.ready,bx [(iA a1),(iA a0),(iA a2)],bx [(iA a.1),(iA a.2.1),(im (a.2.2.map c8) false)]] (.lp (zx rfl) (.s2 (ag [(im (w.map al) false),(im (x.map au) false)]) (.s (ag [(iA a.1),(iA a.2.1),(im (a.2.2.map c8) false)]) (.bd (g:=λ(y:(aP×Int))=>(tp [(ag [(im (y.1.Queue.map al) false),(im (y.1.Apart.map au) false)]),(iA y.2)])) (by simp only[cP,fo]; exact az ((aP.mk w x)) ((aC.mk a.1 a.2.1 a.2.2))) λc=>.s (ag [(im (c.1.Queue.map al) false),(im (c.1.Apart.map au) false)]) (.s (iA c.2) (.s ((pt 12 0),[j,k,l,o,p,q,(lV w x r u),(b9 d f h i),bx [(iA z)],aA.rng ku.busy,bx [(iA a1),(iA a0),(iA a2)],bx [(iA a.1),(iA a.2.1),(im (a.2.2.map c8) false)],bx [Z5,Z5]]) (.s [j,k,l,o,p,q,(lV w x r u),(b9 d f h i),bx [(iA z)],aA.rng ku.busy,bx [(iA a1),(iA a0),(iA a2)],bx [(iA a.1),(iA a.2.1),(im (a.2.2.map c8) false)],bx [(im (c.1.Queue.map al) false),(im (c.1.Apart.map au) false)]] (.st (aO ..) (.cu ?_ ?_)))))))))))))))
    ·refine .s (ag [(im (d.map al) true),(im (f.map au) true),(im (h.map aB) true),(iA i)]) (.s [j,k,l,o,p,q,(lV w x r u),(b9 d f h i),bx [(iA z)],aA.rng ku.busy,bx [(iA a1),(iA a0),(iA a2)],bx [(iA a.1),(iA a.2.1),(im (a.2.2.map c8) false)],bx [(im (c.1.Queue.map al) false),(im (c.1.Apart.map au) false)]] (.s [j,k,l,o,p,q,(lV w x r u),(b9 d f h i),bx [(iA c.2)],aA.rng ku.busy,bx [(iA a1),(iA a0),(iA a2)],bx [(iA a.1),(iA a.2.1),(im (a.2.2.map c8) false)],bx [(im (c.1.Queue.map al) false),(im (c.1.Apart.map au) false)]] (.lp (yr rfl) (.cr (.ok (.bg (λt (y:Unit)=>∃ av:A,t=[(bA true),av]) ?_ ?_))))))
     ·exact .sj b (.s (bA true) (.lg ⟨_,rfl⟩))
     rintro _ be ⟨av,rfl⟩
     exact .uc (.uc (.N0 (.ex (x0 _ _ _ _ _ _ _ _ _))))
    refine .s (ag [(im (c.1.Queue.map al) false),(im (c.1.Apart.map au) false)]) (.s (pt 6 0) (.s [j,k,l,o,p,q,bx [(im (c.1.Queue.map al) false),(im (c.1.Apart.map au) false),(bD 5 0 r false),(iA u)],(b9 d f h i),bx [(iA z)],aA.rng ku.busy,bx [(iA a1),(iA a0),(iA a2)],bx [(iA a.1),(iA a.2.1),(im (a.2.2.map c8) false)],bx [(im (c.1.Queue.map al) false),(im (c.1.Apart.map au) false)]] (.lp (yr rfl) (.cr (.ok (.bg (λt (y:Unit)=>∃ aw:A,t=[(bA false),aw]) ?_ ?_))))))
    ·exact .sj b (.s (bA false) (.lg ⟨_,rfl⟩))
    rintro _ bf ⟨aw,rfl⟩
    refine .uc (.uc (.MF (.st (aF ..) (.st (v:=[j,k,l,o,p,q,bx [(im (c.1.Queue.map al) false),(im (c.1.Apart.map au) false),(bD 5 0 r false),(iA u)],(b9 d f h i),bx [(iA z)],aA.rng ku.ready]) (de r7 (by simp only[uB,df,qae,qaq,Nat.reduceAdd,dg,Nat.reduceLT,qam,ao,an,am,ak,aj,ai,b9])) (.cT ((by kernel_rfl:_=(bif ((aH 10 (a3.Net.Queue.map al))&&((aH 10 (a3.Net.Apart.map au))&&((aH 10 (a3.Ears.map aB))&&true))) then (bif aH 10 (a5.map (cI .i64)) then (bif aH 10 (aa.map (cI .i64)) then true else false) else false) else false)).trans u2) ?_)))));exact ih _ _ _
   refine .bb (.cr (.bg (λt (y:Unit) =>  t=(A.v undef)) ?_ ?_))
   ·exact .lp (cW b) (.lg rfl)
   rintro _ bh rfl
   refine .bg (λt (y:Unit) =>  t=(A.v undef)) ?_ ?_
   ·exact .lp (cW b) (.lg rfl)
   rintro _ bi rfl
   refine .bg (λt (y:Unit) =>  t=(A.v undef)) ?_ ?_
   ·exact .lp (cW b) (.lg rfl)
   rintro _ bj rfl
   refine .bg (λt (y:Unit) =>  t=(A.v undef)) ?_ ?_
   ·exact .lp (cW b) (.lg rfl)
   rintro _ bk rfl
   refine .bg (λt (y:Unit) =>  t=(A.v undef)) ?_ ?_
   ·exact .lp (cW b) (.lg rfl)
   rintro _ bl rfl
   refine .bg (λt (y:Unit) =>  t=(A.v undef)) ?_ ?_
   ·exact .lp (cW b) (.lg rfl)
   rintro _ bm rfl
   refine .lp (cW b) (.bg (λt (y:Unit)=>∃ ax:A,t=[(bA false),ax]) ?_ ?_)
   ·exact .tK b (.lg ⟨_,rfl⟩)
   rintro _ bn ⟨ax,rfl⟩
   refine .uc (.uc (.MF (.st (aF ..) (.st (v:=[j,k,l,o,p,q,(lV w x r u),(b9 d f h i),bx [(iA z)],aA.rng ku.ready]) (de r7 (by simp only[uB,df,qae,qaq,Nat.reduceAdd,dg,Nat.reduceLT,qam,ao,an,am,ak,aj,ai,b9,lV])) (.cT ((by kernel_rfl:_=(bif ((aH 10 (a3.Net.Queue.map al))&&((aH 10 (a3.Net.Apart.map au))&&((aH 10 (a3.Ears.map aB))&&true))) then (bif aH 10 (a5.map (cI .i64)) then (bif aH 10 (aa.map (cI .i64)) then true else false) else false) else false)).trans u2) ?_)))));exact ih _ _ _
  exact .ex (x1 _ _ _ _ _ _)
def nc (n:Nat) (b:ay) (e:Int) (c:(List Int)) (d:Int) (f:Nat) (g:Int) (h:(List aC)) (i:(List (Int×Int))) (j:(List aR)) (k:Int) (l:Int):Nat->Int->(List aC)->(List (Int×Int))->Option ((Int)⊕((List aC)×(List (Int×Int))))
 | 0,_,_,_=>none
 | m+1,a,o,p=>bif (decide (a<d)) then ((bG c a).bind λq=>(bG b.Ears q).bind λr=>(lD n b e q c d a r.Did ((r.Did.length:Int)) f g h i j k l (n+6) 0 o p).bind λs=>match s with | (Sum.inl t)=>some ((Sum.inl t)) | (Sum.inr ((u,v)))=>nc n b e c d f g h i j k l m (wr .i64 (a+1)) u v) else (some ((Sum.inr ((o,p)))))
theorem Ge (a7:rk C) (a8:tj C) {f g h i j k:aA} (a9:aA.under 10 f=true) (aa:aA.under 10 g=true) (ab:aA.under 10 h=true) (ad:aA.under 10 i=true) (ae:aA.under 10 j=true) (af:aA.under 10 k=true) (r:ay) (w:Int) (x:(List Int)) (y:Int) (l:Nat) (o:Int) (a:(List aC)) (b:(List (Int×Int))) (c:(List aR)) (d:Int) (p:Int) {K:((Int)⊕((List aC)×(List (Int×Int))))->Option γ} (x0:∀ (q:Int) (z:A) (s2:A) (s3:A) (a1:A) (a2:A) (a3:A) (q6:aA) (ai:aA) (aj:aA) (ak:aA),J φ (kr (St.mk [(0,z),(2,s2),(3,s3),(10,a1),(11,a2),(12,a3)] [f,g,h,i,j,k,q6,(b9 a b c d),bx [(iA q)],aA.rng (ku.done Lf.ret),ai,aj,ak])) kL (K (Sum.inl q)) some) (x1:∀ (q:(List aC)) (o1:(List (Int×Int))) (z:A) (s2:A) (s3:A) (a1:A) (a2:A) (a3:A),J φ (kx 0 (St.mk [(0,z),(2,s2),(3,s3),(10,a1),(11,a2),(12,a3)] [f,g,h,i,j,k,bx [(im (q.map al) false),(im (o1.map au) false),(bD 5 0 l false),(iA o)],(b9 a b c d),bx [(iA p)],aA.rng ku.ready])) kL (K (Sum.inr ((q,o1)))) some) :
  ∀ (m:Nat) (t:Int) (u:(List aC)) (v:(List (Int×Int))),J φ (aI (cx C) (bz (cx C) (n+6) (wV 130 (dH (cx C) (n+7)) 9 (sW (cx C) (ec C n 7) (ey C n 7) (n+7) 50 6 0 9 [(2,(pt 6 0)),(4,(pt 7 0)),(5,(pt 8 0))]))) (bz (cx C) (n+6)) (n+6) 78 6 0 10 kx kg kr kp m (St.mk [(0,(A.yld 9)),(2,(A.ip (aq r))),(3,(A.ip [(iA w)])),(10,(im (x.map (cI .i64)) false)),(11,(iA y)),(12,(iA t))] [f,g,h,i,j,k,bx [(im (u.map al) false),(im (v.map au) false),(bD 5 0 l false),(iA o)],(b9 a b c d),bx [(iA p)],aA.rng ku.ready])) kL (nc n r w x y l o a b c d p m t u v) K:=by
  refine nI (λ_ _ _=>.nn) λm ih t u v=>.lp (LI ..) ?_;unfold nc;refine .st (aZ ..) (.cu ?_ ?_)
  ·refine .bd (fx (e:=3) (es:=1)) λa6=>.s (iA a6) (.s2 (im (r.Ears.map aB) false) (.bd (fx (e:=55) (es:=3)) λa4=>.s2 (im (a4.Did.map (cI .i64)) false) (.st (eS (e:=3)) (.as (Gf C n _ _ _ _ a7 a8 a9 aa ab ad ae af r w a6 x y t a4.Did ((a4.Did.length:Int)) l o a b c d p ?_ ?_ _ 0 u v)))))
   ·intro ap ar av aw ax az b0 b1 b2;exact .un rfl (.ex (x0 _ _ _ _ _ _ _ _ _ _ _))
   ·intro an ao b3 b4 b5 b6;refine .un rfl (.cT r7 (.st (aF ..) (.s [f,g,h,i,j,k,bx [(im (an.map al) false),(im (ao.map au) false),(bD 5 0 l false),(iA o)],(b9 a b c d),bx [(iA p)],aA.rng ku.ready] (.cT r7 ?_))));exact ih _ _ _
  exact .ex (x1 _ _ _ _ _ _ _ _)
def Q9 (n:Nat) (a0:ay) (a1:(List Int)) (a2:(List Int)):Option (ay×Int):=
 (Fv a0).bind λa=>bif (a != 0) then (some (((ay.mk ((aP.mk ([]) ([]))) ([]) 0),a))) else ((mZ n ((a0.Ears.length:Int)) a1 ((a1.length:Int)) ([]) ([]) ([]) 0 (n+8) (-1) 0).bind λf=>match f with | (Sum.inl g)=>some (((ay.mk ((aP.mk ([]) ([]))) ([]) 0),g)) | (Sum.inr _)=>bif (((a2.length:Int)) != ((a0.Ears.length:Int))) then (some (((ay.mk ((aP.mk ([]) ([]))) ([]) 0),1))) else ((na n a2 a2 ((a2.length:Int)) ([]) ([]) ([]) 0 (n+8) 0).bind λh=>match h with | (Sum.inl i)=>some (((ay.mk ((aP.mk ([]) ([]))) ([]) 0),i)) | (Sum.inr _)=>bif (a0.Bar==4096) then (some (((ay.mk ((aP.mk ([]) ([]))) ([]) 0),2))) else ((BE 8 ((a0.Ears.length:Int)) 0).bind λc=>(jq n a1 a2 a c.length a0.Ears ((a0.Ears.length:Int)) a0 (n+8) 0 c (([]:List (Int×Int))) (([]:List Int))).bind λj=>match j with | (k,l,e)=>(lC n a2 a c.length e.length a0.Ears ((a0.Ears.length:Int)) a0 a0.Net.Queue a0.Net.Apart (wr .i64 (a0.Bar+1)) k l (n+8) 0 (([]:List aR))).bind λo=>match o with | d=>(NV ((ay.mk a0.Net d (wr .i64 (a0.Bar+1)))) a0.Bar e).bind λb=>(nc n b.2.1 b.2.2 b.1 ((b.1.length:Int)) d.length (wr .i64 (a0.Bar+1)) ([]) ([]) ([]) 0 0 (n+6) 0 a0.Net.Queue a0.Net.Apart).bind λp=>match p with | (Sum.inl q)=>some (((ay.mk ((aP.mk ([]) ([]))) ([]) 0),q)) | (Sum.inr ((r,s)))=>some (((ay.mk ((aP.mk r s)) d (wr .i64 (a0.Bar+1))),0)))))
theorem XA (C:OT) (n:Nat) (t:ri C) (u:rk C) (w:tj C) (q:oP C) (x:FP C) (a3:FQ C) (a4:FR C) (a0:ay) (a1:(List Int)) (a2:(List Int)):TJ C n 19 [(ag (aq a0)),(im (a1.map (cI .i64)) false),(im (a2.map (cI .i64)) false)] (Q9 n a0 a1 a2) (λy=>(tp [(ag (aq y.1)),(iA y.2)])):=by
 refine .lp (Yo ..) ?_;unfold Q9;refine .s ((pt 0 0),[bx (aq a0)]) (.s ((pt 1 0),[bx (aq a0),bx [Z5,Z5,Z5,(iA 0)]]) (.s (ag (aq a0)) (.bd (g:=λ(y:Int)=>(iA y)) (by simp only[cP,fo]; exact t a0) λr=>.st (aO ..) (.cu ?_ ?_))))
 ·exact .s dX (.s [bx (aq a0),bx [Z5,Z5,Z5,(iA 0)]] (.s dX (.lv so)))
 refine .s2 (im (a0.Ears.map aB) false) (.st (eS (e:=55)) (.st (eS (e:=3)) (.as (F8 C n _ _ _ _ q  ((a0.Ears.length:Int)) a1 ((a1.length:Int)) ([]) ([]) ([]) 0 ?_ ?_ _ (-1) 0))))
 ·intro a5 a6 a7 a8 a9 aa ab ad ae;exact .un rfl (.s dX (.lv so))
 ·intro af ah ai aj;refine .un rfl (.cT r7 (.st (eS (e:=3)) (.st (aO ..) (.cu ?_ ?_))))
  ·exact .s dX (.s [bx (aq a0),bx [Z5,Z5,Z5,(iA 0)]] (.s dX (.lv so)))
  refine .st (eS (e:=3)) (.as (Ga C n _ _ _ _ q  a2 a2 ((a2.length:Int)) ([]) ([]) ([]) 0 ?_ ?_ _ 0))
  ·intro ak am an ao ap ar av aw;exact .un rfl (.s dX (.lv so))
  ·intro ax az b0;refine .un rfl (.cT r7 (.s2 (iA a0.Bar) (.st (aX ..) (.cu ?_ ?_))))
   ·exact .s dX (.s [bx (aq a0),bx [Z5,Z5,Z5,(iA 0)]] (.s dX (.lv so)))
   refine .bd (g:=λ(y:List Int)=>((bD 2 0 y.length false),[bx (aq a0),bx [Z5,Z5,Z5,(iA 0)],aA.row true 1 (y.map (cI .i64))])) (ti (e:=3) (es:=1) (f:=(cI .i64)) (z:=0) (z':=[(iA 0)]) r7 r7 r7 r7 rfl (by decide) (λ_=>rfl)) λo=>.s ((A.mr 3),[bx (aq a0),bx [Z5,Z5,Z5,(iA 0)],aA.row true 1 (o.map (cI .i64)),mW .i64 iA (([]:List (Int×Int)))]) (.s2 (im (a0.Ears.map aB) false) (.st (eS (e:=55)) (.as (Gb C n _ _ _ _ x ZS a1 a2 r o.length a0.Ears ((a0.Ears.length:Int)) a0 ?_ _ 0 o (([]:List (Int×Int))) (([]:List Int))))))
   ·intro d h c b1 b2 b3 b4;refine .un rfl (.cT r7 (.s2 (ag [(im (a0.Net.Queue.map al) false),(im (a0.Net.Apart.map au) false)]) (.s2 (iA a0.Bar) (.st (aF ..) (.s (ag [(im (a0.Net.Queue.map al) false),(im (a0.Net.Apart.map au) false),Z5,(iA (wr .i64 (a0.Bar+1)))]) (.s [bx (aq a0),bx [(im (a0.Net.Queue.map al) false),(im (a0.Net.Apart.map au) false),Z5,(iA (wr .i64 (a0.Bar+1)))],aA.row true 1 (d.map (cI .i64)),mW .i64 iA h,aA.row false 1 (c.map (cI .i64))] (.s2 (im (a0.Ears.map aB) false) (.st (eS (e:=55)) (.as (Gc C n _ _ _ _ a3 ZS a2 r o.length c.length a0.Ears ((a0.Ears.length:Int)) a0 a0.Net.Queue a0.Net.Apart (wr .i64 (a0.Bar+1)) d h ?_ _ 0 (([]:List aR))))))))))))
    ·intro a b5 b6 b7 b8 b9 ba bc;refine .un rfl (.cT r7 (.s (ag [(im (a0.Net.Queue.map al) false),(im (a0.Net.Apart.map au) false),(bD 5 0 a.length false),(iA (wr .i64 (a0.Bar+1)))]) (.s (ag [(im (a0.Net.Queue.map al) false),(im (a0.Net.Apart.map au) false),(bD 5 0 a.length false),(iA (wr .i64 (a0.Bar+1)))]) (.s2 (iA a0.Bar) (.bd (g:=λ(y:((List Int)×ay×Int))=>(tz 78 [] [(A.ip [(im (y.1.map (cI .i64)) false)]),(A.ip (aq y.2.1)),(A.ip [(iA y.2.2)])])) (by show C 51 [snap [bx (aq a0),(jd a0 a),aA.row true 1 (d.map (cI .i64)),mW .i64 iA h,aA.row false 1 (c.map (cI .i64)),aA.row false 3 (a.map aB)] (ag [(im (a0.Net.Queue.map al) false),(im (a0.Net.Apart.map au) false),(bD 5 0 a.length false),(iA (wr .i64 (a0.Bar+1)))]),snap _ (iA a0.Bar),snap [bx (aq a0),(jd a0 a),aA.row true 1 (d.map (cI .i64)),mW .i64 iA h,aA.row false 1 (c.map (cI .i64)),aA.row false 3 (a.map aB)] (bD 4 0 c.length false)]=_; simp only[cP,fo,gC (H:=[bx (aq a0),(jd a0 a),aA.row true 1 (d.map (cI .i64)),mW .i64 iA h,aA.row false 1 (c.map (cI .i64)),aA.row false 3 (a.map aB)]) (b:=4) (es:=1) (l:=c) (gI _) rfl,gC (H:=[bx (aq a0),(jd a0 a),aA.row true 1 (d.map (cI .i64)),mW .i64 iA h,aA.row false 1 (c.map (cI .i64)),aA.row false 3 (a.map aB)]) (b:=5) (es:=3) (l:=a) eh rfl]; exact a4 ((ay.mk a0.Net a (wr .i64 (a0.Bar+1)))) a0.Bar c) λk=>.bb (.cl ((bk L4).trans (V3 ..)) (.sq (pt 6 0) (.sq (pt 7 0) (.s ((pt 8 0),[bx (aq a0),(jd a0 a),aA.row true 1 (d.map (cI .i64)),mW .i64 iA h,aA.row false 1 (c.map (cI .i64)),aA.row false 3 (a.map aB),(jd a0 a),bx [Z5,Z5,Z5,(iA 0)],bx [(iA 0)]]) (.s (78,[(A.ip [(im (k.1.map (cI .i64)) false)]),(A.ip (aq k.2.1)),(A.ip [(iA k.2.2)])]) (.cT r7 (.cl ((qH L6).trans (V5 ..)) (.s (im (k.1.map (cI .i64)) false) (.st (eS (e:=3)) (.as (Ge C n _ _ _ _ u w ZS ZS ZS ZS ZS ZS k.2.1 k.2.2 k.1 ((k.1.length:Int)) a.length (wr .i64 (a0.Bar+1)) ([]) ([]) ([]) 0 0 ?_ ?_ _ 0 a0.Net.Queue a0.Net.Apart))))))))))))))))
     ·intro p be bf bg bh bi bj bl bm bn bo;exact .un rfl (.cr (.ok (.lp (QQ rfl) (.s dX (.s (iA p) (.cr (.lp (KQ (L:=6) (v:=(tp [dX,(iA p)])) (by simp only[uB,df,dg,Nat.reduceLT,qam,dX])) (.cr (.s dX (.s (iA p) (.s [bx (aq a0),bx [Z5,Z5,Z5,(iA 0)],aA.row true 1 (d.map (cI .i64)),mW .i64 iA h,aA.row false 1 (c.map (cI .i64)),aA.row false 3 (a.map aB)] (.s dX (.lv so)))))))))))))
     ·intro i j bq br bs bt bu bv;exact .un rfl (.cT r7 (.cr (.ok (.lp (QP rfl) (.s (ag [(im (i.map al) false),(im (j.map au) false),(bD 5 0 a.length false),(iA (wr .i64 (a0.Bar+1)))]) (.sh (.s [bx (aq a0),(jd a0 a),aA.row true 1 (d.map (cI .i64)),mW .i64 iA h,aA.row false 1 (c.map (cI .i64)),aA.row false 3 (a.map aB),(jD i j a a0),(jD i j a a0),bx [(iA 0)],aA.dead] (.s (ag [(im (i.map al) false),(im (j.map au) false),(bD 5 0 a.length false),(iA (wr .i64 (a0.Bar+1)))]) (.s (iA 0) (.cr (.lp (KQ (L:=6) (v:=(tp [(ag [(im (i.map al) false),(im (j.map au) false),(bD 5 0 a.length false),(iA (wr .i64 (a0.Bar+1)))]),(iA 0)])) (by simp only[uB,df,dg,Nat.reduceLT,qam])) (.cr (.s (ag [(im (i.map al) false),(im (j.map au) false),(bD 5 0 a.length false),(iA (wr .i64 (a0.Bar+1)))]) (.s (iA 0) (.s [bx (aq a0),(jD i j a a0),aA.row true 1 (d.map (cI .i64)),mW .i64 iA h,aA.row false 1 (c.map (cI .i64)),aA.row false 3 (a.map aB)] (.s (ag [(im (i.map al) false),(im (j.map au) false),(bD 5 0 a.length false),(iA (wr .i64 (a0.Bar+1)))]) (.lv (by show bp [bx (aq a0),(jD i j a a0),aA.row true 1 (d.map (cI .i64)),mW .i64 iA h,aA.row false 1 (c.map (cI .i64)),aA.row false 3 (a.map aB)] (tp [(ag [(im (i.map al) false),(im (j.map au) false),(bD 5 0 a.length false),(iA (wr .i64 (a0.Bar+1)))]),(iA 0)])=_; first | (simp only[cP,fo,bp,cq (H:=[bx (aq a0),(jD i j a a0),aA.row true 1 (d.map (cI .i64)),mW .i64 iA h,aA.row false 1 (c.map (cI .i64)),aA.row false 3 (a.map aB)]) (b:=5) (es:=3) (wr:=false) (l:=a) eh rfl]; done) | (simp only[cP,gR,bp,cq (H:=[bx (aq a0),(jD i j a a0),aA.row true 1 (d.map (cI .i64)),mW .i64 iA h,aA.row false 1 (c.map (cI .i64)),aA.row false 3 (a.map aB)]) (b:=5) (es:=3) (wr:=false) (l:=a) eh rfl]; first | done | rfl)))))))))))))))))))
def Oo (a0:ay) (a1:(List Int)) (a2:(List Int)):Option (ay×Int):=Q9 aD a0 a1 a2
def FK (C:OT):Prop:=∀ (a0:ay) (a1:(List Int)) (a2:(List Int)),C 19 [(ag (aq a0)),(im (a1.map (cI .i64)) false),(im (a2.map (cI .i64)) false)]=(Oo a0 a1 a2).map λy=>(tp [(ag (aq y.1)),(iA y.2)])
def nj (n:Nat) (b:(List Int)) (c:(List Int)):Nat->Int->Option ((Bool)⊕(Unit))
 | 0,_=>none
 | m+1,a=>bif (decide (a<((b.length:Int)))) then ((bG b a).bind λd=>(bG c a).bind λe=>bif (d != e) then (some ((Sum.inl false))) else (nj n b c m (wr .i64 (a+1)))) else (some ((Sum.inr (()))))
theorem Gr {i:A} (f:(List Int)) (g:(List Int)) {K:((Bool)⊕(Unit))->Option γ} (j:∀ (h:Bool) (a:A) (b:A) (c:A),J φ (kr (St.mk [(0,a),(1,b),(4,(bA h)),(5,c)] [])) kL (K (Sum.inl h)) some) (k:∀ (a:A) (b:A) (l:A) (c:A),J φ (kx 0 (St.mk [(0,a),(1,b),(4,l),(5,c)] [])) kL (K (Sum.inr (()))) some) :
  ∀ (m:Nat) (d:Int),J φ (aI (cx C) (ec C n 8) (ey C n 8) (n+8) 55 0 0 0 kx kg kr kp m (St.mk [(0,(im (f.map (cI .i64)) false)),(1,(im (g.map (cI .i64)) false)),(4,i),(5,(iA d))] [])) kL (nj n f g m d) K:=by
  refine nI (λ_=>.nn) λm ih d=>.lp (Pv ..) ?_;unfold nj;refine .st (eS (e:=3)) (.st (aZ ..) (.cu ?_ ?_))
  ·refine .bd (fx (e:=3) (es:=1)) λo=>.s (iA o) (.bd (fx (e:=3) (es:=1)) λp=>.s (iA p) (.st (aO ..) (.cu ?_ ?_)))
   ·exact .ex (j _ _ _ _)
   refine .st (aF ..) (.s [] (.cT r7 ?_));exact ih _
  exact .ex (k _ _ _ _)
def Ro (n:Nat) (a0:(List Int)) (a1:(List Int)):Option Bool:=
 bif (((a0.length:Int)) != ((a1.length:Int))) then (some false) else ((nj n a0 a1 (n+8) 0).bind λRT=>match RT with | (Sum.inl a)=>some a | (Sum.inr _)=>some true)
theorem XT (C:OT) (n:Nat) (a0:(List Int)) (a1:(List Int)):TJ C n 55 [(im (a0.map (cI .i64)) false),(im (a1.map (cI .i64)) false)] (Ro n a0 a1) (λy=>(bA y)):=by
 refine .lp (YK ..) ?_;unfold Ro;refine .st (eS (e:=3)) (.st (eS (e:=3)) (.st (aO ..) (.cu ?_ ?_)))
 ·exact .lv rfl
 refine .as (Gr C n _ _ _ _  a0 a1 ?_ ?_ _ 0)
 ·intro a b c d;exact .un rfl (.lv rfl)
 ·intro f g h i;exact .un rfl (.cT r7 (.lv rfl))
def Lc (a0:(List Int)) (a1:(List Int)):Option Bool:=Ro aD a0 a1
def zJ (C:OT):Prop:=∀ (a0:(List Int)) (a1:(List Int)),C 55 [(im (a0.map (cI .i64)) false),(im (a1.map (cI .i64)) false)]=(Lc a0 a1).map λy=>(bA y)
def kq (n:Nat) (c:Int) (g:Int) (d:(List aE)) (e:Int):Nat->Int->Int->Int->Int->Int->Option (Int×Int×Int×Int)
 | 0,_,_,_,_,_=>none
 | m+1,b,f,h,i,j=>bif (decide (b<e)) then ((bG d b).bind λa=>(bif (a.Bar==c) then (some (decide (f<a.No))) else (some false)).bind λk=>bif k then (kq n c g d e m (wr .i64 (b+1)) a.No a.Role a.Bar a.Program) else (kq n c g d e m (wr .i64 (b+1)) f h i j)) else (some ((f,h,i,j)))
theorem Gv (i:Int) (j:Int) (g:(List aE)) (k:Int) {K:(Int×Int×Int×Int)->Option γ} (z:∀ (l:Int) (o:Int) (p:Int) (q:Int) (s1:A) (s4:A) (s9:A) (a3:A) (a4:A),J φ (kx 0 (St.mk [(1,s1),(4,s4),(5,(pt 0 0)),(9,s9),(10,a3),(11,a4)] [bx [(iA l),(iA o),(iA p),(iA q)]])) kL (K (l,o,p,q)) some) :
  ∀ (m:Nat) (h:Int) (b:Int) (c:Int) (d:Int) (f:Int),J φ (aI (cx C) (ec C n 8) (ey C n 8) (n+8) 82 0 0 1 kx kg kr kp m (St.mk [(1,(iA i)),(4,(iA j)),(5,(pt 0 0)),(9,(im (g.map av) false)),(10,(iA k)),(11,(iA h))] [bx [(iA b),(iA c),(iA d),(iA f)]])) kL (kq n i j g k m h b c d f) K:=by
  refine nI (λ_ _ _ _ _=>.nn) λm ih h b c d f=>.lp (PA ..) ?_;unfold kq;refine .st (aZ ..) (.cu ?_ ?_)
  ·refine .bd (fx (e:=30) (es:=4)) λa=>.s (ag (av a)) (.sq (pt 1 0) (.s [bx [(iA b),(iA c),(iA d),(iA f)],bx (av a)] (.s2 (iA a.Bar) (.st (aX ..) (.bg (λt (y:Bool)=>∃ r u v w x:A,t=[(bA y),r,u,v,w,x]) ?_ ?_)))))
   ·refine .bi ?_ ?_
    ·exact .s (pt 1 0) (.s (iA a.No) (.s (pt 0 0) (.s (iA b) (.st (eZ ..) (.lg ⟨_,_,_,_,_,rfl⟩)))))
    exact .lg ⟨_,_,_,_,_,rfl⟩
   rintro _ a5 ⟨r,u,v,w,x,rfl⟩
   refine .u4 (.uc (.uc (.cu ?_ ?_)))
   ·refine .s (ag (av a)) (.s [bx (av a),bx (av a)] (.st (aF ..) (.s [bx (av a)] (.cT ((by kernel_rfl:_=(bif aH 1 (g.map av) then true else false)).trans u2) ?_))));exact ih _ _ _ _ _
   refine .st (aF ..) (.s [bx [(iA b),(iA c),(iA d),(iA f)]] (.cT ((by kernel_rfl:_=(bif aH 1 (g.map av) then true else false)).trans u2) ?_));exact ih _ _ _ _ _
  exact .ex (z _ _ _ _ _ _ _ _ _)
def RG (n:Nat) (a0:(List aE)) (a1:Int):Option Int:=
 (kq n a1 0 a0 ((a0.length:Int)) (n+8) 0 (-1) 0 0 0).bind λa=>match a with | (c,d,e,b)=>some b
theorem Ya (C:OT) (n:Nat) (a0:(List aE)) (a1:Int):TJ C n 82 [(im (a0.map av) false),(iA a1)] (RG n a0 a1) (λy=>(iA y)):=by
 refine .lp (Y3 ..) ?_;unfold RG;refine .s (ag [(iA (-1)),(iA 0),(iA 0),(iA 0)]) (.s ((pt 0 0),[bx [(iA 0),(iA 0),(iA 0),(iA 0)]]) (.s [bx [(iA (-1)),(iA 0),(iA 0),(iA 0)]] (.st (eS (e:=30)) (.as (Gv C n _ _ _ _  a1 0 a0 ((a0.length:Int)) ?_ _ 0 (-1) 0 0 0)))))
 ·intro b c d a f g h i j;exact .un rfl (.cT r7 (.s2 (iA a) (.lv rfl)))
def OK (a0:(List aE)) (a1:Int):Option Int:=RG aD a0 a1
def Df (C:OT):Prop:=∀ (a0:(List aE)) (a1:Int),C 82 [(im (a0.map av) false),(iA a1)]=(OK a0 a1).map λy=>(iA y)
def lF (n:Nat) (k:ay) (e:Int) (d:Int) (l:(List Int)) (o:Int) (p:Int) (f:(List Int)) (g:Int) (q:(List aC)) (r:(List (Int×Int))) (s:(List aR)) (t:Int) (u:Int):Nat->Int->ay->Option ((Int)⊕(ay))
 | 0,_,_=>none
 | m+1,b,c=>bif (decide (b<g)) then ((bG f b).bind λv=>bif (decide (e<=b)) then ((some d).bind λw=>(some (wr .i64 (w+1))).bind λx=>(some ((d,b,v))).bind λh=>(some ((2,0,0,0,0,h.1,h.2.1,h.2.2))).bind λa=>((Jj ((aQ.mk a.1 ((aE.mk a.2.1 a.2.2.1 a.2.2.2.1 a.2.2.2.2.1)) ((bH.mk a.2.2.2.2.2.1 a.2.2.2.2.2.2.1 a.2.2.2.2.2.2.2))))).bind λy=>some y).bind λz=>(some ((x,0,z))).bind λi=>(I6 c.Net ((aC.mk i.1 i.2.1 i.2.2))).bind λj=>bif (j.2 != 0) then ((some (())).bind λa0=>some ((Sum.inl j.2))) else ((some (())).bind λa1=>lF n k e d l o p f g q r s t u m (wr .i64 (b+1)) ((ay.mk j.1 c.Ears c.Bar)))) else ((some (())).bind λa2=>(some (())).bind λa3=>(some (())).bind λa4=>(some (())).bind λa5=>(some (())).bind λa6=>(some (())).bind λa7=>(some (())).bind λa8=>lF n k e d l o p f g q r s t u m (wr .i64 (b+1)) c)) else (some ((Sum.inr c)))
theorem Gi (ah:rk C) (ai:tj C) {k l:aA} (a9:aA.under 6 k=true) (aa:aA.under 6 l=true) (u:ay) (a0:Int) (q:Int) (z:(List Int)) (a1:Int) (a2:Int) (a3:(List Int)) (ab:Int) (f:(List aC)) (h:(List (Int×Int))) (i:(List aR)) (j:Int) (o:Int) {K:((Int)⊕(ay))->Option γ} (x0:∀ (w:Int) (s6:A) (a5:A) (a6:A) (a7:A) (q2:aA) (q6:aA) (q7:aA) (q8:aA),J φ (kr (St.mk [(0,(A.yld 5)),(2,(A.ip (aq u))),(3,(A.ip [(iA a0)])),(6,s6),(10,(im (z.map (cI .i64)) false)),(11,(iA a1)),(12,(iA a2)),(21,a5),(22,a6),(23,a7)] [k,l,q2,(b9 f h i j),bx [(iA w)],aA.rng (ku.done Lf.ret),q6,q7,q8])) kL (K (Sum.inl w)) some) (x1:∀ (w:ay) (s6:A) (a5:A) (a6:A) (a7:A),J φ (kx 2 (St.mk [(0,(A.yld 5)),(2,(A.ip (aq u))),(3,(A.ip [(iA a0)])),(6,s6),(10,(im (z.map (cI .i64)) false)),(11,(iA a1)),(12,(iA a2)),(21,a5),(22,a6),(23,a7)] [k,l,bx [(im (w.Net.Queue.map al) false),(im (w.Net.Apart.map au) false),(im (w.Ears.map aB) false),(iA w.Bar)],(b9 f h i j),bx [(iA o)],aA.rng ku.ready])) kL (K (Sum.inr w)) some) :
  ∀ (m:Nat) (p:Int) (b:ay),J φ (aI (cx C) (bz (cx C) (n+6) (wV 130 (dH (cx C) (n+7)) 5 (sW (cx C) (ec C n 7) (ey C n 7) (n+7) 50 2 0 5 [(2,(pt 2 0)),(4,(pt 3 0)),(5,(pt 4 0))]))) (bz (cx C) (n+6)) (n+6) 78 2 1 6 kx kg kr kp m (St.mk [(0,(A.yld 5)),(2,(A.ip (aq u))),(3,(A.ip [(iA a0)])),(6,(iA q)),(10,(im (z.map (cI .i64)) false)),(11,(iA a1)),(12,(iA a2)),(21,(im (a3.map (cI .i64)) false)),(22,(iA ab)),(23,(iA p))] [k,l,bx (aq b),(b9 f h i j),bx [(iA o)],aA.rng ku.ready])) kL (lF n u a0 q z a1 a2 a3 ab f h i j o m p b) K:=by
  refine nI (λ_ _=>.nn) λm ih p b=>.lp (LJ ..) ?_;unfold lF;refine .st (aZ ..) (.cu ?_ ?_)
  ·refine .bd (fx (e:=3) (es:=1)) λr=>.s (iA r) (.s (ag [(iA q),(iA p),(iA r)]) (.s ((pt 6 0),[k,l,bx (aq b),(b9 f h i j),bx [(iA o)],aA.rng ku.ready,bx [(iA 0),(iA 0),(iA 0)]]) (.s [k,l,bx (aq b),(b9 f h i j),bx [(iA o)],aA.rng ku.ready,bx [(iA q),(iA p),(iA r)]] (.s (iA a0) (.st (dD ..) (.Hp (λc=>?_) (λc=>?_)))))))
   ·refine .bb (.cr (.bg (λt (y:Int) =>  t=(iA y)) ?_ ?_))
    ·exact .lp (cX c) (.lg rfl)
    rintro _ av rfl
    refine .bg (λt (y:Int) =>  t=(iA y)) ?_ ?_
    ·exact .lp (cX c) (.st (aF ..) (.lg rfl))
    rintro _ ap rfl
    refine .bg (λt (y:Int×Int×Int) =>  t=(ag [(iA y.1),(iA y.2.1),(iA y.2.2)])) ?_ ?_
    ·exact .lp (cX c) (.s (ag [(iA q),(iA p),(iA r)]) (.lg rfl))
    rintro _ a8 rfl
    refine .bg (λt (y:Int×Int×Int×Int×Int×Int×Int×Int) =>  t=(ag [(iA y.1),(iA y.2.1),(iA y.2.2.1),(iA y.2.2.2.1),(iA y.2.2.2.2.1),(iA y.2.2.2.2.2.1),(iA y.2.2.2.2.2.2.1),(iA y.2.2.2.2.2.2.2)])) ?_ ?_
    ·exact .lp (cX c) (.s (ag [(iA 2),(iA 0),(iA 0),(iA 0),(iA 0),(iA a8.1),(iA a8.2.1),(iA a8.2.2)]) (.lg rfl))
    rintro _ x rfl
    refine .bg (λt (y:(List UInt8)) =>  t=(im (y.map c8) false)) ?_ ?_
    ·exact .lp (cX c) (.bd (ai ((aQ.mk x.1 ((aE.mk x.2.1 x.2.2.1 x.2.2.2.1 x.2.2.2.2.1)) ((bH.mk x.2.2.2.2.2.1 x.2.2.2.2.2.2.1 x.2.2.2.2.2.2.2))))) λaw=>.lg rfl)
    rintro _ ar rfl
    refine .bg (λt (y:Int×Int×(List UInt8)) =>  t=(ag [(iA y.1),(iA y.2.1),(im (y.2.2.map c8) false)])) ?_ ?_
    ·exact .lp (cX c) (.s (ag [(iA ap),(iA 0),(im (ar.map c8) false)]) (.lg rfl))
    rintro _ a rfl
    refine .lp (cX c) (.dY rfl (.cl (yq.trans (Er.trans (G2 C (ec C n 7) (ey C n 7) (n+7) _ _ _ _ _ _ _ _))) (.cT r7 (.lp (zx rfl) (.s ((pt 7 0),[k,l,bx (aq b),(b9 f h i j),bx [(iA o)],aA.rng ku.ready,bx [(iA q),(iA p),(iA r)],bx [(iA 0),(iA 0),Z5]]) (.s [k,l,bx (aq b),(b9 f h i j),bx [(iA o)],aA.rng ku.ready,bx [(iA q),(iA p),(iA r)],bx [(iA a.1),(iA a.2.1),(im (a.2.2.map c8) false)]] (.lp (zx rfl) (.s2 (ag [(im (b.Net.Queue.map al) false),(im (b.Net.Apart.map au) false)]) (.s (ag [(iA a.1),(iA a.2.1),(im (a.2.2.map c8) false)]) (.bd (g:=λ(y:(aP×Int))=>(tp [(ag [(im (y.1.Queue.map al) false),(im (y.1.Apart.map au) false)]),(iA y.2)])) (by simp only[cP,fo]; exact ah b.Net ((aC.mk a.1 a.2.1 a.2.2))) λd=>.s (ag [(im (d.1.Queue.map al) false),(im (d.1.Apart.map au) false)]) (.s (iA d.2) (.s ((pt 8 0),[k,l,bx (aq b),(b9 f h i j),bx [(iA o)],aA.rng ku.busy,bx [(iA q),(iA p),(iA r)],bx [(iA a.1),(iA a.2.1),(im (a.2.2.map c8) false)],bx [Z5,Z5]]) (.s [k,l,bx (aq b),(b9 f h i j),bx [(iA o)],aA.rng ku.busy,bx [(iA q),(iA p),(iA r)],bx [(iA a.1),(iA a.2.1),(im (a.2.2.map c8) false)],bx [(im (d.1.Queue.map al) false),(im (d.1.Apart.map au) false)]] (.st (aO ..) (.cu ?_ ?_)))))))))))))))
    ·refine .s (ag [(im (f.map al) true),(im (h.map au) true),(im (i.map aB) true),(iA j)]) (.s [k,l,bx (aq b),(b9 f h i j),bx [(iA o)],aA.rng ku.busy,bx [(iA q),(iA p),(iA r)],bx [(iA a.1),(iA a.2.1),(im (a.2.2.map c8) false)],bx [(im (d.1.Queue.map al) false),(im (d.1.Apart.map au) false)]] (.s [k,l,bx (aq b),(b9 f h i j),bx [(iA d.2)],aA.rng ku.busy,bx [(iA q),(iA p),(iA r)],bx [(iA a.1),(iA a.2.1),(im (a.2.2.map c8) false)],bx [(im (d.1.Queue.map al) false),(im (d.1.Apart.map au) false)]] (.lp (yr rfl) (.cr (.ok (.bg (λt (y:Unit)=>∃ ad:A,t=[(bA true),ad]) ?_ ?_))))))
     ·exact .sj c (.s (bA true) (.lg ⟨_,rfl⟩))
     rintro _ ax ⟨ad,rfl⟩
     exact .uc (.uc (.N0 (.ex (x0 _ _ _ _ _ _ _ _ _))))
    refine .s (ag [(im (d.1.Queue.map al) false),(im (d.1.Apart.map au) false)]) (.s (pt 2 0) (.s [k,l,bx [(im (d.1.Queue.map al) false),(im (d.1.Apart.map au) false),(im (b.Ears.map aB) false),(iA b.Bar)],(b9 f h i j),bx [(iA o)],aA.rng ku.busy,bx [(iA q),(iA p),(iA r)],bx [(iA a.1),(iA a.2.1),(im (a.2.2.map c8) false)],bx [(im (d.1.Queue.map al) false),(im (d.1.Apart.map au) false)]] (.lp (yr rfl) (.cr (.ok (.bg (λt (y:Unit)=>∃ ae:A,t=[(bA false),ae]) ?_ ?_))))))
    ·exact .sj c (.s (bA false) (.lg ⟨_,rfl⟩))
    rintro _ az ⟨ae,rfl⟩
    refine .uc (.uc (.MF (.st (aF ..) (.st (v:=[k,l,bx [(im (d.1.Queue.map al) false),(im (d.1.Apart.map au) false),(im (b.Ears.map aB) false),(iA b.Bar)],(b9 f h i j),bx [(iA o)],aA.rng ku.ready]) (de r7 (by simp only[uB,df,qae,qaq,Nat.reduceAdd,dg,Nat.reduceLT,qam,aa,a9,b9])) (.cT ((by kernel_rfl:_=(bif ((aH 6 (u.Net.Queue.map al))&&((aH 6 (u.Net.Apart.map au))&&((aH 6 (u.Ears.map aB))&&true))) then (bif aH 6 (z.map (cI .i64)) then (bif aH 6 (a3.map (cI .i64)) then true else false) else false) else false)).trans u2) ?_)))));exact ih _ _
   refine .bb (.cr (.bg (λt (y:Unit) =>  t=(A.v undef)) ?_ ?_))
   ·exact .lp (cW c) (.lg rfl)
   rintro _ b0 rfl
   refine .bg (λt (y:Unit) =>  t=(A.v undef)) ?_ ?_
   ·exact .lp (cW c) (.lg rfl)
   rintro _ b1 rfl
   refine .bg (λt (y:Unit) =>  t=(A.v undef)) ?_ ?_
   ·exact .lp (cW c) (.lg rfl)
   rintro _ b2 rfl
   refine .bg (λt (y:Unit) =>  t=(A.v undef)) ?_ ?_
   ·exact .lp (cW c) (.lg rfl)
   rintro _ b3 rfl
   refine .bg (λt (y:Unit) =>  t=(A.v undef)) ?_ ?_
   ·exact .lp (cW c) (.lg rfl)
   rintro _ b4 rfl
   refine .bg (λt (y:Unit) =>  t=(A.v undef)) ?_ ?_
   ·exact .lp (cW c) (.lg rfl)
   rintro _ b5 rfl
   refine .lp (cW c) (.bg (λt (y:Unit)=>∃ af:A,t=[(bA false),af]) ?_ ?_)
   ·exact .tK c (.lg ⟨_,rfl⟩)
   rintro _ b6 ⟨af,rfl⟩
   refine .uc (.uc (.MF (.st (aF ..) (.st (v:=[k,l,bx (aq b),(b9 f h i j),bx [(iA o)],aA.rng ku.ready]) (de r7 (by simp only[uB,df,qae,qaq,Nat.reduceAdd,dg,Nat.reduceLT,qam,aa,a9,b9])) (.cT ((by kernel_rfl:_=(bif ((aH 6 (u.Net.Queue.map al))&&((aH 6 (u.Net.Apart.map au))&&((aH 6 (u.Ears.map aB))&&true))) then (bif aH 6 (z.map (cI .i64)) then (bif aH 6 (a3.map (cI .i64)) then true else false) else false) else false)).trans u2) ?_)))));exact ih _ _
  exact .ex (x1 _ _ _ _ _)
def lE (n:Nat) (b:ay) (e:Int) (c:(List Int)) (d:Int) (f:(List aC)) (g:(List (Int×Int))) (h:(List aR)) (i:Int) (j:Int):Nat->Int->ay->Option ((Int)⊕(ay))
 | 0,_,_=>none
 | m+1,a,k=>bif (decide (a<d)) then ((bG c a).bind λl=>(bG b.Ears l).bind λo=>(lF n b e l c d a o.Did ((o.Did.length:Int)) f g h i j (n+6) 0 k).bind λp=>match p with | (Sum.inl q)=>some ((Sum.inl q)) | (Sum.inr r)=>lE n b e c d f g h i j m (wr .i64 (a+1)) r) else (some ((Sum.inr k)))
theorem Gg (z:rk C) (a0:tj C) {g h:aA} (a1:aA.under 6 g=true) (a2:aA.under 6 h=true) (j:ay) (o:Int) (p:(List Int)) (q:Int) (b:(List aC)) (c:(List (Int×Int))) (d:(List aR)) (f:Int) (i:Int) {K:((Int)⊕(ay))->Option γ} (x0:∀ (a:Int) (r:A) (s2:A) (t:A) (u:A) (v:A) (w:A) (q2:aA) (q6:aA) (q7:aA) (q8:aA),J φ (kr (St.mk [(0,r),(2,s2),(3,t),(10,u),(11,v),(12,w)] [g,h,q2,(b9 b c d f),bx [(iA a)],aA.rng (ku.done Lf.ret),q6,q7,q8])) kL (K (Sum.inl a)) some) (x1:∀ (a:ay) (r:A) (s2:A) (t:A) (u:A) (v:A) (w:A),J φ (kx 0 (St.mk [(0,r),(2,s2),(3,t),(10,u),(11,v),(12,w)] [g,h,bx [(im (a.Net.Queue.map al) false),(im (a.Net.Apart.map au) false),(im (a.Ears.map aB) false),(iA a.Bar)],(b9 b c d f),bx [(iA i)],aA.rng ku.ready])) kL (K (Sum.inr a)) some) :
  ∀ (m:Nat) (k:Int) (l:ay),J φ (aI (cx C) (bz (cx C) (n+6) (wV 130 (dH (cx C) (n+7)) 5 (sW (cx C) (ec C n 7) (ey C n 7) (n+7) 50 2 0 5 [(2,(pt 2 0)),(4,(pt 3 0)),(5,(pt 4 0))]))) (bz (cx C) (n+6)) (n+6) 78 2 0 6 kx kg kr kp m (St.mk [(0,(A.yld 5)),(2,(A.ip (aq j))),(3,(A.ip [(iA o)])),(10,(im (p.map (cI .i64)) false)),(11,(iA q)),(12,(iA k))] [g,h,bx (aq l),(b9 b c d f),bx [(iA i)],aA.rng ku.ready])) kL (lE n j o p q b c d f i m k l) K:=by
  refine nI (λ_ _=>.nn) λm ih k l=>.lp (LI ..) ?_;unfold lE;refine .st (aZ ..) (.cu ?_ ?_)
  ·refine .bd (fx (e:=3) (es:=1)) λy=>.s (iA y) (.s2 (im (j.Ears.map aB) false) (.bd (fx (e:=55) (es:=3)) λx=>.s2 (im (x.Did.map (cI .i64)) false) (.st (eS (e:=3)) (.as (Gi C n _ _ _ _ z a0 a1 a2 j o y p q k x.Did ((x.Did.length:Int)) b c d f i ?_ ?_ _ 0 l)))))
   ·intro a9 aa ab ad ae af ag ah ai;exact .un rfl (.ex (x0 _ _ _ _ _ _ _ _ _ _ _))
   ·intro a8 aj ak am an;refine .un rfl (.cT r7 (.st (aF ..) (.s [g,h,bx (aq a8),(b9 b c d f),bx [(iA i)],aA.rng ku.ready] (.cT r7 ?_))));exact ih _ _
  exact .ex (x1 _ _ _ _ _ _ _)
def Ra (n:Nat) (a0:ay) (a1:Int):Option (ay×Int):=
 (Fv a0).bind λb=>bif (b != 0) then (some (((ay.mk ((aP.mk ([]) ([]))) ([]) 0),b))) else ((zH a1 0 (wr .i64 (((a0.Ears.length:Int)) - 1))).bind λc=>(bif (!c) then (some true) else (some (a0.Bar==0))).bind λd=>bif d then (some (((ay.mk ((aP.mk ([]) ([]))) ([]) 0),1))) else ((NV a0 0 ([a1])).bind λa=>(lE n a.2.1 a.2.2 a.1 ((a.1.length:Int)) ([]) ([]) ([]) 0 0 (n+6) 0 a0).bind λe=>match e with | (Sum.inl f)=>some (((ay.mk ((aP.mk ([]) ([]))) ([]) 0),f)) | (Sum.inr g)=>some ((g,0))))
theorem XB (C:OT) (n:Nat) (i:ri C) (j:rk C) (k:tj C) (l:oP C) (o:FR C) (a0:ay) (a1:Int):TJ C n 21 [(ag (aq a0)),(iA a1)] (Ra n a0 a1) (λy=>(tp [(ag (aq y.1)),(iA y.2)])):=by
 refine .lp (Yq ..) ?_;unfold Ra;refine .s ((pt 0 0),[bx (aq a0)]) (.s ((pt 1 0),[bx (aq a0),bx [Z5,Z5,Z5,(iA 0)]]) (.s (ag (aq a0)) (.bd (g:=λ(y:Int)=>(iA y)) (by simp only[cP,fo]; exact i a0) λq=>.st (aO ..) (.cu ?_ ?_))))
 ·exact .s dX (.s [bx (aq a0),bx [Z5,Z5,Z5,(iA 0)]] (.s dX (.lv so)))
 refine .s2 (im (a0.Ears.map aB) false) (.st (eS (e:=55)) (.st (fF ..) (.bd (l a1 0 (wr .i64 (((a0.Ears.length:Int)) - 1))) λp=>.s (bA (!p)) (.bg (λt (y:Bool)=>∃ d f h:A,t=[(bA y),d,f,h]) ?_ ?_))))
 ·refine .bi ?_ ?_
  ·exact .lg ⟨_,_,_,rfl⟩
  exact .s (pt 0 3) (.s (iA a0.Bar) (.st (aX ..) (.lg ⟨_,_,_,rfl⟩)))
 rintro _ r ⟨d,f,h,rfl⟩
 refine .u4 (.cu ?_ ?_)
 ·exact .s dX (.s [bx (aq a0),bx [Z5,Z5,Z5,(iA 0)]] (.s dX (.lv so)))
 refine .s (ag (aq a0)) (.s (ag (aq a0)) (.s (im [[(iA a1)]] true) (.bd (g:=λ(y:((List Int)×ay×Int))=>(tz 78 [] [(A.ip [(im (y.1.map (cI .i64)) false)]),(A.ip (aq y.2.1)),(A.ip [(iA y.2.2)])])) (by simp only[cP,fo]; exact o a0 0 ([a1])) λa=>.bb (.cl ((bk L4).trans (V3 ..)) (.sq (pt 2 0) (.sq (pt 3 0) (.s ((pt 4 0),[bx (aq a0),bx [Z5,Z5,Z5,(iA 0)],bx (aq a0),bx [Z5,Z5,Z5,(iA 0)],bx [(iA 0)]]) (.s (78,[(A.ip [(im (a.1.map (cI .i64)) false)]),(A.ip (aq a.2.1)),(A.ip [(iA a.2.2)])]) (.cT r7 (.cl ((qH L6).trans (V5 ..)) (.s (im (a.1.map (cI .i64)) false) (.st (eS (e:=3)) (.as (Gg C n _ _ _ _ j k Z4 Z4 a.2.1 a.2.2 a.1 ((a.1.length:Int)) ([]) ([]) ([]) 0 0 ?_ ?_ _ 0 a0))))))))))))))
 ·intro c u w x z a2 a3 a4 a5 a6 a7;exact .un rfl (.cr (.ok (.lp (QQ rfl) (.s dX (.s (iA c) (.cr (.lp (KQ (L:=2) (v:=(tp [dX,(iA c)])) (by simp only[uB,df,dg,Nat.reduceLT,qam,dX])) (.cr (.s dX (.s (iA c) (.s [bx (aq a0),bx [Z5,Z5,Z5,(iA 0)]] (.s dX (.lv so)))))))))))))
 ·intro b a8 a9 aa ab ad ae;exact .un rfl (.cT r7 (.cr (.ok (.lp (QP rfl) (.s (ag (aq b)) (.sh (.s [bx (aq a0),bx [Z5,Z5,Z5,(iA 0)],bx (aq b),bx (aq b),bx [(iA 0)],aA.dead] (.s (ag (aq b)) (.s (iA 0) (.cr (.lp (KQ (L:=2) (v:=(tp [(ag (aq b)),(iA 0)])) (by simp only[uB,df,dg,Nat.reduceLT,qam])) (.cr (.s (ag (aq b)) (.s (iA 0) (.s [bx (aq a0),bx (aq b)] (.s (ag (aq b)) (.lv so)))))))))))))))))
def Oq (a0:ay) (a1:Int):Option (ay×Int):=Ra aD a0 a1
def FL (C:OT):Prop:=∀ (a0:ay) (a1:Int),C 21 [(ag (aq a0)),(iA a1)]=(Oq a0 a1).map λy=>(tp [(ag (aq y.1)),(iA y.2)])
end Go.Proofs.Ytebkhfhcipnfgaa
