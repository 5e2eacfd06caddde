/-
 The program's functions as plain functions: by a tool; each follows the interpreter.
-/
import Derived.Test.YtebkhfhcipnfgaaGreatT2
namespace Go.Proofs.YtebkhfhcipnfgaaGreat
open Go.Proofs.Tryz (prog)
set_option linter.unusedVariables false
set_option linter.unusedSimpArgs false
set_option maxHeartbeats 4000000
set_option maxRecDepth 100000
set_option linter.defProp false
variable (C:Nat->List A->Option A) (n:Nat) {ρ γ:Type} {φ:ρ->γ->Prop} {kL:R->Option ρ} (kx kg:Nat->St->Option R) (kr:St->Option R) (kp:A->St->Option R)
def ll (n:Nat) (c:av) (b:aN):Nat->Int->Option ((Bool)⊕(Unit))
 | 0,_=>none
 | m+1,a=>bif (decide (a<c.Bar)) then ((bf b.Got a).bind fun d=>(Cj d 0 8).bind fun e=>(bif (!e) then ((some (())).bind fun l=>some true) else ((bf b.Did a).bind fun f=>bif (f != 0) then ((bf b.Did a).bind fun g=>(bf b.Got a).bind fun h=>(some (g != h)).bind fun i=>(some i).bind fun j=>some j) else ((some (())).bind fun o=>(some (())).bind fun p=>some false))).bind fun k=>bif k then (some ((Sum.inl false))) else (ll n c b m (wr .i64 (a+1)))) else (some ((Sum.inr (()))))
theorem Du (k:ug C) {w319 w320:A} (b:av) (a:aN) {K:((Bool)⊕(Unit))->Option γ} (l:∀ (h:Bool) (o:A) (s2:A) (p:A) (f:A) (q0:aC) (q1:aC),J φ (kr (St.mk [(1,o),(2,s2),(4,(bA h)),(5,p),(6,f)] [q0,q1])) kL (K (Sum.inl h)) some) (q:∀ (f:A),J φ (kx 0 (St.mk [(1,w319),(2,(pt 0 0)),(4,w320),(5,(pt 1 0)),(6,f)] [bx (ak b),bx (aw a)])) kL (K (Sum.inr (()))) some) :
  ∀ (m:Nat) (g:Int),J φ (aE (cx C) (ec C n 8) (ey C n 8) (n+8) 62 0 0 2 kx kg kr kp m (St.mk [(1,w319),(2,(pt 0 0)),(4,w320),(5,(pt 1 0)),(6,(iA g))] [bx (ak b),bx (aw a)])) kL (ll n b a m g) K:=by
  refine nI (fun _=>.nn) fun m ih g=>.lp (MM ..) ?_
  unfold ll
  refine .s2 (iA b.Bar) (.st (aS ..) (.bQ ?_ ?_))
  ·refine .s2 (im (a.Got.map (cI .i64)) false) (.bd (dr (e:=3) (es:=1)) fun i=>.s (iA i) (.bd (k i 0 8) fun r=>.s (bA (!r)) (.K8 (.bg (fun t (y:Bool)=>∃ j:A,t=[(bA y),j]) ?_ ?_))))
   ·refine .FA (fun d=>?_) (fun d=>?_)
    ·refine .bb (.s (pt 1 2) (.s (im (a.Did.map (cI .i64)) false) (.bd (dr (e:=3) (es:=1)) fun u=>.s (iA u) (.st (aH ..) (.B4 (fun c=>?_) (fun c=>?_))))))
     ·refine .bb (.s (pt 1 2) (.s (im (a.Did.map (cI .i64)) false) (.bd (dr (e:=3) (es:=1)) fun w=>.s (iA w) (.s (pt 1 1) (.s (im (a.Got.map (cI .i64)) false) (.bd (dr (e:=3) (es:=1)) fun x=>.s (iA x) (.cr (.u4 (.u4 (.uc (.uc (.cr (.u4 (.u4 (.u4 (.u4 (.uc (.bg (fun t (y:Bool) =>  t=[(bA y)]) ?_ ?_))))))))))))))))))
      ·exact .lp (bX c) (.st (aH ..) (.lg rfl))
      rintro _ z rfl
      refine .uc (.qb d (.bg (fun t (y:Bool) =>  t=(bA y)) ?_ ?_))
      ·exact .qs c (.lg rfl)
      rintro _ a0 rfl
      exact .lg ⟨_,rfl⟩
     refine .bb (.cr (.u4 (.u4 (.uc (.uc (.cr (.u4 (.u4 (.u4 (.u4 (.uc (.bg (fun t (y:Unit) =>  t=[(A.v undef)]) ?_ ?_))))))))))))
     ·exact .lp (bW c) (.lg rfl)
     rintro _ a1 rfl
     refine .uc (.qb d (.bg (fun t (y:Unit) =>  t=(bA false)) ?_ ?_))
     ·exact .qb c (.lg rfl)
     rintro _ a2 rfl
     exact .lg ⟨_,rfl⟩
    refine .bb (.cr (.u4 (.u4 (.u4 (.u4 (.uc (.bg (fun t (y:Unit) =>  t=[(A.v undef)]) ?_ ?_)))))))
    ·exact .gU (.lg rfl)
    rintro _ a3 rfl
    exact .uc (.qs d (.lg ⟨_,rfl⟩))
   rintro _ a4 ⟨j,rfl⟩
   refine .uc (.uc (.bQ ?_ ?_))
   ·exact .ex (l _ _ _ _ _ _ _)
   refine .st (aF ..) (.s [bx (ak b),bx (aw a)] (.cT r8 ?_))
   exact ih _
  exact .ex (q _)
def ln (n:Nat) (e:Int) (f:Bool) (d:av) (b:aN):Nat->Int->Option ((Bool)⊕(Unit))
 | 0,_=>none
 | m+1,a=>bif (decide (a<((b.Cues.length:Int)))) then ((bf b.Cues a).bind fun c=>(Lp c ((d.Ears.length:Int))).bind fun g=>(bif (!g) then (some true) else (some (c.Role != e))).bind fun h=>(bif h then (some true) else (some (decide (c.Bar<d.Bar)))).bind fun i=>(bif i then ((some (())).bind fun p=>some true) else (bif (decide (0<a)) then ((bf b.Cues (wr .i64 (a - 1))).bind fun j=>(some (decide (c.Bar<=j.Bar))).bind fun k=>(some k).bind fun l=>some l) else ((some (())).bind fun q=>(some (())).bind fun r=>some false))).bind fun o=>bif o then (some ((Sum.inl false))) else (ln n e f d b m (wr .i64 (a+1)))) else (some ((Sum.inr (()))))
theorem Dv (a4:Az C) (l:Int) (o:Bool) (a:av) (b:aN) {K:((Bool)⊕(Unit))->Option γ} (x0:∀ (p:Bool) (g:A) (s2:A) (h:A) (i:A) (q0:aC) (q1:aC) (q2:aC),J φ (kr (St.mk [(1,g),(2,s2),(4,(bA p)),(5,h),(7,i)] [q0,q1,q2])) kL (K (Sum.inl p)) some) (x1:∀ (g:A) (s2:A) (s4:A) (h:A) (i:A) (q0:aC) (q1:aC),J φ (kx 2 (St.mk [(1,g),(2,s2),(4,s4),(5,h),(7,i)] [q0,q1])) kL (K (Sum.inr (()))) some) :
  ∀ (m:Nat) (j:Int),J φ (aE (cx C) (ec C n 8) (ey C n 8) (n+8) 62 0 1 2 kx kg kr kp m (St.mk [(1,(iA l)),(2,(pt 0 0)),(4,(bA o)),(5,(pt 1 0)),(7,(iA j))] [bx (ak a),bx (aw b)])) kL (ln n l o a b m j) K:=by
  refine nI (fun _=>.nn) fun m ih j=>.lp (MN ..) ?_
  unfold ln
  refine .s2 (im (b.Cues.map aI) false) (.st (dn (e:=46)) (.st (aS ..) (.bQ ?_ ?_)))
  ·refine .s2 (im (b.Cues.map aI) false) (.bd (dr (e:=46) (es:=4)) fun c=>.s (ag (aI c)) (.sq (pt 2 0) (.s [bx (ak a),bx (aw b),bx (aI c)] (.s (ag (aI c)) (.s2 (im (a.Ears.map aw) false) (.st (dn (e:=50)) (.bd (a4 c ((a.Ears.length:Int))) fun a8=>.s (bA (!a8)) (.bg (fun t (y:Bool)=>∃ q r u w:A,t=[(bA y),q,r,u,w]) ?_ ?_))))))))
   ·refine .bi ?_ ?_
    ·exact .lg ⟨_,_,_,_,rfl⟩
    exact .s (pt 2 1) (.s (iA c.Role) (.st (aH ..) (.lg ⟨_,_,_,_,rfl⟩)))
   rintro _ a9 ⟨q,r,u,w,rfl⟩
   refine .u4 (.uc (.bg (fun t (y:Bool)=>∃ x z a0 a1 a2:A,t=[(bA y),x,z,a0,a1,a2]) ?_ ?_))
   ·refine .bi ?_ ?_
    ·exact .lg ⟨_,_,_,_,_,rfl⟩
    exact .s (pt 2 2) (.s (iA c.Bar) (.s (pt 0 3) (.s (iA a.Bar) (.st (aS ..) (.lg ⟨_,_,_,_,_,rfl⟩)))))
   rintro _ aa ⟨x,z,a0,a1,a2,rfl⟩
   refine .u4 (.uc (.uc (.Fb (.bg (fun t (y:Bool)=>∃ a3:A,t=[(bA y),a3]) ?_ ?_))))
   ·refine .FA (fun f=>?_) (fun f=>?_)
    ·refine .bb (.st (cC ..) (.B4 (fun d=>?_) (fun d=>?_)))
     ·refine .bb (.s (pt 2 2) (.s (iA c.Bar) (.s (pt 1 0) (.s (im (b.Cues.map aI) false) (.st (dh ..) (.bd (dr (e:=46) (es:=4)) fun k=>.s (A.ip [(iA k.Bar),(iA k.Program)]) (.s (iA k.Bar) (.cr (.u4 (.u4 (.uc (.cr (.u4 (.u4 (.u4 (.bg (fun t (y:Bool) =>  t=[(bA y)]) ?_ ?_))))))))))))))))
      ·exact .lp (bX d) (.st (dT ..) (.lg rfl))
      rintro _ ab rfl
      refine .uc (.qb f (.bg (fun t (y:Bool) =>  t=(bA y)) ?_ ?_))
      ·exact .qs d (.lg rfl)
      rintro _ ad rfl
      exact .lg ⟨_,rfl⟩
     refine .bb (.cr (.u4 (.u4 (.uc (.cr (.u4 (.u4 (.u4 (.bg (fun t (y:Unit) =>  t=[(A.v undef)]) ?_ ?_)))))))))
     ·exact .lp (bW d) (.lg rfl)
     rintro _ ae rfl
     refine .uc (.qb f (.bg (fun t (y:Unit) =>  t=(bA false)) ?_ ?_))
     ·exact .qb d (.lg rfl)
     rintro _ af rfl
     exact .lg ⟨_,rfl⟩
    refine .bb (.cr (.u4 (.u4 (.u4 (.bg (fun t (y:Unit) =>  t=[(A.v undef)]) ?_ ?_)))))
    ·exact .gU (.lg rfl)
    rintro _ ah rfl
    exact .uc (.qs f (.lg ⟨_,rfl⟩))
   rintro _ ai ⟨a3,rfl⟩
   refine .uc (.uc (.bQ ?_ ?_))
   ·exact .ex (x0 _ _ _ _ _ _ _ _)
   refine .st (aF ..) (.st (v:=[bx (ak a),bx (aw b)]) (dB r8 An) (.cT r8 ?_))
   exact ih _
  exact .ex (x1 _ _ _ _ _ _ _)
def O9 (n:Nat) (a:av) (c:Int):Option Bool:=
 (bf a.Ears c).bind fun b=>(bif (((b.Got.length:Int)) != a.Bar) then (some true) else (some (((b.Did.length:Int)) != a.Bar))).bind fun d=>bif d then (some false) else ((ll n a b (n+8) 0).bind fun e=>match e with | (Sum.inl f)=>some f | (Sum.inr _)=>(ln n c false a b (n+8) 0).bind fun g=>match g with | (Sum.inl h)=>some h | (Sum.inr _)=>some true)
theorem V6 (C:OT) (n:Nat) (k:ug C) (l:Az C) (a:av) (c:Int):TJ C n 62 [(ag (ak a)),(iA c)] (O9 n a c) (fun y=>(bA y)):=by
 refine .lp (W0 ..) ?_
 unfold O9
 refine .s ((pt 0 0),[bx (ak a)]) (.s2 (im (a.Ears.map aw) false) (.bd (dr (e:=50) (es:=3)) fun b=>.s (ag (aw b)) (.sq (pt 1 0) (.s [bx (ak a),bx (aw b)] (.s2 (im (b.Got.map (cI .i64)) false) (.st (dn (e:=3)) (.s2 (iA a.Bar) (.st (aH ..) (.bg (fun t (y:Bool)=>∃ d f g h i j:A,t=[(bA y),d,f,g,h,i,j]) ?_ ?_)))))))))
 ·refine .bi ?_ ?_
  ·exact .lg ⟨_,_,_,_,_,_,rfl⟩
  exact .s (pt 1 2) (.s (im (b.Did.map (cI .i64)) false) (.st (dn (e:=3)) (.s (pt 0 3) (.s (iA a.Bar) (.st (aH ..) (.lg ⟨_,_,_,_,_,_,rfl⟩))))))
 rintro _ o ⟨d,f,g,h,i,j,rfl⟩
 refine .u4 (.uc (.uc (.uc (.bQ ?_ ?_))))
 ·exact .lv rfl
 refine .as (Du C n _ _ _ _ k a b ?_ ?_ _ 0)
 ·intro p q r u v w430 w431
  exact .un rfl (.lv rfl)
 ·intro w
  refine .un rfl (.cT r8 (.as (Dv C n _ _ _ _ l c false a b ?_ ?_ _ 0)))
  ·intro x z a2 a3 a4 w644 w645 w646
   exact .un rfl (.lv rfl)
  ·intro a5 a6 a7 a8 a9 w652 w653
   exact .un rfl (.cT r8 (.lv rfl))
def LS (a:av) (b:Int):Option Bool:=O9 aA a b
def CR (C:OT):Prop:=∀ (a:av) (b:Int),C 62 [(ag (ak a)),(iA b)]=(LS a b).map fun y=>(bA y)
def lK (a:(List ar)):aC:=bx [(iA 3),(iA 0),se,(bM 4 0 a.length false)]
abbrev lL:A:=(ag [(iA 0),(iA 0),se,(im [] false)])
def Cv (C:OT) (N:Nat) (self:(List UInt8)->Int->Bool->Int->Option (ar×Int×Bool)):Prop:=∀ (a:(List UInt8)) (a2:Int) (b:Bool) (c:Int) (X:aB),J (fun (o:R) (y:(ar×Int×Bool))=>o=(Out.ret (ag [(iA y.1.Kind),(iA y.1.N),(sA y.1.S),(im (y.1.L.map ax) false)]),[aO,bx [(im (a.map c8) false),(iA y.2.1),(bA y.2.2)]]++X)) (dH (cx C) N 109 [(pt 1 0),(iA c)] ([aO,bx [(im (a.map c8) false),(iA a2),(bA b)]]++X) 0) some (self a a2 b c) some
def eL (n:Nat) (d:(List UInt8)):Nat->Int->Int->Int->Bool->Option ((Int×Int×Bool)⊕(Int×Bool))
 | 0,_,_,_,_=>none
 | m+1,f,b,c,e=>bif (!e) then ((bif (decide (((d.length:Int))<=c)) then (some ((0,c,true))) else ((bf d (wr .i64 ((wr .i64 (c+1)) - 1))).bind fun g=>some (((g.toNat:Int),wr .i64 (c+1),e)))).bind fun a=>(bif (b==9) then (some (decide (1<a.1))) else (some false)).bind fun h=>(bif h then (some true) else ((bif (decide (0<b)) then (some (a.1==0)) else (some false)).bind fun i=>some i)).bind fun j=>bif j then (some ((Sum.inl ((0,a.2.1,true))))) else (bif decide (0<=(wr .i64 (7*b))) then (bif (decide (a.1<128)) then (some ((Sum.inl ((wr .u64 (f+(po .u64 (wr .u64 (Int.tmod a.1 128)) (wr .i64 (7*b)))),a.2.1,a.2.2))))) else (eL n d m (wr .u64 (f+(po .u64 (wr .u64 (Int.tmod a.1 128)) (wr .i64 (7*b))))) (wr .i64 (b+1)) a.2.1 a.2.2)) else none)) else (some ((Sum.inr ((c,e)))))
theorem m6 {w338:A} {w339:aC} (a:(List UInt8)) {K:((Int×Int×Bool)⊕(Int×Bool))->Option γ} (o:∀ (d:Int) (f:Int) (p:Bool) (h:A) (i:A) (j:A),J φ (kr (St.mk [(0,h),(2,(A.v (.int .u64 d))),(3,i),(4,j)] [aO,bx [(im (a.map c8) false),(iA f),(bA p)],w339])) kL (K (Sum.inl ((d,f,p)))) some) (x1:∀ (d:Int) (f:Bool) (h:A) (s2:A) (i:A) (j:A),J φ (kx 0 (St.mk [(0,h),(2,s2),(3,i),(4,j)] [aO,bx [(im (a.map c8) false),(iA d),(bA f)],w339])) kL (K (Sum.inr ((d,f)))) some) :
  ∀ (m:Nat) (k:Int) (l:Int) (b:Int) (c:Bool),J φ (aE (cx C) (ec C n 7) (ey C n 7) (n+7) 122 0 0 3 kx kg kr kp m (St.mk [(0,(pt 1 0)),(2,w338),(3,(A.v (.int .u64 k))),(4,(iA l))] [aO,bx [(im (a.map c8) false),(iA b),(bA c)],w339])) kL (eL n a m k l b c) K:=by
  refine nI (fun _ _ _ _=>.nn) fun m ih k l b c=>.lp (Kv ..) ?_
  unfold eL
  refine .s (pt 1 0) (.s2 (bA c) (.s (bA (!c)) (.bQ ?_ ?_)))
  ·refine .bg (fun (t:Out×aB) (y:Int×Int×Bool)=>t=(Out.ret (uA y.1),[aO,bx [(im (a.map c8) false),(iA y.2.1),(bA y.2.2)],w339])) ?_ ?_
   ·refine .lp ((bl EJ).trans (Mt ..)) (.s (pt 1 0) (.s2 (iA b) (.s (pt 1 0) (.s2 (im (a.map c8) false) (.st (dn (e:=5)) (.st (dq ..) (.bQ ?_ ?_)))))))
    ·exact .s (pt 1 0) (.s (pt 1 2) (.s [aO,bx [(im (a.map c8) false),(iA b),(bA true)],w339] (.lg rfl)))
    exact .s (pt 1 0) (.s2 (iA b) (.st (aF ..) (.s (pt 1 0) (.s (pt 1 1) (.s [aO,bx [(im (a.map c8) false),(iA (wr .i64 (b+1))),(bA c)],w339] (.s (pt 1 0) (.s2 (im (a.map c8) false) (.s (pt 1 0) (.s2 (iA (wr .i64 (b+1))) (.st (dh ..) (.bd (dr (e:=5) (es:=1)) fun a5=>.s (uA ((a5.toNat:Int))) (.lg rfl))))))))))))
   rintro _ g rfl
   refine .ok (.st (aZ ..) (.bg (fun t (y:Bool)=>∃ q r:A,t=[(bA y),q,r]) ?_ ?_))
   ·refine .bi ?_ ?_
    ·exact .st (cC ..) (.lg ⟨_,_,rfl⟩)
    exact .lg ⟨_,_,rfl⟩
   rintro _ a6 ⟨q,r,rfl⟩
   refine .uc (.uc (.uc (.bg (fun t (y:Bool)=>∃ u w x z a0 a1:A,t=[(bA y),u,w,x,z,a0,a1]) ?_ ?_)))
   ·refine .bi ?_ ?_
    ·exact .lg ⟨_,_,_,_,_,_,rfl⟩
    refine .st (cC ..) (.bg (fun t (y:Bool)=>∃ a2 a3:A,t=[(bA y),a2,a3]) ?_ ?_)
    ·refine .bi ?_ ?_
     ·exact .st (aZ ..) (.lg ⟨_,_,rfl⟩)
     exact .lg ⟨_,_,rfl⟩
    rintro _ a7 ⟨a2,a3,rfl⟩
    exact .uc (.uc (.uc (.lg ⟨_,_,_,_,_,_,rfl⟩)))
   rintro _ a8 ⟨u,w,x,z,a0,a1,rfl⟩
   refine .u4 (.uc (.uc (.uc (.bQ ?_ ?_))))
   ·exact .s (pt 1 0) (.s (pt 1 2) (.s [aO,bx [(im (a.map c8) false),(iA g.2.1),(bA true)],w339] (.ex (o _ _ _ _ _ _))))
   refine .st (rI (hb:=by decide) ..) (.st (v:=(A.v (.int .u64 (wr .u64 (Int.tmod g.1 128))))) (aV (hs:=by kernel_rfl) (hd:=by kernel_rfl) ..) (.st (pA ..) (.gd fun hg=>.st (rJ (hb:=Yr hg) ..) (.st (aF ..) (.st (aS ..) (.bQ ?_ ?_))))))
   ·exact .ex (o _ _ _ _ _ _)
   refine .st (aF ..) (.s [aO,bx [(im (a.map c8) false),(iA g.2.1),(bA g.2.2)],w339] (.cT r8 ?_))
   exact ih _ _ _ _
  exact .ex (x1 _ _ _ _ _ _)
def eK (self:(List UInt8)->Int->Bool->Int->Option (ar×Int×Bool)) (n:Nat) (c:Int) (d:Int) (e:(List UInt8)) (i:Int) (j:Int) (k:ByteArray):Nat->Int->Int->Bool->(List ar)->Option (Int×Bool×(List ar))
 | 0,_,_,_,_=>none
 | m+1,f,g,a,h=>(bif (decide (f<d)) then (some (!a)) else (some false)).bind fun l=>bif l then ((self e g a (wr .i64 (c+1))).bind fun b=>(cQ 56 h ([b.1])).bind fun o=>eK self n c d e i j k m (wr .u64 (f+1)) b.2.1 b.2.2 o) else (some ((g,a,h)))
theorem wW (self:(List UInt8)->Int->Bool->Int->Option (ar×Int×Bool)) (hS:Cv C (n+8) self) {w1142:A} {w1143:aC} (o:Int) (r:Int) (d:(List UInt8)) (e:Int) (h:Int) (i:ByteArray) {K:(Int×Bool×(List ar))->Option γ} (x0:∀ (u:Int) (w:Bool) (p:(List ar)) (s1:A) (s7:A) (s9:A),J φ (kx 1 (St.mk [(0,(pt 1 0)),(1,s1),(4,w1142),(7,s7),(8,(pt 3 0)),(9,s9)] [aO,bx [(im (d.map c8) false),(iA u),(bA w)],w1143,bx [(iA e),(iA h),(sA i),(bM 4 0 p.length false)],aC.row false 4 (p.map ax)])) kL (K (u,w,p)) some) :
  ∀ (m:Nat) (q:Int) (k:Int) (j:Bool) (a:(List ar)),J φ (aE (cx C) (ec C n 8) (ey C n 8) (n+8) 109 0 0 5 kx kg kr kp m (St.mk [(0,(pt 1 0)),(1,(iA o)),(4,w1142),(7,(A.v (.int .u64 r))),(8,(pt 3 0)),(9,(A.v (.int .u64 q)))] [aO,bx [(im (d.map c8) false),(iA k),(bA j)],w1143,bx [(iA e),(iA h),(sA i),(bM 4 0 a.length false)],aC.row false 4 (a.map ax)])) kL (eK self n o r d e h i m q k j a) K:=by
  refine nI (fun _ _ _ _=>.nn) fun m ih q k j a=>.lp (Ko ..) ?_
  unfold eK
  refine .st (aS ..) (.bg (fun t (y:Bool)=>∃ x z a0 a1 a2:A,t=[(bA y),x,z,a0,a1,a2]) ?_ ?_)
  ·refine .bi ?_ ?_
   ·exact .s (pt 1 0) (.s (pt 1 2) (.s (bA j) (.s (bA (!j)) (.lg ⟨_,_,_,_,_,rfl⟩))))
   exact .lg ⟨_,_,_,_,_,rfl⟩
  rintro _ a8 ⟨x,z,a0,a1,a2,rfl⟩
  refine .u4 (.uc (.uc (.bQ ?_ ?_)))
  ·refine .s (pt 3 3) (.s (bM 4 0 a.length false) (.st (aF ..) (.cT r8 (.bg (fun (t:R) (y:(ar×Int×Bool))=>t=(Out.ret (ag [(iA y.1.Kind),(iA y.1.N),(sA y.1.S),(im (y.1.L.map ax) false)]),[aO,bx [(im (d.map c8) false),(iA y.2.1),(bA y.2.2)],w1143,bx [(iA e),(iA h),(sA i),(bM 4 0 a.length false)],aC.row false 4 (a.map ax)])) (hS d k j (wr .i64 (o+1)) [w1143,bx [(iA e),(iA h),(sA i),(bM 4 0 a.length false)],aC.row false 4 (a.map ax)]) ?_))))
   rintro _ c rfl
   refine .ok (.s (im [[(iA c.1.Kind),(iA c.1.N),(sA c.1.S),(im (c.1.L.map ax) false)]] true) (.bd (g:=fun (y:List ar)=>((bM 4 0 y.length false),[aO,bx [(im (d.map c8) false),(iA c.2.1),(bA c.2.2)],w1143,bx [(iA e),(iA h),(sA i),(bM 4 0 a.length false)],aC.row false 4 (y.map ax)])) (bZ eJ (l:=a) (l2:=[c.1]) (b:=4) rfl (by decide) (gE (f:=ax) (l:=([c.1]:List ar)) XY)) fun a3=>.s (pt 3 3) (.sh (.st (aF ..) (.s [aO,bx [(im (d.map c8) false),(iA c.2.1),(bA c.2.2)],w1143,bx [(iA e),(iA h),(sA i),(bM 4 0 a3.length false)],aC.row false 4 (a3.map ax)] (.cT r8 ?_))))))
   exact ih _ _ _ _
  exact .ex (x0 _ _ _ _ _ _)
def qR (self:(List UInt8)->Int->Bool->Int->Option (ar×Int×Bool)) (n:Nat) (c:(List UInt8)) (a2:Int) (g:Bool) (f:Int):Option (ar×Int×Bool):=
 (bif (decide (((c.length:Int))<=a2)) then (some ((0,a2,true))) else ((bf c (wr .i64 ((wr .i64 (a2+1)) - 1))).bind fun h=>some (((h.toNat:Int),wr .i64 (a2+1),g)))).bind fun b=>bif (b.1==1) then (((eL n c (n+7) 0 0 b.2.1 b.2.2).bind fun i=>match i with | (Sum.inl ((j,k,l)))=>some ((j,k,l)) | (Sum.inr ((o,p)))=>some ((0,o,p))).bind fun d=>bif ((Int.tmod d.1 2)==1) then (some (((ar.mk 1 (wr .i64 ((wr .i64 (0 - (wr .i64 (wr .u64 (Int.tdiv d.1 2))))) - 1)) iK ([])),d.2.1,d.2.2))) else (some (((ar.mk 1 (wr .i64 (wr .u64 (Int.tdiv d.1 2))) iK ([])),d.2.1,d.2.2)))) else (bif (b.1==2) then (((eL n c (n+7) 0 0 b.2.1 b.2.2).bind fun q=>match q with | (Sum.inl ((r,s,t)))=>some ((r,s,t)) | (Sum.inr ((u,v)))=>some ((0,u,v))).bind fun a=>(bif a.2.2 then (some true) else (some (decide ((wr .u64 (wr .i64 (((c.length:Int)) - a.2.1)))<a.1)))).bind fun w=>bif w then (some (((ar.mk 0 0 iK ([])),a.2.1,true))) else ((iB c (wr .i64 ((wr .i64 (a.2.1+(wr .i64 (a.1)))) - (wr .i64 (a.1)))) (wr .i64 (a.2.1+(wr .i64 (a.1))))).bind fun x=>some (((ar.mk 2 0 (gp x) ([])),wr .i64 (a.2.1+(wr .i64 (a.1))),a.2.2)))) else (bif (b.1==3) then (((eL n c (n+7) 0 0 b.2.1 b.2.2).bind fun y=>match y with | (Sum.inl ((z,a0,a5)))=>some ((z,a0,a5)) | (Sum.inr ((a6,a7)))=>some ((0,a6,a7))).bind fun e=>(bif e.2.2 then (some true) else (some (decide ((wr .u64 (wr .i64 (((c.length:Int)) - e.2.1)))<e.1)))).bind fun a8=>(bif a8 then (some true) else (some (f==16))).bind fun a9=>bif a9 then (some (((ar.mk 0 0 iK ([])),e.2.1,true))) else ((eK self n f e.1 c 3 0 iK (n+8) 0 e.2.1 e.2.2 (([]:List ar))).bind fun aa=>match aa with | (ab,ad,ae)=>some (((ar.mk 3 0 iK ae),ab,ad)))) else (some (((ar.mk 0 0 iK ([])),b.2.1,true)))))
theorem Me (C:OT) (n:Nat) (self:(List UInt8)->Int->Bool->Int->Option (ar×Int×Bool)) (hS:Cv C (n+8) self) (c:(List UInt8)) (a2:Int) (q:Bool) (r:Int):J (fun (o:R) (y:(ar×Int×Bool))=>∃ Z,o=(Out.ret (ag [(iA y.1.Kind),(iA y.1.N),(sA y.1.S),(im (y.1.L.map ax) false)]),[aO,bx [(im (c.map c8) false),(iA y.2.1),(bA y.2.2)]]++Z)) (aG (cx C) (ec C n 8) (ey C n 8) (n+8) 109 [(pt 1 0),(iA r)] [aO,bx [(im (c.map c8) false),(iA a2),(bA q)]] 0) some (qR self n c a2 q r) some:=by
 refine .lp (Rk ..) ?_
 unfold qR
 refine .s ((pt 2 0),[aO,bx [(im (c.map c8) false),(iA a2),(bA q)],aO]) (.bg (fun (t:Out×aB) (y:Int×Int×Bool)=>t=(Out.ret (uA y.1),[aO,bx [(im (c.map c8) false),(iA y.2.1),(bA y.2.2)],aO])) ?_ ?_)
 ·refine .lp ((bl EJ).trans (Mt ..)) (.s (pt 1 0) (.s2 (iA a2) (.s (pt 1 0) (.s2 (im (c.map c8) false) (.st (dn (e:=5)) (.st (dq ..) (.bQ ?_ ?_)))))))
  ·exact .s (pt 1 0) (.s (pt 1 2) (.s [aO,bx [(im (c.map c8) false),(iA a2),(bA true)],aO] (.lg rfl)))
  exact .s (pt 1 0) (.s2 (iA a2) (.st (aF ..) (.s (pt 1 0) (.s (pt 1 1) (.s [aO,bx [(im (c.map c8) false),(iA (wr .i64 (a2+1))),(bA q)],aO] (.s (pt 1 0) (.s2 (im (c.map c8) false) (.s (pt 1 0) (.s2 (iA (wr .i64 (a2+1))) (.st (dh ..) (.bd (dr (e:=5) (es:=1)) fun a9=>.s (uA ((a9.toNat:Int))) (.lg rfl))))))))))))
 rintro _ j rfl
 refine .ok (.st (aZ ..) (.bQ ?_ ?_))
 ·refine .bg (fun (t:Out×aB) (y:Int×Int×Bool)=>t=(Out.ret (A.v (.int .u64 y.1)),[aO,bx [(im (c.map c8) false),(iA y.2.1),(bA y.2.2)],aO])) ?_ ?_
  ·refine .lp ((bl zS).trans (Ku ..)) (.as (m6 C n _ _ _ _ c ?_ ?_ _ 0 0 j.2.1 j.2.2))
   ·intro aa ab ad ae af ah
    exact .un rfl (.lg rfl)
   ·intro ai aj ak al am an
    exact .un rfl (.cT r8 (.lg rfl))
  rintro _ g rfl
  refine .ok (.st (rI (hb:=by decide) ..) (.st (aZ ..) (.bQ ?_ ?_)))
  ·exact .st (rH (hb:=by decide) ..) (.st (v:=(iA (wr .i64 (wr .u64 (Int.tdiv g.1 2))))) (aV (hs:=by kernel_rfl) (hd:=by kernel_rfl) ..) (.s (iA (wr .i64 (0 - (wr .i64 (wr .u64 (Int.tdiv g.1 2)))))) (.st (dh ..) (.s (ag [(iA 1),(iA (wr .i64 ((wr .i64 (0 - (wr .i64 (wr .u64 (Int.tdiv g.1 2))))) - 1))),se,Ye]) (.s [aO,bx [(im (c.map c8) false),(iA g.2.1),(bA g.2.2)],bx [(iA 1),(iA (wr .i64 ((wr .i64 (0 - (wr .i64 (wr .u64 (Int.tdiv g.1 2))))) - 1))),se,Ye]] (.s (ag [(iA 1),(iA (wr .i64 ((wr .i64 (0 - (wr .i64 (wr .u64 (Int.tdiv g.1 2))))) - 1))),se,(im [] false)]) (.lf rfl rfl (gn (o:=Out.ret (ag [(iA 1),(iA (wr .i64 ((wr .i64 (0 - (wr .i64 (wr .u64 (Int.tdiv g.1 2))))) - 1))),se,(im [] false)])) (lo:=0) (off:=3) (b:=2) (p:=0) (H2:=[aO,bx [(im (c.map c8) false),(iA g.2.1),(bA g.2.2)]]) (X:=[bx [(iA 1),(iA (wr .i64 ((wr .i64 (0 - (wr .i64 (wr .u64 (Int.tdiv g.1 2))))) - 1))),se,Ye]]) (YK rfl)))))))))
  exact .st (rH (hb:=by decide) ..) (.st (v:=(iA (wr .i64 (wr .u64 (Int.tdiv g.1 2))))) (aV (hs:=by kernel_rfl) (hd:=by kernel_rfl) ..) (.s (ag [(iA 1),(iA (wr .i64 (wr .u64 (Int.tdiv g.1 2)))),se,Ye]) (.s [aO,bx [(im (c.map c8) false),(iA g.2.1),(bA g.2.2)],bx [(iA 1),(iA (wr .i64 (wr .u64 (Int.tdiv g.1 2)))),se,Ye]] (.s (ag [(iA 1),(iA (wr .i64 (wr .u64 (Int.tdiv g.1 2)))),se,(im [] false)]) (.lf rfl rfl (gn (o:=Out.ret (ag [(iA 1),(iA (wr .i64 (wr .u64 (Int.tdiv g.1 2)))),se,(im [] false)])) (lo:=0) (off:=3) (b:=2) (p:=0) (H2:=[aO,bx [(im (c.map c8) false),(iA g.2.1),(bA g.2.2)]]) (X:=[bx [(iA 1),(iA (wr .i64 (wr .u64 (Int.tdiv g.1 2)))),se,Ye]]) (YK rfl)))))))
 refine .st (aZ ..) (.bQ ?_ ?_)
 ·refine .bg (fun (t:Out×aB) (y:Int×Int×Bool)=>t=(Out.ret (A.v (.int .u64 y.1)),[aO,bx [(im (c.map c8) false),(iA y.2.1),(bA y.2.2)],aO])) ?_ ?_
  ·refine .lp ((bl zS).trans (Ku ..)) (.as (m6 C n _ _ _ _ c ?_ ?_ _ 0 0 j.2.1 j.2.2))
   ·intro ao ap aq au av aw
    exact .un rfl (.lg rfl)
   ·intro ay az b0 b1 b2 b3
    exact .un rfl (.cT r8 (.lg rfl))
  rintro _ d rfl
  refine .ok (.s (pt 1 0) (.s2 (bA d.2.2) (.Ob (.bg (fun t (y:Bool)=>∃ a5:A,t=[(bA y),a5]) ?_ ?_))))
  ·refine .FA (fun u=>?_) (fun u=>?_)
   ·exact .bb (.s (pt 1 0) (.s (pt 1 0) (.s (im (c.map c8) false) (.st (dn (e:=5)) (.s (pt 1 0) (.s (pt 1 1) (.s (iA d.2.1) (.st (dh ..) (.st (v:=(A.v (.int .u64 (wr .u64 (wr .i64 (((c.length:Int)) - d.2.1)))))) (aV (hs:=by kernel_rfl) (hd:=by kernel_rfl) ..) (.cr (.u4 (.u4 (.u4 (.qb u (.st (cC ..) (.lg ⟨_,rfl⟩))))))))))))))))
   exact .bb (.cr (.u4 (.u4 (.u4 (.qs u (.lg ⟨_,rfl⟩))))))
  rintro _ b4 ⟨a5,rfl⟩
  refine .uc (.uc (.bQ ?_ ?_))
  ·exact .s (pt 1 0) (.s (pt 1 2) (.sh (.s (ag [(iA 0),(iA 0),se,Ye]) (.s [aO,bx [(im (c.map c8) false),(iA d.2.1),(bA true)],aO] (.s lL (.lf rfl rfl (gn (o:=Out.ret lL) (lo:=0) (off:=3) (b:=2) (p:=0) (H2:=[aO,bx [(im (c.map c8) false),(iA d.2.1),(bA true)]]) (X:=[aO]) (YK rfl))))))))
  exact .s (pt 1 0) (.s2 (iA d.2.1) (.st (v:=(iA (wr .i64 (d.1)))) (aV (hs:=by kernel_rfl) (hd:=by kernel_rfl) ..) (.st (aF ..) (.s (pt 1 0) (.s (pt 1 1) (.s [aO,bx [(im (c.map c8) false),(iA (wr .i64 (d.2.1+(wr .i64 (d.1))))),(bA d.2.2)],aO] (.s (pt 1 0) (.s2 (im (c.map c8) false) (.s (pt 1 0) (.s2 (iA (wr .i64 (d.2.1+(wr .i64 (d.1))))) (.st (v:=(iA (wr .i64 (d.1)))) (aV (hs:=by kernel_rfl) (hd:=by kernel_rfl) ..) (.st (dh ..) (.s (pt 1 0) (.s2 (iA (wr .i64 (d.2.1+(wr .i64 (d.1))))) (.bd (pL (e:=5) (es:=1) (f:=c8) (l:=c) (a:=wr .i64 ((wr .i64 (d.2.1+(wr .i64 (d.1)))) - (wr .i64 (d.1)))) (b:=wr .i64 (d.2.1+(wr .i64 (d.1)))) r8 r8 (fun _=>rfl) (.inr ⟨_,rfl⟩) (.inr ⟨_,rfl⟩)) fun k=>.st (v:=(A.v (Value.string (gp k)))) (nV (e:=5) (l:=k) r8 r8 r8 r8 (bH ..) rfl) (.s (ag [(iA 2),(iA 0),(A.v (Value.string (gp k))),Ye]) (.s [aO,bx [(im (c.map c8) false),(iA (wr .i64 (d.2.1+(wr .i64 (d.1))))),(bA d.2.2)],bx [(iA 2),(iA 0),(A.v (Value.string (gp k))),Ye]] (.s (ag [(iA 2),(iA 0),(A.v (Value.string (gp k))),(im [] false)]) (.lf rfl rfl (gn (o:=Out.ret (ag [(iA 2),(iA 0),(A.v (Value.string (gp k))),(im [] false)])) (lo:=0) (off:=3) (b:=2) (p:=0) (H2:=[aO,bx [(im (c.map c8) false),(iA (wr .i64 (d.2.1+(wr .i64 (d.1))))),(bA d.2.2)]]) (X:=[bx [(iA 2),(iA 0),(A.v (Value.string (gp k))),Ye]]) (YK rfl)))))))))))))))))))))
 refine .st (aZ ..) (.bQ ?_ ?_)
 ·refine .bg (fun (t:Out×aB) (y:Int×Int×Bool)=>t=(Out.ret (A.v (.int .u64 y.1)),[aO,bx [(im (c.map c8) false),(iA y.2.1),(bA y.2.2)],aO])) ?_ ?_
  ·refine .lp ((bl zS).trans (Ku ..)) (.as (m6 C n _ _ _ _ c ?_ ?_ _ 0 0 j.2.1 j.2.2))
   ·intro b5 b6 b7 b8 b9 ba
    exact .un rfl (.lg rfl)
   ·intro bc be bf bh bj bk
    exact .un rfl (.cT r8 (.lg rfl))
  rintro _ i rfl
  refine .ok (.s (pt 1 0) (.s2 (bA i.2.2) (.Ob (.bg (fun t (y:Bool)=>∃ a6:A,t=[(bA y),a6]) ?_ ?_))))
  ·refine .FA (fun w=>?_) (fun w=>?_)
   ·exact .bb (.s (pt 1 0) (.s (pt 1 0) (.s (im (c.map c8) false) (.st (dn (e:=5)) (.s (pt 1 0) (.s (pt 1 1) (.s (iA i.2.1) (.st (dh ..) (.st (v:=(A.v (.int .u64 (wr .u64 (wr .i64 (((c.length:Int)) - i.2.1)))))) (aV (hs:=by kernel_rfl) (hd:=by kernel_rfl) ..) (.cr (.u4 (.u4 (.u4 (.qb w (.st (cC ..) (.lg ⟨_,rfl⟩))))))))))))))))
   exact .bb (.cr (.u4 (.u4 (.u4 (.qs w (.lg ⟨_,rfl⟩))))))
  rintro _ bm ⟨a6,rfl⟩
  refine .uc (.uc (.bg (fun t (y:Bool)=>∃ a7 a8:A,t=[(bA y),a7,a8]) ?_ ?_))
  ·refine .bi ?_ ?_
   ·exact .lg ⟨_,_,rfl⟩
   exact .st (aZ ..) (.lg ⟨_,_,rfl⟩)
  rintro _ bn ⟨a7,a8,rfl⟩
  refine .uc (.uc (.uc (.bQ ?_ ?_)))
  ·exact .s (pt 1 0) (.s (pt 1 2) (.sh (.s (ag [(iA 0),(iA 0),se,Ye]) (.s [aO,bx [(im (c.map c8) false),(iA i.2.1),(bA true)],aO] (.s lL (.lf rfl rfl (gn (o:=Out.ret lL) (lo:=0) (off:=3) (b:=2) (p:=0) (H2:=[aO,bx [(im (c.map c8) false),(iA i.2.1),(bA true)]]) (X:=[aO]) (YK rfl))))))))
  refine .s (ag [(iA 3),(iA 0),se,Ye]) (.sq (pt 3 0) (.s [aO,bx [(im (c.map c8) false),(iA i.2.1),(bA i.2.2)],aO,bx [(iA 3),(iA 0),se,Ye]] (.as (wW C n _ _ _ _ self hS r i.1 c 3 0 iK ?_ _ 0 i.2.1 i.2.2 (([]:List ar))))))
  ·intro x a0 h bo bp bq
   exact .un rfl (.cT r8 (.s (ag [(iA 3),(iA 0),se,(bM 4 0 h.length false)]) (.s [aO,bx [(im (c.map c8) false),(iA x),(bA a0)],(lK h),(lK h),aC.row false 4 (h.map ax)] (.st (v:=(ag [(iA 3),(iA 0),se,(im (h.map ax) false)])) ((YX (fun z=>lC prog 108 (pt 2 0) z) (rQ (H:=[aO,bx [(im (c.map c8) false),(iA x),(bA a0)],(lK h),(lK h),aC.row false 4 (h.map ax)]) (lo:=0) (off:=3) (b:=2) (o:=0) (b':=4) (es:=4) (l:=h) cD rfl rfl rfl (YK rfl))).trans r8) (.lf rfl rfl (gn (o:=Out.ret (ag [(iA 3),(iA 0),se,(im (h.map ax) false)])) (lo:=0) (off:=3) (b:=2) (p:=0) (H2:=[aO,bx [(im (c.map c8) false),(iA x),(bA a0)]]) (X:=[(lK h),(lK h),aC.row false 4 (h.map ax)]) (YK rfl)))))))
 exact .s (pt 1 0) (.s (pt 1 2) (.sh (.s (ag [(iA 0),(iA 0),se,Ye]) (.s [aO,bx [(im (c.map c8) false),(iA j.2.1),(bA true)],aO] (.s lL (.lf rfl rfl (gn (o:=Out.ret lL) (lo:=0) (off:=3) (b:=2) (p:=0) (H2:=[aO,bx [(im (c.map c8) false),(iA j.2.1),(bA true)]]) (X:=[aO]) (YK rfl))))))))
def rF:Nat->(List UInt8)->Int->Bool->Int->Option (ar×Int×Bool)
 | 0=>fun _ _ _ _=>none
 | N+1=>fun a1 a2 a3 a4=>bif Nat.ble 8 N then qR (rF N) (N - 8) a1 a2 a3 a4 else none
theorem Iq (C:OT):∀ N,Cv C N (rF N)
 | 0=>fun _ _ _ _ X r h=>by cases h
 | N+1=>fun a a2 b c X=>by
  show J _ _ _ (bif Nat.ble 8 N then qR (rF N) (N - 8) a a2 b c else none) _
  cases h:Nat.ble 8 N with
  | false=>exact fun r h=>by cases h
  | true=>
   obtain ⟨n,rfl⟩:∃ n,N=n+8:=⟨N - 8,by have:=YK h; omega⟩
   rw[qaz]
   exact DM (m:=2) r8 r8 (by decide) rfl r8 ((by kernel_rfl:_=((((aM 2 (a.map c8))&&true))&&true)).trans u3) (fun _=>rfl) (fun y=>((by kernel_rfl:_=((aM 2 (y.1.L.map ax))&&true)).trans u3)) (fun y=>((by kernel_rfl:_=((((aM 2 (a.map c8))&&true))&&true)).trans u3)) (Me C n  (rF (n+8)) (Iq C  (n+8)) a a2 b c)
def vj (C:OT) (self:ar->Option Bool):Prop:=∀ (a:ar),C 117 [(ag (al a))]=(self a).map fun y=>(bA y)
def gI (self:ar->Option Bool) (n:Nat) (a:ar):Nat->Int->Option ((Bool)⊕(Unit))
 | 0,_=>none
 | m+1,b=>bif (decide (b<((a.L.length:Int)))) then ((bf a.L b).bind fun c=>(self c).bind fun d=>bif (!d) then (some ((Sum.inl false))) else (gI self n a m (wr .i64 (b+1)))) else (some ((Sum.inr (()))))
theorem yV (self:ar->Option Bool) (hS:vj C self) {LB:A} (a:ar) {K:((Bool)⊕(Unit))->Option γ} (h:∀ (f:Bool) (i:A) (b:A) (q0:aC),J φ (kr (St.mk [(1,i),(2,(bA f)),(3,b)] [q0])) kL (K (Sum.inl f)) some) (j:∀ (s2:A) (b:A),J φ (kx 1 (St.mk [(1,(pt 0 0)),(2,s2),(3,b)] [bx (al a)])) kL (K (Sum.inr (()))) some) :
  ∀ (m:Nat) (c:Int),J φ (aE (cx C) (ec C n 8) (ey C n 8) (n+8) 117 0 0 1 kx kg kr kp m (St.mk [(1,(pt 0 0)),(2,LB),(3,(iA c))] [bx (al a)])) kL (gI self n a m c) K:=by
  refine nI (fun _=>.nn) fun m ih c=>.lp (Ks ..) ?_
  unfold gI
  refine .s2 (im (a.L.map ax) false) (.st (dn (e:=108)) (.st (aS ..) (.bQ ?_ ?_)))
  ·refine .s2 (im (a.L.map ax) false) (.bd ((dr (e:=108) (es:=4)).trans (eo _)) fun d=>.s (ag (al d)) (.bd (g:=fun (y:Bool)=>(bA y)) (by show C 117 [snap _ (ag (al d))]=_; simp only[cf,dF]; exact hS d) fun k=>.s (bA (!k)) (.bQ ?_ ?_)))
   ·exact .ex (h _ _ _ _)
   refine .st (aF ..) (.s [bx (al a)] (.cT r8 ?_))
   exact ih _
  exact .ex (j _ _)
def Cp (self:ar->Option Bool) (n:Nat) (a:ar):Option Bool:=
 bif (a.Kind==1) then ((bif (jy a.S ((ByteArray.mk #[]))) then (some (((a.L.length:Int))==0)) else (some false)).bind fun b=>some b) else (bif (a.Kind==2) then ((bif (a.N==0) then (some (((a.L.length:Int))==0)) else (some false)).bind fun c=>some c) else (bif (a.Kind==3) then ((gI self n a (n+8) 0).bind fun d=>match d with | (Sum.inl e)=>some e | (Sum.inr _)=>(bif (a.N==0) then (some (jy a.S ((ByteArray.mk #[])))) else (some false)).bind fun f=>some f) else (some false)))
theorem Q2 (C:OT) (n:Nat) (self:ar->Option Bool) (hS:vj C self) (a:ar):TJ C n 117 [(ag (al a))] (Cp self n a) (fun y=>(bA y)):=by
 refine .lp (Ro ..) ?_
 unfold Cp
 refine .s ((pt 0 0),[bx (al a)]) (.s2 (iA a.Kind) (.st (aZ ..) (.bQ ?_ ?_)))
 ·refine .s2 (sA a.S) (.st (jX ..) (.bg (fun t (y:Bool)=>∃ b c d f:A,t=[(bA y),b,c,d,f]) ?_ ?_))
  ·refine .bi ?_ ?_
   ·exact .s (pt 0 3) (.s (im (a.L.map ax) false) (.st (dn (e:=108)) (.st (aZ ..) (.lg ⟨_,_,_,_,rfl⟩))))
   exact .lg ⟨_,_,_,_,rfl⟩
  rintro _ p ⟨b,c,d,f,rfl⟩
  exact .u4 (.uc (.lv rfl))
 refine .st (aZ ..) (.bQ ?_ ?_)
 ·refine .s2 (iA a.N) (.st (aZ ..) (.bg (fun t (y:Bool)=>∃ g h i j:A,t=[(bA y),g,h,i,j]) ?_ ?_))
  ·refine .bi ?_ ?_
   ·exact .s (pt 0 3) (.s (im (a.L.map ax) false) (.st (dn (e:=108)) (.st (aZ ..) (.lg ⟨_,_,_,_,rfl⟩))))
   exact .lg ⟨_,_,_,_,rfl⟩
  rintro _ q ⟨g,h,i,j,rfl⟩
  exact .u4 (.uc (.lv rfl))
 refine .st (aZ ..) (.bQ ?_ ?_)
 ·refine .as (yV C n _ _ _ _ self hS a ?_ ?_ _ 0)
  ·intro r u v w52
   exact .un rfl (.lv rfl)
  ·intro w x
   refine .un rfl (.cT r8 (.s2 (iA a.N) (.st (aZ ..) (.bg (fun t (y:Bool)=>∃ k l o:A,t=[(bA y),k,l,o]) ?_ ?_))))
   ·refine .bi ?_ ?_
    ·exact .s (pt 0 2) (.s (sA a.S) (.st (jX ..) (.lg ⟨_,_,_,rfl⟩)))
    exact .lg ⟨_,_,_,rfl⟩
   rintro _ z ⟨k,l,o,rfl⟩
   exact .u4 (.lv rfl)
 exact .lv rfl
def wT:Nat->ar->Option Bool
 | 0=>fun _=>none
 | q+1=>fun a0=>Cp (wT q) aA a0
def FJ (a:ar):Option Bool:=wT aA a
def CA (C:OT):Prop:=∀ (a:ar),C 117 [(ag (al a))]=(FJ a).map fun y=>(bA y)
def vk (C:OT) (self:ar->Option Int):Prop:=∀ (a:ar),C 118 [(ag (al a))]=(self a).map fun y=>(iA y)
def gJ (self:ar->Option Int) (n:Nat) (a:ar):Nat->Int->Int->Option (Int)
 | 0,_,_=>none
 | m+1,b,c=>bif (decide (c<((a.L.length:Int)))) then ((bf a.L c).bind fun e=>(self e).bind fun d=>gJ self n a m ((if b<d then d else b)) (wr .i64 (c+1))) else (some b)
theorem yW (self:ar->Option Int) (hS:vk C self) {w22:A} (a:ar) {K:(Int)->Option γ} (i:∀ (f:Int) (j:A) (s2:A) (k:A) (q0:aC),J φ (kx 0 (St.mk [(1,j),(2,s2),(3,(iA f)),(4,k)] [q0])) kL (K f) some) :
  ∀ (m:Nat) (b:Int) (c:Int),J φ (aE (cx C) (ec C n 8) (ey C n 8) (n+8) 118 0 0 1 kx kg kr kp m (St.mk [(1,(pt 0 0)),(2,w22),(3,(iA b)),(4,(iA c))] [bx (al a)])) kL (gJ self n a m b c) K:=by
  refine nI (fun _ _=>.nn) fun m ih b c=>.lp (Kt ..) ?_
  unfold gJ
  refine .s2 (im (a.L.map ax) false) (.st (dn (e:=108)) (.st (aS ..) (.bQ ?_ ?_)))
  ·refine .s2 (im (a.L.map ax) false) (.bd ((dr (e:=108) (es:=4)).trans (eo _)) fun d=>.s (ag (al d)) (.bd (g:=fun (y:Int)=>(iA y)) (by show C 118 [snap _ (ag (al d))]=_; simp only[cf,dF]; exact hS d) fun h=>.s (iA ((if b<h then h else b))) (.st (aF ..) (.s [bx (al a)] (.cT r8 ?_)))))
   exact ih _ _
  exact .ex (i _ _ _ _ _)
def Cq (self:ar->Option Int) (n:Nat) (a:ar):Option Int:=
 bif (a.Kind != 3) then (some 0) else ((gJ self n a (n+8) 0 0).bind fun PB=>match PB with | b=>some (wr .i64 (b+1)))
theorem Q3 (C:OT) (n:Nat) (self:ar->Option Int) (hS:vk C self) (a:ar):TJ C n 118 [(ag (al a))] (Cq self n a) (fun y=>(iA y)):=by
 refine .lp (Rq ..) ?_
 unfold Cq
 refine .s ((pt 0 0),[bx (al a)]) (.s2 (iA a.Kind) (.st (aH ..) (.bQ ?_ ?_)))
 ·exact .lv rfl
 refine .as (yW C n _ _ _ _ self hS a ?_ _ 0 0)
 ·intro b c d e TX
  exact .un rfl (.cT r8 (.st (aF ..) (.lv rfl)))
def wU:Nat->ar->Option Int
 | 0=>fun _=>none
 | q+1=>fun a0=>Cq (wU q) aA a0
def FK (a:ar):Option Int:=wU aA a
def CB (C:OT):Prop:=∀ (a:ar),C 118 [(ag (al a))]=(FK a).map fun y=>(iA y)
def FC (n:Nat) (a:ar):Option Int:=
 (FJ a).bind fun b=>bif (!b) then (some 1) else ((FK a).bind fun c=>bif (decide (16<c)) then (some 2) else (some 0))
theorem QV (C:OT) (n:Nat) (b:CA C) (c:CB C) (a:ar):TJ C n 101 [(ag (al a))] (FC n a) (fun y=>(iA y)):=by
 refine .lp (Rg ..) ?_
 unfold FC
 refine .s ((pt 0 0),[bx (al a)]) (.s (ag (al a)) (.bd (g:=fun (y:Bool)=>(bA y)) (by simp only[cf,dF]; exact b a) fun d=>.s (bA (!d)) (.bQ ?_ ?_)))
 ·exact .lv rfl
 refine .s (ag (al a)) (.bd (g:=fun (y:Int)=>(iA y)) (by simp only[cf,dF]; exact c a) fun e=>.st (cC ..) (.bQ ?_ ?_))
 ·exact .lv rfl
 exact .lv rfl
def Bw (a:ar):Option Int:=FC aA a
def yP (C:OT):Prop:=∀ (a:ar),C 101 [(ag (al a))]=(Bw a).map fun y=>(iA y)
def FG (n:Nat) (a:Int):Option Int:=
 bif (decide (0<=a)) then (some (wr .u64 (2*(wr .u64 (a))))) else (some (wr .u64 ((wr .u64 (2*(wr .u64 (wr .i64 (0 - (wr .i64 (a+1)))))))+1)))
theorem Q5 (C:OT) (n:Nat) (a:Int):TJ C n 120 [(iA a)] (FG n a) (fun y=>(A.v (.int .u64 y))):=by
 refine .lp (Rt ..) ?_
 unfold FG
 refine .st (dq ..) (.bQ ?_ ?_)
 ·exact .st (v:=(A.v (.int .u64 (wr .u64 (a))))) (aV (hs:=by kernel_rfl) (hd:=by kernel_rfl) ..) (.st (pA ..) (.lv rfl))
 exact .st (aF ..) (.s (iA (wr .i64 (0 - (wr .i64 (a+1))))) (.st (v:=(A.v (.int .u64 (wr .u64 (wr .i64 (0 - (wr .i64 (a+1)))))))) (aV (hs:=by kernel_rfl) (hd:=by kernel_rfl) ..) (.st (pA ..) (.st (aF ..) (.lv rfl)))))
def Cu (a:Int):Option Int:=FG aA a
def CD (C:OT):Prop:=∀ (a:Int),C 120 [(iA a)]=(Cu a).map fun y=>(A.v (.int .u64 y))
def AA (C:OT) (self:Int->Option (List UInt8)):Prop:=∀ (a:Int),C 119 [(A.v (.int .u64 a))]=(self a).map fun y=>(im (y.map c8) false)
def yM (self:Int->Option (List UInt8)) (n:Nat) (a:Int):Option (List UInt8):=
 bif (decide (a<128)) then (bif (decide (0<=(wr .u8 (a)))&&decide ((wr .u8 (a))<256)) then (some ([(UInt8.ofNat (Int.toNat (wr .u8 (a))))])) else none) else (bif (decide (0<=(wr .u8 (wr .u64 ((Int.tmod a 128)+128))))&&decide ((wr .u8 (wr .u64 ((Int.tmod a 128)+128)))<256)) then ((self (wr .u64 (Int.tdiv a 128))).bind fun b=>(cQ 1 ([(UInt8.ofNat (Int.toNat (wr .u8 (wr .u64 ((Int.tmod a 128)+128)))))]) b).bind fun c=>some c) else none)
theorem Q4 (C:OT) (n:Nat) (self:Int->Option (List UInt8)) (hS:AA C self) (a:Int):TJ C n 119 [(A.v (.int .u64 a))] (yM self n a) (fun y=>(im (y.map c8) false)):=by
 refine .lp (Rs ..) ?_
 unfold yM
 refine .st (aS ..) (.bQ ?_ ?_)
 ·exact .st (v:=(uA (wr .u8 (a)))) (aV (hs:=by kernel_rfl) (hd:=by kernel_rfl) ..) (.gd fun hg=>.st (v:=(im [[(uA (((UInt8.ofNat (Int.toNat (wr .u8 (a)))).toNat:Int)))]] true)) (by rw[fF hg]; kernel_rfl) (.lv u2))
 exact .st (rI (hb:=by decide) ..) (.st (aF ..) (.st (v:=(uA (wr .u8 (wr .u64 ((Int.tmod a 128)+128))))) (aV (hs:=by kernel_rfl) (hd:=by kernel_rfl) ..) (.gd fun hg=>.st (v:=(im [[(uA (((UInt8.ofNat (Int.toNat (wr .u8 (wr .u64 ((Int.tmod a 128)+128))))).toNat:Int)))]] true)) (by rw[fF hg]; kernel_rfl) (.st (rH (hb:=by decide) ..) (.bd (g:=fun (y:(List UInt8))=>(im (y.map c8) false)) (hS (wr .u64 (Int.tdiv a 128))) fun d=>.bd (g:=fun (y:List UInt8)=>((bM 0 0 y.length false),[aC.row false 1 (y.map c8)])) (kF df (l:=[(UInt8.ofNat (Int.toNat (wr .u8 (wr .u64 ((Int.tmod a 128)+128)))))]) (l2:=d) (bH ..)) fun c=>.lv (by show br [aC.row false 1 (c.map c8)] (bM 0 0 c.length false)=_; first | (simp only[cf,dF,br,bP (H:=[aC.row false 1 (c.map c8)]) (b:=0) (es:=1) (wr:=false) (l:=c) fg rfl]; done) | (simp only[cf,g8,br,bP (H:=[aC.row false 1 (c.map c8)]) (b:=0) (es:=1) (wr:=false) (l:=c) fg rfl]; first | done | rfl)))))))
def wV:Nat->Int->Option (List UInt8)
 | 0=>fun _=>none
 | q+1=>fun a0=>yM (wV q) aA a0
def Bx (a:Int):Option (List UInt8):=wV aA a
def CC (C:OT):Prop:=∀ (a:Int),C 119 [(A.v (.int .u64 a))]=(Bx a).map fun y=>(im (y.map c8) false)
def vh (C:OT) (self:ar->Option (List UInt8)):Prop:=∀ (a:ar),C 102 [(ag (al a))]=(self a).map fun y=>(im (y.map c8) false)
def gG (self:ar->Option (List UInt8)) (n:Nat) (a:ar):Nat->Int->(List UInt8)->Option ((List UInt8))
 | 0,_,_=>none
 | m+1,b,c=>bif (decide (b<((a.L.length:Int)))) then ((bf a.L b).bind fun d=>(self d).bind fun e=>(cQ 1 c e).bind fun f=>gG self n a m (wr .i64 (b+1)) f) else (some c)
theorem yT (self:ar->Option (List UInt8)) (hS:vh C self) {w38:A} (a:ar) {K:((List UInt8))->Option γ} (i:∀ (d:(List UInt8)) (j:A) (s2:A) (k:A) (q0:aC),J φ (kx 1 (St.mk [(1,j),(2,s2),(3,(bM 1 0 d.length false)),(4,k)] [q0,aC.row false 1 (d.map c8)])) kL (K d) some) :
  ∀ (m:Nat) (f:Int) (c:(List UInt8)),J φ (aE (cx C) (ec C n 8) (ey C n 8) (n+8) 102 0 0 2 kx kg kr kp m (St.mk [(1,(pt 0 0)),(2,w38),(3,(bM 1 0 c.length false)),(4,(iA f))] [bx (al a),aC.row false 1 (c.map c8)])) kL (gG self n a m f c) K:=by
  refine nI (fun _ _=>.nn) fun m ih f c=>.lp (Kk ..) ?_
  unfold gG
  refine .s2 (im (a.L.map ax) false) (.st (dn (e:=108)) (.st (aS ..) (.bQ ?_ ?_)))
  ·refine .s2 (im (a.L.map ax) false) (.bd ((dr (e:=108) (es:=4)).trans (eo _)) fun h=>.s (ag (al h)) (.bd (g:=fun (y:(List UInt8))=>(im (y.map c8) false)) (by show C 102 [snap _ (ag (al h))]=_; simp only[cf,dF,bU (H:=[bx (al a),aC.row false 1 (c.map c8)]) (b:=1) (es:=1) (l:=c) fg rfl]; exact hS h) fun o=>.bd (g:=fun (y:List UInt8)=>((bM 1 0 y.length false),[bx (al a),aC.row false 1 (y.map c8)])) (bZ df (l:=c) (l2:=o) (b:=1) rfl (by decide) (bH ..)) fun p=>.st (aF ..) (.s [bx (al a),aC.row false 1 (p.map c8)] (.cT r8 ?_))))
   exact ih _ _
  exact .ex (i _ _ _ _ _)
def Cm (self:ar->Option (List UInt8)) (n:Nat) (a:ar):Option (List UInt8):=
 bif (a.Kind==1) then ((Cu a.N).bind fun b=>(Bx b).bind fun c=>(cQ 1 ([(1:UInt8)]) c).bind fun d=>some d) else (bif (a.Kind==2) then ((Bx (wr .u64 ((a.S.size:Int)))).bind fun e=>(cQ 1 ([(2:UInt8)]) e).bind fun f=>(cQ 1 f (lF a.S)).bind fun g=>some g) else ((Bx (wr .u64 ((a.L.length:Int)))).bind fun h=>(cQ 1 ([(3:UInt8)]) h).bind fun i=>(gG self n a (n+8) 0 i).bind fun j=>match j with | k=>some k))
theorem QW (C:OT) (n:Nat) (h:CC C) (i:CD C) (self:ar->Option (List UInt8)) (hS:vh C self) (a:ar):TJ C n 102 [(ag (al a))] (Cm self n a) (fun y=>(im (y.map c8) false)):=by
 refine .lp (Rh ..) ?_
 unfold Cm
 refine .s ((pt 0 0),[bx (al a)]) (.s2 (iA a.Kind) (.st (aZ ..) (.bQ ?_ ?_)))
 ·exact .s (im [[(uA 1)]] true) (.s2 (iA a.N) (.bd (i a.N) fun j=>.bd (h j) fun k=>.bd (g:=fun (y:List UInt8)=>((bM 1 0 y.length false),[bx (al a),aC.row false 1 (y.map c8)])) (kF df (l:=[(1:UInt8)]) (l2:=k) (bH ..)) fun c=>.lv (by show br [bx (al a),aC.row false 1 (c.map c8)] (bM 1 0 c.length false)=_; first | (simp only[cf,dF,br,bP (H:=[bx (al a),aC.row false 1 (c.map c8)]) (b:=1) (es:=1) (wr:=false) (l:=c) fg rfl]; done) | (simp only[cf,g8,br,bP (H:=[bx (al a),aC.row false 1 (c.map c8)]) (b:=1) (es:=1) (wr:=false) (l:=c) fg rfl]; first | done | rfl))))
 refine .st (aZ ..) (.bQ ?_ ?_)
 ·exact .s (im [[(uA 2)]] true) (.s2 (sA a.S) (.s (iA ((a.S.size:Int))) (.st (v:=(A.v (.int .u64 (wr .u64 ((a.S.size:Int)))))) (aV (hs:=by kernel_rfl) (hd:=by kernel_rfl) ..) (.bd (h (wr .u64 ((a.S.size:Int)))) fun o=>.bd (g:=fun (y:List UInt8)=>((bM 1 0 y.length false),[bx (al a),aC.row false 1 (y.map c8)])) (kF df (l:=[(2:UInt8)]) (l2:=o) (bH ..)) fun p=>.cT r8 (.s (pt 0 2) (.cT r8 (.s (sA a.S) (.bd (g:=fun (y:List UInt8)=>((bM 1 0 y.length false),[bx (al a),aC.row false 1 (y.map c8)])) (bZ vz (l:=p) (l2:=lF a.S) (b:=1) rfl (by decide) (ry ..)) fun d=>.lv (by show br [bx (al a),aC.row false 1 (d.map c8)] (bM 1 0 d.length false)=_; first | (simp only[cf,dF,br,bP (H:=[bx (al a),aC.row false 1 (d.map c8)]) (b:=1) (es:=1) (wr:=false) (l:=d) fg rfl]; done) | (simp only[cf,g8,br,bP (H:=[bx (al a),aC.row false 1 (d.map c8)]) (b:=1) (es:=1) (wr:=false) (l:=d) fg rfl]; first | done | rfl))))))))))
 refine .s (im [[(uA 3)]] true) (.s2 (im (a.L.map ax) false) (.st (dn (e:=108)) (.st (v:=(A.v (.int .u64 (wr .u64 ((a.L.length:Int)))))) (aV (hs:=by kernel_rfl) (hd:=by kernel_rfl) ..) (.bd (h (wr .u64 ((a.L.length:Int)))) fun q=>.bd (g:=fun (y:List UInt8)=>((bM 1 0 y.length false),[bx (al a),aC.row false 1 (y.map c8)])) (kF df (l:=[(3:UInt8)]) (l2:=q) (bH ..)) fun r=>.as (yT C n _ _ _ _ self hS a ?_ _ 0 r)))))
 ·intro f t u w w51
  exact .un rfl (.cT r8 (.lv (by show br [w51,aC.row false 1 (f.map c8)] (bM 1 0 f.length false)=_; first | (simp only[cf,dF,br,bP (H:=[w51,aC.row false 1 (f.map c8)]) (b:=1) (es:=1) (wr:=false) (l:=f) fg rfl]; done) | (simp only[cf,g8,br,bP (H:=[w51,aC.row false 1 (f.map c8)]) (b:=1) (es:=1) (wr:=false) (l:=f) fg rfl]; first | done | rfl))))
def wR:Nat->ar->Option (List UInt8)
 | 0=>fun _=>none
 | q+1=>fun a0=>Cm (wR q) aA a0
def Cs (a:ar):Option (List UInt8):=wR aA a
def yQ (C:OT):Prop:=∀ (a:ar),C 102 [(ag (al a))]=(Cs a).map fun y=>(im (y.map c8) false)
def Ps (n:Nat) (b:(List UInt8)):Option (ar×Int):=
 (rF (n+8) b 0 false 0).bind fun a=>(bif a.2.2 then (some true) else (some (a.2.1 != ((b.length:Int))))).bind fun c=>(bif c then (some true) else ((Bw a.1).bind fun d=>some (d != 0))).bind fun e=>(bif e then (some true) else ((Cs a.1).bind fun f=>some (!jy (gp f) (gp b)))).bind fun g=>bif g then (some (((ar.mk 0 0 iK ([])),10))) else (some ((a.1,0)))
theorem Wo (C:OT) (n:Nat) (x:yP C) (z:yQ C) (b:(List UInt8)):TJ C n 96 [(im (b.map c8) false)] (Ps n b) (fun y=>(tp [(ag (al y.1)),(iA y.2)])):=by
 refine .lp (Xo ..) ?_
 unfold Ps
 refine .s ((pt 0 0),[aO]) (.s (ag [(im (b.map c8) false),(iA 0),(bA false)]) (.s ((pt 1 0),[aO,bx [(im (b.map c8) false),(iA 0),(bA false)]]) (.bg (fun (t:R) (y:(ar×Int×Bool))=>t=(Out.ret (ag [(iA y.1.Kind),(iA y.1.N),(sA y.1.S),(im (y.1.L.map ax) false)]),[aO,bx [(im (b.map c8) false),(iA y.2.1),(bA y.2.2)]])) (Iq C (n+8) b 0 false 0 []) ?_)))
 rintro _ a rfl
 refine .ok (.sq (pt 2 0) (.s [aO,bx [(im (b.map c8) false),(iA a.2.1),(bA a.2.2)],bx (al a.1)] (.s (pt 1 0) (.s2 (bA a.2.2) (.bg (fun t (y:Bool)=>∃ d f h i j k o:A,t=[(bA y),d,f,h,i,j,k,o]) ?_ ?_)))))
 ·refine .bi ?_ ?_
  ·exact .lg ⟨_,_,_,_,_,_,_,rfl⟩
  exact .s (pt 1 0) (.s (pt 1 1) (.s (iA a.2.1) (.st (dn (e:=5)) (.st (aH ..) (.lg ⟨_,_,_,_,_,_,_,rfl⟩)))))
 rintro _ y3 ⟨d,f,h,i,j,k,o,rfl⟩
 refine .u4 (.u4 (.bg (fun t (y:Bool)=>∃ p q r:A,t=[(bA y),p,q,r]) ?_ ?_))
 ·refine .bi ?_ ?_
  ·exact .lg ⟨_,_,_,rfl⟩
  exact .s (ag (al a.1)) (.bd (g:=fun (y:Int)=>(iA y)) (by simp only[cf,dF]; exact x a.1) fun a2=>.st (aH ..) (.lg ⟨_,_,_,rfl⟩))
 rintro _ a3 ⟨p,q,r,rfl⟩
 refine .u4 (.XO (.bg (fun t (y:Bool)=>∃ u:A,t=[(bA y),u]) ?_ ?_))
 ·refine .FA (fun c=>?_) (fun c=>?_)
  ·exact .bb (.s (ag (al a.1)) (.bd (g:=fun (y:(List UInt8))=>(im (y.map c8) false)) (by simp only[cf,dF]; exact z a.1) fun w=>.st (v:=(A.v (Value.string (gp w)))) (nV (e:=5) (l:=w) r8 r8 r8 r8 (bH ..) rfl) (.st (v:=(A.v (Value.string (gp b)))) (nV (e:=5) (l:=b) r8 r8 r8 r8 (bH ..) rfl) (.cr (.u4 (.uc (.qb c (.st (yX ..) (.lg ⟨_,rfl⟩)))))))))
  exact .bb (.cr (.u4 (.uc (.qs c (.lg ⟨_,rfl⟩)))))
 rintro _ a4 ⟨u,rfl⟩
 refine .uc (.uc (.bQ ?_ ?_))
 ·exact .s (ag [(iA 0),(iA 0),se,Ye]) (.s [aO,bx [(im (b.map c8) false),(iA a.2.1),(bA a.2.2)],bx (al a.1)] (.s (ag [(iA 0),(iA 0),se,Ye]) (.lv u2)))
 exact .s (ag (al a.1)) (.s [bx (al a.1),bx [(im (b.map c8) false),(iA a.2.1),(bA a.2.2)],bx (al a.1)] (.s (ag (al a.1)) (.lv u2)))
def L5 (a:(List UInt8)):Option (ar×Int):=Ps aA a
def IU (C:OT):Prop:=∀ (a:(List UInt8)),C 96 [(im (a.map c8) false)]=(L5 a).map fun y=>(tp [(ag (al y.1)),(iA y.2)])
def lu (n:Nat) (a:ar):Nat->Int->(List Int)->Option ((Bool)⊕((List Int)))
 | 0,_,_=>none
 | m+1,b,c=>bif (decide (b<((a.L.length:Int)))) then ((bf a.L b).bind fun d=>bif (d.Kind != 1) then (some ((Sum.inl false))) else ((bf a.L b).bind fun e=>(cQ 8 c ([e.N])).bind fun f=>lu n a m (wr .i64 (b+1)) f)) else (some ((Sum.inr c)))
theorem Dx {LB w42:A} (a:ar) {K:((Bool)⊕((List Int)))->Option γ} (o:∀ (c:Bool) (i:A) (p:A) (j:A) (q0:aC) (q1:aC),J φ (kr (St.mk [(2,Ye),(3,(bA c)),(4,i),(6,p),(7,j)] [q0,q1])) kL (K (Sum.inl c)) some) (q:∀ (c:(List Int)) (s2:A) (r:A) (i:A) (j:A) (q0:aC),J φ (kx 0 (St.mk [(2,s2),(3,r),(4,i),(6,(bM 1 0 c.length false)),(7,j)] [q0,aC.row false 1 (c.map (cI .i64))])) kL (K (Sum.inr c)) some) :
  ∀ (m:Nat) (k:Int) (d:(List Int)),J φ (aE (cx C) (ec C n 8) (ey C n 8) (n+8) 79 0 0 2 kx kg kr kp m (St.mk [(2,LB),(3,w42),(4,(pt 0 0)),(6,(bM 1 0 d.length false)),(7,(iA k))] [bx (al a),aC.row false 1 (d.map (cI .i64))])) kL (lu n a m k d) K:=by
  refine nI (fun _ _=>.nn) fun m ih k d=>.lp (MP ..) ?_
  unfold lu
  refine .s2 (im (a.L.map ax) false) (.st (dn (e:=108)) (.st (aS ..) (.bQ ?_ ?_)))
  ·refine .s2 (im (a.L.map ax) false) (.bd ((dr (e:=108) (es:=4)).trans (eo _)) fun t=>.s2 (iA t.Kind) (.st (aH ..) (.bQ ?_ ?_)))
   ·exact .ex (o _ _ _ _ _ _)
   refine .s2 (im (a.L.map ax) false) (.bd ((dr (e:=108) (es:=4)).trans (eo _)) fun h=>.s2 (iA h.N) (.s (im [[(iA h.N)]] true) (.bd (g:=fun (y:List Int)=>((bM 1 0 y.length false),[bx (al a),aC.row false 1 (y.map (cI .i64))])) (bZ ky (l:=d) (l2:=[h.N]) (b:=1) rfl (by decide) (bH (f:=(cI .i64)) ([h.N]:List Int) _ _)) fun u=>.st (aF ..) (.s [bx (al a),aC.row false 1 (u.map (cI .i64))] (.cT r8 ?_)))))
   exact ih _ _
  exact .ex (q _ _ _ _ _ _)
def Pg (n:Nat) (b:(List UInt8)):Option ((List Int)×Bool):=
 (L5 b).bind fun a=>(bif (a.2 != 0) then (some true) else (some (a.1.Kind != 3))).bind fun c=>bif c then (some (([],false))) else ((lu n a.1 (n+8) 0 (([]:List Int))).bind fun PE=>match PE with | (Sum.inl d)=>some (([],d)) | (Sum.inr e)=>some ((e,true)))
theorem We (C:OT) (n:Nat) (i:IU C) (d:(List UInt8)):TJ C n 79 [(im (d.map c8) false)] (Pg n d) (fun y=>(tp [(im (y.1.map (cI .i64)) false),(bA y.2)])):=by
 refine .lp (Xb ..) ?_
 unfold Pg
 refine .bd (g:=fun (y:(ar×Int))=>(tp [(ag (al y.1)),(iA y.2)])) (by simp only[cf,dF]; exact i d) fun c=>.s (ag (al c.1)) (.s (iA c.2) (.sq (pt 0 0) (.s [bx (al c.1)] (.st (aH ..) (.bg (fun t (y:Bool)=>∃ e f h:A,t=[(bA y),e,f,h]) ?_ ?_)))))
 ·refine .bi ?_ ?_
  ·exact .lg ⟨_,_,_,rfl⟩
  exact .s (pt 0 0) (.s (iA c.1.Kind) (.st (aH ..) (.lg ⟨_,_,_,rfl⟩)))
 rintro _ j ⟨e,f,h,rfl⟩
 refine .u4 (.bQ ?_ ?_)
 ·exact .lv u2
 refine .as (Dx C n _ _ _ _ c.1 ?_ ?_ _ 0 (([]:List Int)))
 ·intro k o p q w56 w57
  exact .un rfl (.lv u2)
 ·intro a r u v w w63
  exact .un rfl (.cT r8 (.lv (by show br [w63,aC.row false 1 (a.map (cI .i64))] (tp [(bM 1 0 a.length false),(bA true)])=_; first | (simp only[cf,dF,br,bP (H:=[w63,aC.row false 1 (a.map (cI .i64))]) (b:=1) (es:=1) (wr:=false) (l:=a) (dW _) rfl]; done) | (simp only[cf,g8,br,bP (H:=[w63,aC.row false 1 (a.map (cI .i64))]) (b:=1) (es:=1) (wr:=false) (l:=a) (dW _) rfl]; first | done | rfl))))
def Ll (a:(List UInt8)):Option ((List Int)×Bool):=Pg aA a
def CU (C:OT):Prop:=∀ (a:(List UInt8)),C 79 [(im (a.map c8) false)]=(Ll a).map fun y=>(tp [(im (y.1.map (cI .i64)) false),(bA y.2)])
def OZ (n:Nat) (b:(List UInt8)):Option (bL×Bool):=
 (Ll b).bind fun a=>(bif (!a.2) then (some true) else (some (((a.1.length:Int)) != 5))).bind fun c=>(bif c then (some true) else ((bf a.1 0).bind fun d=>some (d != 1))).bind fun e=>bif e then (some (((bL.mk 0 0 0 0),false))) else ((bf a.1 1).bind fun f=>(bf a.1 2).bind fun g=>(bf a.1 3).bind fun h=>(bf a.1 4).bind fun i=>some (((bL.mk f g h i),true)))
theorem VV (C:OT) (n:Nat) (r:CU C) (f:(List UInt8)):TJ C n 45 [(im (f.map c8) false)] (OZ n f) (fun y=>(tp [(ag (aI y.1)),(bA y.2)])):=by
 refine .lp (WO ..) ?_
 unfold OZ
 refine .s ((pt 0 0),[bx [(iA 0),(iA 0),(iA 0),(iA 0)]]) (.bd (g:=fun (y:((List Int)×Bool))=>(tp [(im (y.1.map (cI .i64)) false),(bA y.2)])) (by simp only[cf,dF]; exact r f) fun h=>.s (im (h.1.map (cI .i64)) false) (.s (bA h.2) (.s (bA (!h.2)) (.bg (fun t (y:Bool)=>∃ i j k:A,t=[(bA y),i,j,k]) ?_ ?_))))
 ·refine .bi ?_ ?_
  ·exact .lg ⟨_,_,_,rfl⟩
  exact .st (dn (e:=3)) (.st (aH ..) (.lg ⟨_,_,_,rfl⟩))
 rintro _ v ⟨i,j,k,rfl⟩
 refine .u4 (.bg (fun t (y:Bool)=>∃ l o p q:A,t=[(bA y),l,o,p,q]) ?_ ?_)
 ·refine .bi ?_ ?_
  ·exact .lg ⟨_,_,_,_,rfl⟩
  exact .bd (dr (e:=3) (es:=1)) fun u=>.s (iA u) (.st (aH ..) (.lg ⟨_,_,_,_,rfl⟩))
 rintro _ w ⟨l,o,p,q,rfl⟩
 refine .u4 (.uc (.bQ ?_ ?_))
 ·exact .s (ag [(iA 0),(iA 0),(iA 0),(iA 0)]) (.s [bx [(iA 0),(iA 0),(iA 0),(iA 0)]] (.s (ag [(iA 0),(iA 0),(iA 0),(iA 0)]) (.lv rfl)))
 exact .bd (dr (e:=3) (es:=1)) fun a=>.s (iA a) (.bd (dr (e:=3) (es:=1)) fun b=>.s (iA b) (.bd (dr (e:=3) (es:=1)) fun c=>.s (iA c) (.bd (dr (e:=3) (es:=1)) fun d=>.s (iA d) (.s (ag [(iA a),(iA b),(iA c),(iA d)]) (.s [bx [(iA a),(iA b),(iA c),(iA d)]] (.s (ag [(iA a),(iA b),(iA c),(iA d)]) (.lv rfl)))))))
def LQ (a:(List UInt8)):Option (bL×Bool):=OZ aA a
def IE (C:OT):Prop:=∀ (a:(List UInt8)),C 45 [(im (a.map c8) false)]=(LQ a).map fun y=>(tp [(ag (aI y.1)),(bA y.2)])
def OY (n:Nat) (b:(List UInt8)):Option (bj×Bool):=
 (Ll b).bind fun a=>(bif (!a.2) then (some true) else (some (((a.1.length:Int)) != 4))).bind fun c=>(bif c then (some true) else ((bf a.1 0).bind fun d=>some (d != 2))).bind fun e=>bif e then (some (((bj.mk 0 0 0),false))) else ((bf a.1 1).bind fun f=>(bf a.1 2).bind fun g=>(bf a.1 3).bind fun h=>some (((bj.mk f g h),true)))
theorem VU (C:OT) (n:Nat) (q:CU C) (d:(List UInt8)):TJ C n 44 [(im (d.map c8) false)] (OY n d) (fun y=>(tp [(ag (aD y.1)),(bA y.2)])):=by
 refine .lp (WN ..) ?_
 unfold OY
 refine .s ((pt 0 0),[bx [(iA 0),(iA 0),(iA 0)]]) (.bd (g:=fun (y:((List Int)×Bool))=>(tp [(im (y.1.map (cI .i64)) false),(bA y.2)])) (by simp only[cf,dF]; exact q d) fun f=>.s (im (f.1.map (cI .i64)) false) (.s (bA f.2) (.s (bA (!f.2)) (.bg (fun t (y:Bool)=>∃ h i j:A,t=[(bA y),h,i,j]) ?_ ?_))))
 ·refine .bi ?_ ?_
  ·exact .lg ⟨_,_,_,rfl⟩
  exact .st (dn (e:=3)) (.st (aH ..) (.lg ⟨_,_,_,rfl⟩))
 rintro _ u ⟨h,i,j,rfl⟩
 refine .u4 (.bg (fun t (y:Bool)=>∃ k l o p:A,t=[(bA y),k,l,o,p]) ?_ ?_)
 ·refine .bi ?_ ?_
  ·exact .lg ⟨_,_,_,_,rfl⟩
  exact .bd (dr (e:=3) (es:=1)) fun r=>.s (iA r) (.st (aH ..) (.lg ⟨_,_,_,_,rfl⟩))
 rintro _ v ⟨k,l,o,p,rfl⟩
 refine .u4 (.uc (.bQ ?_ ?_))
 ·exact .s (ag [(iA 0),(iA 0),(iA 0)]) (.s [bx [(iA 0),(iA 0),(iA 0)]] (.s (ag [(iA 0),(iA 0),(iA 0)]) (.lv rfl)))
 exact .bd (dr (e:=3) (es:=1)) fun a=>.s (iA a) (.bd (dr (e:=3) (es:=1)) fun b=>.s (iA b) (.bd (dr (e:=3) (es:=1)) fun c=>.s (iA c) (.s (ag [(iA a),(iA b),(iA c)]) (.s [bx [(iA a),(iA b),(iA c)]] (.s (ag [(iA a),(iA b),(iA c)]) (.lv rfl))))))
def LP (a:(List UInt8)):Option (bj×Bool):=OY aA a
def ID (C:OT):Prop:=∀ (a:(List UInt8)),C 44 [(im (a.map c8) false)]=(LP a).map fun y=>(tp [(ag (aD y.1)),(bA y.2)])
def Pa (n:Nat) (c:av) (b:ay):Option Bool:=
 bif (b.From==0) then ((LQ b.Data).bind fun d=>(bif d.2 then ((Lp d.1 ((c.Ears.length:Int))).bind fun e=>some e) else (some false)).bind fun f=>(bif f then (some (b.To==(wr .i64 (d.1.Role+1)))) else (some false)).bind fun g=>some g) else ((LP b.Data).bind fun a=>(bif a.2 then (some (b.To==0)) else (some false)).bind fun h=>(bif h then (some (b.From==(wr .i64 (a.1.Role+1)))) else (some false)).bind fun i=>(bif i then ((Cj a.1.Role 0 (wr .i64 (((c.Ears.length:Int)) - 1))).bind fun j=>some j) else (some false)).bind fun k=>(bif k then ((Cj a.1.Bar 0 (wr .i64 (c.Bar - 1))).bind fun l=>some l) else (some false)).bind fun o=>(bif o then ((bf c.Ears a.1.Role).bind fun p=>(bf p.Did a.1.Bar).bind fun q=>some (q==a.1.Program)) else (some false)).bind fun r=>some r)
theorem V7 (C:OT) (n:Nat) (an:ID C) (ao:IE C) (h:ug C) (ap:Az C) (b:av) (a:ay):TJ C n 63 [(ag (ak b)),(ag (aq a))] (Pa n b a) (fun y=>(bA y)):=by
 refine .lp (W4 ..) ?_
 unfold Pa
 refine .s ((pt 0 0),[bx (ak b)]) (.s ((pt 1 0),[bx (ak b),bx (aq a)]) (.s2 (im (b.Ears.map aw) false) (.st (dn (e:=50)) (.s2 (iA a.From) (.st (aZ ..) (.bQ ?_ ?_))))))
 ·refine .s2 (im (a.Data.map c8) false) (.bd (g:=fun (y:(bL×Bool))=>(tp [(ag (aI y.1)),(bA y.2)])) (by simp only[cf,dF]; exact ao a.Data) fun d=>.s (ag (aI d.1)) (.s (bA d.2) (.sq (pt 2 0) (.s [bx (ak b),bx (aq a),bx (aI d.1)] (.bg (fun t (y:Bool)=>∃ i j k:A,t=[(bA y),i,j,k]) ?_ ?_)))))
  ·refine .bi ?_ ?_
   ·exact .s (ag (aI d.1)) (.bd (ap d.1 ((b.Ears.length:Int))) fun y4=>.lg ⟨_,_,_,rfl⟩)
   exact .lg ⟨_,_,_,rfl⟩
  rintro _ y5 ⟨i,j,k,rfl⟩
  refine .u4 (.bg (fun t (y:Bool)=>∃ l o p q r u:A,t=[(bA y),l,o,p,q,r,u]) ?_ ?_)
  ·refine .bi ?_ ?_
   ·exact .s (pt 1 1) (.s (iA a.To) (.s (pt 2 1) (.s (iA d.1.Role) (.st (aF ..) (.st (aZ ..) (.lg ⟨_,_,_,_,_,_,rfl⟩))))))
   exact .lg ⟨_,_,_,_,_,_,rfl⟩
  rintro _ az ⟨l,o,p,q,r,u,rfl⟩
  exact .u4 (.uc (.uc (.uc (.lv rfl))))
 refine .s2 (im (a.Data.map c8) false) (.bd (g:=fun (y:(bj×Bool))=>(tp [(ag (aD y.1)),(bA y.2)])) (by simp only[cf,dF]; exact an a.Data) fun c=>.s (ag (aD c.1)) (.s (bA c.2) (.sq (pt 2 0) (.s [bx (ak b),bx (aq a),bx (aD c.1)] (.bg (fun t (y:Bool)=>∃ v w x:A,t=[(bA y),v,w,x]) ?_ ?_)))))
 ·refine .bi ?_ ?_
  ·exact .s (pt 1 1) (.s (iA a.To) (.st (aZ ..) (.lg ⟨_,_,_,rfl⟩)))
  exact .lg ⟨_,_,_,rfl⟩
 rintro _ b0 ⟨v,w,x,rfl⟩
 refine .u4 (.bg (fun t (y:Bool)=>∃ z a2 a3 a4 a5 a6:A,t=[(bA y),z,a2,a3,a4,a5,a6]) ?_ ?_)
 ·refine .bi ?_ ?_
  ·exact .s (pt 1 0) (.s (iA a.From) (.s (pt 2 0) (.s (iA c.1.Role) (.st (aF ..) (.st (aZ ..) (.lg ⟨_,_,_,_,_,_,rfl⟩))))))
  exact .lg ⟨_,_,_,_,_,_,rfl⟩
 rintro _ b1 ⟨z,a2,a3,a4,a5,a6,rfl⟩
 refine .u4 (.uc (.uc (.uc (.bg (fun t (y:Bool)=>∃ a7 a8 a9 aa ab:A,t=[(bA y),a7,a8,a9,aa,ab]) ?_ ?_))))
 ·refine .bi ?_ ?_
  ·exact .s (pt 2 0) (.s (iA c.1.Role) (.st (dh ..) (.bd (h c.1.Role 0 (wr .i64 (((b.Ears.length:Int)) - 1))) fun b2=>.lg ⟨_,_,_,_,_,rfl⟩)))
  exact .lg ⟨_,_,_,_,_,rfl⟩
 rintro _ b3 ⟨a7,a8,a9,aa,ab,rfl⟩
 refine .u4 (.uc (.uc (.bg (fun t (y:Bool)=>∃ ad ae af ah ai aj:A,t=[(bA y),ad,ae,af,ah,ai,aj]) ?_ ?_)))
 ·refine .bi ?_ ?_
  ·exact .s (pt 2 1) (.s (iA c.1.Bar) (.s (pt 0 3) (.s (iA b.Bar) (.st (dh ..) (.bd (h c.1.Bar 0 (wr .i64 (b.Bar - 1))) fun b4=>.lg ⟨_,_,_,_,_,_,rfl⟩)))))
  exact .lg ⟨_,_,_,_,_,_,rfl⟩
 rintro _ b5 ⟨ad,ae,af,ah,ai,aj,rfl⟩
 refine .u4 (.uc (.uc (.uc (.Oc (.bg (fun t (y:Bool)=>∃ al:A,t=[(bA y),al]) ?_ ?_)))))
 ·refine .B4 (fun f=>?_) (fun f=>?_)
  ·exact .bb (.s (pt 0 2) (.s (im (b.Ears.map aw) false) (.s (pt 2 0) (.s (iA c.1.Role) (.bd (dr (e:=50) (es:=3)) fun am=>.s (A.ip [(im (am.Did.map (cI .i64)) false)]) (.s (im (am.Did.map (cI .i64)) false) (.s (pt 2 1) (.s (iA c.1.Bar) (.bd (dr (e:=3) (es:=1)) fun ar=>.s (iA ar) (.s (pt 2 2) (.s (iA c.1.Program) (.cr (.u4 (.u4 (.u4 (.uc (.qs f (.st (aZ ..) (.lg ⟨_,rfl⟩)))))))))))))))))))
  exact .bb (.cr (.u4 (.u4 (.u4 (.uc (.qb f (.lg ⟨_,rfl⟩)))))))
 rintro _ b6 ⟨al,rfl⟩
 exact .uc (.uc (.lv rfl))
def LU (a:av) (b:ay):Option Bool:=Pa aA a b
def CS (C:OT):Prop:=∀ (a:av) (b:ay),C 63 [(ag (ak a)),(ag (aq b))]=(LU a b).map fun y=>(bA y)
def kU (n:Nat) (a:av):Nat->Int->Option ((Int)⊕(Unit))
 | 0,_=>none
 | m+1,b=>bif (decide (b<((a.Ears.length:Int)))) then ((LS a b).bind fun c=>bif (!c) then (some ((Sum.inl 490))) else (kU n a m (wr .i64 (b+1)))) else (some ((Sum.inr (()))))
theorem Dc (f:CR C) {w54:A} (a:av) {K:((Int)⊕(Unit))->Option γ} (h:∀ (d:Int) (i:A) (c:A) (q0:aC),J φ (kr (St.mk [(1,i),(2,(iA d)),(3,c)] [q0])) kL (K (Sum.inl d)) some) (j:∀ (c:A),J φ (kx 0 (St.mk [(1,(pt 0 0)),(2,w54),(3,c)] [bx (ak a)])) kL (K (Sum.inr (()))) some) :
  ∀ (m:Nat) (b:Int),J φ (aE (cx C) (ec C n 8) (ey C n 8) (n+8) 28 0 0 1 kx kg kr kp m (St.mk [(1,(pt 0 0)),(2,w54),(3,(iA b))] [bx (ak a)])) kL (kU n a m b) K:=by
  refine nI (fun _=>.nn) fun m ih b=>.lp (My ..) ?_
  unfold kU
  refine .s2 (im (a.Ears.map aw) false) (.st (dn (e:=50)) (.st (aS ..) (.bQ ?_ ?_)))
  ·refine .s (ag (ak a)) (.bd (g:=fun (y:Bool)=>(bA y)) (by simp only[cf,dF]; exact f a b) fun k=>.s (bA (!k)) (.bQ ?_ ?_))
   ·exact .ex (h _ _ _ _)
   refine .st (aF ..) (.s [bx (ak a)] (.cT r8 ?_))
   exact ih _
  exact .ex (j _)
def kV (n:Nat) (a:av):Nat->Int->Option ((Int)⊕(Unit))
 | 0,_=>none
 | m+1,b=>bif (decide (b<((a.Net.Queue.length:Int)))) then ((bf a.Net.Queue b).bind fun c=>(LU a c).bind fun d=>bif (!d) then (some ((Sum.inl 490))) else (kV n a m (wr .i64 (b+1)))) else (some ((Sum.inr (()))))
theorem Dd (i:CS C) {w69:A} (a:av) {K:((Int)⊕(Unit))->Option γ} (j:∀ (f:Int) (b:A) (c:A) (q0:aC),J φ (kr (St.mk [(1,b),(2,(iA f)),(5,c)] [q0])) kL (K (Sum.inl f)) some) (k:∀ (b:A) (s2:A) (c:A) (q0:aC),J φ (kx 2 (St.mk [(1,b),(2,s2),(5,c)] [q0])) kL (K (Sum.inr (()))) some) :
  ∀ (m:Nat) (d:Int),J φ (aE (cx C) (ec C n 8) (ey C n 8) (n+8) 28 0 1 1 kx kg kr kp m (St.mk [(1,(pt 0 0)),(2,w69),(5,(iA d))] [bx (ak a)])) kL (kV n a m d) K:=by
  refine nI (fun _=>.nn) fun m ih d=>.lp (Mz ..) ?_
  unfold kV
  refine .s (pt 0 0) (.s2 (im (a.Net.Queue.map aq) false) (.st (dn (e:=68)) (.st (aS ..) (.bQ ?_ ?_))))
  ·refine .s (ag (ak a)) (.s (pt 0 0) (.s2 (im (a.Net.Queue.map aq) false) (.bd (dr (e:=68) (es:=3)) fun h=>.s (ag (aq h)) (.bd (g:=fun (y:Bool)=>(bA y)) (by simp only[cf,dF]; exact i a h) fun l=>.s (bA (!l)) (.bQ ?_ ?_)))))
   ·exact .ex (j _ _ _ _)
   refine .st (aF ..) (.s [bx (ak a)] (.cT r8 ?_))
   exact ih _
  exact .ex (k _ _ _ _)
def OP (n:Nat) (a:av):Option Int:=
 (bif (decide (((a.Ears.length:Int))<1)) then (some true) else (some (decide (12<((a.Ears.length:Int)))))).bind fun b=>(bif b then (some true) else ((Cj a.Bar 0 4096).bind fun c=>some (!c))).bind fun d=>(bif d then (some true) else ((Lk a.Net).bind fun e=>some (e != 0))).bind fun f=>bif f then (some 490) else ((kU n a (n+8) 0).bind fun PG=>match PG with | (Sum.inl g)=>some g | (Sum.inr _)=>(kV n a (n+8) 0).bind fun h=>match h with | (Sum.inl i)=>some i | (Sum.inr _)=>some 0)
theorem VK (C:OT) (n:Nat) (r:ug C) (u:CQ C) (v:CR C) (w:CS C) (a:av):TJ C n 28 [(ag (ak a))] (OP n a) (fun y=>(iA y)):=by
 refine .lp (WD ..) ?_
 unfold OP
 refine .s ((pt 0 0),[bx (ak a)]) (.s2 (im (a.Ears.map aw) false) (.st (dn (e:=50)) (.st (aS ..) (.bg (fun t (y:Bool)=>∃ b c d f:A,t=[(bA y),b,c,d,f]) ?_ ?_))))
 ·refine .bi ?_ ?_
  ·exact .lg ⟨_,_,_,_,rfl⟩
  exact .s (pt 0 2) (.s (im (a.Ears.map aw) false) (.st (dn (e:=50)) (.st (cC ..) (.lg ⟨_,_,_,_,rfl⟩))))
 rintro _ z ⟨b,c,d,f,rfl⟩
 refine .u4 (.uc (.bg (fun t (y:Bool)=>∃ h i j k:A,t=[(bA y),h,i,j,k]) ?_ ?_))
 ·refine .bi ?_ ?_
  ·exact .lg ⟨_,_,_,_,rfl⟩
  exact .s (pt 0 3) (.s (iA a.Bar) (.bd (r a.Bar 0 4096) fun x=>.s (bA (!x)) (.lg ⟨_,_,_,_,rfl⟩)))
 rintro _ y9 ⟨h,i,j,k,rfl⟩
 refine .u4 (.uc (.bg (fun t (y:Bool)=>∃ l o p q:A,t=[(bA y),l,o,p,q]) ?_ ?_))
 ·refine .bi ?_ ?_
  ·exact .lg ⟨_,_,_,_,rfl⟩
  exact .s (pt 0 0) (.s (ag [(im (a.Net.Queue.map aq) false),(im (a.Net.Apart.map au) false)]) (.bd (g:=fun (y:Int)=>(iA y)) (by simp only[cf,dF]; exact u a.Net) fun a2=>.st (aH ..) (.lg ⟨_,_,_,_,rfl⟩)))
 rintro _ a3 ⟨l,o,p,q,rfl⟩
 refine .u4 (.uc (.bQ ?_ ?_))
 ·exact .lv rfl
 refine .as (Dc C n _ _ _ _ v a ?_ ?_ _ 0)
 ·intro a4 a5 a6 w64
  exact .un rfl (.lv rfl)
 ·intro a7
  refine .un rfl (.cT r8 (.as (Dd C n _ _ _ _ w a ?_ ?_ _ 0)))
  ·intro a8 a9 aa w80
   exact .un rfl (.lv rfl)
  ·intro ab ad ae w84
   exact .un rfl (.cT r8 (.lv rfl))
def Lg (a:av):Option Int:=OP aA a
def CI (C:OT):Prop:=∀ (a:av),C 28 [(ag (ak a))]=(Lg a).map fun y=>(iA y)
def kW (n:Nat) (b:(List Int)) (c:Int):Nat->Int->Option ((Bool)⊕(Unit))
 | 0,_=>none
 | m+1,a=>bif (decide (a<((b.length:Int)))) then ((bf b a).bind fun d=>(bif (decide (d<0)) then (some true) else ((bf b a).bind fun e=>some (decide (c<=e)))).bind fun f=>(bif f then ((some (())).bind fun l=>some true) else (bif (decide (0<a)) then ((bf b a).bind fun g=>(bf b (wr .i64 (a - 1))).bind fun h=>(some (decide (g<=h))).bind fun i=>(some i).bind fun j=>some j) else ((some (())).bind fun o=>(some (())).bind fun p=>some false))).bind fun k=>bif k then (some ((Sum.inl false))) else (kW n b c m (wr .i64 (a+1)))) else (some ((Sum.inr (()))))
theorem De {w17:A} (h:(List Int)) (i:Int) {K:((Bool)⊕(Unit))->Option γ} (w:∀ (j:Bool) (c:A) (d:A) (f:A),J φ (kr (St.mk [(0,c),(1,d),(4,(bA j)),(5,f)] [])) kL (K (Sum.inl j)) some) (x:∀ (c:A) (d:A) (z:A) (f:A),J φ (kx 0 (St.mk [(0,c),(1,d),(4,z),(5,f)] [])) kL (K (Sum.inr (()))) some) :
  ∀ (m:Nat) (g:Int),J φ (aE (cx C) (ec C n 8) (ey C n 8) (n+8) 29 0 0 0 kx kg kr kp m (St.mk [(0,(im (h.map (cI .i64)) false)),(1,(iA i)),(4,w17),(5,(iA g))] [])) kL (kW n h i m g) K:=by
  refine nI (fun _=>.nn) fun m ih g=>.lp (MA ..) ?_
  unfold kW
  refine .st (dn (e:=3)) (.st (aS ..) (.bQ ?_ ?_))
  ·refine .bd (dr (e:=3) (es:=1)) fun a0=>.s (iA a0) (.st (aS ..) (.bg (fun t (y:Bool)=>∃ k l o p q r:A,t=[(bA y),k,l,o,p,q,r]) ?_ ?_))
   ·refine .bi ?_ ?_
    ·exact .lg ⟨_,_,_,_,_,_,rfl⟩
    exact .bd (dr (e:=3) (es:=1)) fun a1=>.s (iA a1) (.st (dq ..) (.lg ⟨_,_,_,_,_,_,rfl⟩))
   rintro _ a4 ⟨k,l,o,p,q,r,rfl⟩
   refine .u4 (.uc (.uc (.uc (.Fb (.bg (fun t (y:Bool)=>∃ u:A,t=[(bA y),u]) ?_ ?_)))))
   ·refine .FA (fun b=>?_) (fun b=>?_)
    ·refine .bb (.st (cC ..) (.B4 (fun a=>?_) (fun a=>?_)))
     ·refine .bb (.bd (dr (e:=3) (es:=1)) fun a2=>.s (iA a2) (.st (dh ..) (.bd (dr (e:=3) (es:=1)) fun a3=>.s (iA a3) (.cr (.u4 (.u4 (.uc (.cr (.u4 (.u4 (.u4 (.bg (fun t (y:Bool) =>  t=[(bA y)]) ?_ ?_))))))))))))
      ·exact .lp (bX a) (.st (dT ..) (.lg rfl))
      rintro _ a5 rfl
      refine .uc (.qb b (.bg (fun t (y:Bool) =>  t=(bA y)) ?_ ?_))
      ·exact .qs a (.lg rfl)
      rintro _ a6 rfl
      exact .lg ⟨_,rfl⟩
     refine .bb (.cr (.u4 (.u4 (.uc (.cr (.u4 (.u4 (.u4 (.bg (fun t (y:Unit) =>  t=[(A.v undef)]) ?_ ?_)))))))))
     ·exact .lp (bW a) (.lg rfl)
     rintro _ a7 rfl
     refine .uc (.qb b (.bg (fun t (y:Unit) =>  t=(bA false)) ?_ ?_))
     ·exact .qb a (.lg rfl)
     rintro _ a8 rfl
     exact .lg ⟨_,rfl⟩
    refine .bb (.cr (.u4 (.u4 (.u4 (.bg (fun t (y:Unit) =>  t=[(A.v undef)]) ?_ ?_)))))
    ·exact .gU (.lg rfl)
    rintro _ a9 rfl
    exact .uc (.qs b (.lg ⟨_,rfl⟩))
   rintro _ aa ⟨u,rfl⟩
   refine .uc (.uc (.bQ ?_ ?_))
   ·exact .ex (w _ _ _ _)
   refine .st (aF ..) (.s [] (.cT r8 ?_))
   exact ih _
  exact .ex (x _ _ _ _)
def OQ (n:Nat) (a:(List Int)) (b:Int):Option Bool:=
 (kW n a b (n+8) 0).bind fun Gy=>match Gy with | (Sum.inl c)=>some c | (Sum.inr _)=>some true
theorem VL (C:OT) (n:Nat) (a:(List Int)) (b:Int):TJ C n 29 [(im (a.map (cI .i64)) false),(iA b)] (OQ n a b) (fun y=>(bA y)):=by
 refine .lp (WE ..) ?_
 unfold OQ
 refine .as (De C n _ _ _ _ a b ?_ ?_ _ 0)
 ·intro c d e f
  exact .un rfl (.lv rfl)
 ·intro g h i j
  exact .un rfl (.cT r8 (.lv rfl))
def LK (a:(List Int)) (b:Int):Option Bool:=OQ aA a b
def IA (C:OT):Prop:=∀ (a:(List Int)) (b:Int),C 29 [(im (a.map (cI .i64)) false),(iA b)]=(LK a b).map fun y=>(bA y)
def kX (n:Nat) (b:(List Int)) (c:Int):Nat->Int->Option ((Bool)⊕(Unit))
 | 0,_=>none
 | m+1,a=>bif (decide (a<c)) then ((bf b a).bind fun d=>(bif (decide (d<0)) then (some true) else ((bf b a).bind fun e=>some (decide (a<e)))).bind fun f=>bif f then (some ((Sum.inl false))) else ((bf b a).bind fun g=>(bf b g).bind fun h=>(bf b a).bind fun i=>bif (h != i) then (some ((Sum.inl false))) else (kX n b c m (wr .i64 (a+1))))) else (some ((Sum.inr (()))))
theorem Df {w15:A} (f:(List Int)) (g:Int) {K:((Bool)⊕(Unit))->Option γ} (h:∀ (i:Bool) (a:A) (b:A) (c:A),J φ (kr (St.mk [(0,a),(1,b),(4,(bA i)),(5,c)] [])) kL (K (Sum.inl i)) some) (r:∀ (a:A) (b:A) (u:A) (c:A),J φ (kx 0 (St.mk [(0,a),(1,b),(4,u),(5,c)] [])) kL (K (Sum.inr (()))) some) :
  ∀ (m:Nat) (d:Int),J φ (aE (cx C) (ec C n 8) (ey C n 8) (n+8) 30 0 0 0 kx kg kr kp m (St.mk [(0,(im (f.map (cI .i64)) false)),(1,(iA g)),(4,w15),(5,(iA d))] [])) kL (kX n f g m d) K:=by
  refine nI (fun _=>.nn) fun m ih d=>.lp (MB ..) ?_
  unfold kX
  refine .st (aS ..) (.bQ ?_ ?_)
  ·refine .bd (dr (e:=3) (es:=1)) fun v=>.s (iA v) (.st (aS ..) (.bg (fun t (y:Bool)=>∃ j k l o p q:A,t=[(bA y),j,k,l,o,p,q]) ?_ ?_))
   ·refine .bi ?_ ?_
    ·exact .lg ⟨_,_,_,_,_,_,rfl⟩
    exact .bd (dr (e:=3) (es:=1)) fun w=>.s (iA w) (.st (cC ..) (.lg ⟨_,_,_,_,_,_,rfl⟩))
   rintro _ a1 ⟨j,k,l,o,p,q,rfl⟩
   refine .u4 (.uc (.uc (.uc (.bQ ?_ ?_))))
   ·exact .ex (h _ _ _ _)
   refine .bd (dr (e:=3) (es:=1)) fun x=>.s (iA x) (.bd (dr (e:=3) (es:=1)) fun z=>.s (iA z) (.bd (dr (e:=3) (es:=1)) fun a0=>.s (iA a0) (.st (aH ..) (.bQ ?_ ?_))))
   ·exact .ex (h _ _ _ _)
   refine .st (aF ..) (.s [] (.cT r8 ?_))
   exact ih _
  exact .ex (r _ _ _ _)
def LC (n:Nat) (a:(List Int)) (b:Int):Option Bool:=
 bif (((a.length:Int)) != b) then (some false) else ((kX n a b (n+8) 0).bind fun PC=>match PC with | (Sum.inl c)=>some c | (Sum.inr _)=>some true)
theorem VM (C:OT) (n:Nat) (a:(List Int)) (b:Int):TJ C n 30 [(im (a.map (cI .i64)) false),(iA b)] (LC n a b) (fun y=>(bA y)):=by
 refine .lp (WG ..) ?_
 unfold LC
 refine .st (dn (e:=3)) (.st (aH ..) (.bQ ?_ ?_))
 ·exact .lv rfl
 refine .as (Df C n _ _ _ _ a b ?_ ?_ _ 0)
 ·intro c d f g
  exact .un rfl (.lv rfl)
 ·intro h i j k
  exact .un rfl (.cT r8 (.lv rfl))
def JN (a:(List Int)) (b:Int):Option Bool:=LC aA a b
def IB (C:OT):Prop:=∀ (a:(List Int)) (b:Int),C 30 [(im (a.map (cI .i64)) false),(iA b)]=(JN a b).map fun y=>(bA y)
def lq (n:Nat) (a:(List Int)) (c:Int):Nat->Int->Option ((Bool)⊕(Unit))
 | 0,_=>none
 | m+1,b=>bif (decide (b<((a.length:Int)))) then ((bf a b).bind fun d=>bif (d==c) then (some ((Sum.inl true))) else (lq n a c m (wr .i64 (b+1)))) else (some ((Sum.inr (()))))
theorem Dw {w15:A} (f:(List Int)) (g:Int) {K:((Bool)⊕(Unit))->Option γ} (i:∀ (h:Bool) (a:A) (b:A) (c:A),J φ (kr (St.mk [(0,a),(1,b),(4,(bA h)),(5,c)] [])) kL (K (Sum.inl h)) some) (j:∀ (a:A) (b:A) (k:A) (c:A),J φ (kx 0 (St.mk [(0,a),(1,b),(4,k),(5,c)] [])) kL (K (Sum.inr (()))) some) :
  ∀ (m:Nat) (d:Int),J φ (aE (cx C) (ec C n 8) (ey C n 8) (n+8) 64 0 0 0 kx kg kr kp m (St.mk [(0,(im (f.map (cI .i64)) false)),(1,(iA g)),(4,w15),(5,(iA d))] [])) kL (lq n f g m d) K:=by
  refine nI (fun _=>.nn) fun m ih d=>.lp (MO ..) ?_
  unfold lq
  refine .st (dn (e:=3)) (.st (aS ..) (.bQ ?_ ?_))
  ·refine .bd (dr (e:=3) (es:=1)) fun l=>.s (iA l) (.st (aZ ..) (.bQ ?_ ?_))
   ·exact .ex (i _ _ _ _)
   refine .st (aF ..) (.s [] (.cT r8 ?_))
   exact ih _
  exact .ex (j _ _ _ _)
def Pb (n:Nat) (a:(List Int)) (b:Int):Option Bool:=
 (lq n a b (n+8) 0).bind fun Pz=>match Pz with | (Sum.inl c)=>some c | (Sum.inr _)=>some false
theorem V8 (C:OT) (n:Nat) (a:(List Int)) (b:Int):TJ C n 64 [(im (a.map (cI .i64)) false),(iA b)] (Pb n a b) (fun y=>(bA y)):=by
 refine .lp (W5 ..) ?_
 unfold Pb
 refine .as (Dw C n _ _ _ _ a b ?_ ?_ _ 0)
 ·intro c d e f
  exact .un rfl (.lv rfl)
 ·intro g h i j
  exact .un rfl (.cT r8 (.lv rfl))
def LV (a:(List Int)) (b:Int):Option Bool:=Pb aA a b
def II (C:OT):Prop:=∀ (a:(List Int)) (b:Int),C 64 [(im (a.map (cI .i64)) false),(iA b)]=(LV a b).map fun y=>(bA y)
def OS (n:Nat) (b:av) (c:(List Int)) (a2:Int):Option Int:=
 (bf b.Ears a2).bind fun a=>(LV c a2).bind fun d=>(bif d then (some true) else (some (((a.Cues.length:Int))==0))).bind fun e=>(bif e then (some true) else ((bf a.Cues 0).bind fun f=>some (f.Bar != b.Bar))).bind fun g=>bif g then (some 0) else ((bf a.Cues 0).bind fun h=>some h.Program)
theorem VN (C:OT) (n:Nat) (k:II C) (a:av) (b:(List Int)) (a2:Int):TJ C n 31 [(ag (ak a)),(im (b.map (cI .i64)) false),(iA a2)] (OS n a b a2) (fun y=>(iA y)):=by
 refine .lp (WH ..) ?_
 unfold OS
 refine .s ((pt 0 0),[bx (ak a)]) (.s2 (im (a.Ears.map aw) false) (.bd (dr (e:=50) (es:=3)) fun l=>.s2 (im (l.Cues.map aI) false) (.bd (g:=fun (y:Bool)=>(bA y)) (by simp only[cf,dF]; exact k b a2) fun p=>.bg (fun t (y:Bool)=>∃ f h i:A,t=[(bA y),f,h,i]) ?_ ?_)))
 ·refine .bi ?_ ?_
  ·exact .lg ⟨_,_,_,rfl⟩
  exact .st (dn (e:=46)) (.st (aZ ..) (.lg ⟨_,_,_,rfl⟩))
 rintro _ q ⟨f,h,i,rfl⟩
 refine .u4 (.U4 (.bg (fun t (y:Bool)=>∃ j:A,t=[(bA y),j]) ?_ ?_))
 ·refine .FA (fun c=>?_) (fun c=>?_)
  ·exact .bb (.bd (dr (e:=46) (es:=4)) fun d=>.s (A.ip [(iA d.Bar),(iA d.Program)]) (.s (iA d.Bar) (.s (pt 0 3) (.s (iA a.Bar) (.cr (.u4 (.uc (.uc (.qb c (.st (aH ..) (.lg ⟨_,rfl⟩)))))))))))
  exact .bb (.cr (.u4 (.uc (.uc (.qs c (.lg ⟨_,rfl⟩))))))
 rintro _ r ⟨j,rfl⟩
 refine .uc (.uc (.bQ ?_ ?_))
 ·exact .lv rfl
 exact .bd (dr (e:=46) (es:=4)) fun o=>.s2 (iA o.Program) (.lv rfl)
def LL (a:av) (b:(List Int)) (a2:Int):Option Int:=OS aA a b a2
def CJ (C:OT):Prop:=∀ (a:av) (b:(List Int)) (a2:Int),C 31 [(ag (ak a)),(im (b.map (cI .i64)) false),(iA a2)]=(LL a b a2).map fun y=>(iA y)
def OU (n:Nat) (a:(List Int)) (b:Int):Option (List Int):=
 (cQ 8 ([]) a).bind fun c=>(cQ 8 c ([b])).bind fun d=>some d
theorem VO (C:OT) (n:Nat) (d:(List Int)) (c:Int):TJ C n 32 [(im (d.map (cI .i64)) false),(iA c)] (OU n d c) (fun y=>(im (y.map (cI .i64)) false)):=by
 refine .lp (WI ..) ?_
 unfold OU
 exact .s Ye (.bd (g:=fun (y:List Int)=>((bM 0 0 y.length false),[aC.row false 1 (y.map (cI .i64))])) (kF ky (l:=[]) (l2:=d) (bH ..)) fun e=>.s (im [[(iA c)]] true) (.bd (g:=fun (y:List Int)=>((bM 0 0 y.length false),[aC.row false 1 (y.map (cI .i64))])) (bZ ky (l:=e) (l2:=[c]) (b:=0) rfl (by decide) (bH (f:=(cI .i64)) ([c]:List Int) _ _)) fun a=>.lv (by show br [aC.row false 1 (a.map (cI .i64))] (bM 0 0 a.length false)=_; first | (simp only[cf,dF,br,bP (H:=[aC.row false 1 (a.map (cI .i64))]) (b:=0) (es:=1) (wr:=false) (l:=a) (dW _) rfl]; done) | (simp only[cf,g8,br,bP (H:=[aC.row false 1 (a.map (cI .i64))]) (b:=0) (es:=1) (wr:=false) (l:=a) (dW _) rfl]; first | done | rfl))))
def Lh (a:(List Int)) (b:Int):Option (List Int):=OU aA a b
def CK (C:OT):Prop:=∀ (a:(List Int)) (b:Int),C 32 [(im (a.map (cI .i64)) false),(iA b)]=(Lh a b).map fun y=>(im (y.map (cI .i64)) false)
def kY (n:Nat) (a:(List Int)) (c:(List Int)) (d:Int):Nat->Int->Option ((Int)⊕(Unit))
 | 0,_=>none
 | m+1,b=>bif (decide (b<((a.length:Int)))) then ((bf c b).bind fun e=>(bf c d).bind fun f=>(bif (e==f) then ((bf a b).bind fun g=>(bf a d).bind fun h=>some (g != h)) else (some false)).bind fun i=>bif i then (some ((Sum.inl 0))) else (kY n a c d m (wr .i64 (b+1)))) else (some ((Sum.inr (()))))
theorem Dg {w25:A} (a:(List Int)) (h:(List Int)) (b:Int) {K:((Int)⊕(Unit))->Option γ} (k:∀ (i:Int) (l:A) (c:A) (s2:A) (d:A),J φ (kr (St.mk [(0,l),(1,c),(2,s2),(6,(iA i)),(7,d)] [])) kL (K (Sum.inl i)) some) (o:∀ (c:A) (p:A) (d:A),J φ (kx 0 (St.mk [(0,(im (a.map (cI .i64)) false)),(1,c),(2,(iA b)),(6,p),(7,d)] [])) kL (K (Sum.inr (()))) some) :
  ∀ (m:Nat) (f:Int),J φ (aE (cx C) (ec C n 8) (ey C n 8) (n+8) 33 0 0 0 kx kg kr kp m (St.mk [(0,(im (a.map (cI .i64)) false)),(1,(im (h.map (cI .i64)) false)),(2,(iA b)),(6,w25),(7,(iA f))] [])) kL (kY n a h b m f) K:=by
  refine nI (fun _=>.nn) fun m ih f=>.lp (MC ..) ?_
  unfold kY
  refine .st (dn (e:=3)) (.st (aS ..) (.bQ ?_ ?_))
  ·refine .bd (dr (e:=3) (es:=1)) fun q=>.s (iA q) (.bd (dr (e:=3) (es:=1)) fun r=>.s (iA r) (.st (aZ ..) (.XP (.bg (fun t (y:Bool)=>∃ j:A,t=[(bA y),j]) ?_ ?_))))
   ·refine .B4 (fun g=>?_) (fun g=>?_)
    ·exact .bb (.bd (dr (e:=3) (es:=1)) fun u=>.s (iA u) (.bd (dr (e:=3) (es:=1)) fun v=>.s (iA v) (.cr (.u4 (.u4 (.qs g (.st (aH ..) (.lg ⟨_,rfl⟩))))))))
    exact .bb (.cr (.u4 (.u4 (.qb g (.lg ⟨_,rfl⟩)))))
   rintro _ w ⟨j,rfl⟩
   refine .uc (.uc (.bQ ?_ ?_))
   ·exact .ex (k _ _ _ _ _)
   refine .st (aF ..) (.s [] (.cT r8 ?_))
   exact ih _
  exact .ex (o _ _ _)
def OV (n:Nat) (a:(List Int)) (b:(List Int)) (a2:Int):Option Int:=
 (kY n a b a2 (n+8) 0).bind fun PI=>match PI with | (Sum.inl c)=>some c | (Sum.inr _)=>(bf a a2).bind fun d=>some d
theorem VP (C:OT) (n:Nat) (a:(List Int)) (b:(List Int)) (a2:Int):TJ C n 33 [(im (a.map (cI .i64)) false),(im (b.map (cI .i64)) false),(iA a2)] (OV n a b a2) (fun y=>(iA y)):=by
 refine .lp (WJ ..) ?_
 unfold OV
 refine .as (Dg C n _ _ _ _ a b a2 ?_ ?_ _ 0)
 ·intro d f g h i
  exact .un rfl (.lv rfl)
 ·intro j k l
  exact .un rfl (.cT r8 (.bd (dr (e:=3) (es:=1)) fun c=>.s (iA c) (.lv rfl)))
def LM (a:(List Int)) (b:(List Int)) (a2:Int):Option Int:=OV aA a b a2
def CL (C:OT):Prop:=∀ (a:(List Int)) (b:(List Int)) (a2:Int),C 33 [(im (a.map (cI .i64)) false),(im (b.map (cI .i64)) false),(iA a2)]=(LM a b a2).map fun y=>(iA y)
def JK (n:Nat) (a:Int):Option ar:=
 some ((ar.mk 1 a iK ([])))
theorem QX (C:OT) (n:Nat) (a:Int):TJ C n 103 [(iA a)] (JK n a) (fun y=>(ag (al y))):=by
 refine .lp (Ri ..) ?_
 unfold JK
 exact .sq (pt 0 0) (.s (ag [(iA 1),(iA a),se,Ye]) (.s [bx [(iA 1),(iA a),se,Ye]] (.s (ag [(iA 1),(iA a),se,Ye]) (.lv u2))))
def FH (a:Int):Option ar:=JK aA a
def yR (C:OT):Prop:=∀ (a:Int),C 103 [(iA a)]=(FH a).map fun y=>(ag (al y))
def nA (a:(List ar)):aC:=bx [(iA 3),(iA 0),se,(bM 2 0 a.length false)]
def lz (n:Nat) (a:(List Int)) (d:Int) (e:Int) (f:ByteArray):Nat->Int->(List ar)->Option ((List ar))
 | 0,_,_=>none
 | m+1,b,c=>bif (decide (b<((a.length:Int)))) then ((bf a b).bind fun g=>(FH g).bind fun h=>(cQ 56 c ([h])).bind fun i=>lz n a d e f m (wr .i64 (b+1)) i) else (some c)
theorem Dy (r:yR C) {w50:A} {w51:aC} (p:(List Int)) (c:Int) (d:Int) (h:ByteArray) {K:((List ar))->Option γ} (t:∀ (k:(List ar)) (u:A) (v:A),J φ (kx 0 (St.mk [(0,u),(2,w50),(3,(pt 1 0)),(4,v)] [w51,bx [(iA c),(iA d),(sA h),(bM 2 0 k.length false)],aC.row false 4 (k.map ax)])) kL (K k) some) :
  ∀ (m:Nat) (o:Int) (a:(List ar)),J φ (aE (cx C) (ec C n 8) (ey C n 8) (n+8) 90 0 0 3 kx kg kr kp m (St.mk [(0,(im (p.map (cI .i64)) false)),(2,w50),(3,(pt 1 0)),(4,(iA o))] [w51,bx [(iA c),(iA d),(sA h),(bM 2 0 a.length false)],aC.row false 4 (a.map ax)])) kL (lz n p c d h m o a) K:=by
  refine nI (fun _ _=>.nn) fun m ih o a=>.lp (MR ..) ?_
  unfold lz
  refine .st (dn (e:=3)) (.st (aS ..) (.bQ ?_ ?_))
  ·refine .s2 (bM 2 0 a.length false) (.bd (dr (e:=3) (es:=1)) fun q=>.s (iA q) (.bd (r q) fun i=>.s (im [[(iA i.Kind),(iA i.N),(sA i.S),(im (i.L.map ax) false)]] true) (.bd (g:=fun (y:List ar)=>((bM 2 0 y.length false),[w51,bx [(iA c),(iA d),(sA h),(bM 2 0 a.length false)],aC.row false 4 (y.map ax)])) (bZ eJ (l:=a) (l2:=[i]) (b:=2) rfl (by decide) (gE (f:=ax) (l:=([i]:List ar)) XY)) fun j=>.s (pt 1 3) (.s [w51,bx [(iA c),(iA d),(sA h),(bM 2 0 j.length false)],aC.row false 4 (j.map ax)] (.st (aF ..) (.s [w51,bx [(iA c),(iA d),(sA h),(bM 2 0 j.length false)],aC.row false 4 (j.map ax)] (.cT r8 ?_)))))))
   exact ih _ _
  exact .ex (t _ _ _)
def Pr (n:Nat) (a:(List Int)):Option ar:=
 (lz n a 3 0 iK (n+8) 0 (([]:List ar))).bind fun PH=>match PH with | b=>some ((ar.mk 3 0 iK b))
theorem Wn (C:OT) (n:Nat) (d:yR C) (c:(List Int)):TJ C n 90 [(im (c.map (cI .i64)) false)] (Pr n c) (fun y=>(ag (al y))):=by
 refine .lp (Xm ..) ?_
 unfold Pr
 refine .sq (pt 0 0) (.s (ag [(iA 3),(iA 0),se,Ye]) (.sq (pt 1 0) (.s [bx [(iA 0),(iA 0),se,Ye],bx [(iA 3),(iA 0),se,Ye]] (.as (Dy C n _ _ _ _ d c 3 0 iK ?_ _ 0 (([]:List ar)))))))
 ·intro a e f
  exact .un rfl (.cT r8 (.s (ag [(iA 3),(iA 0),se,(bM 2 0 a.length false)]) (.s [(nA a),(nA a),aC.row false 4 (a.map ax)] (.s (ag [(iA 3),(iA 0),se,(bM 2 0 a.length false)]) (.lv (by show br [(nA a),(nA a),aC.row false 4 (a.map ax)] (ag [(iA 3),(iA 0),se,(bM 2 0 a.length false)])=_; first | (simp only[cf,dF,br,bP (H:=[(nA a),(nA a),aC.row false 4 (a.map ax)]) (b:=2) (es:=4) (wr:=false) (l:=a) cD rfl]; done) | (simp only[cf,g8,br,bP (H:=[(nA a),(nA a),aC.row false 4 (a.map ax)]) (b:=2) (es:=4) (wr:=false) (l:=a) cD rfl]; first | done | rfl)))))))
def L4 (a:(List Int)):Option ar:=Pr aA a
def IT (C:OT):Prop:=∀ (a:(List Int)),C 90 [(im (a.map (cI .i64)) false)]=(L4 a).map fun y=>(ag (al y))
def Pq (n:Nat) (a:ar):Option ((List UInt8)×Int):=
 (Bw a).bind fun b=>bif (b != 0) then (some (([],b))) else ((Cs a).bind fun c=>some ((c,0)))
theorem Wm (C:OT) (n:Nat) (b:yP C) (c:yQ C) (a:ar):TJ C n 89 [(ag (al a))] (Pq n a) (fun y=>(tp [(im (y.1.map c8) false),(iA y.2)])):=by
 refine .lp (Xl ..) ?_
 unfold Pq
 refine .s ((pt 0 0),[bx (al a)]) (.s (ag (al a)) (.bd (g:=fun (y:Int)=>(iA y)) (by simp only[cf,dF]; exact b a) fun d=>.st (aH ..) (.bQ ?_ ?_)))
 ·exact .lv u2
 exact .s (ag (al a)) (.bd (g:=fun (y:(List UInt8))=>(im (y.map c8) false)) (by simp only[cf,dF]; exact c a) fun e=>.lv u2)
def Lq (a:ar):Option ((List UInt8)×Int):=Pq aA a
def IQ (C:OT):Prop:=∀ (a:ar),C 89 [(ag (al a))]=(Lq a).map fun y=>(tp [(im (y.1.map c8) false),(iA y.2)])
def Pd (n:Nat) (a:bj):Option (List UInt8):=
 (L4 ([2,a.Role,a.Bar,a.Program])).bind fun b=>(Lq b).bind fun c=>some c.1
theorem Wa (C:OT) (n:Nat) (c:IQ C) (d:IT C) (a:bj):TJ C n 66 [(ag (aD a))] (Pd n a) (fun y=>(im (y.map c8) false)):=by
 refine .lp (W7 ..) ?_
 unfold Pd
 exact .s ((pt 0 0),[bx (aD a)]) (.s2 (iA a.Role) (.s2 (iA a.Bar) (.s2 (iA a.Program) (.s (im [[(iA 2)],[(iA a.Role)],[(iA a.Bar)],[(iA a.Program)]] true) (.bd (g:=fun (y:ar)=>(ag (al y))) (by simp only[cf,dF]; exact d ([2,a.Role,a.Bar,a.Program])) fun e=>.bd (g:=fun (y:((List UInt8)×Int))=>(tp [(im (y.1.map c8) false),(iA y.2)])) (by simp only[cf,dF]; exact c e) fun b=>.s (im (b.1.map c8) false) (.s (iA b.2) (.lv u2)))))))
def LY (a:bj):Option (List UInt8):=Pd aA a
def IK (C:OT):Prop:=∀ (a:bj),C 66 [(ag (aD a))]=(LY a).map fun y=>(im (y.map c8) false)
def Pc (n:Nat) (a:bh) (b:ay):Option (bh×Int):=
 (Lk a).bind fun c=>(bif (c != 0) then (some true) else ((Lo b).bind fun d=>some (!d))).bind fun e=>bif e then (some (((bh.mk ([]) ([])),60))) else (bif (((a.Queue.length:Int))==4096) then (some (((bh.mk ([]) ([])),2))) else ((cQ 40 ([]) a.Queue).bind fun f=>(cQ 40 f ([b])).bind fun g=>some (((bh.mk g a.Apart),0))))
theorem V9 (C:OT) (n:Nat) (k:CQ C) (o:Ax C) (a:bh) (c:ay):TJ C n 65 [(ag [(im (a.Queue.map aq) false),(im (a.Apart.map au) false)]),(ag (aq c))] (Pc n a c) (fun y=>(tp [(ag [(im (y.1.Queue.map aq) false),(im (y.1.Apart.map au) false)]),(iA y.2)])):=by
 refine .lp (W6 ..) ?_
 unfold Pc
 refine .s ((pt 0 0),[(iQ a)]) (.s ((pt 1 0),[(iQ a),bx (aq c)]) (.s ((pt 2 0),[(iQ a),bx (aq c),bx [Ye,Ye]]) (.s (ag [(im (a.Queue.map aq) false),(im (a.Apart.map au) false)]) (.bd (g:=fun (y:Int)=>(iA y)) (by simp only[cf,dF]; exact k a) fun r=>.st (aH ..) (.bg (fun t (y:Bool)=>∃ h i j:A,t=[(bA y),h,i,j]) ?_ ?_)))))
 ·refine .bi ?_ ?_
  ·exact .lg ⟨_,_,_,rfl⟩
  exact .s (ag (aq c)) (.bd (g:=fun (y:Bool)=>(bA y)) (by simp only[cf,dF]; exact o c) fun p=>.s (bA (!p)) (.lg ⟨_,_,_,rfl⟩))
 rintro _ u ⟨h,i,j,rfl⟩
 refine .u4 (.bQ ?_ ?_)
 ·exact .s (ag [Ye,Ye]) (.s [(iQ a),bx (aq c),bx [Ye,Ye]] (.s (ag [Ye,Ye]) (.lv u2)))
 refine .s2 (im (a.Queue.map aq) false) (.st (dn (e:=68)) (.st (aZ ..) (.bQ ?_ ?_)))
 ·exact .s (ag [Ye,Ye]) (.s [(iQ a),bx (aq c),bx [Ye,Ye]] (.s (ag [Ye,Ye]) (.lv u2)))
 exact .s Ye (.s2 (im (a.Queue.map aq) false) (.bd (g:=fun (y:List ay)=>((bM 3 0 y.length false),[(iQ a),bx (aq c),bx [Ye,Ye],aC.row false 3 (y.map aq)])) (kF vx (l:=[]) (l2:=a.Queue) (bH ..)) fun q=>.cT r8 (.s (ag (aq c)) (.cT r8 (.s (im [[(iA c.From),(iA c.To),(im (c.Data.map c8) false)]] true) (.bd (g:=fun (y:List ay)=>((bM 3 0 y.length false),[(iQ a),bx (aq c),bx [Ye,Ye],aC.row false 3 (y.map aq)])) (bZ vx (l:=q) (l2:=[c]) (b:=3) rfl (by decide) (bH (f:=aq) ([c]:List ay) _ _)) fun d=>.s (pt 0 0) (.sh (.s (ag [(bM 3 0 d.length false),(im (a.Apart.map au) false)]) (.s [(gi d a),bx (aq c),(gi d a),aC.row false 3 (d.map aq)] (.s (ag [(bM 3 0 d.length false),(im (a.Apart.map au) false)]) (.lv (by show br [(gi d a),bx (aq c),(gi d a),aC.row false 3 (d.map aq)] (tp [(ag [(bM 3 0 d.length false),(im (a.Apart.map au) false)]),(iA 0)])=_; first | (simp only[cf,dF,br,bP (H:=[(gi d a),bx (aq c),(gi d a),aC.row false 3 (d.map aq)]) (b:=3) (es:=3) (wr:=false) (l:=d) cH rfl]; done) | (simp only[cf,g8,br,bP (H:=[(gi d a),bx (aq c),(gi d a),aC.row false 3 (d.map aq)]) (b:=3) (es:=3) (wr:=false) (l:=d) cH rfl]; first | done | rfl)))))))))))))
def LX (a:bh) (b:ay):Option (bh×Int):=Pc aA a b
def IJ (C:OT):Prop:=∀ (a:bh) (b:ay),C 65 [(ag [(im (a.Queue.map aq) false),(im (a.Apart.map au) false)]),(ag (aq b))]=(LX a b).map fun y=>(tp [(ag [(im (y.1.Queue.map aq) false),(im (y.1.Apart.map au) false)]),(iA y.2)])
def LD (n:Nat) (a:av) (b:Int) (a2:Int):Option (av×Int):=
 (bf a.Ears b).bind fun d=>(bf d.Did a2).bind fun e=>(LY ((bj.mk b a2 e))).bind fun f=>(LX a.Net ((ay.mk (wr .i64 (b+1)) 0 f))).bind fun c=>bif (c.2 != 0) then (some (((av.mk ((bh.mk ([]) ([]))) ([]) 0),c.2))) else (some (((av.mk c.1 a.Ears a.Bar),0)))
theorem VQ (C:OT) (n:Nat) (i:IJ C) (j:IK C) (b:av) (c:Int) (a2:Int):TJ C n 34 [(ag (ak b)),(iA c),(iA a2)] (LD n b c a2) (fun y=>(tp [(ag (ak y.1)),(iA y.2)])):=by
 refine .lp (WK ..) ?_
 unfold LD
 refine .s ((pt 0 0),[bx (ak b)]) (.s ((pt 1 0),[bx (ak b),bx [Ye,Ye,Ye,(iA 0)]]) (.s (pt 0 0) (.s (ag [(im (b.Net.Queue.map aq) false),(im (b.Net.Apart.map au) false)]) (.st (aF ..) (.s (pt 0 2) (.s (im (b.Ears.map aw) false) (.bd (dr (e:=50) (es:=3)) fun f=>.s (A.ip [(im (f.Did.map (cI .i64)) false)]) (.s (im (f.Did.map (cI .i64)) false) (.bd (dr (e:=3) (es:=1)) fun d=>.s (iA d) (.s (ag [(iA c),(iA a2),(iA d)]) (.bd (j ((bj.mk c a2 d))) fun h=>.s (ag [(iA (wr .i64 (c+1))),(iA 0),(im (h.map c8) false)]) (.bd (g:=fun (y:(bh×Int))=>(tp [(ag [(im (y.1.Queue.map aq) false),(im (y.1.Apart.map au) false)]),(iA y.2)])) (by simp only[cf,dF]; exact i b.Net ((ay.mk (wr .i64 (c+1)) 0 h))) fun a=>.s (ag [(im (a.1.Queue.map aq) false),(im (a.1.Apart.map au) false)]) (.s (iA a.2) (.cT r8 (.sq (pt 2 0) (.s [bx (ak b),bx [Ye,Ye,Ye,(iA 0)],bx [(im (a.1.Queue.map aq) false),(im (a.1.Apart.map au) false)]] (.st (aH ..) (.bQ ?_ ?_))))))))))))))))))
 ·exact .s (ag [Ye,Ye,Ye,(iA 0)]) (.s [bx (ak b),bx [Ye,Ye,Ye,(iA 0)],bx [(im (a.1.Queue.map aq) false),(im (a.1.Apart.map au) false)]] (.s (ag [Ye,Ye,Ye,(iA 0)]) (.lv u2)))
 exact .s (ag [(im (a.1.Queue.map aq) false),(im (a.1.Apart.map au) false)]) (.s (pt 0 0) (.sh (.s (ag [(im (a.1.Queue.map aq) false),(im (a.1.Apart.map au) false),(im (b.Ears.map aw) false),(iA b.Bar)]) (.s [bx [(im (a.1.Queue.map aq) false),(im (a.1.Apart.map au) false),(im (b.Ears.map aw) false),(iA b.Bar)],bx [(im (a.1.Queue.map aq) false),(im (a.1.Apart.map au) false),(im (b.Ears.map aw) false),(iA b.Bar)],bx [(im (a.1.Queue.map aq) false),(im (a.1.Apart.map au) false)]] (.s (ag [(im (a.1.Queue.map aq) false),(im (a.1.Apart.map au) false),(im (b.Ears.map aw) false),(iA b.Bar)]) (.lv u2))))))
def Im (a:av) (b:Int) (a2:Int):Option (av×Int):=LD aA a b a2
def wO (C:OT):Prop:=∀ (a:av) (b:Int) (a2:Int),C 34 [(ag (ak a)),(iA b),(iA a2)]=(Im a b a2).map fun y=>(tp [(ag (ak y.1)),(iA y.2)])
def kf (a:(List ay)) (b:(List (Int×Int))) (c:(List aN)) (d:Int):aC:=bx [(im (a.map aq) false),(im (b.map au) false),(bM 4 0 c.length false),(iA d)]
def uJ (a:(List bL)) (b:(List Int)) (c:(List Int)):aC:=bx [(bM 7 0 a.length false),(im (b.map (cI .i64)) false),(im (c.map (cI .i64)) false)]
def qe (n:Nat) (c:(List Int)) (a:av):Nat->Int->(List Int)->Option ((List Int))
 | 0,_,_=>none
 | m+1,b,d=>bif (decide (b<((a.Ears.length:Int)))) then ((LL a c b).bind fun e=>(cQ 8 d ([e])).bind fun f=>qe n c a m (wr .i64 (b+1)) f) else (some d)
theorem J2 (k:CJ C) {w86 w87 w88:A} {w89:aC} (h:(List Int)) (a:av) {K:((List Int))->Option γ} (o:∀ (i:(List Int)) (p:A) (q:A),J φ (kx 0 (St.mk [(1,p),(2,w86),(3,(pt 0 0)),(6,w87),(7,w88),(9,(bM 2 0 i.length false)),(10,q)] [bx (ak a),w89,aC.row false 1 (i.map (cI .i64))])) kL (K i) some) :
  ∀ (m:Nat) (d:Int) (c:(List Int)),J φ (aE (cx C) (ec C n 8) (ey C n 8) (n+8) 8 0 0 3 kx kg kr kp m (St.mk [(1,(im (h.map (cI .i64)) false)),(2,w86),(3,(pt 0 0)),(6,w87),(7,w88),(9,(bM 2 0 c.length false)),(10,(iA d))] [bx (ak a),w89,aC.row false 1 (c.map (cI .i64))])) kL (qe n h a m d c) K:=by
  refine nI (fun _ _=>.nn) fun m ih d c=>.lp (Rz ..) ?_
  unfold qe
  refine .s2 (im (a.Ears.map aw) false) (.st (dn (e:=50)) (.st (aS ..) (.bQ ?_ ?_)))
  ·refine .s (ag (ak a)) (.bd (g:=fun (y:Int)=>(iA y)) (by show C 31 [snap _ (ag (ak a)),snap _ (im (h.map (cI .i64)) false),snap _ (iA d)]=_; simp only[cf,dF,bU (H:=[bx (ak a),w89,aC.row false 1 (c.map (cI .i64))]) (b:=2) (es:=1) (l:=c) (dW _) rfl]; exact k a h d) fun j=>.s (im [[(iA j)]] true) (.bd (g:=fun (y:List Int)=>((bM 2 0 y.length false),[bx (ak a),w89,aC.row false 1 (y.map (cI .i64))])) (bZ ky (l:=c) (l2:=[j]) (b:=2) rfl (by decide) (bH (f:=(cI .i64)) ([j]:List Int) _ _)) fun r=>.st (aF ..) (.s [bx (ak a),w89,aC.row false 1 (r.map (cI .i64))] (.cT r8 ?_))))
   exact ih _ _
  exact .ex (o _ _ _)
def oz (n:Nat) (c:av) (a:aN) (e:(List Int)) (f:(List Int)):Nat->Int->(List bL)->Option ((List bL))
 | 0,_,_=>none
 | m+1,b,d=>bif (decide (b<((a.Cues.length:Int)))) then ((bf a.Cues b).bind fun g=>bif (g.Bar != c.Bar) then ((bf a.Cues b).bind fun h=>(cQ 32 d ([h])).bind fun i=>oz n c a e f m (wr .i64 (b+1)) i) else (oz n c a e f m (wr .i64 (b+1)) d)) else (some d)
theorem J4 {w880 w881 w882 w883 w884 w885:A} {w886 w887 w888 w889:aC} (d:av) (c:aN) (i:(List Int)) (j:(List Int)) {K:((List bL))->Option γ} (q:∀ (k:(List bL)) (r:A) (t:A) (q5:aC),J φ (kx 4 (St.mk [(2,w880),(3,(pt 0 0)),(6,w881),(7,w882),(9,w883),(11,w884),(12,w885),(13,r),(14,(pt 6 0)),(15,t)] [bx (ak d),w886,w887,w888,w889,q5,bx [(bM 7 0 k.length false),(im (i.map (cI .i64)) false),(im (j.map (cI .i64)) false)],aC.row false 4 (k.map aI)])) kL (K k) some) :
  ∀ (m:Nat) (o:Int) (a:(List bL)),J φ (aE (cx C) (ec C n 8) (ey C n 8) (n+8) 8 0 2 8 kx kg kr kp m (St.mk [(2,w880),(3,(pt 0 0)),(6,w881),(7,w882),(9,w883),(11,w884),(12,w885),(13,(pt 5 0)),(14,(pt 6 0)),(15,(iA o))] [bx (ak d),w886,w887,w888,w889,bx (aw c),bx [(bM 7 0 a.length false),(im (i.map (cI .i64)) false),(im (j.map (cI .i64)) false)],aC.row false 4 (a.map aI)])) kL (oz n d c i j m o a) K:=by
  refine nI (fun _ _=>.nn) fun m ih o a=>.lp (RB ..) ?_
  unfold oz
  refine .s2 (im (c.Cues.map aI) false) (.st (dn (e:=46)) (.st (aS ..) (.bQ ?_ ?_)))
  ·refine .s2 (im (c.Cues.map aI) false) (.bd (dr (e:=46) (es:=4)) fun u=>.s2 (iA u.Bar) (.s2 (iA d.Bar) (.st (aH ..) (.bQ ?_ ?_))))
   ·refine .s2 (bM 7 0 a.length false) (.s2 (im (c.Cues.map aI) false) (.bd (dr (e:=46) (es:=4)) fun h=>.s (ag (aI h)) (.s (im [[(iA h.No),(iA h.Role),(iA h.Bar),(iA h.Program)]] true) (.bd (g:=fun (y:List bL)=>((bM 7 0 y.length false),[bx (ak d),w886,w887,w888,w889,bx (aw c),bx [(bM 7 0 a.length false),(im (i.map (cI .i64)) false),(im (j.map (cI .i64)) false)],aC.row false 4 (y.map aI)])) (bZ FX (l:=a) (l2:=[h]) (b:=7) rfl (by decide) (bH (f:=aI) ([h]:List bL) _ _)) fun p=>.s (pt 6 0) (.sh (.st (aF ..) (.s [bx (ak d),w886,w887,w888,w889,bx (aw c),bx [(bM 7 0 p.length false),(im (i.map (cI .i64)) false),(im (j.map (cI .i64)) false)],aC.row false 4 (p.map aI)] (.cT r8 ?_))))))))
    exact ih _ _
   refine .st (aF ..) (.s [bx (ak d),w886,w887,w888,w889,bx (aw c),bx [(bM 7 0 a.length false),(im (i.map (cI .i64)) false),(im (j.map (cI .i64)) false)],aC.row false 4 (a.map aI)] (.cT r8 ?_))
   exact ih _ _
  exact .ex (q _ _ _ _)
def qf (n:Nat) (e:(List Int)) (i:Int) (b:av) (j:(List ay)) (k:(List (Int×Int))) (l:(List aN)) (o:Int) (c:(List Int)) (p:(List ay)) (q:(List (Int×Int))) (r:Int):Nat->Int->(List aN)->Option ((List aN))
 | 0,_,_=>none
 | m+1,a,f=>bif (decide (a<((b.Ears.length:Int)))) then ((bf b.Ears a).bind fun d=>(bf c a).bind fun s=>(Lh d.Got s).bind fun g=>(LM c e a).bind fun t=>(Lh d.Did t).bind fun h=>(oz n b d g h (n+8) 0 (([]:List bL))).bind fun u=>match u with | v=>(cQ 72 f ([(aN.mk v g h)])).bind fun w=>qf n e i b j k l o c p q r m (wr .i64 (a+1)) w) else (some f)
theorem J3 (a4:CK C) (a6:CL C) (x:(List Int)) (a1:Int) (d:av) (h:(List ay)) (i:(List (Int×Int))) (j:(List aN)) (k:Int) (c:(List Int)) (o:(List ay)) (p:(List (Int×Int))) (q:Int) {K:((List aN))->Option γ} (x0:∀ (o0:(List aN)) (s2:A) (s9:A) (a9:A) (q2:aC),J φ (kx 2 (St.mk [(2,s2),(3,(pt 0 0)),(6,(pt 1 0)),(7,(iA a1)),(9,s9),(11,(pt 3 0)),(12,a9)] [bx (ak d),(bo h i j k),q2,bx [(im (o.map aq) false),(im (p.map au) false),(bM 4 0 o0.length false),(iA q)],aC.row false 3 (o0.map aw)])) kL (K o0) some) :
  ∀ (m:Nat) (z:Int) (a:(List aN)),J φ (aE (cx C) (ec C n 8) (ey C n 8) (n+8) 8 0 1 5 kx kg kr kp m (St.mk [(2,(im (x.map (cI .i64)) false)),(3,(pt 0 0)),(6,(pt 1 0)),(7,(iA a1)),(9,(bM 2 0 c.length false)),(11,(pt 3 0)),(12,(iA z))] [bx (ak d),(bo h i j k),aC.row false 1 (c.map (cI .i64)),(kf o p a q),aC.row false 3 (a.map aw)])) kL (qf n x a1 d h i j k c o p q m z a) K:=by
  refine nI (fun _ _=>.nn) fun m ih z a=>.lp (RA ..) ?_
  unfold qf
  refine .s2 (im (d.Ears.map aw) false) (.st (dn (e:=50)) (.st (aS ..) (.bQ ?_ ?_)))
  ·refine .s2 (im (d.Ears.map aw) false) (.bd (dr (e:=50) (es:=3)) fun t=>.s (ag (aw t)) (.sq (pt 5 0) (.s [bx (ak d),(bo h i j k),aC.row false 1 (c.map (cI .i64)),(kf o p a q),aC.row false 3 (a.map aw),bx (aw t)] (.s (pt 5 1) (.s (im (t.Got.map (cI .i64)) false) (.bd (g:=fun (y:Int)=>A.ip ((cI .i64) y)) (HK (e:=3) (es:=1) (l:=c) r8 r8 rfl) fun a3=>.s (iA a3) (.bd (g:=fun (y:(List Int))=>(im (y.map (cI .i64)) false)) (by show C 32 [snap _ (im (t.Got.map (cI .i64)) false),snap _ (iA a3)]=_; simp only[cf,dF,bU (H:=[bx (ak d),(bo h i j k),aC.row false 1 (c.map (cI .i64)),(kf o p a q),aC.row false 3 (a.map aw),bx (aw t)]) (b:=2) (es:=1) (l:=c) (dW _) rfl,bU (H:=[bx (ak d),(bo h i j k),aC.row false 1 (c.map (cI .i64)),(kf o p a q),aC.row false 3 (a.map aw),bx (aw t)]) (b:=4) (es:=3) (l:=a) dc rfl]; exact a4 t.Got a3) fun u=>.s (pt 5 2) (.s (im (t.Did.map (cI .i64)) false) (.bd (g:=fun (y:Int)=>(iA y)) (by show C 33 [snap [bx (ak d),(bo h i j k),aC.row false 1 (c.map (cI .i64)),(kf o p a q),aC.row false 3 (a.map aw),bx (aw t)] (bM 2 0 c.length false),snap _ (im (x.map (cI .i64)) false),snap _ (iA z)]=_; simp only[cf,dF,bU (H:=[bx (ak d),(bo h i j k),aC.row false 1 (c.map (cI .i64)),(kf o p a q),aC.row false 3 (a.map aw),bx (aw t)]) (b:=2) (es:=1) (l:=c) (dW _) rfl,bU (H:=[bx (ak d),(bo h i j k),aC.row false 1 (c.map (cI .i64)),(kf o p a q),aC.row false 3 (a.map aw),bx (aw t)]) (b:=4) (es:=3) (l:=a) dc rfl]; exact a6 c x z) fun a5=>?_)))))))))
   refine .bd (g:=fun (y:(List Int))=>(im (y.map (cI .i64)) false)) (by show C 32 [snap _ (im (t.Did.map (cI .i64)) false),snap _ (iA a5)]=_; simp only[cf,dF,bU (H:=[bx (ak d),(bo h i j k),aC.row false 1 (c.map (cI .i64)),(kf o p a q),aC.row false 3 (a.map aw),bx (aw t)]) (b:=2) (es:=1) (l:=c) (dW _) rfl,bU (H:=[bx (ak d),(bo h i j k),aC.row false 1 (c.map (cI .i64)),(kf o p a q),aC.row false 3 (a.map aw),bx (aw t)]) (b:=4) (es:=3) (l:=a) dc rfl]; exact a4 t.Did a5) fun w=>.s (ag [Ye,(im (u.map (cI .i64)) false),(im (w.map (cI .i64)) false)]) (.cT r8 (.sq (pt 6 0) (.s [bx (ak d),(bo h i j k),aC.row false 1 (c.map (cI .i64)),(kf o p a q),aC.row false 3 (a.map aw),bx (aw t),bx [Ye,(im (u.map (cI .i64)) false),(im (w.map (cI .i64)) false)]] (.as (J4 C n _ _ _ _ d t u w ?_ _ 0 (([]:List bL)))))))
   ·intro r aa ab w905
    refine .un rfl (.cT r8 (.s (pt 3 2) (.s (bM 4 0 a.length false) (.s (ag [(bM 7 0 r.length false),(im (u.map (cI .i64)) false),(im (w.map (cI .i64)) false)]) (.st (v:=(im [[(im (r.map aI) false),(im (u.map (cI .i64)) false),(im (w.map (cI .i64)) false)]] true)) (by show aL prog 26 1 [(0,cK [bx (ak d),(bo h i j k),aC.row false 1 (c.map (cI .i64)),(kf o p a q),aC.row false 3 (a.map aw),w905,(uJ r u w),aC.row false 4 (r.map aI)] (ag [(bM 7 0 r.length false),(im (u.map (cI .i64)) false),(im (w.map (cI .i64)) false)]))]=_; simp only[cK,zF,cf,dF,bU (H:=[bx (ak d),(bo h i j k),aC.row false 1 (c.map (cI .i64)),(kf o p a q),aC.row false 3 (a.map aw),w905,(uJ r u w),aC.row false 4 (r.map aI)]) (b:=2) (es:=1) (l:=c) (dW _) rfl,bU (H:=[bx (ak d),(bo h i j k),aC.row false 1 (c.map (cI .i64)),(kf o p a q),aC.row false 3 (a.map aw),w905,(uJ r u w),aC.row false 4 (r.map aI)]) (b:=4) (es:=3) (l:=a) dc rfl,bU (H:=[bx (ak d),(bo h i j k),aC.row false 1 (c.map (cI .i64)),(kf o p a q),aC.row false 3 (a.map aw),w905,(uJ r u w),aC.row false 4 (r.map aI)]) (b:=7) (es:=4) (l:=r) gv rfl]; kernel_rfl) (.bd (g:=fun (y:List aN)=>((bM 4 0 y.length false),[bx (ak d),(bo h i j k),aC.row false 1 (c.map (cI .i64)),(kf o p a q),aC.row false 3 (y.map aw),w905,(uJ r u w),aC.row false 4 (r.map aI)])) (bZ vy (l:=a) (l2:=[(aN.mk r u w)]) (b:=4) rfl (by decide) (bH (f:=aw) ([(aN.mk r u w)]:List aN) _ _)) fun a0=>.s (pt 3 2) ?_))))))
    refine .s [bx (ak d),(bo h i j k),aC.row false 1 (c.map (cI .i64)),bx [(im (o.map aq) false),(im (p.map au) false),(bM 4 0 a0.length false),(iA q)],aC.row false 3 (a0.map aw),w905,(uJ r u w),aC.row false 4 (r.map aI)] (.st (aF ..) (.st (v:=[bx (ak d),(bo h i j k),aC.row false 1 (c.map (cI .i64)),bx [(im (o.map aq) false),(im (p.map au) false),(bM 4 0 a0.length false),(iA q)],aC.row false 3 (a0.map aw)]) (dB r8 (by simp only[uB,eY,eZ,Nat.reduceLT,YW,bo])) (.cT ((by kernel_rfl:_=(bif aM 5 (x.map (cI .i64)) then true else false)).trans u3) ?_)))
    exact ih _ _
  exact .ex (x0 _ _ _ _ _)
def qg (n:Nat) (d:av) (h:(List ay)) (i:(List (Int×Int))) (j:(List aN)) (k:Int):Nat->Int->(List ay)->(List (Int×Int))->(List aN)->Int->Option ((Int×Int)⊕((List ay)×(List (Int×Int))×(List aN)×Int))
 | 0,_,_,_,_,_=>none
 | m+1,b,e,f,c,g=>bif (decide (b<((c.length:Int)))) then ((Im ((av.mk ((bh.mk e f)) c g)) b d.Bar).bind fun a=>bif (a.2 != 0) then (some ((Sum.inl ((a.2,0))))) else (qg n d h i j k m (wr .i64 (b+1)) a.1.Net.Queue a.1.Net.Apart a.1.Ears a.1.Bar)) else (some ((Sum.inr ((e,f,c,g)))))
theorem J5 (v:wO C) {w1000:A} {w1001 w1002:aC} (a:av) (c:(List ay)) (d:(List (Int×Int))) (f:(List aN)) (h:Int) {K:((Int×Int)⊕((List ay)×(List (Int×Int))×(List aN)×Int))->Option γ} (w:∀ (i:Int) (j:Int) (r:A) (x:A) (t:A) (q0:aC) (q3:aC),J φ (kr (St.mk [(3,r),(6,(pt 1 0)),(7,(iA i)),(11,x),(16,t)] [q0,bx [Ye,Ye,Ye,(iA j)],w1001,q3,w1002])) kL (K (Sum.inl ((i,j)))) some) (z:∀ (i:(List ay)) (j:(List (Int×Int))) (u:(List aN)) (o3:Int) (r:A) (s7:A) (t:A) (q0:aC),J φ (kx 6 (St.mk [(3,r),(6,(pt 1 0)),(7,s7),(11,(pt 3 0)),(16,t)] [q0,(bo c d f h),w1001,bx [(im (i.map aq) false),(im (j.map au) false),(im (u.map aw) false),(iA o3)],w1002])) kL (K (Sum.inr ((i,j,u,o3)))) some) :
  ∀ (m:Nat) (q:Int) (k:(List ay)) (l:(List (Int×Int))) (b:(List aN)) (o:Int),J φ (aE (cx C) (ec C n 8) (ey C n 8) (n+8) 8 0 3 5 kx kg kr kp m (St.mk [(3,(pt 0 0)),(6,(pt 1 0)),(7,w1000),(11,(pt 3 0)),(16,(iA q))] [bx (ak a),(bo c d f h),w1001,bx [(im (k.map aq) false),(im (l.map au) false),(im (b.map aw) false),(iA o)],w1002])) kL (qg n a c d f h m q k l b o) K:=by
  refine nI (fun _ _ _ _ _=>.nn) fun m ih q k l b o=>.lp (RC ..) ?_
  unfold qg
  refine .s2 (im (b.map aw) false) (.st (dn (e:=50)) (.st (aS ..) (.bQ ?_ ?_)))
  ·refine .s (ag [(im (k.map aq) false),(im (l.map au) false),(im (b.map aw) false),(iA o)]) (.s2 (iA a.Bar) (.bd (g:=fun (y:(av×Int))=>(tp [(ag (ak y.1)),(iA y.2)])) (by simp only[cf,dF]; exact v ((av.mk ((bh.mk k l)) b o)) q a.Bar) fun p=>.s (ag (ak p.1)) (.s (iA p.2) (.s [bx (ak a),(bo c d f h),w1001,bx (ak p.1),w1002] (.st (aH ..) (.bQ ?_ ?_))))))
   ·exact .s cU (.s [bx (ak a),bx [Ye,Ye,Ye,(iA 0)],w1001,bx (ak p.1),w1002] (.ex (w _ _ _ _ _ _ _)))
   refine .st (aF ..) (.s [bx (ak a),(bo c d f h),w1001,bx (ak p.1),w1002] (.cT r8 ?_))
   exact ih _ _ _ _ _
  exact .ex (z _ _ _ _ _ _ _ _)
def F8 (n:Nat) (a:av) (b:(List Int)) (a2:(List Int)):Option (av×Int):=
 (Lg a).bind fun c=>bif (c != 0) then (some (((av.mk ((bh.mk ([]) ([]))) ([]) 0),c))) else ((LK b ((a.Ears.length:Int))).bind fun d=>(bif (!d) then (some true) else ((JN a2 ((a.Ears.length:Int))).bind fun e=>some (!e))).bind fun f=>bif f then (some (((av.mk ((bh.mk ([]) ([]))) ([]) 0),1))) else (bif (a.Bar==4096) then (some (((av.mk ((bh.mk ([]) ([]))) ([]) 0),2))) else ((qe n b a (n+8) 0 (([]:List Int))).bind fun PK=>match PK with | g=>(qf n a2 0 a ([]) ([]) ([]) 0 g a.Net.Queue a.Net.Apart (wr .i64 (a.Bar+1)) (n+8) 0 (([]:List aN))).bind fun h=>match h with | i=>(qg n a ([]) ([]) ([]) 0 (n+8) 0 a.Net.Queue a.Net.Apart i (wr .i64 (a.Bar+1))).bind fun j=>match j with | (Sum.inl ((k,l)))=>some (((av.mk ((bh.mk ([]) ([]))) ([]) l),k)) | (Sum.inr ((o,p,q,r)))=>some (((av.mk ((bh.mk o p)) q r),0)))))
theorem T8 (C:OT) (n:Nat) (x:CI C) (a3:IA C) (a4:IB C) (a5:CJ C) (a6:CK C) (a7:CL C) (a8:wO C) (a:av) (d:(List Int)) (a2:(List Int)):TJ C n 8 [(ag (ak a)),(im (d.map (cI .i64)) false),(im (a2.map (cI .i64)) false)] (F8 n a d a2) (fun y=>(tp [(ag (ak y.1)),(iA y.2)])):=by
 refine .lp (e8 ..) ?_
 unfold F8
 refine .s ((pt 0 0),[bx (ak a)]) (.s ((pt 1 0),[bx (ak a),bx [Ye,Ye,Ye,(iA 0)]]) (.s (ag (ak a)) (.bd (g:=fun (y:Int)=>(iA y)) (by simp only[cf,dF]; exact x a) fun y1=>.st (aH ..) (.bQ ?_ ?_))))
 ·exact .s cU (.s [bx (ak a),bx [Ye,Ye,Ye,(iA 0)]] (.s cU (.lv u2)))
 refine .s2 (im (a.Ears.map aw) false) (.st (dn (e:=50)) (.bd (g:=fun (y:Bool)=>(bA y)) (by simp only[cf,dF]; exact a3 d ((a.Ears.length:Int))) fun y3=>.s (bA (!y3)) (.bg (fun t (y:Bool)=>∃ k p q r u v:A,t=[(bA y),k,p,q,r,u,v]) ?_ ?_)))
 ·refine .bi ?_ ?_
  ·exact .lg ⟨_,_,_,_,_,_,rfl⟩
  exact .s (pt 0 2) (.s (im (a.Ears.map aw) false) (.st (dn (e:=50)) (.bd (g:=fun (y:Bool)=>(bA y)) (by simp only[cf,dF]; exact a4 a2 ((a.Ears.length:Int))) fun y5=>.s (bA (!y5)) (.lg ⟨_,_,_,_,_,_,rfl⟩))))
 rintro _ y6 ⟨k,p,q,r,u,v,rfl⟩
 refine .u4 (.uc (.uc (.uc (.bQ ?_ ?_))))
 ·exact .s cU (.s [bx (ak a),bx [Ye,Ye,Ye,(iA 0)]] (.s cU (.lv u2)))
 refine .s2 (iA a.Bar) (.st (aZ ..) (.bQ ?_ ?_))
 ·exact .s cU (.s [bx (ak a),bx [Ye,Ye,Ye,(iA 0)]] (.s cU (.lv u2)))
 refine .as (J2 C n _ _ _ _ a5 d a ?_ _ 0 (([]:List Int)))
 ·intro w af ah
  refine .un rfl (.cT r8 (.s2 (ag [(im (a.Net.Queue.map aq) false),(im (a.Net.Apart.map au) false)]) (.s2 (iA a.Bar) (.st (aF ..) (.s (ag [(im (a.Net.Queue.map aq) false),(im (a.Net.Apart.map au) false),Ye,(iA (wr .i64 (a.Bar+1)))]) (.sq (pt 3 0) (.s [bx (ak a),bx [Ye,Ye,Ye,(iA 0)],aC.row false 1 (w.map (cI .i64)),bx [(im (a.Net.Queue.map aq) false),(im (a.Net.Apart.map au) false),Ye,(iA (wr .i64 (a.Bar+1)))]] (.as (J3 C n _ _ _ _ a6 a7 a2 0 a ([]) ([]) ([]) 0 w a.Net.Queue a.Net.Apart (wr .i64 (a.Bar+1)) ?_ _ 0 (([]:List aN)))))))))))
  ·intro c ai aj al w912
   refine .un rfl (.cT r8 (.lp (YX (fun z=>aE _ _ _ _ _ _ _ (List.length z) _ _ _ _ _ (St.mk _ z)) (rQ (H:=[bx (ak a),bx [Ye,Ye,Ye,(iA 0)],w912,bx [(im (a.Net.Queue.map aq) false),(im (a.Net.Apart.map au) false),(bM 4 0 c.length false),(iA (wr .i64 (a.Bar+1)))],aC.row false 3 (c.map aw)]) (lo:=0) (off:=2) (b:=3) (o:=0) (b':=4) (es:=3) (l:=c) dc rfl rfl rfl (YK rfl))) (.as (J5 C n _ _ _ _ a8 a ([]) ([]) ([]) 0 ?_ ?_ _ 0 a.Net.Queue a.Net.Apart c (wr .i64 (a.Bar+1))))))
   ·intro am ab an ao ap w1022 w1023
    exact .un rfl (.s (ag [Ye,Ye,Ye,(iA ab)]) (.lv u2))
   ·intro f h i j ar ax ay w1031
    exact .un rfl (.cT r8 (.s (ag [(im (f.map aq) false),(im (h.map au) false),(im (i.map aw) false),(iA j)]) (.s [w1031,bx [(im (f.map aq) false),(im (h.map au) false),(im (i.map aw) false),(iA j)],w912,bx [(im (f.map aq) false),(im (h.map au) false),(im (i.map aw) false),(iA j)],aC.row false 3 (c.map aw)] (.s (ag [(im (f.map aq) false),(im (h.map au) false),(im (i.map aw) false),(iA j)]) (.lv u2)))))
def G8 (a:av) (b:(List Int)) (a2:(List Int)):Option (av×Int):=F8 aA a b a2
def Ma (C:OT):Prop:=∀ (a:av) (b:(List Int)) (a2:(List Int)),C 8 [(ag (ak a)),(im (b.map (cI .i64)) false),(im (a2.map (cI .i64)) false)]=(G8 a b a2).map fun y=>(tp [(ag (ak y.1)),(iA y.2)])
def kQ (n:Nat) (c:Int) (d:av) (f:(List ay)) (g:(List (Int×Int))) (h:(List aN)) (i:Int):Nat->Int->av->Option ((Int×Int)⊕(av))
 | 0,_,_=>none
 | m+1,a,e=>bif (decide (a<d.Bar)) then ((Im e c a).bind fun b=>bif (b.2 != 0) then (some ((Sum.inl ((b.2,0))))) else (kQ n c d f g h i m (wr .i64 (a+1)) b.1)) else (some ((Sum.inr e)))
theorem CX (q:wO C) {w162:A} (k:Int) (b:av) (c:(List ay)) (d:(List (Int×Int))) (e:(List aN)) (f:Int) {K:((Int×Int)⊕(av))->Option γ} (r:∀ (a:Int) (p:Int) (l:A) (s2:A) (t:A) (o:A) (q0:aC) (q2:aC),J φ (kr (St.mk [(1,l),(2,s2),(4,(pt 1 0)),(5,(iA a)),(7,t),(8,o)] [q0,bx [Ye,Ye,Ye,(iA p)],q2])) kL (K (Sum.inl ((a,p)))) some) (u:∀ (a:av) (l:A) (s2:A) (v:A) (o:A) (q0:aC),J φ (kx 0 (St.mk [(1,l),(2,s2),(4,(pt 1 0)),(5,v),(7,(pt 2 0)),(8,o)] [q0,(bo c d e f),bx [(im (a.Net.Queue.map aq) false),(im (a.Net.Apart.map au) false),(im (a.Ears.map aw) false),(iA a.Bar)]])) kL (K (Sum.inr a)) some) :
  ∀ (m:Nat) (j:Int) (h:av),J φ (aE (cx C) (ec C n 8) (ey C n 8) (n+8) 10 0 0 3 kx kg kr kp m (St.mk [(1,(iA k)),(2,(pt 0 0)),(4,(pt 1 0)),(5,w162),(7,(pt 2 0)),(8,(iA j))] [bx (ak b),(bo c d e f),bx (ak h)])) kL (kQ n k b c d e f m j h) K:=by
  refine nI (fun _ _=>.nn) fun m ih j h=>.lp (Mr ..) ?_
  unfold kQ
  refine .s2 (iA b.Bar) (.st (aS ..) (.bQ ?_ ?_))
  ·refine .s (ag (ak h)) (.bd (g:=fun (y:(av×Int))=>(tp [(ag (ak y.1)),(iA y.2)])) (by simp only[cf,dF]; exact q h k j) fun i=>.s (ag (ak i.1)) (.s (iA i.2) (.s [bx (ak b),(bo c d e f),bx (ak i.1)] (.st (aH ..) (.bQ ?_ ?_)))))
   ·exact .s (ag [Ye,Ye,Ye,(iA 0)]) (.s [bx (ak b),bx [Ye,Ye,Ye,(iA 0)],bx (ak i.1)] (.ex (r _ _ _ _ _ _ _ _)))
   refine .st (aF ..) (.s [bx (ak b),(bo c d e f),bx (ak i.1)] (.cT r8 ?_))
   exact ih _ _
  exact .ex (u _ _ _ _ _ _)
def OH (n:Nat) (a:av) (b:Int):Option (av×Int):=
 (Lg a).bind fun c=>bif (c != 0) then (some (((av.mk ((bh.mk ([]) ([]))) ([]) 0),c))) else ((bif (decide (b<0)) then (some true) else (some (decide (((a.Ears.length:Int))<=b)))).bind fun d=>(bif d then (some true) else (some (a.Bar==0))).bind fun e=>bif e then (some (((av.mk ((bh.mk ([]) ([]))) ([]) 0),1))) else ((kQ n b a ([]) ([]) ([]) 0 (n+8) 0 a).bind fun f=>match f with | (Sum.inl ((g,h)))=>some (((av.mk ((bh.mk ([]) ([]))) ([]) h),g)) | (Sum.inr i)=>some ((i,0))))
theorem Vz (C:OT) (n:Nat) (p:CI C) (q:wO C) (a:av) (c:Int):TJ C n 10 [(ag (ak a)),(iA c)] (OH n a c) (fun y=>(tp [(ag (ak y.1)),(iA y.2)])):=by
 refine .lp (Ws ..) ?_
 unfold OH
 refine .s ((pt 0 0),[bx (ak a)]) (.s ((pt 1 0),[bx (ak a),bx [Ye,Ye,Ye,(iA 0)]]) (.s (ag (ak a)) (.bd (g:=fun (y:Int)=>(iA y)) (by simp only[cf,dF]; exact p a) fun u=>.st (aH ..) (.bQ ?_ ?_))))
 ·exact .s (ag [Ye,Ye,Ye,(iA 0)]) (.s [bx (ak a),bx [Ye,Ye,Ye,(iA 0)]] (.s (ag [Ye,Ye,Ye,(iA 0)]) (.lv u2)))
 refine .st (aS ..) (.bg (fun t (y:Bool)=>∃ d f h i j:A,t=[(bA y),d,f,h,i,j]) ?_ ?_)
 ·refine .bi ?_ ?_
  ·exact .lg ⟨_,_,_,_,_,rfl⟩
  exact .s (pt 0 2) (.s (im (a.Ears.map aw) false) (.st (dn (e:=50)) (.st (dq ..) (.lg ⟨_,_,_,_,_,rfl⟩))))
 rintro _ v ⟨d,f,h,i,j,rfl⟩
 refine .u4 (.uc (.uc (.bg (fun t (y:Bool)=>∃ k l o:A,t=[(bA y),k,l,o]) ?_ ?_)))
 ·refine .bi ?_ ?_
  ·exact .lg ⟨_,_,_,rfl⟩
  exact .s (pt 0 3) (.s (iA a.Bar) (.st (aZ ..) (.lg ⟨_,_,_,rfl⟩)))
 rintro _ w ⟨k,l,o,rfl⟩
 refine .u4 (.bQ ?_ ?_)
 ·exact .s (ag [Ye,Ye,Ye,(iA 0)]) (.s [bx (ak a),bx [Ye,Ye,Ye,(iA 0)]] (.s (ag [Ye,Ye,Ye,(iA 0)]) (.lv u2)))
 refine .s (ag (ak a)) (.sq (pt 2 0) (.s [bx (ak a),bx [Ye,Ye,Ye,(iA 0)],bx (ak a)] (.as (CX C n _ _ _ _ q c a ([]) ([]) ([]) 0 ?_ ?_ _ 0 a))))
 ·intro x r z a2 a3 a4 w181 w182
  exact .un rfl (.s (ag [Ye,Ye,Ye,(iA r)]) (.lv u2))
 ·intro b a5 a6 a7 a8 w188
  exact .un rfl (.cT r8 (.s (ag (ak b)) (.s [w188,bx (ak b),bx (ak b)] (.s (ag (ak b)) (.lv u2)))))
def LG (a:av) (b:Int):Option (av×Int):=OH aA a b
def Iu (C:OT):Prop:=∀ (a:av) (b:Int),C 10 [(ag (ak a)),(iA b)]=(LG a b).map fun y=>(tp [(ag (ak y.1)),(iA y.2)])
def Pe (n:Nat) (a:ay) (b:ay):Option Bool:=
 (bif (a.From==b.From) then (some (a.To==b.To)) else (some false)).bind fun c=>(bif c then (some (jy (gp a.Data) (gp b.Data))) else (some false)).bind fun d=>some d
theorem Wb (C:OT) (n:Nat) (a:ay) (b:ay):TJ C n 67 [(ag (aq a)),(ag (aq b))] (Pe n a b) (fun y=>(bA y)):=by
 refine .lp (W8 ..) ?_
 unfold Pe
 refine .s ((pt 0 0),[bx (aq a)]) (.s ((pt 1 0),[bx (aq a),bx (aq b)]) (.s2 (iA a.From) (.s2 (iA b.From) (.st (aZ ..) (.bg (fun t (y:Bool)=>∃ c d f g h:A,t=[(bA y),c,d,f,g,h]) ?_ ?_)))))
 ·refine .bi ?_ ?_
  ·exact .s (pt 0 1) (.s (iA a.To) (.s (pt 1 1) (.s (iA b.To) (.st (aZ ..) (.lg ⟨_,_,_,_,_,rfl⟩)))))
  exact .lg ⟨_,_,_,_,_,rfl⟩
 rintro _ u ⟨c,d,f,g,h,rfl⟩
 refine .u4 (.uc (.uc (.bg (fun t (y:Bool)=>∃ i j k o p q r:A,t=[(bA y),i,j,k,o,p,q,r]) ?_ ?_)))
 ·refine .bi ?_ ?_
  ·exact .s (pt 0 2) (.s (im (a.Data.map c8) false) (.st (v:=(A.v (Value.string (gp a.Data)))) (nV (e:=5) (l:=a.Data) r8 r8 r8 r8 (bH ..) rfl) (.s (pt 1 2) (.s (im (b.Data.map c8) false) (.st (v:=(A.v (Value.string (gp b.Data)))) (nV (e:=5) (l:=b.Data) r8 r8 r8 r8 (bH ..) rfl) (.st (jX ..) (.lg ⟨_,_,_,_,_,_,_,rfl⟩)))))))
  exact .lg ⟨_,_,_,_,_,_,_,rfl⟩
 rintro _ w ⟨i,j,k,o,p,q,r,rfl⟩
 exact .u4 (.u4 (.lv rfl))
def LZ (a:ay) (b:ay):Option Bool:=Pe aA a b
def CT (C:OT):Prop:=∀ (a:ay) (b:ay),C 67 [(ag (aq a)),(ag (aq b))]=(LZ a b).map fun y=>(bA y)
def kZ (n:Nat) (b:(List ay)) (d:(List (Int×Int))) (c:(List ay)) (e:(List (Int×Int))):Nat->Int->Option ((Bool)⊕(Unit))
 | 0,_=>none
 | m+1,a=>bif (decide (a<((b.length:Int)))) then ((bf b a).bind fun f=>(bf c a).bind fun g=>(LZ f g).bind fun h=>bif (!h) then (some ((Sum.inl false))) else (kZ n b d c e m (wr .i64 (a+1)))) else (some ((Sum.inr (()))))
theorem Dh (l:CT C) {w126:A} (a:(List ay)) (c:(List (Int×Int))) (b:(List ay)) (d:(List (Int×Int))) {K:((Bool)⊕(Unit))->Option γ} (o:∀ (i:Bool) (s2:A) (p:A) (f:A) (q0:aC) (q1:aC),J φ (kr (St.mk [(2,s2),(3,p),(4,(bA i)),(5,f)] [q0,q1])) kL (K (Sum.inl i)) some) (q:∀ (f:A),J φ (kx 0 (St.mk [(2,(pt 0 0)),(3,(pt 1 0)),(4,w126),(5,f)] [bx [(im (a.map aq) false),(im (c.map au) false)],bx [(im (b.map aq) false),(im (d.map au) false)]])) kL (K (Sum.inr (()))) some) :
  ∀ (m:Nat) (h:Int),J φ (aE (cx C) (ec C n 8) (ey C n 8) (n+8) 35 0 0 2 kx kg kr kp m (St.mk [(2,(pt 0 0)),(3,(pt 1 0)),(4,w126),(5,(iA h))] [bx [(im (a.map aq) false),(im (c.map au) false)],bx [(im (b.map aq) false),(im (d.map au) false)]])) kL (kZ n a c b d m h) K:=by
  refine nI (fun _=>.nn) fun m ih h=>.lp (MD ..) ?_
  unfold kZ
  refine .s2 (im (a.map aq) false) (.st (dn (e:=68)) (.st (aS ..) (.bQ ?_ ?_)))
  ·refine .s2 (im (a.map aq) false) (.bd (dr (e:=68) (es:=3)) fun j=>.s (ag (aq j)) (.s2 (im (b.map aq) false) (.bd (dr (e:=68) (es:=3)) fun k=>.s (ag (aq k)) (.bd (g:=fun (y:Bool)=>(bA y)) (by simp only[cf,dF]; exact l j k) fun r=>.s (bA (!r)) (.bQ ?_ ?_)))))
   ·exact .ex (o _ _ _ _ _ _)
   refine .st (aF ..) (.s [bx [(im (a.map aq) false),(im (c.map au) false)],bx [(im (b.map aq) false),(im (d.map au) false)]] (.cT r8 ?_))
   exact ih _
  exact .ex (q _)
def k9 (n:Nat) (f:(List ay)) (b:(List (Int×Int))) (g:(List ay)) (c:(List (Int×Int))):Nat->Int->Option ((Bool)⊕(Unit))
 | 0,_=>none
 | m+1,a=>bif (decide (a<((b.length:Int)))) then ((bf b a).bind fun d=>(bf c a).bind fun e=>bif (!((d.1==e.1)&&(d.2==e.2))) then (some ((Sum.inl false))) else (k9 n f b g c m (wr .i64 (a+1)))) else (some ((Sum.inr (()))))
theorem Di {w145:A} (f:(List ay)) (a:(List (Int×Int))) (g:(List ay)) (b:(List (Int×Int))) {K:((Bool)⊕(Unit))->Option γ} (l:∀ (k:Bool) (s2:A) (h:A) (i:A) (q0:aC) (q1:aC),J φ (kr (St.mk [(2,s2),(3,h),(4,(bA k)),(6,i)] [q0,q1])) kL (K (Sum.inl k)) some) (o:∀ (s2:A) (h:A) (p:A) (i:A) (q0:aC) (q1:aC),J φ (kx 2 (St.mk [(2,s2),(3,h),(4,p),(6,i)] [q0,q1])) kL (K (Sum.inr (()))) some) :
  ∀ (m:Nat) (j:Int),J φ (aE (cx C) (ec C n 8) (ey C n 8) (n+8) 35 0 1 2 kx kg kr kp m (St.mk [(2,(pt 0 0)),(3,(pt 1 0)),(4,w145),(6,(iA j))] [bx [(im (f.map aq) false),(im (a.map au) false)],bx [(im (g.map aq) false),(im (b.map au) false)]])) kL (k9 n f a g b m j) K:=by
  refine nI (fun _=>.nn) fun m ih j=>.lp (ME ..) ?_
  unfold k9
  refine .s2 (im (a.map au) false) (.st (dn (e:=99)) (.st (aS ..) (.bQ ?_ ?_)))
  ·refine .s2 (im (a.map au) false) (.bd (dr (e:=99) (es:=2)) fun c=>.s (ag [(iA c.1),(iA c.2)]) (.s2 (im (b.map au) false) (.bd (dr (e:=99) (es:=2)) fun d=>.s (ag [(iA d.1),(iA d.2)]) (.s (bA (!((c.1==d.1)&&(c.2==d.2)))) (.bQ ?_ ?_)))))
   ·exact .ex (l _ _ _ _ _ _)
   refine .st (aF ..) (.s [bx [(im (f.map aq) false),(im (a.map au) false)],bx [(im (g.map aq) false),(im (b.map au) false)]] (.cT r8 ?_))
   exact ih _
  exact .ex (o _ _ _ _ _ _)
def OW (n:Nat) (a:bh) (b:bh):Option Bool:=
 (bif (((a.Queue.length:Int)) != ((b.Queue.length:Int))) then (some true) else (some (((a.Apart.length:Int)) != ((b.Apart.length:Int))))).bind fun c=>bif c then (some false) else ((kZ n a.Queue a.Apart b.Queue b.Apart (n+8) 0).bind fun d=>match d with | (Sum.inl e)=>some e | (Sum.inr _)=>(k9 n a.Queue a.Apart b.Queue b.Apart (n+8) 0).bind fun f=>match f with | (Sum.inl g)=>some g | (Sum.inr _)=>some true)
theorem VS (C:OT) (n:Nat) (k:CT C) (a:bh) (b:bh):TJ C n 35 [(ag [(im (a.Queue.map aq) false),(im (a.Apart.map au) false)]),(ag [(im (b.Queue.map aq) false),(im (b.Apart.map au) false)])] (OW n a b) (fun y=>(bA y)):=by
 refine .lp (WL ..) ?_
 unfold OW
 refine .sq (pt 0 0) (.s ((pt 1 0),[bx [(im (a.Queue.map aq) false),(im (a.Apart.map au) false)],bx [(im (b.Queue.map aq) false),(im (b.Apart.map au) false)]]) (.s2 (im (a.Queue.map aq) false) (.st (dn (e:=68)) (.s2 (im (b.Queue.map aq) false) (.st (dn (e:=68)) (.st (aH ..) (.bg (fun t (y:Bool)=>∃ c d f g h i j:A,t=[(bA y),c,d,f,g,h,i,j]) ?_ ?_)))))))
 ·refine .bi ?_ ?_
  ·exact .lg ⟨_,_,_,_,_,_,_,rfl⟩
  exact .s (pt 0 1) (.s (im (a.Apart.map au) false) (.st (dn (e:=99)) (.s (pt 1 1) (.s (im (b.Apart.map au) false) (.st (dn (e:=99)) (.st (aH ..) (.lg ⟨_,_,_,_,_,_,_,rfl⟩)))))))
 rintro _ l ⟨c,d,f,g,h,i,j,rfl⟩
 refine .u4 (.u4 (.bQ ?_ ?_))
 ·exact .lv rfl
 refine .as (Dh C n _ _ _ _ k a.Queue a.Apart b.Queue b.Apart ?_ ?_ _ 0)
 ·intro o p q r w142 w143
  exact .un rfl (.lv rfl)
 ·intro u
  refine .un rfl (.cT r8 (.as (Di C n _ _ _ _ a.Queue a.Apart b.Queue b.Apart ?_ ?_ _ 0)))
  ·intro v w x z w160 w161
   exact .un rfl (.lv rfl)
  ·intro a2 a3 a4 a5 w166 w167
   exact .un rfl (.cT r8 (.lv rfl))
def LN (a:bh) (b:bh):Option Bool:=OW aA a b
def IC (C:OT):Prop:=∀ (a:bh) (b:bh),C 35 [(ag [(im (a.Queue.map aq) false),(im (a.Apart.map au) false)]),(ag [(im (b.Queue.map aq) false),(im (b.Apart.map au) false)])]=(LN a b).map fun y=>(bA y)
def OI (n:Nat) (a:av) (b:av):Option Bool:=
 (bif (a.Bar==b.Bar) then ((FM a.Ears b.Ears).bind fun c=>some c) else (some false)).bind fun d=>(bif d then ((LN a.Net b.Net).bind fun e=>some e) else (some false)).bind fun f=>some f
theorem VA (C:OT) (n:Nat) (p:CE C) (q:IC C) (a:av) (b:av):TJ C n 11 [(ag (ak a)),(ag (ak b))] (OI n a b) (fun y=>(bA y)):=by
 refine .lp (Wt ..) ?_
 unfold OI
 refine .s ((pt 0 0),[bx (ak a)]) (.s ((pt 1 0),[bx (ak a),bx (ak b)]) (.s2 (iA a.Bar) (.s2 (iA b.Bar) (.st (aZ ..) (.bg (fun t (y:Bool)=>∃ c d e f h:A,t=[(bA y),c,d,e,f,h]) ?_ ?_)))))
 ·refine .bi ?_ ?_
  ·exact .s (pt 0 2) (.s (im (a.Ears.map aw) false) (.s (pt 1 2) (.s (im (b.Ears.map aw) false) (.bd (g:=fun (y:Bool)=>(bA y)) (by simp only[cf,dF]; exact p a.Ears b.Ears) fun r=>.lg ⟨_,_,_,_,_,rfl⟩))))
  exact .lg ⟨_,_,_,_,_,rfl⟩
 rintro _ u ⟨c,d,e,f,h,rfl⟩
 refine .u4 (.uc (.uc (.bg (fun t (y:Bool)=>∃ i j k l o:A,t=[(bA y),i,j,k,l,o]) ?_ ?_)))
 ·refine .bi ?_ ?_
  ·exact .s (pt 0 0) (.s (ag [(im (a.Net.Queue.map aq) false),(im (a.Net.Apart.map au) false)]) (.s (pt 1 0) (.s (ag [(im (b.Net.Queue.map aq) false),(im (b.Net.Apart.map au) false)]) (.bd (g:=fun (y:Bool)=>(bA y)) (by simp only[cf,dF]; exact q a.Net b.Net) fun v=>.lg ⟨_,_,_,_,_,rfl⟩))))
  exact .lg ⟨_,_,_,_,_,rfl⟩
 rintro _ w ⟨i,j,k,l,o,rfl⟩
 exact .u4 (.uc (.uc (.lv rfl)))
def Ld (a:av) (b:av):Option Bool:=OI aA a b
def Iv (C:OT):Prop:=∀ (a:av) (b:av),C 11 [(ag (ak a)),(ag (ak b))]=(Ld a b).map fun y=>(bA y)
def F3 (n:Nat) (a:av) (b:(List Int)) (a2:(List Int)) (c:Int):Option Bool:=
 (G5 ).bind fun h=>bif (!h) then (some false) else ((G6 a).bind fun i=>(bif (!i) then (some true) else (some (decide (100<((b.length:Int)))))).bind fun j=>(bif j then (some true) else (some (decide (100<((a2.length:Int)))))).bind fun k=>bif k then (some true) else ((G7 a b a2).bind fun d=>(G8 a b a2).bind fun e=>(G9 a c).bind fun f=>(LG a c).bind fun g=>(Ld d.1 e.1).bind fun l=>(bif l then (some (d.2==e.2)) else (some false)).bind fun o=>(bif o then ((Ld f.1 g.1).bind fun p=>some p) else (some false)).bind fun q=>(bif q then (some (f.2==g.2)) else (some false)).bind fun r=>some r))
theorem T3 (C:OT) (n:Nat) (a8:Iu C) (j:Iv C) (h5:L8 C) (h6:L9 C) (h7:JU C) (h8:Ma C) (h9:JV C) (a:av) (h:(List Int)) (a2:(List Int)) (i:Int):TJ C n 3 [(ag (ak a)),(im (h.map (cI .i64)) false),(im (a2.map (cI .i64)) false),(iA i)] (F3 n a h a2 i) (fun y=>(bA y)):=by
 refine .lp (e3 ..) ?_
 unfold F3
 refine .s ((pt 0 0),[bx (ak a)]) (.bd (h5 ()) fun y1=>.s (bA (!y1)) (.bQ ?_ ?_))
 ·exact .lv rfl
 refine .s (ag (ak a)) (.bd (g:=fun (y:Bool)=>(bA y)) (by simp only[cf,dF]; exact h6 a) fun y3=>.s (bA (!y3)) (.bg (fun t (y:Bool)=>∃ k l o:A,t=[(bA y),k,l,o]) ?_ ?_))
 ·refine .bi ?_ ?_
  ·exact .lg ⟨_,_,_,rfl⟩
  exact .st (dn (e:=3)) (.st (cC ..) (.lg ⟨_,_,_,rfl⟩))
 rintro _ y5 ⟨k,l,o,rfl⟩
 refine .u4 (.bg (fun t (y:Bool)=>∃ p q r:A,t=[(bA y),p,q,r]) ?_ ?_)
 ·refine .bi ?_ ?_
  ·exact .lg ⟨_,_,_,rfl⟩
  exact .st (dn (e:=3)) (.st (cC ..) (.lg ⟨_,_,_,rfl⟩))
 rintro _ aj ⟨p,q,r,rfl⟩
 refine .u4 (.bQ ?_ ?_)
 ·exact .lv rfl
 refine .s (ag (ak a)) (.bd (g:=fun (y:(av×Int))=>(tp [(ag (ak y.1)),(iA y.2)])) (by simp only[cf,dF]; exact h7 a h a2) fun b=>.s (ag (ak b.1)) (.s (iA b.2) (.sq (pt 1 0) (.s [bx (ak a),bx (ak b.1)] (.s (ag (ak a)) (.bd (g:=fun (y:(av×Int))=>(tp [(ag (ak y.1)),(iA y.2)])) (by simp only[cf,dF]; exact h8 a h a2) fun c=>.s (ag (ak c.1)) (.s (iA c.2) (.sq (pt 2 0) (.s [bx (ak a),bx (ak b.1),bx (ak c.1)] (.s (ag (ak a)) (.bd (g:=fun (y:(av×Int))=>(tp [(ag (ak y.1)),(iA y.2)])) (by simp only[cf,dF]; exact h9 a i) fun d=>.s (ag (ak d.1)) (.s (iA d.2) (.sq (pt 3 0) (.s [bx (ak a),bx (ak b.1),bx (ak c.1),bx (ak d.1)] (.s (ag (ak a)) (.bd (g:=fun (y:(av×Int))=>(tp [(ag (ak y.1)),(iA y.2)])) (by simp only[cf,dF]; exact a8 a i) fun f=>.s (ag (ak f.1)) (.s (iA f.2) (.sq (pt 4 0) (.s [bx (ak a),bx (ak b.1),bx (ak c.1),bx (ak d.1),bx (ak f.1)] ?_)))))))))))))))))))
 refine .s (ag (ak b.1)) (.s (ag (ak c.1)) (.bd (g:=fun (y:Bool)=>(bA y)) (by simp only[cf,dF]; exact j b.1 c.1) fun al=>.bg (fun t (y:Bool)=>∃ u v w:A,t=[(bA y),u,v,w]) ?_ ?_))
 ·refine .bi ?_ ?_
  ·exact .st (aZ ..) (.lg ⟨_,_,_,rfl⟩)
  exact .lg ⟨_,_,_,rfl⟩
 rintro _ am ⟨u,v,w,rfl⟩
 refine .u4 (.bg (fun t (y:Bool)=>∃ x z a4:A,t=[(bA y),x,z,a4]) ?_ ?_)
 ·refine .bi ?_ ?_
  ·exact .s (ag (ak d.1)) (.s (ag (ak f.1)) (.bd (g:=fun (y:Bool)=>(bA y)) (by simp only[cf,dF]; exact j d.1 f.1) fun an=>.lg ⟨_,_,_,rfl⟩))
  exact .lg ⟨_,_,_,rfl⟩
 rintro _ ao ⟨x,z,a4,rfl⟩
 refine .u4 (.bg (fun t (y:Bool)=>∃ a5 a6 a7:A,t=[(bA y),a5,a6,a7]) ?_ ?_)
 ·refine .bi ?_ ?_
  ·exact .st (aZ ..) (.lg ⟨_,_,_,rfl⟩)
  exact .lg ⟨_,_,_,rfl⟩
 rintro _ ap ⟨a5,a6,a7,rfl⟩
 exact .u4 (.lv rfl)
def G3 (a:av) (b:(List Int)) (a2:(List Int)) (c:Int):Option Bool:=F3 aA a b a2 c
end Go.Proofs.YtebkhfhcipnfgaaGreat
