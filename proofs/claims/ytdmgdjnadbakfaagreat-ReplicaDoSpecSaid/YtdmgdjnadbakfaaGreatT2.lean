/-
 The program's functions as plain functions: by a tool; each follows the interpreter.
-/
import Derived.Test.YtdmgdjnadbakfaaGreatT1
namespace Go.Proofs.YtdmgdjnadbakfaaGreat
open Go.Proofs.Tryz (prog)
set_option linter.unusedVariables false
set_option linter.unusedSimpArgs false
set_option maxHeartbeats 4000000
set_option maxRecDepth 100000
set_option linter.defProp false
theorem XJ {p:Prop} (h:p:=by simp only[uB,gx,gy,Nat.reduceLT,decide_true,aX]):p:=h
theorem XK {p:Prop} (h:p:=by simp only[uB,gx,gy,Nat.reduceLT,decide_true,ed]):p:=h
variable (C:Nat->List A->Option A) (n:Nat) {ρ γ:Type} {φ:ρ->γ->Prop} {kL:R->Option ρ} (kx kg:Nat->St->Option R) (kr:St->Option R) (kp:A->St->Option R)
def Af (C:OT) (self:ak->Option (Int×Bool)):Prop:=∀ (a:ak),C 97 [(ag (ai a))]=(self a).map fun y=>(tp [(iA y.1),(bA y.2)])
def kB (self:ak->Option (Int×Bool)) (n:Nat) (f:Bool) (d:(List ak)) (e:Int) (g:ak) (h:Bool) (i:Bool) (j:Bool) (k:Bool):Nat->Int->Int->Option ((Int×Bool)⊕(Int))
 | 0,_,_=>none
 | m+1,a,b=>bif (decide (b<e)) then ((bt d b).bind fun l=>(self l).bind fun c=>bif (!c.2) then (some ((Sum.inl ((0,false))))) else (kB self n f d e g h i j k m ((if a<c.1 then c.1 else a)) (wr .i64 (b+1)))) else (some ((Sum.inr a)))
theorem EC (self:ak->Option (Int×Bool)) (hS:Af C self) (t:Bool) (l:(List ak)) (u:Int) (f:ak) (h:Bool) (i:Bool) (j:Bool) (k:Bool) {K:((Int×Bool)⊕(Int))->Option γ} (x:∀ (a:Int) (w:Bool) (o:A) (p:A) (q:A) (q0:az) (q1:az) (q2:az),J φ (kr (St.mk [(2,(iA a)),(3,(bA w)),(55,o),(56,p),(57,q)] [q0,q1,q2])) kL (K (Sum.inl ((a,w)))) some) (z:∀ (a:Int) (s3:A) (o:A) (p:A) (q:A) (q0:az) (q1:az),J φ (kx 0 (St.mk [(2,(iA a)),(3,s3),(55,o),(56,p),(57,q)] [q0,q1])) kL (K (Sum.inr a)) some) :
  ∀ (m:Nat) (b:Int) (r:Int),J φ (aH (cx C) (ec C n 8) (ey C n 8) (n+8) 97 0 0 2 kx kg kr kp m (St.mk [(2,(iA b)),(3,(bA t)),(55,(im (l.map ax) false)),(56,(iA u)),(57,(iA r))] [bx (ai f),bx [(bA h),(bA i),(bA j),(bA k)]])) kL (kB self n t l u f h i j k m b r) K:=by
  refine nI (fun _ _=>.nn) fun m ih b r=>.lp (MV ..) ?_
  unfold kB
  refine .st (aW ..) (.bX ?_ ?_)
  ·refine .bd ((fa (e:=102) (es:=4)).trans (fA _)) fun c=>.s (ag (ai c)) (.sq (pt 2 0) (.s [bx (ai f),bx [(bA h),(bA i),(bA j),(bA k)],bx (ai c)] (.s (ag (ai c)) (.bd (g:=fun (y:(Int×Bool))=>(tp [(iA y.1),(bA y.2)])) (by show C 97 [snap _ (ag (ai c))]=_; simp only[bJ,dg]; exact hS c) fun d=>.s (iA d.1) (.s (bA d.2) (.s (bA (!d.2)) (.bX ?_ ?_)))))))
   ·exact .ex (x _ _ _ _ _ _ _ _)
   refine .s (iA ((if b<d.1 then d.1 else b))) (.st (aM ..) (.st (v:=[bx (ai f),bx [(bA h),(bA i),(bA j),(bA k)]]) (eH j9 u2) (.cT ((by kernel_rfl:_=(bif aR 2 (l.map ax) then true else false)).trans so) ?_)))
   exact ih _ _
  exact .ex (z _ _ _ _ _ _ _)
def LA (self:ak->Option (Int×Bool)) (n:Nat) (a:ak):Option (Int×Bool):=
 (bif (lI a.S ((ByteArray.mk #[]))) then (some (((a.L.length:Int))==0)) else (some false)).bind fun b=>(bif (a.N==0) then (some (((a.L.length:Int))==0)) else (some false)).bind fun c=>(bif (a.N==0) then (some (lI a.S ((ByteArray.mk #[])))) else (some false)).bind fun d=>(bif (decide (a.Kind<1)) then (some true) else (some (decide (3<a.Kind)))).bind fun e=>(bif e then (some true) else (bif decide (a.Kind=0) then (some true) else bif decide (a.Kind=1) then (some (!b)) else bif decide (a.Kind=2) then (some (!c)) else bif decide (a.Kind=3) then (some (!d)) else none)).bind fun f=>bif f then (some ((0,false))) else (bif (decide (a.Kind<3)) then (some ((0,true))) else ((kB self n false a.L ((a.L.length:Int)) a false b c d (n+8) 0 0).bind fun g=>match g with | (Sum.inl ((h,i)))=>some ((h,i)) | (Sum.inr j)=>some ((wr .i64 (j+1),true))))
theorem VW (C:OT) (n:Nat) (self:ak->Option (Int×Bool)) (hS:Af C self) (a:ak):TJ C n 97 [(ag (ai a))] (LA self n a) (fun y=>(tp [(iA y.1),(bA y.2)])):=by
 refine .lp (W6 ..) ?_
 unfold LA
 refine .s ((pt 0 0),[bx (ai a)]) (.s2 (sA a.S) (.st (mN ..) (.bg (fun t (y:Bool)=>∃ f g h i:A,t=[(bA y),f,g,h,i]) ?_ ?_)))
 ·refine .bi ?_ ?_
  ·exact .s (pt 0 3) (.s (im (a.L.map ax) false) (.st (dr (e:=102)) (.st (aV ..) (.lg ⟨_,_,_,_,rfl⟩))))
  exact .lg ⟨_,_,_,_,rfl⟩
 rintro _ b ⟨f,g,h,i,rfl⟩
 refine .u4 (.uc (.s2 (iA a.N) (.st (aV ..) (.bg (fun t (y:Bool)=>∃ j k l o:A,t=[(bA y),j,k,l,o]) ?_ ?_))))
 ·refine .bi ?_ ?_
  ·exact .s (pt 0 3) (.s (im (a.L.map ax) false) (.st (dr (e:=102)) (.st (aV ..) (.lg ⟨_,_,_,_,rfl⟩))))
  exact .lg ⟨_,_,_,_,rfl⟩
 rintro _ c ⟨j,k,l,o,rfl⟩
 refine .u4 (.uc (.s2 (iA a.N) (.st (aV ..) (.bg (fun t (y:Bool)=>∃ p q r:A,t=[(bA y),p,q,r]) ?_ ?_))))
 ·refine .bi ?_ ?_
  ·exact .s (pt 0 2) (.s (sA a.S) (.st (mN ..) (.lg ⟨_,_,_,rfl⟩)))
  exact .lg ⟨_,_,_,rfl⟩
 rintro _ d ⟨p,q,r,rfl⟩
 refine .u4 (.s (ag [(bA false),(bA b),(bA c),(bA d)]) (.sq (pt 1 0) (.s [bx (ai a),bx [(bA false),(bA b),(bA c),(bA d)]] (.s2 (iA a.Kind) (.st (aW ..) (.bg (fun t (y:Bool)=>∃ u w x:A,t=[(bA y),u,w,x]) ?_ ?_))))))
 ·refine .bi ?_ ?_
  ·exact .lg ⟨_,_,_,rfl⟩
  exact .s (pt 0 0) (.s (iA a.Kind) (.st (cF ..) (.lg ⟨_,_,_,rfl⟩)))
 rintro _ a9 ⟨u,w,x,rfl⟩
 refine .u4 (.bg (fun t (y:Bool)=>∃ z a1 a2 a3 a4:A,t=[(bA y),z,a1,a2,a3,a4]) ?_ ?_)
 ·refine .bi ?_ ?_
  ·exact .lg ⟨_,_,_,_,_,rfl⟩
  refine .s (pt 0 0) (.s (iA a.Kind) (.sp (fun a5=>?_) (fun _=>?_)))
  ·exact .st (v:=(pt 1 0)) (by rw[X7 a5]; kernel_rfl) (.s (bA false) (.s (bA true) (.lg ⟨_,_,_,_,_,rfl⟩)))
  refine .sp (fun a6=>?_) (fun _=>?_)
  ·exact .st (v:=(pt 1 1)) (by rw[X7 a6]; kernel_rfl) (.s (bA b) (.s (bA (!b)) (.lg ⟨_,_,_,_,_,rfl⟩)))
  refine .sp (fun a7=>?_) (fun _=>?_)
  ·exact .st (v:=(pt 1 2)) (by rw[X7 a7]; kernel_rfl) (.s (bA c) (.s (bA (!c)) (.lg ⟨_,_,_,_,_,rfl⟩)))
  refine .sp (fun a8=>?_) (fun _=>?_)
  ·exact .st (v:=(pt 1 3)) (by rw[X7 a8]; kernel_rfl) (.s (bA d) (.s (bA (!d)) (.lg ⟨_,_,_,_,_,rfl⟩)))
  exact .nn
 rintro _ aa ⟨z,a1,a2,a3,a4,rfl⟩
 refine .u4 (.uc (.uc (.bX ?_ ?_)))
 ·exact .lv rfl
 refine .s2 (iA a.Kind) (.st (aW ..) (.bX ?_ ?_))
 ·exact .lv rfl
 refine .s2 (im (a.L.map ax) false) (.st (dr (e:=102)) (.as (EC C n _ _ _ _ self hS false a.L ((a.L.length:Int)) a false b c d ?_ ?_ _ 0 0)))
 ·intro ab ad ae af ah w128 w129 w130
  exact .un rfl (.lv rfl)
 ·intro aj al am an ao w136 w137
  exact .un rfl (.cT j9 (.st (aM ..) (.lv rfl)))
def Jg:Nat->ak->Option (Int×Bool)
 | 0=>fun _=>none
 | q+1=>fun a0=>LA (Jg q) aA a0
def Pp (a:ak):Option (Int×Bool):=Jg aA a
def Jd (C:OT):Prop:=∀ (a:ak),C 97 [(ag (ai a))]=(Pp a).map fun y=>(tp [(iA y.1),(bA y.2)])
def Pf (n:Nat) (b:ak):Option Int:=
 (Pp b).bind fun a=>bif (!a.2) then (some 1) else (bif (decide (16<a.1)) then (some 2) else (some 0))
theorem VO (C:OT) (n:Nat) (c:Jd C) (a:ak):TJ C n 86 [(ag (ai a))] (Pf n a) (fun y=>(iA y)):=by
 refine .lp (WV ..) ?_
 unfold Pf
 refine .s ((pt 0 0),[bx (ai a)]) (.s (ag (ai a)) (.bd (g:=fun (y:(Int×Bool))=>(tp [(iA y.1),(bA y.2)])) (by simp only[bJ,dg]; exact c a) fun b=>.s (iA b.1) (.s (bA b.2) (.s (bA (!b.2)) (.bX ?_ ?_)))))
 ·exact .lv rfl
 refine .st (cF ..) (.bX ?_ ?_)
 ·exact .lv rfl
 exact .lv rfl
def LS (a:ak):Option Int:=Pf aA a
def Ja (C:OT):Prop:=∀ (a:ak),C 86 [(ag (ai a))]=(LS a).map fun y=>(iA y)
def Gu (n:Nat) (a:Int):Option Int:=
 some (sw .u64 (p5 .u64 (wr .u64 (a)) 1) (wr .u64 (oz .i64 a 63)))
theorem QK (C:OT) (n:Nat) (a:Int):TJ C n 100 [(iA a)] (Gu n a) (fun y=>(A.v (.int .u64 y))):=by
 refine .lp (QY ..) ?_
 unfold Gu
 exact .st (v:=(A.v (.int .u64 (wr .u64 (a))))) (aU (hs:=by kernel_rfl) (hd:=by kernel_rfl) ..) (.st (sU (hb:=by decide) ..) (.st (lZ (hb:=by decide) ..) (.st (v:=(A.v (.int .u64 (wr .u64 (oz .i64 a 63))))) (aU (hs:=by kernel_rfl) (hd:=by kernel_rfl) ..) (.st (pn ..) (.lv rfl)))))
def Ad (a:Int):Option Int:=Gu aA a
def qS (C:OT):Prop:=∀ (a:Int),C 100 [(iA a)]=(Ad a).map fun y=>(A.v (.int .u64 y))
def aX:az:=bx [(A.v Value.nilFunc),(gp 98 [] []),(gp 101 [] []),(gp 102 [] [(pt 2 0)])]
def DN (C:OT) (N:Nat) (self:ak->ak->(List UInt8)->ak->Option (List UInt8)):Prop:=∀ (a:ak) (b:ak) (a2:(List UInt8)) (c:ak) (X:aB),J (fun (o:R) (y:(List UInt8))=>o=(Out.ret (bo 4 0 y.length false),[bx (ai a),aX,bx [(pt 1 0)],bx (ai b),az.row false 1 (y.map c8)]++X)) (dS (cx C) N 102 [(bo 4 0 a2.length false),(ag (ai c)),(pt 2 0)] ([bx (ai a),aX,bx [(pt 1 0)],bx (ai b),az.row false 1 (a2.map c8)]++X) 0) some (self a b a2 c) some
def j0 (n:Nat):Nat->Int->(List UInt8)->Option (Int×(List UInt8))
 | 0,_,_=>none
 | m+1,a,b=>bif (decide (128<=a)) then (bif (decide (0<=(nG .u8 (wr .u8 (a)) 128))&&decide ((nG .u8 (wr .u8 (a)) 128)<256)) then ((cU 1 b ([(UInt8.ofNat (Int.toNat (nG .u8 (wr .u8 (a)) 128)))])).bind fun c=>j0 n m (oz .u64 a 7) c) else none) else (some ((a,b)))
theorem Ag {w44:A} {w45 w46 w47 w48 w49:az} {K:(Int×(List UInt8))->Option γ} (h:∀ (e:Int) (d:(List UInt8)) (i:A),J φ (kx 0 (St.mk [(0,(bo 4 0 d.length false)),(1,(A.v (.int .u64 e))),(4,i)] [w45,w46,w47,w48,az.row false 1 (d.map c8),w49])) kL (K (e,d)) some) :
  ∀ (m:Nat) (a:Int) (c:(List UInt8)),J φ (aH (cx C) (ec C n 7) (ey C n 7) (n+7) 99 0 0 6 kx kg kr kp m (St.mk [(0,(bo 4 0 c.length false)),(1,(A.v (.int .u64 a))),(4,w44)] [w45,w46,w47,w48,az.row false 1 (c.map c8),w49])) kL (j0 n  m a c) K:=by
  refine nI (fun _ _=>.nn) fun m ih a c=>.lp (BP ..) ?_
  unfold j0
  refine .st (fj ..) (.bX ?_ ?_)
  ·refine .st (v:=(uA (wr .u8 (a)))) (aU (hs:=by kernel_rfl) (hd:=by kernel_rfl) ..) (.st (ix ..) (.gd fun hg=>.st (v:=(im [[(uA (((UInt8.ofNat (Int.toNat (nG .u8 (wr .u8 (a)) 128))).toNat:Int)))]] true)) (by rw[fU hg]; kernel_rfl) (.bd (g:=fun (y:List UInt8)=>((bo 4 0 y.length false),[w45,w46,w47,w48,az.row false 1 (y.map c8),w49])) (cp dj (l:=c) (l2:=[(UInt8.ofNat (Int.toNat (nG .u8 (wr .u8 (a)) 128)))]) (b:=4) rfl (by decide) (bk (f:=c8) ([(UInt8.ofNat (Int.toNat (nG .u8 (wr .u8 (a)) 128)))]:List UInt8) _ _)) fun j=>.st (lZ (hb:=by decide) ..) (.s [w45,w46,w47,w48,az.row false 1 (j.map c8),w49] (.cT j9 ?_)))))
   exact ih _ _
  exact .ex (h _ _ _)
def fY (n:Nat):Nat->Int->(List UInt8)->Option (Int×(List UInt8))
 | 0,_,_=>none
 | m+1,a,b=>bif (decide (128<=a)) then (bif (decide (0<=(nG .u8 (wr .u8 (a)) 128))&&decide ((nG .u8 (wr .u8 (a)) 128)<256)) then ((cU 1 b ([(UInt8.ofNat (Int.toNat (nG .u8 (wr .u8 (a)) 128)))])).bind fun c=>fY n m (oz .u64 a 7) c) else none) else (some ((a,b)))
theorem rJ {w1301:A} {w1302 w1303 w1304 w1305 w1306 w1307 w1308:az} {K:(Int×(List UInt8))->Option γ} (h:∀ (e:Int) (d:(List UInt8)) (i:A),J φ (kx 0 (St.mk [(0,(bo 4 0 d.length false)),(1,(A.v (.int .u64 e))),(4,i)] [w1302,w1303,w1304,w1305,az.row false 1 (d.map c8),w1306,w1307,w1308])) kL (K (e,d)) some) :
  ∀ (m:Nat) (a:Int) (c:(List UInt8)),J φ (aH (cx C) (dS (cx C) (n+6)) (bq (cx C) (n+6)) (n+6) 99 0 0 8 kx kg kr kp m (St.mk [(0,(bo 4 0 c.length false)),(1,(A.v (.int .u64 a))),(4,w1301)] [w1302,w1303,w1304,w1305,az.row false 1 (c.map c8),w1306,w1307,w1308])) kL (fY n  m a c) K:=by
  refine nI (fun _ _=>.nn) fun m ih a c=>.lp (BP ..) ?_
  unfold fY
  refine .st (fj ..) (.bX ?_ ?_)
  ·refine .st (v:=(uA (wr .u8 (a)))) (aU (hs:=by kernel_rfl) (hd:=by kernel_rfl) ..) (.st (ix ..) (.gd fun hg=>.st (v:=(im [[(uA (((UInt8.ofNat (Int.toNat (nG .u8 (wr .u8 (a)) 128))).toNat:Int)))]] true)) (by rw[fU hg]; kernel_rfl) (.bd (g:=fun (y:List UInt8)=>((bo 4 0 y.length false),[w1302,w1303,w1304,w1305,az.row false 1 (y.map c8),w1306,w1307,w1308])) (cp dj (l:=c) (l2:=[(UInt8.ofNat (Int.toNat (nG .u8 (wr .u8 (a)) 128)))]) (b:=4) rfl (by decide) (bk (f:=c8) ([(UInt8.ofNat (Int.toNat (nG .u8 (wr .u8 (a)) 128)))]:List UInt8) _ _)) fun j=>.st (lZ (hb:=by decide) ..) (.s [w1302,w1303,w1304,w1305,az.row false 1 (j.map c8),w1306,w1307,w1308] (.cT j9 ?_)))))
   exact ih _ _
  exact .ex (h _ _ _)
def eK (self:ak->ak->(List UInt8)->ak->Option (List UInt8)) (n:Nat) (h:(List UInt8)) (c:(List ak)) (d:Int) (e:ak) (f:ak) (i:ak):Nat->Int->(List UInt8)->Option ((List UInt8))
 | 0,_,_=>none
 | m+1,b,g=>bif (decide (b<d)) then ((bt c b).bind fun a=>bif decide (a.Kind=0) then (none) else bif decide (a.Kind=1) then ((cU 1 g ([(1:UInt8)])).bind fun l=>(Ad a.N).bind fun o=>(fY n  (n+6) o l).bind fun p=>match p with | (j,q)=>bif (decide (0<=(wr .u8 (j)))&&decide ((wr .u8 (j))<256)) then ((cU 1 q ([(UInt8.ofNat (Int.toNat (wr .u8 (j))))])).bind fun r=>eK self n h c d e f i m (wr .i64 (b+1)) r) else none) else bif decide (a.Kind=2) then ((cU 1 g ([(2:UInt8)])).bind fun s=>(fY n  (n+6) (wr .u64 ((a.S.size:Int))) s).bind fun t=>match t with | (k,u)=>bif (decide (0<=(wr .u8 (k)))&&decide ((wr .u8 (k))<256)) then ((cU 1 u ([(UInt8.ofNat (Int.toNat (wr .u8 (k))))])).bind fun v=>(cU 1 v (jw a.S)).bind fun w=>eK self n h c d e f i m (wr .i64 (b+1)) w) else none) else bif decide (a.Kind=3) then ((self e f g a).bind fun x=>eK self n h c d e f i m (wr .i64 (b+1)) x) else none) else (some g)
theorem ya (w:qS C) (self:ak->ak->(List UInt8)->ak->Option (List UInt8)) (hS:DN C (n+8) self) (j:(List UInt8)) (k:(List ak)) (u:Int) (c:ak) (d:ak) (h:ak) {K:((List UInt8))->Option γ} (x:∀ (q:(List UInt8)) (s2:A) (z:A) (a0:A) (a1:A) (a2:A) (q5:az),J φ (kx 0 (St.mk [(0,(bo 4 0 q.length false)),(2,s2),(5,z),(17,a0),(18,a1),(19,a2)] [bx (ai c),aX,bx [(pt 1 0)],bx (ai d),az.row false 1 (q.map c8),q5])) kL (K q) some) :
  ∀ (m:Nat) (r:Int) (i:(List UInt8)),J φ (aH (cx C) (ec C n 8) (ey C n 8) (n+8) 102 0 0 6 kx kg kr kp m (St.mk [(0,(bo 4 0 i.length false)),(2,(pt 2 0)),(5,(im (j.map c8) true)),(17,(im (k.map ax) false)),(18,(iA u)),(19,(iA r))] [bx (ai c),aX,bx [(pt 1 0)],bx (ai d),az.row false 1 (i.map c8),bx (ai h)])) kL (eK self n j k u c d h m r i) K:=by
  refine nI (fun _ _=>.nn) fun m ih r i=>.lp (ET ..) ?_
  unfold eK
  refine .st (aW ..) (.bX ?_ ?_)
  ·refine .bd ((fa (e:=102) (es:=4)).trans (fA _)) fun a=>.s (ag (ai a)) (.sq (pt 6 0) (.s [bx (ai c),aX,bx [(pt 1 0)],bx (ai d),az.row false 1 (i.map c8),bx (ai h),bx (ai a)] (.s (pt 1 0) (.s2 (iA a.Kind) (.s (pt 1 0) (.sp (fun a3=>?_) (fun _=>?_)))))))
   ·exact .st (v:=(pt 1 0)) (by rw[X7 a3]; kernel_rfl) (.s2 (A.v Value.nilFunc) (.s (ag (ai a)) (.nn)))
   refine .sp (fun a4=>?_) (fun _=>?_)
   ·refine .st (v:=(pt 1 1)) (by rw[X7 a4]; kernel_rfl) (.s2 (gp 98 [] []) (.s (ag (ai a)) (.dC j9 j9 (.cl ((aw FA).trans (Q9 ..)) (.s ((pt 7 0),[bx (ai c),aX,bx [(pt 1 0)],bx (ai d),az.row false 1 (i.map c8),bx (ai h),bx (ai a),bx (ai a)]) (.s (im [[(uA 1)]] true) (.bd (g:=fun (y:List UInt8)=>((bo 4 0 y.length false),[bx (ai c),aX,bx [(pt 1 0)],bx (ai d),az.row false 1 (y.map c8),bx (ai h),bx (ai a),bx (ai a)])) (cp dj (l:=i) (l2:=[(1:UInt8)]) (b:=4) rfl (by decide) (bk (f:=c8) ([(1:UInt8)]:List UInt8) _ _)) fun a5=>.cT j9 (.s (pt 7 1) (.cT j9 (.s (iA a.N) (.bd (w a.N) fun a6=>.cl ((aw rS).trans (Jn ..)) (.as (rJ C n _ _ _ _  ?_ _ a6 a5)))))))))))))
    ·intro o a7 aj
     refine .un rfl (.cT j9 (.st (v:=(uA (wr .u8 (o)))) (aU (hs:=by kernel_rfl) (hd:=by kernel_rfl) ..) (.gd fun hg=>.st (v:=(im [[(uA (((UInt8.ofNat (Int.toNat (wr .u8 (o)))).toNat:Int)))]] true)) (by rw[fU hg]; kernel_rfl) (.bd (g:=fun (y:List UInt8)=>((bo 4 0 y.length false),[bx (ai c),aX,bx [(pt 1 0)],bx (ai d),az.row false 1 (y.map c8),bx (ai h),bx (ai a),bx (ai a)])) (cp dj (l:=a7) (l2:=[(UInt8.ofNat (Int.toNat (wr .u8 (o))))]) (b:=4) rfl (by decide) (bk (f:=c8) ([(UInt8.ofNat (Int.toNat (wr .u8 (o))))]:List UInt8) _ _)) fun a8=>.cr (.ok (.cr (.ok (.st (aM ..) (.st (v:=[bx (ai c),aX,bx [(pt 1 0)],bx (ai d),az.row false 1 (a8.map c8),bx (ai h)]) (eH j9 XJ) (.cT ((by kernel_rfl:_=(bif aR 6 (j.map c8) then (bif aR 6 (k.map ax) then true else false) else false)).trans so) ?_))))))))))
     exact ih _ _
   refine .sp (fun a9=>?_) (fun _=>?_)
   ·refine .st (v:=(pt 1 2)) (by rw[X7 a9]; kernel_rfl) (.s2 (gp 101 [] []) (.s (ag (ai a)) (.dC j9 j9 (.cl ((aw A1).trans (Kj ..)) (.s ((pt 7 0),[bx (ai c),aX,bx [(pt 1 0)],bx (ai d),az.row false 1 (i.map c8),bx (ai h),bx (ai a),bx (ai a)]) (.s ((A.ip (ai a)),[bx (ai c),aX,bx [(pt 1 0)],bx (ai d),az.row false 1 (i.map c8),bx (ai h),bx (ai a),az.dead]) (.cT j9 (.s (im [[(uA 2)]] true) (.s (A.ip [(sA a.S),(im (a.L.map ax) false)]) (.s (sA a.S) (.s (iA ((a.S.size:Int))) (.st (v:=(A.v (.int .u64 (wr .u64 ((a.S.size:Int)))))) (aU (hs:=by kernel_rfl) (hd:=by kernel_rfl) ..) (.s (A.ip [(sA a.S),(im (a.L.map ax) false)]) (.s (sA a.S) (.cT j9 (.bd (g:=fun (y:List UInt8)=>((bo 4 0 y.length false),[bx (ai c),aX,bx [(pt 1 0)],bx (ai d),az.row false 1 (y.map c8),bx (ai h),bx (ai a),az.dead])) (cp dj (l:=i) (l2:=[(2:UInt8)]) (b:=4) rfl (by decide) (bk (f:=c8) ([(2:UInt8)]:List UInt8) _ _)) fun aa=>.cT j9 (.cl ((aw rS).trans (Jn ..)) (.as (rJ C n _ _ _ _  ?_ _ (wr .u64 ((a.S.size:Int))) aa)))))))))))))))))))
    ·intro p ab al
     refine .un rfl (.cT j9 (.st (v:=(uA (wr .u8 (p)))) (aU (hs:=by kernel_rfl) (hd:=by kernel_rfl) ..) (.gd fun hg=>.st (v:=(im [[(uA (((UInt8.ofNat (Int.toNat (wr .u8 (p)))).toNat:Int)))]] true)) (by rw[fU hg]; kernel_rfl) (.bd (g:=fun (y:List UInt8)=>((bo 4 0 y.length false),[bx (ai c),aX,bx [(pt 1 0)],bx (ai d),az.row false 1 (y.map c8),bx (ai h),bx (ai a),az.dead])) (cp dj (l:=ab) (l2:=[(UInt8.ofNat (Int.toNat (wr .u8 (p))))]) (b:=4) rfl (by decide) (bk (f:=c8) ([(UInt8.ofNat (Int.toNat (wr .u8 (p))))]:List UInt8) _ _)) fun ad=>.cr (.ok (.bd (g:=fun (y:List UInt8)=>((bo 4 0 y.length false),[bx (ai c),aX,bx [(pt 1 0)],bx (ai d),az.row false 1 (y.map c8),bx (ai h),bx (ai a),az.dead])) (cp wJ (l:=ad) (l2:=jw a.S) (b:=4) rfl (by decide) (sE ..)) fun ae=>.cr (.ok (.st (aM ..) (.st (v:=[bx (ai c),aX,bx [(pt 1 0)],bx (ai d),az.row false 1 (ae.map c8),bx (ai h)]) (eH j9 XJ) (.cT ((by kernel_rfl:_=(bif aR 6 (j.map c8) then (bif aR 6 (k.map ax) then true else false) else false)).trans so) ?_))))))))))
     exact ih _ _
   refine .sp (fun af=>?_) (fun _=>?_)
   ·refine .st (v:=(pt 1 3)) (by rw[X7 af]; kernel_rfl) (.s2 (gp 102 [] [(pt 2 0)]) (.s (ag (ai a)) (.dC j9 j9 (.bg (fun (t:R) (y:(List UInt8))=>t=(Out.ret (bo 4 0 y.length false),[bx (ai c),aX,bx [(pt 1 0)],bx (ai d),az.row false 1 (y.map c8),bx (ai h),bx (ai a)])) (hS c d i a [bx (ai h),bx (ai a)]) ?_))))
    rintro _ ah rfl
    refine .ok (.st (aM ..) (.st (v:=[bx (ai c),aX,bx [(pt 1 0)],bx (ai d),az.row false 1 (ah.map c8),bx (ai h)]) (eH j9 XJ) (.cT ((by kernel_rfl:_=(bif aR 6 (j.map c8) then (bif aR 6 (k.map ax) then true else false) else false)).trans so) ?_)))
    exact ih _ _
   exact .nn
  exact .ex (x _ _ _ _ _ _ _)
def vd (self:ak->ak->(List UInt8)->ak->Option (List UInt8)) (n:Nat) (c:ak) (d:ak) (a2:(List UInt8)) (a:ak):Option (List UInt8):=
 (cU 1 a2 ([(3:UInt8)])).bind fun e=>(j0 n  (n+7) (wr .u64 ((a.L.length:Int))) e).bind fun f=>match f with | (b,g)=>bif (decide (0<=(wr .u8 (b)))&&decide ((wr .u8 (b))<256)) then ((cU 1 g ([(UInt8.ofNat (Int.toNat (wr .u8 (b))))])).bind fun h=>(eK self n ([]) a.L ((a.L.length:Int)) c d a (n+8) 0 h).bind fun i=>match i with | j=>some j) else none
theorem L9 (C:OT) (n:Nat) (i:qS C) (self:ak->ak->(List UInt8)->ak->Option (List UInt8)) (hS:DN C (n+8) self) (c:ak) (d:ak) (a2:(List UInt8)) (a:ak):J (fun (o:R) (y:(List UInt8))=>∃ Z,o=(Out.ret (bo 4 0 y.length false),[bx (ai c),aX,bx [(pt 1 0)],bx (ai d),az.row false 1 (y.map c8)]++Z)) (aE (cx C) (ec C n 8) (ey C n 8) (n+8) 102 [(bo 4 0 a2.length false),(ag (ai a)),(pt 2 0)] [bx (ai c),aX,bx [(pt 1 0)],bx (ai d),az.row false 1 (a2.map c8)] 0) some (vd self n c d a2 a) some:=by
 refine .lp (Mn ..) ?_
 unfold vd
 refine .s ((pt 5 0),[bx (ai c),aX,bx [(pt 1 0)],bx (ai d),az.row false 1 (a2.map c8),bx (ai a)]) (.s (im [[(uA 3)]] true) (.bd (g:=fun (y:List UInt8)=>((bo 4 0 y.length false),[bx (ai c),aX,bx [(pt 1 0)],bx (ai d),az.row false 1 (y.map c8),bx (ai a)])) (cp dj (l:=a2) (l2:=[(3:UInt8)]) (b:=4) rfl (by decide) (bk (f:=c8) ([(3:UInt8)]:List UInt8) _ _)) fun j=>.cT j9 (.s (pt 5 3) (.cT j9 (.s (im (a.L.map ax) false) (.cT j9 (.st (dr (e:=102)) (.cT j9 (.st (v:=(A.v (.int .u64 (wr .u64 ((a.L.length:Int)))))) (aU (hs:=by kernel_rfl) (hd:=by kernel_rfl) ..) (.cl ((aw rS).trans (Jn ..)) (.as (Ag C n _ _ _ _  ?_ _ (wr .u64 ((a.L.length:Int))) j))))))))))))
 ·intro h k q
  refine .un rfl (.cT j9 (.st (v:=(uA (wr .u8 (h)))) (aU (hs:=by kernel_rfl) (hd:=by kernel_rfl) ..) (.gd fun hg=>.st (v:=(im [[(uA (((UInt8.ofNat (Int.toNat (wr .u8 (h)))).toNat:Int)))]] true)) (by rw[fU hg]; kernel_rfl) (.bd (g:=fun (y:List UInt8)=>((bo 4 0 y.length false),[bx (ai c),aX,bx [(pt 1 0)],bx (ai d),az.row false 1 (y.map c8),bx (ai a)])) (cp dj (l:=k) (l2:=[(UInt8.ofNat (Int.toNat (wr .u8 (h))))]) (b:=4) rfl (by decide) (bk (f:=c8) ([(UInt8.ofNat (Int.toNat (wr .u8 (h))))]:List UInt8) _ _)) fun p=>.cr (.ok (.s2 (im (a.L.map ax) false) (.st (dr (e:=102)) (.as (ya C n _ _ _ _ i self hS ([]) a.L ((a.L.length:Int)) c d a ?_ _ 0 p)))))))))
  ·intro r t u w x z w1400
   exact .un rfl (.cT j9 (.lf rfl rfl ⟨[w1400],rfl⟩))
def wz:Nat->ak->ak->(List UInt8)->ak->Option (List UInt8)
 | 0=>fun _ _ _ _=>none
 | N+1=>fun a0 a1 a2 a3=>bif Nat.ble 8 N then vd (wz N) (N - 8) a0 a1 a2 a3 else none
theorem IL (C:OT) (d:qS C):∀ N,DN C N (wz N)
 | 0=>fun _ _ _ _ X r h=>by cases h
 | N+1=>fun a b a2 c X=>by
  show J _ _ _ (bif Nat.ble 8 N then vd (wz N) (N - 8) a b a2 c else none) _
  cases h:Nat.ble 8 N with
  | false=>exact fun r h=>by cases h
  | true=>
   obtain ⟨n,rfl⟩:∃ n,N=n+8:=⟨N - 8,by have:=Yu h; omega⟩
   rw[qaW]
   exact EO (m:=5) j9 j9 (by decide) rfl ((by kernel_rfl:_=((((aR 5 (c.L.map ax))&&true))&&true)).trans so) ((by kernel_rfl:_=((((aR 5 (a.L.map ax))&&true))&&((((aR 5 (b.L.map ax))&&true))&&((aR 5 (a2.map c8))&&true)))).trans so) (fun _=>rfl) (fun y=>j9) (fun y=>((by kernel_rfl:_=((((aR 5 (a.L.map ax))&&true))&&((((aR 5 (b.L.map ax))&&true))&&((aR 5 (y.map c8))&&true)))).trans so)) (L9 C n d (wz (n+8)) (IL C d (n+8)) a b a2 c)
def iv (n:Nat):Nat->Int->(List UInt8)->Option (Int×(List UInt8))
 | 0,_,_=>none
 | m+1,a,b=>bif (decide (128<=a)) then (bif (decide (0<=(nG .u8 (wr .u8 (a)) 128))&&decide ((nG .u8 (wr .u8 (a)) 128)<256)) then ((cU 1 b ([(UInt8.ofNat (Int.toNat (nG .u8 (wr .u8 (a)) 128)))])).bind fun c=>iv n m (oz .u64 a 7) c) else none) else (some ((a,b)))
theorem sP {w75:A} {w76 w77 w78 w79:az} {K:(Int×(List UInt8))->Option γ} (h:∀ (e:Int) (d:(List UInt8)) (i:A),J φ (kx 0 (St.mk [(0,(bo 4 0 d.length false)),(1,(A.v (.int .u64 e))),(4,i)] [w76,w77,w78,w79,az.row false 1 (d.map c8)])) kL (K (e,d)) some) :
  ∀ (m:Nat) (a:Int) (c:(List UInt8)),J φ (aH (cx C) (dS (cx C) (n+6)) (bq (cx C) (n+6)) (n+6) 99 0 0 5 kx kg kr kp m (St.mk [(0,(bo 4 0 c.length false)),(1,(A.v (.int .u64 a))),(4,w75)] [w76,w77,w78,w79,az.row false 1 (c.map c8)])) kL (iv n  m a c) K:=by
  refine nI (fun _ _=>.nn) fun m ih a c=>.lp (BP ..) ?_
  unfold iv
  refine .st (fj ..) (.bX ?_ ?_)
  ·refine .st (v:=(uA (wr .u8 (a)))) (aU (hs:=by kernel_rfl) (hd:=by kernel_rfl) ..) (.st (ix ..) (.gd fun hg=>.st (v:=(im [[(uA (((UInt8.ofNat (Int.toNat (nG .u8 (wr .u8 (a)) 128))).toNat:Int)))]] true)) (by rw[fU hg]; kernel_rfl) (.bd (g:=fun (y:List UInt8)=>((bo 4 0 y.length false),[w76,w77,w78,w79,az.row false 1 (y.map c8)])) (cp dj (l:=c) (l2:=[(UInt8.ofNat (Int.toNat (nG .u8 (wr .u8 (a)) 128)))]) (b:=4) rfl (by decide) (bk (f:=c8) ([(UInt8.ofNat (Int.toNat (nG .u8 (wr .u8 (a)) 128)))]:List UInt8) _ _)) fun j=>.st (lZ (hb:=by decide) ..) (.s [w76,w77,w78,w79,az.row false 1 (j.map c8)] (.cT j9 ?_)))))
   exact ih _ _
  exact .ex (h _ _ _)
def iT (n:Nat):Nat->Int->(List UInt8)->Option (Int×(List UInt8))
 | 0,_,_=>none
 | m+1,a,b=>bif (decide (128<=a)) then (bif (decide (0<=(nG .u8 (wr .u8 (a)) 128))&&decide ((nG .u8 (wr .u8 (a)) 128)<256)) then ((cU 1 b ([(UInt8.ofNat (Int.toNat (nG .u8 (wr .u8 (a)) 128)))])).bind fun c=>iT n m (oz .u64 a 7) c) else none) else (some ((a,b)))
theorem vg {w865:A} {w866 w867 w868 w869 w870 w871:az} {K:(Int×(List UInt8))->Option γ} (h:∀ (e:Int) (d:(List UInt8)) (i:A),J φ (kx 0 (St.mk [(0,(bo 4 0 d.length false)),(1,(A.v (.int .u64 e))),(4,i)] [w866,w867,w868,w869,az.row false 1 (d.map c8),w870,w871])) kL (K (e,d)) some) :
  ∀ (m:Nat) (a:Int) (c:(List UInt8)),J φ (aH (cx C) (dS (cx C) (n+5)) (bq (cx C) (n+5)) (n+5) 99 0 0 7 kx kg kr kp m (St.mk [(0,(bo 4 0 c.length false)),(1,(A.v (.int .u64 a))),(4,w865)] [w866,w867,w868,w869,az.row false 1 (c.map c8),w870,w871])) kL (iT n  m a c) K:=by
  refine nI (fun _ _=>.nn) fun m ih a c=>.lp (BP ..) ?_
  unfold iT
  refine .st (fj ..) (.bX ?_ ?_)
  ·refine .st (v:=(uA (wr .u8 (a)))) (aU (hs:=by kernel_rfl) (hd:=by kernel_rfl) ..) (.st (ix ..) (.gd fun hg=>.st (v:=(im [[(uA (((UInt8.ofNat (Int.toNat (nG .u8 (wr .u8 (a)) 128))).toNat:Int)))]] true)) (by rw[fU hg]; kernel_rfl) (.bd (g:=fun (y:List UInt8)=>((bo 4 0 y.length false),[w866,w867,w868,w869,az.row false 1 (y.map c8),w870,w871])) (cp dj (l:=c) (l2:=[(UInt8.ofNat (Int.toNat (nG .u8 (wr .u8 (a)) 128)))]) (b:=4) rfl (by decide) (bk (f:=c8) ([(UInt8.ofNat (Int.toNat (nG .u8 (wr .u8 (a)) 128)))]:List UInt8) _ _)) fun j=>.st (lZ (hb:=by decide) ..) (.s [w866,w867,w868,w869,az.row false 1 (j.map c8),w870,w871] (.cT j9 ?_)))))
   exact ih _ _
  exact .ex (h _ _ _)
def gz (n:Nat) (h:(List UInt8)) (c:(List ak)) (d:Int) (e:ak) (f:ak):Nat->Int->(List UInt8)->Option ((List UInt8))
 | 0,_,_=>none
 | m+1,b,g=>bif (decide (b<d)) then ((bt c b).bind fun a=>bif decide (a.Kind=0) then (none) else bif decide (a.Kind=1) then ((cU 1 g ([(1:UInt8)])).bind fun k=>(Ad a.N).bind fun l=>(iT n  (n+5) l k).bind fun o=>match o with | (i,p)=>bif (decide (0<=(wr .u8 (i)))&&decide ((wr .u8 (i))<256)) then ((cU 1 p ([(UInt8.ofNat (Int.toNat (wr .u8 (i))))])).bind fun q=>gz n h c d e f m (wr .i64 (b+1)) q) else none) else bif decide (a.Kind=2) then ((cU 1 g ([(2:UInt8)])).bind fun r=>(iT n  (n+5) (wr .u64 ((a.S.size:Int))) r).bind fun s=>match s with | (j,t)=>bif (decide (0<=(wr .u8 (j)))&&decide ((wr .u8 (j))<256)) then ((cU 1 t ([(UInt8.ofNat (Int.toNat (wr .u8 (j))))])).bind fun u=>(cU 1 u (jw a.S)).bind fun v=>gz n h c d e f m (wr .i64 (b+1)) v) else none) else bif decide (a.Kind=3) then ((wz (n+7) e f g a).bind fun w=>gz n h c d e f m (wr .i64 (b+1)) w) else none) else (some g)
theorem CM (r:qS C) (i:(List UInt8)) (j:(List ak)) (u:Int) (c:ak) (d:ak) {K:((List UInt8))->Option γ} (w:∀ (p:(List UInt8)) (s2:A) (x:A) (z:A) (a0:A) (a1:A) (q0:az) (q1:az) (q2:az) (q3:az),J φ (kx 0 (St.mk [(0,(bo 4 0 p.length false)),(2,s2),(5,x),(17,z),(18,a0),(19,a1)] [q0,q1,q2,q3,az.row false 1 (p.map c8)])) kL (K p) some) :
  ∀ (m:Nat) (q:Int) (h:(List UInt8)),J φ (aH (cx C) (ec C n 7) (ey C n 7) (n+7) 102 0 0 5 kx kg kr kp m (St.mk [(0,(bo 4 0 h.length false)),(2,(pt 2 0)),(5,(im (i.map c8) true)),(17,(im (j.map ax) false)),(18,(iA u)),(19,(iA q))] [bx (ai c),aX,bx [(pt 1 0)],bx (ai d),az.row false 1 (h.map c8)])) kL (gz n i j u c d m q h) K:=by
  refine nI (fun _ _=>.nn) fun m ih q h=>.lp (ET ..) ?_
  unfold gz
  refine .st (aW ..) (.bX ?_ ?_)
  ·refine .bd ((fa (e:=102) (es:=4)).trans (fA _)) fun a=>.s (ag (ai a)) (.sq (pt 5 0) (.s [bx (ai c),aX,bx [(pt 1 0)],bx (ai d),az.row false 1 (h.map c8),bx (ai a)] (.s (pt 1 0) (.s2 (iA a.Kind) (.s (pt 1 0) (.sp (fun a2=>?_) (fun _=>?_)))))))
   ·exact .st (v:=(pt 1 0)) (by rw[X7 a2]; kernel_rfl) (.s2 (A.v Value.nilFunc) (.s (ag (ai a)) (.nn)))
   refine .sp (fun a3=>?_) (fun _=>?_)
   ·refine .st (v:=(pt 1 1)) (by rw[X7 a3]; kernel_rfl) (.s2 (gp 98 [] []) (.s (ag (ai a)) (.dC j9 j9 (.cl ((aw FA).trans (Q9 ..)) (.s ((pt 6 0),[bx (ai c),aX,bx [(pt 1 0)],bx (ai d),az.row false 1 (h.map c8),bx (ai a),bx (ai a)]) (.s (im [[(uA 1)]] true) (.bd (g:=fun (y:List UInt8)=>((bo 4 0 y.length false),[bx (ai c),aX,bx [(pt 1 0)],bx (ai d),az.row false 1 (y.map c8),bx (ai a),bx (ai a)])) (cp dj (l:=h) (l2:=[(1:UInt8)]) (b:=4) rfl (by decide) (bk (f:=c8) ([(1:UInt8)]:List UInt8) _ _)) fun a4=>.cT j9 (.s (pt 6 1) (.cT j9 (.s (iA a.N) (.bd (r a.N) fun a5=>.cl ((aw rS).trans (Jn ..)) (.as (vg C n _ _ _ _  ?_ _ a5 a4)))))))))))))
    ·intro k a6 ah
     refine .un rfl (.cT j9 (.st (v:=(uA (wr .u8 (k)))) (aU (hs:=by kernel_rfl) (hd:=by kernel_rfl) ..) (.gd fun hg=>.st (v:=(im [[(uA (((UInt8.ofNat (Int.toNat (wr .u8 (k)))).toNat:Int)))]] true)) (by rw[fU hg]; kernel_rfl) (.bd (g:=fun (y:List UInt8)=>((bo 4 0 y.length false),[bx (ai c),aX,bx [(pt 1 0)],bx (ai d),az.row false 1 (y.map c8),bx (ai a),bx (ai a)])) (cp dj (l:=a6) (l2:=[(UInt8.ofNat (Int.toNat (wr .u8 (k))))]) (b:=4) rfl (by decide) (bk (f:=c8) ([(UInt8.ofNat (Int.toNat (wr .u8 (k))))]:List UInt8) _ _)) fun a7=>.cr (.ok (.cr (.ok (.st (aM ..) (.st (v:=[bx (ai c),aX,bx [(pt 1 0)],bx (ai d),az.row false 1 (a7.map c8)]) (eH j9 XJ) (.cT ((by kernel_rfl:_=(bif aR 5 (i.map c8) then (bif aR 5 (j.map ax) then true else false) else false)).trans so) ?_))))))))))
     exact ih _ _
   refine .sp (fun a8=>?_) (fun _=>?_)
   ·refine .st (v:=(pt 1 2)) (by rw[X7 a8]; kernel_rfl) (.s2 (gp 101 [] []) (.s (ag (ai a)) (.dC j9 j9 (.cl ((aw A1).trans (Kj ..)) (.s ((pt 6 0),[bx (ai c),aX,bx [(pt 1 0)],bx (ai d),az.row false 1 (h.map c8),bx (ai a),bx (ai a)]) (.s ((A.ip (ai a)),[bx (ai c),aX,bx [(pt 1 0)],bx (ai d),az.row false 1 (h.map c8),bx (ai a),az.dead]) (.cT j9 (.s (im [[(uA 2)]] true) (.s (A.ip [(sA a.S),(im (a.L.map ax) false)]) (.s (sA a.S) (.s (iA ((a.S.size:Int))) (.st (v:=(A.v (.int .u64 (wr .u64 ((a.S.size:Int)))))) (aU (hs:=by kernel_rfl) (hd:=by kernel_rfl) ..) (.s (A.ip [(sA a.S),(im (a.L.map ax) false)]) (.s (sA a.S) (.cT j9 (.bd (g:=fun (y:List UInt8)=>((bo 4 0 y.length false),[bx (ai c),aX,bx [(pt 1 0)],bx (ai d),az.row false 1 (y.map c8),bx (ai a),az.dead])) (cp dj (l:=h) (l2:=[(2:UInt8)]) (b:=4) rfl (by decide) (bk (f:=c8) ([(2:UInt8)]:List UInt8) _ _)) fun a9=>.cT j9 (.cl ((aw rS).trans (Jn ..)) (.as (vg C n _ _ _ _  ?_ _ (wr .u64 ((a.S.size:Int))) a9)))))))))))))))))))
    ·intro o aa aj
     refine .un rfl (.cT j9 (.st (v:=(uA (wr .u8 (o)))) (aU (hs:=by kernel_rfl) (hd:=by kernel_rfl) ..) (.gd fun hg=>.st (v:=(im [[(uA (((UInt8.ofNat (Int.toNat (wr .u8 (o)))).toNat:Int)))]] true)) (by rw[fU hg]; kernel_rfl) (.bd (g:=fun (y:List UInt8)=>((bo 4 0 y.length false),[bx (ai c),aX,bx [(pt 1 0)],bx (ai d),az.row false 1 (y.map c8),bx (ai a),az.dead])) (cp dj (l:=aa) (l2:=[(UInt8.ofNat (Int.toNat (wr .u8 (o))))]) (b:=4) rfl (by decide) (bk (f:=c8) ([(UInt8.ofNat (Int.toNat (wr .u8 (o))))]:List UInt8) _ _)) fun ab=>.cr (.ok (.bd (g:=fun (y:List UInt8)=>((bo 4 0 y.length false),[bx (ai c),aX,bx [(pt 1 0)],bx (ai d),az.row false 1 (y.map c8),bx (ai a),az.dead])) (cp wJ (l:=ab) (l2:=jw a.S) (b:=4) rfl (by decide) (sE ..)) fun ad=>.cr (.ok (.st (aM ..) (.st (v:=[bx (ai c),aX,bx [(pt 1 0)],bx (ai d),az.row false 1 (ad.map c8)]) (eH j9 XJ) (.cT ((by kernel_rfl:_=(bif aR 5 (i.map c8) then (bif aR 5 (j.map ax) then true else false) else false)).trans so) ?_))))))))))
     exact ih _ _
   refine .sp (fun ae=>?_) (fun _=>?_)
   ·refine .st (v:=(pt 1 3)) (by rw[X7 ae]; kernel_rfl) (.s2 (gp 102 [] [(pt 2 0)]) (.s (ag (ai a)) (.dC j9 j9 (.bg (fun (t:R) (y:(List UInt8))=>t=(Out.ret (bo 4 0 y.length false),[bx (ai c),aX,bx [(pt 1 0)],bx (ai d),az.row false 1 (y.map c8),bx (ai a)])) (IL C r (n+7) c d h a [bx (ai a)]) ?_))))
    rintro _ af rfl
    refine .ok (.st (aM ..) (.st (v:=[bx (ai c),aX,bx [(pt 1 0)],bx (ai d),az.row false 1 (af.map c8)]) (eH j9 XJ) (.cT ((by kernel_rfl:_=(bif aR 5 (i.map c8) then (bif aR 5 (j.map ax) then true else false) else false)).trans so) ?_)))
    exact ih _ _
   exact .nn
  exact .ex (w _ _ _ _ _ _ _ _ _ _)
def O4 (n:Nat) (a:ak):Option ((List UInt8)×Int):=
 (LS a).bind fun e=>bif (e != 0) then (some (([],e))) else (bif decide (a.Kind=0) then (none) else bif decide (a.Kind=1) then ((cU 1 ([]) ([(1:UInt8)])).bind fun f=>(Ad a.N).bind fun g=>(iv n  (n+6) g f).bind fun h=>match h with | (b,i)=>bif (decide (0<=(wr .u8 (b)))&&decide ((wr .u8 (b))<256)) then ((cU 1 i ([(UInt8.ofNat (Int.toNat (wr .u8 (b))))])).bind fun j=>some ((j,0))) else none) else bif decide (a.Kind=2) then ((cU 1 ([]) ([(2:UInt8)])).bind fun k=>(iv n  (n+6) (wr .u64 ((a.S.size:Int))) k).bind fun l=>match l with | (c,o)=>bif (decide (0<=(wr .u8 (c)))&&decide ((wr .u8 (c))<256)) then ((cU 1 o ([(UInt8.ofNat (Int.toNat (wr .u8 (c))))])).bind fun p=>(cU 1 p (jw a.S)).bind fun q=>some ((q,0))) else none) else bif decide (a.Kind=3) then ((cU 1 ([]) ([(3:UInt8)])).bind fun r=>(iv n  (n+6) (wr .u64 ((a.L.length:Int))) r).bind fun s=>match s with | (d,t)=>bif (decide (0<=(wr .u8 (d)))&&decide ((wr .u8 (d))<256)) then ((cU 1 t ([(UInt8.ofNat (Int.toNat (wr .u8 (d))))])).bind fun u=>(gz n ([]) a.L ((a.L.length:Int)) a a (n+7) 0 u).bind fun v=>match v with | w=>some ((w,0))) else none) else none)
theorem VD (C:OT) (n:Nat) (o:qS C) (p:Ja C) (a:ak):TJ C n 67 [(ag (ai a))] (O4 n a) (fun y=>(tp [(im (y.1.map c8) false),(iA y.2)])):=by
 refine .lp (WG ..) ?_
 unfold O4
 refine .s ((pt 0 0),[bx (ai a)]) (.s (ag (ai a)) (.bd (g:=fun (y:Int)=>(iA y)) (by simp only[bJ,dg]; exact p a) fun y1=>.st (bf ..) (.bX ?_ ?_)))
 ·exact .lv r9
 refine .s (pt 0 0) (.s (iA a.Kind) (.s (ag (ai a)) (.cT j9 (.cl ((aw Nm).trans (WW ..)) (.s (ag [(A.v Value.nilFunc),(A.v Value.nilFunc),(A.v Value.nilFunc),(A.v Value.nilFunc)]) (.sq (pt 1 0) (.sq (pt 2 0) (.sh (.s (pt 1 0) (.s (pt 1 0) (.s (pt 1 1) (.s (pt 1 1) (.sh (.s (pt 1 0) (.s (pt 1 0) (.s (pt 1 2) (.s (pt 1 2) (.sh (.s (pt 1 0) (.s (pt 1 0) (.s (pt 1 3) (.s (pt 1 3) (.s [bx (ai a),aX,bx [(pt 1 0)]] ?_)))))))))))))))))))))))
 refine .s (pt 1 0) (.cr (.ok (.s (pt 1 0) (.sp (fun q=>?_) (fun _=>?_)))))
 ·exact .st (v:=(pt 1 0)) (by rw[X7 q]; kernel_rfl) (.s2 (A.v Value.nilFunc) (.nn))
 refine .sp (fun r=>?_) (fun _=>?_)
 ·refine .st (v:=(pt 1 1)) (by rw[X7 r]; kernel_rfl) (.s2 (gp 98 [] []) (.dC j9 j9 (.cl ((aw FA).trans (Q9 ..)) (.s ((pt 3 0),[bx (ai a),aX,bx [(pt 1 0)],bx (ai a)]) (.s (im [[(uA 1)]] true) (.bd (g:=fun (y:List UInt8)=>((bo 4 0 y.length false),[bx (ai a),aX,bx [(pt 1 0)],bx (ai a),az.row false 1 (y.map c8)])) (fz dj (l:=[]) (l2:=[(1:UInt8)]) (bk (f:=c8) ([(1:UInt8)]:List UInt8) _ _)) fun t=>.cT j9 (.s (pt 3 1) (.cT j9 (.s (iA a.N) (.bd (o a.N) fun u=>.cl ((aw rS).trans (Jn ..)) (.as (sP C n _ _ _ _  ?_ _ u t))))))))))))
  ·intro i w a8
   exact .un rfl (.cT j9 (.st (v:=(uA (wr .u8 (i)))) (aU (hs:=by kernel_rfl) (hd:=by kernel_rfl) ..) (.gd fun hg=>.st (v:=(im [[(uA (((UInt8.ofNat (Int.toNat (wr .u8 (i)))).toNat:Int)))]] true)) (by rw[fU hg]; kernel_rfl) (.bd (g:=fun (y:List UInt8)=>((bo 4 0 y.length false),[bx (ai a),aX,bx [(pt 1 0)],bx (ai a),az.row false 1 (y.map c8)])) (cp dj (l:=w) (l2:=[(UInt8.ofNat (Int.toNat (wr .u8 (i))))]) (b:=4) rfl (by decide) (bk (f:=c8) ([(UInt8.ofNat (Int.toNat (wr .u8 (i))))]:List UInt8) _ _)) fun c=>.cr (.ok (.cr (.ok (.lv (by show aK [bx (ai a),aX,bx [(pt 1 0)],bx (ai a),az.row false 1 (c.map c8)] (tp [(bo 4 0 c.length false),(iA 0)])=_; first | (simp only[bJ,dg,aK,aO (H:=[bx (ai a),aX,bx [(pt 1 0)],bx (ai a),az.row false 1 (c.map c8)]) (b:=4) (es:=1) (wr:=false) (l:=c) dh rfl]; done) | (simp only[bJ,dG,aK,aO (H:=[bx (ai a),aX,bx [(pt 1 0)],bx (ai a),az.row false 1 (c.map c8)]) (b:=4) (es:=1) (wr:=false) (l:=c) dh rfl]; first | done | rfl))))))))))
 refine .sp (fun x=>?_) (fun _=>?_)
 ·refine .st (v:=(pt 1 2)) (by rw[X7 x]; kernel_rfl) (.s2 (gp 101 [] []) (.dC j9 j9 (.cl ((aw A1).trans (Kj ..)) (.s ((pt 3 0),[bx (ai a),aX,bx [(pt 1 0)],bx (ai a)]) (.s ((A.ip (ai a)),[bx (ai a),aX,bx [(pt 1 0)],az.dead]) (.cT j9 (.s (im [[(uA 2)]] true) (.s (A.ip [(sA a.S),(im (a.L.map ax) false)]) (.s (sA a.S) (.s (iA ((a.S.size:Int))) (.st (v:=(A.v (.int .u64 (wr .u64 ((a.S.size:Int)))))) (aU (hs:=by kernel_rfl) (hd:=by kernel_rfl) ..) (.s (A.ip [(sA a.S),(im (a.L.map ax) false)]) (.s (sA a.S) (.cT j9 (.bd (g:=fun (y:List UInt8)=>((bo 4 0 y.length false),[bx (ai a),aX,bx [(pt 1 0)],az.dead,az.row false 1 (y.map c8)])) (fz dj (l:=[]) (l2:=[(2:UInt8)]) (bk (f:=c8) ([(2:UInt8)]:List UInt8) _ _)) fun z=>.cT j9 (.cl ((aw rS).trans (Jn ..)) (.as (sP C n _ _ _ _  ?_ _ (wr .u64 ((a.S.size:Int))) z))))))))))))))))))
  ·intro j a1 a9
   exact .un rfl (.cT j9 (.st (v:=(uA (wr .u8 (j)))) (aU (hs:=by kernel_rfl) (hd:=by kernel_rfl) ..) (.gd fun hg=>.st (v:=(im [[(uA (((UInt8.ofNat (Int.toNat (wr .u8 (j)))).toNat:Int)))]] true)) (by rw[fU hg]; kernel_rfl) (.bd (g:=fun (y:List UInt8)=>((bo 4 0 y.length false),[bx (ai a),aX,bx [(pt 1 0)],az.dead,az.row false 1 (y.map c8)])) (cp dj (l:=a1) (l2:=[(UInt8.ofNat (Int.toNat (wr .u8 (j))))]) (b:=4) rfl (by decide) (bk (f:=c8) ([(UInt8.ofNat (Int.toNat (wr .u8 (j))))]:List UInt8) _ _)) fun a2=>.cr (.ok (.bd (g:=fun (y:List UInt8)=>((bo 4 0 y.length false),[bx (ai a),aX,bx [(pt 1 0)],az.dead,az.row false 1 (y.map c8)])) (cp wJ (l:=a2) (l2:=jw a.S) (b:=4) rfl (by decide) (sE ..)) fun d=>.cr (.ok (.lv (by show aK [bx (ai a),aX,bx [(pt 1 0)],az.dead,az.row false 1 (d.map c8)] (tp [(bo 4 0 d.length false),(iA 0)])=_; first | (simp only[bJ,dg,aK,aO (H:=[bx (ai a),aX,bx [(pt 1 0)],az.dead,az.row false 1 (d.map c8)]) (b:=4) (es:=1) (wr:=false) (l:=d) dh rfl]; done) | (simp only[bJ,dG,aK,aO (H:=[bx (ai a),aX,bx [(pt 1 0)],az.dead,az.row false 1 (d.map c8)]) (b:=4) (es:=1) (wr:=false) (l:=d) dh rfl]; first | done | rfl))))))))))
 refine .sp (fun a3=>?_) (fun _=>?_)
 ·refine .st (v:=(pt 1 3)) (by rw[X7 a3]; kernel_rfl) (.s2 (gp 102 [] [(pt 2 0)]) (.dC j9 j9 (.cl ((aw Kz).trans (Mn ..)) (.s ((pt 3 0),[bx (ai a),aX,bx [(pt 1 0)],bx (ai a)]) (.s (im [[(uA 3)]] true) (.bd (g:=fun (y:List UInt8)=>((bo 4 0 y.length false),[bx (ai a),aX,bx [(pt 1 0)],bx (ai a),az.row false 1 (y.map c8)])) (fz dj (l:=[]) (l2:=[(3:UInt8)]) (bk (f:=c8) ([(3:UInt8)]:List UInt8) _ _)) fun a4=>.cT j9 (.s (pt 3 3) (.cT j9 (.s (im (a.L.map ax) false) (.cT j9 (.st (dr (e:=102)) (.cT j9 (.st (v:=(A.v (.int .u64 (wr .u64 ((a.L.length:Int)))))) (aU (hs:=by kernel_rfl) (hd:=by kernel_rfl) ..) (.cl ((aw rS).trans (Jn ..)) (.as (sP C n _ _ _ _  ?_ _ (wr .u64 ((a.L.length:Int))) a4))))))))))))))))
  ·intro k a5 aa
   refine .un rfl (.cT j9 (.st (v:=(uA (wr .u8 (k)))) (aU (hs:=by kernel_rfl) (hd:=by kernel_rfl) ..) (.gd fun hg=>.st (v:=(im [[(uA (((UInt8.ofNat (Int.toNat (wr .u8 (k)))).toNat:Int)))]] true)) (by rw[fU hg]; kernel_rfl) (.bd (g:=fun (y:List UInt8)=>((bo 4 0 y.length false),[bx (ai a),aX,bx [(pt 1 0)],bx (ai a),az.row false 1 (y.map c8)])) (cp dj (l:=a5) (l2:=[(UInt8.ofNat (Int.toNat (wr .u8 (k))))]) (b:=4) rfl (by decide) (bk (f:=c8) ([(UInt8.ofNat (Int.toNat (wr .u8 (k))))]:List UInt8) _ _)) fun a6=>.cr (.ok (.s2 (im (a.L.map ax) false) (.st (dr (e:=102)) (.as (CM C n _ _ _ _ o ([]) a.L ((a.L.length:Int)) a a ?_ _ 0 a6)))))))))
   ·intro h ab ad ae af ah w959 w960 w961 w962
    exact .un rfl (.cT j9 (.cr (.ok (.lv (by show aK [w959,w960,w961,w962,az.row false 1 (h.map c8)] (tp [(bo 4 0 h.length false),(iA 0)])=_; first | (simp only[bJ,dg,aK,aO (H:=[w959,w960,w961,w962,az.row false 1 (h.map c8)]) (b:=4) (es:=1) (wr:=false) (l:=h) dh rfl]; done) | (simp only[bJ,dG,aK,aO (H:=[w959,w960,w961,w962,az.row false 1 (h.map c8)]) (b:=4) (es:=1) (wr:=false) (l:=h) dh rfl]; first | done | rfl))))))
 exact .nn
def Ll (a:ak):Option ((List UInt8)×Int):=O4 aA a
def I6 (C:OT):Prop:=∀ (a:ak),C 67 [(ag (ai a))]=(Ll a).map fun y=>(tp [(im (y.1.map c8) false),(iA y.2)])
def km (n:Nat) (b:(List Int)) (c:Int) (e:Int) (f:Int) (g:ByteArray):Nat->Int->(List ak)->Option ((List ak))
 | 0,_,_=>none
 | m+1,a,d=>bif (decide (a<c)) then ((bt b a).bind fun h=>(cU 56 d ([(ak.mk 1 h rb ([]))])).bind fun i=>km n b c e f g m (wr .i64 (a+1)) i) else (some d)
theorem En {w60:A} (o:(List Int)) (p:Int) (c:Int) (d:Int) (h:ByteArray) {K:((List ak))->Option γ} (r:∀ (j:(List ak)) (s2:A) (t:A) (u:A) (v:A),J φ (kx 0 (St.mk [(2,s2),(3,(pt 0 0)),(9,t),(10,u),(11,v)] [bx [(iA c),(iA d),(sA h),(bo 1 0 j.length false)],az.row false 4 (j.map ax)])) kL (K j) some) :
  ∀ (m:Nat) (k:Int) (a:(List ak)),J φ (aH (cx C) (ec C n 8) (ey C n 8) (n+8) 47 0 0 2 kx kg kr kp m (St.mk [(2,w60),(3,(pt 0 0)),(9,(im (o.map (cI .i64)) false)),(10,(iA p)),(11,(iA k))] [bx [(iA c),(iA d),(sA h),(bo 1 0 a.length false)],az.row false 4 (a.map ax)])) kL (km n o p c d h m k a) K:=by
  refine nI (fun _ _=>.nn) fun m ih k a=>.lp (MF ..) ?_
  unfold km
  refine .st (aW ..) (.bX ?_ ?_)
  ·refine .bd (fa (e:=3) (es:=1)) fun i=>.s (iA i) (.s2 (bo 1 0 a.length false) (.s (ag [(iA 1),(iA i),se,XU]) (.s (im [[(iA 1),(iA i),se,(im [] false)]] true) (.bd (g:=fun (y:List ak)=>((bo 1 0 y.length false),[bx [(iA c),(iA d),(sA h),(bo 1 0 a.length false)],az.row false 4 (y.map ax)])) (cp oM (l:=a) (l2:=[(ak.mk 1 i rb ([]))]) (b:=1) rfl (by decide) (sD (f:=ax) (l:=([(ak.mk 1 i rb ([]))]:List ak)) XO)) fun q=>.s (pt 0 3) (.sh (.st (aM ..) (.s [bx [(iA c),(iA d),(sA h),(bo 1 0 q.length false)],az.row false 4 (q.map ax)] (.cT j9 ?_))))))))
   exact ih _ _
  exact .ex (r _ _ _ _ _)
def OQ (n:Nat) (a:(List Int)):Option (List UInt8):=
 (km n a ((a.length:Int)) 3 0 rb (n+8) 0 (([]:List ak))).bind fun PA=>match PA with | b=>(Ll ((ak.mk 3 0 rb b))).bind fun c=>some c.1
theorem Vr (C:OT) (n:Nat) (f:I6 C) (c:(List Int)):TJ C n 47 [(im (c.map (cI .i64)) false)] (OQ n c) (fun y=>(im (y.map c8) false)):=by
 refine .lp (Wt ..) ?_
 unfold OQ
 refine .s (ag [(iA 3),(iA 0),se,XU]) (.sq (pt 0 0) (.s [bx [(iA 3),(iA 0),se,XU]] (.st (dr (e:=3)) (.as (En C n _ _ _ _ c ((c.length:Int)) 3 0 rb ?_ _ 0 (([]:List ak)))))))
 ·intro a h i j k
  exact .un rfl (.cT j9 (.s (ag [(iA 3),(iA 0),se,(bo 1 0 a.length false)]) (.bd (g:=fun (y:((List UInt8)×Int))=>(tp [(im (y.1.map c8) false),(iA y.2)])) (by show C 67 [snap [bx [(iA 3),(iA 0),se,(bo 1 0 a.length false)],az.row false 4 (a.map ax)] (ag [(iA 3),(iA 0),se,(bo 1 0 a.length false)])]=_; simp only[bJ,dg,dw (H:=[bx [(iA 3),(iA 0),se,(bo 1 0 a.length false)],az.row false 4 (a.map ax)]) (b:=1) (es:=4) (l:=a) cH rfl]; exact f ((ak.mk 3 0 rb a))) fun d=>.s (im (d.1.map c8) false) (.s (iA d.2) (.lv r9)))))
def IK (a:(List Int)):Option (List UInt8):=OQ aA a
def D0 (C:OT):Prop:=∀ (a:(List Int)),C 47 [(im (a.map (cI .i64)) false)]=(IK a).map fun y=>(im (y.map c8) false)
def fZ (n:Nat) (e:(List Bool)) (f:Int) (g:af) (h:af):Nat->(List al)->(List av)->Int->(List (List UInt8))->Option (((List (List UInt8)))⊕((List (List UInt8))))
 | 0,_,_,_,_=>none
 | m+1,a,b,c,d=>bif (decide (c<f)) then ((bt e c).bind fun i=>(bif i then (some (decide (0<((a.length:Int))))) else (some false)).bind fun p=>bif p then ((bt a 0).bind fun j=>(eJ a 1 ((a.length:Int))).bind fun k=>bif i then ((IK ([1,j.No,j.Holder,j.Until])).bind fun q=>(cU 24 d ([q])).bind fun r=>fZ n e f g h m k b (wr .i64 (c+1)) r) else ((IK ([2,0,0])).bind fun s=>(cU 24 d ([s])).bind fun t=>fZ n e f g h m k b (wr .i64 (c+1)) t)) else ((bif (!i) then (some (decide (0<((b.length:Int))))) else (some false)).bind fun u=>bif u then ((bt b 0).bind fun l=>(eJ b 1 ((b.length:Int))).bind fun o=>bif i then ((IK ([1,0,0,0])).bind fun v=>(cU 24 d ([v])).bind fun w=>fZ n e f g h m a o (wr .i64 (c+1)) w) else ((IK ([2,l.Bar,l.Program])).bind fun x=>(cU 24 d ([x])).bind fun y=>fZ n e f g h m a o (wr .i64 (c+1)) y)) else (some ((Sum.inl d))))) else (some ((Sum.inr d)))
theorem Eg (u:D0 C) (r:(List Bool)) (ai:Int) (j:af) (k:af) {K:(((List (List UInt8)))⊕((List (List UInt8))))->Option γ} (x0:∀ (o:(List (List UInt8))) (s0:A) (s3:A) (s4:A) (a4:A) (a5:A) (a6:A) (q0:az) (q2:az) (q5:az),J φ (kr (St.mk [(0,s0),(3,s3),(4,s4),(13,a4),(14,a5),(15,a6)] [q0,bx [(bo 3 0 o.length false)],q2,az.row false 1 (List.map (cL c8) o),az.rng cX.ready,q5])) kL (K (Sum.inl o)) some) (x1:∀ (o:(List (List UInt8))) (s0:A) (s3:A) (s4:A) (a4:A) (a5:A) (a6:A) (q0:az) (q2:az),J φ (kx 0 (St.mk [(0,s0),(3,s3),(4,s4),(13,a4),(14,a5),(15,a6)] [q0,bx [(bo 3 0 o.length false)],q2,az.row false 1 (List.map (cL c8) o),az.rng cX.ready])) kL (K (Sum.inr o)) some) :
  ∀ (m:Nat) (p:(List al)) (q:(List av)) (a7:Int) (c:(List (List UInt8))),J φ (aH (cx C) (bq (cx C) (n+7) (sx 126 (dS (cx C) (n+8)) 4 (lR (cx C) (ec C n 8) (ey C n 8) (n+8) 20 0 0 4 [(2,(pt 1 0))]))) (bq (cx C) (n+7)) (n+7) 66 0 0 5 kx kg kr kp m (St.mk [(0,(A.yld 4)),(3,(im (p.map ae) false)),(4,(im (q.map ah) false)),(13,(im (r.map cB) false)),(14,(iA ai)),(15,(iA a7))] [bx (aa j),bx [(bo 3 0 c.length false)],bx (aa k),az.row false 1 (List.map (cL c8) c),az.rng cX.ready])) kL (fZ n r ai j k m p q a7 c) K:=by
  refine nI (fun _ _ _ _=>.nn) fun m ih p q a7 c=>.lp (BO ..) ?_
  unfold fZ
  refine .st (aW ..) (.bX ?_ ?_)
  ·refine .bd (fa (e:=4) (es:=1)) fun d=>.s (bA d) (.s (ag [(bA d),(iA 0),(iA 0),(iA 0),(iA 0),(iA 0)]) (.sq (pt 5 0) (.s [bx (aa j),bx [(bo 3 0 c.length false)],bx (aa k),az.row false 1 (List.map (cL c8) c),az.rng cX.ready,bx [(bA d),(iA 0),(iA 0),(iA 0),(iA 0),(iA 0)]] (.bg (fun t (y:Bool)=>∃ aj ak am:A,t=[(bA y),aj,ak,am]) ?_ ?_))))
   ·refine .bi ?_ ?_
    ·exact .st (dr (e:=50)) (.st (cF ..) (.lg ⟨_,_,_,rfl⟩))
    exact .lg ⟨_,_,_,rfl⟩
   rintro _ ax ⟨aj,ak,am,rfl⟩
   refine .u4 (.bX ?_ ?_)
   ·refine .bd (fa (e:=50) (es:=3)) fun h=>.s (ag (ae h)) (.bd (fQ (e:=50) (es:=3) (f:=ae) (l:=p) (a:=1) (b:=(p.length:Int)) j9 j9 (fun _=>rfl) (.inr ⟨_,rfl⟩) (.inl ⟨rfl,rfl⟩)) fun an=>.s (pt 5 1) (.cT j9 (.s [bx (aa j),bx [(bo 3 0 c.length false)],bx (aa k),az.row false 1 (List.map (cL c8) c),az.rng cX.ready,bx ([(bA d)]++ae h++[(iA 0),(iA 0)])] (.s (ag ([(bA d)]++ae h++[(iA 0),(iA 0)])) (.dY rfl (.cl (yq.trans (lJ.trans (EV C (ec C n 8) (ey C n 8) (n+8) _ _ _ _ _ _ _))) (.cT j9 (.lp (gK rfl) (.sq (pt 6 0) (.s [bx (aa j),bx [(bo 3 0 c.length false)],bx (aa k),az.row false 1 (List.map (cL c8) c),az.rng cX.ready,bx ([(bA d)]++ae h++[(iA 0),(iA 0)]),bx ([(bA d)]++ae h++[(iA 0),(iA 0)])] (.lp (gK rfl) (.s2 (bA d) (.bX ?_ ?_)))))))))))))
    ·refine .s (bo 3 0 c.length false) (.s (pt 6 1) (.s2 (iA h.No) (.s (pt 6 1) (.s2 (iA h.Holder) (.s (pt 6 1) (.s2 (iA h.Until) (.s (im [[(iA 1)],[(iA h.No)],[(iA h.Holder)],[(iA h.Until)]] true) (.bd (g:=fun (y:(List UInt8))=>(im (y.map c8) false)) (by show C 47 [snap _ (im [[(iA 1)],[(iA h.No)],[(iA h.Holder)],[(iA h.Until)]] true)]=_; simp only[bJ,dg,dw (H:=[bx (aa j),bx [(bo 3 0 c.length false)],bx (aa k),az.row false 1 (List.map (cL c8) c),az.rng cX.busy,bx ([(bA d)]++ae h++[(iA 0),(iA 0)]),bx ([(bA d)]++ae h++[(iA 0),(iA 0)])]) (b:=3) (es:=1) (l:=c) (ff dh) rfl]; exact u ([1,h.No,h.Holder,h.Until])) fun a8=>.s (im [[(im (a8.map c8) false)]] true) (.bd (g:=fun (y:List (List UInt8))=>((bo 3 0 y.length false),[bx (aa j),bx [(bo 3 0 c.length false)],bx (aa k),az.row false 1 (List.map (cL c8) y),az.rng cX.busy,bx ([(bA d)]++ae h++[(iA 0),(iA 0)]),bx ([(bA d)]++ae h++[(iA 0),(iA 0)])])) (cp oN (l:=c) (l2:=[a8]) (b:=3) rfl (by decide) (bk (f:=(cL c8)) ([a8]:List (List UInt8)) _ _)) fun w=>.s [bx (aa j),bx [(bo 3 0 w.length false)],bx (aa k),az.row false 1 (List.map (cL c8) w),az.rng cX.busy,bx ([(bA d)]++ae h++[(iA 0),(iA 0)]),bx ([(bA d)]++ae h++[(iA 0),(iA 0)])] (.lp (gI rfl) (.cr (.ok (.s (bA false) (.kS (.st (aM ..) (.st (v:=[bx (aa j),bx [(bo 3 0 w.length false)],bx (aa k),az.row false 1 (List.map (cL c8) w),az.rng cX.ready]) (eH j9 u2) (.cT ((by kernel_rfl:_=(bif aR 5 (an.map ae) then (bif aR 5 (q.map ah) then (bif aR 5 (r.map cB) then true else false) else false) else false)).trans so) ?_)))))))))))))))))
     exact ih _ _ _ _
    refine .s (bo 3 0 c.length false) (.s (pt 6 4) (.s2 (iA 0) (.s (pt 6 4) (.s2 (iA 0) (.s (im [[(iA 2)],[(iA 0)],[(iA 0)]] true) (.bd (g:=fun (y:(List UInt8))=>(im (y.map c8) false)) (by show C 47 [snap _ (im [[(iA 2)],[(iA 0)],[(iA 0)]] true)]=_; simp only[bJ,dg,dw (H:=[bx (aa j),bx [(bo 3 0 c.length false)],bx (aa k),az.row false 1 (List.map (cL c8) c),az.rng cX.busy,bx ([(bA d)]++ae h++[(iA 0),(iA 0)]),bx ([(bA d)]++ae h++[(iA 0),(iA 0)])]) (b:=3) (es:=1) (l:=c) (ff dh) rfl]; exact u ([2,0,0])) fun a9=>.s (im [[(im (a9.map c8) false)]] true) (.bd (g:=fun (y:List (List UInt8))=>((bo 3 0 y.length false),[bx (aa j),bx [(bo 3 0 c.length false)],bx (aa k),az.row false 1 (List.map (cL c8) y),az.rng cX.busy,bx ([(bA d)]++ae h++[(iA 0),(iA 0)]),bx ([(bA d)]++ae h++[(iA 0),(iA 0)])])) (cp oN (l:=c) (l2:=[a9]) (b:=3) rfl (by decide) (bk (f:=(cL c8)) ([a9]:List (List UInt8)) _ _)) fun x=>.s [bx (aa j),bx [(bo 3 0 x.length false)],bx (aa k),az.row false 1 (List.map (cL c8) x),az.rng cX.busy,bx ([(bA d)]++ae h++[(iA 0),(iA 0)]),bx ([(bA d)]++ae h++[(iA 0),(iA 0)])] (.lp (gI rfl) (.cr (.ok (.s (bA false) (.kS (.st (aM ..) (.st (v:=[bx (aa j),bx [(bo 3 0 x.length false)],bx (aa k),az.row false 1 (List.map (cL c8) x),az.rng cX.ready]) (eH j9 u2) (.cT ((by kernel_rfl:_=(bif aR 5 (an.map ae) then (bif aR 5 (q.map ah) then (bif aR 5 (r.map cB) then true else false) else false) else false)).trans so) ?_)))))))))))))))
    exact ih _ _ _ _
   refine .s (bA (!d)) (.bg (fun t (y:Bool)=>∃ ao ap aq:A,t=[(bA y),ao,ap,aq]) ?_ ?_)
   ·refine .bi ?_ ?_
    ·exact .st (dr (e:=54)) (.st (cF ..) (.lg ⟨_,_,_,rfl⟩))
    exact .lg ⟨_,_,_,rfl⟩
   rintro _ ay ⟨ao,ap,aq,rfl⟩
   refine .u4 (.bX ?_ ?_)
   ·refine .bd (fa (e:=54) (es:=2)) fun i=>.s (ag [(iA i.Bar),(iA i.Program)]) (.bd (fQ (e:=54) (es:=2) (f:=ah) (l:=q) (a:=1) (b:=(q.length:Int)) j9 j9 (fun _=>rfl) (.inr ⟨_,rfl⟩) (.inl ⟨rfl,rfl⟩)) fun ar=>.s (pt 5 4) (.cT j9 (.s [bx (aa j),bx [(bo 3 0 c.length false)],bx (aa k),az.row false 1 (List.map (cL c8) c),az.rng cX.ready,(cV d i)] (.s (ag [(bA d),(iA 0),(iA 0),(iA 0),(iA i.Bar),(iA i.Program)]) (.dY rfl (.cl (yq.trans (lJ.trans (EV C (ec C n 8) (ey C n 8) (n+8) _ _ _ _ _ _ _))) (.cT j9 (.lp (gK rfl) (.sq (pt 6 0) (.s [bx (aa j),bx [(bo 3 0 c.length false)],bx (aa k),az.row false 1 (List.map (cL c8) c),az.rng cX.ready,(cV d i),(cV d i)] (.lp (gK rfl) (.s2 (bA d) (.bX ?_ ?_)))))))))))))
    ·refine .s (bo 3 0 c.length false) (.s (pt 6 1) (.s2 (iA 0) (.s (pt 6 1) (.s2 (iA 0) (.s (pt 6 1) (.s2 (iA 0) (.s (im [[(iA 1)],[(iA 0)],[(iA 0)],[(iA 0)]] true) (.bd (g:=fun (y:(List UInt8))=>(im (y.map c8) false)) (by show C 47 [snap _ (im [[(iA 1)],[(iA 0)],[(iA 0)],[(iA 0)]] true)]=_; simp only[bJ,dg,dw (H:=[bx (aa j),bx [(bo 3 0 c.length false)],bx (aa k),az.row false 1 (List.map (cL c8) c),az.rng cX.busy,(cV d i),(cV d i)]) (b:=3) (es:=1) (l:=c) (ff dh) rfl]; exact u ([1,0,0,0])) fun ab=>.s (im [[(im (ab.map c8) false)]] true) (.bd (g:=fun (y:List (List UInt8))=>((bo 3 0 y.length false),[bx (aa j),bx [(bo 3 0 c.length false)],bx (aa k),az.row false 1 (List.map (cL c8) y),az.rng cX.busy,(cV d i),(cV d i)])) (cp oN (l:=c) (l2:=[ab]) (b:=3) rfl (by decide) (bk (f:=(cL c8)) ([ab]:List (List UInt8)) _ _)) fun z=>.s [bx (aa j),bx [(bo 3 0 z.length false)],bx (aa k),az.row false 1 (List.map (cL c8) z),az.rng cX.busy,(cV d i),(cV d i)] (.lp (gI rfl) (.cr (.ok (.s (bA false) (.kS (.st (aM ..) (.st (v:=[bx (aa j),bx [(bo 3 0 z.length false)],bx (aa k),az.row false 1 (List.map (cL c8) z),az.rng cX.ready]) (eH j9 u2) (.cT ((by kernel_rfl:_=(bif aR 5 (p.map ae) then (bif aR 5 (ar.map ah) then (bif aR 5 (r.map cB) then true else false) else false) else false)).trans so) ?_)))))))))))))))))
     exact ih _ _ _ _
    refine .s (bo 3 0 c.length false) (.s (pt 6 4) (.s2 (iA i.Bar) (.s (pt 6 4) (.s2 (iA i.Program) (.s (im [[(iA 2)],[(iA i.Bar)],[(iA i.Program)]] true) (.bd (g:=fun (y:(List UInt8))=>(im (y.map c8) false)) (by show C 47 [snap _ (im [[(iA 2)],[(iA i.Bar)],[(iA i.Program)]] true)]=_; simp only[bJ,dg,dw (H:=[bx (aa j),bx [(bo 3 0 c.length false)],bx (aa k),az.row false 1 (List.map (cL c8) c),az.rng cX.busy,(cV d i),(cV d i)]) (b:=3) (es:=1) (l:=c) (ff dh) rfl]; exact u ([2,i.Bar,i.Program])) fun ad=>.s (im [[(im (ad.map c8) false)]] true) (.bd (g:=fun (y:List (List UInt8))=>((bo 3 0 y.length false),[bx (aa j),bx [(bo 3 0 c.length false)],bx (aa k),az.row false 1 (List.map (cL c8) y),az.rng cX.busy,(cV d i),(cV d i)])) (cp oN (l:=c) (l2:=[ad]) (b:=3) rfl (by decide) (bk (f:=(cL c8)) ([ad]:List (List UInt8)) _ _)) fun a0=>.s [bx (aa j),bx [(bo 3 0 a0.length false)],bx (aa k),az.row false 1 (List.map (cL c8) a0),az.rng cX.busy,(cV d i),(cV d i)] (.lp (gI rfl) (.cr (.ok (.s (bA false) (.kS (.st (aM ..) (.st (v:=[bx (aa j),bx [(bo 3 0 a0.length false)],bx (aa k),az.row false 1 (List.map (cL c8) a0),az.rng cX.ready]) (eH j9 u2) (.cT ((by kernel_rfl:_=(bif aR 5 (p.map ae) then (bif aR 5 (ar.map ah) then (bif aR 5 (r.map cB) then true else false) else false) else false)).trans so) ?_)))))))))))))))
    exact ih _ _ _ _
   exact .ex (x0 _ _ _ _ _ _ _ _ _ _)
  exact .ex (x1 _ _ _ _ _ _ _ _ _)
def OE (n:Nat) (a:af):Option ((List (List UInt8))×Int):=
 (DE a).bind fun b=>bif (b != 0) then (some (([],b))) else ((fZ n a.Order ((a.Order.length:Int)) a a (n+7) a.Leases a.Calls 0 (([]:List (List UInt8)))).bind fun c=>match c with | (Sum.inl d)=>some ((d,0)) | (Sum.inr e)=>some ((e,0)))
theorem Vf (C:OT) (n:Nat) (f:p7 C) (h:D0 C) (a:af):TJ C n 20 [(ag (aa a))] (OE n a) (fun y=>(tp [(im (List.map (cL c8) y.1) false),(iA y.2)])):=by
 refine .lp (Wa ..) ?_
 unfold OE
 refine .s ((pt 0 0),[bx (aa a)]) (.s ((pt 1 0),[bx (aa a),bx [XU]]) (.s (ag (aa a)) (.bd (g:=fun (y:Int)=>(iA y)) (by simp only[bJ,dg]; exact f a) fun i=>.st (bf ..) (.bX ?_ ?_))))
 ·exact .s [bx (aa a),bx [XU]] (.s XU (.lv r9))
 refine .s (ag (aa a)) (.cl ((aw B9).trans (Pu ..)) (.s ((pt 2 0),[bx (aa a),bx [XU],bx (aa a)]) (.cr (.ok (.s (66,[(pt 2 0)]) (.cT j9 (.cl ((kI Cb).trans (Pw ..)) (.s2 (im (a.Leases.map ae) false) (.s2 (im (a.Calls.map ah) false) (.s2 (im (a.Order.map cB) false) (.st (dr (e:=4)) (.as (Eg C n _ _ _ _ h a.Order ((a.Order.length:Int)) a a ?_ ?_ _ a.Leases a.Calls 0 (([]:List (List UInt8))))))))))))))))
 ·intro c j k o p q r w303 w304 w305
  exact .un rfl (.cr (.ok (.lp (zM rfl) (.s (bo 3 0 c.length false) (.s [w303,bx [(bo 3 0 c.length false)],w304,az.row false 1 (List.map (cL c8) c),az.dead,w305] (.s (bo 3 0 c.length false) (.lv (by show aK [w303,bx [(bo 3 0 c.length false)],w304,az.row false 1 (List.map (cL c8) c),az.dead,w305] (tp [(bo 3 0 c.length false),(iA 0)])=_; first | (simp only[bJ,dg,aK,aO (H:=[w303,bx [(bo 3 0 c.length false)],w304,az.row false 1 (List.map (cL c8) c),az.dead,w305]) (b:=3) (es:=1) (wr:=false) (l:=c) (ff dh) rfl]; done) | (simp only[bJ,dG,aK,aO (H:=[w303,bx [(bo 3 0 c.length false)],w304,az.row false 1 (List.map (cL c8) c),az.dead,w305]) (b:=3) (es:=1) (wr:=false) (l:=c) (ff dh) rfl]; first | done | rfl)))))))))
 ·intro d t u v w x z w313 w314
  exact .un rfl (.cT j9 (.cr (.ok (.lp (zM rfl) (.s (bo 3 0 d.length false) (.s [w313,bx [(bo 3 0 d.length false)],w314,az.row false 1 (List.map (cL c8) d),az.dead] (.s (bo 3 0 d.length false) (.lv (by show aK [w313,bx [(bo 3 0 d.length false)],w314,az.row false 1 (List.map (cL c8) d),az.dead] (tp [(bo 3 0 d.length false),(iA 0)])=_; first | (simp only[bJ,dg,aK,aO (H:=[w313,bx [(bo 3 0 d.length false)],w314,az.row false 1 (List.map (cL c8) d),az.dead]) (b:=3) (es:=1) (wr:=false) (l:=d) (ff dh) rfl]; done) | (simp only[bJ,dG,aK,aO (H:=[w313,bx [(bo 3 0 d.length false)],w314,az.row false 1 (List.map (cL c8) d),az.dead]) (b:=3) (es:=1) (wr:=false) (l:=d) (ff dh) rfl]; first | done | rfl))))))))))
def Lh (a:af):Option ((List (List UInt8))×Int):=OE aA a
def DY (C:OT):Prop:=∀ (a:af),C 20 [(ag (aa a))]=(Lh a).map fun y=>(tp [(im (List.map (cL c8) y.1) false),(iA y.2)])
def bD:az:=bx [(iA 0),XU,XU,XU,(iA 0),XU,XU,XU,(iA 0),(iA 0),XU,XU,XU]
def ed (a:Int) (b:(List al)) (c:(List av)) (d:(List Bool)) (e:Int) (f:(List al)) (g:(List av)) (h:(List Bool)) (i:Int) (j:Int) (k:(List al)) (l:(List av)) (o:(List av)):az:=bx [(iA a),(im (b.map ae) true),(im (c.map ah) true),(im (d.map cB) true),(iA e),(im (f.map ae) true),(im (g.map ah) true),(im (h.map cB) true),(iA i),(iA j),(im (k.map ae) true),(im (l.map ah) true),(im (o.map ah) true)]
def vI (a:aC) (b:(List al)) (c:bn):az:=bx (aa a.Desks.1++aa a.Desks.2++[(iA a.Synced.1),(iA a.Synced.2),(bo 8 0 b.length false),(im (a.Spoken.1.map ah) false),(im (a.Spoken.2.map ah) false),(iA c.Who)])
def vJ (a:aC) (b:(List av)) (c:bn):az:=bx (aa a.Desks.1++aa a.Desks.2++[(iA a.Synced.1),(iA a.Synced.2),(im (a.Told.map ae) false),(bo 8 0 b.length false),(im (a.Spoken.2.map ah) false),(iA c.Who)])
def vK (a:aC) (b:(List av)) (c:bn):az:=bx (aa a.Desks.1++aa a.Desks.2++[(iA a.Synced.1),(iA a.Synced.2),(im (a.Told.map ae) false),(im (a.Spoken.1.map ah) false),(bo 8 0 b.length false),(iA c.Who)])
def zg (a:aC) (b:(List al)):az:=bx (aa a.Desks.1++aa a.Desks.2++[(iA a.Synced.1),(iA a.Synced.2),(bo 8 0 b.length false),(im (a.Spoken.1.map ah) false),(im (a.Spoken.2.map ah) false)])
def tP (a:aC) (b:(List av)):az:=bx (aa a.Desks.1++aa a.Desks.2++[(iA a.Synced.1),(iA a.Synced.2),(im (a.Told.map ae) false),(bo 8 0 b.length false),(im (a.Spoken.2.map ah) false)])
def tQ (a:aC) (b:(List av)):az:=bx (aa a.Desks.1++aa a.Desks.2++[(iA a.Synced.1),(iA a.Synced.2),(im (a.Told.map ae) false),(im (a.Spoken.1.map ah) false),(bo 8 0 b.length false)])
def bl:az:=az.mp .i64 [1,2,3,4,5,6,7] [(gp 24 [] []),(gp 25 [] []),(gp 26 [] []),(gp 27 [] []),(gp 28 [] []),(gp 29 [] []),(gp 30 [] [])]
abbrev b9:A:=(ag [(iA 0),XU,XU,XU,(iA 0),XU,XU,XU,(iA 0),(iA 0),XU,XU,XU])
def kX (n:Nat) (c:af) (d:af) (f:aC) (g:bn) (h:Int) (i:(List al)) (j:(List av)) (k:(List Bool)) (l:Int) (o:(List al)) (p:(List av)) (q:(List Bool)) (r:Int) (s:Int) (t:(List al)) (u:(List av)) (v:(List av)) (w:Int) (e:aC) (x:Int):Nat->Int->Option ((Unit)⊕(Unit))
 | 0,_=>none
 | m+1,a=>bif (decide (a<2)) then ((bif decide (a=0) then (some ((c.Self,c.Leases,c.Calls,c.Order))) else bif decide (a=1) then (some ((d.Self,d.Leases,d.Calls,d.Order))) else none).bind fun b=>(DE ((af.mk b.1 b.2.1 b.2.2.1 b.2.2.2))).bind fun y=>(bif (y==0) then (some (b.1==a)) else (some false)).bind fun z=>(bif z then (bif (decide (0<=a)&&decide (a<2)) then ((jL a e.Synced.1 e.Synced.2).bind fun a0=>(zW a0 1 ((b.2.2.2.length:Int))).bind fun a1=>some a1) else none) else (some false)).bind fun a2=>bif (!a2) then (some ((Sum.inl (())))) else (kX n c d f g h i j k l o p q r s t u v w e x m (wr .i64 (a+1)))) else (some ((Sum.inr (()))))
theorem GB (an:p7 C) (ao:sM C) (b:af) (c:af) (a1:aC) (a3:bn) (d:Int) (i:(List al)) (j:(List av)) (k:(List Bool)) (l:Int) (o:(List al)) (p:(List av)) (q:(List Bool)) (r:Int) (u:Int) (w:(List al)) (x:(List av)) (z:(List av)) (a0:Int) (a4:aC) (a5:Int) {K:((Unit)⊕(Unit))->Option γ} (x0:∀ (s0:A) (a7:A) (a8:A) (q0:az) (q1:az) (q4:az) (q5:az),J φ (kp (A.ifc 36 (iA 530)) (St.mk [(0,s0),(13,a7),(14,a8)] [q0,q1,(ed d i j k l o p q r u w x z),bx [(iA a0)],q4,q5])) kL (K (Sum.inl (()))) some) (x1:∀ (a7:A) (a8:A),J φ (kx 0 (St.mk [(0,(pt 4 0)),(13,a7),(14,a8)] [bx (aj a1),bx (aq a3),(ed d i j k l o p q r u w x z),bx [(iA a0)],bx (aj a4++[(iA a5)])])) kL (K (Sum.inr (()))) some) :
  ∀ (m:Nat) (a6:Int),J φ (aH (cx C) (ec C n 7) (ey C n 7) (n+7) 23 0 0 5 kx kg kr kp m (St.mk [(0,(pt 4 0)),(13,(ag (aa b++aa c))),(14,(iA a6))] [bx (aj a1),bx (aq a3),(ed d i j k l o p q r u w x z),bx [(iA a0)],bx (aj a4++[(iA a5)])])) kL (kX n b c a1 a3 d i j k l o p q r u w x z a0 a4 a5 m a6) K:=by
  refine nI (fun _=>.nn) fun m ih a6=>.lp (Mv ..) ?_
  unfold kX
  refine .st (aW ..) (.bX ?_ ?_)
  ·refine .bg (fun t (y:Int×(List al)×(List av)×(List Bool))=>t=(ag [(iA y.1),(im (y.2.1.map ae) false),(im (y.2.2.1.map ah) false),(im (y.2.2.2.map cB) false)])) ?_ ?_
   ·refine .sp (fun ax=>?_) (fun _=>?_)
    ·exact .lp (by rw[X7 ax]; kernel_rfl:_=some (ag (aa b))) (.lg rfl)
    refine .sp (fun ay=>?_) (fun _=>?_)
    ·exact .lp (by rw[X7 ay]; kernel_rfl:_=some (ag (aa c))) (.lg rfl)
    exact .nn
   rintro _ a rfl
   refine .sq (pt 5 0) (.s [bx (aj a1),bx (aq a3),(ed d i j k l o p q r u w x z),bx [(iA a0)],bx (aj a4++[(iA a5)]),bx [(iA a.1),(im (a.2.1.map ae) false),(im (a.2.2.1.map ah) false),(im (a.2.2.2.map cB) false)]] (.s (ag [(iA a.1),(im (a.2.1.map ae) false),(im (a.2.2.1.map ah) false),(im (a.2.2.2.map cB) false)]) (.bd (g:=fun (y:Int)=>(iA y)) (by simp only[bJ,dg]; exact an ((af.mk a.1 a.2.1 a.2.2.1 a.2.2.2))) fun b2=>.st (aV ..) (.bg (fun t (y:Bool)=>∃ ab ad ai ak:A,t=[(bA y),ab,ad,ai,ak]) ?_ ?_))))
   ·refine .bi ?_ ?_
    ·exact .s (pt 5 0) (.s (iA a.1) (.st (aV ..) (.lg ⟨_,_,_,_,rfl⟩)))
    exact .lg ⟨_,_,_,_,rfl⟩
   rintro _ b3 ⟨ab,ad,ai,ak,rfl⟩
   refine .u4 (.uc (.SU (.bg (fun t (y:Bool)=>∃ am:A,t=[(bA y),am]) ?_ ?_)))
   ·refine .AV (fun a9=>?_) (fun a9=>?_)
    ·exact .bb (.s (pt 4 0) (.s (pt 4 0) (.s (pt 4 8) (.gd fun hg=>.st (v:=(pt 4 (8+Int.toNat a6*1))) (b8 (e:=3) (n:=1) (len:=2) j9 j9 rfl hg) (.a2 (f:=fun (y:Int)=>(iA y)) (fun h=>by rw[h]; kernel_rfl) (fun h=>by rw[h]; kernel_rfl) fun b0=>.s (pt 5 3) (.s (im (a.2.2.2.map cB) false) (.st (dr (e:=4)) (.cr (.u4 (.u4 (.uc (.uc (.ra a9 (.bd (ao b0 1 ((a.2.2.2.length:Int))) fun b4=>.lg ⟨_,rfl⟩))))))))))))))
    exact .bb (.cr (.u4 (.u4 (.uc (.uc (.q9 a9 (.lg ⟨_,rfl⟩)))))))
   rintro _ b1 ⟨am,rfl⟩
   refine .uc (.uc (.cl ((aw gq).trans (tn ..)) (.s (bA (!b1)) (.bX ?_ ?_))))
   ·exact .s (A.ifc 36 (iA 530)) (.pk (.cr (.gZ (.ex (x0 _ _ _ _ _ _ _)))))
   refine .cr (.ok (.st (aM ..) (.st (v:=[bx (aj a1),bx (aq a3),(ed d i j k l o p q r u w x z),bx [(iA a0)],bx (aj a4++[(iA a5)])]) (eH j9 XK) (.cT ((by kernel_rfl:_=(bif ((aR 5 (b.Leases.map ae))&&((aR 5 (b.Calls.map ah))&&((aR 5 (b.Order.map cB))&&((aR 5 (c.Leases.map ae))&&((aR 5 (c.Calls.map ah))&&((aR 5 (c.Order.map cB))&&true)))))) then true else false)).trans so) ?_))))
   exact ih _
  exact .ex (x1 _ _)
def mI (n:Nat) (b:Int) (g:Int) (c:(List av)) (d:Int) (h:aC) (i:bn) (j:Int) (k:(List al)) (l:(List av)) (o:(List Bool)) (p:Int) (q:(List al)) (r:(List av)) (s:(List Bool)) (t:Int) (u:Int) (v:(List al)) (w:(List av)) (x:(List av)) (y:Int) (e:aC) (f:Int):Nat->Int->Option ((Unit)⊕(Unit))
 | 0,_=>none
 | m+1,a=>bif (decide (a<d)) then ((bt c a).bind fun z=>(mJ ((aD.mk e f)) b z).bind fun a0=>bif (!a0) then (some ((Sum.inl (())))) else (mI n b g c d h i j k l o p q r s t u v w x y e f m (wr .i64 (a+1)))) else (some ((Sum.inr (()))))
theorem GD (h48_68:p8 C) (a1:Int) (a0:Int) (a2:(List av)) (a8:Int) (x:aC) (z:bn) (d:Int) (g:(List al)) (h:(List av)) (i:(List Bool)) (j:Int) (k:(List al)) (l:(List av)) (o:(List Bool)) (p:Int) (q:Int) (r:(List al)) (t:(List av)) (u:(List av)) (w:Int) (b:aC) (c:Int) {K:((Unit)⊕(Unit))->Option γ} (x0:∀ (s4:A) (a4:A) (a5:A) (a6:A) (q0:az) (q1:az) (q4:az) (q5:az) (q6:az),J φ (kp (A.ifc 36 (iA 530)) (St.mk [(0,(pt 4 0)),(4,s4),(42,(iA a0)),(51,a4),(52,a5),(53,a6)] [q0,q1,(ed d g h i j k l o p q r t u),bx [(iA w)],q4,q5,q6])) kL (K (Sum.inl (()))) some) (x1:∀ (s4:A) (a4:A) (a5:A) (a6:A),J φ (kx 4 (St.mk [(0,(pt 4 0)),(4,s4),(42,(iA a0)),(51,a4),(52,a5),(53,a6)] [bx (aj x),bx (aq z),(ed d g h i j k l o p q r t u),bx [(iA w)],bx (aj b++[(iA c)])])) kL (K (Sum.inr (()))) some) :
  ∀ (m:Nat) (a7:Int),J φ (aH (cx C) (ec C n 7) (ey C n 7) (n+7) 23 0 2 5 kx kg kr kp m (St.mk [(0,(pt 4 0)),(4,(iA a1)),(42,(iA a0)),(51,(im (a2.map ah) false)),(52,(iA a8)),(53,(iA a7))] [bx (aj x),bx (aq z),(ed d g h i j k l o p q r t u),bx [(iA w)],bx (aj b++[(iA c)])])) kL (mI n a1 a0 a2 a8 x z d g h i j k l o p q r t u w b c m a7) K:=by
  refine nI (fun _=>.nn) fun m ih a7=>.lp (Mx ..) ?_
  unfold mI
  refine .st (aW ..) (.bX ?_ ?_)
  ·refine .bd (fa (e:=54) (es:=2)) fun a=>.s (ag [(iA a.Bar),(iA a.Program)]) (.sq (pt 5 0) (.sh (.s (ag [(iA a.Bar),(iA a.Program)]) (.cl ((aw JC).trans (S9 ..)) (.s ((pt 6 0),[bx (aj x),bx (aq z),(ed d g h i j k l o p q r t u),bx [(iA w)],bx (aj b++[(iA c)]),bx [(iA a.Bar),(iA a.Program)],bx [(iA a.Bar),(iA a.Program)]]) (.cr (.ok (.dp (f:=fun (y:Bool)=>(bA y)) (fun _=>rfl) (qo zs j9 j9 (kF (fL cQ ez ((aD.mk b c):aD) rfl rfl) (kF rfl (kF (mD (fL bS vU (a:av) rfl rfl)) rfl))) (h48_68 ((aD.mk b c)) a1 a)) fun ab=>.ok (.cl ((aw gq).trans (tn ..)) (.s (bA (!ab)) (.bX ?_ ?_)))))))))))
   ·exact .s (A.ifc 36 (iA 530)) (.pk (.cr (.gZ (.ex (x0 _ _ _ _ _ _ _ _ _)))))
   refine .cr (.ok (.st (aM ..) (.st (v:=[bx (aj x),bx (aq z),(ed d g h i j k l o p q r t u),bx [(iA w)],bx (aj b++[(iA c)])]) (eH j9 XK) (.cT ((by kernel_rfl:_=(bif aR 5 (a2.map ah) then true else false)).trans so) ?_))))
   exact ih _
  exact .ex (x1 _ _ _ _)
def kY (n:Nat) (c:aC) (d:bn) (e:Int) (f:(List al)) (g:(List av)) (h:(List Bool)) (i:Int) (j:(List al)) (k:(List av)) (l:(List Bool)) (o:Int) (p:Int) (q:(List al)) (r:(List av)) (s:(List av)) (t:Int) (b:aC) (u:Int):Nat->Int->Option ((Unit)⊕(Unit))
 | 0,_=>none
 | m+1,a=>bif (decide (a<2)) then (bif (decide (0<=a)&&decide (a<2)) then ((jL a b.Spoken.1 b.Spoken.2).bind fun v=>(mI n a a v ((v.length:Int)) c d e f g h i j k l o p q r s t b u (n+7) 0).bind fun w=>match w with | (Sum.inl _)=>some ((Sum.inl (()))) | (Sum.inr _)=>kY n c d e f g h i j k l o p q r s t b u m (wr .i64 (a+1))) else none) else (some ((Sum.inr (()))))
theorem GC (h48_68:p8 C) (w:aC) (x:bn) (a:Int) (b:(List al)) (c:(List av)) (d:(List Bool)) (g:Int) (i:(List al)) (j:(List av)) (k:(List Bool)) (l:Int) (o:Int) (p:(List al)) (q:(List av)) (r:(List av)) (t:Int) (z:aC) (a0:Int) {K:((Unit)⊕(Unit))->Option γ} (x0:∀ (s0:A) (a1:A) (q0:az) (q1:az) (q4:az) (q5:az) (q6:az),J φ (kp (A.ifc 36 (iA 530)) (St.mk [(0,s0),(42,a1)] [q0,q1,(ed a b c d g i j k l o p q r),bx [(iA t)],q4,q5,q6])) kL (K (Sum.inl (()))) some) (x1:∀ (a1:A),J φ (kx 2 (St.mk [(0,(pt 4 0)),(42,a1)] [bx (aj w),bx (aq x),(ed a b c d g i j k l o p q r),bx [(iA t)],bx (aj z++[(iA a0)])])) kL (K (Sum.inr (()))) some) :
  ∀ (m:Nat) (u:Int),J φ (aH (cx C) (ec C n 7) (ey C n 7) (n+7) 23 0 1 5 kx kg kr kp m (St.mk [(0,(pt 4 0)),(42,(iA u))] [bx (aj w),bx (aq x),(ed a b c d g i j k l o p q r),bx [(iA t)],bx (aj z++[(iA a0)])])) kL (kY n w x a b c d g i j k l o p q r t z a0 m u) K:=by
  refine nI (fun _=>.nn) fun m ih u=>.lp (Mw ..) ?_
  unfold kY
  refine .st (aW ..) (.bX ?_ ?_)
  ·refine .s (pt 4 0) (.s (pt 4 0) (.s (pt 4 11) (.gd fun hg=>.st (v:=(pt 4 (11+Int.toNat u*1))) (b8 (e:=23) (n:=1) (len:=2) j9 j9 rfl hg) (.a2 (f:=fun (y:(List av))=>(im (y.map ah) false)) (fun h=>by rw[h]; kernel_rfl) (fun h=>by rw[h]; kernel_rfl) fun a3=>.st (dr (e:=54)) (.as (GD C n _ _ _ _ h48_68 u u a3 ((a3.length:Int)) w x a b c d g i j k l o p q r t z a0 ?_ ?_ _ 0))))))
   ·intro a7 a8 a9 aa w2654 w2655 w2656 w2657 w2658
    exact .un rfl (.ex (x0 _ _ _ _ _ _ _))
   ·intro ab ad ae af
    refine .un rfl (.cT j9 (.st (aM ..) (.s [bx (aj w),bx (aq x),(ed a b c d g i j k l o p q r),bx [(iA t)],bx (aj z++[(iA a0)])] (.cT j9 ?_))))
    exact ih _
  exact .ex (x1 _)
def jP (n:Nat) (e:(List al)) (f:Int) (h:aC) (i:bn) (j:Int) (k:(List al)) (l:(List av)) (o:(List Bool)) (p:Int) (q:(List al)) (r:(List av)) (s:(List Bool)) (t:Int) (u:Int) (v:(List al)) (w:(List av)) (x:(List av)) (y:Int) (a:aC) (b:Int):Nat->Int->Option ((Unit)⊕((Unit)⊕(Unit)))
 | 0,_=>none
 | m+1,c=>bif (decide (c<f)) then ((bt e c).bind fun d=>(mK ((aD.mk a b)) 0 d).bind fun z=>bif z then ((some (())).bind fun a3=>(some true).bind fun a0=>bif (!a0) then (some ((Sum.inr ((Sum.inl (())))))) else (jP n e f h i j k l o p q r s t u v w x y a b m (wr .i64 (c+1)))) else ((some ((d.No,d.Holder,d.Until))).bind fun g=>(mK ((aD.mk a b)) 1 ((al.mk g.1 g.2.1 g.2.2))).bind fun a1=>(some a1).bind fun a2=>bif (!a2) then (some ((Sum.inl (())))) else (jP n e f h i j k l o p q r s t u v w x y a b m (wr .i64 (c+1))))) else (some ((Sum.inr ((Sum.inr (()))))))
theorem GF (h48_69:sN C) (a7:(List al)) (a9:Int) (a2:aC) (a1:bn) (c:Int) (d:(List al)) (g:(List av)) (h:(List Bool)) (i:Int) (j:(List al)) (k:(List av)) (l:(List Bool)) (o:Int) (p:Int) (q:(List al)) (r:(List av)) (u:(List av)) (w:Int) (a:aC) (b:Int) {K:((Unit)⊕((Unit)⊕(Unit)))->Option γ} (x0:∀ (s0:A) (a4:A) (a5:A) (a6:A) (q0:az) (q1:az) (q4:az) (q5:az) (q6:az) (q7:az),J φ (kp (A.ifc 36 (iA 530)) (St.mk [(0,s0),(69,a4),(70,a5),(71,a6)] [q0,q1,(ed c d g h i j k l o p q r u),bx [(iA w)],q4,q5,q6,q7])) kL (K (Sum.inl (()))) some) (x1:∀ (s0:A) (a4:A) (a5:A) (a6:A) (q0:az) (q1:az) (q4:az) (q5:az) (q6:az),J φ (kp (A.ifc 36 (iA 530)) (St.mk [(0,s0),(69,a4),(70,a5),(71,a6)] [q0,q1,(ed c d g h i j k l o p q r u),bx [(iA w)],q4,q5,q6])) kL (K (Sum.inr ((Sum.inl (()))))) some) (x2:∀ (s0:A) (a4:A) (a5:A) (a6:A) (q0:az),J φ (kx 6 (St.mk [(0,s0),(69,a4),(70,a5),(71,a6)] [q0,bx (aq a1),(ed c d g h i j k l o p q r u),bx [(iA w)],bx (aj a++[(iA b)])])) kL (K (Sum.inr ((Sum.inr (()))))) some) :
  ∀ (m:Nat) (a8:Int),J φ (aH (cx C) (ec C n 7) (ey C n 7) (n+7) 23 0 3 5 kx kg kr kp m (St.mk [(0,(pt 4 0)),(69,(im (a7.map ae) false)),(70,(iA a9)),(71,(iA a8))] [bx (aj a2),bx (aq a1),(ed c d g h i j k l o p q r u),bx [(iA w)],bx (aj a++[(iA b)])])) kL (jP n a7 a9 a2 a1 c d g h i j k l o p q r u w a b m a8) K:=by
  refine nI (fun _=>.nn) fun m ih a8=>.lp (My ..) ?_
  unfold jP
  refine .st (aW ..) (.bX ?_ ?_)
  ·refine .bd (fa (e:=50) (es:=3)) fun x=>.s (ag (ae x)) (.sq (pt 5 0) (.sh (.s (ag (ae x)) (.cl ((aw Fx).trans (Q4 ..)) (.s ((pt 6 0),[bx (aj a2),bx (aq a1),(ed c d g h i j k l o p q r u),bx [(iA w)],bx (aj a++[(iA b)]),bx (ae x),bx (ae x)]) (.cr (.ok (.dp (f:=fun (y:Bool)=>(bA y)) (fun _=>rfl) (qo zs j9 j9 (kF (fL cQ ez ((aD.mk a b):aD) rfl rfl) (kF rfl (kF (mD (fL bM pY (x:al) rfl rfl)) rfl))) (h48_69 ((aD.mk a b)) 0 x)) fun ai=>.ok (.E9 (fun z=>?_) (fun z=>?_))))))))))
   ·refine .bb (.cr (.bg (fun t (y:Int×Int×Int) =>  t=(ag [(iA y.1),(iA y.2.1),(iA y.2.2)])) ?_ ?_))
    ·exact .lp (lB z) (.s (ag (ae x)) (.lg rfl))
    rintro _ a0 rfl
    refine .lp (lB z) (.cl ((aw Fx).trans (Q4 ..)) (.s ((pt 7 0),[bx (aj a2),bx (aq a1),(ed c d g h i j k l o p q r u),bx [(iA w)],bx (aj a++[(iA b)]),bx (ae x),bx (ae x),bx [(iA a0.1),(iA a0.2.1),(iA a0.2.2)]]) (.cr (.ok (.lp (lB z) (.dp (f:=fun (y:Bool)=>(bA y)) (fun _=>rfl) (qo zs j9 j9 (kF (fL cQ ez ((aD.mk a b):aD) rfl rfl) (kF rfl (kF (mD (fL bM pY ((al.mk a0.1 a0.2.1 a0.2.2):al) rfl rfl)) rfl))) (h48_69 ((aD.mk a b)) 1 ((al.mk a0.1 a0.2.1 a0.2.2)))) fun ak=>.ok (.bg (fun t (y:Bool) =>  t=(bA y)) ?_ ?_)))))))
    ·exact .q9 z (.lg rfl)
    rintro _ af rfl
    refine .cl ((aw gq).trans (tn ..)) (.s (bA (!af)) (.bX ?_ ?_))
    ·exact .s (A.ifc 36 (iA 530)) (.pk (.cr (.gZ (.ex (x0 _ _ _ _ _ _ _ _ _ _)))))
    refine .cr (.ok (.st (aM ..) (.st (v:=[bx (aj a2),bx (aq a1),(ed c d g h i j k l o p q r u),bx [(iA w)],bx (aj a++[(iA b)])]) (eH j9 XK) (.cT ((by kernel_rfl:_=(bif aR 5 (a7.map ae) then true else false)).trans so) ?_))))
    exact ih _
   refine .bb (.cr (.bg (fun t (y:Unit) =>  t=(A.v undef)) ?_ ?_))
   ·exact .lp (lC z) (.lg rfl)
   rintro _ am rfl
   refine .lp (lC z) (.lp (lC z) (.bg (fun t (y:Bool) =>  t=(bA y)) ?_ ?_))
   ·exact .ra z (.lg rfl)
   rintro _ ah rfl
   refine .cl ((aw gq).trans (tn ..)) (.s (bA (!ah)) (.bX ?_ ?_))
   ·exact .s (A.ifc 36 (iA 530)) (.pk (.cr (.gZ (.ex (x1 _ _ _ _ _ _ _ _ _)))))
   refine .cr (.ok (.st (aM ..) (.st (v:=[bx (aj a2),bx (aq a1),(ed c d g h i j k l o p q r u),bx [(iA w)],bx (aj a++[(iA b)])]) (eH j9 XK) (.cT ((by kernel_rfl:_=(bif aR 5 (a7.map ae) then true else false)).trans so) ?_))))
   exact ih _
  exact .ex (x2 _ _ _ _ _)
def F6 (n:Nat) (b:aC) (a:bn):Option (aC×Int):=
 (kX n b.Desks.1 b.Desks.2 b a 0 ([]) ([]) ([]) 0 ([]) ([]) ([]) 0 0 ([]) ([]) ([]) 0 b a.Who (n+7) 0).bind fun v=>match v with | (Sum.inl _)=>some (((aC.mk (((af.mk 0 ([]) ([]) ([])),(af.mk 0 ([]) ([]) ([])))) ((0,0)) ([]) (([],[]))),530)) | (Sum.inr _)=>(kY n b a 0 ([]) ([]) ([]) 0 ([]) ([]) ([]) 0 0 ([]) ([]) ([]) 0 b a.Who (n+7) 0).bind fun w=>match w with | (Sum.inl _)=>some (((aC.mk (((af.mk 0 ([]) ([]) ([])),(af.mk 0 ([]) ([]) ([])))) ((0,0)) ([]) (([],[]))),530)) | (Sum.inr _)=>(jP n b.Told ((b.Told.length:Int)) b a 0 ([]) ([]) ([]) 0 ([]) ([]) ([]) 0 0 ([]) ([]) ([]) 0 b a.Who (n+7) 0).bind fun x=>match x with | (Sum.inl _)=>some (((aC.mk (((af.mk 0 ([]) ([]) ([])),(af.mk 0 ([]) ([]) ([])))) ((0,0)) ([]) (([],[]))),530)) | (Sum.inr ((Sum.inl _)))=>some (((aC.mk (((af.mk 0 ([]) ([]) ([])),(af.mk 0 ([]) ([]) ([])))) ((0,0)) ([]) (([],[]))),530)) | (Sum.inr ((Sum.inr _)))=>(bif decide (a.Kind=1) then (some ((24,true))) else bif decide (a.Kind=2) then (some ((25,true))) else bif decide (a.Kind=3) then (some ((26,true))) else bif decide (a.Kind=4) then (some ((27,true))) else bif decide (a.Kind=5) then (some ((28,true))) else bif decide (a.Kind=6) then (some ((29,true))) else bif decide (a.Kind=7) then (some ((30,true))) else (some ((0,false)))).bind fun c=>(bif c.2 then ((zW a.Who 0 1).bind fun y=>some y) else (some false)).bind fun z=>bif (!z) then (some (((aC.mk (((af.mk 0 ([]) ([]) ([])),(af.mk 0 ([]) ([]) ([])))) ((0,0)) ([]) (([],[]))),530))) else (bif decide (c.1=24) then (bif (decide (0<=a.Who)&&decide (a.Who<2)) then ((jL a.Who b.Desks.1 b.Desks.2).bind fun a2=>(Lg a2 a.A a.B).bind fun d=>bif (!(d.2==0)) then (bif (d.2 != 0) then (some (((aC.mk (((af.mk 0 ([]) ([]) ([])),(af.mk 0 ([]) ([]) ([])))) ((0,0)) ([]) (([],[]))),d.2))) else (some (((aC.mk (((af.mk 0 ([]) ([]) ([])),(af.mk 0 ([]) ([]) ([])))) ((0,0)) ([]) (([],[]))),0)))) else (bif (decide (0<=a.Who)&&decide (a.Who<2)) then ((jL a.Who ((d.1,b.Desks.2)) ((b.Desks.1,d.1))).bind fun k=>some (((aC.mk ((k.1,k.2)) b.Synced b.Told b.Spoken),0))) else none)) else none) else bif decide (c.1=25) then ((zW a.A 0 (wr .i64 (((b.Told.length:Int)) - 1))).bind fun a3=>bif (!a3) then (some (((aC.mk (((af.mk 0 ([]) ([]) ([])),(af.mk 0 ([]) ([]) ([])))) ((0,0)) ([]) (([],[]))),530))) else (bif (decide (0<=a.Who)&&decide (a.Who<2)) then ((jL a.Who b.Desks.1 b.Desks.2).bind fun a4=>(bt b.Told a.A).bind fun a5=>(LF a4 a5).bind fun e=>bif (!(e.2==0)) then (bif (e.2 != 0) then (some (((aC.mk (((af.mk 0 ([]) ([]) ([])),(af.mk 0 ([]) ([]) ([])))) ((0,0)) ([]) (([],[]))),e.2))) else (some (((aC.mk (((af.mk 0 ([]) ([]) ([])),(af.mk 0 ([]) ([]) ([])))) ((0,0)) ([]) (([],[]))),0)))) else (bif (decide (0<=a.Who)&&decide (a.Who<2)) then ((jL a.Who ((e.1,b.Desks.2)) ((b.Desks.1,e.1))).bind fun l=>some (((aC.mk ((l.1,l.2)) b.Synced b.Told b.Spoken),0))) else none)) else none)) else bif decide (c.1=26) then (bif (decide (0<=a.Who)&&decide (a.Who<2)) then ((jL a.Who b.Desks.1 b.Desks.2).bind fun a6=>(JV a6 a.A a.B).bind fun f=>bif (!(f.2==0)) then (bif (f.2 != 0) then (some (((aC.mk (((af.mk 0 ([]) ([]) ([])),(af.mk 0 ([]) ([]) ([])))) ((0,0)) ([]) (([],[]))),f.2))) else (some (((aC.mk (((af.mk 0 ([]) ([]) ([])),(af.mk 0 ([]) ([]) ([])))) ((0,0)) ([]) (([],[]))),0)))) else (bif (decide (0<=a.Who)&&decide (a.Who<2)) then ((jL a.Who ((f.1,b.Desks.2)) ((b.Desks.1,f.1))).bind fun o=>some (((aC.mk ((o.1,o.2)) b.Synced b.Told b.Spoken),0))) else none)) else none) else bif decide (c.1=27) then (bif (decide (0<=a.Who)&&decide (a.Who<2)) then ((jL a.Who b.Desks.1.Order b.Desks.2.Order).bind fun p=>bif (decide (0<=a.Who)&&decide (a.Who<2)) then ((jL a.Who (((p.length:Int),b.Synced.2)) ((b.Synced.1,(p.length:Int)))).bind fun q=>some (((aC.mk b.Desks ((q.1,q.2)) b.Told b.Spoken),0))) else none) else none) else bif decide (c.1=28) then (bif (decide (0<=a.Who)&&decide (a.Who<2)) then ((jL a.Who b.Desks.1.Leases b.Desks.2.Leases).bind fun i=>(zW a.A 0 (wr .i64 (((i.length:Int)) - 1))).bind fun a7=>bif (!a7) then (some (((aC.mk (((af.mk 0 ([]) ([]) ([])),(af.mk 0 ([]) ([]) ([])))) ((0,0)) ([]) (([],[]))),530))) else ((bt i a.A).bind fun a8=>(mK ((aD.mk b a.Who)) a.Who a8).bind fun a9=>bif (!a9) then (some (((aC.mk (((af.mk 0 ([]) ([]) ([])),(af.mk 0 ([]) ([]) ([])))) ((0,0)) ([]) (([],[]))),530))) else ((bt i a.A).bind fun aa=>(eJ b.Told 0 ((b.Told.length:Int))).bind fun ab=>(cU 24 ab ([aa])).bind fun ad=>some (((aC.mk b.Desks b.Synced ad b.Spoken),0))))) else none) else bif decide (c.1=29) then (bif (decide (0<=a.Who)&&decide (a.Who<2)) then ((jL a.Who b.Desks.1.Calls b.Desks.2.Calls).bind fun j=>(zW a.A 0 (wr .i64 (((j.length:Int)) - 1))).bind fun ae=>bif (!ae) then (some (((aC.mk (((af.mk 0 ([]) ([]) ([])),(af.mk 0 ([]) ([]) ([])))) ((0,0)) ([]) (([],[]))),530))) else ((bt j a.A).bind fun ag=>(mJ ((aD.mk b a.Who)) a.Who ag).bind fun ah=>bif (!ah) then (some (((aC.mk (((af.mk 0 ([]) ([]) ([])),(af.mk 0 ([]) ([]) ([])))) ((0,0)) ([]) (([],[]))),530))) else (bif (decide (0<=a.Who)&&decide (a.Who<2)) then ((jL a.Who b.Spoken.1 b.Spoken.2).bind fun r=>(bt j a.A).bind fun ai=>(eJ r 0 ((r.length:Int))).bind fun aj=>(cU 16 aj ([ai])).bind fun s=>bif decide (a.Who=0) then (some (((aC.mk b.Desks b.Synced b.Told ((s,b.Spoken.2))),0))) else bif decide (a.Who=1) then (some (((aC.mk b.Desks b.Synced b.Told ((b.Spoken.1,s))),0))) else none) else none))) else none) else bif decide (c.1=30) then (bif (decide (0<=a.Who)&&decide (a.Who<2)) then ((jL a.Who b.Desks.1 b.Desks.2).bind fun t=>bif (decide (0<=a.Who)&&decide (a.Who<2)) then ((jL a.Who b.Synced.1 b.Synced.2).bind fun ak=>(zW a.A ak ((t.Order.length:Int))).bind fun al=>bif (!al) then (some (((aC.mk (((af.mk 0 ([]) ([]) ([])),(af.mk 0 ([]) ([]) ([])))) ((0,0)) ([]) (([],[]))),530))) else ((Lh t).bind fun h=>bif (!(h.2==0)) then (bif (h.2 != 0) then (some (((aC.mk (((af.mk 0 ([]) ([]) ([])),(af.mk 0 ([]) ([]) ([])))) ((0,0)) ([]) (([],[]))),h.2))) else (some (((aC.mk (((af.mk 0 ([]) ([]) ([])),(af.mk 0 ([]) ([]) ([])))) ((0,0)) ([]) (([],[]))),0)))) else ((eJ h.1 0 a.A).bind fun am=>(JW a.Who am).bind fun g=>bif (!(g.2==0)) then (bif (g.2 != 0) then (some (((aC.mk (((af.mk 0 ([]) ([]) ([])),(af.mk 0 ([]) ([]) ([])))) ((0,0)) ([]) (([],[]))),g.2))) else (some (((aC.mk (((af.mk 0 ([]) ([]) ([])),(af.mk 0 ([]) ([]) ([])))) ((0,0)) ([]) (([],[]))),0)))) else (bif (decide (0<=a.Who)&&decide (a.Who<2)) then ((jL a.Who ((g.1,b.Desks.2)) ((b.Desks.1,g.1))).bind fun u=>some (((aC.mk ((u.1,u.2)) b.Synced b.Told b.Spoken),0))) else none)))) else none) else none) else none)
theorem T6 (C:OT) (n:Nat) (ao:DV C) (ap:DW C) (ar:DX C) (au:p7 C) (ax:DY C) (a7:sM C) (h48_68:p8 C) (h48_69:sN C) (ay:IX C) (c:aC) (d:bn):TJ C n 6 [(ag (aj c)),(ag (aq d))] (F6 n c d) (fun y=>(tp [(ag (aj y.1)),(iA y.2)])):=by
 refine .lp (e6 ..) ?_
 unfold F6
 refine .s ((pt 0 0),[bx (aj c)]) (.sq (pt 1 0) (.sq (pt 2 0) (.s ((pt 3 0),[bx (aj c),bx (aq d),bD,bx [(iA 0)]]) (.s (ag (aj c)) (.s2 (iA d.Who) (.s (ag (aj c++[(iA d.Who)])) (.s ((pt 4 0),[bx (aj c),bx (aq d),bD,bx [(iA 0)],bx (aj c++[(iA d.Who)])]) (.cl ((aw Nb).trans (Wb ..)) (.s (pt 4 0) (.s (pt 4 0) (.s2 (ag (aa c.Desks.1++aa c.Desks.2)) (.as (GB C n _ _ _ _ au a7 c.Desks.1 c.Desks.2 c d 0 ([]) ([]) ([]) 0 ([]) ([]) ([]) 0 0 ([]) ([]) ([]) 0 c d.Who ?_ ?_ _ 0)))))))))))))
 ·intro cg ch ci w1476 w1477 w1478 w1479
  exact .un rfl (.cr (.gZ (.cl ((aw dT).trans (nT ..)) (.s (bA false) (.kS (.s (tp [(iA 530),(bA true)]) (.s (bA true) (.s (iA 530) (.hU (.cr (.ok (.s (bA true) (.hU (.s b9 (.s [w1476,w1477,bD,bx [(iA 0)],w1478,w1479] (.s [w1476,w1477,bD,bx [(iA 530)],w1478,w1479] (.s b9 (.s (iA 530) (.lv r9)))))))))))))))))))
 ·intro cj ck
  refine .un rfl (.cT j9 (.as (GC C n _ _ _ _ h48_68 c d 0 ([]) ([]) ([]) 0 ([]) ([]) ([]) 0 0 ([]) ([]) ([]) 0 c d.Who ?_ ?_ _ 0)))
  ·intro cm cn w2666 w2667 w2668 w2669 w2670
   exact .un rfl (.cr (.gZ (.cl ((aw dT).trans (nT ..)) (.s (bA false) (.kS (.s (tp [(iA 530),(bA true)]) (.s (bA true) (.s (iA 530) (.hU (.cr (.ok (.s (bA true) (.hU (.s b9 (.s [w2666,w2667,bD,bx [(iA 0)],w2668,w2669,w2670] (.s [w2666,w2667,bD,bx [(iA 530)],w2668,w2669,w2670] (.s b9 (.s (iA 530) (.lv r9)))))))))))))))))))
  ·intro co
   refine .un rfl (.cT j9 (.s (pt 4 0) (.s (pt 4 0) (.s2 (im (c.Told.map ae) false) (.st (dr (e:=50)) (.as (GF C n _ _ _ _ h48_69 c.Told ((c.Told.length:Int)) c d 0 ([]) ([]) ([]) 0 ([]) ([]) ([]) 0 0 ([]) ([]) ([]) 0 c d.Who ?_ ?_ ?_ _ 0)))))))
   ·intro cp cq cs ct w3134 w3135 w3136 w3137 w3138 w3139
    exact .un rfl (.cr (.gZ (.cl ((aw dT).trans (nT ..)) (.s (bA false) (.kS (.s (tp [(iA 530),(bA true)]) (.s (bA true) (.s (iA 530) (.hU (.cr (.ok (.s (bA true) (.hU (.s b9 (.s [w3134,w3135,bD,bx [(iA 0)],w3136,w3137,w3138,w3139] (.s [w3134,w3135,bD,bx [(iA 530)],w3136,w3137,w3138,w3139] (.s b9 (.s (iA 530) (.lv r9)))))))))))))))))))
   ·intro cu cv cw cx w3144 w3145 w3146 w3147 w3148
    exact .un rfl (.cr (.gZ (.cl ((aw dT).trans (nT ..)) (.s (bA false) (.kS (.s (tp [(iA 530),(bA true)]) (.s (bA true) (.s (iA 530) (.hU (.cr (.ok (.s (bA true) (.hU (.s b9 (.s [w3144,w3145,bD,bx [(iA 0)],w3146,w3147,w3148] (.s [w3144,w3145,bD,bx [(iA 530)],w3146,w3147,w3148] (.s b9 (.s (iA 530) (.lv r9)))))))))))))))))))
   ·intro cy cz d0 d1 w3153
    refine .un rfl (.cT j9 (.cr (.ok (.s ((A.mr 5),[w3153,bx (aq d),bD,bx [(iA 0)],bx (aj c++[(iA d.Who)]),az.mp .i64 [] []]) (.s [w3153,bx (aq d),bD,bx [(iA 0)],bx (aj c++[(iA d.Who)]),az.mp .i64 [1] [(gp 24 [] [])]] (.s [w3153,bx (aq d),bD,bx [(iA 0)],bx (aj c++[(iA d.Who)]),az.mp .i64 [1,2] [(gp 24 [] []),(gp 25 [] [])]] (.s [w3153,bx (aq d),bD,bx [(iA 0)],bx (aj c++[(iA d.Who)]),az.mp .i64 [1,2,3] [(gp 24 [] []),(gp 25 [] []),(gp 26 [] [])]] (.s [w3153,bx (aq d),bD,bx [(iA 0)],bx (aj c++[(iA d.Who)]),az.mp .i64 [1,2,3,4] [(gp 24 [] []),(gp 25 [] []),(gp 26 [] []),(gp 27 [] [])]] (.s [w3153,bx (aq d),bD,bx [(iA 0)],bx (aj c++[(iA d.Who)]),az.mp .i64 [1,2,3,4,5] [(gp 24 [] []),(gp 25 [] []),(gp 26 [] []),(gp 27 [] []),(gp 28 [] [])]] (.s [w3153,bx (aq d),bD,bx [(iA 0)],bx (aj c++[(iA d.Who)]),az.mp .i64 [1,2,3,4,5,6] [(gp 24 [] []),(gp 25 [] []),(gp 26 [] []),(gp 27 [] []),(gp 28 [] []),(gp 29 [] [])]] (.s [w3153,bx (aq d),bD,bx [(iA 0)],bx (aj c++[(iA d.Who)]),bl] (.s2 (iA d.Kind) (.bg (fun t (y:Nat×Bool)=>t=(tp [(Bh y.1),(bA y.2)])) ?_ ?_)))))))))))))
    ·refine .sp (fun b0=>?_) (fun b1=>?_)
     ·exact .lp (by rw[X7 b0]; kernel_rfl:_=some (tp [(gp 24 [] []),(bA true)])) (.lg rfl)
     refine .sp (fun b2=>?_) (fun b3=>?_)
     ·exact .lp (by rw[X7 b2]; kernel_rfl:_=some (tp [(gp 25 [] []),(bA true)])) (.lg rfl)
     refine .sp (fun b4=>?_) (fun b5=>?_)
     ·exact .lp (by rw[X7 b4]; kernel_rfl:_=some (tp [(gp 26 [] []),(bA true)])) (.lg rfl)
     refine .sp (fun b6=>?_) (fun b7=>?_)
     ·exact .lp (by rw[X7 b6]; kernel_rfl:_=some (tp [(gp 27 [] []),(bA true)])) (.lg rfl)
     refine .sp (fun ba=>?_) (fun bb=>?_)
     ·exact .lp (by rw[X7 ba]; kernel_rfl:_=some (tp [(gp 28 [] []),(bA true)])) (.lg rfl)
     refine .sp (fun bc=>?_) (fun be=>?_)
     ·exact .lp (by rw[X7 bc]; kernel_rfl:_=some (tp [(gp 29 [] []),(bA true)])) (.lg rfl)
     refine .sp (fun bh=>?_) (fun bj=>?_)
     ·exact .lp (by rw[X7 bh]; kernel_rfl:_=some (tp [(gp 30 [] []),(bA true)])) (.lg rfl)
     exact .lp ((Dp rfl (gh b1 (gh b3 (gh b5 (gh b7 (gh bb (gh be (gh bj Av))))))) j9):_=some (tp [(A.v Value.nilFunc),(bA false)])) (.lg rfl)
    rintro _ ab rfl
    refine .s (Bh ab.1) (.s (bA ab.2) (.bg (fun t (y:Bool)=>∃ ad ai ak:A,t=[(bA y),ad,ai,ak]) ?_ ?_))
    ·refine .bi ?_ ?_
     ·exact .s (pt 1 1) (.s (iA d.Who) (.bd (a7 d.Who 0 1) fun d2=>.lg ⟨_,_,_,rfl⟩))
     exact .lg ⟨_,_,_,rfl⟩
    rintro _ bm ⟨ad,ai,ak,rfl⟩
    refine .u4 (.cl ((aw gq).trans (tn ..)) (.s (bA (!bm)) (.bX ?_ ?_)))
    ·exact .s (A.ifc 36 (iA 530)) (.pk (.cr (.gZ (.cl ((aw dT).trans (nT ..)) (.s (bA false) (.kS (.s (tp [(iA 530),(bA true)]) (.s (bA true) (.s (iA 530) (.hU (.cr (.ok (.s (bA true) (.hU (.s b9 (.s [w3153,bx (aq d),bD,bx [(iA 0)],bx (aj c++[(iA d.Who)]),bl] (.s [w3153,bx (aq d),bD,bx [(iA 530)],bx (aj c++[(iA d.Who)]),bl] (.s b9 (.s (iA 530) (.lv r9))))))))))))))))))))
    refine .cr (.ok (.s (ag (aq d)) (.sp (fun bp=>?_) (fun _=>?_))))
    ·refine .ds 24 bp j9 (.dC j9 j9 (.cl ((aw Nc).trans (Wc ..)) (.s ((pt 6 0),[w3153,bx (aq d),bD,bx [(iA 0)],bx (aj c++[(iA d.Who)]),bl,bx (aq d)]) (.s (pt 4 0) (.s2 (iA d.Who) (.s (pt 4 0) (.s (pt 4 0) (.s (pt 4 0) (.gd fun hg=>.st (v:=(pt 4 (0+Int.toNat d.Who*4))) (b8 (e:=26) (n:=4) (len:=2) j9 j9 rfl hg) (.a2 (f:=fun (y:af)=>(ag [(iA y.Self),(im (y.Leases.map ae) false),(im (y.Calls.map ah) false),(im (y.Order.map cB) false)])) (fun h=>by rw[h]; kernel_rfl) (fun h=>by rw[h]; kernel_rfl) fun bq=>.s2 (iA d.A) (.s2 (iA d.B) (.bd (g:=fun (y:(af×Int))=>(tp [(ag (aa y.1)),(iA y.2)])) (by simp only[bJ,dg]; exact ao bq d.A d.B) fun o=>.s (ag (aa o.1)) (.s (iA o.2) (.cl ((aw Ca).trans (Pv ..)) (.s ((pt 7 0),[w3153,bx (aq d),bD,bx [(iA 0)],bx (aj c++[(iA d.Who)]),bl,bx (aq d),bx (aa o.1)]) (.st (aV ..) (.cl ((aw gq).trans (tn ..)) (.s (bA (!(o.2==0))) (.bX ?_ ?_)))))))))))))))))))
     ·refine .s (A.ifc 36 (iA o.2)) (.pk (.cr (.gZ (.cr (.gZ (.cr (.gZ (.cl ((aw dT).trans (nT ..)) (.s (bA false) (.kS (.s (tp [(iA o.2),(bA true)]) (.s (bA true) (.s (iA o.2) (.hU (.cr (.ok (.st (bf ..) (.bX ?_ ?_))))))))))))))))))
      ·exact .s b9 (.s [w3153,bx (aq d),bD,bx [(iA 0)],bx (aj c++[(iA d.Who)]),bl,bx (aq d),bx (aa o.1)] (.s [w3153,bx (aq d),bD,bx [(iA o.2)],bx (aj c++[(iA d.Who)]),bl,bx (aq d),bx (aa o.1)] (.s b9 (.s (iA o.2) (.lv r9)))))
      exact .s b9 (.s (iA 0) (.lv r9))
     refine .cr (.ok (.s (pt 4 0) (.s2 (iA d.Who) (.s (ag (aa o.1)) (.s (pt 4 0) (.s (pt 4 0) (.s (pt 4 0) (.gd fun hg=>.st (v:=(pt 4 (0+Int.toNat d.Who*4))) (b8 (e:=26) (n:=4) (len:=2) j9 j9 rfl hg) (.a2 (f:=fun (y:af×af)=>[w3153,bx (aq d),bD,bx [(iA 0)],bx (aa y.1++aa y.2++[(iA c.Synced.1),(iA c.Synced.2),(im (c.Told.map ae) false),(im (c.Spoken.1.map ah) false),(im (c.Spoken.2.map ah) false),(iA d.Who)]),bl,bx (aq d),bx (aa o.1)]) (fun h=>by rw[h]; kernel_rfl) (fun h=>by rw[h]; kernel_rfl) fun x=>.cr (.ok (.cr (.ok (.s (pt 4 0) (.s2 (ag (aa x.1++aa x.2++[(iA c.Synced.1),(iA c.Synced.2),(im (c.Told.map ae) false),(im (c.Spoken.1.map ah) false),(im (c.Spoken.2.map ah) false)])) (.s [w3153,bx (aq d),bx (aa x.1++aa x.2++[(iA c.Synced.1),(iA c.Synced.2),(im (c.Told.map ae) false),(im (c.Spoken.1.map ah) false),(im (c.Spoken.2.map ah) false)]),bx [(iA 0)],bx (aa x.1++aa x.2++[(iA c.Synced.1),(iA c.Synced.2),(im (c.Told.map ae) false),(im (c.Spoken.1.map ah) false),(im (c.Spoken.2.map ah) false),(iA d.Who)]),bl,bx (aq d),bx (aa o.1)] (.s [w3153,bx (aq d),bx (aa x.1++aa x.2++[(iA c.Synced.1),(iA c.Synced.2),(im (c.Told.map ae) false),(im (c.Spoken.1.map ah) false),(im (c.Spoken.2.map ah) false)]),bx [(iA 0)],bx (aa x.1++aa x.2++[(iA c.Synced.1),(iA c.Synced.2),(im (c.Told.map ae) false),(im (c.Spoken.1.map ah) false),(im (c.Spoken.2.map ah) false),(iA d.Who)]),bl,bx (aq d),bx (aa o.1)] (.cl ((aw dT).trans (nT ..)) (.s (bA true) (.hU (.cr (.ok ?_)))))))))))))))))))))
     exact .s (bA false) (.kS (.s (ag (aa x.1++aa x.2++[(iA c.Synced.1),(iA c.Synced.2),(im (c.Told.map ae) false),(im (c.Spoken.1.map ah) false),(im (c.Spoken.2.map ah) false)])) (.s (iA 0) (.lv r9))))
    refine .sp (fun br=>?_) (fun _=>?_)
    ·refine .ds 25 br j9 (.dC j9 j9 (.cl ((aw Nd).trans (Wd ..)) (.s ((pt 6 0),[w3153,bx (aq d),bD,bx [(iA 0)],bx (aj c++[(iA d.Who)]),bl,bx (aq d)]) (.s2 (iA d.A) (.s (pt 4 0) (.s (pt 4 0) (.s2 (im (c.Told.map ae) false) (.st (dr (e:=50)) (.st (du ..) (.bd (a7 d.A 0 (wr .i64 (((c.Told.length:Int)) - 1))) fun bs=>.cl ((aw gq).trans (tn ..)) (.s (bA (!bs)) (.bX ?_ ?_))))))))))))
     ·exact .s (A.ifc 36 (iA 530)) (.pk (.cr (.gZ (.cr (.gZ (.cl ((aw dT).trans (nT ..)) (.s (bA false) (.kS (.s (tp [(iA 530),(bA true)]) (.s (bA true) (.s (iA 530) (.hU (.cr (.ok (.s (bA true) (.hU (.s b9 (.s [w3153,bx (aq d),bD,bx [(iA 0)],bx (aj c++[(iA d.Who)]),bl,bx (aq d)] (.s [w3153,bx (aq d),bD,bx [(iA 530)],bx (aj c++[(iA d.Who)]),bl,bx (aq d)] (.s b9 (.s (iA 530) (.lv r9))))))))))))))))))))))
     refine .cr (.ok (.s (pt 4 0) (.s2 (iA d.Who) (.s (pt 4 0) (.s (pt 4 0) (.s (pt 4 0) (.gd fun hg=>.st (v:=(pt 4 (0+Int.toNat d.Who*4))) (b8 (e:=26) (n:=4) (len:=2) j9 j9 rfl hg) (.a2 (f:=fun (y:af)=>(ag [(iA y.Self),(im (y.Leases.map ae) false),(im (y.Calls.map ah) false),(im (y.Order.map cB) false)])) (fun h=>by rw[h]; kernel_rfl) (fun h=>by rw[h]; kernel_rfl) fun bt=>.s (pt 4 0) (.s (pt 4 0) (.s2 (im (c.Told.map ae) false) (.s2 (iA d.A) (.bd (fa (e:=50) (es:=3)) fun am=>.s (ag (ae am)) (.bd (g:=fun (y:(af×Int))=>(tp [(ag (aa y.1)),(iA y.2)])) (by simp only[bJ,dg]; exact ay bt am) fun p=>.s (ag (aa p.1)) (.s (iA p.2) (.cl ((aw Ca).trans (Pv ..)) (.s ((pt 7 0),[w3153,bx (aq d),bD,bx [(iA 0)],bx (aj c++[(iA d.Who)]),bl,bx (aq d),bx (aa p.1)]) (.st (aV ..) (.cl ((aw gq).trans (tn ..)) (.s (bA (!(p.2==0))) ?_)))))))))))))))))))
     refine .bX ?_ ?_
     ·refine .s (A.ifc 36 (iA p.2)) (.pk (.cr (.gZ (.cr (.gZ (.cr (.gZ (.cl ((aw dT).trans (nT ..)) (.s (bA false) (.kS (.s (tp [(iA p.2),(bA true)]) (.s (bA true) (.s (iA p.2) (.hU (.cr (.ok (.st (bf ..) (.bX ?_ ?_))))))))))))))))))
      ·exact .s b9 (.s [w3153,bx (aq d),bD,bx [(iA 0)],bx (aj c++[(iA d.Who)]),bl,bx (aq d),bx (aa p.1)] (.s [w3153,bx (aq d),bD,bx [(iA p.2)],bx (aj c++[(iA d.Who)]),bl,bx (aq d),bx (aa p.1)] (.s b9 (.s (iA p.2) (.lv r9)))))
      exact .s b9 (.s (iA 0) (.lv r9))
     refine .cr (.ok (.s (pt 4 0) (.s2 (iA d.Who) (.s (ag (aa p.1)) (.s (pt 4 0) (.s (pt 4 0) (.s (pt 4 0) (.gd fun hg=>.st (v:=(pt 4 (0+Int.toNat d.Who*4))) (b8 (e:=26) (n:=4) (len:=2) j9 j9 rfl hg) (.a2 (f:=fun (y:af×af)=>[w3153,bx (aq d),bD,bx [(iA 0)],bx (aa y.1++aa y.2++[(iA c.Synced.1),(iA c.Synced.2),(im (c.Told.map ae) false),(im (c.Spoken.1.map ah) false),(im (c.Spoken.2.map ah) false),(iA d.Who)]),bl,bx (aq d),bx (aa p.1)]) (fun h=>by rw[h]; kernel_rfl) (fun h=>by rw[h]; kernel_rfl) fun z=>.cr (.ok (.cr (.ok (.s (pt 4 0) (.s2 (ag (aa z.1++aa z.2++[(iA c.Synced.1),(iA c.Synced.2),(im (c.Told.map ae) false),(im (c.Spoken.1.map ah) false),(im (c.Spoken.2.map ah) false)])) (.s [w3153,bx (aq d),bx (aa z.1++aa z.2++[(iA c.Synced.1),(iA c.Synced.2),(im (c.Told.map ae) false),(im (c.Spoken.1.map ah) false),(im (c.Spoken.2.map ah) false)]),bx [(iA 0)],bx (aa z.1++aa z.2++[(iA c.Synced.1),(iA c.Synced.2),(im (c.Told.map ae) false),(im (c.Spoken.1.map ah) false),(im (c.Spoken.2.map ah) false),(iA d.Who)]),bl,bx (aq d),bx (aa p.1)] (.s [w3153,bx (aq d),bx (aa z.1++aa z.2++[(iA c.Synced.1),(iA c.Synced.2),(im (c.Told.map ae) false),(im (c.Spoken.1.map ah) false),(im (c.Spoken.2.map ah) false)]),bx [(iA 0)],bx (aa z.1++aa z.2++[(iA c.Synced.1),(iA c.Synced.2),(im (c.Told.map ae) false),(im (c.Spoken.1.map ah) false),(im (c.Spoken.2.map ah) false),(iA d.Who)]),bl,bx (aq d),bx (aa p.1)] (.cl ((aw dT).trans (nT ..)) (.s (bA true) (.hU (.cr (.ok ?_)))))))))))))))))))))
     exact .s (bA false) (.kS (.s (ag (aa z.1++aa z.2++[(iA c.Synced.1),(iA c.Synced.2),(im (c.Told.map ae) false),(im (c.Spoken.1.map ah) false),(im (c.Spoken.2.map ah) false)])) (.s (iA 0) (.lv r9))))
    refine .sp (fun bu=>?_) (fun _=>?_)
    ·refine .ds 26 bu j9 (.dC j9 j9 (.cl ((aw Nf).trans (We ..)) (.s ((pt 6 0),[w3153,bx (aq d),bD,bx [(iA 0)],bx (aj c++[(iA d.Who)]),bl,bx (aq d)]) (.s (pt 4 0) (.s2 (iA d.Who) (.s (pt 4 0) (.s (pt 4 0) (.s (pt 4 0) (.gd fun hg=>.st (v:=(pt 4 (0+Int.toNat d.Who*4))) (b8 (e:=26) (n:=4) (len:=2) j9 j9 rfl hg) (.a2 (f:=fun (y:af)=>(ag [(iA y.Self),(im (y.Leases.map ae) false),(im (y.Calls.map ah) false),(im (y.Order.map cB) false)])) (fun h=>by rw[h]; kernel_rfl) (fun h=>by rw[h]; kernel_rfl) fun bv=>.s2 (iA d.A) (.s2 (iA d.B) (.bd (g:=fun (y:(af×Int))=>(tp [(ag (aa y.1)),(iA y.2)])) (by simp only[bJ,dg]; exact ap bv d.A d.B) fun q=>.s (ag (aa q.1)) (.s (iA q.2) (.cl ((aw Ca).trans (Pv ..)) (.s ((pt 7 0),[w3153,bx (aq d),bD,bx [(iA 0)],bx (aj c++[(iA d.Who)]),bl,bx (aq d),bx (aa q.1)]) (.st (aV ..) (.cl ((aw gq).trans (tn ..)) (.s (bA (!(q.2==0))) (.bX ?_ ?_)))))))))))))))))))
     ·refine .s (A.ifc 36 (iA q.2)) (.pk (.cr (.gZ (.cr (.gZ (.cr (.gZ (.cl ((aw dT).trans (nT ..)) (.s (bA false) (.kS (.s (tp [(iA q.2),(bA true)]) (.s (bA true) (.s (iA q.2) (.hU (.cr (.ok (.st (bf ..) (.bX ?_ ?_))))))))))))))))))
      ·exact .s b9 (.s [w3153,bx (aq d),bD,bx [(iA 0)],bx (aj c++[(iA d.Who)]),bl,bx (aq d),bx (aa q.1)] (.s [w3153,bx (aq d),bD,bx [(iA q.2)],bx (aj c++[(iA d.Who)]),bl,bx (aq d),bx (aa q.1)] (.s b9 (.s (iA q.2) (.lv r9)))))
      exact .s b9 (.s (iA 0) (.lv r9))
     refine .cr (.ok (.s (pt 4 0) (.s2 (iA d.Who) (.s (ag (aa q.1)) (.s (pt 4 0) (.s (pt 4 0) (.s (pt 4 0) (.gd fun hg=>.st (v:=(pt 4 (0+Int.toNat d.Who*4))) (b8 (e:=26) (n:=4) (len:=2) j9 j9 rfl hg) (.a2 (f:=fun (y:af×af)=>[w3153,bx (aq d),bD,bx [(iA 0)],bx (aa y.1++aa y.2++[(iA c.Synced.1),(iA c.Synced.2),(im (c.Told.map ae) false),(im (c.Spoken.1.map ah) false),(im (c.Spoken.2.map ah) false),(iA d.Who)]),bl,bx (aq d),bx (aa q.1)]) (fun h=>by rw[h]; kernel_rfl) (fun h=>by rw[h]; kernel_rfl) fun a3=>.cr (.ok (.cr (.ok (.s (pt 4 0) (.s2 (ag (aa a3.1++aa a3.2++[(iA c.Synced.1),(iA c.Synced.2),(im (c.Told.map ae) false),(im (c.Spoken.1.map ah) false),(im (c.Spoken.2.map ah) false)])) (.s [w3153,bx (aq d),bx (aa a3.1++aa a3.2++[(iA c.Synced.1),(iA c.Synced.2),(im (c.Told.map ae) false),(im (c.Spoken.1.map ah) false),(im (c.Spoken.2.map ah) false)]),bx [(iA 0)],bx (aa a3.1++aa a3.2++[(iA c.Synced.1),(iA c.Synced.2),(im (c.Told.map ae) false),(im (c.Spoken.1.map ah) false),(im (c.Spoken.2.map ah) false),(iA d.Who)]),bl,bx (aq d),bx (aa q.1)] (.s [w3153,bx (aq d),bx (aa a3.1++aa a3.2++[(iA c.Synced.1),(iA c.Synced.2),(im (c.Told.map ae) false),(im (c.Spoken.1.map ah) false),(im (c.Spoken.2.map ah) false)]),bx [(iA 0)],bx (aa a3.1++aa a3.2++[(iA c.Synced.1),(iA c.Synced.2),(im (c.Told.map ae) false),(im (c.Spoken.1.map ah) false),(im (c.Spoken.2.map ah) false),(iA d.Who)]),bl,bx (aq d),bx (aa q.1)] (.cl ((aw dT).trans (nT ..)) (.s (bA true) (.hU (.cr (.ok ?_)))))))))))))))))))))
     exact .s (bA false) (.kS (.s (ag (aa a3.1++aa a3.2++[(iA c.Synced.1),(iA c.Synced.2),(im (c.Told.map ae) false),(im (c.Spoken.1.map ah) false),(im (c.Spoken.2.map ah) false)])) (.s (iA 0) (.lv r9))))
    refine .sp (fun bw=>?_) (fun _=>?_)
    ·refine .ds 27 bw j9 (.dC j9 j9 (.cl ((aw Ng).trans (Wf ..)) (.s ((pt 6 0),[w3153,bx (aq d),bD,bx [(iA 0)],bx (aj c++[(iA d.Who)]),bl,bx (aq d)]) (.s (pt 4 0) (.s2 (iA d.Who) (.s (pt 4 0) (.s2 (iA d.Who) (.s (pt 4 0) (.s (pt 4 0) (.s (pt 4 0) (.gd fun hg=>.st (v:=(pt 4 (0+Int.toNat d.Who*4))) (b8 (e:=26) (n:=4) (len:=2) j9 j9 rfl hg) (.s (pt 4 (0+Int.toNat d.Who*4+3)) (.a2 (f:=fun (y:(List Bool))=>(im (y.map cB) false)) (fun h=>by rw[h]; kernel_rfl) (fun h=>by rw[h]; kernel_rfl) fun d3=>.st (dr (e:=4)) (.s (pt 4 0) (.s (pt 4 0) (.s (pt 4 8) (.gd fun hg=>.st (v:=(pt 4 (8+Int.toNat d.Who*1))) (b8 (e:=3) (n:=1) (len:=2) j9 j9 rfl hg) (.a2 (f:=fun (y:Int×Int)=>[w3153,bx (aq d),bD,bx [(iA 0)],bx (aa c.Desks.1++aa c.Desks.2++[(iA y.1),(iA y.2),(im (c.Told.map ae) false),(im (c.Spoken.1.map ah) false),(im (c.Spoken.2.map ah) false),(iA d.Who)]),bl,bx (aq d)]) (fun h=>by rw[h]; kernel_rfl) (fun h=>by rw[h]; kernel_rfl) fun a4=>.cr (.ok ?_)))))))))))))))))))
     exact .s (pt 4 0) (.s2 (ag (aa c.Desks.1++aa c.Desks.2++[(iA a4.1),(iA a4.2),(im (c.Told.map ae) false),(im (c.Spoken.1.map ah) false),(im (c.Spoken.2.map ah) false)])) (.s [w3153,bx (aq d),bx (aa c.Desks.1++aa c.Desks.2++[(iA a4.1),(iA a4.2),(im (c.Told.map ae) false),(im (c.Spoken.1.map ah) false),(im (c.Spoken.2.map ah) false)]),bx [(iA 0)],bx (aa c.Desks.1++aa c.Desks.2++[(iA a4.1),(iA a4.2),(im (c.Told.map ae) false),(im (c.Spoken.1.map ah) false),(im (c.Spoken.2.map ah) false),(iA d.Who)]),bl,bx (aq d)] (.s [w3153,bx (aq d),bx (aa c.Desks.1++aa c.Desks.2++[(iA a4.1),(iA a4.2),(im (c.Told.map ae) false),(im (c.Spoken.1.map ah) false),(im (c.Spoken.2.map ah) false)]),bx [(iA 0)],bx (aa c.Desks.1++aa c.Desks.2++[(iA a4.1),(iA a4.2),(im (c.Told.map ae) false),(im (c.Spoken.1.map ah) false),(im (c.Spoken.2.map ah) false),(iA d.Who)]),bl,bx (aq d)] (.cl ((aw dT).trans (nT ..)) (.s (bA true) (.hU (.cr (.ok (.s (bA false) (.kS (.s (ag (aa c.Desks.1++aa c.Desks.2++[(iA a4.1),(iA a4.2),(im (c.Told.map ae) false),(im (c.Spoken.1.map ah) false),(im (c.Spoken.2.map ah) false)])) (.s (iA 0) (.lv r9)))))))))))))
    refine .sp (fun bz=>?_) (fun _=>?_)
    ·refine .ds 28 bz j9 (.dC j9 j9 (.cl ((aw Nh).trans (Wg ..)) (.s ((pt 6 0),[w3153,bx (aq d),bD,bx [(iA 0)],bx (aj c++[(iA d.Who)]),bl,bx (aq d)]) (.s (pt 4 0) (.s2 (iA d.Who) (.s (pt 4 0) (.s (pt 4 0) (.s (pt 4 0) (.gd fun hg=>.st (v:=(pt 4 (0+Int.toNat d.Who*4))) (b8 (e:=26) (n:=4) (len:=2) j9 j9 rfl hg) (.s (pt 4 (0+Int.toNat d.Who*4+1)) (.a2 (f:=fun (y:(List al))=>(im (y.map ae) false)) (fun h=>by rw[h]; kernel_rfl) (fun h=>by rw[h]; kernel_rfl) fun c0=>.s2 (iA d.A) (.st (dr (e:=50)) (.st (du ..) (.bd (a7 d.A 0 (wr .i64 (((c0.length:Int)) - 1))) fun c1=>.cl ((aw gq).trans (tn ..)) (.s (bA (!c1)) (.bX ?_ ?_))))))))))))))))
     ·exact .s (A.ifc 36 (iA 530)) (.pk (.cr (.gZ (.cr (.gZ (.cl ((aw dT).trans (nT ..)) (.s (bA false) (.kS (.s (tp [(iA 530),(bA true)]) (.s (bA true) (.s (iA 530) (.hU (.cr (.ok (.s (bA true) (.hU (.s b9 (.s [w3153,bx (aq d),bD,bx [(iA 0)],bx (aj c++[(iA d.Who)]),bl,bx (aq d)] (.s [w3153,bx (aq d),bD,bx [(iA 530)],bx (aj c++[(iA d.Who)]),bl,bx (aq d)] (.s b9 (.s (iA 530) (.lv r9))))))))))))))))))))))
     refine .cr (.ok (.s (pt 4 0) (.s (pt 4 13) (.s (iA d.Who) (.s2 (iA d.A) (.bd (fa (e:=50) (es:=3)) fun w=>.s (ag (ae w)) (.cT j9 (.cl ((aw Fx).trans (Q4 ..)) (.s ((pt 7 0),[w3153,bx (aq d),bD,bx [(iA 0)],bx (aj c++[(iA d.Who)]),bl,bx (aq d),bx (ae w)]) (.cr (.ok (.dp (f:=fun (y:Bool)=>(bA y)) (fun _=>rfl) (qo zs j9 j9 (kF (fL cQ ez ((aD.mk c d.Who):aD) rfl rfl) (kF rfl (kF (mD (fL bM pY (w:al) rfl rfl)) rfl))) (h48_69 ((aD.mk c d.Who)) d.Who w)) fun c2=>.ok (.cl ((aw gq).trans (tn ..)) (.s (bA (!c2)) (.bX ?_ ?_)))))))))))))))
     ·exact .s (A.ifc 36 (iA 530)) (.pk (.cr (.gZ (.cr (.gZ (.cl ((aw dT).trans (nT ..)) (.s (bA false) (.kS (.s (tp [(iA 530),(bA true)]) (.s (bA true) (.s (iA 530) (.hU (.cr (.ok (.s (bA true) (.hU (.s b9 (.s [w3153,bx (aq d),bD,bx [(iA 0)],bx (aj c++[(iA d.Who)]),bl,bx (aq d),bx (ae w)] (.s [w3153,bx (aq d),bD,bx [(iA 530)],bx (aj c++[(iA d.Who)]),bl,bx (aq d),bx (ae w)] (.s b9 (.s (iA 530) (.lv r9))))))))))))))))))))))
     refine .cr (.ok (.s (pt 4 0) (.s (pt 4 0) (.s2 (im (c.Told.map ae) false) (.s (pt 6 2) (.s (iA d.A) (.bd (fa (e:=50) (es:=3)) fun a8=>.s (ag (ae a8)) (.cT j9 (.s (im [[(iA a8.No),(iA a8.Holder),(iA a8.Until)]] true) (.cT j9 (.cl ((aw JD).trans (Ta ..)) (.st (dr (e:=50)) (.st (dr (e:=50)) (.bd (iC (e:=50) (es:=3) (f:=ae) (l:=c.Told) (a:=0) (b:=(c.Told.length:Int)) j9 j9 (fun _=>rfl) (.inl ⟨rfl,rfl⟩)) fun c3=>.cr (.ok (.bd (g:=fun (y:List al)=>((bo 8 0 y.length false),[w3153,bx (aq d),bD,bx [(iA 0)],bx (aj c++[(iA d.Who)]),bl,bx (aq d),bx (ae w),az.row false 3 (y.map ae)])) (fz mQ (l:=c3) (l2:=[a8]) (bk (f:=ae) ([a8]:List al) _ _)) fun k=>.s (pt 4 0) (.s (pt 4 0) (.s (pt 4 10) (.s [w3153,bx (aq d),bD,bx [(iA 0)],(vI c k d),bl,bx (aq d),bx (ae w),az.row false 3 (k.map ae)] (.cr ?_))))))))))))))))))))
     exact .ok (.s (pt 4 0) (.s2 (ag (aa c.Desks.1++aa c.Desks.2++[(iA c.Synced.1),(iA c.Synced.2),(bo 8 0 k.length false),(im (c.Spoken.1.map ah) false),(im (c.Spoken.2.map ah) false)])) (.s [w3153,bx (aq d),(zg c k),bx [(iA 0)],(vI c k d),bl,bx (aq d),bx (ae w),az.row false 3 (k.map ae)] (.s [w3153,bx (aq d),(zg c k),bx [(iA 0)],(vI c k d),bl,bx (aq d),bx (ae w),az.row false 3 (k.map ae)] (.cl ((aw dT).trans (nT ..)) (.s (bA true) (.hU (.cr (.ok (.s (bA false) (.kS (.s (ag (aa c.Desks.1++aa c.Desks.2++[(iA c.Synced.1),(iA c.Synced.2),(bo 8 0 k.length false),(im (c.Spoken.1.map ah) false),(im (c.Spoken.2.map ah) false)])) (.s (iA 0) (.lv (by show aK [w3153,bx (aq d),(zg c k),bx [(iA 0)],(vI c k d),bl,bx (aq d),bx (ae w),az.row false 3 (k.map ae)] (tp [(ag (aa c.Desks.1++aa c.Desks.2++[(iA c.Synced.1),(iA c.Synced.2),(bo 8 0 k.length false),(im (c.Spoken.1.map ah) false),(im (c.Spoken.2.map ah) false)])),(iA 0)])=_; first | (simp only[bJ,dg,aK,aO (H:=[w3153,bx (aq d),(zg c k),bx [(iA 0)],(vI c k d),bl,bx (aq d),bx (ae w),az.row false 3 (k.map ae)]) (b:=8) (es:=3) (wr:=false) (l:=k) bM rfl]; done) | (simp only[bJ,dG,aK,aO (H:=[w3153,bx (aq d),(zg c k),bx [(iA 0)],(vI c k d),bl,bx (aq d),bx (ae w),az.row false 3 (k.map ae)]) (b:=8) (es:=3) (wr:=false) (l:=k) bM rfl]; first | done | rfl))))))))))))))))
    refine .sp (fun c4=>?_) (fun _=>?_)
    ·refine .ds 29 c4 j9 (.dC j9 j9 (.cl ((aw Ni).trans (Pt ..)) (.s ((pt 6 0),[w3153,bx (aq d),bD,bx [(iA 0)],bx (aj c++[(iA d.Who)]),bl,bx (aq d)]) (.s (pt 4 0) (.s2 (iA d.Who) (.s (pt 4 0) (.s (pt 4 0) (.s (pt 4 0) (.gd fun hg=>.st (v:=(pt 4 (0+Int.toNat d.Who*4))) (b8 (e:=26) (n:=4) (len:=2) j9 j9 rfl hg) (.s (pt 4 (0+Int.toNat d.Who*4+2)) (.a2 (f:=fun (y:(List av))=>(im (y.map ah) false)) (fun h=>by rw[h]; kernel_rfl) (fun h=>by rw[h]; kernel_rfl) fun c5=>.s2 (iA d.A) (.st (dr (e:=54)) (.st (du ..) (.bd (a7 d.A 0 (wr .i64 (((c5.length:Int)) - 1))) fun c6=>.cl ((aw gq).trans (tn ..)) (.s (bA (!c6)) (.bX ?_ ?_))))))))))))))))
     ·exact .s (A.ifc 36 (iA 530)) (.pk (.cr (.gZ (.cr (.gZ (.cl ((aw dT).trans (nT ..)) (.s (bA false) (.kS (.s (tp [(iA 530),(bA true)]) (.s (bA true) (.s (iA 530) (.hU (.cr (.ok (.s (bA true) (.hU (.s b9 (.s [w3153,bx (aq d),bD,bx [(iA 0)],bx (aj c++[(iA d.Who)]),bl,bx (aq d)] (.s [w3153,bx (aq d),bD,bx [(iA 530)],bx (aj c++[(iA d.Who)]),bl,bx (aq d)] (.s b9 (.s (iA 530) (.lv r9))))))))))))))))))))))
     refine .cr (.ok (.s (pt 4 0) (.s (pt 4 13) (.s (iA d.Who) (.s2 (iA d.A) (.bd (fa (e:=54) (es:=2)) fun j=>.s (ag [(iA j.Bar),(iA j.Program)]) (.cT j9 (.cl ((aw JC).trans (S9 ..)) (.s ((pt 7 0),[w3153,bx (aq d),bD,bx [(iA 0)],bx (aj c++[(iA d.Who)]),bl,bx (aq d),bx [(iA j.Bar),(iA j.Program)]]) (.cr (.ok (.dp (f:=fun (y:Bool)=>(bA y)) (fun _=>rfl) (qo zs j9 j9 (kF (fL cQ ez ((aD.mk c d.Who):aD) rfl rfl) (kF rfl (kF (mD (fL bS vU (j:av) rfl rfl)) rfl))) (h48_68 ((aD.mk c d.Who)) d.Who j)) fun c7=>.ok (.cl ((aw gq).trans (tn ..)) (.s (bA (!c7)) (.bX ?_ ?_)))))))))))))))
     ·exact .s (A.ifc 36 (iA 530)) (.pk (.cr (.gZ (.cr (.gZ (.cl ((aw dT).trans (nT ..)) (.s (bA false) (.kS (.s (tp [(iA 530),(bA true)]) (.s (bA true) (.s (iA 530) (.hU (.cr (.ok (.s (bA true) (.hU (.s b9 (.s [w3153,bx (aq d),bD,bx [(iA 0)],bx (aj c++[(iA d.Who)]),bl,bx (aq d),bx [(iA j.Bar),(iA j.Program)]] (.s [w3153,bx (aq d),bD,bx [(iA 530)],bx (aj c++[(iA d.Who)]),bl,bx (aq d),bx [(iA j.Bar),(iA j.Program)]] (.s b9 (.s (iA 530) (.lv r9))))))))))))))))))))))
     refine .cr (.ok (.s (pt 4 0) (.s (pt 4 13) (.s (iA d.Who) (.s (pt 4 0) (.s2 (iA d.Who) (.s (pt 4 0) (.s (pt 4 0) (.s (pt 4 11) (.gd fun hg=>.st (v:=(pt 4 (11+Int.toNat d.Who*1))) (b8 (e:=23) (n:=1) (len:=2) j9 j9 rfl hg) (.a2 (f:=fun (y:(List av))=>(im (y.map ah) false)) (fun h=>by rw[h]; kernel_rfl) (fun h=>by rw[h]; kernel_rfl) fun an=>.s (pt 6 2) (.s (iA d.A) (.bd (fa (e:=54) (es:=2)) fun a9=>.s (ag [(iA a9.Bar),(iA a9.Program)]) (.cT j9 (.s (im [[(iA a9.Bar),(iA a9.Program)]] true) (.s (pt 4 0) (.s (pt 4 0) (.s (pt 4 11) (.cT j9 (.cl ((aw JE).trans (Tb ..)) ?_))))))))))))))))))))
     refine .st (dr (e:=54)) (.st (dr (e:=54)) (.bd (iC (e:=54) (es:=2) (f:=ah) (l:=an) (a:=0) (b:=(an.length:Int)) j9 j9 (fun _=>rfl) (.inl ⟨rfl,rfl⟩)) fun c9=>.cr (.ok (.cT j9 (.bd (g:=fun (y:List av)=>((bo 8 0 y.length false),[w3153,bx (aq d),bD,bx [(iA 0)],bx (aj c++[(iA d.Who)]),bl,bx (aq d),bx [(iA j.Bar),(iA j.Program)],az.row false 2 (y.map ah)])) (fz mR (l:=c9) (l2:=[a9]) (bk (f:=ah) ([a9]:List av) _ _)) fun i=>.sp (fun ca=>?_) (fun _=>?_))))))
     ·exact .st (v:=(pt 4 11)) (by rw[X7 ca]; kernel_rfl) (.s [w3153,bx (aq d),bD,bx [(iA 0)],(vJ c i d),bl,bx (aq d),bx [(iA j.Bar),(iA j.Program)],az.row false 2 (i.map ah)] (.cr (.ok (.s (pt 4 0) (.s2 (ag (aa c.Desks.1++aa c.Desks.2++[(iA c.Synced.1),(iA c.Synced.2),(im (c.Told.map ae) false),(bo 8 0 i.length false),(im (c.Spoken.2.map ah) false)])) (.s [w3153,bx (aq d),(tP c i),bx [(iA 0)],(vJ c i d),bl,bx (aq d),bx [(iA j.Bar),(iA j.Program)],az.row false 2 (i.map ah)] (.s [w3153,bx (aq d),(tP c i),bx [(iA 0)],(vJ c i d),bl,bx (aq d),bx [(iA j.Bar),(iA j.Program)],az.row false 2 (i.map ah)] (.cl ((aw dT).trans (nT ..)) (.s (bA true) (.hU (.cr (.ok (.s (bA false) (.kS (.s (ag (aa c.Desks.1++aa c.Desks.2++[(iA c.Synced.1),(iA c.Synced.2),(im (c.Told.map ae) false),(bo 8 0 i.length false),(im (c.Spoken.2.map ah) false)])) (.s (iA 0) (.lv (by show aK [w3153,bx (aq d),(tP c i),bx [(iA 0)],(vJ c i d),bl,bx (aq d),bx [(iA j.Bar),(iA j.Program)],az.row false 2 (i.map ah)] (tp [(ag (aa c.Desks.1++aa c.Desks.2++[(iA c.Synced.1),(iA c.Synced.2),(im (c.Told.map ae) false),(bo 8 0 i.length false),(im (c.Spoken.2.map ah) false)])),(iA 0)])=_; first | (simp only[bJ,dg,aK,aO (H:=[w3153,bx (aq d),(tP c i),bx [(iA 0)],(vJ c i d),bl,bx (aq d),bx [(iA j.Bar),(iA j.Program)],az.row false 2 (i.map ah)]) (b:=8) (es:=2) (wr:=false) (l:=i) bS rfl]; done) | (simp only[bJ,dG,aK,aO (H:=[w3153,bx (aq d),(tP c i),bx [(iA 0)],(vJ c i d),bl,bx (aq d),bx [(iA j.Bar),(iA j.Program)],az.row false 2 (i.map ah)]) (b:=8) (es:=2) (wr:=false) (l:=i) bS rfl]; first | done | rfl)))))))))))))))))))
     refine .sp (fun cb=>?_) (fun _=>?_)
     ·exact .st (v:=(pt 4 12)) (by rw[X7 cb]; kernel_rfl) (.s [w3153,bx (aq d),bD,bx [(iA 0)],(vK c i d),bl,bx (aq d),bx [(iA j.Bar),(iA j.Program)],az.row false 2 (i.map ah)] (.cr (.ok (.s (pt 4 0) (.s2 (ag (aa c.Desks.1++aa c.Desks.2++[(iA c.Synced.1),(iA c.Synced.2),(im (c.Told.map ae) false),(im (c.Spoken.1.map ah) false),(bo 8 0 i.length false)])) (.s [w3153,bx (aq d),(tQ c i),bx [(iA 0)],(vK c i d),bl,bx (aq d),bx [(iA j.Bar),(iA j.Program)],az.row false 2 (i.map ah)] (.s [w3153,bx (aq d),(tQ c i),bx [(iA 0)],(vK c i d),bl,bx (aq d),bx [(iA j.Bar),(iA j.Program)],az.row false 2 (i.map ah)] (.cl ((aw dT).trans (nT ..)) (.s (bA true) (.hU (.cr (.ok (.s (bA false) (.kS (.s (ag (aa c.Desks.1++aa c.Desks.2++[(iA c.Synced.1),(iA c.Synced.2),(im (c.Told.map ae) false),(im (c.Spoken.1.map ah) false),(bo 8 0 i.length false)])) (.s (iA 0) (.lv (by show aK [w3153,bx (aq d),(tQ c i),bx [(iA 0)],(vK c i d),bl,bx (aq d),bx [(iA j.Bar),(iA j.Program)],az.row false 2 (i.map ah)] (tp [(ag (aa c.Desks.1++aa c.Desks.2++[(iA c.Synced.1),(iA c.Synced.2),(im (c.Told.map ae) false),(im (c.Spoken.1.map ah) false),(bo 8 0 i.length false)])),(iA 0)])=_; first | (simp only[bJ,dg,aK,aO (H:=[w3153,bx (aq d),(tQ c i),bx [(iA 0)],(vK c i d),bl,bx (aq d),bx [(iA j.Bar),(iA j.Program)],az.row false 2 (i.map ah)]) (b:=8) (es:=2) (wr:=false) (l:=i) bS rfl]; done) | (simp only[bJ,dG,aK,aO (H:=[w3153,bx (aq d),(tQ c i),bx [(iA 0)],(vK c i d),bl,bx (aq d),bx [(iA j.Bar),(iA j.Program)],az.row false 2 (i.map ah)]) (b:=8) (es:=2) (wr:=false) (l:=i) bS rfl]; first | done | rfl)))))))))))))))))))
     exact .nn
    refine .sp (fun cc=>?_) (fun _=>?_)
    ·refine .ds 30 cc j9 (.dC j9 j9 (.cl ((aw Nj).trans (Wh ..)) (.s ((pt 6 0),[w3153,bx (aq d),bD,bx [(iA 0)],bx (aj c++[(iA d.Who)]),bl,bx (aq d)]) (.s (pt 4 0) (.s (pt 4 13) (.s (iA d.Who) (.s (pt 4 0) (.s (pt 4 0) (.s (pt 4 0) (.gd fun hg=>.st (v:=(pt 4 (0+Int.toNat d.Who*4))) (b8 (e:=26) (n:=4) (len:=2) j9 j9 rfl hg) (.a2 (f:=fun (y:af)=>(ag [(iA y.Self),(im (y.Leases.map ae) false),(im (y.Calls.map ah) false),(im (y.Order.map cB) false)])) (fun h=>by rw[h]; kernel_rfl) (fun h=>by rw[h]; kernel_rfl) fun r=>.cT j9 (.s ((pt 7 0),[w3153,bx (aq d),bD,bx [(iA 0)],bx (aj c++[(iA d.Who)]),bl,bx (aq d),bx [(iA 0),XU,XU,XU]]) (.s [w3153,bx (aq d),bD,bx [(iA 0)],bx (aj c++[(iA d.Who)]),bl,bx (aq d),bx (aa r)] (.s2 (iA d.A) (.s (pt 4 0) (.s2 (iA d.Who) (.s (pt 4 0) (.s (pt 4 0) (.s (pt 4 8) (.gd fun hg=>.st (v:=(pt 4 (8+Int.toNat d.Who*1))) (b8 (e:=3) (n:=1) (len:=2) j9 j9 rfl hg) ?_))))))))))))))))))))
     refine .a2 (f:=fun (y:Int)=>(iA y)) (fun h=>by rw[h]; kernel_rfl) (fun h=>by rw[h]; kernel_rfl) fun cd=>.s2 (im (r.Order.map cB) false) (.st (dr (e:=4)) (.bd (a7 d.A cd ((r.Order.length:Int))) fun ce=>.cl ((aw gq).trans (tn ..)) (.s (bA (!ce)) (.bX ?_ ?_))))
     ·exact .s (A.ifc 36 (iA 530)) (.pk (.cr (.gZ (.cr (.gZ (.cl ((aw dT).trans (nT ..)) (.s (bA false) (.kS (.s (tp [(iA 530),(bA true)]) (.s (bA true) (.s (iA 530) (.hU (.cr (.ok (.s (bA true) (.hU (.s b9 (.s [w3153,bx (aq d),bD,bx [(iA 0)],bx (aj c++[(iA d.Who)]),bl,bx (aq d),bx (aa r)] (.s [w3153,bx (aq d),bD,bx [(iA 530)],bx (aj c++[(iA d.Who)]),bl,bx (aq d),bx (aa r)] (.s b9 (.s (iA 530) (.lv r9))))))))))))))))))))))
     refine .cr (.ok (.s (ag (aa r)) (.bd (g:=fun (y:((List (List UInt8))×Int))=>(tp [(im (List.map (cL c8) y.1) false),(iA y.2)])) (by simp only[bJ,dg]; exact ax r) fun a6=>.s (im (List.map (cL c8) a6.1) false) (.s (iA a6.2) (.st (aV ..) (.cl ((aw gq).trans (tn ..)) (.s (bA (!(a6.2==0))) (.bX ?_ ?_))))))))
     ·refine .s (A.ifc 36 (iA a6.2)) (.pk (.cr (.gZ (.cr (.gZ (.cl ((aw dT).trans (nT ..)) (.s (bA false) (.kS (.s (tp [(iA a6.2),(bA true)]) (.s (bA true) (.s (iA a6.2) (.hU (.cr (.ok (.st (bf ..) (.bX ?_ ?_))))))))))))))))
      ·exact .s b9 (.s [w3153,bx (aq d),bD,bx [(iA 0)],bx (aj c++[(iA d.Who)]),bl,bx (aq d),bx (aa r)] (.s [w3153,bx (aq d),bD,bx [(iA a6.2)],bx (aj c++[(iA d.Who)]),bl,bx (aq d),bx (aa r)] (.s b9 (.s (iA a6.2) (.lv r9)))))
      exact .s b9 (.s (iA 0) (.lv r9))
     refine .cr (.ok (.s (pt 4 0) (.s2 (iA d.Who) (.s2 (iA d.A) (.bd (fQ (e:=78) (es:=1) (f:=(cL c8)) (l:=a6.1) (a:=0) (b:=d.A) j9 j9 (fun _=>rfl) (.inl ⟨rfl,rfl⟩) (.inr ⟨_,rfl⟩)) fun cf=>.bd (g:=fun (y:(af×Int))=>(tp [(ag (aa y.1)),(iA y.2)])) (by simp only[bJ,dg]; exact ar d.Who cf) fun u=>.s (ag (aa u.1)) (.s (iA u.2) (.cl ((aw Ca).trans (Pv ..)) (.s ((pt 8 0),[w3153,bx (aq d),bD,bx [(iA 0)],bx (aj c++[(iA d.Who)]),bl,bx (aq d),bx (aa r),bx (aa u.1)]) (.st (aV ..) (.cl ((aw gq).trans (tn ..)) (.s (bA (!(u.2==0))) (.bX ?_ ?_))))))))))))
     ·refine .s (A.ifc 36 (iA u.2)) (.pk (.cr (.gZ (.cr (.gZ (.cr (.gZ (.cl ((aw dT).trans (nT ..)) (.s (bA false) (.kS (.s (tp [(iA u.2),(bA true)]) (.s (bA true) (.s (iA u.2) (.hU (.cr (.ok (.st (bf ..) (.bX ?_ ?_))))))))))))))))))
      ·exact .s b9 (.s [w3153,bx (aq d),bD,bx [(iA 0)],bx (aj c++[(iA d.Who)]),bl,bx (aq d),bx (aa r),bx (aa u.1)] (.s [w3153,bx (aq d),bD,bx [(iA u.2)],bx (aj c++[(iA d.Who)]),bl,bx (aq d),bx (aa r),bx (aa u.1)] (.s b9 (.s (iA u.2) (.lv r9)))))
      exact .s b9 (.s (iA 0) (.lv r9))
     refine .cr (.ok (.s (pt 4 0) (.s2 (iA d.Who) (.s (ag (aa u.1)) (.s (pt 4 0) (.s (pt 4 0) (.s (pt 4 0) (.gd fun hg=>.st (v:=(pt 4 (0+Int.toNat d.Who*4))) (b8 (e:=26) (n:=4) (len:=2) j9 j9 rfl hg) (.a2 (f:=fun (y:af×af)=>[w3153,bx (aq d),bD,bx [(iA 0)],bx (aa y.1++aa y.2++[(iA c.Synced.1),(iA c.Synced.2),(im (c.Told.map ae) false),(im (c.Spoken.1.map ah) false),(im (c.Spoken.2.map ah) false),(iA d.Who)]),bl,bx (aq d),bx (aa r),bx (aa u.1)]) (fun h=>by rw[h]; kernel_rfl) (fun h=>by rw[h]; kernel_rfl) fun a5=>.cr (.ok (.cr (.ok (.s (pt 4 0) (.s2 (ag (aa a5.1++aa a5.2++[(iA c.Synced.1),(iA c.Synced.2),(im (c.Told.map ae) false),(im (c.Spoken.1.map ah) false),(im (c.Spoken.2.map ah) false)])) (.s [w3153,bx (aq d),bx (aa a5.1++aa a5.2++[(iA c.Synced.1),(iA c.Synced.2),(im (c.Told.map ae) false),(im (c.Spoken.1.map ah) false),(im (c.Spoken.2.map ah) false)]),bx [(iA 0)],bx (aa a5.1++aa a5.2++[(iA c.Synced.1),(iA c.Synced.2),(im (c.Told.map ae) false),(im (c.Spoken.1.map ah) false),(im (c.Spoken.2.map ah) false),(iA d.Who)]),bl,bx (aq d),bx (aa r),bx (aa u.1)] (.s [w3153,bx (aq d),bx (aa a5.1++aa a5.2++[(iA c.Synced.1),(iA c.Synced.2),(im (c.Told.map ae) false),(im (c.Spoken.1.map ah) false),(im (c.Spoken.2.map ah) false)]),bx [(iA 0)],bx (aa a5.1++aa a5.2++[(iA c.Synced.1),(iA c.Synced.2),(im (c.Told.map ae) false),(im (c.Spoken.1.map ah) false),(im (c.Spoken.2.map ah) false),(iA d.Who)]),bl,bx (aq d),bx (aa r),bx (aa u.1)] (.cl ((aw dT).trans (nT ..)) (.s (bA true) (.hU (.cr (.ok ?_)))))))))))))))))))))
     exact .s (bA false) (.kS (.s (ag (aa a5.1++aa a5.2++[(iA c.Synced.1),(iA c.Synced.2),(im (c.Told.map ae) false),(im (c.Spoken.1.map ah) false),(im (c.Spoken.2.map ah) false)])) (.s (iA 0) (.lv r9))))
    exact .nn
def G6 (a:aC) (b:bn):Option (aC×Int):=F6 aA a b
def D1 (C:OT):Prop:=∀ (a:aC) (b:bn),C 6 [(ag (aj a)),(ag (aq b))]=(G6 a b).map fun y=>(tp [(ag (aj y.1)),(iA y.2)])
def p6 (n:Nat) (f:Bool) (c:(List bn)) (d:Int) (g:Int) (h:(List al)) (i:(List av)) (j:(List Bool)) (k:Int) (l:(List al)) (o:(List av)) (p:(List Bool)) (q:Int) (r:Int) (s:(List al)) (t:(List av)) (u:(List av)):Nat->Int->aC->Option ((Bool×aC)⊕(aC))
 | 0,_,_=>none
 | m+1,a,b=>bif (decide (a<d)) then ((bt c a).bind fun v=>(G6 b v).bind fun e=>bif (e.2 != 0) then (some ((Sum.inl ((false,b))))) else (p6 n f c d g h i j k l o p q r s t u m (wr .i64 (a+1)) e.1)) else (some ((Sum.inr b)))
theorem Ec (h6:D1 C) (a4:Bool) (z:(List bn)) (a5:Int) (f:Int) (h:(List al)) (i:(List av)) (j:(List Bool)) (k:Int) (l:(List al)) (o:(List av)) (p:(List Bool)) (q:Int) (r:Int) (t:(List al)) (u:(List av)) (w:(List av)) {K:((Bool×aC)⊕(aC))->Option γ} (x0:∀ (a:Bool) (b:aC) (s2:A) (a0:A) (a1:A) (a2:A) (q0:az) (q2:az) (q3:az),J φ (kr (St.mk [(2,s2),(4,(pt 1 0)),(5,(bA a)),(10,a0),(11,a1),(12,a2)] [q0,bx [(iA b.Desks.1.Self),(im (b.Desks.1.Leases.map ae) false),(im (b.Desks.1.Calls.map ah) false),(im (b.Desks.1.Order.map cB) false),(iA b.Desks.2.Self),(im (b.Desks.2.Leases.map ae) false),(im (b.Desks.2.Calls.map ah) false),(im (b.Desks.2.Order.map cB) false),(iA b.Synced.1),(iA b.Synced.2),(im (b.Told.map ae) false),(im (b.Spoken.1.map ah) false),(im (b.Spoken.2.map ah) false)],q2,q3])) kL (K (Sum.inl ((a,b)))) some) (x1:∀ (a:aC) (s5:A) (a0:A) (a1:A) (a2:A),J φ (kx 0 (St.mk [(2,(pt 0 0)),(4,(pt 1 0)),(5,s5),(10,a0),(11,a1),(12,a2)] [bx [(iA a.Desks.1.Self),(im (a.Desks.1.Leases.map ae) false),(im (a.Desks.1.Calls.map ah) false),(im (a.Desks.1.Order.map cB) false),(iA a.Desks.2.Self),(im (a.Desks.2.Leases.map ae) false),(im (a.Desks.2.Calls.map ah) false),(im (a.Desks.2.Order.map cB) false),(iA a.Synced.1),(iA a.Synced.2),(im (a.Told.map ae) false),(im (a.Spoken.1.map ah) false),(im (a.Spoken.2.map ah) false)],(ed f h i j k l o p q r t u w)])) kL (K (Sum.inr a)) some) :
  ∀ (m:Nat) (a3:Int) (c:aC),J φ (aH (cx C) (ec C n 8) (ey C n 8) (n+8) 16 0 0 2 kx kg kr kp m (St.mk [(2,(pt 0 0)),(4,(pt 1 0)),(5,(bA a4)),(10,(im (z.map aq) false)),(11,(iA a5)),(12,(iA a3))] [bx (aj c),(ed f h i j k l o p q r t u w)])) kL (p6 n a4 z a5 f h i j k l o p q r t u w m a3 c) K:=by
  refine nI (fun _ _=>.nn) fun m ih a3 c=>.lp (Mr ..) ?_
  unfold p6
  refine .st (aW ..) (.bX ?_ ?_)
  ·refine .bd (fa (e:=33) (es:=4)) fun x=>.s (ag (aq x)) (.sq (pt 2 0) (.s [bx (aj c),(ed f h i j k l o p q r t u w),bx (aq x)] (.s (ag (aj c)) (.s (ag (aq x)) (.bd (g:=fun (y:(aC×Int))=>(tp [(ag (aj y.1)),(iA y.2)])) (by simp only[bJ,dg]; exact h6 c x) fun d=>.s (ag (aj d.1)) (.s (iA d.2) (.sq (pt 3 0) (.s [bx (aj c),(ed f h i j k l o p q r t u w),bx (aq x),bx (aj d.1)] (.st (bf ..) (.bX ?_ ?_))))))))))
   ·exact .s (ag (aj c)) (.s [bx (aj c),bx (aj c),bx (aq x),bx (aj d.1)] (.ex (x0 _ _ _ _ _ _ _ _ _)))
   refine .s (ag (aj d.1)) (.s [bx (aj d.1),(ed f h i j k l o p q r t u w),bx (aq x),bx (aj d.1)] (.st (aM ..) (.st (v:=[bx (aj d.1),(ed f h i j k l o p q r t u w)]) (eH j9 XK) (.cT ((by kernel_rfl:_=(bif aR 2 (z.map aq) then true else false)).trans so) ?_))))
   exact ih _ _
  exact .ex (x1 _ _ _ _ _)
def QH (n:Nat) (b:aC) (a:(List bn)):Option (aC×Bool):=
 (p6 n false a ((a.length:Int)) 0 ([]) ([]) ([]) 0 ([]) ([]) ([]) 0 0 ([]) ([]) ([]) (n+8) 0 b).bind fun c=>match c with | (Sum.inl ((d,e)))=>some ((e,d)) | (Sum.inr f)=>some ((f,true))
theorem Vb (C:OT) (n:Nat) (d:D1 C) (a:aC) (b:(List bn)):TJ C n 16 [(ag (aj a)),(im (b.map aq) false)] (QH n a b) (fun y=>(tp [(ag (aj y.1)),(bA y.2)])):=by
 refine .lp (V6 ..) ?_
 unfold QH
 refine .s ((pt 0 0),[bx (aj a)]) (.s ((pt 1 0),[bx (aj a),bx [(iA 0),XU,XU,XU,(iA 0),XU,XU,XU,(iA 0),(iA 0),XU,XU,XU]]) (.st (dr (e:=33)) (.as (Ec C n _ _ _ _ d false b ((b.length:Int)) 0 ([]) ([]) ([]) 0 ([]) ([]) ([]) 0 0 ([]) ([]) ([]) ?_ ?_ _ 0 a))))
 ·intro g f h i j k w225 w226 w227
  exact .un rfl (.s (ag (aj f)) (.lv r9))
 ·intro c l o p q
  exact .un rfl (.cT j9 (.s (ag (aj c)) (.s [bx (aj c),bx (aj c)] (.s (ag (aj c)) (.lv r9)))))
def LC (a:aC) (b:(List bn)):Option (aC×Bool):=QH aA a b
def IT (C:OT):Prop:=∀ (a:aC) (b:(List bn)),C 16 [(ag (aj a)),(im (b.map aq) false)]=(LC a b).map fun y=>(tp [(ag (aj y.1)),(bA y.2)])
def lU (n:Nat) (b:(List al)) (e:(List al)):Nat->Int->Option ((Bool)⊕(Unit))
 | 0,_=>none
 | m+1,a=>bif (decide (a<((b.length:Int)))) then ((bt b a).bind fun c=>(bt e a).bind fun d=>bif (!((c.No==d.No)&&((c.Holder==d.Holder)&&(c.Until==d.Until)))) then (some ((Sum.inl false))) else (lU n b e m (wr .i64 (a+1)))) else (some ((Sum.inr (()))))
theorem Ed {w16:A} (h:(List al)) (i:(List al)) {K:((Bool)⊕(Unit))->Option γ} (k:∀ (j:Bool) (c:A) (d:A) (f:A),J φ (kr (St.mk [(0,c),(1,d),(4,(bA j)),(5,f)] [])) kL (K (Sum.inl j)) some) (l:∀ (c:A) (d:A) (o:A) (f:A),J φ (kx 0 (St.mk [(0,c),(1,d),(4,o),(5,f)] [])) kL (K (Sum.inr (()))) some) :
  ∀ (m:Nat) (g:Int),J φ (aH (cx C) (ec C n 8) (ey C n 8) (n+8) 17 0 0 0 kx kg kr kp m (St.mk [(0,(im (h.map ae) false)),(1,(im (i.map ae) false)),(4,w16),(5,(iA g))] [])) kL (lU n h i m g) K:=by
  refine nI (fun _=>.nn) fun m ih g=>.lp (Ms ..) ?_
  unfold lU
  refine .st (dr (e:=50)) (.st (aW ..) (.bX ?_ ?_))
  ·refine .bd (fa (e:=50) (es:=3)) fun a=>.s (ag (ae a)) (.bd (fa (e:=50) (es:=3)) fun b=>.s (ag (ae b)) (.s (bA (!((a.No==b.No)&&((a.Holder==b.Holder)&&(a.Until==b.Until))))) (.bX ?_ ?_)))
   ·exact .ex (k _ _ _ _)
   refine .st (aM ..) (.s [] (.cT j9 ?_))
   exact ih _
  exact .ex (l _ _ _ _)
def OB (n:Nat) (a:(List al)) (b:(List al)):Option Bool:=
 bif (((a.length:Int)) != ((b.length:Int))) then (some false) else ((lU n a b (n+8) 0).bind fun c=>match c with | (Sum.inl d)=>some d | (Sum.inr _)=>some true)
theorem Vc (C:OT) (n:Nat) (a:(List al)) (b:(List al)):TJ C n 17 [(im (a.map ae) false),(im (b.map ae) false)] (OB n a b) (fun y=>(bA y)):=by
 refine .lp (V7 ..) ?_
 unfold OB
 refine .st (dr (e:=50)) (.st (dr (e:=50)) (.st (bf ..) (.bX ?_ ?_)))
 ·exact .lv rfl
 refine .as (Ed C n _ _ _ _ a b ?_ ?_ _ 0)
 ·intro c d f g
  exact .un rfl (.lv rfl)
 ·intro h i j k
  exact .un rfl (.cT j9 (.lv rfl))
def JX (a:(List al)) (b:(List al)):Option Bool:=OB aA a b
def Bu (C:OT):Prop:=∀ (a:(List al)) (b:(List al)),C 17 [(im (a.map ae) false),(im (b.map ae) false)]=(JX a b).map fun y=>(bA y)
def lV (n:Nat) (b:(List av)) (c:(List av)):Nat->Int->Option ((Bool)⊕(Unit))
 | 0,_=>none
 | m+1,a=>bif (decide (a<((b.length:Int)))) then ((bt b a).bind fun d=>(bt c a).bind fun e=>bif (!((d.Bar==e.Bar)&&(d.Program==e.Program))) then (some ((Sum.inl false))) else (lV n b c m (wr .i64 (a+1)))) else (some ((Sum.inr (()))))
theorem Ee {w16:A} (h:(List av)) (i:(List av)) {K:((Bool)⊕(Unit))->Option γ} (k:∀ (j:Bool) (c:A) (d:A) (f:A),J φ (kr (St.mk [(0,c),(1,d),(4,(bA j)),(5,f)] [])) kL (K (Sum.inl j)) some) (l:∀ (c:A) (d:A) (o:A) (f:A),J φ (kx 0 (St.mk [(0,c),(1,d),(4,o),(5,f)] [])) kL (K (Sum.inr (()))) some) :
  ∀ (m:Nat) (g:Int),J φ (aH (cx C) (ec C n 8) (ey C n 8) (n+8) 18 0 0 0 kx kg kr kp m (St.mk [(0,(im (h.map ah) false)),(1,(im (i.map ah) false)),(4,w16),(5,(iA g))] [])) kL (lV n h i m g) K:=by
  refine nI (fun _=>.nn) fun m ih g=>.lp (Mt ..) ?_
  unfold lV
  refine .st (dr (e:=54)) (.st (aW ..) (.bX ?_ ?_))
  ·refine .bd (fa (e:=54) (es:=2)) fun a=>.s (ag [(iA a.Bar),(iA a.Program)]) (.bd (fa (e:=54) (es:=2)) fun b=>.s (ag [(iA b.Bar),(iA b.Program)]) (.s (bA (!((a.Bar==b.Bar)&&(a.Program==b.Program)))) (.bX ?_ ?_)))
   ·exact .ex (k _ _ _ _)
   refine .st (aM ..) (.s [] (.cT j9 ?_))
   exact ih _
  exact .ex (l _ _ _ _)
def OC (n:Nat) (a:(List av)) (b:(List av)):Option Bool:=
 bif (((a.length:Int)) != ((b.length:Int))) then (some false) else ((lV n a b (n+8) 0).bind fun c=>match c with | (Sum.inl d)=>some d | (Sum.inr _)=>some true)
theorem Vd (C:OT) (n:Nat) (a:(List av)) (b:(List av)):TJ C n 18 [(im (a.map ah) false),(im (b.map ah) false)] (OC n a b) (fun y=>(bA y)):=by
 refine .lp (V8 ..) ?_
 unfold OC
 refine .st (dr (e:=54)) (.st (dr (e:=54)) (.st (bf ..) (.bX ?_ ?_)))
 ·exact .lv rfl
 refine .as (Ee C n _ _ _ _ a b ?_ ?_ _ 0)
 ·intro c d f g
  exact .un rfl (.lv rfl)
 ·intro h i j k
  exact .un rfl (.cT j9 (.lv rfl))
def JY (a:(List av)) (b:(List av)):Option Bool:=OC aA a b
def xQ (C:OT):Prop:=∀ (a:(List av)) (b:(List av)),C 18 [(im (a.map ah) false),(im (b.map ah) false)]=(JY a b).map fun y=>(bA y)
def lW (n:Nat) (b:af) (c:af):Nat->Int->Option ((Bool)⊕(Unit))
 | 0,_=>none
 | m+1,a=>bif (decide (a<((b.Order.length:Int)))) then ((bt b.Order a).bind fun d=>(bt c.Order a).bind fun e=>bif (d != e) then (some ((Sum.inl false))) else (lW n b c m (wr .i64 (a+1)))) else (some ((Sum.inr (()))))
theorem Ef {w58:A} (a:af) (b:af) {K:((Bool)⊕(Unit))->Option γ} (j:∀ (g:Bool) (s2:A) (c:A) (d:A) (q0:az) (q1:az),J φ (kr (St.mk [(2,s2),(3,c),(4,(bA g)),(5,d)] [q0,q1])) kL (K (Sum.inl g)) some) (k:∀ (s2:A) (c:A) (l:A) (d:A) (q0:az) (q1:az),J φ (kx 0 (St.mk [(2,s2),(3,c),(4,l),(5,d)] [q0,q1])) kL (K (Sum.inr (()))) some) :
  ∀ (m:Nat) (f:Int),J φ (aH (cx C) (ec C n 8) (ey C n 8) (n+8) 19 0 0 2 kx kg kr kp m (St.mk [(2,(pt 0 0)),(3,(pt 1 0)),(4,w58),(5,(iA f))] [bx (aa a),bx (aa b)])) kL (lW n a b m f) K:=by
  refine nI (fun _=>.nn) fun m ih f=>.lp (Mu ..) ?_
  unfold lW
  refine .s2 (im (a.Order.map cB) false) (.st (dr (e:=4)) (.st (aW ..) (.bX ?_ ?_)))
  ·refine .s2 (im (a.Order.map cB) false) (.bd (fa (e:=4) (es:=1)) fun h=>.s (bA h) (.s2 (im (b.Order.map cB) false) (.bd (fa (e:=4) (es:=1)) fun i=>.s (bA i) (.s (bA (h != i)) (.bX ?_ ?_)))))
   ·exact .ex (j _ _ _ _ _ _)
   refine .st (aM ..) (.s [bx (aa a),bx (aa b)] (.cT j9 ?_))
   exact ih _
  exact .ex (k _ _ _ _ _ _)
def OD (n:Nat) (a:af) (b:af):Option Bool:=
 (bif (a.Self != b.Self) then (some true) else ((JX a.Leases b.Leases).bind fun c=>some (!c))).bind fun d=>(bif d then (some true) else ((JY a.Calls b.Calls).bind fun e=>some (!e))).bind fun f=>(bif f then (some true) else (some (((a.Order.length:Int)) != ((b.Order.length:Int))))).bind fun g=>bif g then (some false) else ((lW n a b (n+8) 0).bind fun h=>match h with | (Sum.inl i)=>some i | (Sum.inr _)=>some true)
theorem Ve (C:OT) (n:Nat) (a4:Bu C) (a5:xQ C) (a:af) (b:af):TJ C n 19 [(ag (aa a)),(ag (aa b))] (OD n a b) (fun y=>(bA y)):=by
 refine .lp (V9 ..) ?_
 unfold OD
 refine .s ((pt 0 0),[bx (aa a)]) (.s ((pt 1 0),[bx (aa a),bx (aa b)]) (.s2 (iA a.Self) (.s2 (iA b.Self) (.st (bf ..) (.bg (fun t (y:Bool)=>∃ c d f h i j:A,t=[(bA y),c,d,f,h,i,j]) ?_ ?_)))))
 ·refine .bi ?_ ?_
  ·exact .lg ⟨_,_,_,_,_,_,rfl⟩
  exact .s (pt 0 1) (.s (im (a.Leases.map ae) false) (.s (pt 1 1) (.s (im (b.Leases.map ae) false) (.bd (g:=fun (y:Bool)=>(bA y)) (by simp only[bJ,dg]; exact a4 a.Leases b.Leases) fun y2=>.s (bA (!y2)) (.lg ⟨_,_,_,_,_,_,rfl⟩)))))
 rintro _ y3 ⟨c,d,f,h,i,j,rfl⟩
 refine .u4 (.uc (.uc (.uc (.bg (fun t (y:Bool)=>∃ k l o p q r:A,t=[(bA y),k,l,o,p,q,r]) ?_ ?_))))
 ·refine .bi ?_ ?_
  ·exact .lg ⟨_,_,_,_,_,_,rfl⟩
  exact .s (pt 0 2) (.s (im (a.Calls.map ah) false) (.s (pt 1 2) (.s (im (b.Calls.map ah) false) (.bd (g:=fun (y:Bool)=>(bA y)) (by simp only[bJ,dg]; exact a5 a.Calls b.Calls) fun a7=>.s (bA (!a7)) (.lg ⟨_,_,_,_,_,_,rfl⟩)))))
 rintro _ a9 ⟨k,l,o,p,q,r,rfl⟩
 refine .u4 (.uc (.uc (.uc (.bg (fun t (y:Bool)=>∃ u v w x z a2 a3:A,t=[(bA y),u,v,w,x,z,a2,a3]) ?_ ?_))))
 ·refine .bi ?_ ?_
  ·exact .lg ⟨_,_,_,_,_,_,_,rfl⟩
  exact .s (pt 0 3) (.s (im (a.Order.map cB) false) (.st (dr (e:=4)) (.s (pt 1 3) (.s (im (b.Order.map cB) false) (.st (dr (e:=4)) (.st (bf ..) (.lg ⟨_,_,_,_,_,_,_,rfl⟩)))))))
 rintro _ ab ⟨u,v,w,x,z,a2,a3,rfl⟩
 refine .u4 (.u4 (.bX ?_ ?_))
 ·exact .lv rfl
 refine .as (Ef C n _ _ _ _ a b ?_ ?_ _ 0)
 ·intro ad ai aj ak w71 w72
  exact .un rfl (.lv rfl)
 ·intro al am an ao w77 w78
  exact .un rfl (.cT j9 (.lv rfl))
def II (a:af) (b:af):Option Bool:=OD aA a b
def Bv (C:OT):Prop:=∀ (a:af) (b:af),C 19 [(ag (aa a)),(ag (aa b))]=(II a b).map fun y=>(bA y)
def F4 (n:Nat)  : Option Bool:=
 (Gy 0 0 10).bind fun c=>(Gy 2 0 5).bind fun i=>(Gy 0 0 0).bind fun j=>(Gy 0 1 5).bind fun f=>(Lg f.1 0 9).bind fun k=>(JV c.1 10 1).bind fun l=>(JW 0 ([])).bind fun o=>(G8 0 10).bind fun d=>(G6 d.1 ((bn.mk 0 0 0 0))).bind fun p=>(bif (c.2 != 0) then (some true) else (some (i.2 != 1))).bind fun q=>(bif q then (some true) else (some (j.2 != 1))).bind fun r=>(bif r then (some true) else (some (f.2 != 0))).bind fun s=>(bif s then (some true) else (some (k.2 != 530))).bind fun t=>(bif t then (some true) else (some (l.2 != 530))).bind fun u=>(bif u then (some true) else (some (o.2 != 530))).bind fun v=>(bif v then (some true) else (some (d.2 != 0))).bind fun w=>(bif w then (some true) else (some (p.2 != 530))).bind fun x=>(bif x then (some true) else ((DE c.1).bind fun y=>some (y != 0))).bind fun z=>(bif z then (some true) else ((DE ((af.mk 0 ([]) ([]) ([])))).bind fun a0=>some (a0 != 530))).bind fun a1=>bif a1 then (some false) else ((LC d.1 ([(bn.mk 3 0 3 2),(bn.mk 3 0 5 1),(bn.mk 1 0 1 20),(bn.mk 4 0 0 0),(bn.mk 5 0 1 0),(bn.mk 6 0 1 0)])).bind fun b=>(G6 b.1 ((bn.mk 3 1 12 1))).bind fun a2=>(LC b.1 ([(bn.mk 2 1 0 0),(bn.mk 3 1 12 4)])).bind fun a=>(G6 a.1 ((bn.mk 6 1 0 0))).bind fun a3=>(LC a.1 ([(bn.mk 7 1 2 0)])).bind fun g=>(bif (!b.2) then (some true) else (some (a2.2 != 530))).bind fun a4=>(bif a4 then (some true) else (some (!a.2))).bind fun a5=>(bif a5 then (some true) else (some (a3.2 != 530))).bind fun a6=>(bif a6 then (some true) else (some (!g.2))).bind fun a7=>bif a7 then (some false) else ((JX b.1.Told ([(al.mk 1 1 20)])).bind fun a8=>(bif (!a8) then (some true) else ((JY b.1.Spoken.1 ([(av.mk 5 1)])).bind fun a9=>some (!a9))).bind fun aa=>(bif aa then (some true) else ((II a.1.Desks.2 ((af.mk 1 ([(al.mk 0 0 10),(al.mk 1 1 20)]) ([(av.mk 12 4)]) ([true,true,false])))).bind fun ab=>some (!ab))).bind fun ad=>bif ad then (some false) else ((Lh a.1.Desks.2).bind fun e=>(JW 1 e.1).bind fun h=>(bif (e.2==0) then (some (h.2==0)) else (some false)).bind fun ae=>(bif ae then (some (((e.1.length:Int))==3)) else (some false)).bind fun ag=>(bif ag then ((II h.1 a.1.Desks.2).bind fun ah=>some ah) else (some false)).bind fun ai=>(bif ai then ((II g.1.Desks.2 ((af.mk 1 ([(al.mk 0 0 10),(al.mk 1 1 20)]) ([]) ([true,true])))).bind fun aj=>some aj) else (some false)).bind fun ak=>some ak)))
theorem T4 (C:OT) (n:Nat) (v:Bt C) (c7:DV C) (c9:DW C) (a2:DX C) (a3:p7 C) (w:IT C) (ca:Bu C) (cb:xQ C) (x:Bv C) (cc:DY C) (z:D1 C) (h8:J6 C):TJ C n 4 [] (F4 n ) (fun y=>(bA y)):=by
 refine .lp (e4 ..) ?_
 unfold F4
 refine .bd (v 0 0 10) fun a=>.s (ag (aa a.1)) (.s (iA a.2) (.sq (pt 0 0) (.s [bx (aa a.1)] (.bd (v 2 0 5) fun d=>.s (ag (aa d.1)) (.s (iA d.2) (.sq (pt 1 0) (.s [bx (aa a.1),bx (aa d.1)] (.bd (v 0 0 0) fun h=>.s (ag (aa h.1)) (.s (iA h.2) (.sq (pt 2 0) (.s [bx (aa a.1),bx (aa d.1),bx (aa h.1)] (.bd (v 0 1 5) fun f=>.s (ag (aa f.1)) (.s (iA f.2) (.sq (pt 3 0) (.s [bx (aa a.1),bx (aa d.1),bx (aa h.1),bx (aa f.1)] (.s (ag (aa f.1)) (.bd (g:=fun (y:(af×Int))=>(tp [(ag (aa y.1)),(iA y.2)])) (by simp only[bJ,dg]; exact c7 f.1 0 9) fun j=>.s (ag (aa j.1)) (.s (iA j.2) ?_))))))))))))))))))
 refine .sq (pt 4 0) (.s [bx (aa a.1),bx (aa d.1),bx (aa h.1),bx (aa f.1),bx (aa j.1)] (.s (ag (aa a.1)) (.bd (g:=fun (y:(af×Int))=>(tp [(ag (aa y.1)),(iA y.2)])) (by simp only[bJ,dg]; exact c9 a.1 10 1) fun k=>.s (ag (aa k.1)) (.s (iA k.2) (.sq (pt 5 0) (.s [bx (aa a.1),bx (aa d.1),bx (aa h.1),bx (aa f.1),bx (aa j.1),bx (aa k.1)] (.bd (g:=fun (y:(af×Int))=>(tp [(ag (aa y.1)),(iA y.2)])) (by simp only[bJ,dg]; exact a2 0 ([])) fun l=>.s (ag (aa l.1)) (.s (iA l.2) (.sq (pt 6 0) (.s [bx (aa a.1),bx (aa d.1),bx (aa h.1),bx (aa f.1),bx (aa j.1),bx (aa k.1),bx (aa l.1)] (.bd (h8 0 10) fun i=>.s (ag (aj i.1)) (.s (iA i.2) (.sq (pt 7 0) (.s [bx (aa a.1),bx (aa d.1),bx (aa h.1),bx (aa f.1),bx (aa j.1),bx (aa k.1),bx (aa l.1),bx (aj i.1)] (.s (ag (aj i.1)) (.s (ag [(iA 0),(iA 0),(iA 0),(iA 0)]) (.bd (g:=fun (y:(aC×Int))=>(tp [(ag (aj y.1)),(iA y.2)])) (by simp only[bJ,dg]; exact z i.1 ((bn.mk 0 0 0 0))) fun o=>.s (ag (aj o.1)) (.s (iA o.2) (.sq (pt 8 0) ?_)))))))))))))))))))
 refine .s [bx (aa a.1),bx (aa d.1),bx (aa h.1),bx (aa f.1),bx (aa j.1),bx (aa k.1),bx (aa l.1),bx (aj i.1),bx (aj o.1)] (.st (bf ..) (.bg (fun t (y:Bool)=>∃ a4 a5:A,t=[(bA y),a4,a5]) ?_ ?_))
 ·refine .bi ?_ ?_
  ·exact .lg ⟨_,_,rfl⟩
  exact .st (bf ..) (.lg ⟨_,_,rfl⟩)
 rintro _ ch ⟨a4,a5,rfl⟩
 refine .uc (.uc (.uc (.bg (fun t (y:Bool)=>∃ a6 a7:A,t=[(bA y),a6,a7]) ?_ ?_)))
 ·refine .bi ?_ ?_
  ·exact .lg ⟨_,_,rfl⟩
  exact .st (bf ..) (.lg ⟨_,_,rfl⟩)
 rintro _ ci ⟨a6,a7,rfl⟩
 refine .uc (.uc (.uc (.bg (fun t (y:Bool)=>∃ a8 a9:A,t=[(bA y),a8,a9]) ?_ ?_)))
 ·refine .bi ?_ ?_
  ·exact .lg ⟨_,_,rfl⟩
  exact .st (bf ..) (.lg ⟨_,_,rfl⟩)
 rintro _ cj ⟨a8,a9,rfl⟩
 refine .uc (.uc (.uc (.bg (fun t (y:Bool)=>∃ ab ad:A,t=[(bA y),ab,ad]) ?_ ?_)))
 ·refine .bi ?_ ?_
  ·exact .lg ⟨_,_,rfl⟩
  exact .st (bf ..) (.lg ⟨_,_,rfl⟩)
 rintro _ ck ⟨ab,ad,rfl⟩
 refine .uc (.uc (.uc (.bg (fun t (y:Bool)=>∃ ai ak:A,t=[(bA y),ai,ak]) ?_ ?_)))
 ·refine .bi ?_ ?_
  ·exact .lg ⟨_,_,rfl⟩
  exact .st (bf ..) (.lg ⟨_,_,rfl⟩)
 rintro _ cl ⟨ai,ak,rfl⟩
 refine .uc (.uc (.uc (.bg (fun t (y:Bool)=>∃ am an:A,t=[(bA y),am,an]) ?_ ?_)))
 ·refine .bi ?_ ?_
  ·exact .lg ⟨_,_,rfl⟩
  exact .st (bf ..) (.lg ⟨_,_,rfl⟩)
 rintro _ cm ⟨am,an,rfl⟩
 refine .uc (.uc (.uc (.bg (fun t (y:Bool)=>∃ ao ap:A,t=[(bA y),ao,ap]) ?_ ?_)))
 ·refine .bi ?_ ?_
  ·exact .lg ⟨_,_,rfl⟩
  exact .st (bf ..) (.lg ⟨_,_,rfl⟩)
 rintro _ cn ⟨ao,ap,rfl⟩
 refine .uc (.uc (.uc (.bg (fun t (y:Bool)=>∃ aq ar:A,t=[(bA y),aq,ar]) ?_ ?_)))
 ·refine .bi ?_ ?_
  ·exact .lg ⟨_,_,rfl⟩
  exact .st (bf ..) (.lg ⟨_,_,rfl⟩)
 rintro _ co ⟨aq,ar,rfl⟩
 refine .uc (.uc (.uc (.bg (fun t (y:Bool)=>∃ au aw ax:A,t=[(bA y),au,aw,ax]) ?_ ?_)))
 ·refine .bi ?_ ?_
  ·exact .lg ⟨_,_,_,rfl⟩
  exact .s (ag (aa a.1)) (.bd (g:=fun (y:Int)=>(iA y)) (by simp only[bJ,dg]; exact a3 a.1) fun cp=>.st (bf ..) (.lg ⟨_,_,_,rfl⟩))
 rintro _ cq ⟨au,aw,ax,rfl⟩
 refine .u4 (.bg (fun t (y:Bool)=>∃ ay az b0:A,t=[(bA y),ay,az,b0]) ?_ ?_)
 ·refine .bi ?_ ?_
  ·exact .lg ⟨_,_,_,rfl⟩
  exact .s (ag [(iA 0),XU,XU,XU]) (.bd (g:=fun (y:Int)=>(iA y)) (by simp only[bJ,dg]; exact a3 ((af.mk 0 ([]) ([]) ([])))) fun cs=>.st (bf ..) (.lg ⟨_,_,_,rfl⟩))
 rintro _ ct ⟨ay,az,b0,rfl⟩
 refine .u4 (.bX ?_ ?_)
 ·exact .lv rfl
 refine .s (ag (aj i.1)) (.s (ag [(iA 3),(iA 0),(iA 3),(iA 2)]) (.s (ag [(iA 3),(iA 0),(iA 5),(iA 1)]) (.s (ag [(iA 1),(iA 0),(iA 1),(iA 20)]) (.s (ag [(iA 4),(iA 0),(iA 0),(iA 0)]) (.s (ag [(iA 5),(iA 0),(iA 1),(iA 0)]) (.s (ag [(iA 6),(iA 0),(iA 1),(iA 0)]) (.s (im [[(iA 3),(iA 0),(iA 3),(iA 2)],[(iA 3),(iA 0),(iA 5),(iA 1)],[(iA 1),(iA 0),(iA 1),(iA 20)],[(iA 4),(iA 0),(iA 0),(iA 0)],[(iA 5),(iA 0),(iA 1),(iA 0)],[(iA 6),(iA 0),(iA 1),(iA 0)]] true) (.bd (g:=fun (y:(aC×Bool))=>(tp [(ag (aj y.1)),(bA y.2)])) (by simp only[bJ,dg]; exact w i.1 ([(bn.mk 3 0 3 2),(bn.mk 3 0 5 1),(bn.mk 1 0 1 20),(bn.mk 4 0 0 0),(bn.mk 5 0 1 0),(bn.mk 6 0 1 0)])) fun b=>.s (ag (aj b.1)) (.s (bA b.2) (.sq (pt 9 0) (.s [bx (aa a.1),bx (aa d.1),bx (aa h.1),bx (aa f.1),bx (aa j.1),bx (aa k.1),bx (aa l.1),bx (aj i.1),bx (aj o.1),bx (aj b.1)] (.s (ag (aj b.1)) (.s (ag [(iA 3),(iA 1),(iA 12),(iA 1)]) (.bd (g:=fun (y:(aC×Int))=>(tp [(ag (aj y.1)),(iA y.2)])) (by simp only[bJ,dg]; exact z b.1 ((bn.mk 3 1 12 1))) fun p=>.s (ag (aj p.1)) (.s (iA p.2) (.sq (pt 10 0) (.s [bx (aa a.1),bx (aa d.1),bx (aa h.1),bx (aa f.1),bx (aa j.1),bx (aa k.1),bx (aa l.1),bx (aj i.1),bx (aj o.1),bx (aj b.1),bx (aj p.1)] (.s (ag (aj b.1)) (.s (ag [(iA 2),(iA 1),(iA 0),(iA 0)]) (.s (ag [(iA 3),(iA 1),(iA 12),(iA 4)]) (.s (im [[(iA 2),(iA 1),(iA 0),(iA 0)],[(iA 3),(iA 1),(iA 12),(iA 4)]] true) ?_)))))))))))))))))))))
 refine .bd (g:=fun (y:(aC×Bool))=>(tp [(ag (aj y.1)),(bA y.2)])) (by simp only[bJ,dg]; exact w b.1 ([(bn.mk 2 1 0 0),(bn.mk 3 1 12 4)])) fun c=>.s (ag (aj c.1)) (.s (bA c.2) (.sq (pt 11 0) (.s [bx (aa a.1),bx (aa d.1),bx (aa h.1),bx (aa f.1),bx (aa j.1),bx (aa k.1),bx (aa l.1),bx (aj i.1),bx (aj o.1),bx (aj b.1),bx (aj p.1),bx (aj c.1)] (.s (ag (aj c.1)) (.s (ag [(iA 6),(iA 1),(iA 0),(iA 0)]) (.bd (g:=fun (y:(aC×Int))=>(tp [(ag (aj y.1)),(iA y.2)])) (by simp only[bJ,dg]; exact z c.1 ((bn.mk 6 1 0 0))) fun r=>.s (ag (aj r.1)) (.s (iA r.2) (.sq (pt 12 0) (.s [bx (aa a.1),bx (aa d.1),bx (aa h.1),bx (aa f.1),bx (aa j.1),bx (aa k.1),bx (aa l.1),bx (aj i.1),bx (aj o.1),bx (aj b.1),bx (aj p.1),bx (aj c.1),bx (aj r.1)] (.s (ag (aj c.1)) (.s (ag [(iA 7),(iA 1),(iA 2),(iA 0)]) (.s (im [[(iA 7),(iA 1),(iA 2),(iA 0)]] true) (.bd (g:=fun (y:(aC×Bool))=>(tp [(ag (aj y.1)),(bA y.2)])) (by simp only[bJ,dg]; exact w c.1 ([(bn.mk 7 1 2 0)])) fun q=>.s (ag (aj q.1)) (.s (bA q.2) (.sq (pt 13 0) (.s [bx (aa a.1),bx (aa d.1),bx (aa h.1),bx (aa f.1),bx (aa j.1),bx (aa k.1),bx (aa l.1),bx (aj i.1),bx (aj o.1),bx (aj b.1),bx (aj p.1),bx (aj c.1),bx (aj r.1),bx (aj q.1)] (.s (bA (!b.2)) (.bg (fun t (y:Bool)=>∃ b1 b2:A,t=[(bA y),b1,b2]) ?_ ?_))))))))))))))))))
 ·refine .bi ?_ ?_
  ·exact .lg ⟨_,_,rfl⟩
  exact .st (bf ..) (.lg ⟨_,_,rfl⟩)
 rintro _ cu ⟨b1,b2,rfl⟩
 refine .uc (.uc (.uc (.bg (fun t (y:Bool)=>∃ b3 b4:A,t=[(bA y),b3,b4]) ?_ ?_)))
 ·refine .bi ?_ ?_
  ·exact .lg ⟨_,_,rfl⟩
  exact .s (bA (!c.2)) (.lg ⟨_,_,rfl⟩)
 rintro _ cv ⟨b3,b4,rfl⟩
 refine .uc (.uc (.uc (.bg (fun t (y:Bool)=>∃ b5 b6:A,t=[(bA y),b5,b6]) ?_ ?_)))
 ·refine .bi ?_ ?_
  ·exact .lg ⟨_,_,rfl⟩
  exact .st (bf ..) (.lg ⟨_,_,rfl⟩)
 rintro _ cw ⟨b5,b6,rfl⟩
 refine .uc (.uc (.uc (.bg (fun t (y:Bool)=>∃ b7 b8:A,t=[(bA y),b7,b8]) ?_ ?_)))
 ·refine .bi ?_ ?_
  ·exact .lg ⟨_,_,rfl⟩
  exact .s (bA (!q.2)) (.lg ⟨_,_,rfl⟩)
 rintro _ cx ⟨b7,b8,rfl⟩
 refine .uc (.uc (.uc (.bX ?_ ?_)))
 ·exact .lv rfl
 refine .s (ag [(iA 0),(iA 0),(iA 10)]) (.s (ag [(iA 1),(iA 1),(iA 20)]) (.s (im [[(iA 0),(iA 0),(iA 10)],[(iA 1),(iA 1),(iA 20)]] true) (.s2 (im (b.1.Told.map ae) false) (.s (im [[(iA 1),(iA 1),(iA 20)]] true) (.bd (g:=fun (y:Bool)=>(bA y)) (by simp only[bJ,dg]; exact ca b.1.Told ([(al.mk 1 1 20)])) fun ce=>.s (bA (!ce)) (.bg (fun t (y:Bool)=>∃ b9 ba bc be bh bj bk:A,t=[(bA y),b9,ba,bc,be,bh,bj,bk]) ?_ ?_))))))
 ·refine .bi ?_ ?_
  ·exact .lg ⟨_,_,_,_,_,_,_,rfl⟩
  exact .s (pt 9 11) (.s (pt 9 11) (.s (im (b.1.Spoken.1.map ah) false) (.s (ag [(iA 5),(iA 1)]) (.s (im [[(iA 5),(iA 1)]] true) (.bd (g:=fun (y:Bool)=>(bA y)) (by simp only[bJ,dg]; exact cb b.1.Spoken.1 ([(av.mk 5 1)])) fun cf=>.s (bA (!cf)) (.lg ⟨_,_,_,_,_,_,_,rfl⟩))))))
 rintro _ cy ⟨b9,ba,bc,be,bh,bj,bk,rfl⟩
 refine .u4 (.u4 (.PF (.bg (fun t (y:Bool)=>∃ bl bm:A,t=[(bA y),bl,bm]) ?_ ?_)))
 ·refine .E9 (fun a0=>?_) (fun a0=>?_)
  ·exact .bb (.s (pt 11 0) (.s (pt 11 4) (.s (ag (aa c.1.Desks.2)) (.s (ag [(iA 12),(iA 4)]) (.s (im [[(iA 12),(iA 4)]] true) (.s (im [[(bA true)],[(bA true)],[(bA false)]] true) (.s (ag [(iA 1),(im [[(iA 0),(iA 0),(iA 10)],[(iA 1),(iA 1),(iA 20)]] true),(im [[(iA 12),(iA 4)]] true),(im [[(bA true)],[(bA true)],[(bA false)]] true)]) (.cr (.u4 (.u4 (.q9 a0 (.bd (g:=fun (y:Bool)=>(bA y)) (by simp only[bJ,dg]; exact x c.1.Desks.2 ((af.mk 1 ([(al.mk 0 0 10),(al.mk 1 1 20)]) ([(av.mk 12 4)]) ([true,true,false])))) fun cg=>.s (bA (!cg)) (.lg ⟨_,_,rfl⟩)))))))))))))
  exact .bb (.cr (.u4 (.u4 (.ra a0 (.lg ⟨_,_,rfl⟩)))))
 rintro _ cz ⟨bl,bm,rfl⟩
 refine .uc (.uc (.uc (.bX ?_ ?_)))
 ·exact .lv rfl
 refine .s (pt 11 0) (.s (pt 11 4) (.s (ag (aa c.1.Desks.2)) (.bd (g:=fun (y:((List (List UInt8))×Int))=>(tp [(im (List.map (cL c8) y.1) false),(iA y.2)])) (by simp only[bJ,dg]; exact cc c.1.Desks.2) fun a1=>.s (im (List.map (cL c8) a1.1) false) (.s (iA a1.2) (.bd (g:=fun (y:(af×Int))=>(tp [(ag (aa y.1)),(iA y.2)])) (by simp only[bJ,dg]; exact a2 1 a1.1) fun u=>.s (ag (aa u.1)) (.s (iA u.2) (.sq (pt 14 0) (.s [bx (aa a.1),bx (aa d.1),bx (aa h.1),bx (aa f.1),bx (aa j.1),bx (aa k.1),bx (aa l.1),bx (aj i.1),bx (aj o.1),bx (aj b.1),bx (aj p.1),bx (aj c.1),bx (aj r.1),bx (aj q.1),bx (aa u.1)] (.st (aV ..) (.bg (fun t (y:Bool)=>∃ bo bp:A,t=[(bA y),bo,bp]) ?_ ?_))))))))))
 ·refine .bi ?_ ?_
  ·exact .st (aV ..) (.lg ⟨_,_,rfl⟩)
  exact .lg ⟨_,_,rfl⟩
 rintro _ d0 ⟨bo,bp,rfl⟩
 refine .uc (.uc (.uc (.bg (fun t (y:Bool)=>∃ bq br bs:A,t=[(bA y),bq,br,bs]) ?_ ?_)))
 ·refine .bi ?_ ?_
  ·exact .st (dr (e:=78)) (.st (aV ..) (.lg ⟨_,_,_,rfl⟩))
  exact .lg ⟨_,_,_,rfl⟩
 rintro _ d1 ⟨bq,br,bs,rfl⟩
 refine .u4 (.bg (fun t (y:Bool)=>∃ bt bu bv bw bz:A,t=[(bA y),bt,bu,bv,bw,bz]) ?_ ?_)
 ·refine .bi ?_ ?_
  ·exact .s (ag (aa u.1)) (.s (pt 11 0) (.s (pt 11 4) (.s (ag (aa c.1.Desks.2)) (.bd (g:=fun (y:Bool)=>(bA y)) (by simp only[bJ,dg]; exact x u.1 c.1.Desks.2) fun d2=>.lg ⟨_,_,_,_,_,rfl⟩))))
  exact .lg ⟨_,_,_,_,_,rfl⟩
 rintro _ d3 ⟨bt,bu,bv,bw,bz,rfl⟩
 refine .u4 (.uc (.uc (.bg (fun t (y:Bool)=>∃ c0 c1 c2 c3 c4 c5 c6:A,t=[(bA y),c0,c1,c2,c3,c4,c5,c6]) ?_ ?_)))
 ·refine .bi ?_ ?_
  ·exact .s (pt 13 0) (.s (pt 13 4) (.s (ag (aa q.1.Desks.2)) (.s (im [[(bA true)],[(bA true)]] true) (.s (ag [(iA 1),(im [[(iA 0),(iA 0),(iA 10)],[(iA 1),(iA 1),(iA 20)]] true),XU,(im [[(bA true)],[(bA true)]] true)]) (.bd (g:=fun (y:Bool)=>(bA y)) (by simp only[bJ,dg]; exact x q.1.Desks.2 ((af.mk 1 ([(al.mk 0 0 10),(al.mk 1 1 20)]) ([]) ([true,true])))) fun d4=>.lg ⟨_,_,_,_,_,_,_,rfl⟩)))))
  exact .lg ⟨_,_,_,_,_,_,_,rfl⟩
 rintro _ d5 ⟨c0,c1,c2,c3,c4,c5,c6,rfl⟩
 exact .u4 (.u4 (.lv rfl))
def G4  : Option Bool:=F4 aA
def L3 (C:OT):Prop:=∀ (_:Unit),C 4 []=(G4 ).map fun y=>(bA y)
end Go.Proofs.YtdmgdjnadbakfaaGreat
