/-
 The program's functions as plain functions: by a tool; each follows the interpreter.
-/
import Derived.Test.YtdmgdjnadbakfaaT2
import Derived.KernelRfl
namespace Go.Proofs.Ytdmgdjnadbakfaa
open Go.Proofs.Try (prog)
set_option linter.unusedVariables false
set_option linter.unusedSimpArgs false
set_option maxHeartbeats 4000000
set_option maxRecDepth 100000
variable (C:Nat->List A->Option A) (n:Nat) {ρ γ:Type} {φ:ρ->γ->Prop} {kL:R->Option ρ} (kx kg:Nat->St->Option R) (kr:St->Option R) (kp:A->St->Option R)
def bk:aD:=bx [(iA 0),(im [] true),(im [] true),(im [] true),(iA 0),(im [] true),(im [] true),(im [] true),(iA 0),(iA 0),(im [] true),(im [] true),(im [] true)]
def cQ (d:Int) (p:(List ak)) (q:(List av)) (u:(List Bool)) (y:Int) (ab:(List ak)) (ad:(List av)) (an:(List Bool)) (ao:Int) (bm:Int) (bs:(List ak)) (ca:(List av)) (cc:(List av)):aD:=bx [(iA d),(im (p.map ae) true),(im (q.map af) true),(im (u.map cB) true),(iA y),(im (ab.map ae) true),(im (ad.map af) true),(im (an.map cB) true),(iA ao),(iA bm),(im (bs.map ae) true),(im (ca.map af) true),(im (cc.map af) true)]
def pV (a0:aE) (d:(List ak)) (a1:bj):aD:=bx (aa a0.Desks.1++aa a0.Desks.2++[(iA a0.Synced.1),(iA a0.Synced.2),(cH 8 0 d.length false),(im (a0.Spoken.1.map af) false),(im (a0.Spoken.2.map af) false),(iA a1.Who)])
def pW (a0:aE) (d:(List av)) (a1:bj):aD:=bx (aa a0.Desks.1++aa a0.Desks.2++[(iA a0.Synced.1),(iA a0.Synced.2),(im (a0.Told.map ae) false),(cH 8 0 d.length false),(im (a0.Spoken.2.map af) false),(iA a1.Who)])
def pX (a0:aE) (d:(List av)) (a1:bj):aD:=bx (aa a0.Desks.1++aa a0.Desks.2++[(iA a0.Synced.1),(iA a0.Synced.2),(im (a0.Told.map ae) false),(im (a0.Spoken.1.map af) false),(cH 8 0 d.length false),(iA a1.Who)])
def rO (a0:aE) (d:(List ak)):aD:=bx (aa a0.Desks.1++aa a0.Desks.2++[(iA a0.Synced.1),(iA a0.Synced.2),(cH 8 0 d.length false),(im (a0.Spoken.1.map af) false),(im (a0.Spoken.2.map af) false)])
def pg (a0:aE) (d:(List av)):aD:=bx (aa a0.Desks.1++aa a0.Desks.2++[(iA a0.Synced.1),(iA a0.Synced.2),(im (a0.Told.map ae) false),(cH 8 0 d.length false),(im (a0.Spoken.2.map af) false)])
def ph (a0:aE) (d:(List av)):aD:=bx (aa a0.Desks.1++aa a0.Desks.2++[(iA a0.Synced.1),(iA a0.Synced.2),(im (a0.Told.map ae) false),(im (a0.Spoken.1.map af) false),(cH 8 0 d.length false)])
def aM:aD:=aD.mp .i64 [1,2,3,4,5,6,7] [(fk 39 [] []),(fk 40 [] []),(fk 41 [] []),(fk 42 [] []),(fk 43 [] []),(fk 44 [] []),(fk 45 [] [])]
abbrev aV:A:=(ag [(iA 0),(im [] true),(im [] true),(im [] true),(iA 0),(im [] true),(im [] true),(im [] true),(iA 0),(iA 0),(im [] true),(im [] true),(im [] true)])
def fq (n:Nat) (p:ah) (q:ah) (ab:aE) (ad:bj) (an:Int) (ao:(List ak)) (bm:(List av)) (bs:(List Bool)) (ca:Int) (cc:(List ak)) (ch:(List av)) (ck:(List Bool)) (cm:Int) (cn:Int) (cv:(List ak)) (cy:(List av)) (dd:(List av)) (ea:Int) (y:aE) (eg:Int):Nat->Int->Option ((Unit)⊕(Unit))
 | 0,_=>none
 | m+1,d=>bif (decide (d<2)) then ((bif decide (d=0) then (some ((p.Self,p.Leases,p.Calls,p.Order))) else bif decide (d=1) then (some ((q.Self,q.Leases,q.Calls,q.Order))) else none).bind fun u=>(AB ((ah.mk u.1 u.2.1 u.2.2.1 u.2.2.2))).bind fun ej=>(bif (ej==0) then (some (u.1==d)) else (some false)).bind fun en=>bif en then (bif (decide (0<=d)&&decide (d<2)) then ((jQ d y.Synced.1 y.Synced.2).bind fun fs=>((vR fs 1 ((u.2.2.2.length:Int))).bind fun fv=>some fv).bind fun ha=>bif (!ha) then (some ((Sum.inl (())))) else (fq n p q ab ad an ao bm bs ca cc ch ck cm cn cv cy dd ea y eg m (wr .i64 (d+1)))) else none) else ((some false).bind fun hf=>bif (!hf) then (some ((Sum.inl (())))) else (fq n p q ab ad an ao bm bs ca cc ch ck cm cn cv cy dd ea y eg m (wr .i64 (d+1))))) else (some ((Sum.inr (()))))
theorem BG (hp:mq C) (hq:qM C) (p:ah) (q:ah) (cy:aE) (dd:bj) (u:Int) (ab:(List ak)) (ad:(List av)) (an:(List Bool)) (ao:Int) (bm:(List ak)) (bs:(List av)) (ca:(List Bool)) (cc:Int) (ch:Int) (ck:(List ak)) (cm:(List av)) (cn:(List av)) (cv:Int) (ea:aE) (eg:Int) {K:((Unit)⊕(Unit))->Option γ} (x0:∀ (s0:A) (en:A) (fs:A) (q0:aD) (q1:aD) (q4:aD) (q5:aD),J φ (kp (A.ifc 31 (iA 530)) (St.mk [(0,s0),(13,en),(14,fs)] [q0,q1,(cQ u ab ad an ao bm bs ca cc ch ck cm cn),bx [(iA cv)],q4,q5])) kL (K (Sum.inl (()))) some) (x1:∀ (en:A) (fs:A),J φ (kx 0 (St.mk [(0,(pt 4 0)),(13,en),(14,fs)] [bx (ai cy),bx (al dd),(cQ u ab ad an ao bm bs ca cc ch ck cm cn),bx [(iA cv)],bx (ai ea++[(iA eg)])])) kL (K (Sum.inr (()))) some) :
  ∀ (m:Nat) (ej:Int),J φ (aK (cx C) (ec C n 7) (ey C n 7) (n+7) 38 0 0 5 kx kg kr kp m (St.mk [(0,(pt 4 0)),(13,(ag (aa p++aa q))),(14,(iA ej))] [bx (ai cy),bx (al dd),(cQ u ab ad an ao bm bs ca cc ch ck cm cn),bx [(iA cv)],bx (ai ea++[(iA eg)])])) kL (fq n p q cy dd u ab ad an ao bm bs ca cc ch ck cm cn cv ea eg m ej) K:=by
 intro m
 induction m with
 | zero=>intros; exact .nn
 | succ m ih =>
  intro ej
  refine .lp (Ip ..) ?_
  unfold fq
  refine .st (aW ..) (.aY (fun ht=>?_) (fun ht=>?_))
  ·refine .bg (fun t (y:Int×(List ak)×(List av)×(List Bool))=>t=(ag [(iA y.1),(im (y.2.1.map ae) false),(im (y.2.2.1.map af) false),(im (y.2.2.2.map cB) false)])) ?_ ?_
   ·refine .sp (fun hv=>?_) (fun _=>?_)
    ·exact .lp (by rw[of_decide_eq_true hv]; kernel_rfl:_=some (ag (aa p))) (.lg rfl)
    refine .sp (fun hx=>?_) (fun _=>?_)
    ·exact .lp (by rw[of_decide_eq_true hx]; kernel_rfl:_=some (ag (aa q))) (.lg rfl)
    exact .nn
   rintro _ d rfl
   refine .sq (pt 5 0) (.s [bx (ai cy),bx (al dd),(cQ u ab ad an ao bm bs ca cc ch ck cm cn),bx [(iA cv)],bx (ai ea++[(iA eg)]),bx [(iA d.1),(im (d.2.1.map ae) false),(im (d.2.2.1.map af) false),(im (d.2.2.2.map cB) false)]] (.s (ag [(iA d.1),(im (d.2.1.map ae) false),(im (d.2.2.1.map af) false),(im (d.2.2.2.map cB) false)]) (.bd (g:=fun (y:Int)=>(iA y)) (by show C 20 [snap _ (ag [(iA d.1),(im (d.2.1.map ae) false),(im (d.2.2.1.map af) false),(im (d.2.2.2.map cB) false)])]=_; simp only[cF,eA]; exact hp ((ah.mk d.1 d.2.1 d.2.2.1 d.2.2.2))) fun kn=>.st (bC ..) (.bg (fun t (y:Bool)=>∃ hf hh hi hj:A,t=[(bA y),hf,hh,hi,hj]) ?_ ?_))))
   ·refine .eQ (fun hy=>?_) (fun hy=>?_)
    ·exact .s (pt 5 0) (.s (iA d.1) (.st (bC ..) (.lg ⟨_,_,_,_,rfl⟩)))
    exact .lg ⟨_,_,_,_,rfl⟩
   rintro _ ko ⟨hf,hh,hi,hj,rfl⟩
   refine .u4 (.uc (.CD (fun fv=>?_) (fun fv=>?_)))
   ·refine .bb (.s (pt 4 0) (.s (pt 4 0) (.s (pt 4 8) (.gd fun hg=>.st (v:=(pt 4 (8+Int.toNat ej*1))) (bN (e:=3) (n:=1) (len:=2) (by kernel_rfl) (by kernel_rfl) rfl hg) (.a2 (f:=fun (y:Int)=>(iA y)) (fun h=>by rw[h]; kernel_rfl) (fun h=>by rw[h]; kernel_rfl) fun ie=>.s (pt 5 3) (.s (im (d.2.2.2.map cB) false) (.st (eb (e:=4)) (.cr (.u4 (.u4 (.uc (.uc (.bg (fun t (y:Bool)=>∃ hk:A,t=[(bA y),hk]) ?_ ?_)))))))))))))
    ·exact .vS fv (.bd (hq ie 1 ((d.2.2.2.length:Int))) fun kt=>.lg ⟨_,rfl⟩)
    rintro _ ik ⟨hk,rfl⟩
    refine .uc (.uc (.cl ((au eN).trans (pE C (aO (cx C) (n+6)) (aA (cx C) (n+6)) (n+6) _ _ _ _)) (.s (bA (!ik)) (.aY (fun js=>?_) (fun js=>?_)))))
    ·exact .s (A.ifc 31 (iA 530)) (.pk (.cr (.fP (.ex (x0 _ _ _ _ _ _ _)))))
    refine .cr (.ok (.st (aP ..) (.st (v:=[bx (ai cy),bx (al dd),(cQ u ab ad an ao bm bs ca cc ch ck cm cn),bx [(iA cv)],bx (ai ea++[(iA eg)])]) (dy (by kernel_rfl) (by simp only[uB,eF,eG,Nat.reduceLT,decide_true,cQ])) (.cT ((by kernel_rfl:_=(bif ((aG 5 (p.Leases.map ae))&&((aG 5 (p.Calls.map af))&&((aG 5 (p.Order.map cB))&&((aG 5 (q.Leases.map ae))&&((aG 5 (q.Calls.map af))&&((aG 5 (q.Order.map cB))&&true)))))) then true else false)).trans (by simp only[eF,eG])) ?_))))
    exact ih _
   refine .bb (.cr (.u4 (.u4 (.uc (.uc (.bg (fun t (y:Bool)=>∃ ho:A,t=[(bA y),ho]) ?_ ?_))))))
   ·exact .wj fv (.lg ⟨_,rfl⟩)
   rintro _ kc ⟨ho,rfl⟩
   refine .uc (.uc (.cl ((au eN).trans (pE C (aO (cx C) (n+6)) (aA (cx C) (n+6)) (n+6) _ _ _ _)) (.s (bA (!kc)) (.aY (fun kk=>?_) (fun kk=>?_)))))
   ·exact .s (A.ifc 31 (iA 530)) (.pk (.cr (.fP (.ex (x0 _ _ _ _ _ _ _)))))
   refine .cr (.ok (.st (aP ..) (.st (v:=[bx (ai cy),bx (al dd),(cQ u ab ad an ao bm bs ca cc ch ck cm cn),bx [(iA cv)],bx (ai ea++[(iA eg)])]) (dy (by kernel_rfl) (by simp only[uB,eF,eG,Nat.reduceLT,decide_true,cQ])) (.cT ((by kernel_rfl:_=(bif ((aG 5 (p.Leases.map ae))&&((aG 5 (p.Calls.map af))&&((aG 5 (p.Order.map cB))&&((aG 5 (q.Leases.map ae))&&((aG 5 (q.Calls.map af))&&((aG 5 (q.Order.map cB))&&true)))))) then true else false)).trans (by simp only[eF,eG])) ?_))))
   exact ih _
  exact .ex (x1 _ _)
def ir (n:Nat) (p:Int) (ad:Int) (q:(List av)) (u:Int) (an:aE) (ao:bj) (bm:Int) (bs:(List ak)) (ca:(List av)) (cc:(List Bool)) (ch:Int) (ck:(List ak)) (cm:(List av)) (cn:(List Bool)) (cv:Int) (cy:Int) (dd:(List ak)) (ea:(List av)) (eg:(List av)) (ej:Int) (y:aE) (ab:Int):Nat->Int->Option ((Unit)⊕(Unit))
 | 0,_=>none
 | m+1,d=>bif (decide (d<u)) then ((bX q d).bind fun en=>(lH ((aC.mk y ab)) p en).bind fun fs=>bif (!fs) then (some ((Sum.inl (())))) else (ir n p ad q u an ao bm bs ca cc ch ck cm cn cv cy dd ea eg ej y ab m (wr .i64 (d+1)))) else (some ((Sum.inr (()))))
theorem BI (h69_85:oH C) (eg:Int) (ea:Int) (ej:(List av)) (hg:Int) (cy:aE) (dd:bj) (u:Int) (ab:(List ak)) (ad:(List av)) (an:(List Bool)) (ao:Int) (bm:(List ak)) (bs:(List av)) (ca:(List Bool)) (cc:Int) (ch:Int) (ck:(List ak)) (cm:(List av)) (cn:(List av)) (cv:Int) (p:aE) (q:Int) {K:((Unit)⊕(Unit))->Option γ} (x0:∀ (s4:A) (fs:A) (fv:A) (ha:A) (q0:aD) (q1:aD) (q4:aD) (q5:aD) (q6:aD),J φ (kp (A.ifc 31 (iA 530)) (St.mk [(0,(pt 4 0)),(4,s4),(42,(iA ea)),(51,fs),(52,fv),(53,ha)] [q0,q1,(cQ u ab ad an ao bm bs ca cc ch ck cm cn),bx [(iA cv)],q4,q5,q6])) kL (K (Sum.inl (()))) some) (x1:∀ (s4:A) (fs:A) (fv:A) (ha:A),J φ (kx 4 (St.mk [(0,(pt 4 0)),(4,s4),(42,(iA ea)),(51,fs),(52,fv),(53,ha)] [bx (ai cy),bx (al dd),(cQ u ab ad an ao bm bs ca cc ch ck cm cn),bx [(iA cv)],bx (ai p++[(iA q)])])) kL (K (Sum.inr (()))) some) :
  ∀ (m:Nat) (hf:Int),J φ (aK (cx C) (ec C n 7) (ey C n 7) (n+7) 38 0 2 5 kx kg kr kp m (St.mk [(0,(pt 4 0)),(4,(iA eg)),(42,(iA ea)),(51,(im (ej.map af) false)),(52,(iA hg)),(53,(iA hf))] [bx (ai cy),bx (al dd),(cQ u ab ad an ao bm bs ca cc ch ck cm cn),bx [(iA cv)],bx (ai p++[(iA q)])])) kL (ir n eg ea ej hg cy dd u ab ad an ao bm bs ca cc ch ck cm cn cv p q m hf) K:=by
 intro m
 induction m with
 | zero=>intros; exact .nn
 | succ m ih =>
  intro hf
  refine .lp (Ir ..) ?_
  unfold ir
  refine .st (aW ..) (.aY (fun hj=>?_) (fun hj=>?_))
  ·refine .bd (iT (e:=62) (es:=2)) fun d=>.s (ag [(iA d.Bar),(iA d.Program)]) (.sq (pt 5 0) (.sh (.s (ag [(iA d.Bar),(iA d.Program)]) (.cl ((au FJ).trans (MU C (aO (cx C) (n+6)) (aA (cx C) (n+6)) (n+6) _ _ _)) (.s ((pt 6 0),[bx (ai cy),bx (al dd),(cQ u ab ad an ao bm bs ca cc ch ck cm cn),bx [(iA cv)],bx (ai p++[(iA q)]),bx [(iA d.Bar),(iA d.Program)],bx [(iA d.Bar),(iA d.Program)]]) (.cr (.ok (.dp (f:=fun (y:Bool)=>(bA y)) (fun _=>rfl) (oW xf (by kernel_rfl) (by kernel_rfl) (jF (fj cP eo ((aC.mk p q):aC) rfl rfl) (jF rfl (jF (lB (fj cR uk (d:av) rfl rfl)) rfl))) (h69_85 ((aC.mk p q)) eg d)) fun hk=>.ok (.cl ((au eN).trans (pE C (aO (cx C) (n+6)) (aA (cx C) (n+6)) (n+6) _ _ _ _)) (.s (bA (!hk)) (.aY (fun ho=>?_) (fun ho=>?_))))))))))))
   ·exact .s (A.ifc 31 (iA 530)) (.pk (.cr (.fP (.ex (x0 _ _ _ _ _ _ _ _ _)))))
   refine .cr (.ok (.st (aP ..) (.st (v:=[bx (ai cy),bx (al dd),(cQ u ab ad an ao bm bs ca cc ch ck cm cn),bx [(iA cv)],bx (ai p++[(iA q)])]) (dy (by kernel_rfl) (by simp only[uB,eF,eG,Nat.reduceLT,decide_true,cQ])) (.cT ((by kernel_rfl:_=(bif aG 5 (ej.map af) then true else false)).trans (by simp only[eF,eG])) ?_))))
   exact ih _
  exact .ex (x1 _ _ _ _)
def fR (n:Nat) (q:aE) (u:bj) (y:Int) (ab:(List ak)) (ad:(List av)) (an:(List Bool)) (ao:Int) (bm:(List ak)) (bs:(List av)) (ca:(List Bool)) (cc:Int) (ch:Int) (ck:(List ak)) (cm:(List av)) (cn:(List av)) (cv:Int) (p:aE) (cy:Int):Nat->Int->Option ((Unit)⊕(Unit))
 | 0,_=>none
 | m+1,d=>bif (decide (d<2)) then (bif (decide (0<=d)&&decide (d<2)) then ((jQ d p.Spoken.1 p.Spoken.2).bind fun dd=>(ir n d d dd ((dd.length:Int)) q u y ab ad an ao bm bs ca cc ch ck cm cn cv p cy (n+7) 0).bind fun ea=>match ea with | (Sum.inl _)=>some ((Sum.inl (()))) | (Sum.inr _)=>fR n q u y ab ad an ao bm bs ca cc ch ck cm cn cv p cy m (wr .i64 (d+1))) else none) else (some ((Sum.inr (()))))
theorem BH (h69_85:oH C) (cn:aE) (cv:bj) (d:Int) (p:(List ak)) (q:(List av)) (u:(List Bool)) (ab:Int) (ad:(List ak)) (an:(List av)) (ao:(List Bool)) (bm:Int) (bs:Int) (ca:(List ak)) (cc:(List av)) (ch:(List av)) (ck:Int) (cy:aE) (dd:Int) {K:((Unit)⊕(Unit))->Option γ} (x0:∀ (s0:A) (ea:A) (q0:aD) (q1:aD) (q4:aD) (q5:aD) (q6:aD),J φ (kp (A.ifc 31 (iA 530)) (St.mk [(0,s0),(42,ea)] [q0,q1,(cQ d p q u ab ad an ao bm bs ca cc ch),bx [(iA ck)],q4,q5,q6])) kL (K (Sum.inl (()))) some) (x1:∀ (ea:A),J φ (kx 2 (St.mk [(0,(pt 4 0)),(42,ea)] [bx (ai cn),bx (al cv),(cQ d p q u ab ad an ao bm bs ca cc ch),bx [(iA ck)],bx (ai cy++[(iA dd)])])) kL (K (Sum.inr (()))) some) :
  ∀ (m:Nat) (cm:Int),J φ (aK (cx C) (ec C n 7) (ey C n 7) (n+7) 38 0 1 5 kx kg kr kp m (St.mk [(0,(pt 4 0)),(42,(iA cm))] [bx (ai cn),bx (al cv),(cQ d p q u ab ad an ao bm bs ca cc ch),bx [(iA ck)],bx (ai cy++[(iA dd)])])) kL (fR n cn cv d p q u ab ad an ao bm bs ca cc ch ck cy dd m cm) K:=by
 intro m
 induction m with
 | zero=>intros; exact .nn
 | succ m ih =>
  intro cm
  refine .lp (Iq ..) ?_
  unfold fR
  refine .st (aW ..) (.aY (fun fv=>?_) (fun fv=>?_))
  ·refine .s (pt 4 0) (.s (pt 4 0) (.s (pt 4 11) (.gd fun hg=>.st (v:=(pt 4 (11+Int.toNat cm*1))) (bN (e:=23) (n:=1) (len:=2) (by kernel_rfl) (by kernel_rfl) rfl hg) (.a2 (f:=fun (y:(List av))=>(im (y.map af) false)) (fun h=>by rw[h]; kernel_rfl) (fun h=>by rw[h]; kernel_rfl) fun eg=>.st (eb (e:=62)) (.as (BI C n _ _ _ _ h69_85 cm cm eg ((eg.length:Int)) cn cv d p q u ab ad an ao bm bs ca cc ch ck cy dd ?_ ?_ _ 0))))))
   ·intro ha hf hh hi w2508 w2509 w2510 w2511 w2512
    exact .un rfl (.ex (x0 _ _ _ _ _ _ _))
   ·intro hj hk ho hp
    refine .un rfl (.cT (by kernel_rfl) (.st (aP ..) (.s [bx (ai cn),bx (al cv),(cQ d p q u ab ad an ao bm bs ca cc ch),bx [(iA ck)],bx (ai cy++[(iA dd)])] (.cT (by kernel_rfl) ?_))))
    exact ih _
  exact .ex (x1 _)
def gx (n:Nat) (y:(List ak)) (ab:Int) (an:aE) (ao:bj) (bm:Int) (bs:(List ak)) (ca:(List av)) (cc:(List Bool)) (ch:Int) (ck:(List ak)) (cm:(List av)) (cn:(List Bool)) (cv:Int) (cy:Int) (dd:(List ak)) (ea:(List av)) (eg:(List av)) (ej:Int) (d:aE) (p:Int):Nat->Int->Option ((Unit)⊕((Unit)⊕(Unit)))
 | 0,_=>none
 | m+1,q=>bif (decide (q<ab)) then ((bX y q).bind fun u=>(lI ((aC.mk d p)) 0 u).bind fun en=>bif en then ((some (())).bind fun hf=>(some true).bind fun fs=>bif (!fs) then (some ((Sum.inr ((Sum.inl (())))))) else (gx n y ab an ao bm bs ca cc ch ck cm cn cv cy dd ea eg ej d p m (wr .i64 (q+1)))) else ((some ((u.No,u.Holder,u.Until))).bind fun ad=>(lI ((aC.mk d p)) 1 ((ak.mk ad.1 ad.2.1 ad.2.2))).bind fun fv=>(some fv).bind fun ha=>bif (!ha) then (some ((Sum.inl (())))) else (gx n y ab an ao bm bs ca cc ch ck cm cn cv cy dd ea eg ej d p m (wr .i64 (q+1))))) else (some ((Sum.inr ((Sum.inr (()))))))
theorem BJ (h69_86:qN C) (ha:(List ak)) (hg:Int) (eg:aE) (ea:bj) (q:Int) (u:(List ak)) (ab:(List av)) (ad:(List Bool)) (an:Int) (ao:(List ak)) (bm:(List av)) (bs:(List Bool)) (ca:Int) (cc:Int) (ch:(List ak)) (ck:(List av)) (cm:(List av)) (cn:Int) (d:aE) (p:Int) {K:((Unit)⊕((Unit)⊕(Unit)))->Option γ} (x0:∀ (s0:A) (en:A) (fs:A) (fv:A) (q0:aD) (q1:aD) (q4:aD) (q5:aD) (q6:aD) (q7:aD),J φ (kp (A.ifc 31 (iA 530)) (St.mk [(0,s0),(69,en),(70,fs),(71,fv)] [q0,q1,(cQ q u ab ad an ao bm bs ca cc ch ck cm),bx [(iA cn)],q4,q5,q6,q7])) kL (K (Sum.inl (()))) some) (x1:∀ (s0:A) (en:A) (fs:A) (fv:A) (q0:aD) (q1:aD) (q4:aD) (q5:aD) (q6:aD),J φ (kp (A.ifc 31 (iA 530)) (St.mk [(0,s0),(69,en),(70,fs),(71,fv)] [q0,q1,(cQ q u ab ad an ao bm bs ca cc ch ck cm),bx [(iA cn)],q4,q5,q6])) kL (K (Sum.inr ((Sum.inl (()))))) some) (x2:∀ (s0:A) (en:A) (fs:A) (fv:A) (q0:aD),J φ (kx 6 (St.mk [(0,s0),(69,en),(70,fs),(71,fv)] [q0,bx (al ea),(cQ q u ab ad an ao bm bs ca cc ch ck cm),bx [(iA cn)],bx (ai d++[(iA p)])])) kL (K (Sum.inr ((Sum.inr (()))))) some) :
  ∀ (m:Nat) (hf:Int),J φ (aK (cx C) (ec C n 7) (ey C n 7) (n+7) 38 0 3 5 kx kg kr kp m (St.mk [(0,(pt 4 0)),(69,(im (ha.map ae) false)),(70,(iA hg)),(71,(iA hf))] [bx (ai eg),bx (al ea),(cQ q u ab ad an ao bm bs ca cc ch ck cm),bx [(iA cn)],bx (ai d++[(iA p)])])) kL (gx n ha hg eg ea q u ab ad an ao bm bs ca cc ch ck cm cn d p m hf) K:=by
 intro m
 induction m with
 | zero=>intros; exact .nn
 | succ m ih =>
  intro hf
  refine .lp (It ..) ?_
  unfold gx
  refine .st (aW ..) (.aY (fun hk=>?_) (fun hk=>?_))
  ·refine .bd (iT (e:=59) (es:=3)) fun cv=>.s (ag (ae cv)) (.sq (pt 5 0) (.sh (.s (ag (ae cv)) (.cl ((au CU).trans (La C (aO (cx C) (n+6)) (aA (cx C) (n+6)) (n+6) _ _ _)) (.s ((pt 6 0),[bx (ai eg),bx (al ea),(cQ q u ab ad an ao bm bs ca cc ch ck cm),bx [(iA cn)],bx (ai d++[(iA p)]),bx (ae cv),bx (ae cv)]) (.cr (.ok (.dp (f:=fun (y:Bool)=>(bA y)) (fun _=>rfl) (oW xf (by kernel_rfl) (by kernel_rfl) (jF (fj cP eo ((aC.mk d p):aC) rfl rfl) (jF rfl (jF (lB (fj cA ou (cv:ak) rfl rfl)) rfl))) (h69_86 ((aC.mk d p)) 0 cv)) fun hs=>.ok (.Hl (fun cy=>?_) (fun cy=>?_))))))))))
   ·refine .bb (.cr (.bg (fun t (y:Int×Int×Int) =>  t=(ag [(iA y.1),(iA y.2.1),(iA y.2.2)])) ?_ ?_))
    ·exact .lp (jX cy) (.s (ag (ae cv)) (.lg rfl))
    rintro _ dd rfl
    refine .lp (jX cy) (.cl ((au CU).trans (La C (aO (cx C) (n+6)) (aA (cx C) (n+6)) (n+6) _ _ _)) (.s ((pt 7 0),[bx (ai eg),bx (al ea),(cQ q u ab ad an ao bm bs ca cc ch ck cm),bx [(iA cn)],bx (ai d++[(iA p)]),bx (ae cv),bx (ae cv),bx [(iA dd.1),(iA dd.2.1),(iA dd.2.2)]]) (.cr (.ok (.lp (jX cy) (.dp (f:=fun (y:Bool)=>(bA y)) (fun _=>rfl) (oW xf (by kernel_rfl) (by kernel_rfl) (jF (fj cP eo ((aC.mk d p):aC) rfl rfl) (jF rfl (jF (lB (fj cA ou ((ak.mk dd.1 dd.2.1 dd.2.2):ak) rfl rfl)) rfl))) (h69_86 ((aC.mk d p)) 1 ((ak.mk dd.1 dd.2.1 dd.2.2)))) fun ht=>.ok (.bg (fun t (y:Bool) =>  t=(bA y)) ?_ ?_)))))))
    ·exact .wj cy (.lg rfl)
    rintro _ ho rfl
    refine .cl ((au eN).trans (pE C (aO (cx C) (n+6)) (aA (cx C) (n+6)) (n+6) _ _ _ _)) (.s (bA (!ho)) (.aY (fun hp=>?_) (fun hp=>?_)))
    ·exact .s (A.ifc 31 (iA 530)) (.pk (.cr (.fP (.ex (x0 _ _ _ _ _ _ _ _ _ _)))))
    refine .cr (.ok (.st (aP ..) (.st (v:=[bx (ai eg),bx (al ea),(cQ q u ab ad an ao bm bs ca cc ch ck cm),bx [(iA cn)],bx (ai d++[(iA p)])]) (dy (by kernel_rfl) (by simp only[uB,eF,eG,Nat.reduceLT,decide_true,cQ])) (.cT ((by kernel_rfl:_=(bif aG 5 (ha.map ae) then true else false)).trans (by simp only[eF,eG])) ?_))))
    exact ih _
   refine .bb (.cr (.bg (fun t (y:Unit) =>  t=(A.v undef)) ?_ ?_))
   ·exact .lp (jY cy) (.lg rfl)
   rintro _ hv rfl
   refine .lp (jY cy) (.lp (jY cy) (.bg (fun t (y:Bool) =>  t=(bA y)) ?_ ?_))
   ·exact .vS cy (.lg rfl)
   rintro _ hq rfl
   refine .cl ((au eN).trans (pE C (aO (cx C) (n+6)) (aA (cx C) (n+6)) (n+6) _ _ _ _)) (.s (bA (!hq)) (.aY (fun hr=>?_) (fun hr=>?_)))
   ·exact .s (A.ifc 31 (iA 530)) (.pk (.cr (.fP (.ex (x1 _ _ _ _ _ _ _ _ _)))))
   refine .cr (.ok (.st (aP ..) (.st (v:=[bx (ai eg),bx (al ea),(cQ q u ab ad an ao bm bs ca cc ch ck cm),bx [(iA cn)],bx (ai d++[(iA p)])]) (dy (by kernel_rfl) (by simp only[uB,eF,eG,Nat.reduceLT,decide_true,cQ])) (.cT ((by kernel_rfl:_=(bif aG 5 (ha.map ae) then true else false)).trans (by simp only[eF,eG])) ?_))))
   exact ih _
  exact .ex (x2 _ _ _ _ _)
def JN (n:Nat) (a0:aE) (a1:bj):Option (aE×Int) :=
 (fq n a0.Desks.1 a0.Desks.2 a0 a1 0 ([]) ([]) ([]) 0 ([]) ([]) ([]) 0 0 ([]) ([]) ([]) 0 a0 a1.Who (n+7) 0).bind fun cv=>match cv with | (Sum.inl _)=>some (((aE.mk (((ah.mk 0 ([]) ([]) ([])),(ah.mk 0 ([]) ([]) ([])))) ((0,0)) ([]) (([],[]))),530)) | (Sum.inr _)=>(fR n a0 a1 0 ([]) ([]) ([]) 0 ([]) ([]) ([]) 0 0 ([]) ([]) ([]) 0 a0 a1.Who (n+7) 0).bind fun cy=>match cy with | (Sum.inl _)=>some (((aE.mk (((ah.mk 0 ([]) ([]) ([])),(ah.mk 0 ([]) ([]) ([])))) ((0,0)) ([]) (([],[]))),530)) | (Sum.inr _)=>(gx n a0.Told ((a0.Told.length:Int)) a0 a1 0 ([]) ([]) ([]) 0 ([]) ([]) ([]) 0 0 ([]) ([]) ([]) 0 a0 a1.Who (n+7) 0).bind fun dd=>match dd with | (Sum.inl _)=>some (((aE.mk (((ah.mk 0 ([]) ([]) ([])),(ah.mk 0 ([]) ([]) ([])))) ((0,0)) ([]) (([],[]))),530)) | (Sum.inr ((Sum.inl _)))=>some (((aE.mk (((ah.mk 0 ([]) ([]) ([])),(ah.mk 0 ([]) ([]) ([])))) ((0,0)) ([]) (([],[]))),530)) | (Sum.inr ((Sum.inr _)))=>(bif decide (a1.Kind=1) then (some ((39,true))) else bif decide (a1.Kind=2) then (some ((40,true))) else bif decide (a1.Kind=3) then (some ((41,true))) else bif decide (a1.Kind=4) then (some ((42,true))) else bif decide (a1.Kind=5) then (some ((43,true))) else bif decide (a1.Kind=6) then (some ((44,true))) else bif decide (a1.Kind=7) then (some ((45,true))) else (some ((0,false)))).bind fun d=>(bif d.2 then ((vR a1.Who 0 1).bind fun ea=>some ea) else (some false)).bind fun eg=>bif (!eg) then (some (((aE.mk (((ah.mk 0 ([]) ([]) ([])),(ah.mk 0 ([]) ([]) ([])))) ((0,0)) ([]) (([],[]))),530))) else (bif decide (d.1=39) then (bif (decide (0<=a1.Who)&&decide (a1.Who<2)) then ((jQ a1.Who a0.Desks.1 a0.Desks.2).bind fun ej=>(Hc ej a1.A a1.B).bind fun p=>bif (!(p.2==0)) then (bif (p.2 != 0) then (some (((aE.mk (((ah.mk 0 ([]) ([]) ([])),(ah.mk 0 ([]) ([]) ([])))) ((0,0)) ([]) (([],[]))),p.2))) else (some (((aE.mk (((ah.mk 0 ([]) ([]) ([])),(ah.mk 0 ([]) ([]) ([])))) ((0,0)) ([]) (([],[]))),0)))) else (bif (decide (0<=a1.Who)&&decide (a1.Who<2)) then ((jQ a1.Who ((p.1,a0.Desks.2)) ((a0.Desks.1,p.1))).bind fun ao=>some (((aE.mk ((ao.1,ao.2)) a0.Synced a0.Told a0.Spoken),0))) else none)) else none) else bif decide (d.1=40) then ((vR a1.A 0 (wr .i64 (((a0.Told.length:Int)) - 1))).bind fun en=>bif (!en) then (some (((aE.mk (((ah.mk 0 ([]) ([]) ([])),(ah.mk 0 ([]) ([]) ([])))) ((0,0)) ([]) (([],[]))),530))) else (bif (decide (0<=a1.Who)&&decide (a1.Who<2)) then ((jQ a1.Who a0.Desks.1 a0.Desks.2).bind fun fs=>(bX a0.Told a1.A).bind fun fv=>(Hx fs fv).bind fun q=>bif (!(q.2==0)) then (bif (q.2 != 0) then (some (((aE.mk (((ah.mk 0 ([]) ([]) ([])),(ah.mk 0 ([]) ([]) ([])))) ((0,0)) ([]) (([],[]))),q.2))) else (some (((aE.mk (((ah.mk 0 ([]) ([]) ([])),(ah.mk 0 ([]) ([]) ([])))) ((0,0)) ([]) (([],[]))),0)))) else (bif (decide (0<=a1.Who)&&decide (a1.Who<2)) then ((jQ a1.Who ((q.1,a0.Desks.2)) ((a0.Desks.1,q.1))).bind fun bm=>some (((aE.mk ((bm.1,bm.2)) a0.Synced a0.Told a0.Spoken),0))) else none)) else none)) else bif decide (d.1=41) then (bif (decide (0<=a1.Who)&&decide (a1.Who<2)) then ((jQ a1.Who a0.Desks.1 a0.Desks.2).bind fun ha=>(Hb ha a1.A a1.B).bind fun u=>bif (!(u.2==0)) then (bif (u.2 != 0) then (some (((aE.mk (((ah.mk 0 ([]) ([]) ([])),(ah.mk 0 ([]) ([]) ([])))) ((0,0)) ([]) (([],[]))),u.2))) else (some (((aE.mk (((ah.mk 0 ([]) ([]) ([])),(ah.mk 0 ([]) ([]) ([])))) ((0,0)) ([]) (([],[]))),0)))) else (bif (decide (0<=a1.Who)&&decide (a1.Who<2)) then ((jQ a1.Who ((u.1,a0.Desks.2)) ((a0.Desks.1,u.1))).bind fun bs=>some (((aE.mk ((bs.1,bs.2)) a0.Synced a0.Told a0.Spoken),0))) else none)) else none) else bif decide (d.1=42) then (bif (decide (0<=a1.Who)&&decide (a1.Who<2)) then ((jQ a1.Who a0.Desks.1.Order a0.Desks.2.Order).bind fun ca=>bif (decide (0<=a1.Who)&&decide (a1.Who<2)) then ((jQ a1.Who (((ca.length:Int),a0.Synced.2)) ((a0.Synced.1,(ca.length:Int)))).bind fun cc=>some (((aE.mk a0.Desks ((cc.1,cc.2)) a0.Told a0.Spoken),0))) else none) else none) else bif decide (d.1=43) then (bif (decide (0<=a1.Who)&&decide (a1.Who<2)) then ((jQ a1.Who a0.Desks.1.Leases a0.Desks.2.Leases).bind fun ad=>(vR a1.A 0 (wr .i64 (((ad.length:Int)) - 1))).bind fun hf=>bif (!hf) then (some (((aE.mk (((ah.mk 0 ([]) ([]) ([])),(ah.mk 0 ([]) ([]) ([])))) ((0,0)) ([]) (([],[]))),530))) else ((bX ad a1.A).bind fun hg=>(lI ((aC.mk a0 a1.Who)) a1.Who hg).bind fun hh=>bif (!hh) then (some (((aE.mk (((ah.mk 0 ([]) ([]) ([])),(ah.mk 0 ([]) ([]) ([])))) ((0,0)) ([]) (([],[]))),530))) else ((bX ad a1.A).bind fun hi=>(et a0.Told 0 ((a0.Told.length:Int))).bind fun hj=>(dS 24 hj ([hi])).bind fun hk=>some (((aE.mk a0.Desks a0.Synced hk a0.Spoken),0))))) else none) else bif decide (d.1=44) then (bif (decide (0<=a1.Who)&&decide (a1.Who<2)) then ((jQ a1.Who a0.Desks.1.Calls a0.Desks.2.Calls).bind fun an=>(vR a1.A 0 (wr .i64 (((an.length:Int)) - 1))).bind fun ho=>bif (!ho) then (some (((aE.mk (((ah.mk 0 ([]) ([]) ([])),(ah.mk 0 ([]) ([]) ([])))) ((0,0)) ([]) (([],[]))),530))) else ((bX an a1.A).bind fun hp=>(lH ((aC.mk a0 a1.Who)) a1.Who hp).bind fun hq=>bif (!hq) then (some (((aE.mk (((ah.mk 0 ([]) ([]) ([])),(ah.mk 0 ([]) ([]) ([])))) ((0,0)) ([]) (([],[]))),530))) else (bif (decide (0<=a1.Who)&&decide (a1.Who<2)) then ((jQ a1.Who a0.Spoken.1 a0.Spoken.2).bind fun ch=>(bX an a1.A).bind fun hr=>(et ch 0 ((ch.length:Int))).bind fun hs=>(dS 16 hs ([hr])).bind fun ck=>bif decide (a1.Who=0) then (some (((aE.mk a0.Desks a0.Synced a0.Told ((ck,a0.Spoken.2))),0))) else bif decide (a1.Who=1) then (some (((aE.mk a0.Desks a0.Synced a0.Told ((a0.Spoken.1,ck))),0))) else none) else none))) else none) else bif decide (d.1=45) then (bif (decide (0<=a1.Who)&&decide (a1.Who<2)) then ((jQ a1.Who a0.Desks.1 a0.Desks.2).bind fun cm=>bif (decide (0<=a1.Who)&&decide (a1.Who<2)) then ((jQ a1.Who a0.Synced.1 a0.Synced.2).bind fun ht=>(vR a1.A ht ((cm.Order.length:Int))).bind fun hv=>bif (!hv) then (some (((aE.mk (((ah.mk 0 ([]) ([]) ([])),(ah.mk 0 ([]) ([]) ([])))) ((0,0)) ([]) (([],[]))),530))) else ((G9 cm).bind fun ab=>bif (!(ab.2==0)) then (bif (ab.2 != 0) then (some (((aE.mk (((ah.mk 0 ([]) ([]) ([])),(ah.mk 0 ([]) ([]) ([])))) ((0,0)) ([]) (([],[]))),ab.2))) else (some (((aE.mk (((ah.mk 0 ([]) ([]) ([])),(ah.mk 0 ([]) ([]) ([])))) ((0,0)) ([]) (([],[]))),0)))) else ((et ab.1 0 a1.A).bind fun hx=>(E6 a1.Who hx).bind fun y=>bif (!(y.2==0)) then (bif (y.2 != 0) then (some (((aE.mk (((ah.mk 0 ([]) ([]) ([])),(ah.mk 0 ([]) ([]) ([])))) ((0,0)) ([]) (([],[]))),y.2))) else (some (((aE.mk (((ah.mk 0 ([]) ([]) ([])),(ah.mk 0 ([]) ([]) ([])))) ((0,0)) ([]) (([],[]))),0)))) else (bif (decide (0<=a1.Who)&&decide (a1.Who<2)) then ((jQ a1.Who ((y.1,a0.Desks.2)) ((a0.Desks.1,y.1))).bind fun cn=>some (((aE.mk ((cn.1,cn.2)) a0.Synced a0.Told a0.Spoken),0))) else none)))) else none) else none) else none)
theorem NJ (C:OT) (n:Nat) (hi:Br C) (hj:mq C) (hk:Bw C) (ho:Bx C) (cn:qM C) (h69_85:oH C) (h69_86:qN C) (hp:Fh C) (h9:F0 C) (a0:aE) (a1:bj):J (fun (o:R) y=>∃ v,o.1=.ret v/\aF o.2 v=(tp [(ag (ai y.1)),(iA y.2)])) (aB (cx C) (ec C n 8) (ey C n 8) (n+8) 17 [(ag (ai a0)),(ag (al a1))] [] 0) some (JN n a0 a1) some:=by
 refine .lp (Oh ..) ?_
 unfold JN
 refine .s ((pt 0 0),[bx (ai a0)]) (.sq (pt 1 0) (.sq (pt 2 0) (.sq (pt 3 0) (.s (ag (ai a0)) (.s (pt 1 1) (.s (iA a1.Who) (.s (ag (ai a0++[(iA a1.Who)])) (.s ((pt 4 0),[bx (ai a0),bx (al a1),bk,bx [(iA 0)],bx (ai a0++[(iA a1.Who)])]) (.cl ((au IQ).trans (Ov C (ec C n 7) (ey C n 7) (n+7) _ _ _)) (.s (pt 4 0) (.s (pt 4 0) (.s (pt 4 0) (.s (ag (aa a0.Desks.1++aa a0.Desks.2)) (.as (BG C n _ _ _ _ hj cn a0.Desks.1 a0.Desks.2 a0 a1 0 ([]) ([]) ([]) 0 ([]) ([]) ([]) 0 0 ([]) ([]) ([]) 0 a0 a1.Who ?_ ?_ _ 0)))))))))))))))
 ·intro j1327 j1328 j1329 w1330 w1331 w1332 w1333
  exact .un rfl (.cr (.fP (.cl ((au dj).trans (kK C (ec C n 7) (ey C n 7) (n+7) _ _ _)) (.s (bA false) (.gR (.s (tp [(iA 530),(bA true)]) (.s (bA true) (.s (iA 530) (.fe (.cr (.ok (.s (bA true) (.fe (.s aV (.s [w1330,w1331,bk,bx [(iA 0)],w1332,w1333] (.s [w1330,w1331,bk,bx [(iA 530)],w1332,w1333] (.s aV (.s (iA 530) (.lv (by show aF _ (tp [aV,(iA 530)])=_; simp only[cF,fO,aF]; first | done | rfl))))))))))))))))))))
 ·intro j1334 j1335
  refine .un rfl (.cT (by kernel_rfl) (.as (BH C n _ _ _ _ h69_85 a0 a1 0 ([]) ([]) ([]) 0 ([]) ([]) ([]) 0 0 ([]) ([]) ([]) 0 a0 a1.Who ?_ ?_ _ 0)))
  ·intro j2518 j2519 w2520 w2521 w2522 w2523 w2524
   exact .un rfl (.cr (.fP (.cl ((au dj).trans (kK C (ec C n 7) (ey C n 7) (n+7) _ _ _)) (.s (bA false) (.gR (.s (tp [(iA 530),(bA true)]) (.s (bA true) (.s (iA 530) (.fe (.cr (.ok (.s (bA true) (.fe (.s aV (.s [w2520,w2521,bk,bx [(iA 0)],w2522,w2523,w2524] (.s [w2520,w2521,bk,bx [(iA 530)],w2522,w2523,w2524] (.s aV (.s (iA 530) (.lv (by show aF _ (tp [aV,(iA 530)])=_; simp only[cF,fO,aF]; first | done | rfl))))))))))))))))))))
  ·intro j2525
   refine .un rfl (.cT (by kernel_rfl) (.s (pt 4 0) (.s (pt 4 0) (.s (pt 4 10) (.s (im (a0.Told.map ae) false) (.st (eb (e:=59)) (.as (BJ C n _ _ _ _ h69_86 a0.Told ((a0.Told.length:Int)) a0 a1 0 ([]) ([]) ([]) 0 ([]) ([]) ([]) 0 0 ([]) ([]) ([]) 0 a0 a1.Who ?_ ?_ ?_ _ 0))))))))
   ·intro j2984 j2985 j2986 j2987 w2988 w2989 w2990 w2991 w2992 w2993
    exact .un rfl (.cr (.fP (.cl ((au dj).trans (kK C (ec C n 7) (ey C n 7) (n+7) _ _ _)) (.s (bA false) (.gR (.s (tp [(iA 530),(bA true)]) (.s (bA true) (.s (iA 530) (.fe (.cr (.ok (.s (bA true) (.fe (.s aV (.s [w2988,w2989,bk,bx [(iA 0)],w2990,w2991,w2992,w2993] (.s [w2988,w2989,bk,bx [(iA 530)],w2990,w2991,w2992,w2993] (.s aV (.s (iA 530) (.lv (by show aF _ (tp [aV,(iA 530)])=_; simp only[cF,fO,aF]; first | done | rfl))))))))))))))))))))
   ·intro j2994 j2995 j2996 j2997 w2998 w2999 w3000 w3001 w3002
    exact .un rfl (.cr (.fP (.cl ((au dj).trans (kK C (ec C n 7) (ey C n 7) (n+7) _ _ _)) (.s (bA false) (.gR (.s (tp [(iA 530),(bA true)]) (.s (bA true) (.s (iA 530) (.fe (.cr (.ok (.s (bA true) (.fe (.s aV (.s [w2998,w2999,bk,bx [(iA 0)],w3000,w3001,w3002] (.s [w2998,w2999,bk,bx [(iA 530)],w3000,w3001,w3002] (.s aV (.s (iA 530) (.lv (by show aF _ (tp [aV,(iA 530)])=_; simp only[cF,fO,aF]; first | done | rfl))))))))))))))))))))
   ·intro j3003 j3004 j3005 j3006 w3007
    refine .un rfl (.cT (by kernel_rfl) (.cr (.ok (.s ((A.mr 5),[w3007,bx (al a1),bk,bx [(iA 0)],bx (ai a0++[(iA a1.Who)]),aD.mp .i64 [] []]) (.s [w3007,bx (al a1),bk,bx [(iA 0)],bx (ai a0++[(iA a1.Who)]),aD.mp .i64 [1] [(fk 39 [] [])]] (.s [w3007,bx (al a1),bk,bx [(iA 0)],bx (ai a0++[(iA a1.Who)]),aD.mp .i64 [1,2] [(fk 39 [] []),(fk 40 [] [])]] (.s [w3007,bx (al a1),bk,bx [(iA 0)],bx (ai a0++[(iA a1.Who)]),aD.mp .i64 [1,2,3] [(fk 39 [] []),(fk 40 [] []),(fk 41 [] [])]] (.s [w3007,bx (al a1),bk,bx [(iA 0)],bx (ai a0++[(iA a1.Who)]),aD.mp .i64 [1,2,3,4] [(fk 39 [] []),(fk 40 [] []),(fk 41 [] []),(fk 42 [] [])]] (.s [w3007,bx (al a1),bk,bx [(iA 0)],bx (ai a0++[(iA a1.Who)]),aD.mp .i64 [1,2,3,4,5] [(fk 39 [] []),(fk 40 [] []),(fk 41 [] []),(fk 42 [] []),(fk 43 [] [])]] (.s [w3007,bx (al a1),bk,bx [(iA 0)],bx (ai a0++[(iA a1.Who)]),aD.mp .i64 [1,2,3,4,5,6] [(fk 39 [] []),(fk 40 [] []),(fk 41 [] []),(fk 42 [] []),(fk 43 [] []),(fk 44 [] [])]] (.s [w3007,bx (al a1),bk,bx [(iA 0)],bx (ai a0++[(iA a1.Who)]),aM] (.s (pt 1 0) (.s (iA a1.Kind) (.bg (fun t (y:Nat×Bool)=>t=(tp [(zd y.1),(bA y.2)])) ?_ ?_))))))))))))))
    ·refine .sp (fun hr=>?_) (fun hs=>?_)
     ·exact .lp (by rw[of_decide_eq_true hr]; kernel_rfl:_=some (tp [(fk 39 [] []),(bA true)])) (.lg rfl)
     refine .sp (fun ht=>?_) (fun hv=>?_)
     ·exact .lp (by rw[of_decide_eq_true ht]; kernel_rfl:_=some (tp [(fk 40 [] []),(bA true)])) (.lg rfl)
     refine .sp (fun hx=>?_) (fun hy=>?_)
     ·exact .lp (by rw[of_decide_eq_true hx]; kernel_rfl:_=some (tp [(fk 41 [] []),(bA true)])) (.lg rfl)
     refine .sp (fun ie=>?_) (fun ih=>?_)
     ·exact .lp (by rw[of_decide_eq_true ie]; kernel_rfl:_=some (tp [(fk 42 [] []),(bA true)])) (.lg rfl)
     refine .sp (fun ik=>?_) (fun js=>?_)
     ·exact .lp (by rw[of_decide_eq_true ik]; kernel_rfl:_=some (tp [(fk 43 [] []),(bA true)])) (.lg rfl)
     refine .sp (fun kc=>?_) (fun kk=>?_)
     ·exact .lp (by rw[of_decide_eq_true kc]; kernel_rfl:_=some (tp [(fk 44 [] []),(bA true)])) (.lg rfl)
     refine .sp (fun kn=>?_) (fun ko=>?_)
     ·exact .lp (by rw[of_decide_eq_true kn]; kernel_rfl:_=some (tp [(fk 45 [] []),(bA true)])) (.lg rfl)
     exact .lp ((A7 rfl (fz hs (fz hv (fz hy (fz ih (fz js (fz kk (fz ko yb))))))) (by kernel_rfl)):_=some (tp [(A.v Value.nilFunc),(bA false)])) (.lg rfl)
    rintro _ ea rfl
    refine .s (zd ea.1) (.s (bA ea.2) (.bg (fun t (y:Bool)=>∃ eg ej en:A,t=[(bA y),eg,ej,en]) ?_ ?_))
    ·refine .eQ (fun kt=>?_) (fun kt=>?_)
     ·exact .s (pt 1 1) (.s (iA a1.Who) (.bd (cn a1.Who 0 1) fun y3024=>.lg ⟨_,_,_,rfl⟩))
     exact .lg ⟨_,_,_,rfl⟩
    rintro _ lx ⟨eg,ej,en,rfl⟩
    refine .u4 (.cl ((au eN).trans (pE C (ec C n 7) (ey C n 7) (n+7) _ _ _ _)) (.s (bA (!lx)) (.aY (fun ly=>?_) (fun ly=>?_))))
    ·exact .s (A.ifc 31 (iA 530)) (.pk (.cr (.fP (.cl ((au dj).trans (kK C (ec C n 7) (ey C n 7) (n+7) _ _ _)) (.s (bA false) (.gR (.s (tp [(iA 530),(bA true)]) (.s (bA true) (.s (iA 530) (.fe (.cr (.ok (.s (bA true) (.fe (.s aV (.s [w3007,bx (al a1),bk,bx [(iA 0)],bx (ai a0++[(iA a1.Who)]),aM] (.s [w3007,bx (al a1),bk,bx [(iA 530)],bx (ai a0++[(iA a1.Who)]),aM] (.s aV (.s (iA 530) (.lv (by show aF _ (tp [aV,(iA 530)])=_; simp only[cF,fO,aF]; first | done | rfl)))))))))))))))))))))
    refine .cr (.ok (.s (ag (al a1)) (.sp (fun mn=>?_) (fun _=>?_))))
    ·refine .ds 39 mn (by kernel_rfl) (.dC (by kernel_rfl) (by kernel_rfl) (.cl ((au IT).trans (Ow C (ec C n 7) (ey C n 7) (n+7) _ _ _ _)) (.s ((pt 6 0),[w3007,bx (al a1),bk,bx [(iA 0)],bx (ai a0++[(iA a1.Who)]),aM,bx (al a1)]) (.s (pt 4 0) (.s (pt 4 13) (.s (iA a1.Who) (.s (pt 4 0) (.s (pt 4 0) (.s (pt 4 0) (.gd fun hg=>.st (v:=(pt 4 (0+Int.toNat a1.Who*4))) (bN (e:=26) (n:=4) (len:=2) (by kernel_rfl) (by kernel_rfl) rfl hg) (.a2 (f:=fun (y:ah)=>(ag (aa y))) (fun h=>by rw[h]; kernel_rfl) (fun h=>by rw[h]; kernel_rfl) fun fs=>.s (pt 6 2) (.s (iA a1.A) (.s (pt 6 3) (.s (iA a1.B) (.bd (g:=fun (y:(ah×Int))=>(tp [(ag (aa y.1)),(iA y.2)])) (by show C 26 [snap _ (ag (aa fs)),snap _ (iA a1.A),snap _ (iA a1.B)]=_; simp only[cF,eA]; exact ho fs a1.A a1.B) fun u=>.s (ag (aa u.1)) (.s (iA u.2) (.cl ((au zZ).trans (Kh C (aO (cx C) (n+6)) (aA (cx C) (n+6)) (n+6) _ _ _ _ _)) (.s ((pt 7 0),[w3007,bx (al a1),bk,bx [(iA 0)],bx (ai a0++[(iA a1.Who)]),aM,bx (al a1),bx (aa u.1)]) (.st (bC ..) (.cl ((au eN).trans (pE C (aO (cx C) (n+5)) (aA (cx C) (n+5)) (n+5) _ _ _ _)) ?_))))))))))))))))))))
     refine .s (bA (!(u.2==0))) (.aY (fun mx=>?_) (fun mx=>?_))
     ·refine .s (A.ifc 31 (iA u.2)) (.pk (.cr (.fP (.cr (.fP (.cr (.fP (.cl ((au dj).trans (kK C (ec C n 7) (ey C n 7) (n+7) _ _ _)) (.s (bA false) (.gR (.s (tp [(iA u.2),(bA true)]) (.s (bA true) (.s (iA u.2) (.fe (.cr (.ok (.st (bq ..) (.aY (fun nb=>?_) (fun nb=>?_)))))))))))))))))))
      ·exact .s aV (.s [w3007,bx (al a1),bk,bx [(iA 0)],bx (ai a0++[(iA a1.Who)]),aM,bx (al a1),bx (aa u.1)] (.s [w3007,bx (al a1),bk,bx [(iA u.2)],bx (ai a0++[(iA a1.Who)]),aM,bx (al a1),bx (aa u.1)] (.s aV (.s (iA u.2) (.lv (by show aF _ (tp [aV,(iA u.2)])=_; simp only[cF,fO,aF]; first | done | rfl))))))
      exact .s aV (.s (iA 0) (.lv (by show aF _ (tp [aV,(iA 0)])=_; simp only[cF,fO,aF]; first | done | rfl)))
     refine .cr (.ok (.s (pt 4 0) (.s (pt 4 13) (.s (iA a1.Who) (.s (ag (aa u.1)) (.s (pt 4 0) (.s (pt 4 0) (.s (pt 4 0) (.gd fun hg=>.st (v:=(pt 4 (0+Int.toNat a1.Who*4))) (bN (e:=26) (n:=4) (len:=2) (by kernel_rfl) (by kernel_rfl) rfl hg) (.a2 (f:=fun (y:ah×ah)=>[w3007,bx (al a1),bk,bx [(iA 0)],bx (aa y.1++aa y.2++[(iA a0.Synced.1),(iA a0.Synced.2),(im (a0.Told.map ae) false),(im (a0.Spoken.1.map af) false),(im (a0.Spoken.2.map af) false),(iA a1.Who)]),aM,bx (al a1),bx (aa u.1)]) (fun h=>by rw[h]; kernel_rfl) (fun h=>by rw[h]; kernel_rfl) fun bm=>.cr (.ok (.cr (.ok (.s (pt 4 0) (.s (pt 4 0) (.s (ag (aa bm.1++aa bm.2++[(iA a0.Synced.1),(iA a0.Synced.2),(im (a0.Told.map ae) false),(im (a0.Spoken.1.map af) false),(im (a0.Spoken.2.map af) false)])) (.s [w3007,bx (al a1),bx (aa bm.1++aa bm.2++[(iA a0.Synced.1),(iA a0.Synced.2),(im (a0.Told.map ae) false),(im (a0.Spoken.1.map af) false),(im (a0.Spoken.2.map af) false)]),bx [(iA 0)],bx (aa bm.1++aa bm.2++[(iA a0.Synced.1),(iA a0.Synced.2),(im (a0.Told.map ae) false),(im (a0.Spoken.1.map af) false),(im (a0.Spoken.2.map af) false),(iA a1.Who)]),aM,bx (al a1),bx (aa u.1)] (.s [w3007,bx (al a1),bx (aa bm.1++aa bm.2++[(iA a0.Synced.1),(iA a0.Synced.2),(im (a0.Told.map ae) false),(im (a0.Spoken.1.map af) false),(im (a0.Spoken.2.map af) false)]),bx [(iA 0)],bx (aa bm.1++aa bm.2++[(iA a0.Synced.1),(iA a0.Synced.2),(im (a0.Told.map ae) false),(im (a0.Spoken.1.map af) false),(im (a0.Spoken.2.map af) false),(iA a1.Who)]),aM,bx (al a1),bx (aa u.1)] (.cl ((au dj).trans (kK C (ec C n 7) (ey C n 7) (n+7) _ _ _)) (.s (bA true) (.fe ?_)))))))))))))))))))))
     exact .cr (.ok (.s (bA false) (.gR (.s (ag (aa bm.1++aa bm.2++[(iA a0.Synced.1),(iA a0.Synced.2),(im (a0.Told.map ae) false),(im (a0.Spoken.1.map af) false),(im (a0.Spoken.2.map af) false)])) (.s (iA 0) (.lv (by show aF _ (tp [(ag (aa bm.1++aa bm.2++[(iA a0.Synced.1),(iA a0.Synced.2),(im (a0.Told.map ae) false),(im (a0.Spoken.1.map af) false),(im (a0.Spoken.2.map af) false)])),(iA 0)])=_; simp only[cF,fO,aF]; first | done | rfl)))))))
    refine .sp (fun nf=>?_) (fun _=>?_)
    ·refine .ds 40 nf (by kernel_rfl) (.dC (by kernel_rfl) (by kernel_rfl) (.cl ((au IU).trans (Ox C (ec C n 7) (ey C n 7) (n+7) _ _ _ _)) (.s ((pt 6 0),[w3007,bx (al a1),bk,bx [(iA 0)],bx (ai a0++[(iA a1.Who)]),aM,bx (al a1)]) (.s (pt 6 2) (.s (iA a1.A) (.s (pt 4 0) (.s (pt 4 0) (.s (pt 4 10) (.s (im (a0.Told.map ae) false) (.st (eb (e:=59)) (.st (jB ..) (.bd (cn a1.A 0 (wr .i64 (((a0.Told.length:Int)) - 1))) fun ni=>.cl ((au eN).trans (pE C (aO (cx C) (n+6)) (aA (cx C) (n+6)) (n+6) _ _ _ _)) (.s (bA (!ni)) (.aY (fun ns=>?_) (fun ns=>?_)))))))))))))))
     ·exact .s (A.ifc 31 (iA 530)) (.pk (.cr (.fP (.cr (.fP (.cl ((au dj).trans (kK C (ec C n 7) (ey C n 7) (n+7) _ _ _)) (.s (bA false) (.gR (.s (tp [(iA 530),(bA true)]) (.s (bA true) (.s (iA 530) (.fe (.cr (.ok (.s (bA true) (.fe (.s aV (.s [w3007,bx (al a1),bk,bx [(iA 0)],bx (ai a0++[(iA a1.Who)]),aM,bx (al a1)] (.s [w3007,bx (al a1),bk,bx [(iA 530)],bx (ai a0++[(iA a1.Who)]),aM,bx (al a1)] (.s aV (.s (iA 530) (.lv (by show aF _ (tp [aV,(iA 530)])=_; simp only[cF,fO,aF]; first | done | rfl)))))))))))))))))))))))
     refine .cr (.ok (.s (pt 4 0) (.s (pt 4 13) (.s (iA a1.Who) (.s (pt 4 0) (.s (pt 4 0) (.s (pt 4 0) (.gd fun hg=>.st (v:=(pt 4 (0+Int.toNat a1.Who*4))) (bN (e:=26) (n:=4) (len:=2) (by kernel_rfl) (by kernel_rfl) rfl hg) (.a2 (f:=fun (y:ah)=>(ag (aa y))) (fun h=>by rw[h]; kernel_rfl) (fun h=>by rw[h]; kernel_rfl) fun fv=>.s (pt 4 0) (.s (pt 4 0) (.s (pt 4 10) (.s (im (a0.Told.map ae) false) (.s (pt 6 2) (.s (iA a1.A) (.bd (iT (e:=59) (es:=3)) fun dd=>.s (ag (ae dd)) (.bd (g:=fun (y:(ah×Int))=>(tp [(ag (aa y.1)),(iA y.2)])) (by show C 73 [snap _ (ag (aa fv)),snap _ (ag (ae dd))]=_; simp only[cF,eA]; exact hp fv dd) fun ab=>.s (ag (aa ab.1)) (.s (iA ab.2) (.cl ((au zZ).trans (Kh C (aO (cx C) (n+6)) (aA (cx C) (n+6)) (n+6) _ _ _ _ _)) (.s ((pt 7 0),[w3007,bx (al a1),bk,bx [(iA 0)],bx (ai a0++[(iA a1.Who)]),aM,bx (al a1),bx (aa ab.1)]) ?_)))))))))))))))))))
     refine .st (bC ..) (.cl ((au eN).trans (pE C (aO (cx C) (n+5)) (aA (cx C) (n+5)) (n+5) _ _ _ _)) (.s (bA (!(ab.2==0))) (.aY (fun nt=>?_) (fun nt=>?_))))
     ·refine .s (A.ifc 31 (iA ab.2)) (.pk (.cr (.fP (.cr (.fP (.cr (.fP (.cl ((au dj).trans (kK C (ec C n 7) (ey C n 7) (n+7) _ _ _)) (.s (bA false) (.gR (.s (tp [(iA ab.2),(bA true)]) (.s (bA true) (.s (iA ab.2) (.fe (.cr (.ok (.st (bq ..) (.aY (fun oc=>?_) (fun oc=>?_)))))))))))))))))))
      ·exact .s aV (.s [w3007,bx (al a1),bk,bx [(iA 0)],bx (ai a0++[(iA a1.Who)]),aM,bx (al a1),bx (aa ab.1)] (.s [w3007,bx (al a1),bk,bx [(iA ab.2)],bx (ai a0++[(iA a1.Who)]),aM,bx (al a1),bx (aa ab.1)] (.s aV (.s (iA ab.2) (.lv (by show aF _ (tp [aV,(iA ab.2)])=_; simp only[cF,fO,aF]; first | done | rfl))))))
      exact .s aV (.s (iA 0) (.lv (by show aF _ (tp [aV,(iA 0)])=_; simp only[cF,fO,aF]; first | done | rfl)))
     refine .cr (.ok (.s (pt 4 0) (.s (pt 4 13) (.s (iA a1.Who) (.s (ag (aa ab.1)) (.s (pt 4 0) (.s (pt 4 0) (.s (pt 4 0) (.gd fun hg=>.st (v:=(pt 4 (0+Int.toNat a1.Who*4))) (bN (e:=26) (n:=4) (len:=2) (by kernel_rfl) (by kernel_rfl) rfl hg) (.a2 (f:=fun (y:ah×ah)=>[w3007,bx (al a1),bk,bx [(iA 0)],bx (aa y.1++aa y.2++[(iA a0.Synced.1),(iA a0.Synced.2),(im (a0.Told.map ae) false),(im (a0.Spoken.1.map af) false),(im (a0.Spoken.2.map af) false),(iA a1.Who)]),aM,bx (al a1),bx (aa ab.1)]) (fun h=>by rw[h]; kernel_rfl) (fun h=>by rw[h]; kernel_rfl) fun bs=>.cr (.ok (.cr (.ok (.s (pt 4 0) (.s (pt 4 0) (.s (ag (aa bs.1++aa bs.2++[(iA a0.Synced.1),(iA a0.Synced.2),(im (a0.Told.map ae) false),(im (a0.Spoken.1.map af) false),(im (a0.Spoken.2.map af) false)])) (.s [w3007,bx (al a1),bx (aa bs.1++aa bs.2++[(iA a0.Synced.1),(iA a0.Synced.2),(im (a0.Told.map ae) false),(im (a0.Spoken.1.map af) false),(im (a0.Spoken.2.map af) false)]),bx [(iA 0)],bx (aa bs.1++aa bs.2++[(iA a0.Synced.1),(iA a0.Synced.2),(im (a0.Told.map ae) false),(im (a0.Spoken.1.map af) false),(im (a0.Spoken.2.map af) false),(iA a1.Who)]),aM,bx (al a1),bx (aa ab.1)] (.s [w3007,bx (al a1),bx (aa bs.1++aa bs.2++[(iA a0.Synced.1),(iA a0.Synced.2),(im (a0.Told.map ae) false),(im (a0.Spoken.1.map af) false),(im (a0.Spoken.2.map af) false)]),bx [(iA 0)],bx (aa bs.1++aa bs.2++[(iA a0.Synced.1),(iA a0.Synced.2),(im (a0.Told.map ae) false),(im (a0.Spoken.1.map af) false),(im (a0.Spoken.2.map af) false),(iA a1.Who)]),aM,bx (al a1),bx (aa ab.1)] (.cl ((au dj).trans (kK C (ec C n 7) (ey C n 7) (n+7) _ _ _)) (.s (bA true) (.fe ?_)))))))))))))))))))))
     exact .cr (.ok (.s (bA false) (.gR (.s (ag (aa bs.1++aa bs.2++[(iA a0.Synced.1),(iA a0.Synced.2),(im (a0.Told.map ae) false),(im (a0.Spoken.1.map af) false),(im (a0.Spoken.2.map af) false)])) (.s (iA 0) (.lv (by show aF _ (tp [(ag (aa bs.1++aa bs.2++[(iA a0.Synced.1),(iA a0.Synced.2),(im (a0.Told.map ae) false),(im (a0.Spoken.1.map af) false),(im (a0.Spoken.2.map af) false)])),(iA 0)])=_; simp only[cF,fO,aF]; first | done | rfl)))))))
    refine .sp (fun oi=>?_) (fun _=>?_)
    ·refine .ds 41 oi (by kernel_rfl) (.dC (by kernel_rfl) (by kernel_rfl) (.cl ((au IV).trans (Oy C (ec C n 7) (ey C n 7) (n+7) _ _ _ _)) (.s ((pt 6 0),[w3007,bx (al a1),bk,bx [(iA 0)],bx (ai a0++[(iA a1.Who)]),aM,bx (al a1)]) (.s (pt 4 0) (.s (pt 4 13) (.s (iA a1.Who) (.s (pt 4 0) (.s (pt 4 0) (.s (pt 4 0) (.gd fun hg=>.st (v:=(pt 4 (0+Int.toNat a1.Who*4))) (bN (e:=26) (n:=4) (len:=2) (by kernel_rfl) (by kernel_rfl) rfl hg) (.a2 (f:=fun (y:ah)=>(ag (aa y))) (fun h=>by rw[h]; kernel_rfl) (fun h=>by rw[h]; kernel_rfl) fun ha=>.s (pt 6 2) (.s (iA a1.A) (.s (pt 6 3) (.s (iA a1.B) (.bd (g:=fun (y:(ah×Int))=>(tp [(ag (aa y.1)),(iA y.2)])) (by show C 24 [snap _ (ag (aa ha)),snap _ (iA a1.A),snap _ (iA a1.B)]=_; simp only[cF,eA]; exact hk ha a1.A a1.B) fun ad=>.s (ag (aa ad.1)) (.s (iA ad.2) (.cl ((au zZ).trans (Kh C (aO (cx C) (n+6)) (aA (cx C) (n+6)) (n+6) _ _ _ _ _)) (.s ((pt 7 0),[w3007,bx (al a1),bk,bx [(iA 0)],bx (ai a0++[(iA a1.Who)]),aM,bx (al a1),bx (aa ad.1)]) (.st (bC ..) (.cl ((au eN).trans (pE C (aO (cx C) (n+5)) (aA (cx C) (n+5)) (n+5) _ _ _ _)) ?_))))))))))))))))))))
     refine .s (bA (!(ad.2==0))) (.aY (fun oj=>?_) (fun oj=>?_))
     ·refine .s (A.ifc 31 (iA ad.2)) (.pk (.cr (.fP (.cr (.fP (.cr (.fP (.cl ((au dj).trans (kK C (ec C n 7) (ey C n 7) (n+7) _ _ _)) (.s (bA false) (.gR (.s (tp [(iA ad.2),(bA true)]) (.s (bA true) (.s (iA ad.2) (.fe (.cr (.ok (.st (bq ..) (.aY (fun oo=>?_) (fun oo=>?_)))))))))))))))))))
      ·exact .s aV (.s [w3007,bx (al a1),bk,bx [(iA 0)],bx (ai a0++[(iA a1.Who)]),aM,bx (al a1),bx (aa ad.1)] (.s [w3007,bx (al a1),bk,bx [(iA ad.2)],bx (ai a0++[(iA a1.Who)]),aM,bx (al a1),bx (aa ad.1)] (.s aV (.s (iA ad.2) (.lv (by show aF _ (tp [aV,(iA ad.2)])=_; simp only[cF,fO,aF]; first | done | rfl))))))
      exact .s aV (.s (iA 0) (.lv (by show aF _ (tp [aV,(iA 0)])=_; simp only[cF,fO,aF]; first | done | rfl)))
     refine .cr (.ok (.s (pt 4 0) (.s (pt 4 13) (.s (iA a1.Who) (.s (ag (aa ad.1)) (.s (pt 4 0) (.s (pt 4 0) (.s (pt 4 0) (.gd fun hg=>.st (v:=(pt 4 (0+Int.toNat a1.Who*4))) (bN (e:=26) (n:=4) (len:=2) (by kernel_rfl) (by kernel_rfl) rfl hg) (.a2 (f:=fun (y:ah×ah)=>[w3007,bx (al a1),bk,bx [(iA 0)],bx (aa y.1++aa y.2++[(iA a0.Synced.1),(iA a0.Synced.2),(im (a0.Told.map ae) false),(im (a0.Spoken.1.map af) false),(im (a0.Spoken.2.map af) false),(iA a1.Who)]),aM,bx (al a1),bx (aa ad.1)]) (fun h=>by rw[h]; kernel_rfl) (fun h=>by rw[h]; kernel_rfl) fun ca=>.cr (.ok (.cr (.ok (.s (pt 4 0) (.s (pt 4 0) (.s (ag (aa ca.1++aa ca.2++[(iA a0.Synced.1),(iA a0.Synced.2),(im (a0.Told.map ae) false),(im (a0.Spoken.1.map af) false),(im (a0.Spoken.2.map af) false)])) (.s [w3007,bx (al a1),bx (aa ca.1++aa ca.2++[(iA a0.Synced.1),(iA a0.Synced.2),(im (a0.Told.map ae) false),(im (a0.Spoken.1.map af) false),(im (a0.Spoken.2.map af) false)]),bx [(iA 0)],bx (aa ca.1++aa ca.2++[(iA a0.Synced.1),(iA a0.Synced.2),(im (a0.Told.map ae) false),(im (a0.Spoken.1.map af) false),(im (a0.Spoken.2.map af) false),(iA a1.Who)]),aM,bx (al a1),bx (aa ad.1)] (.s [w3007,bx (al a1),bx (aa ca.1++aa ca.2++[(iA a0.Synced.1),(iA a0.Synced.2),(im (a0.Told.map ae) false),(im (a0.Spoken.1.map af) false),(im (a0.Spoken.2.map af) false)]),bx [(iA 0)],bx (aa ca.1++aa ca.2++[(iA a0.Synced.1),(iA a0.Synced.2),(im (a0.Told.map ae) false),(im (a0.Spoken.1.map af) false),(im (a0.Spoken.2.map af) false),(iA a1.Who)]),aM,bx (al a1),bx (aa ad.1)] (.cl ((au dj).trans (kK C (ec C n 7) (ey C n 7) (n+7) _ _ _)) (.s (bA true) (.fe ?_)))))))))))))))))))))
     exact .cr (.ok (.s (bA false) (.gR (.s (ag (aa ca.1++aa ca.2++[(iA a0.Synced.1),(iA a0.Synced.2),(im (a0.Told.map ae) false),(im (a0.Spoken.1.map af) false),(im (a0.Spoken.2.map af) false)])) (.s (iA 0) (.lv (by show aF _ (tp [(ag (aa ca.1++aa ca.2++[(iA a0.Synced.1),(iA a0.Synced.2),(im (a0.Told.map ae) false),(im (a0.Spoken.1.map af) false),(im (a0.Spoken.2.map af) false)])),(iA 0)])=_; simp only[cF,fO,aF]; first | done | rfl)))))))
    refine .sp (fun oq=>?_) (fun _=>?_)
    ·refine .ds 42 oq (by kernel_rfl) (.dC (by kernel_rfl) (by kernel_rfl) (.cl ((au IW).trans (Oz C (ec C n 7) (ey C n 7) (n+7) _ _ _ _)) (.s ((pt 6 0),[w3007,bx (al a1),bk,bx [(iA 0)],bx (ai a0++[(iA a1.Who)]),aM,bx (al a1)]) (.s (pt 4 0) (.s (pt 4 13) (.s (iA a1.Who) (.s (pt 4 0) (.s (pt 4 13) (.s (iA a1.Who) (.s (pt 4 0) (.s (pt 4 0) (.s (pt 4 0) (.gd fun hg=>.st (v:=(pt 4 (0+Int.toNat a1.Who*4))) (bN (e:=26) (n:=4) (len:=2) (by kernel_rfl) (by kernel_rfl) rfl hg) (.s (pt 4 (0+Int.toNat a1.Who*4+3)) (.a2 (f:=fun (y:(List Bool))=>(im (y.map cB) false)) (fun h=>by rw[h]; kernel_rfl) (fun h=>by rw[h]; kernel_rfl) fun y3186=>.st (eb (e:=4)) (.s (pt 4 0) (.s (pt 4 0) (.s (pt 4 8) (.gd fun hg=>.st (v:=(pt 4 (8+Int.toNat a1.Who*1))) (bN (e:=3) (n:=1) (len:=2) (by kernel_rfl) (by kernel_rfl) rfl hg) (.a2 (f:=fun (y:Int×Int)=>[w3007,bx (al a1),bk,bx [(iA 0)],bx (aa a0.Desks.1++aa a0.Desks.2++[(iA y.1),(iA y.2),(im (a0.Told.map ae) false),(im (a0.Spoken.1.map af) false),(im (a0.Spoken.2.map af) false),(iA a1.Who)]),aM,bx (al a1)]) (fun h=>by rw[h]; kernel_rfl) (fun h=>by rw[h]; kernel_rfl) fun cc=>?_))))))))))))))))))))
     exact .cr (.ok (.s (pt 4 0) (.s (pt 4 0) (.s (ag (aa a0.Desks.1++aa a0.Desks.2++[(iA cc.1),(iA cc.2),(im (a0.Told.map ae) false),(im (a0.Spoken.1.map af) false),(im (a0.Spoken.2.map af) false)])) (.s [w3007,bx (al a1),bx (aa a0.Desks.1++aa a0.Desks.2++[(iA cc.1),(iA cc.2),(im (a0.Told.map ae) false),(im (a0.Spoken.1.map af) false),(im (a0.Spoken.2.map af) false)]),bx [(iA 0)],bx (aa a0.Desks.1++aa a0.Desks.2++[(iA cc.1),(iA cc.2),(im (a0.Told.map ae) false),(im (a0.Spoken.1.map af) false),(im (a0.Spoken.2.map af) false),(iA a1.Who)]),aM,bx (al a1)] (.s [w3007,bx (al a1),bx (aa a0.Desks.1++aa a0.Desks.2++[(iA cc.1),(iA cc.2),(im (a0.Told.map ae) false),(im (a0.Spoken.1.map af) false),(im (a0.Spoken.2.map af) false)]),bx [(iA 0)],bx (aa a0.Desks.1++aa a0.Desks.2++[(iA cc.1),(iA cc.2),(im (a0.Told.map ae) false),(im (a0.Spoken.1.map af) false),(im (a0.Spoken.2.map af) false),(iA a1.Who)]),aM,bx (al a1)] (.cl ((au dj).trans (kK C (ec C n 7) (ey C n 7) (n+7) _ _ _)) (.s (bA true) (.fe (.cr (.ok (.s (bA false) (.gR (.s (ag (aa a0.Desks.1++aa a0.Desks.2++[(iA cc.1),(iA cc.2),(im (a0.Told.map ae) false),(im (a0.Spoken.1.map af) false),(im (a0.Spoken.2.map af) false)])) (.s (iA 0) (.lv (by show aF _ (tp [(ag (aa a0.Desks.1++aa a0.Desks.2++[(iA cc.1),(iA cc.2),(im (a0.Told.map ae) false),(im (a0.Spoken.1.map af) false),(im (a0.Spoken.2.map af) false)])),(iA 0)])=_; simp only[cF,fO,aF]; first | done | rfl)))))))))))))))))
    refine .sp (fun pc=>?_) (fun _=>?_)
    ·refine .ds 43 pc (by kernel_rfl) (.dC (by kernel_rfl) (by kernel_rfl) (.cl ((au IX).trans (OA C (ec C n 7) (ey C n 7) (n+7) _ _ _ _)) (.s ((pt 6 0),[w3007,bx (al a1),bk,bx [(iA 0)],bx (ai a0++[(iA a1.Who)]),aM,bx (al a1)]) (.s (pt 4 0) (.s (pt 4 13) (.s (iA a1.Who) (.s (pt 4 0) (.s (pt 4 0) (.s (pt 4 0) (.gd fun hg=>.st (v:=(pt 4 (0+Int.toNat a1.Who*4))) (bN (e:=26) (n:=4) (len:=2) (by kernel_rfl) (by kernel_rfl) rfl hg) (.s (pt 4 (0+Int.toNat a1.Who*4+1)) (.a2 (f:=fun (y:(List ak))=>(im (y.map ae) false)) (fun h=>by rw[h]; kernel_rfl) (fun h=>by rw[h]; kernel_rfl) fun ps=>.s (pt 6 2) (.s (iA a1.A) (.st (eb (e:=59)) (.st (jB ..) (.bd (cn a1.A 0 (wr .i64 (((ps.length:Int)) - 1))) fun qi=>.cl ((au eN).trans (pE C (aO (cx C) (n+6)) (aA (cx C) (n+6)) (n+6) _ _ _ _)) (.s (bA (!qi)) (.aY (fun qv=>?_) (fun qv=>?_)))))))))))))))))))
     ·exact .s (A.ifc 31 (iA 530)) (.pk (.cr (.fP (.cr (.fP (.cl ((au dj).trans (kK C (ec C n 7) (ey C n 7) (n+7) _ _ _)) (.s (bA false) (.gR (.s (tp [(iA 530),(bA true)]) (.s (bA true) (.s (iA 530) (.fe (.cr (.ok (.s (bA true) (.fe (.s aV (.s [w3007,bx (al a1),bk,bx [(iA 0)],bx (ai a0++[(iA a1.Who)]),aM,bx (al a1)] (.s [w3007,bx (al a1),bk,bx [(iA 530)],bx (ai a0++[(iA a1.Who)]),aM,bx (al a1)] (.s aV (.s (iA 530) (.lv (by show aF _ (tp [aV,(iA 530)])=_; simp only[cF,fO,aF]; first | done | rfl)))))))))))))))))))))))
     refine .cr (.ok (.s (pt 4 0) (.s (pt 4 13) (.s (iA a1.Who) (.s (pt 6 2) (.s (iA a1.A) (.bd (iT (e:=59) (es:=3)) fun ck=>.s (ag (ae ck)) (.cT (by kernel_rfl) (.cl ((au CU).trans (La C (aO (cx C) (n+6)) (aA (cx C) (n+6)) (n+6) _ _ _)) (.s ((pt 7 0),[w3007,bx (al a1),bk,bx [(iA 0)],bx (ai a0++[(iA a1.Who)]),aM,bx (al a1),bx (ae ck)]) (.cr (.ok (.dp (f:=fun (y:Bool)=>(bA y)) (fun _=>rfl) (oW xf (by kernel_rfl) (by kernel_rfl) (jF (fj cP eo ((aC.mk a0 a1.Who):aC) rfl rfl) (jF rfl (jF (lB (fj cA ou (ck:ak) rfl rfl)) rfl))) (h69_86 ((aC.mk a0 a1.Who)) a1.Who ck)) fun si=>.ok (.cl ((au eN).trans (pE C (aO (cx C) (n+6)) (aA (cx C) (n+6)) (n+6) _ _ _ _)) (.s (bA (!si)) (.aY (fun sk=>?_) (fun sk=>?_)))))))))))))))))
     ·exact .s (A.ifc 31 (iA 530)) (.pk (.cr (.fP (.cr (.fP (.cl ((au dj).trans (kK C (ec C n 7) (ey C n 7) (n+7) _ _ _)) (.s (bA false) (.gR (.s (tp [(iA 530),(bA true)]) (.s (bA true) (.s (iA 530) (.fe (.cr (.ok (.s (bA true) (.fe (.s aV (.s [w3007,bx (al a1),bk,bx [(iA 0)],bx (ai a0++[(iA a1.Who)]),aM,bx (al a1),bx (ae ck)] (.s [w3007,bx (al a1),bk,bx [(iA 530)],bx (ai a0++[(iA a1.Who)]),aM,bx (al a1),bx (ae ck)] (.s aV (.s (iA 530) (.lv (by show aF _ (tp [aV,(iA 530)])=_; simp only[cF,fO,aF]; first | done | rfl)))))))))))))))))))))))
     refine .cr (.ok (.s (pt 4 0) (.s (pt 4 0) (.s (pt 4 10) (.s (im (a0.Told.map ae) false) (.s (pt 6 2) (.s (iA a1.A) (.bd (iT (e:=59) (es:=3)) fun cv=>.s (ag (ae cv)) (.cT (by kernel_rfl) (.s (im [[(iA cv.No),(iA cv.Holder),(iA cv.Until)]] true) (.cT (by kernel_rfl) (.cl ((au FG).trans (MQ C (aO (cx C) (n+6)) (aA (cx C) (n+6)) (n+6) _ _ _)) (.st (eb (e:=59)) (.st (eb (e:=59)) (.bd (gI (e:=59) (es:=3) (f:=ae) (l:=a0.Told) (a:=0) (b:=(a0.Told.length:Int)) (by kernel_rfl) (by kernel_rfl) (fun _=>rfl) (.inl ⟨rfl,rfl⟩)) fun so=>.cr (.ok (.bd (g:=fun (y:List ak)=>((cH 8 0 y.length false),[w3007,bx (al a1),bk,bx [(iA 0)],bx (ai a0++[(iA a1.Who)]),aM,bx (al a1),bx (ae ck),aD.row false 3 (y.map ae)])) (lN zu (l:=so) (l2:=[cv]) (b8 (f:=ae) ([cv]:List ak) _ _)) fun q=>.s (pt 4 0) (.s (pt 4 0) (.s (pt 4 10) (.s [w3007,bx (al a1),bk,bx [(iA 0)],(pV a0 q a1),aM,bx (al a1),bx (ae ck),aD.row false 3 (q.map ae)] ?_))))))))))))))))))))
     exact .cr (.ok (.s (pt 4 0) (.s (pt 4 0) (.s (ag (aa a0.Desks.1++aa a0.Desks.2++[(iA a0.Synced.1),(iA a0.Synced.2),(cH 8 0 q.length false),(im (a0.Spoken.1.map af) false),(im (a0.Spoken.2.map af) false)])) (.s [w3007,bx (al a1),(rO a0 q),bx [(iA 0)],(pV a0 q a1),aM,bx (al a1),bx (ae ck),aD.row false 3 (q.map ae)] (.s [w3007,bx (al a1),(rO a0 q),bx [(iA 0)],(pV a0 q a1),aM,bx (al a1),bx (ae ck),aD.row false 3 (q.map ae)] (.cl ((au dj).trans (kK C (ec C n 7) (ey C n 7) (n+7) _ _ _)) (.s (bA true) (.fe (.cr (.ok (.s (bA false) (.gR (.s (ag (aa a0.Desks.1++aa a0.Desks.2++[(iA a0.Synced.1),(iA a0.Synced.2),(cH 8 0 q.length false),(im (a0.Spoken.1.map af) false),(im (a0.Spoken.2.map af) false)])) (.s (iA 0) (.lv (by show aF [w3007,bx (al a1),(rO a0 q),bx [(iA 0)],(pV a0 q a1),aM,bx (al a1),bx (ae ck),aD.row false 3 (q.map ae)] (tp [(ag (aa a0.Desks.1++aa a0.Desks.2++[(iA a0.Synced.1),(iA a0.Synced.2),(cH 8 0 q.length false),(im (a0.Spoken.1.map af) false),(im (a0.Spoken.2.map af) false)])),(iA 0)])=_; first | (simp only[cF,eA,aF,bH (H:=[w3007,bx (al a1),(rO a0 q),bx [(iA 0)],(pV a0 q a1),aM,bx (al a1),bx (ae ck),aD.row false 3 (q.map ae)]) (b:=8) (es:=3) (wr:=false) (l:=q) cA rfl]; done) | (simp only[cF,fO,aF,bH (H:=[w3007,bx (al a1),(rO a0 q),bx [(iA 0)],(pV a0 q a1),aM,bx (al a1),bx (ae ck),aD.row false 3 (q.map ae)]) (b:=8) (es:=3) (wr:=false) (l:=q) cA rfl]; first | done | rfl))))))))))))))))))
    refine .sp (fun tb=>?_) (fun _=>?_)
    ·refine .ds 44 tb (by kernel_rfl) (.dC (by kernel_rfl) (by kernel_rfl) (.cl ((au IY).trans (OB C (ec C n 7) (ey C n 7) (n+7) _ _ _ _)) (.s ((pt 6 0),[w3007,bx (al a1),bk,bx [(iA 0)],bx (ai a0++[(iA a1.Who)]),aM,bx (al a1)]) (.s (pt 4 0) (.s (pt 4 13) (.s (iA a1.Who) (.s (pt 4 0) (.s (pt 4 0) (.s (pt 4 0) (.gd fun hg=>.st (v:=(pt 4 (0+Int.toNat a1.Who*4))) (bN (e:=26) (n:=4) (len:=2) (by kernel_rfl) (by kernel_rfl) rfl hg) (.s (pt 4 (0+Int.toNat a1.Who*4+2)) (.a2 (f:=fun (y:(List av))=>(im (y.map af) false)) (fun h=>by rw[h]; kernel_rfl) (fun h=>by rw[h]; kernel_rfl) fun tk=>.s (pt 6 2) (.s (iA a1.A) (.st (eb (e:=62)) (.st (jB ..) (.bd (cn a1.A 0 (wr .i64 (((tk.length:Int)) - 1))) fun tm=>.cl ((au eN).trans (pE C (aO (cx C) (n+6)) (aA (cx C) (n+6)) (n+6) _ _ _ _)) (.s (bA (!tm)) (.aY (fun ts=>?_) (fun ts=>?_)))))))))))))))))))
     ·exact .s (A.ifc 31 (iA 530)) (.pk (.cr (.fP (.cr (.fP (.cl ((au dj).trans (kK C (ec C n 7) (ey C n 7) (n+7) _ _ _)) (.s (bA false) (.gR (.s (tp [(iA 530),(bA true)]) (.s (bA true) (.s (iA 530) (.fe (.cr (.ok (.s (bA true) (.fe (.s aV (.s [w3007,bx (al a1),bk,bx [(iA 0)],bx (ai a0++[(iA a1.Who)]),aM,bx (al a1)] (.s [w3007,bx (al a1),bk,bx [(iA 530)],bx (ai a0++[(iA a1.Who)]),aM,bx (al a1)] (.s aV (.s (iA 530) (.lv (by show aF _ (tp [aV,(iA 530)])=_; simp only[cF,fO,aF]; first | done | rfl)))))))))))))))))))))))
     refine .cr (.ok (.s (pt 4 0) (.s (pt 4 13) (.s (iA a1.Who) (.s (pt 6 2) (.s (iA a1.A) (.bd (iT (e:=62) (es:=2)) fun p=>.s (ag [(iA p.Bar),(iA p.Program)]) (.cT (by kernel_rfl) (.cl ((au FJ).trans (MU C (aO (cx C) (n+6)) (aA (cx C) (n+6)) (n+6) _ _ _)) (.s ((pt 7 0),[w3007,bx (al a1),bk,bx [(iA 0)],bx (ai a0++[(iA a1.Who)]),aM,bx (al a1),bx [(iA p.Bar),(iA p.Program)]]) (.cr (.ok (.dp (f:=fun (y:Bool)=>(bA y)) (fun _=>rfl) (oW xf (by kernel_rfl) (by kernel_rfl) (jF (fj cP eo ((aC.mk a0 a1.Who):aC) rfl rfl) (jF rfl (jF (lB (fj cR uk (p:av) rfl rfl)) rfl))) (h69_85 ((aC.mk a0 a1.Who)) a1.Who p)) fun tw=>.ok (.cl ((au eN).trans (pE C (aO (cx C) (n+6)) (aA (cx C) (n+6)) (n+6) _ _ _ _)) (.s (bA (!tw)) (.aY (fun vr=>?_) (fun vr=>?_)))))))))))))))))
     ·exact .s (A.ifc 31 (iA 530)) (.pk (.cr (.fP (.cr (.fP (.cl ((au dj).trans (kK C (ec C n 7) (ey C n 7) (n+7) _ _ _)) (.s (bA false) (.gR (.s (tp [(iA 530),(bA true)]) (.s (bA true) (.s (iA 530) (.fe (.cr (.ok (.s (bA true) (.fe (.s aV (.s [w3007,bx (al a1),bk,bx [(iA 0)],bx (ai a0++[(iA a1.Who)]),aM,bx (al a1),bx [(iA p.Bar),(iA p.Program)]] (.s [w3007,bx (al a1),bk,bx [(iA 530)],bx (ai a0++[(iA a1.Who)]),aM,bx (al a1),bx [(iA p.Bar),(iA p.Program)]] (.s aV (.s (iA 530) (.lv (by show aF _ (tp [aV,(iA 530)])=_; simp only[cF,fO,aF]; first | done | rfl)))))))))))))))))))))))
     refine .cr (.ok (.s (pt 4 0) (.s (pt 4 13) (.s (iA a1.Who) (.s (pt 4 0) (.s (pt 4 13) (.s (iA a1.Who) (.s (pt 4 0) (.s (pt 4 0) (.s (pt 4 11) (.gd fun hg=>.st (v:=(pt 4 (11+Int.toNat a1.Who*1))) (bN (e:=23) (n:=1) (len:=2) (by kernel_rfl) (by kernel_rfl) rfl hg) (.a2 (f:=fun (y:(List av))=>(im (y.map af) false)) (fun h=>by rw[h]; kernel_rfl) (fun h=>by rw[h]; kernel_rfl) fun hf=>.s (pt 6 2) (.s (iA a1.A) (.bd (iT (e:=62) (es:=2)) fun cy=>.s (ag [(iA cy.Bar),(iA cy.Program)]) (.cT (by kernel_rfl) (.s (im [[(iA cy.Bar),(iA cy.Program)]] true) (.s (pt 4 0) (.s (pt 4 0) (.s (pt 4 11) (.cT (by kernel_rfl) ?_))))))))))))))))))))
     refine .cl ((au FH).trans (MR C (aO (cx C) (n+6)) (aA (cx C) (n+6)) (n+6) _ _ _)) (.st (eb (e:=62)) (.st (eb (e:=62)) (.bd (gI (e:=62) (es:=2) (f:=af) (l:=hf) (a:=0) (b:=(hf.length:Int)) (by kernel_rfl) (by kernel_rfl) (fun _=>rfl) (.inl ⟨rfl,rfl⟩)) fun vt=>.cr (.ok (.cT (by kernel_rfl) (.bd (g:=fun (y:List av)=>((cH 8 0 y.length false),[w3007,bx (al a1),bk,bx [(iA 0)],bx (ai a0++[(iA a1.Who)]),aM,bx (al a1),bx [(iA p.Bar),(iA p.Program)],aD.row false 2 (y.map af)])) (lN zv (l:=vt) (l2:=[cy]) (b8 (f:=af) ([cy]:List av) _ _)) fun d=>.sp (fun xc=>?_) (fun _=>?_)))))))
     ·exact .st (v:=(pt 4 11)) (by rw[of_decide_eq_true xc]; kernel_rfl) (.s [w3007,bx (al a1),bk,bx [(iA 0)],(pW a0 d a1),aM,bx (al a1),bx [(iA p.Bar),(iA p.Program)],aD.row false 2 (d.map af)] (.cr (.ok (.s (pt 4 0) (.s (pt 4 0) (.s (ag (aa a0.Desks.1++aa a0.Desks.2++[(iA a0.Synced.1),(iA a0.Synced.2),(im (a0.Told.map ae) false),(cH 8 0 d.length false),(im (a0.Spoken.2.map af) false)])) (.s [w3007,bx (al a1),(pg a0 d),bx [(iA 0)],(pW a0 d a1),aM,bx (al a1),bx [(iA p.Bar),(iA p.Program)],aD.row false 2 (d.map af)] (.s [w3007,bx (al a1),(pg a0 d),bx [(iA 0)],(pW a0 d a1),aM,bx (al a1),bx [(iA p.Bar),(iA p.Program)],aD.row false 2 (d.map af)] (.cl ((au dj).trans (kK C (ec C n 7) (ey C n 7) (n+7) _ _ _)) (.s (bA true) (.fe (.cr (.ok (.s (bA false) (.gR (.s (ag (aa a0.Desks.1++aa a0.Desks.2++[(iA a0.Synced.1),(iA a0.Synced.2),(im (a0.Told.map ae) false),(cH 8 0 d.length false),(im (a0.Spoken.2.map af) false)])) (.s (iA 0) (.lv (by show aF [w3007,bx (al a1),(pg a0 d),bx [(iA 0)],(pW a0 d a1),aM,bx (al a1),bx [(iA p.Bar),(iA p.Program)],aD.row false 2 (d.map af)] (tp [(ag (aa a0.Desks.1++aa a0.Desks.2++[(iA a0.Synced.1),(iA a0.Synced.2),(im (a0.Told.map ae) false),(cH 8 0 d.length false),(im (a0.Spoken.2.map af) false)])),(iA 0)])=_; first | (simp only[cF,eA,aF,bH (H:=[w3007,bx (al a1),(pg a0 d),bx [(iA 0)],(pW a0 d a1),aM,bx (al a1),bx [(iA p.Bar),(iA p.Program)],aD.row false 2 (d.map af)]) (b:=8) (es:=2) (wr:=false) (l:=d) cR rfl]; done) | (simp only[cF,fO,aF,bH (H:=[w3007,bx (al a1),(pg a0 d),bx [(iA 0)],(pW a0 d a1),aM,bx (al a1),bx [(iA p.Bar),(iA p.Program)],aD.row false 2 (d.map af)]) (b:=8) (es:=2) (wr:=false) (l:=d) cR rfl]; first | done | rfl))))))))))))))))))))
     refine .sp (fun xl=>?_) (fun _=>?_)
     ·exact .st (v:=(pt 4 12)) (by rw[of_decide_eq_true xl]; kernel_rfl) (.s [w3007,bx (al a1),bk,bx [(iA 0)],(pX a0 d a1),aM,bx (al a1),bx [(iA p.Bar),(iA p.Program)],aD.row false 2 (d.map af)] (.cr (.ok (.s (pt 4 0) (.s (pt 4 0) (.s (ag (aa a0.Desks.1++aa a0.Desks.2++[(iA a0.Synced.1),(iA a0.Synced.2),(im (a0.Told.map ae) false),(im (a0.Spoken.1.map af) false),(cH 8 0 d.length false)])) (.s [w3007,bx (al a1),(ph a0 d),bx [(iA 0)],(pX a0 d a1),aM,bx (al a1),bx [(iA p.Bar),(iA p.Program)],aD.row false 2 (d.map af)] (.s [w3007,bx (al a1),(ph a0 d),bx [(iA 0)],(pX a0 d a1),aM,bx (al a1),bx [(iA p.Bar),(iA p.Program)],aD.row false 2 (d.map af)] (.cl ((au dj).trans (kK C (ec C n 7) (ey C n 7) (n+7) _ _ _)) (.s (bA true) (.fe (.cr (.ok (.s (bA false) (.gR (.s (ag (aa a0.Desks.1++aa a0.Desks.2++[(iA a0.Synced.1),(iA a0.Synced.2),(im (a0.Told.map ae) false),(im (a0.Spoken.1.map af) false),(cH 8 0 d.length false)])) (.s (iA 0) (.lv (by show aF [w3007,bx (al a1),(ph a0 d),bx [(iA 0)],(pX a0 d a1),aM,bx (al a1),bx [(iA p.Bar),(iA p.Program)],aD.row false 2 (d.map af)] (tp [(ag (aa a0.Desks.1++aa a0.Desks.2++[(iA a0.Synced.1),(iA a0.Synced.2),(im (a0.Told.map ae) false),(im (a0.Spoken.1.map af) false),(cH 8 0 d.length false)])),(iA 0)])=_; first | (simp only[cF,eA,aF,bH (H:=[w3007,bx (al a1),(ph a0 d),bx [(iA 0)],(pX a0 d a1),aM,bx (al a1),bx [(iA p.Bar),(iA p.Program)],aD.row false 2 (d.map af)]) (b:=8) (es:=2) (wr:=false) (l:=d) cR rfl]; done) | (simp only[cF,fO,aF,bH (H:=[w3007,bx (al a1),(ph a0 d),bx [(iA 0)],(pX a0 d a1),aM,bx (al a1),bx [(iA p.Bar),(iA p.Program)],aD.row false 2 (d.map af)]) (b:=8) (es:=2) (wr:=false) (l:=d) cR rfl]; first | done | rfl))))))))))))))))))))
     exact .nn
    refine .sp (fun xt=>?_) (fun _=>?_)
    ·refine .ds 45 xt (by kernel_rfl) (.dC (by kernel_rfl) (by kernel_rfl) (.cl ((au IZ).trans (OC C (ec C n 7) (ey C n 7) (n+7) _ _ _ _)) (.s ((pt 6 0),[w3007,bx (al a1),bk,bx [(iA 0)],bx (ai a0++[(iA a1.Who)]),aM,bx (al a1)]) (.s (pt 4 0) (.s (pt 4 13) (.s (iA a1.Who) (.s (pt 4 0) (.s (pt 4 0) (.s (pt 4 0) (.gd fun hg=>.st (v:=(pt 4 (0+Int.toNat a1.Who*4))) (bN (e:=26) (n:=4) (len:=2) (by kernel_rfl) (by kernel_rfl) rfl hg) (.a2 (f:=fun (y:ah)=>(ag [(iA y.Self),(im (y.Leases.map ae) false),(im (y.Calls.map af) false),(im (y.Order.map cB) false)])) (fun h=>by rw[h]; kernel_rfl) (fun h=>by rw[h]; kernel_rfl) fun an=>.cT (by kernel_rfl) (.s ((pt 7 0),[w3007,bx (al a1),bk,bx [(iA 0)],bx (ai a0++[(iA a1.Who)]),aM,bx (al a1),bx [(iA 0),(im [] true),(im [] true),(im [] true)]]) (.s [w3007,bx (al a1),bk,bx [(iA 0)],bx (ai a0++[(iA a1.Who)]),aM,bx (al a1),bx (aa an)] (.s (pt 6 2) (.s (iA a1.A) (.s (pt 4 0) (.s (pt 4 13) (.s (iA a1.Who) (.s (pt 4 0) (.s (pt 4 0) (.s (pt 4 8) ?_)))))))))))))))))))))
     refine .gd fun hg=>.st (v:=(pt 4 (8+Int.toNat a1.Who*1))) (bN (e:=3) (n:=1) (len:=2) (by kernel_rfl) (by kernel_rfl) rfl hg) (.a2 (f:=fun (y:Int)=>(iA y)) (fun h=>by rw[h]; kernel_rfl) (fun h=>by rw[h]; kernel_rfl) fun ys=>.s (pt 7 3) (.s (im (an.Order.map cB) false) (.st (eb (e:=4)) (.bd (cn a1.A ys ((an.Order.length:Int))) fun zc=>.cl ((au eN).trans (pE C (aO (cx C) (n+6)) (aA (cx C) (n+6)) (n+6) _ _ _ _)) (.s (bA (!zc)) (.aY (fun zm=>?_) (fun zm=>?_)))))))
     ·exact .s (A.ifc 31 (iA 530)) (.pk (.cr (.fP (.cr (.fP (.cl ((au dj).trans (kK C (ec C n 7) (ey C n 7) (n+7) _ _ _)) (.s (bA false) (.gR (.s (tp [(iA 530),(bA true)]) (.s (bA true) (.s (iA 530) (.fe (.cr (.ok (.s (bA true) (.fe (.s aV (.s [w3007,bx (al a1),bk,bx [(iA 0)],bx (ai a0++[(iA a1.Who)]),aM,bx (al a1),bx (aa an)] (.s [w3007,bx (al a1),bk,bx [(iA 530)],bx (ai a0++[(iA a1.Who)]),aM,bx (al a1),bx (aa an)] (.s aV (.s (iA 530) (.lv (by show aF _ (tp [aV,(iA 530)])=_; simp only[cF,fO,aF]; first | done | rfl)))))))))))))))))))))))
     refine .cr (.ok (.s (ag (aa an)) (.bd (g:=fun (y:((List (List UInt8))×Int))=>(tp [(im (List.map (cL c8) y.1) false),(iA y.2)])) (by show C 9 [snap _ (ag (aa an))]=_; simp only[cF,eA]; exact h9 an) fun cm=>.s (im (List.map (cL c8) cm.1) false) (.s (iA cm.2) (.st (bC ..) (.cl ((au eN).trans (pE C (aO (cx C) (n+6)) (aA (cx C) (n+6)) (n+6) _ _ _ _)) (.s (bA (!(cm.2==0))) (.aY (fun zn=>?_) (fun zn=>?_)))))))))
     ·refine .s (A.ifc 31 (iA cm.2)) (.pk (.cr (.fP (.cr (.fP (.cl ((au dj).trans (kK C (ec C n 7) (ey C n 7) (n+7) _ _ _)) (.s (bA false) (.gR (.s (tp [(iA cm.2),(bA true)]) (.s (bA true) (.s (iA cm.2) (.fe (.cr (.ok (.st (bq ..) (.aY (fun zz=>?_) (fun zz=>?_)))))))))))))))))
      ·exact .s aV (.s [w3007,bx (al a1),bk,bx [(iA 0)],bx (ai a0++[(iA a1.Who)]),aM,bx (al a1),bx (aa an)] (.s [w3007,bx (al a1),bk,bx [(iA cm.2)],bx (ai a0++[(iA a1.Who)]),aM,bx (al a1),bx (aa an)] (.s aV (.s (iA cm.2) (.lv (by show aF _ (tp [aV,(iA cm.2)])=_; simp only[cF,fO,aF]; first | done | rfl))))))
      exact .s aV (.s (iA 0) (.lv (by show aF _ (tp [aV,(iA 0)])=_; simp only[cF,fO,aF]; first | done | rfl)))
     refine .cr (.ok (.s (pt 4 0) (.s (pt 4 13) (.s (iA a1.Who) (.s (pt 6 2) (.s (iA a1.A) (.bd (eY (e:=30) (es:=1) (f:=(cL c8)) (l:=cm.1) (a:=0) (b:=a1.A) (by kernel_rfl) (by kernel_rfl) (fun _=>rfl) (.inl ⟨rfl,rfl⟩) (.inr ⟨_,rfl⟩)) fun hh=>.bd (g:=fun (y:(ah×Int))=>(tp [(ag [(iA y.1.Self),(im (y.1.Leases.map ae) false),(im (y.1.Calls.map af) false),(im (y.1.Order.map cB) false)]),(iA y.2)])) (by show C 11 [snap _ (iA a1.Who),snap _ (im (List.map (cL c8) hh) false)]=_; simp only[cF,eA]; exact hi a1.Who hh) fun ao=>.s (ag (aa ao.1)) (.s (iA ao.2) (.cl ((au zZ).trans (Kh C (aO (cx C) (n+6)) (aA (cx C) (n+6)) (n+6) _ _ _ _ _)) (.s ((pt 8 0),[w3007,bx (al a1),bk,bx [(iA 0)],bx (ai a0++[(iA a1.Who)]),aM,bx (al a1),bx (aa an),bx (aa ao.1)]) (.st (bC ..) (.cl ((au eN).trans (pE C (aO (cx C) (n+5)) (aA (cx C) (n+5)) (n+5) _ _ _ _)) (.s (bA (!(ao.2==0))) (.aY (fun hk3245=>?_) (fun hk3245=>?_)))))))))))))))
     ·refine .s (A.ifc 31 (iA ao.2)) (.pk (.cr (.fP (.cr (.fP (.cr (.fP (.cl ((au dj).trans (kK C (ec C n 7) (ey C n 7) (n+7) _ _ _)) (.s (bA false) (.gR (.s (tp [(iA ao.2),(bA true)]) (.s (bA true) (.s (iA ao.2) (.fe (.cr (.ok (.st (bq ..) (.aY (fun hk3246=>?_) (fun hk3246=>?_)))))))))))))))))))
      ·exact .s aV (.s [w3007,bx (al a1),bk,bx [(iA 0)],bx (ai a0++[(iA a1.Who)]),aM,bx (al a1),bx (aa an),bx (aa ao.1)] (.s [w3007,bx (al a1),bk,bx [(iA ao.2)],bx (ai a0++[(iA a1.Who)]),aM,bx (al a1),bx (aa an),bx (aa ao.1)] (.s aV (.s (iA ao.2) (.lv (by show aF _ (tp [aV,(iA ao.2)])=_; simp only[cF,fO,aF]; first | done | rfl))))))
      exact .s aV (.s (iA 0) (.lv (by show aF _ (tp [aV,(iA 0)])=_; simp only[cF,fO,aF]; first | done | rfl)))
     refine .cr (.ok (.s (pt 4 0) (.s (pt 4 13) (.s (iA a1.Who) (.s (ag (aa ao.1)) (.s (pt 4 0) (.s (pt 4 0) (.s (pt 4 0) (.gd fun hg=>.st (v:=(pt 4 (0+Int.toNat a1.Who*4))) (bN (e:=26) (n:=4) (len:=2) (by kernel_rfl) (by kernel_rfl) rfl hg) (.a2 (f:=fun (y:ah×ah)=>[w3007,bx (al a1),bk,bx [(iA 0)],bx (aa y.1++aa y.2++[(iA a0.Synced.1),(iA a0.Synced.2),(im (a0.Told.map ae) false),(im (a0.Spoken.1.map af) false),(im (a0.Spoken.2.map af) false),(iA a1.Who)]),aM,bx (al a1),bx (aa an),bx (aa ao.1)]) (fun h=>by rw[h]; kernel_rfl) (fun h=>by rw[h]; kernel_rfl) fun ch=>.cr (.ok (.cr (.ok (.s (pt 4 0) (.s (pt 4 0) (.s (ag (aa ch.1++aa ch.2++[(iA a0.Synced.1),(iA a0.Synced.2),(im (a0.Told.map ae) false),(im (a0.Spoken.1.map af) false),(im (a0.Spoken.2.map af) false)])) (.s [w3007,bx (al a1),bx (aa ch.1++aa ch.2++[(iA a0.Synced.1),(iA a0.Synced.2),(im (a0.Told.map ae) false),(im (a0.Spoken.1.map af) false),(im (a0.Spoken.2.map af) false)]),bx [(iA 0)],bx (aa ch.1++aa ch.2++[(iA a0.Synced.1),(iA a0.Synced.2),(im (a0.Told.map ae) false),(im (a0.Spoken.1.map af) false),(im (a0.Spoken.2.map af) false),(iA a1.Who)]),aM,bx (al a1),bx (aa an),bx (aa ao.1)] (.s [w3007,bx (al a1),bx (aa ch.1++aa ch.2++[(iA a0.Synced.1),(iA a0.Synced.2),(im (a0.Told.map ae) false),(im (a0.Spoken.1.map af) false),(im (a0.Spoken.2.map af) false)]),bx [(iA 0)],bx (aa ch.1++aa ch.2++[(iA a0.Synced.1),(iA a0.Synced.2),(im (a0.Told.map ae) false),(im (a0.Spoken.1.map af) false),(im (a0.Spoken.2.map af) false),(iA a1.Who)]),aM,bx (al a1),bx (aa an),bx (aa ao.1)] (.cl ((au dj).trans (kK C (ec C n 7) (ey C n 7) (n+7) _ _ _)) (.s (bA true) (.fe ?_)))))))))))))))))))))
     exact .cr (.ok (.s (bA false) (.gR (.s (ag (aa ch.1++aa ch.2++[(iA a0.Synced.1),(iA a0.Synced.2),(im (a0.Told.map ae) false),(im (a0.Spoken.1.map af) false),(im (a0.Spoken.2.map af) false)])) (.s (iA 0) (.lv (by show aF _ (tp [(ag (aa ch.1++aa ch.2++[(iA a0.Synced.1),(iA a0.Synced.2),(im (a0.Told.map ae) false),(im (a0.Spoken.1.map af) false),(im (a0.Spoken.2.map af) false)])),(iA 0)])=_; simp only[cF,fO,aF]; first | done | rfl)))))))
    exact .nn
def DT (a0:aE) (a1:bj):Option (aE×Int):=JN aH a0 a1
def tv (C:OT):Prop:=∀ (a0:aE) (a1:bj),C 17 [(ag (ai a0)),(ag (al a1))]=(DT a0 a1).map fun y=>(tp [(ag (ai y.1)),(iA y.2)])
def oG (n:Nat) (ab:Bool) (q:(List bj)) (u:Int) (ad:Int) (an:(List ak)) (ao:(List av)) (bm:(List Bool)) (bs:Int) (ca:(List ak)) (cc:(List av)) (ch:(List Bool)) (ck:Int) (cm:Int) (cn:(List ak)) (cv:(List av)) (cy:(List av)):Nat->Int->aE->Option ((Bool×aE)⊕(aE))
 | 0,_,_=>none
 | m+1,d,p=>bif (decide (d<u)) then ((bX q d).bind fun dd=>(DT p dd).bind fun y=>bif (y.2 != 0) then (some ((Sum.inl ((false,p))))) else (oG n ab q u ad an ao bm bs ca cc ch ck cm cn cv cy m (wr .i64 (d+1)) y.1)) else (some ((Sum.inr p)))
theorem BV (ha:tv C) (fs:Bool) (dd:(List bj)) (fv:Int) (ad:Int) (an:(List ak)) (ao:(List av)) (bm:(List Bool)) (bs:Int) (ca:(List ak)) (cc:(List av)) (ch:(List Bool)) (ck:Int) (cm:Int) (cn:(List ak)) (cv:(List av)) (cy:(List av)) {K:((Bool×aE)⊕(aE))->Option γ} (x0:∀ (d:Bool) (p:aE) (s2:A) (ea:A) (eg:A) (ej:A) (q0:aD) (q2:aD) (q3:aD),J φ (kr (St.mk [(2,s2),(4,(pt 1 0)),(5,(bA d)),(10,ea),(11,eg),(12,ej)] [q0,bx [(iA p.Desks.1.Self),(im (p.Desks.1.Leases.map ae) false),(im (p.Desks.1.Calls.map af) false),(im (p.Desks.1.Order.map cB) false),(iA p.Desks.2.Self),(im (p.Desks.2.Leases.map ae) false),(im (p.Desks.2.Calls.map af) false),(im (p.Desks.2.Order.map cB) false),(iA p.Synced.1),(iA p.Synced.2),(im (p.Told.map ae) false),(im (p.Spoken.1.map af) false),(im (p.Spoken.2.map af) false)],q2,q3])) kL (K (Sum.inl ((d,p)))) some) (x1:∀ (d:aE) (s5:A) (ea:A) (eg:A) (ej:A),J φ (kx 0 (St.mk [(2,(pt 0 0)),(4,(pt 1 0)),(5,s5),(10,ea),(11,eg),(12,ej)] [bx [(iA d.Desks.1.Self),(im (d.Desks.1.Leases.map ae) false),(im (d.Desks.1.Calls.map af) false),(im (d.Desks.1.Order.map cB) false),(iA d.Desks.2.Self),(im (d.Desks.2.Leases.map ae) false),(im (d.Desks.2.Calls.map af) false),(im (d.Desks.2.Order.map cB) false),(iA d.Synced.1),(iA d.Synced.2),(im (d.Told.map ae) false),(im (d.Spoken.1.map af) false),(im (d.Spoken.2.map af) false)],(cQ ad an ao bm bs ca cc ch ck cm cn cv cy)])) kL (K (Sum.inr d)) some) :
  ∀ (m:Nat) (en:Int) (q:aE),J φ (aK (cx C) (ec C n 8) (ey C n 8) (n+8) 27 0 0 2 kx kg kr kp m (St.mk [(2,(pt 0 0)),(4,(pt 1 0)),(5,(bA fs)),(10,(im (dd.map al) false)),(11,(iA fv)),(12,(iA en))] [bx (ai q),(cQ ad an ao bm bs ca cc ch ck cm cn cv cy)])) kL (oG n fs dd fv ad an ao bm bs ca cc ch ck cm cn cv cy m en q) K:=by
 intro m
 induction m with
 | zero=>intros; exact .nn
 | succ m ih =>
  intro en q
  refine .lp (Ik ..) ?_
  unfold oG
  refine .st (aW ..) (.aY (fun hi=>?_) (fun hi=>?_))
  ·refine .bd (iT (e:=49) (es:=4)) fun u=>.s (ag (al u)) (.sq (pt 2 0) (.s [bx (ai q),(cQ ad an ao bm bs ca cc ch ck cm cn cv cy),bx (al u)] (.s (ag (ai q)) (.s (ag (al u)) (.bd (g:=fun (y:(aE×Int))=>(tp [(ag [(iA y.1.Desks.1.Self),(im (y.1.Desks.1.Leases.map ae) false),(im (y.1.Desks.1.Calls.map af) false),(im (y.1.Desks.1.Order.map cB) false),(iA y.1.Desks.2.Self),(im (y.1.Desks.2.Leases.map ae) false),(im (y.1.Desks.2.Calls.map af) false),(im (y.1.Desks.2.Order.map cB) false),(iA y.1.Synced.1),(iA y.1.Synced.2),(im (y.1.Told.map ae) false),(im (y.1.Spoken.1.map af) false),(im (y.1.Spoken.2.map af) false)]),(iA y.2)])) (by show C 17 [snap _ (ag (ai q)),snap _ (ag (al u))]=_; simp only[cF,eA]; exact ha q u) fun ab=>.s (ag (ai ab.1)) (.s (iA ab.2) (.sq (pt 3 0) (.s [bx (ai q),(cQ ad an ao bm bs ca cc ch ck cm cn cv cy),bx (al u),bx (ai ab.1)] (.st (bq ..) (.aY (fun hj=>?_) (fun hj=>?_)))))))))))
   ·exact .s (ag (ai q)) (.s [bx (ai q),bx (ai q),bx (al u),bx (ai ab.1)] (.ex (x0 _ _ _ _ _ _ _ _ _)))
   refine .s (ag (ai ab.1)) (.s [bx (ai ab.1),(cQ ad an ao bm bs ca cc ch ck cm cn cv cy),bx (al u),bx (ai ab.1)] (.st (aP ..) (.st (v:=[bx (ai ab.1),(cQ ad an ao bm bs ca cc ch ck cm cn cv cy)]) (dy (by kernel_rfl) (by simp only[uB,eF,eG,Nat.reduceLT,decide_true,cQ])) (.cT ((by kernel_rfl:_=(bif aG 2 (dd.map al) then true else false)).trans (by simp only[eF,eG])) ?_))))
   exact ih _ _
  exact .ex (x1 _ _ _ _ _)
def KQ (n:Nat) (a0:aE) (a1:(List bj)):Option (aE×Bool) :=
 (oG n false a1 ((a1.length:Int)) 0 ([]) ([]) ([]) 0 ([]) ([]) ([]) 0 0 ([]) ([]) ([]) (n+8) 0 a0).bind fun d=>match d with | (Sum.inl ((p,q)))=>some ((q,p)) | (Sum.inr u)=>some ((u,true))
theorem NS (C:OT) (n:Nat) (q:tv C) (a0:aE) (a1:(List bj)):J (fun (o:R) y=>∃ v,o.1=.ret v/\aF o.2 v=(tp [(ag (ai y.1)),(bA y.2)])) (aB (cx C) (ec C n 8) (ey C n 8) (n+8) 27 [(ag (ai a0)),(im (a1.map al) false)] [] 0) some (KQ n a0 a1) some:=by
 refine .lp (Oq ..) ?_
 unfold KQ
 refine .s ((pt 0 0),[bx (ai a0)]) (.s ((pt 1 0),[bx (ai a0),bx [(iA 0),(im [] true),(im [] true),(im [] true),(iA 0),(im [] true),(im [] true),(im [] true),(iA 0),(iA 0),(im [] true),(im [] true),(im [] true)]]) (.st (eb (e:=49)) (.as (BV C n _ _ _ _ q false a1 ((a1.length:Int)) 0 ([]) ([]) ([]) 0 ([]) ([]) ([]) 0 0 ([]) ([]) ([]) ?_ ?_ _ 0 a0))))
 ·intro u p ab ad an ao w225 w226 w227
  exact .un rfl (.s (ag (ai p)) (.lv (by show aF _ (tp [(ag (ai p)),(bA u)])=_; simp only[cF,fO,aF]; first | done | rfl)))
 ·intro d bm bs ca cc
  exact .un rfl (.cT (by kernel_rfl) (.s (ag (ai d)) (.s [bx (ai d),bx (ai d)] (.s (ag (ai d)) (.lv (by show aF _ (tp [(ag (ai d)),(bA true)])=_; simp only[cF,fO,aF]; first | done | rfl))))))
def Hu (a0:aE) (a1:(List bj)):Option (aE×Bool):=KQ aH a0 a1
def Fe (C:OT):Prop:=∀ (a0:aE) (a1:(List bj)),C 27 [(ag (ai a0)),(im (a1.map al) false)]=(Hu a0 a1).map fun y=>(tp [(ag (ai y.1)),(bA y.2)])
def kC (n:Nat) (p:(List ak)) (y:(List ak)):Nat->Int->Option ((Bool)⊕(Unit))
 | 0,_=>none
 | m+1,d=>bif (decide (d<((p.length:Int)))) then ((bX p d).bind fun q=>(bX y d).bind fun u=>bif (!((q.No==u.No)&&((q.Holder==u.Holder)&&(q.Until==u.Until)))) then (some ((Sum.inl false))) else (kC n p y m (wr .i64 (d+1)))) else (some ((Sum.inr (()))))
theorem BR {w16:A} (ab:(List ak)) (ad:(List ak)) {K:((Bool)⊕(Unit))->Option γ} (x0:∀ (o0:Bool) (q:A) (s1:A) (u:A),J φ (kr (St.mk [(0,q),(1,s1),(4,(bA o0)),(5,u)] [])) kL (K (Sum.inl o0)) some) (x1:∀ (q:A) (s1:A) (s4:A) (u:A),J φ (kx 0 (St.mk [(0,q),(1,s1),(4,s4),(5,u)] [])) kL (K (Sum.inr (()))) some) :
  ∀ (m:Nat) (y:Int),J φ (aK (cx C) (ec C n 8) (ey C n 8) (n+8) 19 0 0 0 kx kg kr kp m (St.mk [(0,(im (ab.map ae) false)),(1,(im (ad.map ae) false)),(4,w16),(5,(iA y))] [])) kL (kC n ab ad m y) K:=by
 intro m
 induction m with
 | zero=>intros; exact .nn
 | succ m ih =>
  intro y
  refine .lp (Ii ..) ?_
  unfold kC
  refine .st (eb (e:=59)) (.st (aW ..) (.aY (fun ca=>?_) (fun ca=>?_)))
  ·refine .bd (iT (e:=59) (es:=3)) fun d=>.s (ag (ae d)) (.bd (iT (e:=59) (es:=3)) fun p=>.s (ag (ae p)) (.s (bA (!((d.No==p.No)&&((d.Holder==p.Holder)&&(d.Until==p.Until))))) (.aY (fun cc=>?_) (fun cc=>?_))))
   ·exact .ex (x0 _ _ _ _)
   refine .st (aP ..) (.s [] (.cT (by kernel_rfl) ?_))
   exact ih _
  exact .ex (x1 _ _ _ _)
def JP (n:Nat) (a0:(List ak)) (a1:(List ak)):Option Bool :=
 bif (((a0.length:Int)) != ((a1.length:Int))) then (some false) else ((kC n a0 a1 (n+8) 0).bind fun Hn=>match Hn with | (Sum.inl d)=>some d | (Sum.inr _)=>some true)
theorem NL (C:OT) (n:Nat) (a0:(List ak)) (a1:(List ak)):J (fun (o:R) y=>∃ v,o.1=.ret v/\aF o.2 v=(bA y)) (aB (cx C) (ec C n 8) (ey C n 8) (n+8) 19 [(im (a0.map ae) false),(im (a1.map ae) false)] [] 0) some (JP n a0 a1) some:=by
 refine .lp (Oj ..) ?_
 unfold JP
 refine .st (eb (e:=59)) (.st (eb (e:=59)) (.st (bq ..) (.aY (fun d=>?_) (fun d=>?_))))
 ·exact .lv rfl
 refine .as (BR C n _ _ _ _ a0 a1 ?_ ?_ _ 0)
 ·intro p q u ab
  exact .un rfl (.lv rfl)
 ·intro ad an ao bm
  exact .un rfl (.cT (by kernel_rfl) (.lv rfl))
def DC (a0:(List ak)) (a1:(List ak)):Option Bool:=JP aH a0 a1
def qL (C:OT):Prop:=∀ (a0:(List ak)) (a1:(List ak)),C 19 [(im (a0.map ae) false),(im (a1.map ae) false)]=(DC a0 a1).map fun y=>(bA y)
def kD (n:Nat) (p:(List av)) (q:(List av)):Nat->Int->Option ((Bool)⊕(Unit))
 | 0,_=>none
 | m+1,d=>bif (decide (d<((p.length:Int)))) then ((bX p d).bind fun u=>(bX q d).bind fun y=>bif (!((u.Bar==y.Bar)&&(u.Program==y.Program))) then (some ((Sum.inl false))) else (kD n p q m (wr .i64 (d+1)))) else (some ((Sum.inr (()))))
theorem BU {w16:A} (ab:(List av)) (ad:(List av)) {K:((Bool)⊕(Unit))->Option γ} (x0:∀ (o0:Bool) (q:A) (s1:A) (u:A),J φ (kr (St.mk [(0,q),(1,s1),(4,(bA o0)),(5,u)] [])) kL (K (Sum.inl o0)) some) (x1:∀ (q:A) (s1:A) (s4:A) (u:A),J φ (kx 0 (St.mk [(0,q),(1,s1),(4,s4),(5,u)] [])) kL (K (Sum.inr (()))) some) :
  ∀ (m:Nat) (y:Int),J φ (aK (cx C) (ec C n 8) (ey C n 8) (n+8) 21 0 0 0 kx kg kr kp m (St.mk [(0,(im (ab.map af) false)),(1,(im (ad.map af) false)),(4,w16),(5,(iA y))] [])) kL (kD n ab ad m y) K:=by
 intro m
 induction m with
 | zero=>intros; exact .nn
 | succ m ih =>
  intro y
  refine .lp (Ij ..) ?_
  unfold kD
  refine .st (eb (e:=62)) (.st (aW ..) (.aY (fun ca=>?_) (fun ca=>?_)))
  ·refine .bd (iT (e:=62) (es:=2)) fun d=>.s (ag [(iA d.Bar),(iA d.Program)]) (.bd (iT (e:=62) (es:=2)) fun p=>.s (ag [(iA p.Bar),(iA p.Program)]) (.s (bA (!((d.Bar==p.Bar)&&(d.Program==p.Program)))) (.aY (fun cc=>?_) (fun cc=>?_))))
   ·exact .ex (x0 _ _ _ _)
   refine .st (aP ..) (.s [] (.cT (by kernel_rfl) ?_))
   exact ih _
  exact .ex (x1 _ _ _ _)
def JR (n:Nat) (a0:(List av)) (a1:(List av)):Option Bool :=
 bif (((a0.length:Int)) != ((a1.length:Int))) then (some false) else ((kD n a0 a1 (n+8) 0).bind fun Hn=>match Hn with | (Sum.inl d)=>some d | (Sum.inr _)=>some true)
theorem NN (C:OT) (n:Nat) (a0:(List av)) (a1:(List av)):J (fun (o:R) y=>∃ v,o.1=.ret v/\aF o.2 v=(bA y)) (aB (cx C) (ec C n 8) (ey C n 8) (n+8) 21 [(im (a0.map af) false),(im (a1.map af) false)] [] 0) some (JR n a0 a1) some:=by
 refine .lp (Ok ..) ?_
 unfold JR
 refine .st (eb (e:=62)) (.st (eb (e:=62)) (.st (bq ..) (.aY (fun d=>?_) (fun d=>?_))))
 ·exact .lv rfl
 refine .as (BU C n _ _ _ _ a0 a1 ?_ ?_ _ 0)
 ·intro p q u ab
  exact .un rfl (.lv rfl)
 ·intro ad an ao bm
  exact .un rfl (.cT (by kernel_rfl) (.lv rfl))
def E8 (a0:(List av)) (a1:(List av)):Option Bool:=JR aH a0 a1
def qj (C:OT):Prop:=∀ (a0:(List av)) (a1:(List av)),C 21 [(im (a0.map af) false),(im (a1.map af) false)]=(E8 a0 a1).map fun y=>(bA y)
def oE (n:Nat) (p:ah) (q:ah):Nat->Int->Option ((Bool)⊕(Unit))
 | 0,_=>none
 | m+1,d=>bif (decide (d<((p.Order.length:Int)))) then ((bX p.Order d).bind fun u=>(bX q.Order d).bind fun y=>bif (u != y) then (some ((Sum.inl false))) else (oE n p q m (wr .i64 (d+1)))) else (some ((Sum.inr (()))))
theorem BD {w58:A} (d:ah) (p:ah) {K:((Bool)⊕(Unit))->Option γ} (x0:∀ (o0:Bool) (s2:A) (q:A) (u:A) (q0:aD) (q1:aD),J φ (kr (St.mk [(2,s2),(3,q),(4,(bA o0)),(5,u)] [q0,q1])) kL (K (Sum.inl o0)) some) (x1:∀ (s2:A) (q:A) (s4:A) (u:A) (q0:aD) (q1:aD),J φ (kx 0 (St.mk [(2,s2),(3,q),(4,s4),(5,u)] [q0,q1])) kL (K (Sum.inr (()))) some) :
  ∀ (m:Nat) (y:Int),J φ (aK (cx C) (ec C n 8) (ey C n 8) (n+8) 14 0 0 2 kx kg kr kp m (St.mk [(2,(pt 0 0)),(3,(pt 1 0)),(4,w58),(5,(iA y))] [bx (aa d),bx (aa p)])) kL (oE n d p m y) K:=by
 intro m
 induction m with
 | zero=>intros; exact .nn
 | succ m ih =>
  intro y
  refine .lp (HW ..) ?_
  unfold oE
  refine .s (pt 0 3) (.s (im (d.Order.map cB) false) (.st (eb (e:=4)) (.st (aW ..) (.aY (fun ca=>?_) (fun ca=>?_)))))
  ·refine .s (pt 0 3) (.s (im (d.Order.map cB) false) (.bd (iT (e:=4) (es:=1)) fun ad=>.s (bA ad) (.s (pt 1 3) (.s (im (p.Order.map cB) false) (.bd (iT (e:=4) (es:=1)) fun an=>.s (bA an) (.s (bA (ad != an)) (.aY (fun cc=>?_) (fun cc=>?_))))))))
   ·exact .ex (x0 _ _ _ _ _ _)
   refine .st (aP ..) (.s [bx (aa d),bx (aa p)] (.cT (by kernel_rfl) ?_))
   exact ih _
  exact .ex (x1 _ _ _ _ _ _)
def KO (n:Nat) (a0:ah) (a1:ah):Option Bool :=
 (bif (a0.Self != a1.Self) then (some true) else ((DC a0.Leases a1.Leases).bind fun d=>some (!d))).bind fun p=>(bif p then (some true) else ((E8 a0.Calls a1.Calls).bind fun q=>some (!q))).bind fun u=>(bif u then (some true) else (some (((a0.Order.length:Int)) != ((a1.Order.length:Int))))).bind fun y=>bif y then (some false) else ((oE n a0 a1 (n+8) 0).bind fun ab=>match ab with | (Sum.inl ad)=>some ad | (Sum.inr _)=>some true)
theorem NG (C:OT) (n:Nat) (ea:qL C) (eg:qj C) (a0:ah) (a1:ah):J (fun (o:R) y=>∃ v,o.1=.ret v/\aF o.2 v=(bA y)) (aB (cx C) (ec C n 8) (ey C n 8) (n+8) 14 [(ag (aa a0)),(ag (aa a1))] [] 0) some (KO n a0 a1) some:=by
 refine .lp (Od ..) ?_
 unfold KO
 refine .s ((pt 0 0),[bx (aa a0)]) (.s ((pt 1 0),[bx (aa a0),bx (aa a1)]) (.s (pt 0 0) (.s (iA a0.Self) (.s (pt 1 0) (.s (iA a1.Self) (.st (bq ..) (.bg (fun t (y:Bool)=>∃ d p q u j8 j9:A,t=[(bA y),d,p,q,u,j8,j9]) ?_ ?_)))))))
 ·refine .eQ (fun ej=>?_) (fun ej=>?_)
  ·exact .lg ⟨_,_,_,_,_,_,rfl⟩
  exact .s (pt 0 1) (.s (im (a0.Leases.map ae) false) (.s (pt 1 1) (.s (im (a1.Leases.map ae) false) (.bd (g:=fun (y:Bool)=>(bA y)) (by show C 19 [snap _ (im (a0.Leases.map ae) false),snap _ (im (a1.Leases.map ae) false)]=_; simp only[cF,eA]; exact ea a0.Leases a1.Leases) fun y2=>.s (bA (!y2)) (.lg ⟨_,_,_,_,_,_,rfl⟩)))))
 rintro _ y3 ⟨d,p,q,u,j8,j9,rfl⟩
 refine .u4 (.uc (.uc (.uc (.bg (fun t (y:Bool)=>∃ an ao bm bs ca cc:A,t=[(bA y),an,ao,bm,bs,ca,cc]) ?_ ?_))))
 ·refine .eQ (fun fs=>?_) (fun fs=>?_)
  ·exact .lg ⟨_,_,_,_,_,_,rfl⟩
  exact .s (pt 0 2) (.s (im (a0.Calls.map af) false) (.s (pt 1 2) (.s (im (a1.Calls.map af) false) (.bd (g:=fun (y:Bool)=>(bA y)) (by show C 21 [snap _ (im (a0.Calls.map af) false),snap _ (im (a1.Calls.map af) false)]=_; simp only[cF,eA]; exact eg a0.Calls a1.Calls) fun fv=>.s (bA (!fv)) (.lg ⟨_,_,_,_,_,_,rfl⟩)))))
 rintro _ hh ⟨an,ao,bm,bs,ca,cc,rfl⟩
 refine .u4 (.uc (.uc (.uc (.bg (fun t (y:Bool)=>∃ ch ck cm cn cv cy dd:A,t=[(bA y),ch,ck,cm,cn,cv,cy,dd]) ?_ ?_))))
 ·refine .eQ (fun ha=>?_) (fun ha=>?_)
  ·exact .lg ⟨_,_,_,_,_,_,_,rfl⟩
  exact .s (pt 0 3) (.s (im (a0.Order.map cB) false) (.st (eb (e:=4)) (.s (pt 1 3) (.s (im (a1.Order.map cB) false) (.st (eb (e:=4)) (.st (bq ..) (.lg ⟨_,_,_,_,_,_,_,rfl⟩)))))))
 rintro _ hi ⟨ch,ck,cm,cn,cv,cy,dd,rfl⟩
 refine .u4 (.u4 (.aY (fun hf=>?_) (fun hf=>?_)))
 ·exact .lv rfl
 refine .as (BD C n _ _ _ _ a0 a1 ?_ ?_ _ 0)
 ·intro hj hk ho hp w71 w72
  exact .un rfl (.lv rfl)
 ·intro hq hr hs ht w77 w78
  exact .un rfl (.cT (by kernel_rfl) (.lv rfl))
def E7 (a0:ah) (a1:ah):Option Bool:=KO aH a0 a1
def zl (C:OT):Prop:=∀ (a0:ah) (a1:ah),C 14 [(ag (aa a0)),(ag (aa a1))]=(E7 a0 a1).map fun y=>(bA y)
abbrev zT:A:=(ag [(iA 1),(im [[(iA 0),(iA 0),(iA 10)],[(iA 1),(iA 1),(iA 20)]] true),(im [] true),(im [[(bA true)],[(bA true)]] true)])
def F7 (n:Nat)  : Option Bool :=
 (DU 0 0 10).bind fun q=>(DU 2 0 5).bind fun y2=>(DU 0 0 0).bind fun y3=>(DU 0 1 5).bind fun y4=>(Hc y4.1 0 9).bind fun y5=>(Hb q.1 10 1).bind fun y6=>(E6 0 ([])).bind fun y7=>(G8 0 10).bind fun u=>(DT u.1 ((bj.mk 0 0 0 0))).bind fun y9=>(bif (q.2 != 0) then (some true) else (some (y2.2 != 1))).bind fun cn=>(bif cn then (some true) else (some (y3.2 != 1))).bind fun cv=>(bif cv then (some true) else (some (y4.2 != 0))).bind fun cy=>(bif cy then (some true) else (some (y5.2 != 530))).bind fun dd=>(bif dd then (some true) else (some (y6.2 != 530))).bind fun ea=>(bif ea then (some true) else (some (y7.2 != 530))).bind fun eg=>(bif eg then (some true) else (some (u.2 != 0))).bind fun ej=>(bif ej then (some true) else (some (y9.2 != 530))).bind fun en=>(bif en then (some true) else ((AB q.1).bind fun fs=>some (fs != 0))).bind fun fv=>(bif fv then (some true) else ((AB ((ah.mk 0 ([]) ([]) ([])))).bind fun ha=>some (ha != 530))).bind fun hf=>bif hf then (some false) else ((Hu u.1 ([(bj.mk 3 0 3 2),(bj.mk 3 0 5 1),(bj.mk 1 0 1 20),(bj.mk 4 0 0 0),(bj.mk 5 0 1 0),(bj.mk 6 0 1 0)])).bind fun p=>(DT p.1 ((bj.mk 3 1 12 1))).bind fun hg=>(Hu p.1 ([(bj.mk 2 1 0 0),(bj.mk 3 1 12 4)])).bind fun d=>(DT d.1 ((bj.mk 6 1 0 0))).bind fun hh=>(Hu d.1 ([(bj.mk 7 1 2 0)])).bind fun y=>(bif (!p.2) then (some true) else (some (hg.2 != 530))).bind fun hi=>(bif hi then (some true) else (some (!d.2))).bind fun hj=>(bif hj then (some true) else (some (hh.2 != 530))).bind fun hk=>(bif hk then (some true) else (some (!y.2))).bind fun ho=>bif ho then (some false) else ((DC p.1.Told ([(ak.mk 1 1 20)])).bind fun hp=>(bif (!hp) then (some true) else ((E8 p.1.Spoken.1 ([(av.mk 5 1)])).bind fun hq=>some (!hq))).bind fun hr=>bif hr then ((some true).bind fun hs=>bif hs then (some false) else ((G9 d.1.Desks.2).bind fun ab=>(E6 1 ab.1).bind fun ao=>(bif (ab.2==0) then (some (ao.2==0)) else (some false)).bind fun ht=>(bif ht then (some (((ab.1.length:Int))==3)) else (some false)).bind fun hv=>(bif hv then ((E7 ao.1 d.1.Desks.2).bind fun hx=>some hx) else (some false)).bind fun hy=>(bif hy then ((E7 y.1.Desks.2 ((ah.mk 1 ([(ak.mk 0 0 10),(ak.mk 1 1 20)]) ([]) ([true,true])))).bind fun ie=>some ie) else (some false)).bind fun ih=>some ih)) else (((E7 d.1.Desks.2 ((ah.mk 1 ([(ak.mk 0 0 10),(ak.mk 1 1 20)]) ([(av.mk 12 4)]) ([true,true,false])))).bind fun ik=>some (!ik)).bind fun js=>bif js then (some false) else ((G9 d.1.Desks.2).bind fun ad=>(E6 1 ad.1).bind fun bm=>(bif (ad.2==0) then (some (bm.2==0)) else (some false)).bind fun kc=>(bif kc then (some (((ad.1.length:Int))==3)) else (some false)).bind fun kk=>(bif kk then ((E7 bm.1 d.1.Desks.2).bind fun kn=>some kn) else (some false)).bind fun ko=>(bif ko then ((E7 y.1.Desks.2 ((ah.mk 1 ([(ak.mk 0 0 10),(ak.mk 1 1 20)]) ([]) ([true,true])))).bind fun kt=>some kt) else (some false)).bind fun lx=>some lx))))
theorem T7 (C:OT) (n:Nat) (eg:Br C) (cv:zl C) (h15:Bt C) (ej:tv C) (h19:qL C) (fv:mq C) (h21:qj C) (h24:Bw C) (cy:zo C) (h26:Bx C) (en:Fe C) (h9:F0 C):J (fun (o:R) y=>∃ v,o.1=.ret v/\aF o.2 v=(bA y)) (aB (cx C) (ec C n 8) (ey C n 8) (n+8) 7 [] [] 0) some (F7 n ) some:=by
 refine .lp (e7 ..) ?_
 unfold F7
 refine .bd (cy 0 0 10) fun p=>.s (ag (aa p.1)) (.s (iA p.2) (.sq (pt 0 0) (.s [bx (aa p.1)] (.bd (cy 2 0 5) fun y2=>.s (ag (aa y2.1)) (.s (iA y2.2) (.sq (pt 1 0) (.s [bx (aa p.1),bx (aa y2.1)] (.bd (cy 0 0 0) fun y3=>.s (ag (aa y3.1)) (.s (iA y3.2) (.sq (pt 2 0) (.s [bx (aa p.1),bx (aa y2.1),bx (aa y3.1)] (.bd (cy 0 1 5) fun u=>.s (ag (aa u.1)) (.s (iA u.2) (.sq (pt 3 0) (.s [bx (aa p.1),bx (aa y2.1),bx (aa y3.1),bx (aa u.1)] (.s (ag (aa u.1)) (.bd (g:=fun (y:(ah×Int))=>(tp [(ag [(iA y.1.Self),(im (y.1.Leases.map ae) false),(im (y.1.Calls.map af) false),(im (y.1.Order.map cB) false)]),(iA y.2)])) (by show C 26 [snap _ (ag (aa u.1)),snap _ (iA 0),snap _ (iA 9)]=_; simp only[cF,eA]; exact h26 u.1 0 9) fun y5=>.s (ag (aa y5.1)) (.s (iA y5.2) ?_))))))))))))))))))
 refine .sq (pt 4 0) (.s [bx (aa p.1),bx (aa y2.1),bx (aa y3.1),bx (aa u.1),bx (aa y5.1)] (.s (ag (aa p.1)) (.bd (g:=fun (y:(ah×Int))=>(tp [(ag [(iA y.1.Self),(im (y.1.Leases.map ae) false),(im (y.1.Calls.map af) false),(im (y.1.Order.map cB) false)]),(iA y.2)])) (by show C 24 [snap _ (ag (aa p.1)),snap _ (iA 10),snap _ (iA 1)]=_; simp only[cF,eA]; exact h24 p.1 10 1) fun y6=>.s (ag (aa y6.1)) (.s (iA y6.2) (.sq (pt 5 0) (.s [bx (aa p.1),bx (aa y2.1),bx (aa y3.1),bx (aa u.1),bx (aa y5.1),bx (aa y6.1)] (.bd (g:=fun (y:(ah×Int))=>(tp [(ag [(iA y.1.Self),(im (y.1.Leases.map ae) false),(im (y.1.Calls.map af) false),(im (y.1.Order.map cB) false)]),(iA y.2)])) (by show C 11 [snap _ (iA 0),snap _ (im [] true)]=_; simp only[cF,eA]; exact eg 0 ([])) fun y7=>.s (ag (aa y7.1)) (.s (iA y7.2) (.sq (pt 6 0) (.s [bx (aa p.1),bx (aa y2.1),bx (aa y3.1),bx (aa u.1),bx (aa y5.1),bx (aa y6.1),bx (aa y7.1)] (.bd (h15 0 10) fun y8=>.s (ag (ai y8.1)) (.s (iA y8.2) (.sq (pt 7 0) (.s [bx (aa p.1),bx (aa y2.1),bx (aa y3.1),bx (aa u.1),bx (aa y5.1),bx (aa y6.1),bx (aa y7.1),bx (ai y8.1)] (.s (ag (ai y8.1)) (.s (ag [(iA 0),(iA 0),(iA 0),(iA 0)]) ?_))))))))))))))))
 refine .bd (g:=fun (y:(aE×Int))=>(tp [(ag [(iA y.1.Desks.1.Self),(im (y.1.Desks.1.Leases.map ae) false),(im (y.1.Desks.1.Calls.map af) false),(im (y.1.Desks.1.Order.map cB) false),(iA y.1.Desks.2.Self),(im (y.1.Desks.2.Leases.map ae) false),(im (y.1.Desks.2.Calls.map af) false),(im (y.1.Desks.2.Order.map cB) false),(iA y.1.Synced.1),(iA y.1.Synced.2),(im (y.1.Told.map ae) false),(im (y.1.Spoken.1.map af) false),(im (y.1.Spoken.2.map af) false)]),(iA y.2)])) (by show C 17 [snap _ (ag (ai y8.1)),snap _ (ag [(iA 0),(iA 0),(iA 0),(iA 0)])]=_; simp only[cF,eA]; exact ej y8.1 ((bj.mk 0 0 0 0))) fun y9=>.s (ag (ai y9.1)) (.s (iA y9.2) (.sq (pt 8 0) (.s [bx (aa p.1),bx (aa y2.1),bx (aa y3.1),bx (aa u.1),bx (aa y5.1),bx (aa y6.1),bx (aa y7.1),bx (ai y8.1),bx (ai y9.1)] (.st (bq ..) (.bg (fun t (y:Bool)=>∃ hf hg:A,t=[(bA y),hf,hg]) ?_ ?_)))))
 ·refine .eQ (fun hk10=>?_) (fun hk10=>?_)
  ·exact .lg ⟨_,_,rfl⟩
  exact .st (bq ..) (.lg ⟨_,_,rfl⟩)
 rintro _ y11 ⟨hf,hg,rfl⟩
 refine .uc (.uc (.uc (.bg (fun t (y:Bool)=>∃ hh hi:A,t=[(bA y),hh,hi]) ?_ ?_)))
 ·refine .eQ (fun hk14=>?_) (fun hk14=>?_)
  ·exact .lg ⟨_,_,rfl⟩
  exact .st (bq ..) (.lg ⟨_,_,rfl⟩)
 rintro _ y15 ⟨hh,hi,rfl⟩
 refine .uc (.uc (.uc (.bg (fun t (y:Bool)=>∃ hj hk:A,t=[(bA y),hj,hk]) ?_ ?_)))
 ·refine .eQ (fun hk18=>?_) (fun hk18=>?_)
  ·exact .lg ⟨_,_,rfl⟩
  exact .st (bq ..) (.lg ⟨_,_,rfl⟩)
 rintro _ y19 ⟨hj,hk,rfl⟩
 refine .uc (.uc (.uc (.bg (fun t (y:Bool)=>∃ ho hp:A,t=[(bA y),ho,hp]) ?_ ?_)))
 ·refine .eQ (fun hk22=>?_) (fun hk22=>?_)
  ·exact .lg ⟨_,_,rfl⟩
  exact .st (bq ..) (.lg ⟨_,_,rfl⟩)
 rintro _ y23 ⟨ho,hp,rfl⟩
 refine .uc (.uc (.uc (.bg (fun t (y:Bool)=>∃ hq hr:A,t=[(bA y),hq,hr]) ?_ ?_)))
 ·refine .eQ (fun hk26=>?_) (fun hk26=>?_)
  ·exact .lg ⟨_,_,rfl⟩
  exact .st (bq ..) (.lg ⟨_,_,rfl⟩)
 rintro _ y27 ⟨hq,hr,rfl⟩
 refine .uc (.uc (.uc (.bg (fun t (y:Bool)=>∃ hs ht:A,t=[(bA y),hs,ht]) ?_ ?_)))
 ·refine .eQ (fun hk30=>?_) (fun hk30=>?_)
  ·exact .lg ⟨_,_,rfl⟩
  exact .st (bq ..) (.lg ⟨_,_,rfl⟩)
 rintro _ y31 ⟨hs,ht,rfl⟩
 refine .uc (.uc (.uc (.bg (fun t (y:Bool)=>∃ hv hx:A,t=[(bA y),hv,hx]) ?_ ?_)))
 ·refine .eQ (fun hk34=>?_) (fun hk34=>?_)
  ·exact .lg ⟨_,_,rfl⟩
  exact .st (bq ..) (.lg ⟨_,_,rfl⟩)
 rintro _ y35 ⟨hv,hx,rfl⟩
 refine .uc (.uc (.uc (.bg (fun t (y:Bool)=>∃ hy ie:A,t=[(bA y),hy,ie]) ?_ ?_)))
 ·refine .eQ (fun hk38=>?_) (fun hk38=>?_)
  ·exact .lg ⟨_,_,rfl⟩
  exact .st (bq ..) (.lg ⟨_,_,rfl⟩)
 rintro _ y39 ⟨hy,ie,rfl⟩
 refine .uc (.uc (.uc (.bg (fun t (y:Bool)=>∃ ih ik js:A,t=[(bA y),ih,ik,js]) ?_ ?_)))
 ·refine .eQ (fun hk42=>?_) (fun hk42=>?_)
  ·exact .lg ⟨_,_,_,rfl⟩
  exact .s (ag (aa p.1)) (.bd (g:=fun (y:Int)=>(iA y)) (by show C 20 [snap _ (ag (aa p.1))]=_; simp only[cF,eA]; exact fv p.1) fun y43=>.st (bq ..) (.lg ⟨_,_,_,rfl⟩))
 rintro _ y44 ⟨ih,ik,js,rfl⟩
 refine .u4 (.bg (fun t (y:Bool)=>∃ kc kk kn:A,t=[(bA y),kc,kk,kn]) ?_ ?_)
 ·refine .eQ (fun hk48=>?_) (fun hk48=>?_)
  ·exact .lg ⟨_,_,_,rfl⟩
  exact .s (ag [(iA 0),(im [] true),(im [] true),(im [] true)]) (.bd (g:=fun (y:Int)=>(iA y)) (by show C 20 [snap _ (ag [(iA 0),(im [] true),(im [] true),(im [] true)])]=_; simp only[cF,eA]; exact fv ((ah.mk 0 ([]) ([]) ([])))) fun y49=>.st (bq ..) (.lg ⟨_,_,_,rfl⟩))
 rintro _ y50 ⟨kc,kk,kn,rfl⟩
 refine .u4 (.aY (fun hk54=>?_) (fun hk54=>?_))
 ·exact .lv rfl
 refine .s (ag (ai y8.1)) (.s (ag [(iA 3),(iA 0),(iA 3),(iA 2)]) (.s (ag [(iA 3),(iA 0),(iA 5),(iA 1)]) (.s (ag [(iA 1),(iA 0),(iA 1),(iA 20)]) (.s (ag [(iA 4),(iA 0),(iA 0),(iA 0)]) (.s (ag [(iA 5),(iA 0),(iA 1),(iA 0)]) (.s (ag [(iA 6),(iA 0),(iA 1),(iA 0)]) (.s (im [[(iA 3),(iA 0),(iA 3),(iA 2)],[(iA 3),(iA 0),(iA 5),(iA 1)],[(iA 1),(iA 0),(iA 1),(iA 20)],[(iA 4),(iA 0),(iA 0),(iA 0)],[(iA 5),(iA 0),(iA 1),(iA 0)],[(iA 6),(iA 0),(iA 1),(iA 0)]] true) (.bd (g:=fun (y:(aE×Bool))=>(tp [(ag [(iA y.1.Desks.1.Self),(im (y.1.Desks.1.Leases.map ae) false),(im (y.1.Desks.1.Calls.map af) false),(im (y.1.Desks.1.Order.map cB) false),(iA y.1.Desks.2.Self),(im (y.1.Desks.2.Leases.map ae) false),(im (y.1.Desks.2.Calls.map af) false),(im (y.1.Desks.2.Order.map cB) false),(iA y.1.Synced.1),(iA y.1.Synced.2),(im (y.1.Told.map ae) false),(im (y.1.Spoken.1.map af) false),(im (y.1.Spoken.2.map af) false)]),(bA y.2)])) (by show C 27 [snap _ (ag (ai y8.1)),snap _ (im [[(iA 3),(iA 0),(iA 3),(iA 2)],[(iA 3),(iA 0),(iA 5),(iA 1)],[(iA 1),(iA 0),(iA 1),(iA 20)],[(iA 4),(iA 0),(iA 0),(iA 0)],[(iA 5),(iA 0),(iA 1),(iA 0)],[(iA 6),(iA 0),(iA 1),(iA 0)]] true)]=_; simp only[cF,eA]; exact en y8.1 ([(bj.mk 3 0 3 2),(bj.mk 3 0 5 1),(bj.mk 1 0 1 20),(bj.mk 4 0 0 0),(bj.mk 5 0 1 0),(bj.mk 6 0 1 0)])) fun q=>.s (ag (ai q.1)) (.s (bA q.2) (.sq (pt 9 0) (.s [bx (aa p.1),bx (aa y2.1),bx (aa y3.1),bx (aa u.1),bx (aa y5.1),bx (aa y6.1),bx (aa y7.1),bx (ai y8.1),bx (ai y9.1),bx (ai q.1)] (.s (ag (ai q.1)) (.s (ag [(iA 3),(iA 1),(iA 12),(iA 1)]) ?_)))))))))))))
 refine .bd (g:=fun (y:(aE×Int))=>(tp [(ag [(iA y.1.Desks.1.Self),(im (y.1.Desks.1.Leases.map ae) false),(im (y.1.Desks.1.Calls.map af) false),(im (y.1.Desks.1.Order.map cB) false),(iA y.1.Desks.2.Self),(im (y.1.Desks.2.Leases.map ae) false),(im (y.1.Desks.2.Calls.map af) false),(im (y.1.Desks.2.Order.map cB) false),(iA y.1.Synced.1),(iA y.1.Synced.2),(im (y.1.Told.map ae) false),(im (y.1.Spoken.1.map af) false),(im (y.1.Spoken.2.map af) false)]),(iA y.2)])) (by show C 17 [snap _ (ag (ai q.1)),snap _ (ag [(iA 3),(iA 1),(iA 12),(iA 1)])]=_; simp only[cF,eA]; exact ej q.1 ((bj.mk 3 1 12 1))) fun ch=>.s (ag (ai ch.1)) (.s (iA ch.2) (.sq (pt 10 0) (.s [bx (aa p.1),bx (aa y2.1),bx (aa y3.1),bx (aa u.1),bx (aa y5.1),bx (aa y6.1),bx (aa y7.1),bx (ai y8.1),bx (ai y9.1),bx (ai q.1),bx (ai ch.1)] (.s (ag (ai q.1)) (.s (ag [(iA 2),(iA 1),(iA 0),(iA 0)]) (.s (ag [(iA 3),(iA 1),(iA 12),(iA 4)]) (.s (im [[(iA 2),(iA 1),(iA 0),(iA 0)],[(iA 3),(iA 1),(iA 12),(iA 4)]] true) (.bd (g:=fun (y:(aE×Bool))=>(tp [(ag [(iA y.1.Desks.1.Self),(im (y.1.Desks.1.Leases.map ae) false),(im (y.1.Desks.1.Calls.map af) false),(im (y.1.Desks.1.Order.map cB) false),(iA y.1.Desks.2.Self),(im (y.1.Desks.2.Leases.map ae) false),(im (y.1.Desks.2.Calls.map af) false),(im (y.1.Desks.2.Order.map cB) false),(iA y.1.Synced.1),(iA y.1.Synced.2),(im (y.1.Told.map ae) false),(im (y.1.Spoken.1.map af) false),(im (y.1.Spoken.2.map af) false)]),(bA y.2)])) (by show C 27 [snap _ (ag (ai q.1)),snap _ (im [[(iA 2),(iA 1),(iA 0),(iA 0)],[(iA 3),(iA 1),(iA 12),(iA 4)]] true)]=_; simp only[cF,eA]; exact en q.1 ([(bj.mk 2 1 0 0),(bj.mk 3 1 12 4)])) fun d=>.s (ag (ai d.1)) (.s (bA d.2) (.sq (pt 11 0) ?_))))))))))
 refine .s [bx (aa p.1),bx (aa y2.1),bx (aa y3.1),bx (aa u.1),bx (aa y5.1),bx (aa y6.1),bx (aa y7.1),bx (ai y8.1),bx (ai y9.1),bx (ai q.1),bx (ai ch.1),bx (ai d.1)] (.s (ag (ai d.1)) (.s (ag [(iA 6),(iA 1),(iA 0),(iA 0)]) (.bd (g:=fun (y:(aE×Int))=>(tp [(ag [(iA y.1.Desks.1.Self),(im (y.1.Desks.1.Leases.map ae) false),(im (y.1.Desks.1.Calls.map af) false),(im (y.1.Desks.1.Order.map cB) false),(iA y.1.Desks.2.Self),(im (y.1.Desks.2.Leases.map ae) false),(im (y.1.Desks.2.Calls.map af) false),(im (y.1.Desks.2.Order.map cB) false),(iA y.1.Synced.1),(iA y.1.Synced.2),(im (y.1.Told.map ae) false),(im (y.1.Spoken.1.map af) false),(im (y.1.Spoken.2.map af) false)]),(iA y.2)])) (by show C 17 [snap _ (ag (ai d.1)),snap _ (ag [(iA 6),(iA 1),(iA 0),(iA 0)])]=_; simp only[cF,eA]; exact ej d.1 ((bj.mk 6 1 0 0))) fun ck=>.s (ag (ai ck.1)) (.s (iA ck.2) (.sq (pt 12 0) (.s [bx (aa p.1),bx (aa y2.1),bx (aa y3.1),bx (aa u.1),bx (aa y5.1),bx (aa y6.1),bx (aa y7.1),bx (ai y8.1),bx (ai y9.1),bx (ai q.1),bx (ai ch.1),bx (ai d.1),bx (ai ck.1)] (.s (ag (ai d.1)) (.s (ag [(iA 7),(iA 1),(iA 2),(iA 0)]) (.s (im [[(iA 7),(iA 1),(iA 2),(iA 0)]] true) ?_)))))))))
 refine .bd (g:=fun (y:(aE×Bool))=>(tp [(ag [(iA y.1.Desks.1.Self),(im (y.1.Desks.1.Leases.map ae) false),(im (y.1.Desks.1.Calls.map af) false),(im (y.1.Desks.1.Order.map cB) false),(iA y.1.Desks.2.Self),(im (y.1.Desks.2.Leases.map ae) false),(im (y.1.Desks.2.Calls.map af) false),(im (y.1.Desks.2.Order.map cB) false),(iA y.1.Synced.1),(iA y.1.Synced.2),(im (y.1.Told.map ae) false),(im (y.1.Spoken.1.map af) false),(im (y.1.Spoken.2.map af) false)]),(bA y.2)])) (by show C 27 [snap _ (ag (ai d.1)),snap _ (im [[(iA 7),(iA 1),(iA 2),(iA 0)]] true)]=_; simp only[cF,eA]; exact en d.1 ([(bj.mk 7 1 2 0)])) fun ca=>.s (ag (ai ca.1)) (.s (bA ca.2) (.sq (pt 13 0) (.s [bx (aa p.1),bx (aa y2.1),bx (aa y3.1),bx (aa u.1),bx (aa y5.1),bx (aa y6.1),bx (aa y7.1),bx (ai y8.1),bx (ai y9.1),bx (ai q.1),bx (ai ch.1),bx (ai d.1),bx (ai ck.1),bx (ai ca.1)] (.s (bA (!q.2)) (.bg (fun t (y:Bool)=>∃ ko kt:A,t=[(bA y),ko,kt]) ?_ ?_)))))
 ·refine .eQ (fun hk60=>?_) (fun hk60=>?_)
  ·exact .lg ⟨_,_,rfl⟩
  exact .st (bq ..) (.lg ⟨_,_,rfl⟩)
 rintro _ y61 ⟨ko,kt,rfl⟩
 refine .uc (.uc (.uc (.bg (fun t (y:Bool)=>∃ lx ly:A,t=[(bA y),lx,ly]) ?_ ?_)))
 ·refine .eQ (fun hk64=>?_) (fun hk64=>?_)
  ·exact .lg ⟨_,_,rfl⟩
  exact .s (bA (!d.2)) (.lg ⟨_,_,rfl⟩)
 rintro _ y65 ⟨lx,ly,rfl⟩
 refine .uc (.uc (.uc (.bg (fun t (y:Bool)=>∃ mn mx:A,t=[(bA y),mn,mx]) ?_ ?_)))
 ·refine .eQ (fun hk68=>?_) (fun hk68=>?_)
  ·exact .lg ⟨_,_,rfl⟩
  exact .st (bq ..) (.lg ⟨_,_,rfl⟩)
 rintro _ y69 ⟨mn,mx,rfl⟩
 refine .uc (.uc (.uc (.bg (fun t (y:Bool)=>∃ nb nf:A,t=[(bA y),nb,nf]) ?_ ?_)))
 ·refine .eQ (fun hk72=>?_) (fun hk72=>?_)
  ·exact .lg ⟨_,_,rfl⟩
  exact .s (bA (!ca.2)) (.lg ⟨_,_,rfl⟩)
 rintro _ y73 ⟨nb,nf,rfl⟩
 refine .uc (.uc (.uc (.aY (fun hk76=>?_) (fun hk76=>?_))))
 ·exact .lv rfl
 refine .s (ag [(iA 0),(iA 0),(iA 10)]) (.s (ag [(iA 1),(iA 1),(iA 20)]) (.s (im [[(iA 0),(iA 0),(iA 10)],[(iA 1),(iA 1),(iA 20)]] true) (.s (pt 9 10) (.s (im (q.1.Told.map ae) false) (.s (im [[(iA 1),(iA 1),(iA 20)]] true) (.bd (g:=fun (y:Bool)=>(bA y)) (by show C 19 [snap _ (im (q.1.Told.map ae) false),snap _ (im [[(iA 1),(iA 1),(iA 20)]] true)]=_; simp only[cF,eA]; exact h19 q.1.Told ([(ak.mk 1 1 20)])) fun y77=>.s (bA (!y77)) (.bg (fun t (y:Bool)=>∃ ni ns nt oc oi oj oo:A,t=[(bA y),ni,ns,nt,oc,oi,oj,oo]) ?_ ?_)))))))
 ·refine .eQ (fun hk78=>?_) (fun hk78=>?_)
  ·exact .lg ⟨_,_,_,_,_,_,_,rfl⟩
  exact .s (pt 9 11) (.s (pt 9 11) (.s (im (q.1.Spoken.1.map af) false) (.s (ag [(iA 5),(iA 1)]) (.s (im [[(iA 5),(iA 1)]] true) (.bd (g:=fun (y:Bool)=>(bA y)) (by show C 21 [snap _ (im (q.1.Spoken.1.map af) false),snap _ (im [[(iA 5),(iA 1)]] true)]=_; simp only[cF,eA]; exact h21 q.1.Spoken.1 ([(av.mk 5 1)])) fun y79=>.s (bA (!y79)) (.lg ⟨_,_,_,_,_,_,_,rfl⟩))))))
 rintro _ y80 ⟨ni,ns,nt,oc,oi,oj,oo,rfl⟩
 refine .u4 (.u4 (.Hl (fun fs=>?_) (fun fs=>?_)))
 ·refine .bb (.s (pt 11 0) (.s (pt 11 4) (.s (ag (aa d.1.Desks.2)) (.s (ag [(iA 12),(iA 4)]) (.s (im [[(iA 12),(iA 4)]] true) (.s (im [[(bA true)],[(bA true)],[(bA false)]] true) (.s (ag [(iA 1),(im [[(iA 0),(iA 0),(iA 10)],[(iA 1),(iA 1),(iA 20)]] true),(im [[(iA 12),(iA 4)]] true),(im [[(bA true)],[(bA true)],[(bA false)]] true)]) (.cr (.u4 (.u4 (.bg (fun t (y:Bool)=>∃ oq pc:A,t=[(bA y),oq,pc]) ?_ ?_)))))))))))
  ·exact .wj fs (.bd (g:=fun (y:Bool)=>(bA y)) (by show C 14 [snap _ (ag (aa d.1.Desks.2)),snap _ (ag [(iA 1),(im [[(iA 0),(iA 0),(iA 10)],[(iA 1),(iA 1),(iA 20)]] true),(im [[(iA 12),(iA 4)]] true),(im [[(bA true)],[(bA true)],[(bA false)]] true)])]=_; simp only[cF,eA]; exact cv d.1.Desks.2 ((ah.mk 1 ([(ak.mk 0 0 10),(ak.mk 1 1 20)]) ([(av.mk 12 4)]) ([true,true,false])))) fun y100=>.s (bA (!y100)) (.lg ⟨_,_,rfl⟩))
  rintro _ y101 ⟨oq,pc,rfl⟩
  refine .uc (.uc (.uc (.aY (fun hk104=>?_) (fun hk104=>?_))))
  ·exact .lv rfl
  refine .s (pt 11 0) (.s (pt 11 4) (.s (ag (aa d.1.Desks.2)) (.bd (g:=fun (y:((List (List UInt8))×Int))=>(tp [(im (List.map (cL c8) y.1) false),(iA y.2)])) (by show C 9 [snap _ (ag (aa d.1.Desks.2))]=_; simp only[cF,eA]; exact h9 d.1.Desks.2) fun dd=>.s (im (List.map (cL c8) dd.1) false) (.s (iA dd.2) (.bd (g:=fun (y:(ah×Int))=>(tp [(ag [(iA y.1.Self),(im (y.1.Leases.map ae) false),(im (y.1.Calls.map af) false),(im (y.1.Order.map cB) false)]),(iA y.2)])) (by show C 11 [snap _ (iA 1),snap _ (im (List.map (cL c8) dd.1) false)]=_; simp only[cF,eA]; exact eg 1 dd.1) fun cm=>.s (ag (aa cm.1)) (.s (iA cm.2) (.sq (pt 14 0) (.s [bx (aa p.1),bx (aa y2.1),bx (aa y3.1),bx (aa u.1),bx (aa y5.1),bx (aa y6.1),bx (aa y7.1),bx (ai y8.1),bx (ai y9.1),bx (ai q.1),bx (ai ch.1),bx (ai d.1),bx (ai ck.1),bx (ai ca.1),bx (aa cm.1)] (.st (bC ..) (.bg (fun t (y:Bool)=>∃ ps qi:A,t=[(bA y),ps,qi]) ?_ ?_))))))))))
  ·refine .eQ (fun hk107=>?_) (fun hk107=>?_)
   ·exact .st (bC ..) (.lg ⟨_,_,rfl⟩)
   exact .lg ⟨_,_,rfl⟩
  rintro _ y108 ⟨ps,qi,rfl⟩
  refine .uc (.uc (.uc (.bg (fun t (y:Bool)=>∃ qv si sk:A,t=[(bA y),qv,si,sk]) ?_ ?_)))
  ·refine .eQ (fun hk111=>?_) (fun hk111=>?_)
   ·exact .st (eb (e:=30)) (.st (bC ..) (.lg ⟨_,_,_,rfl⟩))
   exact .lg ⟨_,_,_,rfl⟩
  rintro _ y112 ⟨qv,si,sk,rfl⟩
  refine .u4 (.bg (fun t (y:Bool)=>∃ so tb tk tm ts:A,t=[(bA y),so,tb,tk,tm,ts]) ?_ ?_)
  ·refine .eQ (fun hk116=>?_) (fun hk116=>?_)
   ·exact .s (ag (aa cm.1)) (.s (pt 11 0) (.s (pt 11 4) (.s (ag (aa d.1.Desks.2)) (.bd (g:=fun (y:Bool)=>(bA y)) (by show C 14 [snap _ (ag (aa cm.1)),snap _ (ag (aa d.1.Desks.2))]=_; simp only[cF,eA]; exact cv cm.1 d.1.Desks.2) fun y117=>.lg ⟨_,_,_,_,_,rfl⟩))))
   exact .lg ⟨_,_,_,_,_,rfl⟩
  rintro _ y118 ⟨so,tb,tk,tm,ts,rfl⟩
  refine .u4 (.uc (.uc (.bg (fun t (y:Bool)=>∃ tw vr vt xc xl xt ys:A,t=[(bA y),tw,vr,vt,xc,xl,xt,ys]) ?_ ?_)))
  ·refine .eQ (fun hk124=>?_) (fun hk124=>?_)
   ·exact .s (pt 13 0) (.s (pt 13 4) (.s (ag (aa ca.1.Desks.2)) (.s (im [[(bA true)],[(bA true)]] true) (.s zT (.bd (g:=fun (y:Bool)=>(bA y)) (by show C 14 [snap _ (ag (aa ca.1.Desks.2)),snap _ zT]=_; simp only[cF,eA]; exact cv ca.1.Desks.2 ((ah.mk 1 ([(ak.mk 0 0 10),(ak.mk 1 1 20)]) ([]) ([true,true])))) fun y125=>.lg ⟨_,_,_,_,_,_,_,rfl⟩)))))
   exact .lg ⟨_,_,_,_,_,_,_,rfl⟩
  rintro _ y126 ⟨tw,vr,vt,xc,xl,xt,ys,rfl⟩
  exact .u4 (.u4 (.lv rfl))
 refine .bb (.cr (.u4 (.u4 (.bg (fun t (y:Bool)=>∃ zc zm:A,t=[(bA y),zc,zm]) ?_ ?_))))
 ·exact .vS fs (.lg ⟨_,_,rfl⟩)
 rintro _ y134 ⟨zc,zm,rfl⟩
 refine .uc (.uc (.uc (.aY (fun hk137=>?_) (fun hk137=>?_))))
 ·exact .lv rfl
 refine .s (pt 11 0) (.s (pt 11 4) (.s (ag (aa d.1.Desks.2)) (.bd (g:=fun (y:((List (List UInt8))×Int))=>(tp [(im (List.map (cL c8) y.1) false),(iA y.2)])) (by show C 9 [snap _ (ag (aa d.1.Desks.2))]=_; simp only[cF,eA]; exact h9 d.1.Desks.2) fun ea=>.s (im (List.map (cL c8) ea.1) false) (.s (iA ea.2) (.bd (g:=fun (y:(ah×Int))=>(tp [(ag [(iA y.1.Self),(im (y.1.Leases.map ae) false),(im (y.1.Calls.map af) false),(im (y.1.Order.map cB) false)]),(iA y.2)])) (by show C 11 [snap _ (iA 1),snap _ (im (List.map (cL c8) ea.1) false)]=_; simp only[cF,eA]; exact eg 1 ea.1) fun cn=>.s (ag (aa cn.1)) (.s (iA cn.2) (.sq (pt 14 0) (.s [bx (aa p.1),bx (aa y2.1),bx (aa y3.1),bx (aa u.1),bx (aa y5.1),bx (aa y6.1),bx (aa y7.1),bx (ai y8.1),bx (ai y9.1),bx (ai q.1),bx (ai ch.1),bx (ai d.1),bx (ai ck.1),bx (ai ca.1),bx (aa cn.1)] (.st (bC ..) (.bg (fun t (y:Bool)=>∃ zn zz:A,t=[(bA y),zn,zz]) ?_ ?_))))))))))
 ·refine .eQ (fun hk140=>?_) (fun hk140=>?_)
  ·exact .st (bC ..) (.lg ⟨_,_,rfl⟩)
  exact .lg ⟨_,_,rfl⟩
 rintro _ y141 ⟨zn,zz,rfl⟩
 refine .uc (.uc (.uc (.bg (fun t (y:Bool)=>∃ j146 j147 j148:A,t=[(bA y),j146,j147,j148]) ?_ ?_)))
 ·refine .eQ (fun hk144=>?_) (fun hk144=>?_)
  ·exact .st (eb (e:=30)) (.st (bC ..) (.lg ⟨_,_,_,rfl⟩))
  exact .lg ⟨_,_,_,rfl⟩
 rintro _ y145 ⟨j146,j147,j148,rfl⟩
 refine .u4 (.bg (fun t (y:Bool)=>∃ j152 j153 j154 j155 j156:A,t=[(bA y),j152,j153,j154,j155,j156]) ?_ ?_)
 ·refine .eQ (fun hk149=>?_) (fun hk149=>?_)
  ·exact .s (ag (aa cn.1)) (.s (pt 11 0) (.s (pt 11 4) (.s (ag (aa d.1.Desks.2)) (.bd (g:=fun (y:Bool)=>(bA y)) (by show C 14 [snap _ (ag (aa cn.1)),snap _ (ag (aa d.1.Desks.2))]=_; simp only[cF,eA]; exact cv cn.1 d.1.Desks.2) fun y150=>.lg ⟨_,_,_,_,_,rfl⟩))))
  exact .lg ⟨_,_,_,_,_,rfl⟩
 rintro _ y151 ⟨j152,j153,j154,j155,j156,rfl⟩
 refine .u4 (.uc (.uc (.bg (fun t (y:Bool)=>∃ j160 j161 j162 j163 j164 j165 j166:A,t=[(bA y),j160,j161,j162,j163,j164,j165,j166]) ?_ ?_)))
 ·refine .eQ (fun hk157=>?_) (fun hk157=>?_)
  ·exact .s (pt 13 0) (.s (pt 13 4) (.s (ag (aa ca.1.Desks.2)) (.s (im [[(bA true)],[(bA true)]] true) (.s zT (.bd (g:=fun (y:Bool)=>(bA y)) (by show C 14 [snap _ (ag (aa ca.1.Desks.2)),snap _ zT]=_; simp only[cF,eA]; exact cv ca.1.Desks.2 ((ah.mk 1 ([(ak.mk 0 0 10),(ak.mk 1 1 20)]) ([]) ([true,true])))) fun y158=>.lg ⟨_,_,_,_,_,_,_,rfl⟩)))))
  exact .lg ⟨_,_,_,_,_,_,_,rfl⟩
 rintro _ y159 ⟨j160,j161,j162,j163,j164,j165,j166,rfl⟩
 exact .u4 (.u4 (.lv rfl))
def G7  : Option Bool:=F7 aH
def HF (C:OT):Prop:=∀ (_:Unit),C 7 []=(G7 ).map fun y=>(bA y)
def mG (n:Nat) (p:aE) (q:aE):Nat->Int->Option ((Bool)⊕(Unit))
 | 0,_=>none
 | m+1,d=>bif (decide (d<2)) then (bif (decide (0<=d)&&decide (d<2)) then ((jQ d p.Desks.1 p.Desks.2).bind fun u=>bif (decide (0<=d)&&decide (d<2)) then ((jQ d q.Desks.1 q.Desks.2).bind fun y=>(E7 u y).bind fun ab=>(bif (!ab) then (some true) else (bif (decide (0<=d)&&decide (d<2)) then ((jQ d p.Synced.1 p.Synced.2).bind fun ad=>bif (decide (0<=d)&&decide (d<2)) then ((jQ d q.Synced.1 q.Synced.2).bind fun an=>some (ad != an)) else none) else none)).bind fun ao=>bif ao then ((some true).bind fun bm=>bif bm then (some ((Sum.inl false))) else (mG n p q m (wr .i64 (d+1)))) else (bif (decide (0<=d)&&decide (d<2)) then ((jQ d p.Spoken.1 p.Spoken.2).bind fun bs=>bif (decide (0<=d)&&decide (d<2)) then ((jQ d q.Spoken.1 q.Spoken.2).bind fun ca=>((E8 bs ca).bind fun cc=>some (!cc)).bind fun ch=>bif ch then (some ((Sum.inl false))) else (mG n p q m (wr .i64 (d+1)))) else none) else none)) else none) else none) else (some ((Sum.inr (()))))
theorem BF (fv:zl C) (ha:qj C) {w146:A} (p:aE) (q:aE) {K:((Bool)⊕(Unit))->Option γ} (x0:∀ (o0:Bool) (s2:A) (s3:A) (u:A) (q0:aD) (q1:aD),J φ (kr (St.mk [(2,s2),(3,s3),(4,(bA o0)),(5,u)] [q0,q1])) kL (K (Sum.inl o0)) some) (x1:∀ (s4:A) (u:A),J φ (kx 0 (St.mk [(2,(pt 0 0)),(3,(pt 1 0)),(4,s4),(5,u)] [bx (ai p),bx (ai q)])) kL (K (Sum.inr (()))) some) :
  ∀ (m:Nat) (d:Int),J φ (aK (cx C) (ec C n 8) (ey C n 8) (n+8) 16 0 0 2 kx kg kr kp m (St.mk [(2,(pt 0 0)),(3,(pt 1 0)),(4,w146),(5,(iA d))] [bx (ai p),bx (ai q)])) kL (mG n p q m d) K:=by
 intro m
 induction m with
 | zero=>intros; exact .nn
 | succ m ih =>
  intro d
  refine .lp (HY ..) ?_
  unfold mG
  refine .st (aW ..) (.aY (fun hj=>?_) (fun hj=>?_))
  ·refine .s (pt 0 0) (.gd fun hg=>.st (v:=(pt 0 (0+Int.toNat d*4))) (bN (e:=26) (n:=4) (len:=2) (by kernel_rfl) (by kernel_rfl) rfl hg) (.a2 (f:=fun (y:ah)=>(ag [(iA y.Self),(im (y.Leases.map ae) false),(im (y.Calls.map af) false),(im (y.Order.map cB) false)])) (fun h=>by rw[h]; kernel_rfl) (fun h=>by rw[h]; kernel_rfl) fun ao=>.s (pt 1 0) (.gd fun hg=>.st (v:=(pt 1 (0+Int.toNat d*4))) (bN (e:=26) (n:=4) (len:=2) (by kernel_rfl) (by kernel_rfl) rfl hg) (.a2 (f:=fun (y:ah)=>(ag [(iA y.Self),(im (y.Leases.map ae) false),(im (y.Calls.map af) false),(im (y.Order.map cB) false)])) (fun h=>by rw[h]; kernel_rfl) (fun h=>by rw[h]; kernel_rfl) fun bm=>.bd (g:=fun (y:Bool)=>(bA y)) (by show C 14 [snap _ (ag (aa ao)),snap _ (ag (aa bm))]=_; simp only[cF,eA]; exact fv ao bm) fun hk=>.s (bA (!hk)) (.bg (fun t (y:Bool)=>∃ bs ca cc ch ck cm cn cv cy:A,t=[(bA y),bs,ca,cc,ch,ck,cm,cn,cv,cy]) ?_ ?_)))))
   ·refine .eQ (fun ho=>?_) (fun ho=>?_)
    ·exact .lg ⟨_,_,_,_,_,_,_,_,_,rfl⟩
    exact .s (pt 0 8) (.gd fun hg=>.st (v:=(pt 0 (8+Int.toNat d*1))) (bN (e:=3) (n:=1) (len:=2) (by kernel_rfl) (by kernel_rfl) rfl hg) (.a2 (f:=fun (y:Int)=>(iA y)) (fun h=>by rw[h]; kernel_rfl) (fun h=>by rw[h]; kernel_rfl) fun hs=>.s (pt 1 8) (.gd fun hg=>.st (v:=(pt 1 (8+Int.toNat d*1))) (bN (e:=3) (n:=1) (len:=2) (by kernel_rfl) (by kernel_rfl) rfl hg) (.a2 (f:=fun (y:Int)=>(iA y)) (fun h=>by rw[h]; kernel_rfl) (fun h=>by rw[h]; kernel_rfl) fun ht=>.st (bq ..) (.lg ⟨_,_,_,_,_,_,_,_,_,rfl⟩)))))
   rintro _ hv ⟨bs,ca,cc,ch,ck,cm,cn,cv,cy,rfl⟩
   refine .u4 (.u4 (.uc (.uc (.Hl (fun ab=>?_) (fun ab=>?_)))))
   ·refine .bb (.s (pt 0 11) (.gd fun hg=>.st (v:=(pt 0 (11+Int.toNat d*1))) (bN (e:=23) (n:=1) (len:=2) (by kernel_rfl) (by kernel_rfl) rfl hg) (.a2 (f:=fun (y:(List av))=>(im (y.map af) false)) (fun h=>by rw[h]; kernel_rfl) (fun h=>by rw[h]; kernel_rfl) fun dd=>.s (pt 1 11) (.gd fun hg=>.st (v:=(pt 1 (11+Int.toNat d*1))) (bN (e:=23) (n:=1) (len:=2) (by kernel_rfl) (by kernel_rfl) rfl hg) (.a2 (f:=fun (y:(List av))=>(im (y.map af) false)) (fun h=>by rw[h]; kernel_rfl) (fun h=>by rw[h]; kernel_rfl) fun ea=>.cr (.u4 (.u4 (.bg (fun t (y:Bool)=>∃ eg ej:A,t=[(bA y),eg,ej]) ?_ ?_))))))))
    ·exact .wj ab (.bd (g:=fun (y:Bool)=>(bA y)) (by show C 21 [snap _ (im (dd.map af) false),snap _ (im (ea.map af) false)]=_; simp only[cF,eA]; exact ha dd ea) fun hp=>.s (bA (!hp)) (.lg ⟨_,_,rfl⟩))
    rintro _ hx ⟨eg,ej,rfl⟩
    refine .uc (.uc (.uc (.aY (fun hq=>?_) (fun hq=>?_))))
    ·exact .ex (x0 _ _ _ _ _ _)
    refine .st (aP ..) (.s [bx (ai p),bx (ai q)] (.cT (by kernel_rfl) ?_))
    exact ih _
   refine .bb (.cr (.u4 (.u4 (.bg (fun t (y:Bool)=>∃ en fs:A,t=[(bA y),en,fs]) ?_ ?_))))
   ·exact .vS ab (.lg ⟨_,_,rfl⟩)
   rintro _ hy ⟨en,fs,rfl⟩
   refine .uc (.uc (.uc (.aY (fun hr=>?_) (fun hr=>?_))))
   ·exact .ex (x0 _ _ _ _ _ _)
   refine .st (aP ..) (.s [bx (ai p),bx (ai q)] (.cT (by kernel_rfl) ?_))
   exact ih _
  exact .ex (x1 _ _)
def KP (n:Nat) (a0:aE) (a1:aE):Option Bool :=
 (mG n a0 a1 (n+8) 0).bind fun d=>match d with | (Sum.inl p)=>some p | (Sum.inr _)=>(DC a0.Told a1.Told).bind fun q=>some q
theorem NI (C:OT) (n:Nat) (d:zl C) (p:qL C) (q:qj C) (a0:aE) (a1:aE):J (fun (o:R) y=>∃ v,o.1=.ret v/\aF o.2 v=(bA y)) (aB (cx C) (ec C n 8) (ey C n 8) (n+8) 16 [(ag (ai a0)),(ag (ai a1))] [] 0) some (KP n a0 a1) some:=by
 refine .lp (Og ..) ?_
 unfold KP
 refine .s ((pt 0 0),[bx (ai a0)]) (.s ((pt 1 0),[bx (ai a0),bx (ai a1)]) (.as (BF C n _ _ _ _ d q a0 a1 ?_ ?_ _ 0)))
 ·intro u ab ad an w197 w198
  exact .un rfl (.lv rfl)
 ·intro ao bm
  exact .un rfl (.cT (by kernel_rfl) (.s (pt 0 10) (.s (im (a0.Told.map ae) false) (.s (pt 1 10) (.s (im (a1.Told.map ae) false) (.bd (g:=fun (y:Bool)=>(bA y)) (by show C 19 [snap _ (im (a0.Told.map ae) false),snap _ (im (a1.Told.map ae) false)]=_; simp only[cF,eA]; exact p a0.Told a1.Told) fun bs=>.lv rfl))))))
def Hs (a0:aE) (a1:aE):Option Bool:=KP aH a0 a1
def Bu (C:OT):Prop:=∀ (a0:aE) (a1:aE),C 16 [(ag (ai a0)),(ag (ai a1))]=(Hs a0 a1).map fun y=>(bA y)
def JS (n:Nat) (a0:(List ak)) (a1:(List ak)):Option Bool :=
 (bif (decide (((a0.length:Int))<=((a1.length:Int)))) then ((et a1 0 ((a0.length:Int))).bind fun d=>(DC a0 d).bind fun p=>some p) else (some false)).bind fun q=>some q
theorem NO (C:OT) (n:Nat) (ao:qL C) (a0:(List ak)) (a1:(List ak)):J (fun (o:R) y=>∃ v,o.1=.ret v/\aF o.2 v=(bA y)) (aB (cx C) (ec C n 8) (ey C n 8) (n+8) 22 [(im (a0.map ae) false),(im (a1.map ae) false)] [] 0) some (JS n a0 a1) some:=by
 refine .lp (Ol ..) ?_
 unfold JS
 refine .st (eb (e:=59)) (.st (eb (e:=59)) (.st (fx ..) (.bg (fun t (y:Bool)=>∃ d p q u j9 ad:A,t=[(bA y),d,p,q,u,j9,ad]) ?_ ?_)))
 ·refine .eQ (fun bm=>?_) (fun bm=>?_)
  ·exact .st (eb (e:=59)) (.bd (eY (e:=59) (es:=3) (f:=ae) (l:=a1) (a:=0) (b:=(a0.length:Int)) (by kernel_rfl) (by kernel_rfl) (fun _=>rfl) (.inl ⟨rfl,rfl⟩) (.inr ⟨_,rfl⟩)) fun y2=>.bd (g:=fun (y:Bool)=>(bA y)) (by show C 19 [snap _ (im (a0.map ae) false),snap _ (im (y2.map ae) false)]=_; simp only[cF,eA]; exact ao a0 y2) fun y3=>.lg ⟨_,_,_,_,_,_,rfl⟩)
  exact .lg ⟨_,_,_,_,_,_,rfl⟩
 rintro _ y4 ⟨d,p,q,u,j9,ad,rfl⟩
 exact .u4 (.uc (.uc (.uc (.lv rfl))))
def Ha (a0:(List ak)) (a1:(List ak)):Option Bool:=JS aH a0 a1
def Fc (C:OT):Prop:=∀ (a0:(List ak)) (a1:(List ak)),C 22 [(im (a0.map ae) false),(im (a1.map ae) false)]=(Ha a0 a1).map fun y=>(bA y)
def jw (n:Nat) (p:(List ak)) (d:ak):Nat->Int->Option ((Bool)⊕(Unit))
 | 0,_=>none
 | m+1,q=>bif (decide (q<((p.length:Int)))) then ((bX p q).bind fun u=>bif (((u.No==d.No)&&((u.Holder==d.Holder)&&(u.Until==d.Until)))) then (some ((Sum.inl true))) else (jw n p d m (wr .i64 (q+1)))) else (some ((Sum.inr (()))))
theorem BZ {w24:A} (ad:(List ak)) (d:ak) {K:((Bool)⊕(Unit))->Option γ} (x0:∀ (o0:Bool) (q:A) (u:A) (y:A) (q0:aD),J φ (kr (St.mk [(0,q),(3,u),(4,(bA o0)),(5,y)] [q0])) kL (K (Sum.inl o0)) some) (x1:∀ (q:A) (u:A) (s4:A) (y:A) (q0:aD),J φ (kx 0 (St.mk [(0,q),(3,u),(4,s4),(5,y)] [q0])) kL (K (Sum.inr (()))) some) :
  ∀ (m:Nat) (ab:Int),J φ (aK (cx C) (ec C n 8) (ey C n 8) (n+8) 48 0 0 1 kx kg kr kp m (St.mk [(0,(im (ad.map ae) false)),(3,(pt 0 0)),(4,w24),(5,(iA ab))] [bx (ae d)])) kL (jw n ad d m ab) K:=by
 intro m
 induction m with
 | zero=>intros; exact .nn
 | succ m ih =>
  intro ab
  refine .lp (Iu ..) ?_
  unfold jw
  refine .st (eb (e:=59)) (.st (aW ..) (.aY (fun ca=>?_) (fun ca=>?_)))
  ·refine .bd (iT (e:=59) (es:=3)) fun p=>.s (ag (ae p)) (.s (ag (ae d)) (.s (bA (((p.No==d.No)&&((p.Holder==d.Holder)&&(p.Until==d.Until))))) (.aY (fun cc=>?_) (fun cc=>?_))))
   ·exact .ex (x0 _ _ _ _ _)
   refine .st (aP ..) (.s [bx (ae d)] (.cT (by kernel_rfl) ?_))
   exact ih _
  exact .ex (x1 _ _ _ _ _)
def JZ (n:Nat) (a0:(List ak)) (a1:ak):Option Bool :=
 (jw n a0 a1 (n+8) 0).bind fun d=>match d with | (Sum.inl p)=>some p | (Sum.inr _)=>some false
theorem NX (C:OT) (n:Nat) (a0:(List ak)) (a1:ak):J (fun (o:R) y=>∃ v,o.1=.ret v/\aF o.2 v=(bA y)) (aB (cx C) (ec C n 8) (ey C n 8) (n+8) 48 [(im (a0.map ae) false),(ag (ae a1))] [] 0) some (JZ n a0 a1) some:=by
 refine .lp (OE ..) ?_
 unfold JZ
 refine .s ((pt 0 0),[bx (ae a1)]) (.as (BZ C n _ _ _ _ a0 a1 ?_ ?_ _ 0))
 ·intro d p q u w36
  exact .un rfl (.lv rfl)
 ·intro ab ad an ao My
  exact .un rfl (.cT (by kernel_rfl) (.lv rfl))
def He (a0:(List ak)) (a1:ak):Option Bool:=JZ aH a0 a1
def BB (C:OT):Prop:=∀ (a0:(List ak)) (a1:ak),C 48 [(im (a0.map ae) false),(ag (ae a1))]=(He a0 a1).map fun y=>(bA y)
def jx (n:Nat) (ad:Bool) (p:(List av)) (q:Int) (u:Int) (y:Int):Nat->Int->Option ((Bool)⊕(Unit))
 | 0,_=>none
 | m+1,d=>bif (decide (d<q)) then ((bX p d).bind fun ab=>bif (((ab.Bar==u)&&(ab.Program==y))) then (some ((Sum.inl true))) else (jx n ad p q u y m (wr .i64 (d+1)))) else (some ((Sum.inr (()))))
theorem B1 (bm:Bool) (u:(List av)) (bs:Int) (p:Int) (q:Int) {K:((Bool)⊕(Unit))->Option γ} (x0:∀ (o0:Bool) (y:A) (s7:A) (s8:A) (s9:A) (q0:aD) (q1:aD),J φ (kr (St.mk [(3,y),(4,(bA o0)),(7,s7),(8,s8),(9,s9)] [q0,q1])) kL (K (Sum.inl o0)) some) (x1:∀ (y:A) (s4:A) (s7:A) (s8:A) (s9:A) (q0:aD),J φ (kx 0 (St.mk [(3,y),(4,s4),(7,s7),(8,s8),(9,s9)] [q0])) kL (K (Sum.inr (()))) some) :
  ∀ (m:Nat) (ao:Int),J φ (aK (cx C) (ec C n 8) (ey C n 8) (n+8) 49 0 0 1 kx kg kr kp m (St.mk [(3,(pt 0 0)),(4,(bA bm)),(7,(im (u.map af) false)),(8,(iA bs)),(9,(iA ao))] [bx [(iA p),(iA q)]])) kL (jx n bm u bs p q m ao) K:=by
 intro m
 induction m with
 | zero=>intros; exact .nn
 | succ m ih =>
  intro ao
  refine .lp (Iw ..) ?_
  unfold jx
  refine .st (aW ..) (.aY (fun cm=>?_) (fun cm=>?_))
  ·refine .bd (iT (e:=62) (es:=2)) fun d=>.s (ag [(iA d.Bar),(iA d.Program)]) (.sq (pt 1 0) (.s [bx [(iA p),(iA q)],bx [(iA d.Bar),(iA d.Program)]] (.s (ag [(iA d.Bar),(iA d.Program)]) (.s (ag [(iA p),(iA q)]) (.s (bA (((d.Bar==p)&&(d.Program==q)))) (.aY (fun cn=>?_) (fun cn=>?_)))))))
   ·exact .ex (x0 _ _ _ _ _ _ _)
   refine .st (aP ..) (.s [bx [(iA p),(iA q)]] (.cT ((by kernel_rfl:_=(bif aG 1 (u.map af) then true else false)).trans (by simp only[eF,eG])) ?_))
   exact ih _
  exact .ex (x1 _ _ _ _ _ _)
def J0 (n:Nat) (a0:(List av)) (a1:av):Option Bool :=
 (jx n false a0 ((a0.length:Int)) a1.Bar a1.Program (n+8) 0).bind fun d=>match d with | (Sum.inl p)=>some p | (Sum.inr _)=>some false
theorem NY (C:OT) (n:Nat) (a0:(List av)) (a1:av):J (fun (o:R) y=>∃ v,o.1=.ret v/\aF o.2 v=(bA y)) (aB (cx C) (ec C n 8) (ey C n 8) (n+8) 49 [(im (a0.map af) false),(ag [(iA a1.Bar),(iA a1.Program)])] [] 0) some (J0 n a0 a1) some:=by
 refine .lp (OG ..) ?_
 unfold J0
 refine .s ((pt 0 0),[bx [(iA a1.Bar),(iA a1.Program)]]) (.st (eb (e:=62)) (.as (B1 C n _ _ _ _ false a0 ((a0.length:Int)) a1.Bar a1.Program ?_ ?_ _ 0)))
 ·intro d p q u ab w59 w60
  exact .un rfl (.lv rfl)
 ·intro ad an ao bm bs w66
  exact .un rfl (.cT (by kernel_rfl) (.lv rfl))
def Hv (a0:(List av)) (a1:av):Option Bool:=J0 aH a0 a1
def zp (C:OT):Prop:=∀ (a0:(List av)) (a1:av),C 49 [(im (a0.map af) false),(ag [(iA a1.Bar),(iA a1.Program)])]=(Hv a0 a1).map fun y=>(bA y)
def iv (n:Nat) (y:Bool) (ab:(List av)) (ad:Int) (an:Int) (p:(List av)) (q:Int) (ao:aE) (bm:ah) (bs:ah) (u:Int) (ca:Int):Nat->Int->Option ((Bool)⊕(Unit))
 | 0,_=>none
 | m+1,d=>bif (decide (d<q)) then ((bX p d).bind fun cc=>bif (u==cc.Bar) then (some ((Sum.inl false))) else (iv n y ab ad an p q ao bm bs u ca m (wr .i64 (d+1)))) else (some ((Sum.inr (()))))
theorem BL (bm:Bool) (d:(List av)) (ad:Int) (an:Int) (bs:(List av)) (cn:Int) (p:aE) (q:ah) (u:ah) (y:Int) (ao:Int) {K:((Bool)⊕(Unit))->Option γ} (x0:∀ (o0:Bool) (s6:A) (cc:A) (ch:A) (ck:A) (q0:aD) (q1:aD) (q2:aD) (q3:aD) (q4:aD),J φ (kr (St.mk [(1,(pt 0 0)),(2,(bA o0)),(3,(pt 1 0)),(4,(pt 2 0)),(6,s6),(38,(im (d.map af) false)),(39,(iA ad)),(40,(iA an)),(45,cc),(46,ch),(47,ck)] [q0,q1,q2,q3,q4])) kL (K (Sum.inl o0)) some) (x1:∀ (s6:A) (cc:A) (ch:A) (ck:A) (q3:aD),J φ (kx 2 (St.mk [(1,(pt 0 0)),(2,(bA bm)),(3,(pt 1 0)),(4,(pt 2 0)),(6,s6),(38,(im (d.map af) false)),(39,(iA ad)),(40,(iA an)),(45,cc),(46,ch),(47,ck)] [bx (ai p),bx (aa q),bx (aa u),q3])) kL (K (Sum.inr (()))) some) :
  ∀ (m:Nat) (cm:Int),J φ (aK (cx C) (ec C n 8) (ey C n 8) (n+8) 18 0 1 4 kx kg kr kp m (St.mk [(1,(pt 0 0)),(2,(bA bm)),(3,(pt 1 0)),(4,(pt 2 0)),(6,(pt 3 0)),(38,(im (d.map af) false)),(39,(iA ad)),(40,(iA an)),(45,(im (bs.map af) false)),(46,(iA cn)),(47,(iA cm))] [bx (ai p),bx (aa q),bx (aa u),bx [(iA y),(iA ao)]])) kL (iv n bm d ad an bs cn p q u y ao m cm) K:=by
 intro m
 induction m with
 | zero=>intros; exact .nn
 | succ m ih =>
  intro cm
  refine .lp (Ia ..) ?_
  unfold iv
  refine .st (aW ..) (.aY (fun ea=>?_) (fun ea=>?_))
  ·refine .bd (iT (e:=62) (es:=2)) fun ab=>.s (ag [(iA ab.Bar),(iA ab.Program)]) (.sq (pt 4 0) (.s [bx (ai p),bx (aa q),bx (aa u),bx [(iA y),(iA ao)],bx [(iA ab.Bar),(iA ab.Program)]] (.s (pt 3 0) (.s (iA y) (.s (pt 4 0) (.s (iA ab.Bar) (.st (bC ..) (.aY (fun eg=>?_) (fun eg=>?_)))))))))
   ·exact .ex (x0 _ _ _ _ _ _ _ _ _ _)
   refine .st (aP ..) (.st (v:=[bx (ai p),bx (aa q),bx (aa u),bx [(iA y),(iA ao)]]) (dy (by kernel_rfl) (by simp only[uB,eF,eG,Nat.reduceLT,decide_true])) (.cT ((by kernel_rfl:_=(bif aG 4 (d.map af) then (bif aG 4 (bs.map af) then true else false) else false)).trans (by simp only[eF,eG])) ?_))
   exact ih _
  exact .ex (x1 _ _ _ _ _)
def iu (n:Nat) (y:Bool) (q:(List av)) (u:Int) (ab:aE) (ad:ah) (d:ah):Nat->Int->Option ((Bool)⊕(Unit))
 | 0,_=>none
 | m+1,p=>bif (decide (p<u)) then ((bX q p).bind fun an=>(iv n y q u p d.Calls ((d.Calls.length:Int)) ab ad d an.Bar an.Program (n+8) 0).bind fun ao=>match ao with | (Sum.inl bm)=>some ((Sum.inl bm)) | (Sum.inr _)=>iu n y q u ab ad d m (wr .i64 (p+1))) else (some ((Sum.inr (()))))
theorem BK (y:Bool) (ab:(List av)) (an:Int) (p:aE) (q:ah) (d:ah) {K:((Bool)⊕(Unit))->Option γ} (x0:∀ (o0:Bool) (s1:A) (s3:A) (s4:A) (ao:A) (bm:A) (bs:A) (q0:aD) (q1:aD) (q2:aD) (q3:aD) (q4:aD),J φ (kr (St.mk [(1,s1),(2,(bA o0)),(3,s3),(4,s4),(38,ao),(39,bm),(40,bs)] [q0,q1,q2,q3,q4])) kL (K (Sum.inl o0)) some) (x1:∀ (ao:A) (bm:A) (bs:A),J φ (kx 0 (St.mk [(1,(pt 0 0)),(2,(bA y)),(3,(pt 1 0)),(4,(pt 2 0)),(38,ao),(39,bm),(40,bs)] [bx (ai p),bx (aa q),bx (aa d)])) kL (K (Sum.inr (()))) some) :
  ∀ (m:Nat) (ad:Int),J φ (aK (cx C) (ec C n 8) (ey C n 8) (n+8) 18 0 0 3 kx kg kr kp m (St.mk [(1,(pt 0 0)),(2,(bA y)),(3,(pt 1 0)),(4,(pt 2 0)),(38,(im (ab.map af) false)),(39,(iA an)),(40,(iA ad))] [bx (ai p),bx (aa q),bx (aa d)])) kL (iu n y ab an p q d m ad) K:=by
 intro m
 induction m with
 | zero=>intros; exact .nn
 | succ m ih =>
  intro ad
  refine .lp (HZ ..) ?_
  unfold iu
  refine .st (aW ..) (.aY (fun cn=>?_) (fun cn=>?_))
  ·refine .bd (iT (e:=62) (es:=2)) fun u=>.s (ag [(iA u.Bar),(iA u.Program)]) (.sq (pt 3 0) (.s [bx (ai p),bx (aa q),bx (aa d),bx [(iA u.Bar),(iA u.Program)]] (.s (pt 2 2) (.s (im (d.Calls.map af) false) (.st (eb (e:=62)) (.as (BL C n _ _ _ _ y ab an ad d.Calls ((d.Calls.length:Int)) p q d u.Bar u.Program ?_ ?_ _ 0)))))))
   ·intro cv cy dd ea eg w856 w857 w858 w859 w860
    exact .un rfl (.ex (x0 _ _ _ _ _ _ _ _ _ _ _ _))
   ·intro ej en fs fv w865
    refine .un rfl (.cT (by kernel_rfl) (.st (aP ..) (.st (v:=[bx (ai p),bx (aa q),bx (aa d)]) (dy (by kernel_rfl) (by simp only[uB,eF,eG,Nat.reduceLT,decide_true])) (.cT ((by kernel_rfl:_=(bif aG 3 (ab.map af) then true else false)).trans (by simp only[eF,eG])) ?_))))
    exact ih _
  exact .ex (x1 _ _ _)
def ix (n:Nat) (ad:Bool) (p:(List ak)) (q:Int) (an:aE) (u:ah) (y:ah):Nat->Int->Option ((Bool)⊕(Unit))
 | 0,_=>none
 | m+1,d=>bif (decide (d<q)) then ((bX p d).bind fun ab=>(He u.Leases ab).bind fun ao=>(bif (!ao) then ((He y.Leases ab).bind fun bm=>some (!bm)) else (some false)).bind fun bs=>bif bs then (some ((Sum.inl false))) else (ix n ad p q an u y m (wr .i64 (d+1)))) else (some ((Sum.inr (()))))
theorem BM (ch:BB C) (ab:Bool) (ad:(List ak)) (ck:Int) (u:aE) (d:ah) (p:ah) {K:((Bool)⊕(Unit))->Option γ} (x0:∀ (o0:Bool) (s1:A) (s3:A) (s4:A) (bm:A) (bs:A) (ca:A) (q0:aD) (q1:aD) (q2:aD) (q3:aD),J φ (kr (St.mk [(1,s1),(2,(bA o0)),(3,s3),(4,s4),(59,bm),(60,bs),(61,ca)] [q0,q1,q2,q3])) kL (K (Sum.inl o0)) some) (x1:∀ (s3:A) (s4:A) (bm:A) (bs:A) (ca:A),J φ (kx 4 (St.mk [(1,(pt 0 0)),(2,(bA ab)),(3,s3),(4,s4),(59,bm),(60,bs),(61,ca)] [bx (ai u),bx (aa d),bx (aa p)])) kL (K (Sum.inr (()))) some) :
  ∀ (m:Nat) (cc:Int),J φ (aK (cx C) (ec C n 8) (ey C n 8) (n+8) 18 0 2 3 kx kg kr kp m (St.mk [(1,(pt 0 0)),(2,(bA ab)),(3,(pt 1 0)),(4,(pt 2 0)),(59,(im (ad.map ae) false)),(60,(iA ck)),(61,(iA cc))] [bx (ai u),bx (aa d),bx (aa p)])) kL (ix n ab ad ck u d p m cc) K:=by
 intro m
 induction m with
 | zero=>intros; exact .nn
 | succ m ih =>
  intro cc
  refine .lp (Ib ..) ?_
  unfold ix
  refine .st (aW ..) (.aY (fun en=>?_) (fun en=>?_))
  ·refine .bd (iT (e:=59) (es:=3)) fun q=>.s (ag (ae q)) (.sq (pt 3 0) (.s [bx (ai u),bx (aa d),bx (aa p),bx (ae q)] (.s (pt 1 1) (.s (im (d.Leases.map ae) false) (.s (ag (ae q)) (.bd (g:=fun (y:Bool)=>(bA y)) (by show C 48 [snap _ (im (d.Leases.map ae) false),snap _ (ag (ae q))]=_; simp only[cF,eA]; exact ch d.Leases q) fun fs=>.s (bA (!fs)) (.bg (fun t (y:Bool)=>∃ cn cv cy dd ea:A,t=[(bA y),cn,cv,cy,dd,ea]) ?_ ?_)))))))
   ·refine .eQ (fun fv=>?_) (fun fv=>?_)
    ·exact .s (pt 2 1) (.s (im (p.Leases.map ae) false) (.s (ag (ae q)) (.bd (g:=fun (y:Bool)=>(bA y)) (by show C 48 [snap _ (im (p.Leases.map ae) false),snap _ (ag (ae q))]=_; simp only[cF,eA]; exact ch p.Leases q) fun ha=>.s (bA (!ha)) (.lg ⟨_,_,_,_,_,rfl⟩))))
    exact .lg ⟨_,_,_,_,_,rfl⟩
   rintro _ hg ⟨cn,cv,cy,dd,ea,rfl⟩
   refine .u4 (.uc (.uc (.aY (fun hf=>?_) (fun hf=>?_))))
   ·exact .ex (x0 _ _ _ _ _ _ _ _ _ _ _)
   refine .st (aP ..) (.st (v:=[bx (ai u),bx (aa d),bx (aa p)]) (dy (by kernel_rfl) (by simp only[uB,eF,eG,Nat.reduceLT,decide_true])) (.cT ((by kernel_rfl:_=(bif aG 3 (ad.map ae) then true else false)).trans (by simp only[eF,eG])) ?_))
   exact ih _
  exact .ex (x1 _ _ _ _ _)
def iz (n:Nat) (ao:Bool) (p:Int) (q:Int) (bm:Int) (bs:(List av)) (ca:Int) (cc:Int) (ch:Int) (u:(List av)) (y:Int) (ck:aE) (cm:ah) (cn:ah) (ab:Int) (ad:Int):Nat->Int->Option ((Bool)⊕(Unit))
 | 0,_=>none
 | m+1,d=>bif (decide (d<y)) then ((bX u d).bind fun an=>(bif (ab==an.Bar) then ((bif (p != q) then (some true) else (some (ad != an.Program))).bind fun cv=>some cv) else (some false)).bind fun cy=>bif cy then (some ((Sum.inl false))) else (iz n ao p q bm bs ca cc ch u y ck cm cn ab ad m (wr .i64 (d+1)))) else (some ((Sum.inr (()))))
theorem BQ (ch:Bool) (ao:Int) (ea:Int) (bm:Int) (u:(List av)) (bs:Int) (ca:Int) (cc:Int) (ck:(List av)) (eg:Int) (ab:aE) (ad:ah) (an:ah) (d:Int) (p:Int) {K:((Bool)⊕(Unit))->Option γ} (x0:∀ (o0:Bool) (cm:A) (cn:A) (cv:A) (cy:A) (q0:aD) (q1:aD) (q2:aD) (q3:aD) (q4:aD),J φ (kr (St.mk [(1,(pt 0 0)),(2,(bA o0)),(11,(iA ao)),(13,(pt 3 0)),(14,cm),(78,(iA bm)),(84,(im (u.map af) false)),(85,(iA bs)),(86,(iA ca)),(98,(iA cc)),(104,cn),(105,cv),(106,cy)] [q0,q1,q2,q3,q4])) kL (K (Sum.inl o0)) some) (x1:∀ (cm:A) (cn:A) (cv:A) (cy:A),J φ (kx 12 (St.mk [(1,(pt 0 0)),(2,(bA ch)),(11,(iA ao)),(13,(pt 3 0)),(14,cm),(78,(iA bm)),(84,(im (u.map af) false)),(85,(iA bs)),(86,(iA ca)),(98,(iA cc)),(104,cn),(105,cv),(106,cy)] [bx (ai ab),bx (aa ad),bx (aa an),bx [(iA d),(iA p)]])) kL (K (Sum.inr (()))) some) :
  ∀ (m:Nat) (dd:Int),J φ (aK (cx C) (ec C n 8) (ey C n 8) (n+8) 18 0 6 4 kx kg kr kp m (St.mk [(1,(pt 0 0)),(2,(bA ch)),(11,(iA ao)),(13,(pt 3 0)),(14,(iA ea)),(78,(iA bm)),(84,(im (u.map af) false)),(85,(iA bs)),(86,(iA ca)),(98,(iA cc)),(104,(im (ck.map af) false)),(105,(iA eg)),(106,(iA dd))] [bx (ai ab),bx (aa ad),bx (aa an),bx [(iA d),(iA p)]])) kL (iz n ch ao ea bm u bs ca cc ck eg ab ad an d p m dd) K:=by
 intro m
 induction m with
 | zero=>intros; exact .nn
 | succ m ih =>
  intro dd
  refine .lp (Ih ..) ?_
  unfold iz
  refine .st (aW ..) (.aY (fun hx=>?_) (fun hx=>?_))
  ·refine .bd (iT (e:=62) (es:=2)) fun q=>.s (ag [(iA q.Bar),(iA q.Program)]) (.sq (pt 4 0) (.s [bx (ai ab),bx (aa ad),bx (aa an),bx [(iA d),(iA p)],bx [(iA q.Bar),(iA q.Program)]] (.s (pt 3 0) (.s (iA d) (.s (pt 4 0) (.s (iA q.Bar) (.st (bC ..) (.bg (fun t (y:Bool)=>∃ en fs fv ha hf hg hh hi hj hk:A,t=[(bA y),en,fs,fv,ha,hf,hg,hh,hi,hj,hk]) ?_ ?_))))))))
   ·refine .eQ (fun hy=>?_) (fun hy=>?_)
    ·refine .st (bq ..) (.bg (fun t (y:Bool)=>∃ ho hp hq hr hs:A,t=[(bA y),ho,hp,hq,hr,hs]) ?_ ?_)
     ·refine .eQ (fun ie=>?_) (fun ie=>?_)
      ·exact .lg ⟨_,_,_,_,_,rfl⟩
      exact .s (pt 3 1) (.s (iA p) (.s (pt 4 1) (.s (iA q.Program) (.st (bq ..) (.lg ⟨_,_,_,_,_,rfl⟩)))))
     rintro _ js ⟨ho,hp,hq,hr,hs,rfl⟩
     exact .u4 (.uc (.uc (.lg ⟨_,_,_,_,_,_,_,_,_,_,rfl⟩)))
    exact .lg ⟨_,_,_,_,_,_,_,_,_,_,rfl⟩
   rintro _ kc ⟨en,fs,fv,ha,hf,hg,hh,hi,hj,hk,rfl⟩
   refine .u4 (.u4 (.uc (.uc (.uc (.aY (fun ik=>?_) (fun ik=>?_))))))
   ·exact .ex (x0 _ _ _ _ _ _ _ _ _ _)
   refine .st (aP ..) (.st (v:=[bx (ai ab),bx (aa ad),bx (aa an),bx [(iA d),(iA p)]]) (dy (by kernel_rfl) (by simp only[uB,eF,eG,Nat.reduceLT,decide_true])) (.cT ((by kernel_rfl:_=(bif aG 4 (u.map af) then (bif aG 4 (ck.map af) then true else false) else false)).trans (by simp only[eF,eG])) ?_))
   exact ih _
  exact .ex (x1 _ _ _ _)
def gz (n:Nat) (q:Bool) (u:Int) (y:Int) (ab:(List av)) (ad:Int) (an:Int) (p:aE) (ao:ah) (bm:ah) (bs:Int) (ca:Int):Nat->Int->Option ((Bool)⊕(Unit))
 | 0,_=>none
 | m+1,d=>bif (decide (d<2)) then (bif (decide (0<=d)&&decide (d<2)) then ((jQ d p.Spoken.1 p.Spoken.2).bind fun cc=>(iz n q u d y ab ad an d cc ((cc.length:Int)) p ao bm bs ca (n+8) 0).bind fun ch=>match ch with | (Sum.inl ck)=>some ((Sum.inl ck)) | (Sum.inr _)=>gz n q u y ab ad an p ao bm bs ca m (wr .i64 (d+1))) else none) else (some ((Sum.inr (()))))
theorem BP (bs:Bool) (p:Int) (q:Int) (u:(List av)) (ab:Int) (ad:Int) (an:aE) (ao:ah) (bm:ah) (ca:Int) (cc:Int) {K:((Bool)⊕(Unit))->Option γ} (x0:∀ (o0:Bool) (ch:A) (ck:A) (q0:aD) (q1:aD) (q2:aD) (q3:aD) (q4:aD),J φ (kr (St.mk [(1,(pt 0 0)),(2,(bA o0)),(11,(iA p)),(13,ch),(78,(iA q)),(84,(im (u.map af) false)),(85,(iA ab)),(86,(iA ad)),(98,ck)] [q0,q1,q2,q3,q4])) kL (K (Sum.inl o0)) some) (x1:∀ (ch:A) (ck:A) (q3:aD),J φ (kx 10 (St.mk [(1,(pt 0 0)),(2,(bA bs)),(11,(iA p)),(13,ch),(78,(iA q)),(84,(im (u.map af) false)),(85,(iA ab)),(86,(iA ad)),(98,ck)] [bx (ai an),bx (aa ao),bx (aa bm),q3])) kL (K (Sum.inr (()))) some) :
  ∀ (m:Nat) (d:Int),J φ (aK (cx C) (ec C n 8) (ey C n 8) (n+8) 18 0 5 4 kx kg kr kp m (St.mk [(1,(pt 0 0)),(2,(bA bs)),(11,(iA p)),(13,(pt 3 0)),(78,(iA q)),(84,(im (u.map af) false)),(85,(iA ab)),(86,(iA ad)),(98,(iA d))] [bx (ai an),bx (aa ao),bx (aa bm),bx [(iA ca),(iA cc)]])) kL (gz n bs p q u ab ad an ao bm ca cc m d) K:=by
 intro m
 induction m with
 | zero=>intros; exact .nn
 | succ m ih =>
  intro d
  refine .lp (Ig ..) ?_
  unfold gz
  refine .st (aW ..) (.aY (fun dd=>?_) (fun dd=>?_))
  ·refine .s (pt 0 11) (.gd fun hg=>.st (v:=(pt 0 (11+Int.toNat d*1))) (bN (e:=23) (n:=1) (len:=2) (by kernel_rfl) (by kernel_rfl) rfl hg) (.a2 (f:=fun (y:(List av))=>(im (y.map af) false)) (fun h=>by rw[h]; kernel_rfl) (fun h=>by rw[h]; kernel_rfl) fun cn=>.st (eb (e:=62)) (.as (BQ C n _ _ _ _ bs p d q u ab ad d cn ((cn.length:Int)) an ao bm ca cc ?_ ?_ _ 0))))
   ·intro ea eg ej en fs w3713 w3714 w3715 w3716 w3717
    exact .un rfl (.ex (x0 _ _ _ _ _ _ _ _))
   ·intro fv ha hf hh
    refine .un rfl (.cT (by kernel_rfl) (.st (aP ..) (.s [bx (ai an),bx (aa ao),bx (aa bm),bx [(iA ca),(iA cc)]] (.cT (by kernel_rfl) ?_))))
    exact ih _
  exact .ex (x1 _ _ _)
def iy (n:Nat) (ad:Bool) (d:Int) (an:Int) (u:(List av)) (y:Int) (p:aE) (ao:ah) (bm:ah):Nat->Int->Option ((Bool)⊕((Bool)⊕(Unit)))
 | 0,_=>none
 | m+1,q=>bif (decide (q<y)) then ((bX u q).bind fun ab=>bif (decide (0<=d)&&decide (d<2)) then ((jQ d p.Desks.1.Calls p.Desks.2.Calls).bind fun bs=>(Hv bs ab).bind fun ca=>bif (!ca) then (some ((Sum.inl false))) else ((gz n ad d an u y q p ao bm ab.Bar ab.Program (n+8) 0).bind fun cc=>match cc with | (Sum.inl ch)=>some ((Sum.inr ((Sum.inl ch)))) | (Sum.inr _)=>iy n ad d an u y p ao bm m (wr .i64 (q+1)))) else none) else (some ((Sum.inr ((Sum.inr (()))))))
theorem BO (cv:zp C) (cc:Bool) (ad:Int) (p:Int) (ch:(List av)) (cm:Int) (q:aE) (u:ah) (ab:ah) {K:((Bool)⊕((Bool)⊕(Unit)))->Option γ} (x0:∀ (o0:Bool) (ao:A) (bm:A) (bs:A) (ca:A) (q0:aD) (q1:aD) (q2:aD) (q3:aD),J φ (kr (St.mk [(1,(pt 0 0)),(2,(bA o0)),(11,ao),(78,(iA p)),(84,bm),(85,bs),(86,ca)] [q0,q1,q2,q3])) kL (K (Sum.inl o0)) some) (x1:∀ (o0:Bool) (ao:A) (bm:A) (bs:A) (ca:A) (q0:aD) (q1:aD) (q2:aD) (q3:aD) (q4:aD),J φ (kr (St.mk [(1,(pt 0 0)),(2,(bA o0)),(11,ao),(78,(iA p)),(84,bm),(85,bs),(86,ca)] [q0,q1,q2,q3,q4])) kL (K (Sum.inr ((Sum.inl o0)))) some) (x2:∀ (ao:A) (bm:A) (bs:A) (ca:A),J φ (kx 8 (St.mk [(1,(pt 0 0)),(2,(bA cc)),(11,ao),(78,(iA p)),(84,bm),(85,bs),(86,ca)] [bx (ai q),bx (aa u),bx (aa ab)])) kL (K (Sum.inr ((Sum.inr (()))))) some) :
  ∀ (m:Nat) (ck:Int),J φ (aK (cx C) (ec C n 8) (ey C n 8) (n+8) 18 0 4 3 kx kg kr kp m (St.mk [(1,(pt 0 0)),(2,(bA cc)),(11,(iA ad)),(78,(iA p)),(84,(im (ch.map af) false)),(85,(iA cm)),(86,(iA ck))] [bx (ai q),bx (aa u),bx (aa ab)])) kL (iy n cc ad p ch cm q u ab m ck) K:=by
 intro m
 induction m with
 | zero=>intros; exact .nn
 | succ m ih =>
  intro ck
  refine .lp (Ie ..) ?_
  unfold iy
  refine .st (aW ..) (.aY (fun eg=>?_) (fun eg=>?_))
  ·refine .bd (iT (e:=62) (es:=2)) fun d=>.s (ag [(iA d.Bar),(iA d.Program)]) (.sq (pt 3 0) (.s [bx (ai q),bx (aa u),bx (aa ab),bx [(iA d.Bar),(iA d.Program)]] (.s (pt 0 0) (.gd fun hg=>.st (v:=(pt 0 (0+Int.toNat ad*4))) (bN (e:=26) (n:=4) (len:=2) (by kernel_rfl) (by kernel_rfl) rfl hg) (.s (pt 0 (0+Int.toNat ad*4+2)) (.a2 (f:=fun (y:(List av))=>(im (y.map af) false)) (fun h=>by rw[h]; kernel_rfl) (fun h=>by rw[h]; kernel_rfl) fun cn=>.s (ag [(iA d.Bar),(iA d.Program)]) (.bd (g:=fun (y:Bool)=>(bA y)) (by show C 49 [snap _ (im (cn.map af) false),snap _ (ag [(iA d.Bar),(iA d.Program)])]=_; simp only[cF,eA]; exact cv cn d) fun ej=>.s (bA (!ej)) (.aY (fun en=>?_) (fun en=>?_)))))))))
   ·exact .ex (x0 _ _ _ _ _ _ _ _ _)
   refine .as (BP C n _ _ _ _ cc ad p ch cm ck q u ab d.Bar d.Program ?_ ?_ _ 0)
   ·intro fs fv ha w3726 w3727 w3728 w3729 w3730
    exact .un rfl (.ex (x1 _ _ _ _ _ _ _ _ _ _))
   ·intro hf hh w3733
    refine .un rfl (.cT (by kernel_rfl) (.st (aP ..) (.st (v:=[bx (ai q),bx (aa u),bx (aa ab)]) (dy (by kernel_rfl) (by simp only[uB,eF,eG,Nat.reduceLT,decide_true])) (.cT ((by kernel_rfl:_=(bif aG 3 (ch.map af) then true else false)).trans (by simp only[eF,eG])) ?_))))
    exact ih _
  exact .ex (x2 _ _ _ _)
def gy (n:Nat) (q:Bool) (p:aE) (u:ah) (y:ah):Nat->Int->Option ((Bool)⊕((Bool)⊕(Unit)))
 | 0,_=>none
 | m+1,d=>bif (decide (d<2)) then (bif (decide (0<=d)&&decide (d<2)) then ((jQ d p.Spoken.1 p.Spoken.2).bind fun ab=>(iy n q d d ab ((ab.length:Int)) p u y (n+8) 0).bind fun ad=>match ad with | (Sum.inl an)=>some ((Sum.inl an)) | (Sum.inr ((Sum.inl ao)))=>some ((Sum.inr ((Sum.inl ao)))) | (Sum.inr ((Sum.inr _)))=>gy n q p u y m (wr .i64 (d+1))) else none) else (some ((Sum.inr ((Sum.inr (()))))))
theorem BN (bm:zp C) (an:Bool) (u:aE) (ab:ah) (ad:ah) {K:((Bool)⊕((Bool)⊕(Unit)))->Option γ} (x0:∀ (p:Bool) (s1:A) (q:A) (q0:aD) (q1:aD) (q2:aD) (q3:aD),J φ (kr (St.mk [(1,s1),(2,(bA p)),(78,q)] [q0,q1,q2,q3])) kL (K (Sum.inl p)) some) (x1:∀ (p:Bool) (s1:A) (q:A) (q0:aD) (q1:aD) (q2:aD) (q3:aD) (q4:aD),J φ (kr (St.mk [(1,s1),(2,(bA p)),(78,q)] [q0,q1,q2,q3,q4])) kL (K (Sum.inr ((Sum.inl p)))) some) (x2:∀ (s1:A) (s2:A) (q:A) (q0:aD) (q1:aD) (q2:aD),J φ (kx 6 (St.mk [(1,s1),(2,s2),(78,q)] [q0,q1,q2])) kL (K (Sum.inr ((Sum.inr (()))))) some) :
  ∀ (m:Nat) (d:Int),J φ (aK (cx C) (ec C n 8) (ey C n 8) (n+8) 18 0 3 3 kx kg kr kp m (St.mk [(1,(pt 0 0)),(2,(bA an)),(78,(iA d))] [bx (ai u),bx (aa ab),bx (aa ad)])) kL (gy n an u ab ad m d) K:=by
 intro m
 induction m with
 | zero=>intros; exact .nn
 | succ m ih =>
  intro d
  refine .lp (Ic ..) ?_
  unfold gy
  refine .st (aW ..) (.aY (fun ch=>?_) (fun ch=>?_))
  ·refine .s (pt 0 11) (.gd fun hg=>.st (v:=(pt 0 (11+Int.toNat d*1))) (bN (e:=23) (n:=1) (len:=2) (by kernel_rfl) (by kernel_rfl) rfl hg) (.a2 (f:=fun (y:(List av))=>(im (y.map af) false)) (fun h=>by rw[h]; kernel_rfl) (fun h=>by rw[h]; kernel_rfl) fun ao=>.st (eb (e:=62)) (.as (BO C n _ _ _ _ bm an d d ao ((ao.length:Int)) u ab ad ?_ ?_ ?_ _ 0))))
   ·intro ck cm cn cv cy w3740 w3741 w3742 w3743
    exact .un rfl (.ex (x0 _ _ _ _ _ _ _))
   ·intro dd ea eg ej en w3749 w3750 w3751 w3752 w3753
    exact .un rfl (.ex (x1 _ _ _ _ _ _ _ _))
   ·intro fs fv ha hf
    refine .un rfl (.cT (by kernel_rfl) (.st (aP ..) (.s [bx (ai u),bx (aa ab),bx (aa ad)] (.cT (by kernel_rfl) ?_))))
    exact ih _
  exact .ex (x2 _ _ _ _ _ _)
def JO (n:Nat) (a0:aE):Option Bool :=
 (Ha a0.Desks.1.Leases a0.Desks.2.Leases).bind fun d=>(bif (!d) then ((Ha a0.Desks.2.Leases a0.Desks.1.Leases).bind fun p=>some (!p)) else (some false)).bind fun q=>bif q then (some false) else ((iu n false a0.Desks.1.Calls ((a0.Desks.1.Calls.length:Int)) a0 a0.Desks.1 a0.Desks.2 (n+8) 0).bind fun u=>match u with | (Sum.inl y)=>some y | (Sum.inr _)=>(ix n false a0.Told ((a0.Told.length:Int)) a0 a0.Desks.1 a0.Desks.2 (n+8) 0).bind fun ab=>match ab with | (Sum.inl ad)=>some ad | (Sum.inr _)=>(gy n false a0 a0.Desks.1 a0.Desks.2 (n+8) 0).bind fun an=>match an with | (Sum.inl ao)=>some ao | (Sum.inr ((Sum.inl bm)))=>some bm | (Sum.inr ((Sum.inr _)))=>some true)
theorem NK (C:OT) (n:Nat) (d:Fc C) (ao:BB C) (bm:zp C) (a0:aE):J (fun (o:R) y=>∃ v,o.1=.ret v/\aF o.2 v=(bA y)) (aB (cx C) (ec C n 8) (ey C n 8) (n+8) 18 [(ag (ai a0))] [] 0) some (JO n a0) some:=by
 refine .lp (Oi ..) ?_
 unfold JO
 refine .s ((pt 0 0),[bx (ai a0)]) (.sq (pt 1 0) (.sq (pt 2 0) (.s (pt 0 0) (.s (pt 0 0) (.s (ag (aa a0.Desks.1)) (.s (pt 0 0) (.s (pt 0 4) (.s (ag (aa a0.Desks.2)) (.cT (by kernel_rfl) (.sh (.s [bx (ai a0),bx (aa a0.Desks.1),bx (aa a0.Desks.2)] (.s (pt 1 1) (.s (im (a0.Desks.1.Leases.map ae) false) (.s (pt 2 1) (.s (im (a0.Desks.2.Leases.map ae) false) (.bd (g:=fun (y:Bool)=>(bA y)) (by show C 22 [snap _ (im (a0.Desks.1.Leases.map ae) false),snap _ (im (a0.Desks.2.Leases.map ae) false)]=_; simp only[cF,eA]; exact d a0.Desks.1.Leases a0.Desks.2.Leases) fun y1=>.s (bA (!y1)) (.bg (fun t (y:Bool)=>∃ p q u j8 j9 an:A,t=[(bA y),p,q,u,j8,j9,an]) ?_ ?_)))))))))))))))))
 ·refine .eQ (fun ca=>?_) (fun ca=>?_)
  ·exact .s (pt 2 1) (.s (im (a0.Desks.2.Leases.map ae) false) (.s (pt 1 1) (.s (im (a0.Desks.1.Leases.map ae) false) (.bd (g:=fun (y:Bool)=>(bA y)) (by show C 22 [snap _ (im (a0.Desks.2.Leases.map ae) false),snap _ (im (a0.Desks.1.Leases.map ae) false)]=_; simp only[cF,eA]; exact d a0.Desks.2.Leases a0.Desks.1.Leases) fun y3=>.s (bA (!y3)) (.lg ⟨_,_,_,_,_,_,rfl⟩)))))
  exact .lg ⟨_,_,_,_,_,_,rfl⟩
 rintro _ y4 ⟨p,q,u,j8,j9,an,rfl⟩
 refine .u4 (.uc (.uc (.uc (.aY (fun ch=>?_) (fun ch=>?_)))))
 ·exact .lv rfl
 refine .s (pt 1 2) (.s (im (a0.Desks.1.Calls.map af) false) (.st (eb (e:=62)) (.as (BK C n _ _ _ _ false a0.Desks.1.Calls ((a0.Desks.1.Calls.length:Int)) a0 a0.Desks.1 a0.Desks.2 ?_ ?_ _ 0))))
 ·intro cm cn cv cy dd ea eg w874 w875 w876 w877 w878
  exact .un rfl (.lv rfl)
 ·intro ej en fs
  refine .un rfl (.cT (by kernel_rfl) (.s (pt 0 10) (.s (im (a0.Told.map ae) false) (.st (eb (e:=59)) (.as (BM C n _ _ _ _ ao false a0.Told ((a0.Told.length:Int)) a0 a0.Desks.1 a0.Desks.2 ?_ ?_ _ 0))))))
  ·intro fv ha hf hg hh hi hj w2030 w2031 w2032 w2033
   exact .un rfl (.lv rfl)
  ·intro hk ho hp hq hr
   refine .un rfl (.cT (by kernel_rfl) (.as (BN C n _ _ _ _ bm false a0 a0.Desks.1 a0.Desks.2 ?_ ?_ ?_ _ 0)))
   ·intro hs ht hv w3762 w3763 w3764 w3765
    exact .un rfl (.lv rfl)
   ·intro hx hy ie w3769 w3770 w3771 w3772 w3773
    exact .un rfl (.lv rfl)
   ·intro ih ik js w3777 w3778 w3779
    exact .un rfl (.cT (by kernel_rfl) (.lv rfl))
def Ht (a0:aE):Option Bool:=JO aH a0
def Bv (C:OT):Prop:=∀ (a0:aE),C 18 [(ag (ai a0))]=(Ht a0).map fun y=>(bA y)
end Go.Proofs.Ytdmgdjnadbakfaa
