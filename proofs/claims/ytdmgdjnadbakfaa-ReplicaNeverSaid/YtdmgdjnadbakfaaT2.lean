/-
 The program's functions as plain functions: by a tool; each follows the interpreter.
-/
import Derived.Test.YtdmgdjnadbakfaaT1
import Derived.KernelRfl
namespace Go.Proofs.Ytdmgdjnadbakfaa
open Go.Proofs.Try (prog)
set_option linter.unusedVariables false
set_option linter.unusedSimpArgs false
set_option maxHeartbeats 4000000
set_option maxRecDepth 100000
variable (C:Nat->List A->Option A) (n:Nat) {ρ γ:Type} {φ:ρ->γ->Prop} {kL:R->Option ρ} (kx kg:Nat->St->Option R) (kr:St->Option R) (kp:A->St->Option R)
def dJ (n:Nat) (a2:ak) (ab:(List Bool)) (ad:Int) (p:aC) (d:Int) (an:Bool) (ao:ah):Nat->(List ak)->(List av)->Int->Option ((Bool)⊕((Unit)⊕(Unit)))
 | 0,_,_,_=>none
 | m+1,u,y,q=>bif (decide (q<ad)) then ((bX ab q).bind fun bm=>(bif bm then (some (decide (0<((u.length:Int))))) else (some false)).bind fun ch=>bif ch then ((bX u 0).bind fun bs=>(et u 1 ((u.length:Int))).bind fun ca=>bif (decide (0<=d)&&decide (d<2)) then ((jQ d p.Pair.Synced.1 p.Pair.Synced.2).bind fun ck=>bif (decide (q<ck)) then (((bif bm then (some (((bs.No==a2.No)&&((bs.Holder==a2.Holder)&&(bs.Until==a2.Until))))) else (some false)).bind fun cm=>some cm).bind fun cn=>bif cn then (some ((Sum.inl true))) else (dJ n a2 ab ad p d an ao m ca y (wr .i64 (q+1)))) else ((some false).bind fun cv=>bif cv then (some ((Sum.inl true))) else (dJ n a2 ab ad p d an ao m ca y (wr .i64 (q+1))))) else none) else ((bif (!bm) then (some (decide (0<((y.length:Int))))) else (some false)).bind fun cy=>bif cy then ((bX y 0).bind fun en=>(et y 1 ((y.length:Int))).bind fun cc=>bif (decide (0<=d)&&decide (d<2)) then ((jQ d p.Pair.Synced.1 p.Pair.Synced.2).bind fun dd=>bif (decide (q<dd)) then (((bif bm then (some (((0==a2.No)&&((0==a2.Holder)&&(0==a2.Until))))) else (some false)).bind fun ea=>some ea).bind fun eg=>bif eg then (some ((Sum.inl true))) else (dJ n a2 ab ad p d an ao m u cc (wr .i64 (q+1)))) else ((some false).bind fun ej=>bif ej then (some ((Sum.inl true))) else (dJ n a2 ab ad p d an ao m u cc (wr .i64 (q+1))))) else none) else (some ((Sum.inr ((Sum.inl (())))))))) else (some ((Sum.inr ((Sum.inr (()))))))
theorem vY (a2:ak) (bs:(List Bool)) (eg:Int) (d:aC) (q:Int) (an:Bool) (u:ah) {K:((Bool)⊕((Unit)⊕(Unit)))->Option γ} (x0:∀ (o0:Bool) (s0:A) (s3:A) (s4:A) (ck:A) (cm:A) (cn:A) (q0:aD) (q1:aD) (q2:aD) (q4:aD) (q6:aD) (q7:aD),J φ (kr (St.mk [(0,s0),(3,s3),(4,s4),(13,ck),(14,cm),(15,cn)] [q0,q1,q2,bx [(bA o0)],q4,aD.rng (cp.done Fb.ret),q6,q7])) kL (K (Sum.inl o0)) some) (x1:∀ (s0:A) (s3:A) (s4:A) (ck:A) (cm:A) (cn:A) (q0:aD) (q1:aD) (q2:aD) (q4:aD) (q6:aD),J φ (kr (St.mk [(0,s0),(3,s3),(4,s4),(13,ck),(14,cm),(15,cn)] [q0,q1,q2,bx [(bA an)],q4,aD.rng cp.ready,q6])) kL (K (Sum.inr ((Sum.inl (()))))) some) (x2:∀ (s0:A) (s3:A) (s4:A) (ck:A) (cm:A) (cn:A) (q0:aD) (q1:aD) (q2:aD) (q4:aD),J φ (kx 0 (St.mk [(0,s0),(3,s3),(4,s4),(13,ck),(14,cm),(15,cn)] [q0,q1,q2,bx [(bA an)],q4,aD.rng cp.ready])) kL (K (Sum.inr ((Sum.inr (()))))) some) :
  ∀ (m:Nat) (ao:(List ak)) (bm:(List av)) (cy:Int),J φ (aK (cx C) (aA (cx C) (n+7) (nM 124 (aO (cx C) (n+8)) 5 (gK (cx C) (ec C n 8) (ey C n 8) (n+8) 69 0 0 5 [(3,(pt 0 0)),(4,(pt 1 0)),(5,(pt 2 0)),(6,(pt 3 0))]))) (aA (cx C) (n+7)) (n+7) 55 0 0 6 kx kg kr kp m (St.mk [(0,(A.yld 5)),(3,(im (ao.map ae) false)),(4,(im (bm.map af) false)),(13,(im (bs.map cB) false)),(14,(iA eg)),(15,(iA cy))] [bx [(A.ip (aq d))],bx [(iA q)],bx [(fk 86 [] [(A.ip (ae a2))])],bx [(bA an)],bx (aa u),aD.rng cp.ready])) kL (dJ n a2 bs eg d q an u m ao bm cy) K:=by
 intro m
 induction m with
 | zero=>intros; exact .nn
 | succ m ih =>
  intro ao bm cy
  refine .lp (zG ..) ?_
  unfold dJ
  refine .st (aW ..) (.aY (fun kk=>?_) (fun kk=>?_))
  ·refine .bd (iT (e:=4) (es:=1)) fun p=>.s (bA p) (.s (ag [(bA p),(iA 0),(iA 0),(iA 0),(iA 0),(iA 0)]) (.sq (pt 6 0) (.s [bx [(A.ip (aq d))],bx [(iA q)],bx [(fk 86 [] [(A.ip (ae a2))])],bx [(bA an)],bx (aa u),aD.rng cp.ready,bx [(bA p),(iA 0),(iA 0),(iA 0),(iA 0),(iA 0)]] (.bg (fun t (y:Bool)=>∃ en fs fv:A,t=[(bA y),en,fs,fv]) ?_ ?_))))
   ·refine .eQ (fun kn=>?_) (fun kn=>?_)
    ·exact .st (eb (e:=59)) (.st (ee ..) (.lg ⟨_,_,_,rfl⟩))
    exact .lg ⟨_,_,_,rfl⟩
   rintro _ oc ⟨en,fs,fv,rfl⟩
   refine .u4 (.aY (fun ko=>?_) (fun ko=>?_))
   ·refine .bd (iT (e:=59) (es:=3)) fun ab=>.s (ag (ae ab)) (.bd (eY (e:=59) (es:=3) (f:=ae) (l:=ao) (a:=1) (b:=(ao.length:Int)) (by kernel_rfl) (by kernel_rfl) (fun _=>rfl) (.inr ⟨_,rfl⟩) (.inl ⟨rfl,rfl⟩)) fun ha=>.s (pt 6 1) (.cT (by kernel_rfl) (.s [bx [(A.ip (aq d))],bx [(iA q)],bx [(fk 86 [] [(A.ip (ae a2))])],bx [(bA an)],bx (aa u),aD.rng cp.ready,bx ([(bA p)]++ae ab++[(iA 0),(iA 0)])] (.s (ag ([(bA p)]++ae ab++[(iA 0),(iA 0)])) (.dY rfl (.cl (yq.trans (ke.trans (uY C (ec C n 8) (ey C n 8) (n+8) _ _ _ _ _ _ _ _ _ _))) (.cT (by kernel_rfl) (.lp (fQ rfl) (.sq (pt 7 0) (.s [bx [(A.ip (aq d))],bx [(iA q)],bx [(fk 86 [] [(A.ip (ae a2))])],bx [(bA an)],bx (aa u),aD.rng cp.ready,bx ([(bA p)]++ae ab++[(iA 0),(iA 0)]),bx ([(bA p)]++ae ab++[(iA 0),(iA 0)])] (.lp (fQ rfl) (.s (A.ip (aq d)) (.s (iA q) (.s (A.ip (aq d)) (.s (A.ip (aq d)) (.s (A.ip [(iA d.Pair.Synced.1),(iA d.Pair.Synced.2),(im (d.Pair.Told.map ae) false),(im (d.Pair.Spoken.1.map af) false),(im (d.Pair.Spoken.2.map af) false),(iA d.who)]) (.gd fun hg=>.st (v:=(A.ip (List.drop (Int.toNat q*1) [(iA d.Pair.Synced.1),(iA d.Pair.Synced.2),(im (d.Pair.Told.map ae) false),(im (d.Pair.Spoken.1.map af) false),(im (d.Pair.Spoken.2.map af) false),(iA d.who)]))) (pN (e:=3) (n:=1) (len:=2) (by kernel_rfl) (by kernel_rfl) hg) (.a2 (f:=fun (y:Int)=>(iA y)) (fun h=>by rw[h]; kernel_rfl) (fun h=>by rw[h]; kernel_rfl) fun oi=>.st (aW ..) (.CD (fun dd=>?_) (fun dd=>?_))))))))))))))))))))
    ·refine .bb (.s (fk 86 [] [(A.ip (ae a2))]) (.s (ag ([(bA p)]++ae ab++[(iA 0),(iA 0)])) (.cr (.uc (.uc (.bg (fun t (y:Bool)=>∃ hf:A,t=[(bA y),hf]) ?_ ?_))))))
     ·refine .vS dd (.vC (by kernel_rfl) (by kernel_rfl) (.bb (.cl ((au FL).trans (MW C (ec C n 7) (ey C n 7) (n+7) _ _ _ _)) (.s ((pt 8 0),[bx [(A.ip (aq d))],bx [(iA q)],bx [(fk 86 [] [(A.ip (ae a2))])],bx [(bA an)],bx (aa u),aD.rng cp.busy,bx ([(bA p)]++ae ab++[(iA 0),(iA 0)]),bx ([(bA p)]++ae ab++[(iA 0),(iA 0)]),bx ([(bA p)]++ae ab++[(iA 0),(iA 0)])]) (.s (pt 8 0) (.s (bA p) (.bg (fun t (y:Bool)=>∃ hh hi hj hk:A,t=[(bA y),hh,hi,hj,hk]) ?_ ?_)))))))
      ·refine .eQ (fun kt=>?_) (fun kt=>?_)
       ·exact .s (pt 8 1) (.s (ag (ae ab)) (.s (ag (ae a2)) (.s (bA (((ab.No==a2.No)&&((ab.Holder==a2.Holder)&&(ab.Until==a2.Until))))) (.lg ⟨_,_,_,_,rfl⟩))))
       exact .lg ⟨_,_,_,_,rfl⟩
      rintro _ lx ⟨hh,hi,hj,hk,rfl⟩
      exact .u4 (.uc (.cr (.lp (by kernel_rfl:_=some (bA lx)) (.cr (.lg ⟨_,rfl⟩)))))
     rintro _ oj ⟨hf,rfl⟩
     refine .uc (.uc (.aY (fun ly=>?_) (fun ly=>?_)))
     ·exact .s [bx [(A.ip (aq d))],bx [(iA q)],bx [(fk 86 [] [(A.ip (ae a2))])],bx [(bA true)],bx (aa u),aD.rng cp.busy,bx ([(bA p)]++ae ab++[(iA 0),(iA 0)]),bx ([(bA p)]++ae ab++[(iA 0),(iA 0)])] (.lp (dT rfl) (.cr (.ok (.s (bA true) (.fe (.ex (x0 _ _ _ _ _ _ _ _ _ _ _ _ _)))))))
     refine .lp (dT rfl) (.cr (.ok (.s (bA false) (.gR (.st (aP ..) (.st (v:=[bx [(A.ip (aq d))],bx [(iA q)],bx [(fk 86 [] [(A.ip (ae a2))])],bx [(bA an)],bx (aa u),aD.rng cp.ready]) (dy (by kernel_rfl) (by simp only[uB,eF,eG,Nat.reduceLT,decide_true])) (.cT ((by kernel_rfl:_=(bif aG 6 (ha.map ae) then (bif aG 6 (bm.map af) then (bif aG 6 (bs.map cB) then true else false) else false) else false)).trans (by simp only[eF,eG])) ?_)))))))
     exact ih _ _ _
    refine .bb (.cr (.uc (.uc (.bg (fun t (y:Bool)=>∃ ho:A,t=[(bA y),ho]) ?_ ?_))))
    ·exact .wj dd (.lg ⟨_,rfl⟩)
    rintro _ oo ⟨ho,rfl⟩
    refine .uc (.uc (.aY (fun mn=>?_) (fun mn=>?_)))
    ·exact .s [bx [(A.ip (aq d))],bx [(iA q)],bx [(fk 86 [] [(A.ip (ae a2))])],bx [(bA true)],bx (aa u),aD.rng cp.busy,bx ([(bA p)]++ae ab++[(iA 0),(iA 0)]),bx ([(bA p)]++ae ab++[(iA 0),(iA 0)])] (.lp (dT rfl) (.cr (.ok (.s (bA true) (.fe (.ex (x0 _ _ _ _ _ _ _ _ _ _ _ _ _)))))))
    refine .lp (dT rfl) (.cr (.ok (.s (bA false) (.gR (.st (aP ..) (.st (v:=[bx [(A.ip (aq d))],bx [(iA q)],bx [(fk 86 [] [(A.ip (ae a2))])],bx [(bA an)],bx (aa u),aD.rng cp.ready]) (dy (by kernel_rfl) (by simp only[uB,eF,eG,Nat.reduceLT,decide_true])) (.cT ((by kernel_rfl:_=(bif aG 6 (ha.map ae) then (bif aG 6 (bm.map af) then (bif aG 6 (bs.map cB) then true else false) else false) else false)).trans (by simp only[eF,eG])) ?_)))))))
    exact ih _ _ _
   refine .s (bA (!p)) (.bg (fun t (y:Bool)=>∃ hp hq hr:A,t=[(bA y),hp,hq,hr]) ?_ ?_)
   ·refine .eQ (fun mx=>?_) (fun mx=>?_)
    ·exact .st (eb (e:=62)) (.st (ee ..) (.lg ⟨_,_,_,rfl⟩))
    exact .lg ⟨_,_,_,rfl⟩
   rintro _ oq ⟨hp,hq,hr,rfl⟩
   refine .u4 (.aY (fun nb=>?_) (fun nb=>?_))
   ·refine .bd (iT (e:=62) (es:=2)) fun ad=>.s (ag [(iA ad.Bar),(iA ad.Program)]) (.bd (eY (e:=62) (es:=2) (f:=af) (l:=bm) (a:=1) (b:=(bm.length:Int)) (by kernel_rfl) (by kernel_rfl) (fun _=>rfl) (.inr ⟨_,rfl⟩) (.inl ⟨rfl,rfl⟩)) fun hs=>.s (pt 6 4) (.cT (by kernel_rfl) (.s [bx [(A.ip (aq d))],bx [(iA q)],bx [(fk 86 [] [(A.ip (ae a2))])],bx [(bA an)],bx (aa u),aD.rng cp.ready,(bZ p ad)] (.s (ag [(bA p),(iA 0),(iA 0),(iA 0),(iA ad.Bar),(iA ad.Program)]) (.dY rfl (.cl (yq.trans (ke.trans (uY C (ec C n 8) (ey C n 8) (n+8) _ _ _ _ _ _ _ _ _ _))) (.cT (by kernel_rfl) (.lp (fQ rfl) (.sq (pt 7 0) (.s [bx [(A.ip (aq d))],bx [(iA q)],bx [(fk 86 [] [(A.ip (ae a2))])],bx [(bA an)],bx (aa u),aD.rng cp.ready,(bZ p ad),(bZ p ad)] (.lp (fQ rfl) (.s (A.ip (aq d)) (.s (iA q) (.s (A.ip (aq d)) (.s (A.ip (aq d)) (.s (A.ip [(iA d.Pair.Synced.1),(iA d.Pair.Synced.2),(im (d.Pair.Told.map ae) false),(im (d.Pair.Spoken.1.map af) false),(im (d.Pair.Spoken.2.map af) false),(iA d.who)]) (.gd fun hg=>.st (v:=(A.ip (List.drop (Int.toNat q*1) [(iA d.Pair.Synced.1),(iA d.Pair.Synced.2),(im (d.Pair.Told.map ae) false),(im (d.Pair.Spoken.1.map af) false),(im (d.Pair.Spoken.2.map af) false),(iA d.who)]))) (pN (e:=3) (n:=1) (len:=2) (by kernel_rfl) (by kernel_rfl) hg) (.a2 (f:=fun (y:Int)=>(iA y)) (fun h=>by rw[h]; kernel_rfl) (fun h=>by rw[h]; kernel_rfl) fun pc=>.st (aW ..) (.CD (fun ea=>?_) (fun ea=>?_))))))))))))))))))))
    ·refine .bb (.s (fk 86 [] [(A.ip (ae a2))]) (.s (ag [(bA p),(iA 0),(iA 0),(iA 0),(iA ad.Bar),(iA ad.Program)]) (.cr (.uc (.uc (.bg (fun t (y:Bool)=>∃ ht:A,t=[(bA y),ht]) ?_ ?_))))))
     ·refine .vS ea (.vC (by kernel_rfl) (by kernel_rfl) (.bb (.cl ((au FL).trans (MW C (ec C n 7) (ey C n 7) (n+7) _ _ _ _)) (.s ((pt 8 0),[bx [(A.ip (aq d))],bx [(iA q)],bx [(fk 86 [] [(A.ip (ae a2))])],bx [(bA an)],bx (aa u),aD.rng cp.busy,(bZ p ad),(bZ p ad),(bZ p ad)]) (.s (pt 8 0) (.s (bA p) (.bg (fun t (y:Bool)=>∃ hv hx hy ie:A,t=[(bA y),hv,hx,hy,ie]) ?_ ?_)))))))
      ·refine .eQ (fun nf=>?_) (fun nf=>?_)
       ·exact .s (pt 8 1) (.s (ag [(iA 0),(iA 0),(iA 0)]) (.s (ag (ae a2)) (.s (bA (((0==a2.No)&&((0==a2.Holder)&&(0==a2.Until))))) (.lg ⟨_,_,_,_,rfl⟩))))
       exact .lg ⟨_,_,_,_,rfl⟩
      rintro _ ni ⟨hv,hx,hy,ie,rfl⟩
      exact .u4 (.uc (.cr (.lp (by kernel_rfl:_=some (bA ni)) (.cr (.lg ⟨_,rfl⟩)))))
     rintro _ ps ⟨ht,rfl⟩
     refine .uc (.uc (.aY (fun ns=>?_) (fun ns=>?_)))
     ·exact .s [bx [(A.ip (aq d))],bx [(iA q)],bx [(fk 86 [] [(A.ip (ae a2))])],bx [(bA true)],bx (aa u),aD.rng cp.busy,(bZ p ad),(bZ p ad)] (.lp (dT rfl) (.cr (.ok (.s (bA true) (.fe (.ex (x0 _ _ _ _ _ _ _ _ _ _ _ _ _)))))))
     refine .lp (dT rfl) (.cr (.ok (.s (bA false) (.gR (.st (aP ..) (.st (v:=[bx [(A.ip (aq d))],bx [(iA q)],bx [(fk 86 [] [(A.ip (ae a2))])],bx [(bA an)],bx (aa u),aD.rng cp.ready]) (dy (by kernel_rfl) (by simp only[uB,eF,eG,Nat.reduceLT,decide_true])) (.cT ((by kernel_rfl:_=(bif aG 6 (ao.map ae) then (bif aG 6 (hs.map af) then (bif aG 6 (bs.map cB) then true else false) else false) else false)).trans (by simp only[eF,eG])) ?_)))))))
     exact ih _ _ _
    refine .bb (.cr (.uc (.uc (.bg (fun t (y:Bool)=>∃ ik:A,t=[(bA y),ik]) ?_ ?_))))
    ·exact .wj ea (.lg ⟨_,rfl⟩)
    rintro _ qi ⟨ik,rfl⟩
    refine .uc (.uc (.aY (fun nt=>?_) (fun nt=>?_)))
    ·exact .s [bx [(A.ip (aq d))],bx [(iA q)],bx [(fk 86 [] [(A.ip (ae a2))])],bx [(bA true)],bx (aa u),aD.rng cp.busy,(bZ p ad),(bZ p ad)] (.lp (dT rfl) (.cr (.ok (.s (bA true) (.fe (.ex (x0 _ _ _ _ _ _ _ _ _ _ _ _ _)))))))
    refine .lp (dT rfl) (.cr (.ok (.s (bA false) (.gR (.st (aP ..) (.st (v:=[bx [(A.ip (aq d))],bx [(iA q)],bx [(fk 86 [] [(A.ip (ae a2))])],bx [(bA an)],bx (aa u),aD.rng cp.ready]) (dy (by kernel_rfl) (by simp only[uB,eF,eG,Nat.reduceLT,decide_true])) (.cT ((by kernel_rfl:_=(bif aG 6 (ao.map ae) then (bif aG 6 (hs.map af) then (bif aG 6 (bs.map cB) then true else false) else false) else false)).trans (by simp only[eF,eG])) ?_)))))))
    exact ih _ _ _
   exact .ex (x1 _ _ _ _ _ _ _ _ _ _ _)
  exact .ex (x2 _ _ _ _ _ _ _ _ _ _)
def uG (n:Nat) (a0:aC) (a1:Int) (a2:ak):Option Bool :=
 bif (decide (0<=a1)&&decide (a1<2)) then ((jQ a1 a0.Pair.Desks.1 a0.Pair.Desks.2).bind fun d=>(dJ n a2 d.Order ((d.Order.length:Int)) a0 a1 false d (n+7) d.Leases d.Calls 0).bind fun p=>match p with | (Sum.inl q)=>some q | (Sum.inr ((Sum.inl _)))=>some false | (Sum.inr ((Sum.inr _)))=>some false) else none
theorem F6 (C:OT) (n:Nat) (a0:aC) (a1:Int) (a2:ak):J (fun (o:R) y=>∃ v,o.1=.ret v/\aF o.2 v=(bA y)) (aB (cx C) (ec C n 8) (ey C n 8) (n+8) 69 [(A.ip (aq a0)),(iA a1),(fk 86 [] [(A.ip (ae a2))])] [] 0) some (uG n a0 a1 a2) some:=by
 refine .lp (MT ..) ?_
 unfold uG
 refine .s ((pt 0 0),[bx [(A.ip (aq a0))]]) (.sq (pt 1 0) (.sq (pt 2 0) (.s ((pt 3 0),[bx [(A.ip (aq a0))],bx [(iA a1)],bx [(fk 86 [] [(A.ip (ae a2))])],bx [(bA false)]]) (.s (A.ip (aq a0)) (.s (iA a1) (.s (A.ip (aq a0)) (.s (A.ip (aq a0)) (.s (A.ip (aq a0)) (.gd fun hg=>.st (v:=(A.ip (List.drop (Int.toNat a1*4) (aq a0)))) (pN (e:=26) (n:=4) (len:=2) (by kernel_rfl) (by kernel_rfl) hg) (.a2 (f:=fun (y:ah)=>(ag [(iA y.Self),(im (y.Leases.map ae) false),(im (y.Calls.map af) false),(im (y.Order.map cB) false)])) (fun h=>by rw[h]; kernel_rfl) (fun h=>by rw[h]; kernel_rfl) fun d=>.cl ((au zX).trans (Ke C (ec C n 7) (ey C n 7) (n+7) _ _ _)) (.s ((pt 4 0),[bx [(A.ip (aq a0))],bx [(iA a1)],bx [(fk 86 [] [(A.ip (ae a2))])],bx [(bA false)],bx (aa d)]) (.cr (.ok (.s (55,[(pt 4 0)]) (.cT (by kernel_rfl) (.cl ((jJ zY).trans (Kg C (aA (cx C) (n+7) (nM 124 (aO (cx C) (n+8)) 5 (gK (cx C) (ec C n 8) (ey C n 8) (n+8) 69 0 0 5 [(3,(pt 0 0)),(4,(pt 1 0)),(5,(pt 2 0)),(6,(pt 3 0))]))) (aA (cx C) (n+7)) (n+7) _ _ _ _)) (.s (pt 4 1) (.s (im (d.Leases.map ae) false) (.s (pt 4 2) (.s (im (d.Calls.map af) false) (.s (pt 4 3) ?_)))))))))))))))))))))
 refine .s (im (d.Order.map cB) false) (.st (eb (e:=4)) (.as (vY C n _ _ _ _ a2 d.Order ((d.Order.length:Int)) a0 a1 false d ?_ ?_ ?_ _ d.Leases d.Calls 0)))
 ·intro p q u ab ad an ao w491 w492 w493 w494 w495 w496
  exact .un rfl (.cr (.ok (.lp (GY rfl) (.s (bA p) (.lv rfl)))))
 ·intro bm bs ca cc ch ck w503 w504 w505 w506 w507
  exact .un rfl (.cr (.ok (.lp (xw rfl) (.s [w503,w504,w505,bx [(bA false)],w506,aD.dead,w507] (.s (bA false) (.lv rfl))))))
 ·intro cm cn cv cy dd ea w514 w515 w516 w517
  exact .un rfl (.cT (by kernel_rfl) (.cr (.ok (.lp (xw rfl) (.s [w514,w515,w516,bx [(bA false)],w517,aD.dead] (.s (bA false) (.lv rfl)))))))
def lI (a0:aC) (a1:Int) (a2:ak):Option Bool:=uG aH a0 a1 a2
def qN (C:OT):Prop:=∀ (a0:aC) (a1:Int) (a2:ak),C 69 [(A.ip (aq a0)),(iA a1),(fk 86 [] [(A.ip (ae a2))])]=(lI a0 a1 a2).map fun y=>(bA y)
def gg (n:Nat) (u:(List ak)) (y:Int) (d:ak):Nat->Int->Option ((Int)⊕(Unit))
 | 0,_=>none
 | m+1,p=>bif (decide (p<y)) then ((bX u p).bind fun q=>bif (((d.No==q.No)&&((d.Holder==q.Holder)&&(d.Until==q.Until)))) then (some ((Sum.inl p))) else (gg n u y d m (wr .i64 (p+1)))) else (some ((Sum.inr (()))))
theorem xR {Kn:A} (an:(List ak)) (ao:Int) (d:ak) {K:((Int)⊕(Unit))->Option γ} (x0:∀ (o0:Int) (q:A) (u:A) (y:A) (s8:A) (q0:aD),J φ (kr (St.mk [(0,q),(3,u),(4,(iA o0)),(7,y),(8,s8)] [q0])) kL (K (Sum.inl o0)) some) (x1:∀ (q:A) (u:A) (s4:A) (y:A) (s8:A) (q0:aD),J φ (kx 0 (St.mk [(0,q),(3,u),(4,s4),(7,y),(8,s8)] [q0])) kL (K (Sum.inr (()))) some) :
  ∀ (m:Nat) (ad:Int),J φ (aK (cx C) (ec C n 8) (ey C n 8) (n+8) 107 0 0 1 kx kg kr kp m (St.mk [(0,(im (an.map ae) false)),(3,(pt 0 0)),(4,Kn),(7,(iA ao)),(8,(iA ad))] [bx (ae d)])) kL (gg n an ao d m ad) K:=by
 intro m
 induction m with
 | zero=>intros; exact .nn
 | succ m ih =>
  intro ad
  refine .lp (Gn ..) ?_
  unfold gg
  refine .st (aW ..) (.aY (fun ch=>?_) (fun ch=>?_))
  ·refine .s (ag (ae d)) (.bd (iT (e:=59) (es:=3)) fun p=>.s (ag (ae p)) (.s (bA (((d.No==p.No)&&((d.Holder==p.Holder)&&(d.Until==p.Until))))) (.aY (fun ck=>?_) (fun ck=>?_))))
   ·exact .ex (x0 _ _ _ _ _ _)
   refine .st (aP ..) (.s [bx (ae d)] (.cT (by kernel_rfl) ?_))
   exact ih _
  exact .ex (x1 _ _ _ _ _ _)
def DR (n:Nat) (a0:(List ak)) (a1:ak):Option Int :=
 (gg n a0 ((a0.length:Int)) a1 (n+8) 0).bind fun d=>match d with | (Sum.inl p)=>some p | (Sum.inr _)=>some (-1)
theorem KT (C:OT) (n:Nat) (a0:(List ak)) (a1:ak):J (fun (o:R) y=>∃ v,o.1=.ret v/\aF o.2 v=(iA y)) (aB (cx C) (ec C n 8) (ey C n 8) (n+8) 107 [(im (a0.map ae) false),(ag (ae a1))] [] 0) some (DR n a0 a1) some:=by
 refine .lp (K7 ..) ?_
 unfold DR
 refine .s ((pt 0 0),[bx (ae a1)]) (.st (eb (e:=59)) (.as (xR C n _ _ _ _ a0 ((a0.length:Int)) a1 ?_ ?_ _ 0)))
 ·intro d p q u ab w46
  exact .un rfl (.lv rfl)
 ·intro ad an ao bm bs w52
  exact .un rfl (.cT (by kernel_rfl) (.lv rfl))
def DS (a0:(List ak)) (a1:ak):Option Int:=DR aH a0 a1
def Bq (C:OT):Prop:=∀ (a0:(List ak)) (a1:ak),C 107 [(im (a0.map ae) false),(ag (ae a1))]=(DS a0 a1).map fun y=>(iA y)
def J9 (n:Nat) (a0:(List ak)) (a1:ak):Option Bool :=
 (DS a0 a1).bind fun d=>some (decide (0<=d))
theorem N7 (C:OT) (n:Nat) (d:Bq C) (a0:(List ak)) (a1:ak):J (fun (o:R) y=>∃ v,o.1=.ret v/\aF o.2 v=(bA y)) (aB (cx C) (ec C n 8) (ey C n 8) (n+8) 88 [(im (a0.map ae) false),(ag (ae a1))] [] 0) some (J9 n a0 a1) some:=by
 refine .lp (OS ..) ?_
 unfold J9
 exact .s ((pt 0 0),[bx (ae a1)]) (.s (ag (ae a1)) (.bd (g:=fun (y:Int)=>(iA y)) (by show C 107 [snap _ (im (a0.map ae) false),snap _ (ag (ae a1))]=_; simp only[cF,eA]; exact d a0 a1) fun p=>.st (iC ..) (.lv rfl)))
def HB (a0:(List ak)) (a1:ak):Option Bool:=J9 aH a0 a1
def Fl (C:OT):Prop:=∀ (a0:(List ak)) (a1:ak),C 88 [(im (a0.map ae) false),(ag (ae a1))]=(HB a0 a1).map fun y=>(bA y)
def J5 (n:Nat) (a0:ah) (a1:ak):Option (ah×Int) :=
 (AB a0).bind fun y1=>bif (!(y1==0)) then ((some ((0,530))).bind fun y4=>some (((ah.mk y4.1 ([]) ([]) ([])),y4.2))) else ((HB a0.Leases a1).bind fun y5=>bif y5 then ((some ((a0.Self,a0.Leases,a0.Calls,a0.Order,0))).bind fun d=>some (((ah.mk d.1 d.2.1 d.2.2.1 d.2.2.2.1),d.2.2.2.2))) else ((bX a0.Leases (wr .i64 (((a0.Leases.length:Int)) - 1))).bind fun y8=>bif (y8.Holder != a0.Self) then (((Fa a0 a1).bind fun ch=>some ch).bind fun ck=>bif (!ck) then ((some ((0,530))).bind fun ad=>some (((ah.mk ad.1 ([]) ([]) ([])),ad.2))) else (bif (!(decide (((a0.Leases.length:Int))<256))) then ((some ((0,2))).bind fun an=>some (((ah.mk an.1 ([]) ([]) ([])),an.2))) else ((xO a0 ((aj.mk true a1 ((av.mk 0 0))))).bind fun u=>(some ((u.Self,u.Leases,u.Calls,u.Order,0))).bind fun p=>some (((ah.mk p.1 p.2.1 p.2.2.1 p.2.2.2.1),p.2.2.2.2))))) else ((some false).bind fun cm=>bif (!cm) then ((some ((0,530))).bind fun ao=>some (((ah.mk ao.1 ([]) ([]) ([])),ao.2))) else (bif (!(decide (((a0.Leases.length:Int))<256))) then ((some ((0,2))).bind fun bm=>some (((ah.mk bm.1 ([]) ([]) ([])),bm.2))) else ((xO a0 ((aj.mk true a1 ((av.mk 0 0))))).bind fun y=>(some ((y.Self,y.Leases,y.Calls,y.Order,0))).bind fun q=>some (((ah.mk q.1 q.2.1 q.2.2.1 q.2.2.2.1),q.2.2.2.2)))))))
theorem N3 (C:OT) (n:Nat) (cn:mq C) (ch:qk C) (cv:vW C) (cy:Fl C) (a0:ah) (a1:ak):J (fun (o:R) y=>∃ v,o.1=.ret v/\aF o.2 v=(tp [(ag (aa y.1)),(iA y.2)])) (aB (cx C) (ec C n 8) (ey C n 8) (n+8) 73 [(ag (aa a0)),(ag (ae a1))] [] 0) some (J5 n a0 a1) some:=by
 refine .lp (OL ..) ?_
 unfold J5
 refine .s ((pt 0 0),[bx (aa a0)]) (.sq (pt 1 0) (.sq (pt 2 0) (.s ((pt 3 0),[bx (aa a0),bx (ae a1),bx [(iA 0),(im [] true),(im [] true),(im [] true)],bx [(iA 0)]]) (.s (ag (aa a0)) (.bd (g:=fun (y:Int)=>(iA y)) (by show C 20 [snap _ (ag (aa a0))]=_; simp only[cF,eA]; exact cn a0) fun y1=>.st (bC ..) (.cl ((au eN).trans (pE C (ec C n 7) (ey C n 7) (n+7) _ _ _ _)) (.s (bA (!(y1==0))) (.aY (fun ea=>?_) (fun ea=>?_)))))))))
 ·refine .s (A.ifc 31 (iA 530)) (.pk (.cr (.fP (.s cq (.bg (fun t (y:Int×Int) =>  t=(tp [(ag [(iA y.1),(im [] true),(im [] true),(im [] true)]),(iA y.2)])) ?_ ?_)))))
  ·exact .cl ((au iK).trans (wy C (ec C n 7) (ey C n 7) (n+7) _ _ _ _)) (.sq (pt 4 0) (.s ((pt 5 0),[bx (aa a0),bx (ae a1),bx [(iA 0),(im [] true),(im [] true),(im [] true)],bx [(iA 0)],bx [(iA 0),(im [] true),(im [] true),(im [] true)],bx [(iA 0),(im [] true),(im [] true),(im [] true)]]) (.cl ((au dj).trans (kK C (aO (cx C) (n+6)) (aA (cx C) (n+6)) (n+6) _ _ _)) (.s (bA false) (.gR (.s (tp [(iA 530),(bA true)]) (.s (bA true) (.s (iA 530) (.fe (.cr (.ok (.s (bA true) (.fe (.s cq (.s [bx (aa a0),bx (ae a1),bx [(iA 0),(im [] true),(im [] true),(im [] true)],bx [(iA 0)],bx [(iA 0),(im [] true),(im [] true),(im [] true)],bx [(iA 0),(im [] true),(im [] true),(im [] true)]] (.s cq (.cr (.lp (by kernel_rfl:_=some (tp [cq,(iA 530)])) (.lg rfl)))))))))))))))))))
  rintro _ u rfl
  exact .s (ag [(iA u.1),(im [] true),(im [] true),(im [] true)]) (.s (iA u.2) (.sh (.s [bx (aa a0),bx (ae a1),bx [(iA u.1),(im [] true),(im [] true),(im [] true)],bx [(iA u.2)]] (.s (ag [(iA u.1),(im [] true),(im [] true),(im [] true)]) (.s (iA u.2) (.lv (by show aF _ (tp [(ag [(iA u.1),(im [] true),(im [] true),(im [] true)]),(iA u.2)])=_; simp only[cF,fO,aF]; first | done | rfl)))))))
 refine .cr (.ok (.s (pt 0 1) (.s (im (a0.Leases.map ae) false) (.s (ag (ae a1)) (.bd (g:=fun (y:Bool)=>(bA y)) (by show C 88 [snap _ (im (a0.Leases.map ae) false),snap _ (ag (ae a1))]=_; simp only[cF,eA]; exact cy a0.Leases a1) fun y5=>.aY (fun eg=>?_) (fun eg=>?_))))))
 ·refine .s (ag (aa a0)) (.sh (.s [bx (aa a0),bx (ae a1),bx (aa a0),bx [(iA 0)]] (.s (ag (aa a0)) (.bg (fun t (y:Int×(List ak)×(List av)×(List Bool)×Int) =>  t=(tp [(ag [(iA y.1),(im (y.2.1.map ae) false),(im (y.2.2.1.map af) false),(im (y.2.2.2.1.map cB) false)]),(iA y.2.2.2.2)])) ?_ ?_))))
  ·exact .cl ((au iK).trans (wy C (ec C n 7) (ey C n 7) (n+7) _ _ _ _)) (.sq (pt 4 0) (.sq (pt 5 0) (.cl ((au dj).trans (kK C (aO (cx C) (n+6)) (aA (cx C) (n+6)) (n+6) _ _ _)) (.s (bA true) (.fe (.cr (.ok (.s (bA false) (.gR (.s (ag (aa a0)) (.s [bx (aa a0),bx (ae a1),bx (aa a0),bx [(iA 0)],bx (aa a0),bx (aa a0)] (.s (ag (aa a0)) (.cr (.lp (Be (v:=(tp [(ag (aa a0)),(iA 0)])) (by simp only[uB,eF,eG,Nat.reduceLT,decide_true])) (.lg rfl)))))))))))))))
  rintro _ d rfl
  exact .s (ag [(iA d.1),(im (d.2.1.map ae) false),(im (d.2.2.1.map af) false),(im (d.2.2.2.1.map cB) false)]) (.s (iA d.2.2.2.2) (.sh (.s [bx (aa a0),bx (ae a1),bx [(iA d.1),(im (d.2.1.map ae) false),(im (d.2.2.1.map af) false),(im (d.2.2.2.1.map cB) false)],bx [(iA d.2.2.2.2)]] (.s (ag [(iA d.1),(im (d.2.1.map ae) false),(im (d.2.2.1.map af) false),(im (d.2.2.2.1.map cB) false)]) (.s (iA d.2.2.2.2) (.lv (by show aF _ (tp [(ag [(iA d.1),(im (d.2.1.map ae) false),(im (d.2.2.1.map af) false),(im (d.2.2.2.1.map cB) false)]),(iA d.2.2.2.2)])=_; simp only[cF,fO,aF]; first | done | rfl)))))))
 refine .s (pt 0 1) (.s (im (a0.Leases.map ae) false) (.s (pt 0 1) (.s (im (a0.Leases.map ae) false) (.st (eb (e:=59)) (.st (jB ..) (.bd (iT (e:=59) (es:=3)) fun y8=>.s (A.ip [(iA y8.Holder),(iA y8.Until)]) (.s (iA y8.Holder) (.s (pt 0 0) (.s (iA a0.Self) (.st (bq ..) (.CD (fun cc=>?_) (fun cc=>?_))))))))))))
 ·refine .bb (.s (ag (aa a0)) (.s (ag (ae a1)) (.cr (.uc (.uc (.bg (fun t (y:Bool)=>∃ ck:A,t=[(bA y),ck]) ?_ ?_))))))
  ·exact .vS cc (.bd (g:=fun (y:Bool)=>(bA y)) (by show C 50 [snap _ (ag (aa a0)),snap _ (ag (ae a1))]=_; simp only[cF,eA]; exact cv a0 a1) fun hh=>.lg ⟨_,rfl⟩)
  rintro _ ej ⟨ck,rfl⟩
  refine .uc (.uc (.cl ((au eN).trans (pE C (ec C n 7) (ey C n 7) (n+7) _ _ _ _)) (.s (bA (!ej)) (.aY (fun en=>?_) (fun en=>?_)))))
  ·refine .s (A.ifc 31 (iA 530)) (.pk (.cr (.fP (.s cq (.bg (fun t (y:Int×Int) =>  t=(tp [(ag [(iA y.1),(im [] true),(im [] true),(im [] true)]),(iA y.2)])) ?_ ?_)))))
   ·exact .cl ((au iK).trans (wy C (ec C n 7) (ey C n 7) (n+7) _ _ _ _)) (.sq (pt 4 0) (.s ((pt 5 0),[bx (aa a0),bx (ae a1),bx [(iA 0),(im [] true),(im [] true),(im [] true)],bx [(iA 0)],bx [(iA 0),(im [] true),(im [] true),(im [] true)],bx [(iA 0),(im [] true),(im [] true),(im [] true)]]) (.cl ((au dj).trans (kK C (aO (cx C) (n+6)) (aA (cx C) (n+6)) (n+6) _ _ _)) (.s (bA false) (.gR (.s (tp [(iA 530),(bA true)]) (.s (bA true) (.s (iA 530) (.fe (.cr (.ok (.s (bA true) (.fe (.s cq (.s [bx (aa a0),bx (ae a1),bx [(iA 0),(im [] true),(im [] true),(im [] true)],bx [(iA 0)],bx [(iA 0),(im [] true),(im [] true),(im [] true)],bx [(iA 0),(im [] true),(im [] true),(im [] true)]] (.s cq (.cr (.lp (by kernel_rfl:_=some (tp [cq,(iA 530)])) (.lg rfl)))))))))))))))))))
   rintro _ ab rfl
   exact .s (ag [(iA ab.1),(im [] true),(im [] true),(im [] true)]) (.s (iA ab.2) (.sh (.s [bx (aa a0),bx (ae a1),bx [(iA ab.1),(im [] true),(im [] true),(im [] true)],bx [(iA ab.2)]] (.s (ag [(iA ab.1),(im [] true),(im [] true),(im [] true)]) (.s (iA ab.2) (.lv (by show aF _ (tp [(ag [(iA ab.1),(im [] true),(im [] true),(im [] true)]),(iA ab.2)])=_; simp only[cF,fO,aF]; first | done | rfl)))))))
  refine .cr (.ok (.s (pt 0 1) (.s (im (a0.Leases.map ae) false) (.st (eb (e:=59)) (.st (aW ..) (.cl ((au eN).trans (pE C (ec C n 7) (ey C n 7) (n+7) _ _ _ _)) (.s (bA (!(decide (((a0.Leases.length:Int))<256)))) (.aY (fun fs=>?_) (fun fs=>?_)))))))))
  ·refine .s (A.ifc 31 (iA 2)) (.pk (.cr (.fP (.s cq (.bg (fun t (y:Int×Int) =>  t=(tp [(ag [(iA y.1),(im [] true),(im [] true),(im [] true)]),(iA y.2)])) ?_ ?_)))))
   ·exact .cl ((au iK).trans (wy C (ec C n 7) (ey C n 7) (n+7) _ _ _ _)) (.sq (pt 4 0) (.s ((pt 5 0),[bx (aa a0),bx (ae a1),bx [(iA 0),(im [] true),(im [] true),(im [] true)],bx [(iA 0)],bx [(iA 0),(im [] true),(im [] true),(im [] true)],bx [(iA 0),(im [] true),(im [] true),(im [] true)]]) (.cl ((au dj).trans (kK C (aO (cx C) (n+6)) (aA (cx C) (n+6)) (n+6) _ _ _)) (.s (bA false) (.gR (.s (tp [(iA 2),(bA true)]) (.s (bA true) (.s (iA 2) (.fe (.cr (.ok (.s (bA true) (.fe (.s cq (.s [bx (aa a0),bx (ae a1),bx [(iA 0),(im [] true),(im [] true),(im [] true)],bx [(iA 0)],bx [(iA 0),(im [] true),(im [] true),(im [] true)],bx [(iA 0),(im [] true),(im [] true),(im [] true)]] (.s cq (.cr (.lp (by kernel_rfl:_=some (tp [cq,(iA 2)])) (.lg rfl)))))))))))))))))))
   rintro _ ad rfl
   exact .s (ag [(iA ad.1),(im [] true),(im [] true),(im [] true)]) (.s (iA ad.2) (.sh (.s [bx (aa a0),bx (ae a1),bx [(iA ad.1),(im [] true),(im [] true),(im [] true)],bx [(iA ad.2)]] (.s (ag [(iA ad.1),(im [] true),(im [] true),(im [] true)]) (.s (iA ad.2) (.lv (by show aF _ (tp [(ag [(iA ad.1),(im [] true),(im [] true),(im [] true)]),(iA ad.2)])=_; simp only[cF,fO,aF]; first | done | rfl)))))))
  refine .cr (.ok (.s (ag (aa a0)) (.s (ag (ae a1)) (.s (ag ([(bA true)]++ae a1++[(iA 0),(iA 0)])) (.bd (g:=fun (y:ah)=>(ag [(iA y.Self),(im (y.Leases.map ae) false),(im (y.Calls.map af) false),(im (y.Order.map cB) false)])) (by show C 33 [snap _ (ag (aa a0)),snap _ (ag ([(bA true)]++ae a1++[(iA 0),(iA 0)]))]=_; simp only[cF,eA]; exact ch a0 ((aj.mk true a1 ((av.mk 0 0))))) fun an=>.sh (.s [bx (aa a0),bx (ae a1),bx (aa an),bx [(iA 0)]] (.s (ag (aa an)) (.bg (fun t (y:Int×(List ak)×(List av)×(List Bool)×Int) =>  t=(tp [(ag [(iA y.1),(im (y.2.1.map ae) false),(im (y.2.2.1.map af) false),(im (y.2.2.2.1.map cB) false)]),(iA y.2.2.2.2)])) ?_ ?_))))))))
  ·exact .cl ((au iK).trans (wy C (ec C n 7) (ey C n 7) (n+7) _ _ _ _)) (.sq (pt 4 0) (.sq (pt 5 0) (.cl ((au dj).trans (kK C (aO (cx C) (n+6)) (aA (cx C) (n+6)) (n+6) _ _ _)) (.s (bA true) (.fe (.cr (.ok (.s (bA false) (.gR (.s (ag (aa an)) (.s [bx (aa a0),bx (ae a1),bx (aa an),bx [(iA 0)],bx (aa an),bx (aa an)] (.s (ag (aa an)) (.cr (.lp (Be (v:=(tp [(ag (aa an)),(iA 0)])) (by simp only[uB,eF,eG,Nat.reduceLT,decide_true])) (.lg rfl)))))))))))))))
  rintro _ p rfl
  exact .s (ag [(iA p.1),(im (p.2.1.map ae) false),(im (p.2.2.1.map af) false),(im (p.2.2.2.1.map cB) false)]) (.s (iA p.2.2.2.2) (.sh (.s [bx (aa a0),bx (ae a1),bx [(iA p.1),(im (p.2.1.map ae) false),(im (p.2.2.1.map af) false),(im (p.2.2.2.1.map cB) false)],bx [(iA p.2.2.2.2)]] (.s (ag [(iA p.1),(im (p.2.1.map ae) false),(im (p.2.2.1.map af) false),(im (p.2.2.2.1.map cB) false)]) (.s (iA p.2.2.2.2) (.lv (by show aF _ (tp [(ag [(iA p.1),(im (p.2.1.map ae) false),(im (p.2.2.1.map af) false),(im (p.2.2.2.1.map cB) false)]),(iA p.2.2.2.2)])=_; simp only[cF,fO,aF]; first | done | rfl)))))))
 refine .bb (.cr (.uc (.uc (.bg (fun t (y:Bool)=>∃ cm:A,t=[(bA y),cm]) ?_ ?_))))
 ·exact .wj cc (.lg ⟨_,rfl⟩)
 rintro _ fv ⟨cm,rfl⟩
 refine .uc (.uc (.cl ((au eN).trans (pE C (ec C n 7) (ey C n 7) (n+7) _ _ _ _)) (.s (bA (!fv)) (.aY (fun ha=>?_) (fun ha=>?_)))))
 ·refine .s (A.ifc 31 (iA 530)) (.pk (.cr (.fP (.s cq (.bg (fun t (y:Int×Int) =>  t=(tp [(ag [(iA y.1),(im [] true),(im [] true),(im [] true)]),(iA y.2)])) ?_ ?_)))))
  ·exact .cl ((au iK).trans (wy C (ec C n 7) (ey C n 7) (n+7) _ _ _ _)) (.sq (pt 4 0) (.s ((pt 5 0),[bx (aa a0),bx (ae a1),bx [(iA 0),(im [] true),(im [] true),(im [] true)],bx [(iA 0)],bx [(iA 0),(im [] true),(im [] true),(im [] true)],bx [(iA 0),(im [] true),(im [] true),(im [] true)]]) (.cl ((au dj).trans (kK C (aO (cx C) (n+6)) (aA (cx C) (n+6)) (n+6) _ _ _)) (.s (bA false) (.gR (.s (tp [(iA 530),(bA true)]) (.s (bA true) (.s (iA 530) (.fe (.cr (.ok (.s (bA true) (.fe (.s cq (.s [bx (aa a0),bx (ae a1),bx [(iA 0),(im [] true),(im [] true),(im [] true)],bx [(iA 0)],bx [(iA 0),(im [] true),(im [] true),(im [] true)],bx [(iA 0),(im [] true),(im [] true),(im [] true)]] (.s cq (.cr (.lp (by kernel_rfl:_=some (tp [cq,(iA 530)])) (.lg rfl)))))))))))))))))))
  rintro _ ao rfl
  exact .s (ag [(iA ao.1),(im [] true),(im [] true),(im [] true)]) (.s (iA ao.2) (.sh (.s [bx (aa a0),bx (ae a1),bx [(iA ao.1),(im [] true),(im [] true),(im [] true)],bx [(iA ao.2)]] (.s (ag [(iA ao.1),(im [] true),(im [] true),(im [] true)]) (.s (iA ao.2) (.lv (by show aF _ (tp [(ag [(iA ao.1),(im [] true),(im [] true),(im [] true)]),(iA ao.2)])=_; simp only[cF,fO,aF]; first | done | rfl)))))))
 refine .cr (.ok (.s (pt 0 1) (.s (im (a0.Leases.map ae) false) (.st (eb (e:=59)) (.st (aW ..) (.cl ((au eN).trans (pE C (ec C n 7) (ey C n 7) (n+7) _ _ _ _)) (.s (bA (!(decide (((a0.Leases.length:Int))<256)))) (.aY (fun hf=>?_) (fun hf=>?_)))))))))
 ·refine .s (A.ifc 31 (iA 2)) (.pk (.cr (.fP (.s cq (.bg (fun t (y:Int×Int) =>  t=(tp [(ag [(iA y.1),(im [] true),(im [] true),(im [] true)]),(iA y.2)])) ?_ ?_)))))
  ·exact .cl ((au iK).trans (wy C (ec C n 7) (ey C n 7) (n+7) _ _ _ _)) (.sq (pt 4 0) (.s ((pt 5 0),[bx (aa a0),bx (ae a1),bx [(iA 0),(im [] true),(im [] true),(im [] true)],bx [(iA 0)],bx [(iA 0),(im [] true),(im [] true),(im [] true)],bx [(iA 0),(im [] true),(im [] true),(im [] true)]]) (.cl ((au dj).trans (kK C (aO (cx C) (n+6)) (aA (cx C) (n+6)) (n+6) _ _ _)) (.s (bA false) (.gR (.s (tp [(iA 2),(bA true)]) (.s (bA true) (.s (iA 2) (.fe (.cr (.ok (.s (bA true) (.fe (.s cq (.s [bx (aa a0),bx (ae a1),bx [(iA 0),(im [] true),(im [] true),(im [] true)],bx [(iA 0)],bx [(iA 0),(im [] true),(im [] true),(im [] true)],bx [(iA 0),(im [] true),(im [] true),(im [] true)]] (.s cq (.cr (.lp (by kernel_rfl:_=some (tp [cq,(iA 2)])) (.lg rfl)))))))))))))))))))
  rintro _ bm rfl
  exact .s (ag [(iA bm.1),(im [] true),(im [] true),(im [] true)]) (.s (iA bm.2) (.sh (.s [bx (aa a0),bx (ae a1),bx [(iA bm.1),(im [] true),(im [] true),(im [] true)],bx [(iA bm.2)]] (.s (ag [(iA bm.1),(im [] true),(im [] true),(im [] true)]) (.s (iA bm.2) (.lv (by show aF _ (tp [(ag [(iA bm.1),(im [] true),(im [] true),(im [] true)]),(iA bm.2)])=_; simp only[cF,fO,aF]; first | done | rfl)))))))
 refine .cr (.ok (.s (ag (aa a0)) (.s (ag (ae a1)) (.s (ag ([(bA true)]++ae a1++[(iA 0),(iA 0)])) (.bd (g:=fun (y:ah)=>(ag [(iA y.Self),(im (y.Leases.map ae) false),(im (y.Calls.map af) false),(im (y.Order.map cB) false)])) (by show C 33 [snap _ (ag (aa a0)),snap _ (ag ([(bA true)]++ae a1++[(iA 0),(iA 0)]))]=_; simp only[cF,eA]; exact ch a0 ((aj.mk true a1 ((av.mk 0 0))))) fun bs=>.sh (.s [bx (aa a0),bx (ae a1),bx (aa bs),bx [(iA 0)]] (.s (ag (aa bs)) (.bg (fun t (y:Int×(List ak)×(List av)×(List Bool)×Int) =>  t=(tp [(ag [(iA y.1),(im (y.2.1.map ae) false),(im (y.2.2.1.map af) false),(im (y.2.2.2.1.map cB) false)]),(iA y.2.2.2.2)])) ?_ ?_))))))))
 ·exact .cl ((au iK).trans (wy C (ec C n 7) (ey C n 7) (n+7) _ _ _ _)) (.sq (pt 4 0) (.sq (pt 5 0) (.cl ((au dj).trans (kK C (aO (cx C) (n+6)) (aA (cx C) (n+6)) (n+6) _ _ _)) (.s (bA true) (.fe (.cr (.ok (.s (bA false) (.gR (.s (ag (aa bs)) (.s [bx (aa a0),bx (ae a1),bx (aa bs),bx [(iA 0)],bx (aa bs),bx (aa bs)] (.s (ag (aa bs)) (.cr (.lp (Be (v:=(tp [(ag (aa bs)),(iA 0)])) (by simp only[uB,eF,eG,Nat.reduceLT,decide_true])) (.lg rfl)))))))))))))))
 rintro _ q rfl
 exact .s (ag [(iA q.1),(im (q.2.1.map ae) false),(im (q.2.2.1.map af) false),(im (q.2.2.2.1.map cB) false)]) (.s (iA q.2.2.2.2) (.sh (.s [bx (aa a0),bx (ae a1),bx [(iA q.1),(im (q.2.1.map ae) false),(im (q.2.2.1.map af) false),(im (q.2.2.2.1.map cB) false)],bx [(iA q.2.2.2.2)]] (.s (ag [(iA q.1),(im (q.2.1.map ae) false),(im (q.2.2.1.map af) false),(im (q.2.2.2.1.map cB) false)]) (.s (iA q.2.2.2.2) (.lv (by show aF _ (tp [(ag [(iA q.1),(im (q.2.1.map ae) false),(im (q.2.2.1.map af) false),(im (q.2.2.2.1.map cB) false)]),(iA q.2.2.2.2)])=_; simp only[cF,fO,aF]; first | done | rfl)))))))
def Hx (a0:ah) (a1:ak):Option (ah×Int):=J5 aH a0 a1
def Fh (C:OT):Prop:=∀ (a0:ah) (a1:ak),C 73 [(ag (aa a0)),(ag (ae a1))]=(Hx a0 a1).map fun y=>(tp [(ag (aa y.1)),(iA y.2)])
def xQ (C:OT) (self:ar->Option (Int×Bool)):Prop:=∀ (a0:ar),C 91 [(ag [(iA a0.Kind),(iA a0.N),(sA a0.S),(im (a0.L.map aw) false)])]=(self a0).map fun y=>(tp [(iA y.1),(bA y.2)])
def jz (self:ar->Option (Int×Bool)) (n:Nat) (ab:Bool) (u:(List ar)) (y:Int) (ad:ar) (an:Bool) (ao:Bool) (bm:Bool) (bs:Bool):Nat->Int->Int->Option ((Int×Bool)⊕(Int))
 | 0,_,_=>none
 | m+1,d,p=>bif (decide (p<y)) then ((bX u p).bind fun ca=>(self ca).bind fun q=>bif (!q.2) then (some ((Sum.inl ((0,false))))) else (jz self n ab u y ad an ao bm bs m ((if d<q.1 then q.1 else d)) (wr .i64 (p+1)))) else (some ((Sum.inr d)))
theorem B7 (self:ar->Option (Int×Bool)) (hS:xQ C self) (cm:Bool) (bs:(List ar)) (cn:Int) (p:ar) (ad:Bool) (an:Bool) (ao:Bool) (bm:Bool) {K:((Int×Bool)⊕(Int))->Option γ} (x0:∀ (q:Int) (o1:Bool) (ca:A) (cc:A) (ch:A) (q0:aD) (q1:aD) (q2:aD),J φ (kr (St.mk [(2,(iA q)),(3,(bA o1)),(55,ca),(56,cc),(57,ch)] [q0,q1,q2])) kL (K (Sum.inl ((q,o1)))) some) (x1:∀ (q:Int) (s3:A) (ca:A) (cc:A) (ch:A) (q0:aD) (q1:aD),J φ (kx 0 (St.mk [(2,(iA q)),(3,s3),(55,ca),(56,cc),(57,ch)] [q0,q1])) kL (K (Sum.inr q)) some) :
  ∀ (m:Nat) (u:Int) (ck:Int),J φ (aK (cx C) (ec C n 8) (ey C n 8) (n+8) 91 0 0 2 kx kg kr kp m (St.mk [(2,(iA u)),(3,(bA cm)),(55,(im (bs.map aw) false)),(56,(iA cn)),(57,(iA ck))] [bx [(iA p.Kind),(iA p.N),(sA p.S),(im (p.L.map aw) false)],bx [(bA ad),(bA an),(bA ao),(bA bm)]])) kL (jz self n cm bs cn p ad an ao bm m u ck) K:=by
 intro m
 induction m with
 | zero=>intros; exact .nn
 | succ m ih =>
  intro u ck
  refine .lp (Iz ..) ?_
  unfold jz
  refine .st (aW ..) (.aY (fun eg=>?_) (fun eg=>?_))
  ·refine .bd ((iT (e:=98) (es:=4)).trans (lR _)) fun d=>.s (ag [(iA d.Kind),(iA d.N),(sA d.S),(im (d.L.map aw) false)]) (.sq (pt 2 0) (.s [bx [(iA p.Kind),(iA p.N),(sA p.S),(im (p.L.map aw) false)],bx [(bA ad),(bA an),(bA ao),(bA bm)],bx [(iA d.Kind),(iA d.N),(sA d.S),(im (d.L.map aw) false)]] (.s (ag [(iA d.Kind),(iA d.N),(sA d.S),(im (d.L.map aw) false)]) (.bd (g:=fun (y:(Int×Bool))=>(tp [(iA y.1),(bA y.2)])) (by show C 91 [snap _ (ag [(iA d.Kind),(iA d.N),(sA d.S),(im (d.L.map aw) false)])]=_; simp only[cF,eA]; exact hS d) fun ab=>.s (iA ab.1) (.s (bA ab.2) (.s (bA (!ab.2)) (.aY (fun ej=>?_) (fun ej=>?_))))))))
   ·exact .ex (x0 _ _ _ _ _ _ _ _)
   refine .s (iA ((if u<ab.1 then ab.1 else u))) (.st (aP ..) (.st (v:=[bx [(iA p.Kind),(iA p.N),(sA p.S),(im (p.L.map aw) false)],bx [(bA ad),(bA an),(bA ao),(bA bm)]]) (dy (by kernel_rfl) (by simp only[uB,eF,eG,Nat.reduceLT,decide_true])) (.cT ((by kernel_rfl:_=(bif aG 2 (bs.map aw) then true else false)).trans (by simp only[eF,eG])) ?_)))
   exact ih _ _
  exact .ex (x1 _ _ _ _ _ _ _)
def Hq (self:ar->Option (Int×Bool)) (n:Nat) (a0:ar):Option (Int×Bool) :=
 (bif (py a0.S ((ByteArray.mk #[]))) then (some (((a0.L.length:Int))==0)) else (some false)).bind fun d=>(bif (a0.N==0) then (some (((a0.L.length:Int))==0)) else (some false)).bind fun p=>(bif (a0.N==0) then (some (py a0.S ((ByteArray.mk #[])))) else (some false)).bind fun q=>(bif (decide (a0.Kind<1)) then (some true) else (some (decide (3<a0.Kind)))).bind fun u=>(bif u then (some true) else (bif decide (a0.Kind=0) then (some true) else bif decide (a0.Kind=1) then (some (!d)) else bif decide (a0.Kind=2) then (some (!p)) else bif decide (a0.Kind=3) then (some (!q)) else none)).bind fun y=>bif y then (some ((0,false))) else (bif (decide (a0.Kind<3)) then (some ((0,true))) else ((jz self n false a0.L ((a0.L.length:Int)) a0 false d p q (n+8) 0 0).bind fun ab=>match ab with | (Sum.inl ((ad,an)))=>some ((ad,an)) | (Sum.inr ao)=>some ((wr .i64 (ao+1),true))))
theorem N8 (C:OT) (n:Nat) (self:ar->Option (Int×Bool)) (hS:xQ C self) (a0:ar):J (fun (o:R) y=>∃ v,o.1=.ret v/\aF o.2 v=(tp [(iA y.1),(bA y.2)])) (aB (cx C) (ec C n 8) (ey C n 8) (n+8) 91 [(ag [(iA a0.Kind),(iA a0.N),(sA a0.S),(im (a0.L.map aw) false)])] [] 0) some (Hq self n a0) some:=by
 refine .lp (OW ..) ?_
 unfold Hq
 refine .s ((pt 0 0),[bx [(iA a0.Kind),(iA a0.N),(sA a0.S),(im (a0.L.map aw) false)]]) (.s (pt 0 2) (.s (sA a0.S) (.st (qU ..) (.bg (fun t (y:Bool)=>∃ u j4 j5 j6:A,t=[(bA y),u,j4,j5,j6]) ?_ ?_))))
 ·refine .eQ (fun en=>?_) (fun en=>?_)
  ·exact .s (pt 0 3) (.s (im (a0.L.map aw) false) (.st (eb (e:=98)) (.st (bC ..) (.lg ⟨_,_,_,_,rfl⟩))))
  exact .lg ⟨_,_,_,_,rfl⟩
 rintro _ d ⟨u,j4,j5,j6,rfl⟩
 refine .u4 (.uc (.s (pt 0 1) (.s (iA a0.N) (.st (bC ..) (.bg (fun t (y:Bool)=>∃ j9 bm bs ca:A,t=[(bA y),j9,bm,bs,ca]) ?_ ?_)))))
 ·refine .eQ (fun fs=>?_) (fun fs=>?_)
  ·exact .s (pt 0 3) (.s (im (a0.L.map aw) false) (.st (eb (e:=98)) (.st (bC ..) (.lg ⟨_,_,_,_,rfl⟩))))
  exact .lg ⟨_,_,_,_,rfl⟩
 rintro _ p ⟨j9,bm,bs,ca,rfl⟩
 refine .u4 (.uc (.s (pt 0 1) (.s (iA a0.N) (.st (bC ..) (.bg (fun t (y:Bool)=>∃ cc ch ck:A,t=[(bA y),cc,ch,ck]) ?_ ?_)))))
 ·refine .eQ (fun fv=>?_) (fun fv=>?_)
  ·exact .s (pt 0 2) (.s (sA a0.S) (.st (qU ..) (.lg ⟨_,_,_,rfl⟩)))
  exact .lg ⟨_,_,_,rfl⟩
 rintro _ q ⟨cc,ch,ck,rfl⟩
 refine .u4 (.s (ag [(bA false),(bA d),(bA p),(bA q)]) (.sq (pt 1 0) (.s [bx [(iA a0.Kind),(iA a0.N),(sA a0.S),(im (a0.L.map aw) false)],bx [(bA false),(bA d),(bA p),(bA q)]] (.s (pt 0 0) (.s (iA a0.Kind) (.st (aW ..) (.bg (fun t (y:Bool)=>∃ cm cn cv:A,t=[(bA y),cm,cn,cv]) ?_ ?_)))))))
 ·refine .eQ (fun ha=>?_) (fun ha=>?_)
  ·exact .lg ⟨_,_,_,rfl⟩
  exact .s (pt 0 0) (.s (iA a0.Kind) (.st (ee ..) (.lg ⟨_,_,_,rfl⟩)))
 rintro _ hp ⟨cm,cn,cv,rfl⟩
 refine .u4 (.bg (fun t (y:Bool)=>∃ cy dd ea eg ej:A,t=[(bA y),cy,dd,ea,eg,ej]) ?_ ?_)
 ·refine .eQ (fun hf=>?_) (fun hf=>?_)
  ·exact .lg ⟨_,_,_,_,_,rfl⟩
  refine .s (pt 0 0) (.s (iA a0.Kind) (.sp (fun hg=>?_) (fun _=>?_)))
  ·exact .st (v:=(pt 1 0)) (by rw[of_decide_eq_true hg]; kernel_rfl) (.s (bA false) (.s (bA true) (.lg ⟨_,_,_,_,_,rfl⟩)))
  refine .sp (fun hh=>?_) (fun _=>?_)
  ·exact .st (v:=(pt 1 1)) (by rw[of_decide_eq_true hh]; kernel_rfl) (.s (bA d) (.s (bA (!d)) (.lg ⟨_,_,_,_,_,rfl⟩)))
  refine .sp (fun hi=>?_) (fun _=>?_)
  ·exact .st (v:=(pt 1 2)) (by rw[of_decide_eq_true hi]; kernel_rfl) (.s (bA p) (.s (bA (!p)) (.lg ⟨_,_,_,_,_,rfl⟩)))
  refine .sp (fun hj=>?_) (fun _=>?_)
  ·exact .st (v:=(pt 1 3)) (by rw[of_decide_eq_true hj]; kernel_rfl) (.s (bA q) (.s (bA (!q)) (.lg ⟨_,_,_,_,_,rfl⟩)))
  exact .nn
 rintro _ hq ⟨cy,dd,ea,eg,ej,rfl⟩
 refine .u4 (.uc (.uc (.aY (fun hk=>?_) (fun hk=>?_))))
 ·exact .lv rfl
 refine .s (pt 0 0) (.s (iA a0.Kind) (.st (aW ..) (.aY (fun ho=>?_) (fun ho=>?_))))
 ·exact .lv rfl
 refine .s (pt 0 3) (.s (im (a0.L.map aw) false) (.st (eb (e:=98)) (.as (B7 C n _ _ _ _ self hS false a0.L ((a0.L.length:Int)) a0 false d p q ?_ ?_ _ 0 0))))
 ·intro hr hs ht hv hx w128 w129 w130
  exact .un rfl (.lv rfl)
 ·intro hy ie ih ik js w136 w137
  exact .un rfl (.cT (by kernel_rfl) (.st (aP ..) (.lv rfl)))
def Fp:Nat->ar->Option (Int×Bool)
 | 0=>fun _=>none
 | q+1=>fun a0=>Hq (Fp q) aH a0
def Kb (a0:ar):Option (Int×Bool):=Fp aH a0
def Fm (C:OT):Prop:=∀ (a0:ar),C 91 [(ag [(iA a0.Kind),(iA a0.N),(sA a0.S),(im (a0.L.map aw) false)])]=(Kb a0).map fun y=>(tp [(iA y.1),(bA y.2)])
def J8 (n:Nat) (a0:ar):Option Int :=
 (Kb a0).bind fun d=>bif (!d.2) then (some 1) else (bif (decide (16<d.1)) then (some 2) else (some 0))
theorem N6 (C:OT) (n:Nat) (p:Fm C) (a0:ar):J (fun (o:R) y=>∃ v,o.1=.ret v/\aF o.2 v=(iA y)) (aB (cx C) (ec C n 8) (ey C n 8) (n+8) 76 [(ag [(iA a0.Kind),(iA a0.N),(sA a0.S),(im (a0.L.map aw) false)])] [] 0) some (J8 n a0) some:=by
 refine .lp (OO ..) ?_
 unfold J8
 refine .s ((pt 0 0),[bx [(iA a0.Kind),(iA a0.N),(sA a0.S),(im (a0.L.map aw) false)]]) (.s (ag [(iA a0.Kind),(iA a0.N),(sA a0.S),(im (a0.L.map aw) false)]) (.bd (g:=fun (y:(Int×Bool))=>(tp [(iA y.1),(bA y.2)])) (by show C 91 [snap _ (ag [(iA a0.Kind),(iA a0.N),(sA a0.S),(im (a0.L.map aw) false)])]=_; simp only[cF,eA]; exact p a0) fun d=>.s (iA d.1) (.s (bA d.2) (.s (bA (!d.2)) (.aY (fun q=>?_) (fun q=>?_))))))
 ·exact .lv rfl
 refine .st (ee ..) (.aY (fun u=>?_) (fun u=>?_))
 ·exact .lv rfl
 exact .lv rfl
def HA (a0:ar):Option Int:=J8 aH a0
def Fk (C:OT):Prop:=∀ (a0:ar),C 76 [(ag [(iA a0.Kind),(iA a0.N),(sA a0.S),(im (a0.L.map aw) false)])]=(HA a0).map fun y=>(iA y)
def Ka (n:Nat) (a0:Int):Option Int :=
 some (qF .u64 (sD .u64 (wr .u64 (a0)) 1) (wr .u64 (ng .i64 a0 63)))
theorem N9 (C:OT) (n:Nat) (a0:Int):J (fun (o:R) y=>∃ v,o.1=.ret v/\aF o.2 v=(A.v (.int .u64 y))) (aB (cx C) (ec C n 8) (ey C n 8) (n+8) 94 [(iA a0)] [] 0) some (Ka n a0) some:=by
 refine .lp (OX ..) ?_
 unfold Ka
 exact .st (v:=(A.v (.int .u64 (wr .u64 (a0))))) (bh (hs:=by kernel_rfl) (hd:=by kernel_rfl) ..) (.st (vZ (hb:=by decide) ..) (.st (kG (hb:=by decide) ..) (.st (v:=(A.v (.int .u64 (wr .u64 (ng .i64 a0 63))))) (bh (hs:=by kernel_rfl) (hd:=by kernel_rfl) ..) (.st (nP ..) (.lv rfl)))))
def FX (a0:Int):Option Int:=Ka aH a0
def tx (C:OT):Prop:=∀ (a0:Int),C 94 [(iA a0)]=(FX a0).map fun y=>(A.v (.int .u64 y))
def bc:aD:=bx [(A.v Value.nilFunc),(fk 92 [] []),(fk 95 [] []),(fk 96 [] [(pt 2 0)])]
def cM (d:ar):aD:=bx [(iA d.Kind),(iA d.N),(sA d.S),(im (d.L.map aw) false)]
def bK (a0:ar):aD:=bx [(iA a0.Kind),(iA a0.N),(sA a0.S),(im (a0.L.map aw) false)]
def lX (a1:ar):aD:=bx [(iA a1.Kind),(iA a1.N),(sA a1.S),(im (a1.L.map aw) false)]
def FZ (C:OT) (N:Nat) (self:ar->ar->(List UInt8)->ar->Option (List UInt8)):Prop:=∀ (a0:ar) (a1:ar) (a2:(List UInt8)) (a3:ar) (X:ay),J (fun (o:R) (y:(List UInt8))=>o=(Out.ret (cH 4 0 y.length false),[(bK a0),bc,bx [(pt 1 0)],(lX a1),aD.row false 1 (y.map c8)]++X)) (aO (cx C) N 96 [(cH 4 0 a2.length false),(ag [(iA a3.Kind),(iA a3.N),(sA a3.S),(im (a3.L.map aw) false)]),(pt 2 0)] ([(bK a0),bc,bx [(pt 1 0)],(lX a1),aD.row false 1 (a2.map c8)]++X) 0) some (self a0 a1 a2 a3) some
def kE (n:Nat):Nat->Int->(List UInt8)->Option (Int×(List UInt8))
 | 0,_,_=>none
 | m+1,d,p=>bif (decide (128<=d)) then (bif (decide (0<=(mF .u8 (wr .u8 (d)) 128))&&decide ((mF .u8 (wr .u8 (d)) 128)<256)) then ((dS 1 p ([(UInt8.ofNat (Int.toNat (mF .u8 (wr .u8 (d)) 128)))])).bind fun q=>kE n m (ng .u64 d 7) q) else none) else (some ((d,p)))
theorem AE {w44:A} {w45 w46 w47 w48 w49:aD} {K:(Int×(List UInt8))->Option γ} (x0:∀ (u:Int) (q:(List UInt8)) (s4:A),J φ (kx 0 (St.mk [(0,(cH 4 0 q.length false)),(1,(A.v (.int .u64 u))),(4,s4)] [w45,w46,w47,w48,aD.row false 1 (q.map c8),w49])) kL (K (u,q)) some) :
  ∀ (m:Nat) (d:Int) (p:(List UInt8)),J φ (aK (cx C) (ec C n 7) (ey C n 7) (n+7) 93 0 0 6 kx kg kr kp m (St.mk [(0,(cH 4 0 p.length false)),(1,(A.v (.int .u64 d))),(4,w44)] [w45,w46,w47,w48,aD.row false 1 (p.map c8),w49])) kL (kE n  m d p) K:=by
 intro m
 induction m with
 | zero=>intros; exact .nn
 | succ m ih =>
  intro d p
  refine .lp (zH ..) ?_
  unfold kE
  refine .st (iC ..) (.aY (fun an=>?_) (fun an=>?_))
  ·refine .st (v:=(uA (wr .u8 (d)))) (bh (hs:=by kernel_rfl) (hd:=by kernel_rfl) ..) (.st (gE ..) (.gd fun hg=>.st (v:=(im [[(uA (((UInt8.ofNat (Int.toNat (mF .u8 (wr .u8 (d)) 128))).toNat:Int)))]] true)) (by rw[gb hg]; kernel_rfl) (.bd (g:=fun (y:List UInt8)=>((cH 4 0 y.length false),[w45,w46,w47,w48,aD.row false 1 (y.map c8),w49])) (dB dM (l:=p) (l2:=[(UInt8.ofNat (Int.toNat (mF .u8 (wr .u8 (d)) 128)))]) (b:=4) rfl (by decide) (b8 (f:=c8) ([(UInt8.ofNat (Int.toNat (mF .u8 (wr .u8 (d)) 128)))]:List UInt8) _ _)) fun ao=>.st (kG (hb:=by decide) ..) (.s [w45,w46,w47,w48,aD.row false 1 (ao.map c8),w49] (.cT (by kernel_rfl) ?_)))))
   exact ih _ _
  exact .ex (x0 _ _ _)
def gh (n:Nat):Nat->Int->(List UInt8)->Option (Int×(List UInt8))
 | 0,_,_=>none
 | m+1,d,p=>bif (decide (128<=d)) then (bif (decide (0<=(mF .u8 (wr .u8 (d)) 128))&&decide ((mF .u8 (wr .u8 (d)) 128)<256)) then ((dS 1 p ([(UInt8.ofNat (Int.toNat (mF .u8 (wr .u8 (d)) 128)))])).bind fun q=>gh n m (ng .u64 d 7) q) else none) else (some ((d,p)))
theorem qQ {w1301:A} {w1302 w1303 w1304 w1305 w1306 w1307 w1308:aD} {K:(Int×(List UInt8))->Option γ} (x0:∀ (u:Int) (q:(List UInt8)) (s4:A),J φ (kx 0 (St.mk [(0,(cH 4 0 q.length false)),(1,(A.v (.int .u64 u))),(4,s4)] [w1302,w1303,w1304,w1305,aD.row false 1 (q.map c8),w1306,w1307,w1308])) kL (K (u,q)) some) :
  ∀ (m:Nat) (d:Int) (p:(List UInt8)),J φ (aK (cx C) (aO (cx C) (n+6)) (aA (cx C) (n+6)) (n+6) 93 0 0 8 kx kg kr kp m (St.mk [(0,(cH 4 0 p.length false)),(1,(A.v (.int .u64 d))),(4,w1301)] [w1302,w1303,w1304,w1305,aD.row false 1 (p.map c8),w1306,w1307,w1308])) kL (gh n  m d p) K:=by
 intro m
 induction m with
 | zero=>intros; exact .nn
 | succ m ih =>
  intro d p
  refine .lp (zH ..) ?_
  unfold gh
  refine .st (iC ..) (.aY (fun an=>?_) (fun an=>?_))
  ·refine .st (v:=(uA (wr .u8 (d)))) (bh (hs:=by kernel_rfl) (hd:=by kernel_rfl) ..) (.st (gE ..) (.gd fun hg=>.st (v:=(im [[(uA (((UInt8.ofNat (Int.toNat (mF .u8 (wr .u8 (d)) 128))).toNat:Int)))]] true)) (by rw[gb hg]; kernel_rfl) (.bd (g:=fun (y:List UInt8)=>((cH 4 0 y.length false),[w1302,w1303,w1304,w1305,aD.row false 1 (y.map c8),w1306,w1307,w1308])) (dB dM (l:=p) (l2:=[(UInt8.ofNat (Int.toNat (mF .u8 (wr .u8 (d)) 128)))]) (b:=4) rfl (by decide) (b8 (f:=c8) ([(UInt8.ofNat (Int.toNat (mF .u8 (wr .u8 (d)) 128)))]:List UInt8) _ _)) fun ao=>.st (kG (hb:=by decide) ..) (.s [w1302,w1303,w1304,w1305,aD.row false 1 (ao.map c8),w1306,w1307,w1308] (.cT (by kernel_rfl) ?_)))))
   exact ih _ _
  exact .ex (x0 _ _ _)
def fG (self:ar->ar->(List UInt8)->ar->Option (List UInt8)) (n:Nat) (an:(List UInt8)) (q:(List ar)) (u:Int) (y:ar) (ab:ar) (ao:ar):Nat->Int->(List UInt8)->Option ((List UInt8))
 | 0,_,_=>none
 | m+1,p,ad=>bif (decide (p<u)) then ((bX q p).bind fun d=>bif decide (d.Kind=0) then (none) else bif decide (d.Kind=1) then ((dS 1 ad ([(1:UInt8)])).bind fun ca=>(FX d.N).bind fun cc=>(gh n  (n+6) cc ca).bind fun ch=>match ch with | (bm,ck)=>bif (decide (0<=(wr .u8 (bm)))&&decide ((wr .u8 (bm))<256)) then ((dS 1 ck ([(UInt8.ofNat (Int.toNat (wr .u8 (bm))))])).bind fun cm=>fG self n an q u y ab ao m (wr .i64 (p+1)) cm) else none) else bif decide (d.Kind=2) then ((dS 1 ad ([(2:UInt8)])).bind fun cn=>(gh n  (n+6) (wr .u64 ((d.S.size:Int))) cn).bind fun cv=>match cv with | (bs,cy)=>bif (decide (0<=(wr .u8 (bs)))&&decide ((wr .u8 (bs))<256)) then ((dS 1 cy ([(UInt8.ofNat (Int.toNat (wr .u8 (bs))))])).bind fun dd=>(dS 1 dd (jD d.S)).bind fun ea=>fG self n an q u y ab ao m (wr .i64 (p+1)) ea) else none) else bif decide (d.Kind=3) then ((self y ab ad d).bind fun eg=>fG self n an q u y ab ao m (wr .i64 (p+1)) eg) else none) else (some ad)
theorem AF (ch:tx C) (self:ar->ar->(List UInt8)->ar->Option (List UInt8)) (hS:FZ C (n+8) self) (ad:(List UInt8)) (an:(List ar)) (cc:Int) (p:ar) (q:ar) (u:ar) {K:((List UInt8))->Option γ} (x0:∀ (o0:(List UInt8)) (s2:A) (s5:A) (cn:A) (cv:A) (cy:A) (q5:aD),J φ (kx 0 (St.mk [(0,(cH 4 0 o0.length false)),(2,s2),(5,s5),(17,cn),(18,cv),(19,cy)] [(aN p),bc,bx [(pt 1 0)],(aN q),aD.row false 1 (o0.map c8),q5])) kL (K o0) some) :
  ∀ (m:Nat) (ca:Int) (ab:(List UInt8)),J φ (aK (cx C) (ec C n 8) (ey C n 8) (n+8) 96 0 0 6 kx kg kr kp m (St.mk [(0,(cH 4 0 ab.length false)),(2,(pt 2 0)),(5,(im (ad.map c8) true)),(17,(im (an.map aw) false)),(18,(iA cc)),(19,(iA ca))] [(aN p),bc,bx [(pt 1 0)],(aN q),aD.row false 1 (ab.map c8),(aN u)])) kL (fG self n ad an cc p q u m ca ab) K:=by
 intro m
 induction m with
 | zero=>intros; exact .nn
 | succ m ih =>
  intro ca ab
  refine .lp (Fz ..) ?_
  unfold fG
  refine .st (aW ..) (.aY (fun dd=>?_) (fun dd=>?_))
  ·refine .bd ((iT (e:=98) (es:=4)).trans (lR _)) fun d=>.s (ag [(iA d.Kind),(iA d.N),(sA d.S),(im (d.L.map aw) false)]) (.sq (pt 6 0) (.s [(aN p),bc,bx [(pt 1 0)],(aN q),aD.row false 1 (ab.map c8),(aN u),(cM d)] (.s (pt 1 0) (.s (pt 6 0) (.s (iA d.Kind) (.s (pt 1 0) (.sp (fun ea=>?_) (fun _=>?_))))))))
   ·exact .st (v:=(pt 1 0)) (by rw[of_decide_eq_true ea]; kernel_rfl) (.s (pt 1 0) (.s (A.v Value.nilFunc) (.s (ag [(iA d.Kind),(iA d.N),(sA d.S),(im (d.L.map aw) false)]) (.nn))))
   refine .sp (fun eg=>?_) (fun _=>?_)
   ·refine .st (v:=(pt 1 1)) (by rw[of_decide_eq_true eg]; kernel_rfl) (.s (pt 1 1) (.s (fk 92 [] []) (.s (ag [(iA d.Kind),(iA d.N),(sA d.S),(im (d.L.map aw) false)]) (.dC (by kernel_rfl) (by kernel_rfl) (.cl ((au CV).trans (Lb C (ec C n 7) (ey C n 7) (n+7) _ _ _ _)) (.s ((pt 7 0),[(aN p),bc,bx [(pt 1 0)],(aN q),aD.row false 1 (ab.map c8),(aN u),(cM d),(cM d)]) (.s (im [[(uA 1)]] true) (.bd (g:=fun (y:List UInt8)=>((cH 4 0 y.length false),[(aN p),bc,bx [(pt 1 0)],(aN q),aD.row false 1 (y.map c8),(aN u),(cM d),(cM d)])) (dB dM (l:=ab) (l2:=[(1:UInt8)]) (b:=4) rfl (by decide) (b8 (f:=c8) ([(1:UInt8)]:List UInt8) _ _)) fun ej=>.cT (by kernel_rfl) (.s (pt 7 1) (.cT (by kernel_rfl) (.s (iA d.N) (.bd (ch d.N) fun en=>.cl ((au qq).trans (Fy C (aO (cx C) (n+6)) (aA (cx C) (n+6)) (n+6) _ _ _ _)) (.as (qQ C n _ _ _ _  ?_ _ en ej))))))))))))))
    ·intro ao fs hp
     refine .un rfl (.cT (by kernel_rfl) (.st (v:=(uA (wr .u8 (ao)))) (bh (hs:=by kernel_rfl) (hd:=by kernel_rfl) ..) (.gd fun hg=>.st (v:=(im [[(uA (((UInt8.ofNat (Int.toNat (wr .u8 (ao)))).toNat:Int)))]] true)) (by rw[gb hg]; kernel_rfl) (.bd (g:=fun (y:List UInt8)=>((cH 4 0 y.length false),[(aN p),bc,bx [(pt 1 0)],(aN q),aD.row false 1 (y.map c8),(aN u),(cM d),(cM d)])) (dB dM (l:=fs) (l2:=[(UInt8.ofNat (Int.toNat (wr .u8 (ao))))]) (b:=4) rfl (by decide) (b8 (f:=c8) ([(UInt8.ofNat (Int.toNat (wr .u8 (ao))))]:List UInt8) _ _)) fun fv=>.cr (.ok (.cr (.ok (.st (aP ..) (.st (v:=[(aN p),bc,bx [(pt 1 0)],(aN q),aD.row false 1 (fv.map c8),(aN u)]) (dy (by kernel_rfl) (by simp only[uB,eF,eG,Nat.reduceLT,decide_true,bc,aN,aN,aN])) (.cT ((by kernel_rfl:_=(bif aG 6 (ad.map c8) then (bif aG 6 (an.map aw) then true else false) else false)).trans (by simp only[eF,eG])) ?_))))))))))
     exact ih _ _
   refine .sp (fun ha=>?_) (fun _=>?_)
   ·refine .st (v:=(pt 1 2)) (by rw[of_decide_eq_true ha]; kernel_rfl) (.s (pt 1 2) (.s (fk 95 [] []) (.s (ag [(iA d.Kind),(iA d.N),(sA d.S),(im (d.L.map aw) false)]) (.dC (by kernel_rfl) (by kernel_rfl) (.cl ((au CW).trans (Lc C (ec C n 7) (ey C n 7) (n+7) _ _ _ _)) (.s ((pt 7 0),[(aN p),bc,bx [(pt 1 0)],(aN q),aD.row false 1 (ab.map c8),(aN u),(cM d),(cM d)]) (.s ((A.ip [(iA d.Kind),(iA d.N),(sA d.S),(im (d.L.map aw) false)]),[(aN p),bc,bx [(pt 1 0)],(aN q),aD.row false 1 (ab.map c8),(aN u),(cM d),aD.dead]) (.cT (by kernel_rfl) (.s (im [[(uA 2)]] true) (.s (A.ip [(sA d.S),(im (d.L.map aw) false)]) (.s (sA d.S) (.s (iA ((d.S.size:Int))) (.st (v:=(A.v (.int .u64 (wr .u64 ((d.S.size:Int)))))) (bh (hs:=by kernel_rfl) (hd:=by kernel_rfl) ..) (.s (A.ip [(sA d.S),(im (d.L.map aw) false)]) (.s (sA d.S) (.cT (by kernel_rfl) (.bd (g:=fun (y:List UInt8)=>((cH 4 0 y.length false),[(aN p),bc,bx [(pt 1 0)],(aN q),aD.row false 1 (y.map c8),(aN u),(cM d),aD.dead])) (dB dM (l:=ab) (l2:=[(2:UInt8)]) (b:=4) rfl (by decide) (b8 (f:=c8) ([(2:UInt8)]:List UInt8) _ _)) fun hf=>.cT (by kernel_rfl) (.cl ((au qq).trans (Fy C (aO (cx C) (n+6)) (aA (cx C) (n+6)) (n+6) _ _ _ _)) (.as (qQ C n _ _ _ _  ?_ _ (wr .u64 ((d.S.size:Int))) hf))))))))))))))))))))
    ·intro bm hh hq
     refine .un rfl (.cT (by kernel_rfl) (.st (v:=(uA (wr .u8 (bm)))) (bh (hs:=by kernel_rfl) (hd:=by kernel_rfl) ..) (.gd fun hg=>.st (v:=(im [[(uA (((UInt8.ofNat (Int.toNat (wr .u8 (bm)))).toNat:Int)))]] true)) (by rw[gb hg]; kernel_rfl) (.bd (g:=fun (y:List UInt8)=>((cH 4 0 y.length false),[(aN p),bc,bx [(pt 1 0)],(aN q),aD.row false 1 (y.map c8),(aN u),(cM d),aD.dead])) (dB dM (l:=hh) (l2:=[(UInt8.ofNat (Int.toNat (wr .u8 (bm))))]) (b:=4) rfl (by decide) (b8 (f:=c8) ([(UInt8.ofNat (Int.toNat (wr .u8 (bm))))]:List UInt8) _ _)) fun hi=>.cr (.ok (.bd (g:=fun (y:List UInt8)=>((cH 4 0 y.length false),[(aN p),bc,bx [(pt 1 0)],(aN q),aD.row false 1 (y.map c8),(aN u),(cM d),aD.dead])) (dB yc (l:=hi) (l2:=jD d.S) (b:=4) rfl (by decide) (uZ ..)) fun hj=>.cr (.ok (.st (aP ..) (.st (v:=[(aN p),bc,bx [(pt 1 0)],(aN q),aD.row false 1 (hj.map c8),(aN u)]) (dy (by kernel_rfl) (by simp only[uB,eF,eG,Nat.reduceLT,decide_true,bc,aN,aN,aN])) (.cT ((by kernel_rfl:_=(bif aG 6 (ad.map c8) then (bif aG 6 (an.map aw) then true else false) else false)).trans (by simp only[eF,eG])) ?_))))))))))
     exact ih _ _
   refine .sp (fun hk=>?_) (fun _=>?_)
   ·refine .st (v:=(pt 1 3)) (by rw[of_decide_eq_true hk]; kernel_rfl) (.s (pt 1 3) (.s (fk 96 [] [(pt 2 0)]) (.s (ag [(iA d.Kind),(iA d.N),(sA d.S),(im (d.L.map aw) false)]) (.dC (by kernel_rfl) (by kernel_rfl) (.bg (fun (t:R) (y:(List UInt8))=>t=(Out.ret (cH 4 0 y.length false),[(aN p),bc,bx [(pt 1 0)],(aN q),aD.row false 1 (y.map c8),(aN u),(cM d)])) (hS p q ab d [(aN u),(cM d)]) ?_)))))
    rintro _ ho rfl
    refine .ok (.st (aP ..) (.st (v:=[(aN p),bc,bx [(pt 1 0)],(aN q),aD.row false 1 (ho.map c8),(aN u)]) (dy (by kernel_rfl) (by simp only[uB,eF,eG,Nat.reduceLT,decide_true,bc,aN,aN,aN])) (.cT ((by kernel_rfl:_=(bif aG 6 (ad.map c8) then (bif aG 6 (an.map aw) then true else false) else false)).trans (by simp only[eF,eG])) ?_)))
    exact ih _ _
   exact .nn
  exact .ex (x0 _ _ _ _ _ _ _)
def AA (self:ar->ar->(List UInt8)->ar->Option (List UInt8)) (n:Nat) (a0:ar) (a1:ar) (a2:(List UInt8)) (a3:ar):Option (List UInt8) :=
 (dS 1 a2 ([(3:UInt8)])).bind fun p=>(kE n  (n+7) (wr .u64 ((a3.L.length:Int))) p).bind fun q=>match q with | (d,u)=>bif (decide (0<=(wr .u8 (d)))&&decide ((wr .u8 (d))<256)) then ((dS 1 u ([(UInt8.ofNat (Int.toNat (wr .u8 (d))))])).bind fun y=>(fG self n ([]) a3.L ((a3.L.length:Int)) a0 a1 a3 (n+8) 0 y).bind fun ab=>match ab with | ad=>some ad) else none
theorem KV (C:OT) (n:Nat) (p:tx C) (self:ar->ar->(List UInt8)->ar->Option (List UInt8)) (hS:FZ C (n+8) self) (a0:ar) (a1:ar) (a2:(List UInt8)) (a3:ar):J (fun (o:R) (y:(List UInt8))=>∃ Z,o=(Out.ret (cH 4 0 y.length false),[(bK a0),bc,bx [(pt 1 0)],(lX a1),aD.row false 1 (y.map c8)]++Z)) (aB (cx C) (ec C n 8) (ey C n 8) (n+8) 96 [(cH 4 0 a2.length false),(ag [(iA a3.Kind),(iA a3.N),(sA a3.S),(im (a3.L.map aw) false)]),(pt 2 0)] [(bK a0),bc,bx [(pt 1 0)],(lX a1),aD.row false 1 (a2.map c8)] 0) some (AA self n a0 a1 a2 a3) some:=by
 refine .lp (MX ..) ?_
 unfold AA
 refine .s ((pt 5 0),[(bK a0),bc,bx [(pt 1 0)],(lX a1),aD.row false 1 (a2.map c8),bx [(iA a3.Kind),(iA a3.N),(sA a3.S),(im (a3.L.map aw) false)]]) (.s (im [[(uA 3)]] true) (.bd (g:=fun (y:List UInt8)=>((cH 4 0 y.length false),[(bK a0),bc,bx [(pt 1 0)],(lX a1),aD.row false 1 (y.map c8),bx [(iA a3.Kind),(iA a3.N),(sA a3.S),(im (a3.L.map aw) false)]])) (dB dM (l:=a2) (l2:=[(3:UInt8)]) (b:=4) rfl (by decide) (b8 (f:=c8) ([(3:UInt8)]:List UInt8) _ _)) fun q=>.cT (by kernel_rfl) (.s (pt 5 3) (.cT (by kernel_rfl) (.s (im (a3.L.map aw) false) (.cT (by kernel_rfl) (.st (eb (e:=98)) (.cT (by kernel_rfl) (.st (v:=(A.v (.int .u64 (wr .u64 ((a3.L.length:Int)))))) (bh (hs:=by kernel_rfl) (hd:=by kernel_rfl) ..) (.cl ((au qq).trans (Fy C (ec C n 7) (ey C n 7) (n+7) _ _ _ _)) (.as (AE C n _ _ _ _  ?_ _ (wr .u64 ((a3.L.length:Int))) q))))))))))))
 ·intro d u ad
  refine .un rfl (.cT (by kernel_rfl) (.st (v:=(uA (wr .u8 (d)))) (bh (hs:=by kernel_rfl) (hd:=by kernel_rfl) ..) (.gd fun hg=>.st (v:=(im [[(uA (((UInt8.ofNat (Int.toNat (wr .u8 (d)))).toNat:Int)))]] true)) (by rw[gb hg]; kernel_rfl) (.bd (g:=fun (y:List UInt8)=>((cH 4 0 y.length false),[(bK a0),bc,bx [(pt 1 0)],(lX a1),aD.row false 1 (y.map c8),bx [(iA a3.Kind),(iA a3.N),(sA a3.S),(im (a3.L.map aw) false)]])) (dB dM (l:=u) (l2:=[(UInt8.ofNat (Int.toNat (wr .u8 (d))))]) (b:=4) rfl (by decide) (b8 (f:=c8) ([(UInt8.ofNat (Int.toNat (wr .u8 (d))))]:List UInt8) _ _)) fun ab=>.cr (.ok (.s (pt 5 3) (.s (im (a3.L.map aw) false) (.st (eb (e:=98)) (.as (AF C n _ _ _ _ p self hS ([]) a3.L ((a3.L.length:Int)) a0 a1 a3 ?_ _ 0 ab))))))))))
  ·intro an ao bm bs ca cc w1400
   exact .un rfl (.cT (by kernel_rfl) (.lf rfl rfl ⟨[w1400],rfl⟩))
def DY:Nat->ar->ar->(List UInt8)->ar->Option (List UInt8)
 | 0=>fun _ _ _ _=>none
 | N+1=>fun a0 a1 a2 a3=>bif Nat.ble 8 N then AA (DY N) (N - 8) a0 a1 a2 a3 else none
theorem HD (C:OT) (d:tx C):∀ N,FZ C N (DY N)
 | 0=>fun _ _ _ _ X r h=>by cases h
 | N+1=>fun a0 a1 a2 a3 X=>by
  show J _ _ _ (bif Nat.ble 8 N then AA (DY N) (N - 8) a0 a1 a2 a3 else none) _
  cases h:Nat.ble 8 N with
  | false=>exact fun r h=>by cases h
  | true =>
   obtain ⟨n,rfl⟩:∃ n,N=n+8:=⟨N - 8,by have:=Nat.le_of_ble_eq_true h; omega⟩
   rw[Nat.add_sub_cancel]
   exact Fv (m:=5) (by kernel_rfl) (by kernel_rfl) (by decide) rfl ((by kernel_rfl:_=((((aG 5 (a3.L.map aw))&&true))&&true)).trans (by simp only[eF,eG])) ((by kernel_rfl:_=((((aG 5 (a0.L.map aw))&&true))&&((((aG 5 (a1.L.map aw))&&true))&&((aG 5 (a2.map c8))&&true)))).trans (by simp only[eF,eG])) (fun _=>rfl) (fun y=>(by kernel_rfl)) (fun y=>((by kernel_rfl:_=((((aG 5 (a0.L.map aw))&&true))&&((((aG 5 (a1.L.map aw))&&true))&&((aG 5 (y.map c8))&&true)))).trans (by simp only[eF,eG]))) (KV C n d (DY (n+8)) (HD C d (n+8)) a0 a1 a2 a3)
def gB (n:Nat):Nat->Int->(List UInt8)->Option (Int×(List UInt8))
 | 0,_,_=>none
 | m+1,d,p=>bif (decide (128<=d)) then (bif (decide (0<=(mF .u8 (wr .u8 (d)) 128))&&decide ((mF .u8 (wr .u8 (d)) 128)<256)) then ((dS 1 p ([(UInt8.ofNat (Int.toNat (mF .u8 (wr .u8 (d)) 128)))])).bind fun q=>gB n m (ng .u64 d 7) q) else none) else (some ((d,p)))
theorem qP {w75:A} {w76 w77 w78 w79:aD} {K:(Int×(List UInt8))->Option γ} (x0:∀ (u:Int) (q:(List UInt8)) (s4:A),J φ (kx 0 (St.mk [(0,(cH 4 0 q.length false)),(1,(A.v (.int .u64 u))),(4,s4)] [w76,w77,w78,w79,aD.row false 1 (q.map c8)])) kL (K (u,q)) some) :
  ∀ (m:Nat) (d:Int) (p:(List UInt8)),J φ (aK (cx C) (aO (cx C) (n+6)) (aA (cx C) (n+6)) (n+6) 93 0 0 5 kx kg kr kp m (St.mk [(0,(cH 4 0 p.length false)),(1,(A.v (.int .u64 d))),(4,w75)] [w76,w77,w78,w79,aD.row false 1 (p.map c8)])) kL (gB n  m d p) K:=by
 intro m
 induction m with
 | zero=>intros; exact .nn
 | succ m ih =>
  intro d p
  refine .lp (zH ..) ?_
  unfold gB
  refine .st (iC ..) (.aY (fun an=>?_) (fun an=>?_))
  ·refine .st (v:=(uA (wr .u8 (d)))) (bh (hs:=by kernel_rfl) (hd:=by kernel_rfl) ..) (.st (gE ..) (.gd fun hg=>.st (v:=(im [[(uA (((UInt8.ofNat (Int.toNat (mF .u8 (wr .u8 (d)) 128))).toNat:Int)))]] true)) (by rw[gb hg]; kernel_rfl) (.bd (g:=fun (y:List UInt8)=>((cH 4 0 y.length false),[w76,w77,w78,w79,aD.row false 1 (y.map c8)])) (dB dM (l:=p) (l2:=[(UInt8.ofNat (Int.toNat (mF .u8 (wr .u8 (d)) 128)))]) (b:=4) rfl (by decide) (b8 (f:=c8) ([(UInt8.ofNat (Int.toNat (mF .u8 (wr .u8 (d)) 128)))]:List UInt8) _ _)) fun ao=>.st (kG (hb:=by decide) ..) (.s [w76,w77,w78,w79,aD.row false 1 (ao.map c8)] (.cT (by kernel_rfl) ?_)))))
   exact ih _ _
  exact .ex (x0 _ _ _)
def gV (n:Nat):Nat->Int->(List UInt8)->Option (Int×(List UInt8))
 | 0,_,_=>none
 | m+1,d,p=>bif (decide (128<=d)) then (bif (decide (0<=(mF .u8 (wr .u8 (d)) 128))&&decide ((mF .u8 (wr .u8 (d)) 128)<256)) then ((dS 1 p ([(UInt8.ofNat (Int.toNat (mF .u8 (wr .u8 (d)) 128)))])).bind fun q=>gV n m (ng .u64 d 7) q) else none) else (some ((d,p)))
theorem tB {w865:A} {w866 w867 w868 w869 w870 w871:aD} {K:(Int×(List UInt8))->Option γ} (x0:∀ (u:Int) (q:(List UInt8)) (s4:A),J φ (kx 0 (St.mk [(0,(cH 4 0 q.length false)),(1,(A.v (.int .u64 u))),(4,s4)] [w866,w867,w868,w869,aD.row false 1 (q.map c8),w870,w871])) kL (K (u,q)) some) :
  ∀ (m:Nat) (d:Int) (p:(List UInt8)),J φ (aK (cx C) (aO (cx C) (n+5)) (aA (cx C) (n+5)) (n+5) 93 0 0 7 kx kg kr kp m (St.mk [(0,(cH 4 0 p.length false)),(1,(A.v (.int .u64 d))),(4,w865)] [w866,w867,w868,w869,aD.row false 1 (p.map c8),w870,w871])) kL (gV n  m d p) K:=by
 intro m
 induction m with
 | zero=>intros; exact .nn
 | succ m ih =>
  intro d p
  refine .lp (zH ..) ?_
  unfold gV
  refine .st (iC ..) (.aY (fun an=>?_) (fun an=>?_))
  ·refine .st (v:=(uA (wr .u8 (d)))) (bh (hs:=by kernel_rfl) (hd:=by kernel_rfl) ..) (.st (gE ..) (.gd fun hg=>.st (v:=(im [[(uA (((UInt8.ofNat (Int.toNat (mF .u8 (wr .u8 (d)) 128))).toNat:Int)))]] true)) (by rw[gb hg]; kernel_rfl) (.bd (g:=fun (y:List UInt8)=>((cH 4 0 y.length false),[w866,w867,w868,w869,aD.row false 1 (y.map c8),w870,w871])) (dB dM (l:=p) (l2:=[(UInt8.ofNat (Int.toNat (mF .u8 (wr .u8 (d)) 128)))]) (b:=4) rfl (by decide) (b8 (f:=c8) ([(UInt8.ofNat (Int.toNat (mF .u8 (wr .u8 (d)) 128)))]:List UInt8) _ _)) fun ao=>.st (kG (hb:=by decide) ..) (.s [w866,w867,w868,w869,aD.row false 1 (ao.map c8),w870,w871] (.cT (by kernel_rfl) ?_)))))
   exact ih _ _
  exact .ex (x0 _ _ _)
def gC (n:Nat) (an:(List UInt8)) (q:(List ar)) (u:Int) (y:ar) (ab:ar):Nat->Int->(List UInt8)->Option ((List UInt8))
 | 0,_,_=>none
 | m+1,p,ad=>bif (decide (p<u)) then ((bX q p).bind fun d=>bif decide (d.Kind=0) then (none) else bif decide (d.Kind=1) then ((dS 1 ad ([(1:UInt8)])).bind fun bs=>(FX d.N).bind fun ca=>(gV n  (n+5) ca bs).bind fun cc=>match cc with | (ao,ch)=>bif (decide (0<=(wr .u8 (ao)))&&decide ((wr .u8 (ao))<256)) then ((dS 1 ch ([(UInt8.ofNat (Int.toNat (wr .u8 (ao))))])).bind fun ck=>gC n an q u y ab m (wr .i64 (p+1)) ck) else none) else bif decide (d.Kind=2) then ((dS 1 ad ([(2:UInt8)])).bind fun cm=>(gV n  (n+5) (wr .u64 ((d.S.size:Int))) cm).bind fun cn=>match cn with | (bm,cv)=>bif (decide (0<=(wr .u8 (bm)))&&decide ((wr .u8 (bm))<256)) then ((dS 1 cv ([(UInt8.ofNat (Int.toNat (wr .u8 (bm))))])).bind fun cy=>(dS 1 cy (jD d.S)).bind fun dd=>gC n an q u y ab m (wr .i64 (p+1)) dd) else none) else bif decide (d.Kind=3) then ((DY (n+7) y ab ad d).bind fun ea=>gC n an q u y ab m (wr .i64 (p+1)) ea) else none) else (some ad)
theorem B5 (ca:tx C) (ab:(List UInt8)) (ad:(List ar)) (cc:Int) (p:ar) (q:ar) {K:((List UInt8))->Option γ} (x0:∀ (o0:(List UInt8)) (s2:A) (s5:A) (cm:A) (cn:A) (cv:A) (q0:aD) (q1:aD) (q2:aD) (q3:aD),J φ (kx 0 (St.mk [(0,(cH 4 0 o0.length false)),(2,s2),(5,s5),(17,cm),(18,cn),(19,cv)] [q0,q1,q2,q3,aD.row false 1 (o0.map c8)])) kL (K o0) some) :
  ∀ (m:Nat) (bs:Int) (u:(List UInt8)),J φ (aK (cx C) (ec C n 7) (ey C n 7) (n+7) 96 0 0 5 kx kg kr kp m (St.mk [(0,(cH 4 0 u.length false)),(2,(pt 2 0)),(5,(im (ab.map c8) true)),(17,(im (ad.map aw) false)),(18,(iA cc)),(19,(iA bs))] [(aN p),bc,bx [(pt 1 0)],(aN q),aD.row false 1 (u.map c8)])) kL (gC n ab ad cc p q m bs u) K:=by
 intro m
 induction m with
 | zero=>intros; exact .nn
 | succ m ih =>
  intro bs u
  refine .lp (Fz ..) ?_
  unfold gC
  refine .st (aW ..) (.aY (fun cy=>?_) (fun cy=>?_))
  ·refine .bd ((iT (e:=98) (es:=4)).trans (lR _)) fun d=>.s (ag [(iA d.Kind),(iA d.N),(sA d.S),(im (d.L.map aw) false)]) (.sq (pt 5 0) (.s [(aN p),bc,bx [(pt 1 0)],(aN q),aD.row false 1 (u.map c8),(cM d)] (.s (pt 1 0) (.s (pt 5 0) (.s (iA d.Kind) (.s (pt 1 0) (.sp (fun dd=>?_) (fun _=>?_))))))))
   ·exact .st (v:=(pt 1 0)) (by rw[of_decide_eq_true dd]; kernel_rfl) (.s (pt 1 0) (.s (A.v Value.nilFunc) (.s (ag [(iA d.Kind),(iA d.N),(sA d.S),(im (d.L.map aw) false)]) (.nn))))
   refine .sp (fun ea=>?_) (fun _=>?_)
   ·refine .st (v:=(pt 1 1)) (by rw[of_decide_eq_true ea]; kernel_rfl) (.s (pt 1 1) (.s (fk 92 [] []) (.s (ag [(iA d.Kind),(iA d.N),(sA d.S),(im (d.L.map aw) false)]) (.dC (by kernel_rfl) (by kernel_rfl) (.cl ((au CV).trans (Lb C (aO (cx C) (n+6)) (aA (cx C) (n+6)) (n+6) _ _ _ _)) (.s ((pt 6 0),[(aN p),bc,bx [(pt 1 0)],(aN q),aD.row false 1 (u.map c8),(cM d),(cM d)]) (.s (im [[(uA 1)]] true) (.bd (g:=fun (y:List UInt8)=>((cH 4 0 y.length false),[(aN p),bc,bx [(pt 1 0)],(aN q),aD.row false 1 (y.map c8),(cM d),(cM d)])) (dB dM (l:=u) (l2:=[(1:UInt8)]) (b:=4) rfl (by decide) (b8 (f:=c8) ([(1:UInt8)]:List UInt8) _ _)) fun eg=>.cT (by kernel_rfl) (.s (pt 6 1) (.cT (by kernel_rfl) (.s (iA d.N) (.bd (ca d.N) fun ej=>.cl ((au qq).trans (Fy C (aO (cx C) (n+5)) (aA (cx C) (n+5)) (n+5) _ _ _ _)) (.as (tB C n _ _ _ _  ?_ _ ej eg))))))))))))))
    ·intro an en ho
     refine .un rfl (.cT (by kernel_rfl) (.st (v:=(uA (wr .u8 (an)))) (bh (hs:=by kernel_rfl) (hd:=by kernel_rfl) ..) (.gd fun hg=>.st (v:=(im [[(uA (((UInt8.ofNat (Int.toNat (wr .u8 (an)))).toNat:Int)))]] true)) (by rw[gb hg]; kernel_rfl) (.bd (g:=fun (y:List UInt8)=>((cH 4 0 y.length false),[(aN p),bc,bx [(pt 1 0)],(aN q),aD.row false 1 (y.map c8),(cM d),(cM d)])) (dB dM (l:=en) (l2:=[(UInt8.ofNat (Int.toNat (wr .u8 (an))))]) (b:=4) rfl (by decide) (b8 (f:=c8) ([(UInt8.ofNat (Int.toNat (wr .u8 (an))))]:List UInt8) _ _)) fun fs=>.cr (.ok (.cr (.ok (.st (aP ..) (.st (v:=[(aN p),bc,bx [(pt 1 0)],(aN q),aD.row false 1 (fs.map c8)]) (dy (by kernel_rfl) (by simp only[uB,eF,eG,Nat.reduceLT,decide_true,bc,aN,aN])) (.cT ((by kernel_rfl:_=(bif aG 5 (ab.map c8) then (bif aG 5 (ad.map aw) then true else false) else false)).trans (by simp only[eF,eG])) ?_))))))))))
     exact ih _ _
   refine .sp (fun fv=>?_) (fun _=>?_)
   ·refine .st (v:=(pt 1 2)) (by rw[of_decide_eq_true fv]; kernel_rfl) (.s (pt 1 2) (.s (fk 95 [] []) (.s (ag [(iA d.Kind),(iA d.N),(sA d.S),(im (d.L.map aw) false)]) (.dC (by kernel_rfl) (by kernel_rfl) (.cl ((au CW).trans (Lc C (aO (cx C) (n+6)) (aA (cx C) (n+6)) (n+6) _ _ _ _)) (.s ((pt 6 0),[(aN p),bc,bx [(pt 1 0)],(aN q),aD.row false 1 (u.map c8),(cM d),(cM d)]) (.s ((A.ip [(iA d.Kind),(iA d.N),(sA d.S),(im (d.L.map aw) false)]),[(aN p),bc,bx [(pt 1 0)],(aN q),aD.row false 1 (u.map c8),(cM d),aD.dead]) (.cT (by kernel_rfl) (.s (im [[(uA 2)]] true) (.s (A.ip [(sA d.S),(im (d.L.map aw) false)]) (.s (sA d.S) (.s (iA ((d.S.size:Int))) (.st (v:=(A.v (.int .u64 (wr .u64 ((d.S.size:Int)))))) (bh (hs:=by kernel_rfl) (hd:=by kernel_rfl) ..) (.s (A.ip [(sA d.S),(im (d.L.map aw) false)]) (.s (sA d.S) (.cT (by kernel_rfl) (.bd (g:=fun (y:List UInt8)=>((cH 4 0 y.length false),[(aN p),bc,bx [(pt 1 0)],(aN q),aD.row false 1 (y.map c8),(cM d),aD.dead])) (dB dM (l:=u) (l2:=[(2:UInt8)]) (b:=4) rfl (by decide) (b8 (f:=c8) ([(2:UInt8)]:List UInt8) _ _)) fun ha=>.cT (by kernel_rfl) (.cl ((au qq).trans (Fy C (aO (cx C) (n+5)) (aA (cx C) (n+5)) (n+5) _ _ _ _)) (.as (tB C n _ _ _ _  ?_ _ (wr .u64 ((d.S.size:Int))) ha))))))))))))))))))))
    ·intro ao hf hp
     refine .un rfl (.cT (by kernel_rfl) (.st (v:=(uA (wr .u8 (ao)))) (bh (hs:=by kernel_rfl) (hd:=by kernel_rfl) ..) (.gd fun hg=>.st (v:=(im [[(uA (((UInt8.ofNat (Int.toNat (wr .u8 (ao)))).toNat:Int)))]] true)) (by rw[gb hg]; kernel_rfl) (.bd (g:=fun (y:List UInt8)=>((cH 4 0 y.length false),[(aN p),bc,bx [(pt 1 0)],(aN q),aD.row false 1 (y.map c8),(cM d),aD.dead])) (dB dM (l:=hf) (l2:=[(UInt8.ofNat (Int.toNat (wr .u8 (ao))))]) (b:=4) rfl (by decide) (b8 (f:=c8) ([(UInt8.ofNat (Int.toNat (wr .u8 (ao))))]:List UInt8) _ _)) fun hh=>.cr (.ok (.bd (g:=fun (y:List UInt8)=>((cH 4 0 y.length false),[(aN p),bc,bx [(pt 1 0)],(aN q),aD.row false 1 (y.map c8),(cM d),aD.dead])) (dB yc (l:=hh) (l2:=jD d.S) (b:=4) rfl (by decide) (uZ ..)) fun hi=>.cr (.ok (.st (aP ..) (.st (v:=[(aN p),bc,bx [(pt 1 0)],(aN q),aD.row false 1 (hi.map c8)]) (dy (by kernel_rfl) (by simp only[uB,eF,eG,Nat.reduceLT,decide_true,bc,aN,aN])) (.cT ((by kernel_rfl:_=(bif aG 5 (ab.map c8) then (bif aG 5 (ad.map aw) then true else false) else false)).trans (by simp only[eF,eG])) ?_))))))))))
     exact ih _ _
   refine .sp (fun hj=>?_) (fun _=>?_)
   ·refine .st (v:=(pt 1 3)) (by rw[of_decide_eq_true hj]; kernel_rfl) (.s (pt 1 3) (.s (fk 96 [] [(pt 2 0)]) (.s (ag [(iA d.Kind),(iA d.N),(sA d.S),(im (d.L.map aw) false)]) (.dC (by kernel_rfl) (by kernel_rfl) (.bg (fun (t:R) (y:(List UInt8))=>t=(Out.ret (cH 4 0 y.length false),[(aN p),bc,bx [(pt 1 0)],(aN q),aD.row false 1 (y.map c8),(cM d)])) (HD C ca (n+7) p q u d [(cM d)]) ?_)))))
    rintro _ hk rfl
    refine .ok (.st (aP ..) (.st (v:=[(aN p),bc,bx [(pt 1 0)],(aN q),aD.row false 1 (hk.map c8)]) (dy (by kernel_rfl) (by simp only[uB,eF,eG,Nat.reduceLT,decide_true,bc,aN,aN])) (.cT ((by kernel_rfl:_=(bif aG 5 (ab.map c8) then (bif aG 5 (ad.map aw) then true else false) else false)).trans (by simp only[eF,eG])) ?_)))
    exact ih _ _
   exact .nn
  exact .ex (x0 _ _ _ _ _ _ _ _ _ _)
def J3 (n:Nat) (a0:ar):Option ((List UInt8)×Int) :=
 (HA a0).bind fun u=>bif (u != 0) then (some (([],u))) else (bif decide (a0.Kind=0) then (none) else bif decide (a0.Kind=1) then ((dS 1 ([]) ([(1:UInt8)])).bind fun y=>(FX a0.N).bind fun ab=>(gB n  (n+6) ab y).bind fun ad=>match ad with | (d,an)=>bif (decide (0<=(wr .u8 (d)))&&decide ((wr .u8 (d))<256)) then ((dS 1 an ([(UInt8.ofNat (Int.toNat (wr .u8 (d))))])).bind fun ao=>some ((ao,0))) else none) else bif decide (a0.Kind=2) then ((dS 1 ([]) ([(2:UInt8)])).bind fun bm=>(gB n  (n+6) (wr .u64 ((a0.S.size:Int))) bm).bind fun bs=>match bs with | (p,ca)=>bif (decide (0<=(wr .u8 (p)))&&decide ((wr .u8 (p))<256)) then ((dS 1 ca ([(UInt8.ofNat (Int.toNat (wr .u8 (p))))])).bind fun cc=>(dS 1 cc (jD a0.S)).bind fun ch=>some ((ch,0))) else none) else bif decide (a0.Kind=3) then ((dS 1 ([]) ([(3:UInt8)])).bind fun ck=>(gB n  (n+6) (wr .u64 ((a0.L.length:Int))) ck).bind fun cm=>match cm with | (q,cn)=>bif (decide (0<=(wr .u8 (q)))&&decide ((wr .u8 (q))<256)) then ((dS 1 cn ([(UInt8.ofNat (Int.toNat (wr .u8 (q))))])).bind fun cv=>(gC n ([]) a0.L ((a0.L.length:Int)) a0 a0 (n+7) 0 cv).bind fun cy=>match cy with | dd=>some ((dd,0))) else none) else none)
theorem N1 (C:OT) (n:Nat) (ao:Fk C) (an:tx C) (a0:ar):J (fun (o:R) y=>∃ v,o.1=.ret v/\aF o.2 v=(tp [(im (y.1.map c8) false),(iA y.2)])) (aB (cx C) (ec C n 8) (ey C n 8) (n+8) 56 [(ag [(iA a0.Kind),(iA a0.N),(sA a0.S),(im (a0.L.map aw) false)])] [] 0) some (J3 n a0) some:=by
 refine .lp (OJ ..) ?_
 unfold J3
 refine .s ((pt 0 0),[(bK a0)]) (.s (ag [(iA a0.Kind),(iA a0.N),(sA a0.S),(im (a0.L.map aw) false)]) (.bd (g:=fun (y:Int)=>(iA y)) (by show C 76 [snap _ (ag [(iA a0.Kind),(iA a0.N),(sA a0.S),(im (a0.L.map aw) false)])]=_; simp only[cF,eA]; exact ao a0) fun y1=>.st (bq ..) (.aY (fun bs=>?_) (fun bs=>?_))))
 ·exact .lv (by show aF _ (tp [(im [] true),(iA y1)])=_; simp only[cF,fO,aF]; first | done | rfl)
 refine .s (pt 0 0) (.s (iA a0.Kind) (.s (ag [(iA a0.Kind),(iA a0.N),(sA a0.S),(im (a0.L.map aw) false)]) (.cT (by kernel_rfl) (.cl ((au I0).trans (OP C (ec C n 7) (ey C n 7) (n+7) _ _)) (.s (ag [(A.v Value.nilFunc),(A.v Value.nilFunc),(A.v Value.nilFunc),(A.v Value.nilFunc)]) (.sq (pt 1 0) (.sq (pt 2 0) (.sh (.s (pt 1 0) (.s (pt 1 0) (.s (pt 1 1) (.s (pt 1 1) (.sh (.s (pt 1 0) (.s (pt 1 0) (.s (pt 1 2) (.s (pt 1 2) (.sh (.s (pt 1 0) (.s (pt 1 0) (.s (pt 1 3) (.s (pt 1 3) (.s [(bK a0),bc,bx [(pt 1 0)]] ?_)))))))))))))))))))))))
 refine .s (pt 1 0) (.cr (.ok (.s (pt 1 0) (.sp (fun ca=>?_) (fun _=>?_)))))
 ·exact .st (v:=(pt 1 0)) (by rw[of_decide_eq_true ca]; kernel_rfl) (.s (pt 1 0) (.s (A.v Value.nilFunc) (.nn)))
 refine .sp (fun cc=>?_) (fun _=>?_)
 ·refine .st (v:=(pt 1 1)) (by rw[of_decide_eq_true cc]; kernel_rfl) (.s (pt 1 1) (.s (fk 92 [] []) (.dC (by kernel_rfl) (by kernel_rfl) (.cl ((au CV).trans (Lb C (ec C n 7) (ey C n 7) (n+7) _ _ _ _)) (.s ((pt 3 0),[(bK a0),bc,bx [(pt 1 0)],(bK a0)]) (.s (im [[(uA 1)]] true) (.bd (g:=fun (y:List UInt8)=>((cH 4 0 y.length false),[(bK a0),bc,bx [(pt 1 0)],(bK a0),aD.row false 1 (y.map c8)])) (lN dM (l:=[]) (l2:=[(1:UInt8)]) (b8 (f:=c8) ([(1:UInt8)]:List UInt8) _ _)) fun ch=>.cT (by kernel_rfl) (.s (pt 3 1) (.cT (by kernel_rfl) (.s (iA a0.N) (.bd (an a0.N) fun ck=>.cl ((au qq).trans (Fy C (aO (cx C) (n+6)) (aA (cx C) (n+6)) (n+6) _ _ _ _)) (.as (qP C n _ _ _ _  ?_ _ ck ch)))))))))))))
  ·intro u cm fs
   exact .un rfl (.cT (by kernel_rfl) (.st (v:=(uA (wr .u8 (u)))) (bh (hs:=by kernel_rfl) (hd:=by kernel_rfl) ..) (.gd fun hg=>.st (v:=(im [[(uA (((UInt8.ofNat (Int.toNat (wr .u8 (u)))).toNat:Int)))]] true)) (by rw[gb hg]; kernel_rfl) (.bd (g:=fun (y:List UInt8)=>((cH 4 0 y.length false),[(bK a0),bc,bx [(pt 1 0)],(bK a0),aD.row false 1 (y.map c8)])) (dB dM (l:=cm) (l2:=[(UInt8.ofNat (Int.toNat (wr .u8 (u))))]) (b:=4) rfl (by decide) (b8 (f:=c8) ([(UInt8.ofNat (Int.toNat (wr .u8 (u))))]:List UInt8) _ _)) fun d=>.cr (.ok (.cr (.ok (.lv (by show aF [(bK a0),bc,bx [(pt 1 0)],(bK a0),aD.row false 1 (d.map c8)] (tp [(cH 4 0 d.length false),(iA 0)])=_; first | (simp only[cF,eA,aF,bH (H:=[(bK a0),bc,bx [(pt 1 0)],(bK a0),aD.row false 1 (d.map c8)]) (b:=4) (es:=1) (wr:=false) (l:=d) eS rfl]; done) | (simp only[cF,fO,aF,bH (H:=[(bK a0),bc,bx [(pt 1 0)],(bK a0),aD.row false 1 (d.map c8)]) (b:=4) (es:=1) (wr:=false) (l:=d) eS rfl]; first | done | rfl))))))))))
 refine .sp (fun cn=>?_) (fun _=>?_)
 ·refine .st (v:=(pt 1 2)) (by rw[of_decide_eq_true cn]; kernel_rfl) (.s (pt 1 2) (.s (fk 95 [] []) (.dC (by kernel_rfl) (by kernel_rfl) (.cl ((au CW).trans (Lc C (ec C n 7) (ey C n 7) (n+7) _ _ _ _)) (.s ((pt 3 0),[(bK a0),bc,bx [(pt 1 0)],(bK a0)]) (.s ((A.ip [(iA a0.Kind),(iA a0.N),(sA a0.S),(im (a0.L.map aw) false)]),[(bK a0),bc,bx [(pt 1 0)],aD.dead]) (.cT (by kernel_rfl) (.s (im [[(uA 2)]] true) (.s (A.ip [(sA a0.S),(im (a0.L.map aw) false)]) (.s (sA a0.S) (.s (iA ((a0.S.size:Int))) (.st (v:=(A.v (.int .u64 (wr .u64 ((a0.S.size:Int)))))) (bh (hs:=by kernel_rfl) (hd:=by kernel_rfl) ..) (.s (A.ip [(sA a0.S),(im (a0.L.map aw) false)]) (.s (sA a0.S) (.cT (by kernel_rfl) (.bd (g:=fun (y:List UInt8)=>((cH 4 0 y.length false),[(bK a0),bc,bx [(pt 1 0)],aD.dead,aD.row false 1 (y.map c8)])) (lN dM (l:=[]) (l2:=[(2:UInt8)]) (b8 (f:=c8) ([(2:UInt8)]:List UInt8) _ _)) fun cv=>.cT (by kernel_rfl) (.cl ((au qq).trans (Fy C (aO (cx C) (n+6)) (aA (cx C) (n+6)) (n+6) _ _ _ _)) (.as (qP C n _ _ _ _  ?_ _ (wr .u64 ((a0.S.size:Int))) cv)))))))))))))))))))
  ·intro ab cy fv
   exact .un rfl (.cT (by kernel_rfl) (.st (v:=(uA (wr .u8 (ab)))) (bh (hs:=by kernel_rfl) (hd:=by kernel_rfl) ..) (.gd fun hg=>.st (v:=(im [[(uA (((UInt8.ofNat (Int.toNat (wr .u8 (ab)))).toNat:Int)))]] true)) (by rw[gb hg]; kernel_rfl) (.bd (g:=fun (y:List UInt8)=>((cH 4 0 y.length false),[(bK a0),bc,bx [(pt 1 0)],aD.dead,aD.row false 1 (y.map c8)])) (dB dM (l:=cy) (l2:=[(UInt8.ofNat (Int.toNat (wr .u8 (ab))))]) (b:=4) rfl (by decide) (b8 (f:=c8) ([(UInt8.ofNat (Int.toNat (wr .u8 (ab))))]:List UInt8) _ _)) fun dd=>.cr (.ok (.bd (g:=fun (y:List UInt8)=>((cH 4 0 y.length false),[(bK a0),bc,bx [(pt 1 0)],aD.dead,aD.row false 1 (y.map c8)])) (dB yc (l:=dd) (l2:=jD a0.S) (b:=4) rfl (by decide) (uZ ..)) fun p=>.cr (.ok (.lv (by show aF [(bK a0),bc,bx [(pt 1 0)],aD.dead,aD.row false 1 (p.map c8)] (tp [(cH 4 0 p.length false),(iA 0)])=_; first | (simp only[cF,eA,aF,bH (H:=[(bK a0),bc,bx [(pt 1 0)],aD.dead,aD.row false 1 (p.map c8)]) (b:=4) (es:=1) (wr:=false) (l:=p) eS rfl]; done) | (simp only[cF,fO,aF,bH (H:=[(bK a0),bc,bx [(pt 1 0)],aD.dead,aD.row false 1 (p.map c8)]) (b:=4) (es:=1) (wr:=false) (l:=p) eS rfl]; first | done | rfl))))))))))
 refine .sp (fun ea=>?_) (fun _=>?_)
 ·refine .st (v:=(pt 1 3)) (by rw[of_decide_eq_true ea]; kernel_rfl) (.s (pt 1 3) (.s (fk 96 [] [(pt 2 0)]) (.dC (by kernel_rfl) (by kernel_rfl) (.cl ((au I3).trans (MX C (ec C n 7) (ey C n 7) (n+7) _ _ _ _ _)) (.s ((pt 3 0),[(bK a0),bc,bx [(pt 1 0)],(bK a0)]) (.s (im [[(uA 3)]] true) (.bd (g:=fun (y:List UInt8)=>((cH 4 0 y.length false),[(bK a0),bc,bx [(pt 1 0)],(bK a0),aD.row false 1 (y.map c8)])) (lN dM (l:=[]) (l2:=[(3:UInt8)]) (b8 (f:=c8) ([(3:UInt8)]:List UInt8) _ _)) fun eg=>.cT (by kernel_rfl) (.s (pt 3 3) (.cT (by kernel_rfl) (.s (im (a0.L.map aw) false) (.cT (by kernel_rfl) (.st (eb (e:=98)) (.cT (by kernel_rfl) (.st (v:=(A.v (.int .u64 (wr .u64 ((a0.L.length:Int)))))) (bh (hs:=by kernel_rfl) (hd:=by kernel_rfl) ..) (.cl ((au qq).trans (Fy C (aO (cx C) (n+6)) (aA (cx C) (n+6)) (n+6) _ _ _ _)) (.as (qP C n _ _ _ _  ?_ _ (wr .u64 ((a0.L.length:Int))) eg)))))))))))))))))
  ·intro ad ej ha
   refine .un rfl (.cT (by kernel_rfl) (.st (v:=(uA (wr .u8 (ad)))) (bh (hs:=by kernel_rfl) (hd:=by kernel_rfl) ..) (.gd fun hg=>.st (v:=(im [[(uA (((UInt8.ofNat (Int.toNat (wr .u8 (ad)))).toNat:Int)))]] true)) (by rw[gb hg]; kernel_rfl) (.bd (g:=fun (y:List UInt8)=>((cH 4 0 y.length false),[(bK a0),bc,bx [(pt 1 0)],(bK a0),aD.row false 1 (y.map c8)])) (dB dM (l:=ej) (l2:=[(UInt8.ofNat (Int.toNat (wr .u8 (ad))))]) (b:=4) rfl (by decide) (b8 (f:=c8) ([(UInt8.ofNat (Int.toNat (wr .u8 (ad))))]:List UInt8) _ _)) fun en=>.cr (.ok (.s (pt 3 3) (.s (im (a0.L.map aw) false) (.st (eb (e:=98)) (.as (B5 C n _ _ _ _ an ([]) a0.L ((a0.L.length:Int)) a0 a0 ?_ _ 0 en))))))))))
   ·intro q hf hh hi hj hk w959 w960 w961 w962
    exact .un rfl (.cT (by kernel_rfl) (.cr (.ok (.lv (by show aF [w959,w960,w961,w962,aD.row false 1 (q.map c8)] (tp [(cH 4 0 q.length false),(iA 0)])=_; first | (simp only[cF,eA,aF,bH (H:=[w959,w960,w961,w962,aD.row false 1 (q.map c8)]) (b:=4) (es:=1) (wr:=false) (l:=q) eS rfl]; done) | (simp only[cF,fO,aF,bH (H:=[w959,w960,w961,w962,aD.row false 1 (q.map c8)]) (b:=4) (es:=1) (wr:=false) (l:=q) eS rfl]; first | done | rfl))))))
 exact .nn
def Hf (a0:ar):Option ((List UInt8)×Int):=J3 aH a0
def Ff (C:OT):Prop:=∀ (a0:ar),C 56 [(ag [(iA a0.Kind),(iA a0.N),(sA a0.S),(im (a0.L.map aw) false)])]=(Hf a0).map fun y=>(tp [(im (y.1.map c8) false),(iA y.2)])
def ju (n:Nat) (p:(List Int)) (q:Int) (y:Int) (ab:Int) (ad:ByteArray):Nat->Int->(List ar)->Option ((List ar))
 | 0,_,_=>none
 | m+1,d,u=>bif (decide (d<q)) then ((bX p d).bind fun an=>(dS 56 u ([(ar.mk 1 an zB ([]))])).bind fun ao=>ju n p q y ab ad m (wr .i64 (d+1)) ao) else (some u)
theorem BW {w60:A} (ao:(List Int)) (bm:Int) (p:Int) (q:Int) (u:ByteArray) {K:((List ar))->Option γ} (x0:∀ (o0:(List ar)) (s2:A) (s9:A) (ch:A) (ck:A),J φ (kx 0 (St.mk [(2,s2),(3,(pt 0 0)),(9,s9),(10,ch),(11,ck)] [bx [(iA p),(iA q),(sA u),(cH 1 0 o0.length false)],aD.row false 4 (o0.map aw)])) kL (K o0) some) :
  ∀ (m:Nat) (an:Int) (d:(List ar)),J φ (aK (cx C) (ec C n 8) (ey C n 8) (n+8) 29 0 0 2 kx kg kr kp m (St.mk [(2,w60),(3,(pt 0 0)),(9,(im (ao.map (cI .i64)) false)),(10,(iA bm)),(11,(iA an))] [bx [(iA p),(iA q),(sA u),(cH 1 0 d.length false)],aD.row false 4 (d.map aw)])) kL (ju n ao bm p q u m an d) K:=by
 intro m
 induction m with
 | zero=>intros; exact .nn
 | succ m ih =>
  intro an d
  refine .lp (Il ..) ?_
  unfold ju
  refine .st (aW ..) (.aY (fun cm=>?_) (fun cm=>?_))
  ·refine .bd (iT (e:=3) (es:=1)) fun ab=>.s (iA ab) (.s (pt 0 3) (.s (cH 1 0 d.length false) (.s (ag [(iA 1),(iA ab),se,(im [] true)]) (.s (im [[(iA 1),(iA ab),se,(im [] false)]] true) (.bd (g:=fun (y:List ar)=>((cH 1 0 y.length false),[bx [(iA p),(iA q),(sA u),(cH 1 0 d.length false)],aD.row false 4 (y.map aw)])) (dB zx (l:=d) (l2:=[(ar.mk 1 ab zB ([]))]) (b:=1) rfl (by decide) (zJ (f:=aw) (l:=([(ar.mk 1 ab zB ([]))]:List ar)) (by simp only[List.map_cons,List.map_nil,lS]))) fun bs=>.s (pt 0 3) (.sh (.st (aP ..) (.s [bx [(iA p),(iA q),(sA u),(cH 1 0 bs.length false)],aD.row false 4 (bs.map aw)] (.cT (by kernel_rfl) ?_)))))))))
   exact ih _ _
  exact .ex (x0 _ _ _ _ _)
def JW (n:Nat) (a0:(List Int)):Option (List UInt8) :=
 (ju n a0 ((a0.length:Int)) 3 0 zB (n+8) 0 (([]:List ar))).bind fun d=>match d with | p=>(Hf ((ar.mk 3 0 zB p))).bind fun q=>some q.1
theorem NT (C:OT) (n:Nat) (q:Ff C) (a0:(List Int)):J (fun (o:R) y=>∃ v,o.1=.ret v/\aF o.2 v=(im (y.map c8) false)) (aB (cx C) (ec C n 8) (ey C n 8) (n+8) 29 [(im (a0.map (cI .i64)) false)] [] 0) some (JW n a0) some:=by
 refine .lp (Kf ..) ?_
 unfold JW
 refine .s (ag [(iA 3),(iA 0),se,(im [] true)]) (.sq (pt 0 0) (.s [bx [(iA 3),(iA 0),se,(im [] true)]] (.st (eb (e:=3)) (.as (BW C n _ _ _ _ a0 ((a0.length:Int)) 3 0 zB ?_ _ 0 (([]:List ar)))))))
 ·intro d u ab ad an
  exact .un rfl (.cT (by kernel_rfl) (.s (ag [(iA 3),(iA 0),se,(cH 1 0 d.length false)]) (.bd (g:=fun (y:((List UInt8)×Int))=>(tp [(im (y.1.map c8) false),(iA y.2)])) (by show C 56 [snap [bx [(iA 3),(iA 0),se,(cH 1 0 d.length false)],aD.row false 4 (d.map aw)] (ag [(iA 3),(iA 0),se,(cH 1 0 d.length false)])]=_; simp only[cF,eA,jo (H:=[bx [(iA 3),(iA 0),se,(cH 1 0 d.length false)],aD.row false 4 (d.map aw)]) (b:=1) (es:=4) (l:=d) c7 rfl]; exact q ((ar.mk 3 0 zB d))) fun p=>.s (im (p.1.map c8) false) (.s (iA p.2) (.lv (by show aF _ (im (p.1.map c8) false)=_; simp only[cF,fO,aF]; first | done | rfl))))))
def E9 (a0:(List Int)):Option (List UInt8):=JW aH a0
def Bz (C:OT):Prop:=∀ (a0:(List Int)),C 29 [(im (a0.map (cI .i64)) false)]=(E9 a0).map fun y=>(im (y.map c8) false)
def gD (n:Nat) (y:(List Bool)) (ab:Int) (ad:ah) (an:ah):Nat->(List ak)->(List av)->Int->(List (List UInt8))->Option (((List (List UInt8)))⊕((List (List UInt8))))
 | 0,_,_,_,_=>none
 | m+1,d,p,q,u=>bif (decide (q<ab)) then ((bX y q).bind fun ao=>(bif ao then (some (decide (0<((d.length:Int))))) else (some false)).bind fun ch=>bif ch then ((bX d 0).bind fun bm=>(et d 1 ((d.length:Int))).bind fun bs=>bif ao then ((E9 ([1,bm.No,bm.Holder,bm.Until])).bind fun ck=>(dS 24 u ([ck])).bind fun cm=>gD n y ab ad an m bs p (wr .i64 (q+1)) cm) else ((E9 ([2,0,0])).bind fun cn=>(dS 24 u ([cn])).bind fun cv=>gD n y ab ad an m bs p (wr .i64 (q+1)) cv)) else ((bif (!ao) then (some (decide (0<((p.length:Int))))) else (some false)).bind fun cy=>bif cy then ((bX p 0).bind fun ca=>(et p 1 ((p.length:Int))).bind fun cc=>bif ao then ((E9 ([1,0,0,0])).bind fun dd=>(dS 24 u ([dd])).bind fun ea=>gD n y ab ad an m d cc (wr .i64 (q+1)) ea) else ((E9 ([2,ca.Bar,ca.Program])).bind fun eg=>(dS 24 u ([eg])).bind fun ej=>gD n y ab ad an m d cc (wr .i64 (q+1)) ej)) else (some ((Sum.inl u))))) else (some ((Sum.inr u)))
theorem DW (ca:Bz C) (bs:(List Bool)) (hf:Int) (ab:ah) (ad:ah) {K:(((List (List UInt8)))⊕((List (List UInt8))))->Option γ} (x0:∀ (o0:(List (List UInt8))) (s0:A) (s3:A) (s4:A) (dd:A) (ea:A) (eg:A) (q0:aD) (q2:aD) (q5:aD),J φ (kr (St.mk [(0,s0),(3,s3),(4,s4),(13,dd),(14,ea),(15,eg)] [q0,bx [(cH 3 0 o0.length false)],q2,aD.row false 1 (List.map (cL c8) o0),aD.rng cp.ready,q5])) kL (K (Sum.inl o0)) some) (x1:∀ (o0:(List (List UInt8))) (s0:A) (s3:A) (s4:A) (dd:A) (ea:A) (eg:A) (q0:aD) (q2:aD),J φ (kx 0 (St.mk [(0,s0),(3,s3),(4,s4),(13,dd),(14,ea),(15,eg)] [q0,bx [(cH 3 0 o0.length false)],q2,aD.row false 1 (List.map (cL c8) o0),aD.rng cp.ready])) kL (K (Sum.inr o0)) some) :
  ∀ (m:Nat) (ao:(List ak)) (bm:(List av)) (ej:Int) (d:(List (List UInt8))),J φ (aK (cx C) (aA (cx C) (n+7) (nM 124 (aO (cx C) (n+8)) 4 (gK (cx C) (ec C n 8) (ey C n 8) (n+8) 9 0 0 4 [(2,(pt 1 0))]))) (aA (cx C) (n+7)) (n+7) 55 0 0 5 kx kg kr kp m (St.mk [(0,(A.yld 4)),(3,(im (ao.map ae) false)),(4,(im (bm.map af) false)),(13,(im (bs.map cB) false)),(14,(iA hf)),(15,(iA ej))] [bx (aa ab),bx [(cH 3 0 d.length false)],bx (aa ad),aD.row false 1 (List.map (cL c8) d),aD.rng cp.ready])) kL (gD n bs hf ab ad m ao bm ej d) K:=by
 intro m
 induction m with
 | zero=>intros; exact .nn
 | succ m ih =>
  intro ao bm ej d
  refine .lp (zG ..) ?_
  unfold gD
  refine .st (aW ..) (.aY (fun ht=>?_) (fun ht=>?_))
  ·refine .bd (iT (e:=4) (es:=1)) fun p=>.s (bA p) (.s (ag [(bA p),(iA 0),(iA 0),(iA 0),(iA 0),(iA 0)]) (.sq (pt 5 0) (.s [bx (aa ab),bx [(cH 3 0 d.length false)],bx (aa ad),aD.row false 1 (List.map (cL c8) d),aD.rng cp.ready,bx [(bA p),(iA 0),(iA 0),(iA 0),(iA 0),(iA 0)]] (.bg (fun t (y:Bool)=>∃ hg hh hi:A,t=[(bA y),hg,hh,hi]) ?_ ?_))))
   ·refine .eQ (fun hv=>?_) (fun hv=>?_)
    ·exact .st (eb (e:=59)) (.st (ee ..) (.lg ⟨_,_,_,rfl⟩))
    exact .lg ⟨_,_,_,rfl⟩
   rintro _ kc ⟨hg,hh,hi,rfl⟩
   refine .u4 (.aY (fun hx=>?_) (fun hx=>?_))
   ·refine .bd (iT (e:=59) (es:=3)) fun q=>.s (ag (ae q)) (.bd (eY (e:=59) (es:=3) (f:=ae) (l:=ao) (a:=1) (b:=(ao.length:Int)) (by kernel_rfl) (by kernel_rfl) (fun _=>rfl) (.inr ⟨_,rfl⟩) (.inl ⟨rfl,rfl⟩)) fun hj=>.s (pt 5 1) (.cT (by kernel_rfl) (.s [bx (aa ab),bx [(cH 3 0 d.length false)],bx (aa ad),aD.row false 1 (List.map (cL c8) d),aD.rng cp.ready,bx ([(bA p)]++ae q++[(iA 0),(iA 0)])] (.s (ag ([(bA p)]++ae q++[(iA 0),(iA 0)])) (.dY rfl (.cl (yq.trans (ke.trans (FA C (ec C n 8) (ey C n 8) (n+8) _ _ _ _ _ _ _))) (.cT (by kernel_rfl) (.lp (fQ rfl) (.sq (pt 6 0) (.s [bx (aa ab),bx [(cH 3 0 d.length false)],bx (aa ad),aD.row false 1 (List.map (cL c8) d),aD.rng cp.ready,bx ([(bA p)]++ae q++[(iA 0),(iA 0)]),bx ([(bA p)]++ae q++[(iA 0),(iA 0)])] (.lp (fQ rfl) (.s (pt 6 0) (.s (bA p) (.aY (fun hy=>?_) (fun hy=>?_)))))))))))))))
    ·refine .s (cH 3 0 d.length false) (.s (pt 6 1) (.s (pt 6 1) (.s (iA q.No) (.s (pt 6 1) (.s (pt 6 2) (.s (iA q.Holder) (.s (pt 6 1) (.s (pt 6 3) (.s (iA q.Until) (.s (im [[(iA 1)],[(iA q.No)],[(iA q.Holder)],[(iA q.Until)]] true) (.bd (g:=fun (y:(List UInt8))=>(im (y.map c8) false)) (by show C 29 [snap _ (im [[(iA 1)],[(iA q.No)],[(iA q.Holder)],[(iA q.Until)]] true)]=_; simp only[cF,eA,jo (H:=[bx (aa ab),bx [(cH 3 0 d.length false)],bx (aa ad),aD.row false 1 (List.map (cL c8) d),aD.rng cp.busy,bx ([(bA p)]++ae q++[(iA 0),(iA 0)]),bx ([(bA p)]++ae q++[(iA 0),(iA 0)])]) (b:=3) (es:=1) (l:=d) (fV eS) rfl]; exact ca ([1,q.No,q.Holder,q.Until])) fun en=>.s (im [[(im (en.map c8) false)]] true) (.bd (g:=fun (y:List (List UInt8))=>((cH 3 0 y.length false),[bx (aa ab),bx [(cH 3 0 d.length false)],bx (aa ad),aD.row false 1 (List.map (cL c8) y),aD.rng cp.busy,bx ([(bA p)]++ae q++[(iA 0),(iA 0)]),bx ([(bA p)]++ae q++[(iA 0),(iA 0)])])) (dB qH (l:=d) (l2:=[en]) (b:=3) rfl (by decide) (b8 (f:=(cL c8)) ([en]:List (List UInt8)) _ _)) fun cc=>.s [bx (aa ab),bx [(cH 3 0 cc.length false)],bx (aa ad),aD.row false 1 (List.map (cL c8) cc),aD.rng cp.busy,bx ([(bA p)]++ae q++[(iA 0),(iA 0)]),bx ([(bA p)]++ae q++[(iA 0),(iA 0)])] (.lp (dT rfl) (.cr (.ok (.s (bA false) (.gR (.st (aP ..) (.st (v:=[bx (aa ab),bx [(cH 3 0 cc.length false)],bx (aa ad),aD.row false 1 (List.map (cL c8) cc),aD.rng cp.ready]) (dy (by kernel_rfl) (by simp only[uB,eF,eG,Nat.reduceLT,decide_true])) (.cT ((by kernel_rfl:_=(bif aG 5 (hj.map ae) then (bif aG 5 (bm.map af) then (bif aG 5 (bs.map cB) then true else false) else false) else false)).trans (by simp only[eF,eG])) ?_))))))))))))))))))))
     exact ih _ _ _ _
    refine .s (cH 3 0 d.length false) (.s (pt 6 4) (.s (pt 6 4) (.s (iA 0) (.s (pt 6 4) (.s (pt 6 5) (.s (iA 0) (.s (im [[(iA 2)],[(iA 0)],[(iA 0)]] true) (.bd (g:=fun (y:(List UInt8))=>(im (y.map c8) false)) (by show C 29 [snap _ (im [[(iA 2)],[(iA 0)],[(iA 0)]] true)]=_; simp only[cF,eA,jo (H:=[bx (aa ab),bx [(cH 3 0 d.length false)],bx (aa ad),aD.row false 1 (List.map (cL c8) d),aD.rng cp.busy,bx ([(bA p)]++ae q++[(iA 0),(iA 0)]),bx ([(bA p)]++ae q++[(iA 0),(iA 0)])]) (b:=3) (es:=1) (l:=d) (fV eS) rfl]; exact ca ([2,0,0])) fun fs=>.s (im [[(im (fs.map c8) false)]] true) (.bd (g:=fun (y:List (List UInt8))=>((cH 3 0 y.length false),[bx (aa ab),bx [(cH 3 0 d.length false)],bx (aa ad),aD.row false 1 (List.map (cL c8) y),aD.rng cp.busy,bx ([(bA p)]++ae q++[(iA 0),(iA 0)]),bx ([(bA p)]++ae q++[(iA 0),(iA 0)])])) (dB qH (l:=d) (l2:=[fs]) (b:=3) rfl (by decide) (b8 (f:=(cL c8)) ([fs]:List (List UInt8)) _ _)) fun ch=>.s [bx (aa ab),bx [(cH 3 0 ch.length false)],bx (aa ad),aD.row false 1 (List.map (cL c8) ch),aD.rng cp.busy,bx ([(bA p)]++ae q++[(iA 0),(iA 0)]),bx ([(bA p)]++ae q++[(iA 0),(iA 0)])] (.lp (dT rfl) (.cr (.ok (.s (bA false) (.gR (.st (aP ..) (.st (v:=[bx (aa ab),bx [(cH 3 0 ch.length false)],bx (aa ad),aD.row false 1 (List.map (cL c8) ch),aD.rng cp.ready]) (dy (by kernel_rfl) (by simp only[uB,eF,eG,Nat.reduceLT,decide_true])) (.cT ((by kernel_rfl:_=(bif aG 5 (hj.map ae) then (bif aG 5 (bm.map af) then (bif aG 5 (bs.map cB) then true else false) else false) else false)).trans (by simp only[eF,eG])) ?_)))))))))))))))))
    exact ih _ _ _ _
   refine .s (bA (!p)) (.bg (fun t (y:Bool)=>∃ hk ho hp:A,t=[(bA y),hk,ho,hp]) ?_ ?_)
   ·refine .eQ (fun ie=>?_) (fun ie=>?_)
    ·exact .st (eb (e:=62)) (.st (ee ..) (.lg ⟨_,_,_,rfl⟩))
    exact .lg ⟨_,_,_,rfl⟩
   rintro _ kk ⟨hk,ho,hp,rfl⟩
   refine .u4 (.aY (fun ik=>?_) (fun ik=>?_))
   ·refine .bd (iT (e:=62) (es:=2)) fun u=>.s (ag [(iA u.Bar),(iA u.Program)]) (.bd (eY (e:=62) (es:=2) (f:=af) (l:=bm) (a:=1) (b:=(bm.length:Int)) (by kernel_rfl) (by kernel_rfl) (fun _=>rfl) (.inr ⟨_,rfl⟩) (.inl ⟨rfl,rfl⟩)) fun hq=>.s (pt 5 4) (.cT (by kernel_rfl) (.s [bx (aa ab),bx [(cH 3 0 d.length false)],bx (aa ad),aD.row false 1 (List.map (cL c8) d),aD.rng cp.ready,(bZ p u)] (.s (ag [(bA p),(iA 0),(iA 0),(iA 0),(iA u.Bar),(iA u.Program)]) (.dY rfl (.cl (yq.trans (ke.trans (FA C (ec C n 8) (ey C n 8) (n+8) _ _ _ _ _ _ _))) (.cT (by kernel_rfl) (.lp (fQ rfl) (.sq (pt 6 0) (.s [bx (aa ab),bx [(cH 3 0 d.length false)],bx (aa ad),aD.row false 1 (List.map (cL c8) d),aD.rng cp.ready,(bZ p u),(bZ p u)] (.lp (fQ rfl) (.s (pt 6 0) (.s (bA p) (.aY (fun js=>?_) (fun js=>?_)))))))))))))))
    ·refine .s (cH 3 0 d.length false) (.s (pt 6 1) (.s (pt 6 1) (.s (iA 0) (.s (pt 6 1) (.s (pt 6 2) (.s (iA 0) (.s (pt 6 1) (.s (pt 6 3) (.s (iA 0) (.s (im [[(iA 1)],[(iA 0)],[(iA 0)],[(iA 0)]] true) (.bd (g:=fun (y:(List UInt8))=>(im (y.map c8) false)) (by show C 29 [snap _ (im [[(iA 1)],[(iA 0)],[(iA 0)],[(iA 0)]] true)]=_; simp only[cF,eA,jo (H:=[bx (aa ab),bx [(cH 3 0 d.length false)],bx (aa ad),aD.row false 1 (List.map (cL c8) d),aD.rng cp.busy,(bZ p u),(bZ p u)]) (b:=3) (es:=1) (l:=d) (fV eS) rfl]; exact ca ([1,0,0,0])) fun fv=>.s (im [[(im (fv.map c8) false)]] true) (.bd (g:=fun (y:List (List UInt8))=>((cH 3 0 y.length false),[bx (aa ab),bx [(cH 3 0 d.length false)],bx (aa ad),aD.row false 1 (List.map (cL c8) y),aD.rng cp.busy,(bZ p u),(bZ p u)])) (dB qH (l:=d) (l2:=[fv]) (b:=3) rfl (by decide) (b8 (f:=(cL c8)) ([fv]:List (List UInt8)) _ _)) fun ck=>.s [bx (aa ab),bx [(cH 3 0 ck.length false)],bx (aa ad),aD.row false 1 (List.map (cL c8) ck),aD.rng cp.busy,(bZ p u),(bZ p u)] (.lp (dT rfl) (.cr (.ok (.s (bA false) (.gR (.st (aP ..) (.st (v:=[bx (aa ab),bx [(cH 3 0 ck.length false)],bx (aa ad),aD.row false 1 (List.map (cL c8) ck),aD.rng cp.ready]) (dy (by kernel_rfl) (by simp only[uB,eF,eG,Nat.reduceLT,decide_true])) (.cT ((by kernel_rfl:_=(bif aG 5 (ao.map ae) then (bif aG 5 (hq.map af) then (bif aG 5 (bs.map cB) then true else false) else false) else false)).trans (by simp only[eF,eG])) ?_))))))))))))))))))))
     exact ih _ _ _ _
    refine .s (cH 3 0 d.length false) (.s (pt 6 4) (.s (pt 6 4) (.s (iA u.Bar) (.s (pt 6 4) (.s (pt 6 5) (.s (iA u.Program) (.s (im [[(iA 2)],[(iA u.Bar)],[(iA u.Program)]] true) (.bd (g:=fun (y:(List UInt8))=>(im (y.map c8) false)) (by show C 29 [snap _ (im [[(iA 2)],[(iA u.Bar)],[(iA u.Program)]] true)]=_; simp only[cF,eA,jo (H:=[bx (aa ab),bx [(cH 3 0 d.length false)],bx (aa ad),aD.row false 1 (List.map (cL c8) d),aD.rng cp.busy,(bZ p u),(bZ p u)]) (b:=3) (es:=1) (l:=d) (fV eS) rfl]; exact ca ([2,u.Bar,u.Program])) fun ha=>.s (im [[(im (ha.map c8) false)]] true) (.bd (g:=fun (y:List (List UInt8))=>((cH 3 0 y.length false),[bx (aa ab),bx [(cH 3 0 d.length false)],bx (aa ad),aD.row false 1 (List.map (cL c8) y),aD.rng cp.busy,(bZ p u),(bZ p u)])) (dB qH (l:=d) (l2:=[ha]) (b:=3) rfl (by decide) (b8 (f:=(cL c8)) ([ha]:List (List UInt8)) _ _)) fun cm=>.s [bx (aa ab),bx [(cH 3 0 cm.length false)],bx (aa ad),aD.row false 1 (List.map (cL c8) cm),aD.rng cp.busy,(bZ p u),(bZ p u)] (.lp (dT rfl) (.cr (.ok (.s (bA false) (.gR (.st (aP ..) (.st (v:=[bx (aa ab),bx [(cH 3 0 cm.length false)],bx (aa ad),aD.row false 1 (List.map (cL c8) cm),aD.rng cp.ready]) (dy (by kernel_rfl) (by simp only[uB,eF,eG,Nat.reduceLT,decide_true])) (.cT ((by kernel_rfl:_=(bif aG 5 (ao.map ae) then (bif aG 5 (hq.map af) then (bif aG 5 (bs.map cB) then true else false) else false) else false)).trans (by simp only[eF,eG])) ?_)))))))))))))))))
    exact ih _ _ _ _
   exact .ex (x0 _ _ _ _ _ _ _ _ _ _)
  exact .ex (x1 _ _ _ _ _ _ _ _ _)
def F9 (n:Nat) (a0:ah):Option ((List (List UInt8))×Int) :=
 (AB a0).bind fun d=>bif (d != 0) then (some (([],d))) else ((gD n a0.Order ((a0.Order.length:Int)) a0 a0 (n+7) a0.Leases a0.Calls 0 (([]:List (List UInt8)))).bind fun p=>match p with | (Sum.inl q)=>some ((q,0)) | (Sum.inr u)=>some ((u,0)))
theorem T9 (C:OT) (n:Nat) (q:mq C) (u:Bz C) (a0:ah):J (fun (o:R) y=>∃ v,o.1=.ret v/\aF o.2 v=(tp [(im (List.map (cL c8) y.1) false),(iA y.2)])) (aB (cx C) (ec C n 8) (ey C n 8) (n+8) 9 [(ag (aa a0))] [] 0) some (F9 n a0) some:=by
 refine .lp (e9 ..) ?_
 unfold F9
 refine .s ((pt 0 0),[bx (aa a0)]) (.s ((pt 1 0),[bx (aa a0),bx [(im [] true)]]) (.s (ag (aa a0)) (.bd (g:=fun (y:Int)=>(iA y)) (by show C 20 [snap _ (ag (aa a0))]=_; simp only[cF,eA]; exact q a0) fun y1=>.st (bq ..) (.aY (fun ad=>?_) (fun ad=>?_)))))
 ·exact .s [bx (aa a0),bx [(im [] true)]] (.s (im [] true) (.lv (by show aF _ (tp [(im [] true),(iA y1)])=_; simp only[cF,fO,aF]; first | done | rfl)))
 refine .s (ag (aa a0)) (.cl ((au zX).trans (Ke C (ec C n 7) (ey C n 7) (n+7) _ _ _)) (.s ((pt 2 0),[bx (aa a0),bx [(im [] true)],bx (aa a0)]) (.cr (.ok (.s (55,[(pt 2 0)]) (.cT (by kernel_rfl) (.cl ((jJ zY).trans (Kg C (aA (cx C) (n+7) (nM 124 (aO (cx C) (n+8)) 4 (gK (cx C) (ec C n 8) (ey C n 8) (n+8) 9 0 0 4 [(2,(pt 1 0))]))) (aA (cx C) (n+7)) (n+7) _ _ _ _)) (.s (pt 2 1) (.s (im (a0.Leases.map ae) false) (.s (pt 2 2) (.s (im (a0.Calls.map af) false) (.s (pt 2 3) (.s (im (a0.Order.map cB) false) (.st (eb (e:=4)) (.as (DW C n _ _ _ _ u a0.Order ((a0.Order.length:Int)) a0 a0 ?_ ?_ _ a0.Leases a0.Calls 0 (([]:List (List UInt8)))))))))))))))))))
 ·intro d an ao bm bs ca cc w303 w304 w305
  exact .un rfl (.cr (.ok (.lp (xw rfl) (.s (cH 3 0 d.length false) (.s [w303,bx [(cH 3 0 d.length false)],w304,aD.row false 1 (List.map (cL c8) d),aD.dead,w305] (.s (cH 3 0 d.length false) (.lv (by show aF [w303,bx [(cH 3 0 d.length false)],w304,aD.row false 1 (List.map (cL c8) d),aD.dead,w305] (tp [(cH 3 0 d.length false),(iA 0)])=_; first | (simp only[cF,eA,aF,bH (H:=[w303,bx [(cH 3 0 d.length false)],w304,aD.row false 1 (List.map (cL c8) d),aD.dead,w305]) (b:=3) (es:=1) (wr:=false) (l:=d) (fV eS) rfl]; done) | (simp only[cF,fO,aF,bH (H:=[w303,bx [(cH 3 0 d.length false)],w304,aD.row false 1 (List.map (cL c8) d),aD.dead,w305]) (b:=3) (es:=1) (wr:=false) (l:=d) (fV eS) rfl]; first | done | rfl)))))))))
 ·intro p ch ck cm cn cv cy w313 w314
  exact .un rfl (.cT (by kernel_rfl) (.cr (.ok (.lp (xw rfl) (.s (cH 3 0 p.length false) (.s [w313,bx [(cH 3 0 p.length false)],w314,aD.row false 1 (List.map (cL c8) p),aD.dead] (.s (cH 3 0 p.length false) (.lv (by show aF [w313,bx [(cH 3 0 p.length false)],w314,aD.row false 1 (List.map (cL c8) p),aD.dead] (tp [(cH 3 0 p.length false),(iA 0)])=_; first | (simp only[cF,eA,aF,bH (H:=[w313,bx [(cH 3 0 p.length false)],w314,aD.row false 1 (List.map (cL c8) p),aD.dead]) (b:=3) (es:=1) (wr:=false) (l:=p) (fV eS) rfl]; done) | (simp only[cF,fO,aF,bH (H:=[w313,bx [(cH 3 0 p.length false)],w314,aD.row false 1 (List.map (cL c8) p),aD.dead]) (b:=3) (es:=1) (wr:=false) (l:=p) (fV eS) rfl]; first | done | rfl))))))))))
def G9 (a0:ah):Option ((List (List UInt8))×Int):=F9 aH a0
def F0 (C:OT):Prop:=∀ (a0:ah),C 9 [(ag (aa a0))]=(G9 a0).map fun y=>(tp [(im (List.map (cL c8) y.1) false),(iA y.2)])
end Go.Proofs.Ytdmgdjnadbakfaa
