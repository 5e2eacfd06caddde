/-
 The program's functions as plain functions: by a tool; each follows the interpreter.
-/
import Derived.Test.YtebkhfhcipnfgaaT1
namespace Go.Proofs.Ytebkhfhcipnfgaa
open Go.Proofs.Try (prog)
set_option linter.unusedVariables false
set_option linter.unusedSimpArgs false
set_option maxHeartbeats 4000000
set_option maxRecDepth 100000
set_option linter.defProp false
theorem N1 {p:Prop} (h:p:=by simp only[uB,eo,ux,er,Nat.reduceLT,decide_true,bo]):p:=h
variable (C:Nat->List A->Option A) (n:Nat) {ρ γ:Type} {φ:ρ->γ->Prop} {kL:R->Option ρ} (kx kg:Nat->St->Option R) (kr:St->Option R) (kp:A->St->Option R)
def oP (a:Int) (b:Int) (c:ByteArray) (d:(List af)):aw:=bx [(iA a),(iA b),(sA c),(bL 3 0 d.length false)]
def gR (n:Nat) (c:Int) (b:aC) (e:Int) (f:Int) (g:ByteArray):Nat->Int->(List af)->Option ((List af))
 | 0,_,_=>none
 | m+1,a,d=>bif (decide (a<c)) then (bif decide (a=0) then ((cO 56 d ([(af.mk 1 b.kind jv ([]))])).bind fun h=>gR n c b e f g m (wr .i64 (a+1)) h) else bif decide (a=1) then ((cO 56 d ([(af.mk 1 b.cue.No jv ([]))])).bind fun i=>gR n c b e f g m (wr .i64 (a+1)) i) else bif decide (a=2) then ((cO 56 d ([(af.mk 1 b.cue.Role jv ([]))])).bind fun j=>gR n c b e f g m (wr .i64 (a+1)) j) else bif decide (a=3) then ((cO 56 d ([(af.mk 1 b.cue.Bar jv ([]))])).bind fun k=>gR n c b e f g m (wr .i64 (a+1)) k) else bif decide (a=4) then ((cO 56 d ([(af.mk 1 b.cue.Program jv ([]))])).bind fun l=>gR n c b e f g m (wr .i64 (a+1)) l) else none) else (some d)
theorem Ai {w95:A} (k:Int) (a:aC) (d:Int) (e:Int) (h:ByteArray) {K:((List af))->Option γ} (u:∀ (i:(List af)) (s2:A) (w:A) (x:A) (z:A) (q0:aw) (q2:aw),J φ (kx 0 (St.mk [(2,s2),(3,(pt 1 0)),(9,w),(10,x),(11,z)] [q0,bx [(iA d),(iA e),(sA h),(bL 3 0 i.length false)],q2,aw.row false 4 (i.map ak)])) kL (K i) some) :
  ∀ (m:Nat) (j:Int) (c:(List af)),J φ (aA (cx C) (ec C n 8) (ey C n 8) (n+8) 26 0 0 4 kx kg kr kp m (St.mk [(2,w95),(3,(pt 1 0)),(9,(bL 2 0 5 false)),(10,(iA k)),(11,(iA j))] [bx (aq a),(oP d e h c),aw.row true 1 [[(pt 0 0)],[(pt 0 1)],[(pt 0 2)],[(pt 0 3)],[(pt 0 4)],[(pt 0 0)],[(pt 0 5)],[(pt 0 6)],[(pt 0 7)]],aw.row false 4 (c.map ak)])) kL (gR n k a d e h m j c) K:=by
  refine nI (fun _ _=>.nn) fun m ih j c=>.lp (Ea ..) ?_
  unfold gR
  refine .st (aV ..) (.cj ?_ ?_)
  ·refine .sp (fun a0=>?_) (fun _=>?_)
   ·refine .st (v:=(A.ep 2 0 0)) (by rw[Oe a0]; kernel_rfl) (.s (pt 0 0) (.s2 (bL 3 0 c.length false) (.s (pt 0 0) (.s (iA a.kind) (.s (ag [(iA 1),(iA a.kind),se,N3]) (.s (im [[(iA 1),(iA a.kind),se,(im [] false)]] true) (.bd (g:=fun (y:List af)=>((bL 3 0 y.length false),[bx (aq a),(oP d e h c),aw.row true 1 [[(pt 0 0)],[(pt 0 1)],[(pt 0 2)],[(pt 0 3)],[(pt 0 4)],[(pt 0 0)],[(pt 0 5)],[(pt 0 6)],[(pt 0 7)]],aw.row false 4 (y.map ak)])) (bS ew (l:=c) (l2:=[(af.mk 1 a.kind jv ([]))]) (b:=3) rfl (by decide) (gI (f:=ak) (l:=([(af.mk 1 a.kind jv ([]))]:List af)) y6)) fun o=>.s (pt 1 3) (.sh (.st (az ..) (.s [bx (aq a),bx [(iA d),(iA e),(sA h),(bL 3 0 o.length false)],aw.row true 1 [[(pt 0 0)],[(pt 0 1)],[(pt 0 2)],[(pt 0 3)],[(pt 0 4)],[(pt 0 0)],[(pt 0 5)],[(pt 0 6)],[(pt 0 7)]],aw.row false 4 (o.map ak)] (.cT r8 ?_)))))))))))
    exact ih _ _
   refine .sp (fun a1=>?_) (fun _=>?_)
   ·refine .st (v:=(A.ep 2 1 0)) (by rw[Oe a1]; kernel_rfl) (.s (pt 0 1) (.s2 (bL 3 0 c.length false) (.s (pt 0 1) (.s (iA a.cue.No) (.s (ag [(iA 1),(iA a.cue.No),se,N3]) (.s (im [[(iA 1),(iA a.cue.No),se,(im [] false)]] true) (.bd (g:=fun (y:List af)=>((bL 3 0 y.length false),[bx (aq a),(oP d e h c),aw.row true 1 [[(pt 0 0)],[(pt 0 1)],[(pt 0 2)],[(pt 0 3)],[(pt 0 4)],[(pt 0 0)],[(pt 0 5)],[(pt 0 6)],[(pt 0 7)]],aw.row false 4 (y.map ak)])) (bS ew (l:=c) (l2:=[(af.mk 1 a.cue.No jv ([]))]) (b:=3) rfl (by decide) (gI (f:=ak) (l:=([(af.mk 1 a.cue.No jv ([]))]:List af)) y6)) fun p=>.s (pt 1 3) (.sh (.st (az ..) (.s [bx (aq a),bx [(iA d),(iA e),(sA h),(bL 3 0 p.length false)],aw.row true 1 [[(pt 0 0)],[(pt 0 1)],[(pt 0 2)],[(pt 0 3)],[(pt 0 4)],[(pt 0 0)],[(pt 0 5)],[(pt 0 6)],[(pt 0 7)]],aw.row false 4 (p.map ak)] (.cT r8 ?_)))))))))))
    exact ih _ _
   refine .sp (fun a2=>?_) (fun _=>?_)
   ·refine .st (v:=(A.ep 2 2 0)) (by rw[Oe a2]; kernel_rfl) (.s (pt 0 2) (.s2 (bL 3 0 c.length false) (.s (pt 0 2) (.s (iA a.cue.Role) (.s (ag [(iA 1),(iA a.cue.Role),se,N3]) (.s (im [[(iA 1),(iA a.cue.Role),se,(im [] false)]] true) (.bd (g:=fun (y:List af)=>((bL 3 0 y.length false),[bx (aq a),(oP d e h c),aw.row true 1 [[(pt 0 0)],[(pt 0 1)],[(pt 0 2)],[(pt 0 3)],[(pt 0 4)],[(pt 0 0)],[(pt 0 5)],[(pt 0 6)],[(pt 0 7)]],aw.row false 4 (y.map ak)])) (bS ew (l:=c) (l2:=[(af.mk 1 a.cue.Role jv ([]))]) (b:=3) rfl (by decide) (gI (f:=ak) (l:=([(af.mk 1 a.cue.Role jv ([]))]:List af)) y6)) fun q=>.s (pt 1 3) (.sh (.st (az ..) (.s [bx (aq a),bx [(iA d),(iA e),(sA h),(bL 3 0 q.length false)],aw.row true 1 [[(pt 0 0)],[(pt 0 1)],[(pt 0 2)],[(pt 0 3)],[(pt 0 4)],[(pt 0 0)],[(pt 0 5)],[(pt 0 6)],[(pt 0 7)]],aw.row false 4 (q.map ak)] (.cT r8 ?_)))))))))))
    exact ih _ _
   refine .sp (fun a3=>?_) (fun _=>?_)
   ·refine .st (v:=(A.ep 2 3 0)) (by rw[Oe a3]; kernel_rfl) (.s (pt 0 3) (.s2 (bL 3 0 c.length false) (.s (pt 0 3) (.s (iA a.cue.Bar) (.s (ag [(iA 1),(iA a.cue.Bar),se,N3]) (.s (im [[(iA 1),(iA a.cue.Bar),se,(im [] false)]] true) (.bd (g:=fun (y:List af)=>((bL 3 0 y.length false),[bx (aq a),(oP d e h c),aw.row true 1 [[(pt 0 0)],[(pt 0 1)],[(pt 0 2)],[(pt 0 3)],[(pt 0 4)],[(pt 0 0)],[(pt 0 5)],[(pt 0 6)],[(pt 0 7)]],aw.row false 4 (y.map ak)])) (bS ew (l:=c) (l2:=[(af.mk 1 a.cue.Bar jv ([]))]) (b:=3) rfl (by decide) (gI (f:=ak) (l:=([(af.mk 1 a.cue.Bar jv ([]))]:List af)) y6)) fun r=>.s (pt 1 3) (.sh (.st (az ..) (.s [bx (aq a),bx [(iA d),(iA e),(sA h),(bL 3 0 r.length false)],aw.row true 1 [[(pt 0 0)],[(pt 0 1)],[(pt 0 2)],[(pt 0 3)],[(pt 0 4)],[(pt 0 0)],[(pt 0 5)],[(pt 0 6)],[(pt 0 7)]],aw.row false 4 (r.map ak)] (.cT r8 ?_)))))))))))
    exact ih _ _
   refine .sp (fun a4=>?_) (fun _=>?_)
   ·refine .st (v:=(A.ep 2 4 0)) (by rw[Oe a4]; kernel_rfl) (.s (pt 0 4) (.s2 (bL 3 0 c.length false) (.s (pt 0 4) (.s (iA a.cue.Program) (.s (ag [(iA 1),(iA a.cue.Program),se,N3]) (.s (im [[(iA 1),(iA a.cue.Program),se,(im [] false)]] true) (.bd (g:=fun (y:List af)=>((bL 3 0 y.length false),[bx (aq a),(oP d e h c),aw.row true 1 [[(pt 0 0)],[(pt 0 1)],[(pt 0 2)],[(pt 0 3)],[(pt 0 4)],[(pt 0 0)],[(pt 0 5)],[(pt 0 6)],[(pt 0 7)]],aw.row false 4 (y.map ak)])) (bS ew (l:=c) (l2:=[(af.mk 1 a.cue.Program jv ([]))]) (b:=3) rfl (by decide) (gI (f:=ak) (l:=([(af.mk 1 a.cue.Program jv ([]))]:List af)) y6)) fun t=>.s (pt 1 3) (.sh (.st (az ..) (.s [bx (aq a),bx [(iA d),(iA e),(sA h),(bL 3 0 t.length false)],aw.row true 1 [[(pt 0 0)],[(pt 0 1)],[(pt 0 2)],[(pt 0 3)],[(pt 0 4)],[(pt 0 0)],[(pt 0 5)],[(pt 0 6)],[(pt 0 7)]],aw.row false 4 (t.map ak)] (.cT r8 ?_)))))))))))
    exact ih _ _
   exact .nn
  exact .ex (u _ _ _ _ _ _ _)
def dm (n:Nat) (c:Int) (b:aC) (e:Int) (f:Int) (g:ByteArray):Nat->Int->(List af)->Option ((List af))
 | 0,_,_=>none
 | m+1,a,d=>bif (decide (a<c)) then (bif decide (a=0) then ((cO 56 d ([(af.mk 1 b.kind jv ([]))])).bind fun h=>dm n c b e f g m (wr .i64 (a+1)) h) else bif decide (a=1) then ((cO 56 d ([(af.mk 1 b.report.Role jv ([]))])).bind fun i=>dm n c b e f g m (wr .i64 (a+1)) i) else bif decide (a=2) then ((cO 56 d ([(af.mk 1 b.report.Bar jv ([]))])).bind fun j=>dm n c b e f g m (wr .i64 (a+1)) j) else bif decide (a=3) then ((cO 56 d ([(af.mk 1 b.report.Program jv ([]))])).bind fun k=>dm n c b e f g m (wr .i64 (a+1)) k) else none) else (some d)
theorem yO {w213:A} (k:Int) (a:aC) (d:Int) (e:Int) (h:ByteArray) {K:((List af))->Option γ} (t:∀ (i:(List af)) (s2:A) (u:A) (w:A) (x:A) (q0:aw) (q2:aw),J φ (kx 0 (St.mk [(2,s2),(3,(pt 1 0)),(9,u),(10,w),(11,x)] [q0,bx [(iA d),(iA e),(sA h),(bL 3 0 i.length false)],q2,aw.row false 4 (i.map ak)])) kL (K i) some) :
  ∀ (m:Nat) (j:Int) (c:(List af)),J φ (aA (cx C) (ec C n 8) (ey C n 8) (n+8) 26 0 0 4 kx kg kr kp m (St.mk [(2,w213),(3,(pt 1 0)),(9,(bL 2 5 4 true)),(10,(iA k)),(11,(iA j))] [bx (aq a),bx [(iA d),(iA e),(sA h),(bL 3 0 c.length false)],aw.row true 1 [[(pt 0 0)],[(pt 0 1)],[(pt 0 2)],[(pt 0 3)],[(pt 0 4)],[(pt 0 0)],[(pt 0 5)],[(pt 0 6)],[(pt 0 7)]],aw.row false 4 (c.map ak)])) kL (dm n k a d e h m j c) K:=by
  refine nI (fun _ _=>.nn) fun m ih j c=>.lp (Ea ..) ?_
  unfold dm
  refine .st (aV ..) (.cj ?_ ?_)
  ·refine .sp (fun z=>?_) (fun _=>?_)
   ·refine .st (v:=(A.ep 2 5 0)) (by rw[Oe z]; kernel_rfl) (.s (pt 0 0) (.s2 (bL 3 0 c.length false) (.s (pt 0 0) (.s (iA a.kind) (.s (ag [(iA 1),(iA a.kind),se,N3]) (.s (im [[(iA 1),(iA a.kind),se,(im [] false)]] true) (.bd (g:=fun (y:List af)=>((bL 3 0 y.length false),[bx (aq a),bx [(iA d),(iA e),(sA h),(bL 3 0 c.length false)],aw.row true 1 [[(pt 0 0)],[(pt 0 1)],[(pt 0 2)],[(pt 0 3)],[(pt 0 4)],[(pt 0 0)],[(pt 0 5)],[(pt 0 6)],[(pt 0 7)]],aw.row false 4 (y.map ak)])) (bS ew (l:=c) (l2:=[(af.mk 1 a.kind jv ([]))]) (b:=3) rfl (by decide) (gI (f:=ak) (l:=([(af.mk 1 a.kind jv ([]))]:List af)) y6)) fun o=>.s (pt 1 3) (.sh (.st (az ..) (.s [bx (aq a),bx [(iA d),(iA e),(sA h),(bL 3 0 o.length false)],aw.row true 1 [[(pt 0 0)],[(pt 0 1)],[(pt 0 2)],[(pt 0 3)],[(pt 0 4)],[(pt 0 0)],[(pt 0 5)],[(pt 0 6)],[(pt 0 7)]],aw.row false 4 (o.map ak)] (.cT r8 ?_)))))))))))
    exact ih _ _
   refine .sp (fun a0=>?_) (fun _=>?_)
   ·refine .st (v:=(A.ep 2 6 0)) (by rw[Oe a0]; kernel_rfl) (.s (pt 0 5) (.s2 (bL 3 0 c.length false) (.s (pt 0 5) (.s (iA a.report.Role) (.s (ag [(iA 1),(iA a.report.Role),se,N3]) (.s (im [[(iA 1),(iA a.report.Role),se,(im [] false)]] true) (.bd (g:=fun (y:List af)=>((bL 3 0 y.length false),[bx (aq a),bx [(iA d),(iA e),(sA h),(bL 3 0 c.length false)],aw.row true 1 [[(pt 0 0)],[(pt 0 1)],[(pt 0 2)],[(pt 0 3)],[(pt 0 4)],[(pt 0 0)],[(pt 0 5)],[(pt 0 6)],[(pt 0 7)]],aw.row false 4 (y.map ak)])) (bS ew (l:=c) (l2:=[(af.mk 1 a.report.Role jv ([]))]) (b:=3) rfl (by decide) (gI (f:=ak) (l:=([(af.mk 1 a.report.Role jv ([]))]:List af)) y6)) fun p=>.s (pt 1 3) (.sh (.st (az ..) (.s [bx (aq a),bx [(iA d),(iA e),(sA h),(bL 3 0 p.length false)],aw.row true 1 [[(pt 0 0)],[(pt 0 1)],[(pt 0 2)],[(pt 0 3)],[(pt 0 4)],[(pt 0 0)],[(pt 0 5)],[(pt 0 6)],[(pt 0 7)]],aw.row false 4 (p.map ak)] (.cT r8 ?_)))))))))))
    exact ih _ _
   refine .sp (fun a1=>?_) (fun _=>?_)
   ·refine .st (v:=(A.ep 2 7 0)) (by rw[Oe a1]; kernel_rfl) (.s (pt 0 6) (.s2 (bL 3 0 c.length false) (.s (pt 0 6) (.s (iA a.report.Bar) (.s (ag [(iA 1),(iA a.report.Bar),se,N3]) (.s (im [[(iA 1),(iA a.report.Bar),se,(im [] false)]] true) (.bd (g:=fun (y:List af)=>((bL 3 0 y.length false),[bx (aq a),bx [(iA d),(iA e),(sA h),(bL 3 0 c.length false)],aw.row true 1 [[(pt 0 0)],[(pt 0 1)],[(pt 0 2)],[(pt 0 3)],[(pt 0 4)],[(pt 0 0)],[(pt 0 5)],[(pt 0 6)],[(pt 0 7)]],aw.row false 4 (y.map ak)])) (bS ew (l:=c) (l2:=[(af.mk 1 a.report.Bar jv ([]))]) (b:=3) rfl (by decide) (gI (f:=ak) (l:=([(af.mk 1 a.report.Bar jv ([]))]:List af)) y6)) fun q=>.s (pt 1 3) (.sh (.st (az ..) (.s [bx (aq a),bx [(iA d),(iA e),(sA h),(bL 3 0 q.length false)],aw.row true 1 [[(pt 0 0)],[(pt 0 1)],[(pt 0 2)],[(pt 0 3)],[(pt 0 4)],[(pt 0 0)],[(pt 0 5)],[(pt 0 6)],[(pt 0 7)]],aw.row false 4 (q.map ak)] (.cT r8 ?_)))))))))))
    exact ih _ _
   refine .sp (fun a2=>?_) (fun _=>?_)
   ·refine .st (v:=(A.ep 2 8 0)) (by rw[Oe a2]; kernel_rfl) (.s (pt 0 7) (.s2 (bL 3 0 c.length false) (.s (pt 0 7) (.s (iA a.report.Program) (.s (ag [(iA 1),(iA a.report.Program),se,N3]) (.s (im [[(iA 1),(iA a.report.Program),se,(im [] false)]] true) (.bd (g:=fun (y:List af)=>((bL 3 0 y.length false),[bx (aq a),bx [(iA d),(iA e),(sA h),(bL 3 0 c.length false)],aw.row true 1 [[(pt 0 0)],[(pt 0 1)],[(pt 0 2)],[(pt 0 3)],[(pt 0 4)],[(pt 0 0)],[(pt 0 5)],[(pt 0 6)],[(pt 0 7)]],aw.row false 4 (y.map ak)])) (bS ew (l:=c) (l2:=[(af.mk 1 a.report.Program jv ([]))]) (b:=3) rfl (by decide) (gI (f:=ak) (l:=([(af.mk 1 a.report.Program jv ([]))]:List af)) y6)) fun r=>.s (pt 1 3) (.sh (.st (az ..) (.s [bx (aq a),bx [(iA d),(iA e),(sA h),(bL 3 0 r.length false)],aw.row true 1 [[(pt 0 0)],[(pt 0 1)],[(pt 0 2)],[(pt 0 3)],[(pt 0 4)],[(pt 0 0)],[(pt 0 5)],[(pt 0 6)],[(pt 0 7)]],aw.row false 4 (r.map ak)] (.cT r8 ?_)))))))))))
    exact ih _ _
   exact .nn
  exact .ex (t _ _ _ _ _ _ _)
def Iw (n:Nat) (a:aC):Option (List UInt8):=
 bif (a.kind==1) then ((gR n 5 a 3 0 jv (n+8) 0 (([]:List af))).bind fun b=>match b with | c=>(EF ((af.mk 3 0 jv c))).bind fun d=>some d.1) else ((dm n 4 a 3 0 jv (n+8) 0 (([]:List af))).bind fun e=>match e with | f=>(EF ((af.mk 3 0 jv f))).bind fun g=>some g.1)
theorem Mw (C:OT) (n:Nat) (e:DW C) (d:aC):TJ C n 26 [(ag (aq d))] (Iw n d) (fun y=>(im (y.map c8) false)):=by
 refine .lp (M0 ..) ?_
 unfold Iw
 refine .s ((pt 0 0),[bx (aq d)]) (.s (ag [(iA 3),(iA 0),se,N3]) (.sq (pt 1 0) (.sh (.cl ((aO Er).trans (Lx ..)) (.s (pt 0 0) (.s (pt 0 0) (.s (pt 0 0) (.s (pt 0 1) (.s (pt 0 1) (.s (pt 0 0) (.s (pt 0 1) (.s (pt 0 2) (.s (pt 0 0) (.s (pt 0 1) (.s (pt 0 3) (.s (pt 0 0) (.s (pt 0 1) (.s (pt 0 4) (.s (pt 0 0) (.s (pt 0 0) (.s (pt 0 0) (.s (pt 0 5) (.s (pt 0 5) ?_)))))))))))))))))))))))
 refine .s (pt 0 0) (.s (pt 0 5) (.s (pt 0 6) (.s (pt 0 0) (.s (pt 0 5) (.s (pt 0 7) (.s (ag [(pt 0 0),(pt 0 1),(pt 0 2),(pt 0 3),(pt 0 4),(pt 0 0),(pt 0 5),(pt 0 6),(pt 0 7)]) (.cT r8 (.sq (A.ep 2 0 0) (.s [bx (aq d),bx [(iA 3),(iA 0),se,N3],aw.row true 1 [[(pt 0 0)],[(pt 0 1)],[(pt 0 2)],[(pt 0 3)],[(pt 0 4)],[(pt 0 0)],[(pt 0 5)],[(pt 0 6)],[(pt 0 7)]]] (.s (pt 0 0) (.s2 (iA d.kind) (.st (bt ..) (.cj ?_ ?_)))))))))))))
 ·refine .s (bL 2 0 5 false) (.cr (.ok (.s (iA 5) (.as (Ai C n _ _ _ _ 5 d 3 0 jv ?_ _ 0 (([]:List af)))))))
  ·intro a i j k o w120 w121
   exact .un rfl (.cT r8 (.s (ag [(iA 3),(iA 0),se,(bL 3 0 a.length false)]) (.bd (g:=fun (y:((List UInt8)×Int))=>(tp [(im (y.1.map c8) false),(iA y.2)])) (by show C 58 [snap [w120,bx [(iA 3),(iA 0),se,(bL 3 0 a.length false)],w121,aw.row false 4 (a.map ak)] (ag [(iA 3),(iA 0),se,(bL 3 0 a.length false)])]=_; simp only[dQ,gb,cG (H:=[w120,bx [(iA 3),(iA 0),se,(bL 3 0 a.length false)],w121,aw.row false 4 (a.map ak)]) (b:=3) (es:=4) (l:=a) cg rfl]; exact e ((af.mk 3 0 jv a))) fun f=>.s (im (f.1.map c8) false) (.s (iA f.2) (.lv u3)))))
 refine .s (bL 2 5 4 true) (.cr (.ok (.s (iA 4) (.as (yO C n _ _ _ _ 4 d 3 0 jv ?_ _ 0 (([]:List af)))))))
 ·intro c p q r t w236 w237
  exact .un rfl (.cT r8 (.s (ag [(iA 3),(iA 0),se,(bL 3 0 c.length false)]) (.bd (g:=fun (y:((List UInt8)×Int))=>(tp [(im (y.1.map c8) false),(iA y.2)])) (by show C 58 [snap [w236,bx [(iA 3),(iA 0),se,(bL 3 0 c.length false)],w237,aw.row false 4 (c.map ak)] (ag [(iA 3),(iA 0),se,(bL 3 0 c.length false)])]=_; simp only[dQ,gb,cG (H:=[w236,bx [(iA 3),(iA 0),se,(bL 3 0 c.length false)],w237,aw.row false 4 (c.map ak)]) (b:=3) (es:=4) (l:=c) cg rfl]; exact e ((af.mk 3 0 jv c))) fun h=>.s (im (h.1.map c8) false) (.s (iA h.2) (.lv u3)))))
def FN (a:aC):Option (List UInt8):=Iw aE a
def uH (C:OT):Prop:=∀ (a:aC),C 26 [(ag (aq a))]=(FN a).map fun y=>(im (y.map c8) false)
def lI (a:(List av)) (b:bq):aw:=bx [(bL 3 0 a.length false),(im (b.Apart.map ai) false)]
def oO (a:bq):aw:=bx [(im (a.Queue.map ah) false),(im (a.Apart.map ai) false)]
def Iv (n:Nat) (a:bq) (b:av):Option (bq×Int):=
 (FO a).bind fun c=>(bif (c != 0) then (some true) else ((FP b).bind fun d=>some (!d))).bind fun e=>bif e then (some (((bq.mk ([]) ([])),60))) else (bif (((a.Queue.length:Int))==4096) then (some (((bq.mk ([]) ([])),2))) else ((gD a.Queue 0 ((a.Queue.length:Int))).bind fun f=>(cO 40 f ([b])).bind fun g=>some (((bq.mk g a.Apart),0))))
theorem Mv (C:OT) (n:Nat) (o:zO C) (p:zU C) (c:bq) (d:av):TJ C n 25 [(ag [(im (c.Queue.map ah) false),(im (c.Apart.map ai) false)]),(ag (ah d))] (Iv n c d) (fun y=>(tp [(ag [(im (y.1.Queue.map ah) false),(im (y.1.Apart.map ai) false)]),(iA y.2)])):=by
 refine .lp (MZ ..) ?_
 unfold Iv
 refine .s ((pt 0 0),[(oO c)]) (.s ((pt 1 0),[(oO c),bx (ah d)]) (.s ((pt 2 0),[(oO c),bx (ah d),bx [N3,N3]]) (.s (ag [(im (c.Queue.map ah) false),(im (c.Apart.map ai) false)]) (.bd (g:=fun (y:Int)=>(iA y)) (by simp only[dQ,gb]; exact o c) fun u=>.st (aB ..) (.bg (fun t (y:Bool)=>∃ i j k:A,t=[(bA y),i,j,k]) ?_ ?_)))))
 ·refine .bi ?_ ?_
  ·exact .lg ⟨_,_,_,rfl⟩
  exact .s (ag (ah d)) (.bd (g:=fun (y:Bool)=>(bA y)) (by simp only[dQ,gb]; exact p d) fun q=>.s (bA (!q)) (.lg ⟨_,_,_,rfl⟩))
 rintro _ v ⟨i,j,k,rfl⟩
 refine .u4 (.cj ?_ ?_)
 ·exact .s (ag [N3,N3]) (.s [(oO c),bx (ah d),bx [N3,N3]] (.s (ag [N3,N3]) (.lv u3)))
 refine .s2 (im (c.Queue.map ah) false) (.st (dV (e:=48)) (.st (bt ..) (.cj ?_ ?_)))
 ·exact .s (ag [N3,N3]) (.s [(oO c),bx (ah d),bx [N3,N3]] (.s (ag [N3,N3]) (.lv u3)))
 exact .s2 (im (c.Queue.map ah) false) (.s2 (im (c.Queue.map ah) false) (.st (dV (e:=48)) (.s2 (im (c.Queue.map ah) false) (.st (dV (e:=48)) (.bd (nH (e:=48) (es:=3) (f:=ah) (l:=c.Queue) (a:=0) (b:=(c.Queue.length:Int)) r8 r8 (fun _=>rfl) (.inl ⟨rfl,rfl⟩)) fun r=>.s (ag (ah d)) (.s (im [[(iA d.From),(iA d.To),(im (d.Data.map c8) false)]] true) (.bd (g:=fun (y:List av)=>((bL 3 0 y.length false),[(oO c),bx (ah d),bx [N3,N3],aw.row false 3 (y.map ah)])) (tq Cm (l:=r) (l2:=[d]) (bN (f:=ah) ([d]:List av) _ _)) fun h=>.s (pt 0 0) (.sh (.s (ag [(bL 3 0 h.length false),(im (c.Apart.map ai) false)]) (.s [(lI h c),bx (ah d),(lI h c),aw.row false 3 (h.map ah)] (.s (ag [(bL 3 0 h.length false),(im (c.Apart.map ai) false)]) (.lv (by show bR [(lI h c),bx (ah d),(lI h c),aw.row false 3 (h.map ah)] (tp [(ag [(bL 3 0 h.length false),(im (c.Apart.map ai) false)]),(iA 0)])=_; first | (simp only[dQ,gb,bR,dN (H:=[(lI h c),bx (ah d),(lI h c),aw.row false 3 (h.map ah)]) (b:=3) (es:=3) (wr:=false) (l:=h) cp rfl]; done) | (simp only[dQ,og,bR,dN (H:=[(lI h c),bx (ah d),(lI h c),aw.row false 3 (h.map ah)]) (b:=3) (es:=3) (wr:=false) (l:=h) cp rfl]; first | done | rfl))))))))))))))
def FM (a:bq) (b:av):Option (bq×Int):=Iv aE a b
def uG (C:OT):Prop:=∀ (a:bq) (b:av),C 25 [(ag [(im (a.Queue.map ah) false),(im (a.Apart.map ai) false)]),(ag (ah b))]=(FM a b).map fun y=>(tp [(ag [(im (y.1.Queue.map ah) false),(im (y.1.Apart.map ai) false)]),(iA y.2)])
abbrev fU:A:=(ag [N3,N3,N3,(iA 0)])
def F9 (n:Nat) (a:al) (b:bM):Option (al×Int):=
 (DK a).bind fun d=>bif (d != 0) then (some (((al.mk ((bq.mk ([]) ([]))) ([]) 0),d))) else ((EE b ((a.Ears.length:Int))).bind fun e=>bif (!e) then (some (((al.mk ((bq.mk ([]) ([]))) ([]) 0),1))) else ((FN ((aC.mk 1 b ((ba.mk 0 0 0))))).bind fun f=>(FM a.Net ((av.mk 0 (wr .i64 (b.Role+1)) f))).bind fun c=>bif (c.2 != 0) then (some (((al.mk ((bq.mk ([]) ([]))) ([]) 0),c.2))) else (some (((al.mk c.1 a.Ears a.Bar),0)))))
theorem T9 (C:OT) (n:Nat) (f:xM C) (h:rX C) (i:uG C) (j:uH C) (a:al) (c:bM):TJ C n 9 [(ag (aa a)),(ag (aD c))] (F9 n a c) (fun y=>(tp [(ag (aa y.1)),(iA y.2)])):=by
 refine .lp (e9 ..) ?_
 unfold F9
 refine .s ((pt 0 0),[bx (aa a)]) (.sq (pt 1 0) (.s ((pt 2 0),[bx (aa a),bx (aD c),bx [N3,N3,N3,(iA 0)]]) (.s (ag (aa a)) (.bd (g:=fun (y:Int)=>(iA y)) (by simp only[dQ,gb]; exact f a) fun l=>.st (aB ..) (.cj ?_ ?_)))))
 ·exact .s fU (.s [bx (aa a),bx (aD c),bx [N3,N3,N3,(iA 0)]] (.s fU (.lv u3)))
 refine .s (ag (aD c)) (.s2 (im (a.Ears.map aj) false) (.st (dV (e:=55)) (.bd (h c ((a.Ears.length:Int))) fun k=>.s (bA (!k)) (.cj ?_ ?_))))
 ·exact .s fU (.s [bx (aa a),bx (aD c),bx [N3,N3,N3,(iA 0)]] (.s fU (.lv u3)))
 refine .s (pt 0 0) (.s (ag [(im (a.Net.Queue.map ah) false),(im (a.Net.Apart.map ai) false)]) (.s (pt 1 1) (.s (iA c.Role) (.st (az ..) (.s (ag (aD c)) (.s (ag ([(iA 1)]++aD c++[(iA 0),(iA 0),(iA 0)])) (.bd (j ((aC.mk 1 c ((ba.mk 0 0 0))))) fun d=>.s (ag [(iA 0),(iA (wr .i64 (c.Role+1))),(im (d.map c8) false)]) (.bd (g:=fun (y:(bq×Int))=>(tp [(ag [(im (y.1.Queue.map ah) false),(im (y.1.Apart.map ai) false)]),(iA y.2)])) (by simp only[dQ,gb]; exact i a.Net ((av.mk 0 (wr .i64 (c.Role+1)) d))) fun b=>.s (ag [(im (b.1.Queue.map ah) false),(im (b.1.Apart.map ai) false)]) (.s (iA b.2) (.cT r8 (.sq (pt 3 0) (.s [bx (aa a),bx (aD c),bx [N3,N3,N3,(iA 0)],bx [(im (b.1.Queue.map ah) false),(im (b.1.Apart.map ai) false)]] (.st (aB ..) (.cj ?_ ?_))))))))))))))
 ·exact .s fU (.s [bx (aa a),bx (aD c),bx [N3,N3,N3,(iA 0)],bx [(im (b.1.Queue.map ah) false),(im (b.1.Apart.map ai) false)]] (.s fU (.lv u3)))
 exact .s (ag [(im (b.1.Queue.map ah) false),(im (b.1.Apart.map ai) false)]) (.s (pt 0 0) (.sh (.s (ag [(im (b.1.Queue.map ah) false),(im (b.1.Apart.map ai) false),(im (a.Ears.map aj) false),(iA a.Bar)]) (.s [bx [(im (b.1.Queue.map ah) false),(im (b.1.Apart.map ai) false),(im (a.Ears.map aj) false),(iA a.Bar)],bx (aD c),bx [(im (b.1.Queue.map ah) false),(im (b.1.Apart.map ai) false),(im (a.Ears.map aj) false),(iA a.Bar)],bx [(im (b.1.Queue.map ah) false),(im (b.1.Apart.map ai) false)]] (.s (ag [(im (b.1.Queue.map ah) false),(im (b.1.Apart.map ai) false),(im (a.Ears.map aj) false),(iA a.Bar)]) (.lv u3))))))
def G9 (a:al) (b:bM):Option (al×Int):=F9 aE a b
def Gm (C:OT):Prop:=∀ (a:al) (b:bM),C 9 [(ag (aa a)),(ag (aD b))]=(G9 a b).map fun y=>(tp [(ag (aa y.1)),(iA y.2)])
def Ic:List ((al×Int)×(al×Int)):=[((⟨⟨[],[]⟩,[⟨[],[],[]⟩,⟨[],[],[]⟩],0⟩,0),(⟨⟨[],[]⟩,[],0⟩,1)),
 ((⟨⟨[⟨2,0,[3,4,1,4,1,2,1,0,1,0]⟩],[]⟩,[⟨[],[3],[3]⟩,⟨[],[0],[0]⟩],1⟩,0),(⟨⟨[⟨2,0,[3,4,1,4,1,2,1,0,1,0]⟩,⟨1,0,[3,4,1,4,1,0,1,0,1,6]⟩],[]⟩,[⟨[],[3],[3]⟩,⟨[],[0],[0]⟩],1⟩,0))]
def IM (a:al) (b:Int):Option (al×Int):=BX Ic (a,b)
def DR (C:OT):Prop:=∀ (a:al) (b:Int),C 21 [(ag (aa a)),(iA b)]=(IM a b).map fun y=>(tp [(ag (aa y.1)),(iA y.2)])
def iL (n:Nat) (b:(List Int)) (c:Int) (d:Int):Nat->Int->Option ((Int)⊕(Unit))
 | 0,_=>none
 | m+1,a=>bif (decide (a<d)) then ((bl b a).bind fun e=>bif (c==e) then (some ((Sum.inl a))) else (iL n b c d m (wr .i64 (a+1)))) else (some ((Sum.inr (()))))
theorem Aq {w24:A} (g:(List Int)) (h:Int) (i:Int) {K:((Int)⊕(Unit))->Option γ} (k:∀ (j:Int) (a:A) (b:A) (c:A) (d:A),J φ (kr (St.mk [(0,a),(1,b),(4,(iA j)),(7,c),(8,d)] [])) kL (K (Sum.inl j)) some) (l:∀ (a:A) (b:A) (o:A) (c:A) (d:A),J φ (kx 0 (St.mk [(0,a),(1,b),(4,o),(7,c),(8,d)] [])) kL (K (Sum.inr (()))) some) :
  ∀ (m:Nat) (f:Int),J φ (aA (cx C) (ec C n 8) (ey C n 8) (n+8) 77 0 0 0 kx kg kr kp m (St.mk [(0,(im (g.map (cI .i64)) false)),(1,(iA h)),(4,w24),(7,(iA i)),(8,(iA f))] [])) kL (iL n g h i m f) K:=by
  refine nI (fun _=>.nn) fun m ih f=>.lp (GS ..) ?_
  unfold iL
  refine .st (aV ..) (.cj ?_ ?_)
  ·refine .bd (eR (e:=3) (es:=1)) fun p=>.s (iA p) (.st (bt ..) (.cj ?_ ?_))
   ·exact .ex (k _ _ _ _ _)
   refine .st (az ..) (.s [] (.cT r8 ?_))
   exact ih _
  exact .ex (l _ _ _ _ _)
def IJ (n:Nat) (a:(List Int)) (b:Int):Option Int:=
 (iL n a b ((a.length:Int)) (n+8) 0).bind fun c=>match c with | (Sum.inl d)=>some d | (Sum.inr _)=>some (-1)
theorem MM (C:OT) (n:Nat) (a:(List Int)) (b:Int):TJ C n 77 [(im (a.map (cI .i64)) false),(iA b)] (IJ n a b) (fun y=>(iA y)):=by
 refine .lp (Nl ..) ?_
 unfold IJ
 refine .st (dV (e:=3)) (.as (Aq C n _ _ _ _ a b ((a.length:Int)) ?_ ?_ _ 0))
 ·intro c d f g h
  exact .un rfl (.lv rfl)
 ·intro i j k l o
  exact .un rfl (.cT r8 (.lv rfl))
def IU (a:(List Int)) (b:Int):Option Int:=IJ aE a b
def DZ (C:OT):Prop:=∀ (a:(List Int)) (b:Int),C 77 [(im (a.map (cI .i64)) false),(iA b)]=(IU a b).map fun y=>(iA y)
def IB (n:Nat) (a:(List Int)) (b:Int):Option Bool:=
 (IU a b).bind fun c=>some (decide (0<=c))
theorem MC (C:OT) (n:Nat) (c:DZ C) (a:(List Int)) (b:Int):TJ C n 48 [(im (a.map (cI .i64)) false),(iA b)] (IB n a b) (fun y=>(bA y)):=by
 refine .lp (M7 ..) ?_
 unfold IB
 exact .bd (g:=fun (y:Int)=>(iA y)) (by simp only[dQ,gb]; exact c a b) fun d=>.st (fe ..) (.lv rfl)
def Ge (a:(List Int)) (b:Int):Option Bool:=IB aE a b
def zR (C:OT):Prop:=∀ (a:(List Int)) (b:Int),C 48 [(im (a.map (cI .i64)) false),(iA b)]=(Ge a b).map fun y=>(bA y)
def IC (n:Nat) (b:(List Int)) (c:Int):Option (List Int):=
 (Br 8 (wr .i64 (((b.length:Int))+1)) 0).bind fun a=>(lJ a.length ((b.length:Int))).bind fun k2=>(vQ ((pv a 0 a.length b)) k2 (fun (y:Int)=>c)).bind fun d=>some ((List.take a.length (List.drop 0 d)))
theorem MD (C:OT) (n:Nat) (c:(List Int)) (h:Int):TJ C n 49 [(im (c.map (cI .i64)) false),(iA h)] (IC n c h) (fun y=>(im (y.map (cI .i64)) false)):=by
 refine .lp (M8 ..) ?_
 unfold IC
 exact .st (dV (e:=3)) (.st (az ..) (.bd (g:=fun (y:List Int)=>((bL 0 0 y.length false),[aw.row true 1 (y.map (cI .i64))])) (sV (e:=3) (es:=1) (f:=(cI .i64)) (z:=0) (z':=[(iA 0)]) r8 r8 r8 r8 rfl (by decide) (fun _=>rfl)) fun a=>.st (v:=((iA (((min c.length a.length:Nat):Int))),[aw.row true 1 (List.map (cI .i64) ((pv a 0 a.length c)))])) (zG (e:=3) (es:=1) (f:=(cI .i64)) (l:=a) (l2:=c) r8 r8 (by decide) (fun _=>rfl) (D6 _) (by decide) rfl (bN ..)) (.st (dV (e:=3)) (.bd (g:=fun (y:Nat)=>A.ep 0 y 0) (fD (e:=3) (es:=1) (l:=(pv a 0 a.length c)) r8 r8 rfl) fun k2=>.bd (g:=fun (y:List Int)=>[aw.row true 1 (y.map (cI .i64))]) ((rD (es:=1) (n:=1) (l:=(pv a 0 a.length c)) (xs:=[(iA h)]) (u:=fun (y:Int)=>h) r8 r8 (by decide) rfl (fun _=>rfl) (by decide) (by decide) rfl (fun _=>rfl))) fun d=>.lv (by show bR [aw.row true 1 (d.map (cI .i64))] (bL 0 0 a.length false)=_; first | (simp only[dQ,gb,bR,rm (H:=[aw.row true 1 (d.map (cI .i64))]) (b:=0) (es:=1) (wr:=true) (l:=d) (eZ _) rfl]; done) | (simp only[dQ,og,bR,rm (H:=[aw.row true 1 (d.map (cI .i64))]) (b:=0) (es:=1) (wr:=true) (l:=d) (eZ _) rfl]; first | done | rfl))))))
def DL (a:(List Int)) (b:Int):Option (List Int):=IC aE a b
def zS (C:OT):Prop:=∀ (a:(List Int)) (b:Int),C 49 [(im (a.map (cI .i64)) false),(iA b)]=(DL a b).map fun y=>(im (y.map (cI .i64)) false)
def Jz (n:Nat) (a:al) (b:Int) (a2:(List Int)):Option ((List Int)×al×Int):=
 some ((a2,a,b))
theorem ME (C:OT) (n:Nat) (a:al) (b:Int) (a2:(List Int)):TJ C n 51 [(ag (aa a)),(iA b),(im (a2.map (cI .i64)) false)] (Jz n a b a2) (fun y=>(rK 78 [] [(A.ip [(im (y.1.map (cI .i64)) false)]),(A.ip (aa y.2.1)),(A.ip [(iA y.2.2)])])):=by
 refine .lp (Na ..) ?_
 unfold Jz
 exact .s ((pt 0 0),[bx (aa a)]) (.s ((pt 1 0),[bx (aa a),bx [(iA b)]]) (.s ((pt 2 0),[bx (aa a),bx [(iA b)],bx [(im (a2.map (cI .i64)) false)]]) (.lv (Po (rK 78 []) (AM (pb (f:=(cL (cI .i64))) (kJ (eZ _)) (fun _=>rfl) (a2:(List Int)) rfl rfl) (AM (pb (f:=aa) fp (fun _=>rfl) (a:al) rfl rfl) (AM (pb (f:=(cI .i64)) (eZ _) (fun _=>rfl) (b:Int) rfl rfl) rfl)))))))
def IP (a:al) (b:Int) (a2:(List Int)):Option ((List Int)×al×Int):=Jz aE a b a2
def DV (C:OT):Prop:=∀ (a:al) (b:Int) (a2:(List Int)),C 51 [(ag (aa a)),(iA b),(im (a2.map (cI .i64)) false)]=(IP a b a2).map fun y=>(rK 78 [] [(A.ip [(im (y.1.map (cI .i64)) false)]),(A.ip (aa y.2.1)),(A.ip [(iA y.2.2)])])
def bo (a:(List av)) (b:(List (Int×Int))) (c:(List aG)) (d:Int):aw:=bx [(im (a.map ah) true),(im (b.map ai) true),(im (c.map aj) true),(iA d)]
def b6 (a:(List av)) (b:(List (Int×Int))) (c:(List aG)) (d:Int):aw:=bx [(im (a.map ah) false),(im (b.map ai) false),(bL 5 0 c.length false),(iA d)]
def oN (a:al) (b:(List aG)):aw:=bx [(im (a.Net.Queue.map ah) false),(im (a.Net.Apart.map ai) false),(bL 5 0 b.length false),(iA (wr .i64 (a.Bar+1)))]
def lH (a:(List av)) (b:(List (Int×Int))) (c:(List aG)) (d:al):aw:=bx [(im (a.map ah) false),(im (b.map ai) false),(bL 5 0 c.length false),(iA (wr .i64 (d.Bar+1)))]
def mf (a:Int×Int×(List UInt8)):aw:=bx [(iA a.1),(iA a.2.1),(im (a.2.2.map c8) false)]
def jz (n:Nat) (b:Int) (c:(List Int)) (d:Int) (f:(List av)) (g:(List (Int×Int))) (h:(List aG)) (i:Int):Nat->Int->Int->Option ((Int)⊕(Unit))
 | 0,_,_=>none
 | m+1,j,a=>bif (decide (a<d)) then ((bl c a).bind fun e=>(wz e (wr .i64 (j+1)) (wr .i64 (b - 1))).bind fun k=>bif (!k) then (some ((Sum.inl 1))) else (jz n b c d f g h i m e (wr .i64 (a+1)))) else (some ((Sum.inr (()))))
theorem Aa (t:my C) {w162 w163 w164 w165:A} {w166:aw} (f:Int) (o:(List Int)) (p:Int) (a:(List av)) (b:(List (Int×Int))) (c:(List aG)) (d:Int) {K:((Int)⊕(Unit))->Option γ} (u:∀ (q:Int) (v:A) (s2:A) (w:A) (x:A) (h:A) (i:A) (j:A) (k:A),J φ (kr (St.mk [(1,v),(2,s2),(3,w),(6,(pt 1 0)),(7,(iA q)),(8,x),(9,h),(33,i),(34,j),(35,k)] [w166,(bo a b c d)])) kL (K (Sum.inl q)) some) (y:∀ (h:A) (i:A) (j:A) (k:A),J φ (kx 0 (St.mk [(1,w162),(2,w163),(3,w164),(6,(pt 1 0)),(7,w165),(8,(iA f)),(9,h),(33,i),(34,j),(35,k)] [w166,(bo a b c d)])) kL (K (Sum.inr (()))) some) :
  ∀ (m:Nat) (g:Int) (l:Int),J φ (aA (cx C) (ec C n 8) (ey C n 8) (n+8) 19 0 0 2 kx kg kr kp m (St.mk [(1,w162),(2,w163),(3,w164),(6,(pt 1 0)),(7,w165),(8,(iA f)),(9,(iA g)),(33,(im (o.map (cI .i64)) false)),(34,(iA p)),(35,(iA l))] [w166,(bo a b c d)])) kL (jz n f o p a b c d m g l) K:=by
  refine nI (fun _ _=>.nn) fun m ih g l=>.lp (GH ..) ?_
  unfold jz
  refine .st (aV ..) (.cj ?_ ?_)
  ·refine .bd (eR (e:=3) (es:=1)) fun r=>.s (iA r) (.st (az ..) (.st (kS ..) (.bd (t r (wr .i64 (g+1)) (wr .i64 (f - 1))) fun z=>.s (bA (!z)) (.cj ?_ ?_))))
   ·exact .s (ag [(im (a.map ah) true),(im (b.map ai) true),(im (c.map aj) true),(iA d)]) (.s [w166,(bo a b c d)] (.ex (u _ _ _ _ _ _ _ _ _)))
   refine .st (az ..) (.s [w166,(bo a b c d)] (.cT r8 ?_))
   exact ih _ _
  exact .ex (y _ _ _ _)
def jA (n:Nat) (c:(List Int)) (d:(List Int)) (e:Int) (f:(List av)) (g:(List (Int×Int))) (h:(List aG)) (i:Int):Nat->Int->Option ((Int)⊕(Unit))
 | 0,_=>none
 | m+1,a=>bif (decide (a<e)) then ((bl d a).bind fun b=>(wz b 0 a).bind fun j=>(bif (!j) then (some true) else ((bl c b).bind fun k=>some (k != b))).bind fun l=>bif l then (some ((Sum.inl 1))) else (jA n c d e f g h i m (wr .i64 (a+1)))) else (some ((Sum.inr (()))))
theorem Ab (z:my C) {w367 w368 w369 w370:A} {w371:aw} (g:(List Int)) (k:(List Int)) (l:Int) (a:(List av)) (b:(List (Int×Int))) (c:(List aG)) (d:Int) {K:((Int)⊕(Unit))->Option γ} (x0:∀ (o:Int) (s1:A) (s2:A) (s3:A) (s8:A) (h:A) (i:A) (j:A),J φ (kr (St.mk [(1,s1),(2,s2),(3,s3),(6,(pt 1 0)),(7,(iA o)),(8,s8),(54,h),(55,i),(56,j)] [w371,(bo a b c d)])) kL (K (Sum.inl o)) some) (x1:∀ (h:A) (i:A) (j:A),J φ (kx 2 (St.mk [(1,w367),(2,(im (g.map (cI .i64)) false)),(3,w368),(6,(pt 1 0)),(7,w369),(8,w370),(54,h),(55,i),(56,j)] [w371,(bo a b c d)])) kL (K (Sum.inr (()))) some) :
  ∀ (m:Nat) (f:Int),J φ (aA (cx C) (ec C n 8) (ey C n 8) (n+8) 19 0 1 2 kx kg kr kp m (St.mk [(1,w367),(2,(im (g.map (cI .i64)) false)),(3,w368),(6,(pt 1 0)),(7,w369),(8,w370),(54,(im (k.map (cI .i64)) false)),(55,(iA l)),(56,(iA f))] [w371,(bo a b c d)])) kL (jA n g k l a b c d m f) K:=by
  refine nI (fun _=>.nn) fun m ih f=>.lp (GI ..) ?_
  unfold jA
  refine .st (aV ..) (.cj ?_ ?_)
  ·refine .bd (eR (e:=3) (es:=1)) fun p=>.s (iA p) (.bd (z p 0 f) fun a5=>.s (bA (!a5)) (.bg (fun t (y:Bool)=>∃ q r u v w x:A,t=[(bA y),q,r,u,v,w,x]) ?_ ?_))
   ·refine .bi ?_ ?_
    ·exact .lg ⟨_,_,_,_,_,_,rfl⟩
    exact .bd (eR (e:=3) (es:=1)) fun a6=>.s (iA a6) (.st (aB ..) (.lg ⟨_,_,_,_,_,_,rfl⟩))
   rintro _ a7 ⟨q,r,u,v,w,x,rfl⟩
   refine .u4 (.uc (.uc (.uc (.cj ?_ ?_))))
   ·exact .s (ag [(im (a.map ah) true),(im (b.map ai) true),(im (c.map aj) true),(iA d)]) (.s [w371,(bo a b c d)] (.ex (x0 _ _ _ _ _ _ _ _)))
   refine .st (az ..) (.s [w371,(bo a b c d)] (.cT r8 ?_))
   exact ih _
  exact .ex (x1 _ _ _)
def fI (n:Nat) (f:(List Int)) (b:(List Int)) (k:Int) (c:Nat) (g:(List aG)) (h:Int) (i:al) (l:(List av)) (o:(List (Int×Int))) (p:(List aG)) (q:Int):Nat->Int->(List Int)->(List (Int×Int))->(List Int)->Option (Nat×(List Int)×(List (Int×Int))×(List Int))
 | 0,_,_,_,_=>none
 | m+1,a,e,d,j=>bif (decide (a<h)) then ((bl g a).bind fun s=>(bif (decide (0<((s.Cues.length:Int)))) then ((bl s.Cues 0).bind fun v=>some (v.Bar==i.Bar)) else (some false)).bind fun w=>(bif w then ((Ge f a).bind fun x=>some (!x)) else (some false)).bind fun z=>bif z then ((bl s.Cues 0).bind fun a0=>(lJ c a).bind fun k1713=>(vQ e k1713 (fun (y:Int)=>a0.Program)).bind fun r=>(bl b a).bind fun t=>(bif ((getM d t).isSome) then ((lJ c a).bind fun k1717=>(r[k1717]?).bind fun a1=>some (((getM d t).getD 0) != a1)) else (some false)).bind fun a2=>bif a2 then ((bl b a).bind fun a3=>(cO 8 j ([a])).bind fun a4=>fI n f b k c g h i l o p q m (wr .i64 (a+1)) r (gi d a3 0) a4) else ((bl b a).bind fun a5=>(lJ c a).bind fun k1730=>(r[k1730]?).bind fun a6=>(cO 8 j ([a])).bind fun a7=>fI n f b k c g h i l o p q m (wr .i64 (a+1)) r (gi d a5 a6) a7)) else ((bl b a).bind fun u=>(bif ((getM d u).isSome) then ((lJ c a).bind fun k1735=>(e[k1735]?).bind fun a8=>some (((getM d u).getD 0) != a8)) else (some false)).bind fun a9=>bif a9 then ((bl b a).bind fun aa=>(cO 8 j ([a])).bind fun ab=>fI n f b k c g h i l o p q m (wr .i64 (a+1)) e (gi d aa 0) ab) else ((bl b a).bind fun ad=>(lJ c a).bind fun k1748=>(e[k1748]?).bind fun ae=>(cO 8 j ([a])).bind fun af=>fI n f b k c g h i l o p q m (wr .i64 (a+1)) e (gi d ad ae) af))) else (some ((c,e,d,j)))
theorem Ac (bl:zR C) (w:(List Int)) (a0:(List Int)) (ab:Int) (ai:Nat) (a1:(List aG)) (ak:Int) (c:al) (d:(List av)) (h:(List (Int×Int))) (i:(List aG)) (j:Int) {K:(Nat×(List Int)×(List (Int×Int))×(List Int))->Option γ} (x0:∀ (o0:Nat) (o1:(List Int)) (o2:(List (Int×Int))) (o3:(List Int)) (s1:A) (bp:A) (bq:A) (br:A),J φ (kx 4 (St.mk [(1,s1),(2,(im (a0.map (cI .i64)) false)),(3,(pt 0 0)),(6,(pt 1 0)),(7,(iA ab)),(14,(bL 2 0 o0 false)),(15,(A.mr 3)),(16,(bL 4 0 o3.length false)),(83,bp),(84,bq),(85,br)] [bx (aa c),(bo d h i j),aw.row true 1 (o1.map (cI .i64)),fq .i64 iA o2,aw.row false 1 (o3.map (cI .i64))])) kL (K (o0,o1,o2,o3)) some) :
  ∀ (m:Nat) (k:Int) (o:(List Int)) (a:(List (Int×Int))) (p:(List Int)),J φ (aA (cx C) (ec C n 8) (ey C n 8) (n+8) 19 0 2 5 kx kg kr kp m (St.mk [(1,(im (w.map (cI .i64)) false)),(2,(im (a0.map (cI .i64)) false)),(3,(pt 0 0)),(6,(pt 1 0)),(7,(iA ab)),(14,(bL 2 0 ai false)),(15,(A.mr 3)),(16,(bL 4 0 p.length false)),(83,(im (a1.map aj) false)),(84,(iA ak)),(85,(iA k))] [bx (aa c),(bo d h i j),aw.row true 1 (o.map (cI .i64)),fq .i64 iA a,aw.row false 1 (p.map (cI .i64))])) kL (fI n w a0 ab ai a1 ak c d h i j m k o a p) K:=by
  refine nI (fun _ _ _ _=>.nn) fun m ih k o a p=>.lp (GJ ..) ?_
  unfold fI
  refine .st (aV ..) (.cj ?_ ?_)
  ·refine .bd (eR (e:=55) (es:=3)) fun q=>.s (ag (aj q)) (.sq (pt 5 0) (.s [bx (aa c),(bo d h i j),aw.row true 1 (o.map (cI .i64)),fq .i64 iA a,aw.row false 1 (p.map (cI .i64)),bx (aj q)] (.s2 (im (q.Cues.map aD) false) (.st (dV (e:=30)) (.st (dh ..) (.bg (fun t (y:Bool)=>∃ ap aq ar au ay b0 b1 b2:A,t=[(bA y),ap,aq,ar,au,ay,b0,b1,b2]) ?_ ?_))))))
   ·refine .bi ?_ ?_
    ·exact .s (pt 5 0) (.s (im (q.Cues.map aD) false) (.bd (eR (e:=30) (es:=4)) fun ae=>.s (A.ip [(iA ae.Bar),(iA ae.Program)]) (.s (iA ae.Bar) (.s (pt 0 3) (.s (iA c.Bar) (.st (bt ..) (.lg ⟨_,_,_,_,_,_,_,_,rfl⟩)))))))
    exact .lg ⟨_,_,_,_,_,_,_,_,rfl⟩
   rintro _ c0 ⟨ap,aq,ar,au,ay,b0,b1,b2,rfl⟩
   refine .u4 (.u4 (.uc (.NL (.bg (fun t (y:Bool)=>∃ b3 b4:A,t=[(bA y),b3,b4]) ?_ ?_))))
   ·refine .FY (fun af=>?_) (fun af=>?_)
    ·exact .bb (.cr (.uc (.uc (.AB af (.bd (g:=fun (y:Bool)=>(bA y)) (by show C 48 [snap _ (im (w.map (cI .i64)) false),snap _ (iA k)]=_; simp only[dQ,gb,cG (H:=[bx (aa c),(bo d h i j),aw.row true 1 (o.map (cI .i64)),fq .i64 iA a,aw.row false 1 (p.map (cI .i64)),bx (aj q)]) (b:=4) (es:=1) (l:=p) (eZ _) rfl]; exact bl w k) fun bs=>.s (bA (!bs)) (.lg ⟨_,_,rfl⟩))))))
    exact .bb (.cr (.uc (.uc (.B7 af (.lg ⟨_,_,rfl⟩)))))
   rintro _ c1 ⟨b3,b4,rfl⟩
   refine .uc (.uc (.uc (.cj ?_ ?_)))
   ·refine .s2 (im (q.Cues.map aD) false) (.bd (eR (e:=30) (es:=4)) fun ah=>.s2 (iA ah.Program) (.bd (g:=fun (y:Nat)=>A.ep 2 y 0) (fD (e:=3) (es:=1) (l:=o) r8 r8 rfl) fun k1713=>.bd (g:=fun (y:List Int)=>[bx (aa c),(bo d h i j),aw.row true 1 (y.map (cI .i64)),fq .i64 iA a,aw.row false 1 (p.map (cI .i64)),bx (aj q)]) ((rD (es:=1) (n:=1) (l:=o) (xs:=[(iA ah.Program)]) (u:=fun (y:Int)=>ah.Program) r8 r8 (by decide) rfl (fun _=>rfl) (by decide) (by decide) rfl (fun _=>rfl))) fun r=>.bd (eR (e:=3) (es:=1)) fun a2=>.s (iA a2) (.st (v:=(tp [(iA ((getM a a2).getD 0)),(bA ((getM a a2).isSome))])) (Bt (vt:=3) (f:=iA) (l:=a) (z:=0) (v:=Value.int .i64 0) r8 rfl r8 rfl) (.s (iA ((getM a a2).getD 0)) (.s (bA ((getM a a2).isSome)) (.bg (fun t (y:Bool)=>∃ b5 b6 b7 b8 b9 ba:A,t=[(bA y),b5,b6,b7,b8,b9,ba]) ?_ ?_))))))
    ·refine .bi ?_ ?_
     ·exact .bd (g:=fun (y:Nat)=>A.ep 2 y 0) (fD (e:=3) (es:=1) (l:=r) r8 r8 rfl) fun k1717=>.bd (g:=fun (y:Int)=>(iA y)) (iG (es:=1) (n:=1) (l:=r) r8 (by decide) (fun _=>rfl) (by decide) rfl (fun _=>r8)) fun c2=>.st (aB ..) (.lg ⟨_,_,_,_,_,_,rfl⟩)
     exact .lg ⟨_,_,_,_,_,_,rfl⟩
    rintro _ c3 ⟨b5,b6,b7,b8,b9,ba,rfl⟩
    refine .u4 (.uc (.uc (.uc (.cj ?_ ?_))))
    ·refine .bd (eR (e:=3) (es:=1)) fun a4=>.s (iA a4) (.st (v:=[bx (aa c),(bo d h i j),aw.row true 1 (r.map (cI .i64)),fq .i64 iA (gi a a4 0),aw.row false 1 (p.map (cI .i64)),bx (aj q)]) (uf (vt:=3) (f:=iA) (l:=a) (x:=0) r8 rfl r8) (.s (im [[(iA k)]] true) (.bd (g:=fun (y:List Int)=>((bL 4 0 y.length false),[bx (aa c),(bo d h i j),aw.row true 1 (r.map (cI .i64)),fq .i64 iA (gi a a4 0),aw.row false 1 (y.map (cI .i64)),bx (aj q)])) (bS pN (l:=p) (l2:=[k]) (b:=4) rfl (by decide) (bN (f:=(cI .i64)) ([k]:List Int) _ _)) fun bu=>.st (az ..) (.st (v:=[bx (aa c),(bo d h i j),aw.row true 1 (r.map (cI .i64)),fq .i64 iA (gi a a4 0),aw.row false 1 (bu.map (cI .i64))]) (cU r8 N1) (.cT ((by kernel_rfl:_=(bif ax 5 (w.map (cI .i64)) then (bif ax 5 (a0.map (cI .i64)) then (bif ax 5 (a1.map aj) then true else false) else false) else false)).trans s5) ?_)))))
     exact ih _ _ _ _
    refine .bd (eR (e:=3) (es:=1)) fun a5=>.s (iA a5) (.bd (g:=fun (y:Nat)=>A.ep 2 y 0) (fD (e:=3) (es:=1) (l:=r) r8 r8 rfl) fun k1730=>.bd (g:=fun (y:Int)=>(iA y)) (iG (es:=1) (n:=1) (l:=r) r8 (by decide) (fun _=>rfl) (by decide) rfl (fun _=>r8)) fun a6=>.st (v:=[bx (aa c),(bo d h i j),aw.row true 1 (r.map (cI .i64)),fq .i64 iA (gi a a5 a6),aw.row false 1 (p.map (cI .i64)),bx (aj q)]) (uf (vt:=3) (f:=iA) (l:=a) (x:=a6) r8 rfl r8) (.s (im [[(iA k)]] true) (.bd (g:=fun (y:List Int)=>((bL 4 0 y.length false),[bx (aa c),(bo d h i j),aw.row true 1 (r.map (cI .i64)),fq .i64 iA (gi a a5 a6),aw.row false 1 (y.map (cI .i64)),bx (aj q)])) (bS pN (l:=p) (l2:=[k]) (b:=4) rfl (by decide) (bN (f:=(cI .i64)) ([k]:List Int) _ _)) fun bv=>.st (az ..) (.st (v:=[bx (aa c),(bo d h i j),aw.row true 1 (r.map (cI .i64)),fq .i64 iA (gi a a5 a6),aw.row false 1 (bv.map (cI .i64))]) (cU r8 N1) (.cT ((by kernel_rfl:_=(bif ax 5 (w.map (cI .i64)) then (bif ax 5 (a0.map (cI .i64)) then (bif ax 5 (a1.map aj) then true else false) else false) else false)).trans s5) ?_)))))
    exact ih _ _ _ _
   refine .bd (eR (e:=3) (es:=1)) fun a3=>.s (iA a3) (.st (v:=(tp [(iA ((getM a a3).getD 0)),(bA ((getM a a3).isSome))])) (Bt (vt:=3) (f:=iA) (l:=a) (z:=0) (v:=Value.int .i64 0) r8 rfl r8 rfl) (.s (iA ((getM a a3).getD 0)) (.s (bA ((getM a a3).isSome)) (.bg (fun t (y:Bool)=>∃ bc be bf bh bj bk:A,t=[(bA y),bc,be,bf,bh,bj,bk]) ?_ ?_))))
   ·refine .bi ?_ ?_
    ·exact .bd (g:=fun (y:Nat)=>A.ep 2 y 0) (fD (e:=3) (es:=1) (l:=o) r8 r8 rfl) fun k1735=>.bd (g:=fun (y:Int)=>(iA y)) (iG (es:=1) (n:=1) (l:=o) r8 (by decide) (fun _=>rfl) (by decide) rfl (fun _=>r8)) fun c4=>.st (aB ..) (.lg ⟨_,_,_,_,_,_,rfl⟩)
    exact .lg ⟨_,_,_,_,_,_,rfl⟩
   rintro _ c5 ⟨bc,be,bf,bh,bj,bk,rfl⟩
   refine .u4 (.uc (.uc (.uc (.cj ?_ ?_))))
   ·refine .bd (eR (e:=3) (es:=1)) fun a7=>.s (iA a7) (.st (v:=[bx (aa c),(bo d h i j),aw.row true 1 (o.map (cI .i64)),fq .i64 iA (gi a a7 0),aw.row false 1 (p.map (cI .i64)),bx (aj q)]) (uf (vt:=3) (f:=iA) (l:=a) (x:=0) r8 rfl r8) (.s (im [[(iA k)]] true) (.bd (g:=fun (y:List Int)=>((bL 4 0 y.length false),[bx (aa c),(bo d h i j),aw.row true 1 (o.map (cI .i64)),fq .i64 iA (gi a a7 0),aw.row false 1 (y.map (cI .i64)),bx (aj q)])) (bS pN (l:=p) (l2:=[k]) (b:=4) rfl (by decide) (bN (f:=(cI .i64)) ([k]:List Int) _ _)) fun bw=>.st (az ..) (.st (v:=[bx (aa c),(bo d h i j),aw.row true 1 (o.map (cI .i64)),fq .i64 iA (gi a a7 0),aw.row false 1 (bw.map (cI .i64))]) (cU r8 N1) (.cT ((by kernel_rfl:_=(bif ax 5 (w.map (cI .i64)) then (bif ax 5 (a0.map (cI .i64)) then (bif ax 5 (a1.map aj) then true else false) else false) else false)).trans s5) ?_)))))
    exact ih _ _ _ _
   refine .bd (eR (e:=3) (es:=1)) fun a8=>.s (iA a8) (.bd (g:=fun (y:Nat)=>A.ep 2 y 0) (fD (e:=3) (es:=1) (l:=o) r8 r8 rfl) fun k1748=>.bd (g:=fun (y:Int)=>(iA y)) (iG (es:=1) (n:=1) (l:=o) r8 (by decide) (fun _=>rfl) (by decide) rfl (fun _=>r8)) fun a9=>.st (v:=[bx (aa c),(bo d h i j),aw.row true 1 (o.map (cI .i64)),fq .i64 iA (gi a a8 a9),aw.row false 1 (p.map (cI .i64)),bx (aj q)]) (uf (vt:=3) (f:=iA) (l:=a) (x:=a9) r8 rfl r8) (.s (im [[(iA k)]] true) (.bd (g:=fun (y:List Int)=>((bL 4 0 y.length false),[bx (aa c),(bo d h i j),aw.row true 1 (o.map (cI .i64)),fq .i64 iA (gi a a8 a9),aw.row false 1 (y.map (cI .i64)),bx (aj q)])) (bS pN (l:=p) (l2:=[k]) (b:=4) rfl (by decide) (bN (f:=(cI .i64)) ([k]:List Int) _ _)) fun bz=>.st (az ..) (.st (v:=[bx (aa c),(bo d h i j),aw.row true 1 (o.map (cI .i64)),fq .i64 iA (gi a a8 a9),aw.row false 1 (bz.map (cI .i64))]) (cU r8 N1) (.cT ((by kernel_rfl:_=(bif ax 5 (w.map (cI .i64)) then (bif ax 5 (a0.map (cI .i64)) then (bif ax 5 (a1.map aj) then true else false) else false) else false)).trans s5) ?_)))))
   exact ih _ _ _ _
  exact .ex (x0 _ _ _ _ _ _ _ _)
def iJ (n:Nat) (c:(List Int)) (k:Int) (d:Nat) (g:(List aG)) (h:Int) (i:al) (l:(List av)) (o:(List (Int×Int))) (p:Int) (e:(List Int)) (f:(List (Int×Int))) (q:(List Int)):Nat->Int->(List aG)->Option ((List aG))
 | 0,_,_=>none
 | m+1,b,j=>bif (decide (b<h)) then ((bl g b).bind fun a=>(bif (decide (0<((a.Cues.length:Int)))) then ((bl a.Cues 0).bind fun r=>some (r.Bar==i.Bar)) else (some false)).bind fun s=>bif s then ((gD a.Cues 1 ((a.Cues.length:Int))).bind fun t=>(lJ d b).bind fun k3184=>(e[k3184]?).bind fun u=>(DL a.Got u).bind fun v=>(bl c b).bind fun w=>(DL a.Did ((getM f w).getD 0)).bind fun x=>(cO 72 j ([(aG.mk t v x)])).bind fun y=>iJ n c k d g h i l o p e f q m (wr .i64 (b+1)) y) else ((lJ d b).bind fun k3190=>(e[k3190]?).bind fun z=>(DL a.Got z).bind fun a0=>(bl c b).bind fun a1=>(DL a.Did ((getM f a1).getD 0)).bind fun a2=>(cO 72 j ([(aG.mk a.Cues a0 a2)])).bind fun a3=>iJ n c k d g h i l o p e f q m (wr .i64 (b+1)) a3)) else (some j)
theorem Ad (r:zS C) (u:(List Int)) (ae:Int) (af:Nat) (w:(List aG)) (ak:Int) (k:al) (o:(List av)) (p:(List (Int×Int))) (q:Int) (j:(List Int)) (h:(List (Int×Int))) (i:(List Int)) {K:((List aG))->Option γ} (x0:∀ (o0:(List aG)) (s2:A) (s7:A) (ar:A) (au:A) (ay:A) (b0:A) (b1:A),J φ (kx 6 (St.mk [(2,s2),(3,(pt 0 0)),(6,(pt 1 0)),(7,s7),(14,ar),(15,au),(16,(bL 4 0 i.length false)),(162,ay),(163,b0),(164,b1)] [bx (aa k),bx [(im (o.map ah) false),(im (p.map ai) false),(bL 5 0 o0.length false),(iA q)],aw.row true 1 (j.map (cI .i64)),fq .i64 iA h,aw.row false 1 (i.map (cI .i64)),aw.row false 3 (o0.map aj)])) kL (K o0) some) :
  ∀ (m:Nat) (a9:Int) (d:(List aG)),J φ (aA (cx C) (ec C n 8) (ey C n 8) (n+8) 19 0 3 6 kx kg kr kp m (St.mk [(2,(im (u.map (cI .i64)) false)),(3,(pt 0 0)),(6,(pt 1 0)),(7,(iA ae)),(14,(bL 2 0 af false)),(15,(A.mr 3)),(16,(bL 4 0 i.length false)),(162,(im (w.map aj) false)),(163,(iA ak)),(164,(iA a9))] [bx (aa k),(b6 o p d q),aw.row true 1 (j.map (cI .i64)),fq .i64 iA h,aw.row false 1 (i.map (cI .i64)),aw.row false 3 (d.map aj)])) kL (iJ n u ae af w ak k o p q j h i m a9 d) K:=by
  refine nI (fun _ _=>.nn) fun m ih a9 d=>.lp (GK ..) ?_
  unfold iJ
  refine .st (aV ..) (.cj ?_ ?_)
  ·refine .bd (eR (e:=55) (es:=3)) fun c=>.s (ag (aj c)) (.sq (pt 6 0) (.s [bx (aa k),(b6 o p d q),aw.row true 1 (j.map (cI .i64)),fq .i64 iA h,aw.row false 1 (i.map (cI .i64)),aw.row false 3 (d.map aj),bx (aj c)] (.s2 (im (c.Cues.map aD) false) (.st (dV (e:=30)) (.st (dh ..) (.NM (.bg (fun t (y:Bool)=>∃ am:A,t=[(bA y),am]) ?_ ?_)))))))
   ·refine .FY (fun ab=>?_) (fun ab=>?_)
    ·exact .bb (.bd (eR (e:=30) (es:=4)) fun ad=>.s (A.ip [(iA ad.Bar),(iA ad.Program)]) (.s (iA ad.Bar) (.s (pt 0 3) (.s (iA k.Bar) (.cr (.u4 (.uc (.uc (.AB ab (.st (bt ..) (.lg ⟨_,rfl⟩)))))))))))
    exact .bb (.cr (.u4 (.uc (.uc (.B7 ab (.lg ⟨_,rfl⟩))))))
   rintro _ b2 ⟨am,rfl⟩
   refine .uc (.uc (.cj ?_ ?_))
   ·refine .bd (pO (e:=30) (es:=4) (f:=aD) (l:=c.Cues) (a:=1) (b:=(c.Cues.length:Int)) r8 r8 (fun _=>rfl) (.inr ⟨_,rfl⟩) (.inl ⟨rfl,rfl⟩)) fun x=>.s2 (bL 5 0 d.length false) (.s2 (im (c.Got.map (cI .i64)) false) (.bd (g:=fun (y:Nat)=>A.ep 2 y 0) (fD (e:=3) (es:=1) (l:=j) r8 r8 rfl) fun k3184=>.bd (g:=fun (y:Int)=>(iA y)) (iG (es:=1) (n:=1) (l:=j) r8 (by decide) (fun _=>rfl) (by decide) rfl (fun _=>r8)) fun an=>.bd (g:=fun (y:(List Int))=>(im (y.map (cI .i64)) false)) (by show C 49 [snap _ (im (c.Got.map (cI .i64)) false),snap _ (iA an)]=_; simp only[dQ,gb,cG (H:=[bx (aa k),(b6 o p d q),aw.row true 1 (j.map (cI .i64)),fq .i64 iA h,aw.row false 1 (i.map (cI .i64)),aw.row false 3 (d.map aj),bx (aj c)]) (b:=4) (es:=1) (l:=i) (eZ _) rfl,cG (H:=[bx (aa k),(b6 o p d q),aw.row true 1 (j.map (cI .i64)),fq .i64 iA h,aw.row false 1 (i.map (cI .i64)),aw.row false 3 (d.map aj),bx (aj c)]) (b:=5) (es:=3) (l:=d) du rfl]; exact r c.Got an) fun a0=>.s2 (im (c.Did.map (cI .i64)) false) (.bd (eR (e:=3) (es:=1)) fun a1=>.s (iA a1) (.st (v:=(iA ((getM h a1).getD 0))) (yr (vt:=3) (f:=iA) (l:=h) (z:=0) (v:=Value.int .i64 0) r8 rfl r8 rfl) ?_))))
    refine .bd (g:=fun (y:(List Int))=>(im (y.map (cI .i64)) false)) (by show C 49 [snap _ (im (c.Did.map (cI .i64)) false),snap _ (iA ((getM h a1).getD 0))]=_; simp only[dQ,gb,cG (H:=[bx (aa k),(b6 o p d q),aw.row true 1 (j.map (cI .i64)),fq .i64 iA h,aw.row false 1 (i.map (cI .i64)),aw.row false 3 (d.map aj),bx (aj c)]) (b:=4) (es:=1) (l:=i) (eZ _) rfl,cG (H:=[bx (aa k),(b6 o p d q),aw.row true 1 (j.map (cI .i64)),fq .i64 iA h,aw.row false 1 (i.map (cI .i64)),aw.row false 3 (d.map aj),bx (aj c)]) (b:=5) (es:=3) (l:=d) du rfl]; exact r c.Did ((getM h a1).getD 0)) fun a2=>.s (ag [(im (x.map aD) false),(im (a0.map (cI .i64)) false),(im (a2.map (cI .i64)) false)]) (.s (im [[(im (x.map aD) false),(im (a0.map (cI .i64)) false),(im (a2.map (cI .i64)) false)]] true) (.bd (g:=fun (y:List aG)=>((bL 5 0 y.length false),[bx (aa k),(b6 o p d q),aw.row true 1 (j.map (cI .i64)),fq .i64 iA h,aw.row false 1 (i.map (cI .i64)),aw.row false 3 (y.map aj),bx (aj c)])) (bS xV (l:=d) (l2:=[(aG.mk x a0 a2)]) (b:=5) rfl (by decide) (bN (f:=aj) ([(aG.mk x a0 a2)]:List aG) _ _)) fun a3=>.s (pt 1 2) (.s [bx (aa k),bx [(im (o.map ah) false),(im (p.map ai) false),(bL 5 0 a3.length false),(iA q)],aw.row true 1 (j.map (cI .i64)),fq .i64 iA h,aw.row false 1 (i.map (cI .i64)),aw.row false 3 (a3.map aj),bx (aj c)] (.st (az ..) (.st (v:=[bx (aa k),bx [(im (o.map ah) false),(im (p.map ai) false),(bL 5 0 a3.length false),(iA q)],aw.row true 1 (j.map (cI .i64)),fq .i64 iA h,aw.row false 1 (i.map (cI .i64)),aw.row false 3 (a3.map aj)]) (cU r8 (by simp only[uB,eo,ux,er,Nat.reduceLT,OW])) ?_)))))
    refine .cT ((by kernel_rfl:_=(bif ax 6 (u.map (cI .i64)) then (bif ax 6 (w.map aj) then true else false) else false)).trans s5) ?_
    exact ih _ _
   refine .s2 (bL 5 0 d.length false) (.s2 (im (c.Got.map (cI .i64)) false) (.bd (g:=fun (y:Nat)=>A.ep 2 y 0) (fD (e:=3) (es:=1) (l:=j) r8 r8 rfl) fun k3190=>.bd (g:=fun (y:Int)=>(iA y)) (iG (es:=1) (n:=1) (l:=j) r8 (by decide) (fun _=>rfl) (by decide) rfl (fun _=>r8)) fun ao=>.bd (g:=fun (y:(List Int))=>(im (y.map (cI .i64)) false)) (by show C 49 [snap _ (im (c.Got.map (cI .i64)) false),snap _ (iA ao)]=_; simp only[dQ,gb,cG (H:=[bx (aa k),(b6 o p d q),aw.row true 1 (j.map (cI .i64)),fq .i64 iA h,aw.row false 1 (i.map (cI .i64)),aw.row false 3 (d.map aj),bx (aj c)]) (b:=4) (es:=1) (l:=i) (eZ _) rfl,cG (H:=[bx (aa k),(b6 o p d q),aw.row true 1 (j.map (cI .i64)),fq .i64 iA h,aw.row false 1 (i.map (cI .i64)),aw.row false 3 (d.map aj),bx (aj c)]) (b:=5) (es:=3) (l:=d) du rfl]; exact r c.Got ao) fun a4=>.s2 (im (c.Did.map (cI .i64)) false) (.bd (eR (e:=3) (es:=1)) fun a5=>.s (iA a5) (.st (v:=(iA ((getM h a5).getD 0))) (yr (vt:=3) (f:=iA) (l:=h) (z:=0) (v:=Value.int .i64 0) r8 rfl r8 rfl) (.bd (g:=fun (y:(List Int))=>(im (y.map (cI .i64)) false)) (by show C 49 [snap _ (im (c.Did.map (cI .i64)) false),snap _ (iA ((getM h a5).getD 0))]=_; simp only[dQ,gb,cG (H:=[bx (aa k),(b6 o p d q),aw.row true 1 (j.map (cI .i64)),fq .i64 iA h,aw.row false 1 (i.map (cI .i64)),aw.row false 3 (d.map aj),bx (aj c)]) (b:=4) (es:=1) (l:=i) (eZ _) rfl,cG (H:=[bx (aa k),(b6 o p d q),aw.row true 1 (j.map (cI .i64)),fq .i64 iA h,aw.row false 1 (i.map (cI .i64)),aw.row false 3 (d.map aj),bx (aj c)]) (b:=5) (es:=3) (l:=d) du rfl]; exact r c.Did ((getM h a5).getD 0)) fun a6=>?_)))))
   refine .s (ag [(im (c.Cues.map aD) false),(im (a4.map (cI .i64)) false),(im (a6.map (cI .i64)) false)]) (.s (im [[(im (c.Cues.map aD) false),(im (a4.map (cI .i64)) false),(im (a6.map (cI .i64)) false)]] true) (.bd (g:=fun (y:List aG)=>((bL 5 0 y.length false),[bx (aa k),(b6 o p d q),aw.row true 1 (j.map (cI .i64)),fq .i64 iA h,aw.row false 1 (i.map (cI .i64)),aw.row false 3 (y.map aj),bx (aj c)])) (bS xV (l:=d) (l2:=[(aG.mk c.Cues a4 a6)]) (b:=5) rfl (by decide) (bN (f:=aj) ([(aG.mk c.Cues a4 a6)]:List aG) _ _)) fun a7=>.s (pt 1 2) (.s [bx (aa k),bx [(im (o.map ah) false),(im (p.map ai) false),(bL 5 0 a7.length false),(iA q)],aw.row true 1 (j.map (cI .i64)),fq .i64 iA h,aw.row false 1 (i.map (cI .i64)),aw.row false 3 (a7.map aj),bx (aj c)] (.st (az ..) (.st (v:=[bx (aa k),bx [(im (o.map ah) false),(im (p.map ai) false),(bL 5 0 a7.length false),(iA q)],aw.row true 1 (j.map (cI .i64)),fq .i64 iA h,aw.row false 1 (i.map (cI .i64)),aw.row false 3 (a7.map aj)]) (cU r8 (by simp only[uB,eo,ux,er,Nat.reduceLT,OW])) (.cT ((by kernel_rfl:_=(bif ax 6 (u.map (cI .i64)) then (bif ax 6 (w.map aj) then true else false) else false)).trans s5) ?_))))))
   exact ih _ _
  exact .ex (x0 _ _ _ _ _ _ _ _)
def iK (n:Nat) (l:al) (e:Int) (c:Int) (o:(List Int)) (p:Int) (q:Int) (f:(List Int)) (g:Int) (r:al) (s:(List av)) (t:(List (Int×Int))) (u:Int) (v:(List Int)) (w:(List (Int×Int))) (x:(List Int)) (y:(List aG)) (z:Int) (a0:(List av)) (a1:(List (Int×Int))) (a2:(List aG)) (a3:Int) (a4:Int):Nat->Int->(List av)->(List (Int×Int))->Option ((Int)⊕((List av)×(List (Int×Int))))
 | 0,_,_,_=>none
 | m+1,b,h,i=>bif (decide (b<g)) then ((bl f b).bind fun a5=>bif (decide (e<=b)) then ((some c).bind fun a6=>(some (wr .i64 (a6+1))).bind fun a7=>(some ((c,b,a5))).bind fun j=>(some ((2,0,0,0,0,j.1,j.2.1,j.2.2))).bind fun a=>((FN ((aC.mk a.1 ((bM.mk a.2.1 a.2.2.1 a.2.2.2.1 a.2.2.2.2.1)) ((ba.mk a.2.2.2.2.2.1 a.2.2.2.2.2.2.1 a.2.2.2.2.2.2.2))))).bind fun a8=>some a8).bind fun a9=>(some ((a7,0,a9))).bind fun k=>(FM ((bq.mk h i)) ((av.mk k.1 k.2.1 k.2.2))).bind fun d=>bif (d.2 != 0) then ((some (())).bind fun aa=>some ((Sum.inl d.2))) else ((some (())).bind fun ab=>iK n l e c o p q f g r s t u v w x y z a0 a1 a2 a3 a4 m (wr .i64 (b+1)) d.1.Queue d.1.Apart)) else ((some (())).bind fun ad=>(some (())).bind fun ae=>(some (())).bind fun af=>(some (())).bind fun ag=>(some (())).bind fun ah=>(some (())).bind fun ai=>(some (())).bind fun aj=>iK n l e c o p q f g r s t u v w x y z a0 a1 a2 a3 a4 m (wr .i64 (b+1)) h i)) else (some ((Sum.inr ((h,i)))))
theorem Af (b1:uG C) (b2:uH C) (a5:al) (a9:Int) (a3:Int) (a8:(List Int)) (ad:Int) (ae:Int) (af:(List Int)) (aq:Int) (r:al) (u:(List av)) (w:(List (Int×Int))) (x:Int) (z:(List Int)) (a0:(List (Int×Int))) (o:(List Int)) (a:(List aG)) (a1:Int) (h:(List av)) (i:(List (Int×Int))) (j:(List aG)) (k:Int) (a4:Int) {K:((Int)⊕((List av)×(List (Int×Int))))->Option γ} (x0:∀ (o0:Int) (s6:A) (am:A) (an:A) (ao:A) (q0:aw) (q1:aw) (q2:aw) (q3:aw) (q4:aw) (q5:aw) (q6:aw) (q10:aw) (q11:aw) (q12:aw),J φ (kr (St.mk [(0,(A.yld 9)),(2,(A.ip (aa a5))),(3,(A.ip [(iA a9)])),(6,s6),(10,(im (a8.map (cI .i64)) false)),(11,(iA ad)),(12,(iA ae)),(21,am),(22,an),(23,ao)] [q0,q1,q2,q3,q4,q5,q6,(bo h i j k),bx [(iA o0)],aw.rng (ml.done FR.ret),q10,q11,q12])) kL (K (Sum.inl o0)) some) (x1:∀ (o0:(List av)) (o1:(List (Int×Int))) (s6:A) (am:A) (an:A) (ao:A),J φ (kx 2 (St.mk [(0,(A.yld 9)),(2,(A.ip (aa a5))),(3,(A.ip [(iA a9)])),(6,s6),(10,(im (a8.map (cI .i64)) false)),(11,(iA ad)),(12,(iA ae)),(21,am),(22,an),(23,ao)] [bx (aa r),(b6 u w a x),aw.row true 1 (z.map (cI .i64)),fq .i64 iA a0,aw.row false 1 (o.map (cI .i64)),aw.row false 3 (a.map aj),bx [(im (o0.map ah) false),(im (o1.map ai) false),(bL 5 0 a.length false),(iA a1)],(bo h i j k),bx [(iA a4)],aw.rng ml.ready])) kL (K (Sum.inr ((o0,o1)))) some) :
  ∀ (m:Nat) (a2:Int) (p:(List av)) (q:(List (Int×Int))),J φ (aA (cx C) (aX (cx C) (n+6) (wy 130 (di (cx C) (n+7)) 9 (uv (cx C) (ec C n 7) (ey C n 7) (n+7) 50 6 0 9 [(2,(pt 6 0)),(4,(pt 7 0)),(5,(pt 8 0))]))) (aX (cx C) (n+6)) (n+6) 78 6 1 10 kx kg kr kp m (St.mk [(0,(A.yld 9)),(2,(A.ip (aa a5))),(3,(A.ip [(iA a9)])),(6,(iA a3)),(10,(im (a8.map (cI .i64)) false)),(11,(iA ad)),(12,(iA ae)),(21,(im (af.map (cI .i64)) false)),(22,(iA aq)),(23,(iA a2))] [bx (aa r),(b6 u w a x),aw.row true 1 (z.map (cI .i64)),fq .i64 iA a0,aw.row false 1 (o.map (cI .i64)),aw.row false 3 (a.map aj),(b6 p q a a1),(bo h i j k),bx [(iA a4)],aw.rng ml.ready])) kL (iK n a5 a9 a3 a8 ad ae af aq r u w x z a0 o a a1 h i j k a4 m a2 p q) K:=by
  refine nI (fun _ _ _=>.nn) fun m ih a2 p q=>.lp (GV ..) ?_
  unfold iK
  refine .st (aV ..) (.cj ?_ ?_)
  ·refine .bd (eR (e:=3) (es:=1)) fun a6=>.s (iA a6) (.s (ag [(iA a3),(iA a2),(iA a6)]) (.sq (pt 10 0) (.s [bx (aa r),(b6 u w a x),aw.row true 1 (z.map (cI .i64)),fq .i64 iA a0,aw.row false 1 (o.map (cI .i64)),aw.row false 3 (a.map aj),(b6 p q a a1),(bo h i j k),bx [(iA a4)],aw.rng ml.ready,bx [(iA a3),(iA a2),(iA a6)]] (.s (iA a9) (.st (fe ..) (.FY (fun c=>?_) (fun c=>?_)))))))
   ·refine .bb (.cr (.bg (fun t (y:Int) =>  t=(iA y)) ?_ ?_))
    ·exact .lp (dH c) (.lg rfl)
    rintro _ b8 rfl
    refine .bg (fun t (y:Int) =>  t=(iA y)) ?_ ?_
    ·exact .lp (dH c) (.st (az ..) (.lg rfl))
    rintro _ b5 rfl
    refine .bg (fun t (y:Int×Int×Int) =>  t=(ag [(iA y.1),(iA y.2.1),(iA y.2.2)])) ?_ ?_
    ·exact .lp (dH c) (.s (ag [(iA a3),(iA a2),(iA a6)]) (.lg rfl))
    rintro _ ap rfl
    refine .bg (fun t (y:Int×Int×Int×Int×Int×Int×Int×Int) =>  t=(ag [(iA y.1),(iA y.2.1),(iA y.2.2.1),(iA y.2.2.2.1),(iA y.2.2.2.2.1),(iA y.2.2.2.2.2.1),(iA y.2.2.2.2.2.2.1),(iA y.2.2.2.2.2.2.2)])) ?_ ?_
    ·exact .lp (dH c) (.s (ag [(iA 2),(iA 0),(iA 0),(iA 0),(iA 0),(iA ap.1),(iA ap.2.1),(iA ap.2.2)]) (.lg rfl))
    rintro _ a7 rfl
    refine .bg (fun t (y:(List UInt8)) =>  t=(im (y.map c8) false)) ?_ ?_
    ·exact .lp (dH c) (.bd (b2 ((aC.mk a7.1 ((bM.mk a7.2.1 a7.2.2.1 a7.2.2.2.1 a7.2.2.2.2.1)) ((ba.mk a7.2.2.2.2.2.1 a7.2.2.2.2.2.2.1 a7.2.2.2.2.2.2.2))))) fun b9=>.lg rfl)
    rintro _ b7 rfl
    refine .bg (fun t (y:Int×Int×(List UInt8)) =>  t=(ag [(iA y.1),(iA y.2.1),(im (y.2.2.map c8) false)])) ?_ ?_
    ·exact .lp (dH c) (.s (ag [(iA b5),(iA 0),(im (b7.map c8) false)]) (.lg rfl))
    rintro _ f rfl
    refine .lp (dH c) (.dY rfl (.cl (yq.trans (DJ.trans (E7 C (ec C n 7) (ey C n 7) (n+7) _ _ _ _ _ _ _ _))) (.cT r8 (.lp (BG rfl) (.sq (pt 11 0) (.s [bx (aa r),(b6 u w a x),aw.row true 1 (z.map (cI .i64)),fq .i64 iA a0,aw.row false 1 (o.map (cI .i64)),aw.row false 3 (a.map aj),(b6 p q a a1),(bo h i j k),bx [(iA a4)],aw.rng ml.ready,bx [(iA a3),(iA a2),(iA a6)],(mf f)] (.lp (BG rfl) (.s2 (ag [(im (p.map ah) false),(im (q.map ai) false)]) (.s (ag [(iA f.1),(iA f.2.1),(im (f.2.2.map c8) false)]) (.bd (g:=fun (y:(bq×Int))=>(tp [(ag [(im (y.1.Queue.map ah) false),(im (y.1.Apart.map ai) false)]),(iA y.2)])) (by show C 25 [snap _ (ag [(im (p.map ah) false),(im (q.map ai) false)]),snap _ (ag [(iA f.1),(iA f.2.1),(im (f.2.2.map c8) false)])]=_; simp only[dQ,gb,cG (H:=[bx (aa r),(b6 u w a x),aw.row true 1 (z.map (cI .i64)),fq .i64 iA a0,aw.row false 1 (o.map (cI .i64)),aw.row false 3 (a.map aj),(b6 p q a a1),(bo h i j k),bx [(iA a4)],aw.rng ml.busy,bx [(iA a3),(iA a2),(iA a6)],(mf f)]) (b:=4) (es:=1) (l:=o) (eZ _) rfl,cG (H:=[bx (aa r),(b6 u w a x),aw.row true 1 (z.map (cI .i64)),fq .i64 iA a0,aw.row false 1 (o.map (cI .i64)),aw.row false 3 (a.map aj),(b6 p q a a1),(bo h i j k),bx [(iA a4)],aw.rng ml.busy,bx [(iA a3),(iA a2),(iA a6)],(mf f)]) (b:=5) (es:=3) (l:=a) du rfl]; exact b1 ((bq.mk p q)) ((av.mk f.1 f.2.1 f.2.2))) fun d=>.s (ag [(im (d.1.Queue.map ah) false),(im (d.1.Apart.map ai) false)]) (.s (iA d.2) (.sq (pt 12 0) ?_))))))))))))
    refine .s [bx (aa r),(b6 u w a x),aw.row true 1 (z.map (cI .i64)),fq .i64 iA a0,aw.row false 1 (o.map (cI .i64)),aw.row false 3 (a.map aj),(b6 p q a a1),(bo h i j k),bx [(iA a4)],aw.rng ml.busy,bx [(iA a3),(iA a2),(iA a6)],(mf f),bx [(im (d.1.Queue.map ah) false),(im (d.1.Apart.map ai) false)]] (.st (aB ..) (.cj ?_ ?_))
    ·refine .s (ag [(im (h.map ah) true),(im (i.map ai) true),(im (j.map aj) true),(iA k)]) (.sh (.s [bx (aa r),(b6 u w a x),aw.row true 1 (z.map (cI .i64)),fq .i64 iA a0,aw.row false 1 (o.map (cI .i64)),aw.row false 3 (a.map aj),(b6 p q a a1),(bo h i j k),bx [(iA d.2)],aw.rng ml.busy,bx [(iA a3),(iA a2),(iA a6)],(mf f),bx [(im (d.1.Queue.map ah) false),(im (d.1.Apart.map ai) false)]] (.lp (AE rfl) (.cr (.ok (.bg (fun t (y:Unit)=>∃ au:A,t=[(bA true),au]) ?_ ?_))))))
     ·exact .AB c (.s (bA true) (.lg ⟨_,rfl⟩))
     rintro _ bc ⟨au,rfl⟩
     exact .uc (.uc (.Gw (.ex (x0 _ _ _ _ _ _ _ _ _ _ _ _ _ _ _))))
    refine .s (ag [(im (d.1.Queue.map ah) false),(im (d.1.Apart.map ai) false)]) (.s (pt 6 0) (.s [bx (aa r),(b6 u w a x),aw.row true 1 (z.map (cI .i64)),fq .i64 iA a0,aw.row false 1 (o.map (cI .i64)),aw.row false 3 (a.map aj),bx [(im (d.1.Queue.map ah) false),(im (d.1.Apart.map ai) false),(bL 5 0 a.length false),(iA a1)],(bo h i j k),bx [(iA a4)],aw.rng ml.busy,bx [(iA a3),(iA a2),(iA a6)],(mf f),bx [(im (d.1.Queue.map ah) false),(im (d.1.Apart.map ai) false)]] (.lp (AE rfl) (.cr (.ok (.bg (fun t (y:Unit)=>∃ ay:A,t=[(bA false),ay]) ?_ ?_))))))
    ·exact .AB c (.s (bA false) (.lg ⟨_,rfl⟩))
    rintro _ be ⟨ay,rfl⟩
    refine .uc (.uc (.Gt (.st (az ..) (.st (v:=[bx (aa r),(b6 u w a x),aw.row true 1 (z.map (cI .i64)),fq .i64 iA a0,aw.row false 1 (o.map (cI .i64)),aw.row false 3 (a.map aj),bx [(im (d.1.Queue.map ah) false),(im (d.1.Apart.map ai) false),(bL 5 0 a.length false),(iA a1)],(bo h i j k),bx [(iA a4)],aw.rng ml.ready]) (cU r8 (by simp only[uB,eo,ux,er,Nat.reduceLT,OW,bo,b6])) (.cT ((by kernel_rfl:_=(bif ((ax 10 (a5.Net.Queue.map ah))&&((ax 10 (a5.Net.Apart.map ai))&&((ax 10 (a5.Ears.map aj))&&true))) then (bif ax 10 (a8.map (cI .i64)) then (bif ax 10 (af.map (cI .i64)) then true else false) else false) else false)).trans s5) ?_)))))
    exact ih _ _ _
   refine .bb (.cr (.bg (fun t (y:Unit) =>  t=(A.v undef)) ?_ ?_))
   ·exact .lp (dG c) (.lg rfl)
   rintro _ bf rfl
   refine .bg (fun t (y:Unit) =>  t=(A.v undef)) ?_ ?_
   ·exact .lp (dG c) (.lg rfl)
   rintro _ bh rfl
   refine .bg (fun t (y:Unit) =>  t=(A.v undef)) ?_ ?_
   ·exact .lp (dG c) (.lg rfl)
   rintro _ bi rfl
   refine .bg (fun t (y:Unit) =>  t=(A.v undef)) ?_ ?_
   ·exact .lp (dG c) (.lg rfl)
   rintro _ bj rfl
   refine .bg (fun t (y:Unit) =>  t=(A.v undef)) ?_ ?_
   ·exact .lp (dG c) (.lg rfl)
   rintro _ bk rfl
   refine .bg (fun t (y:Unit) =>  t=(A.v undef)) ?_ ?_
   ·exact .lp (dG c) (.lg rfl)
   rintro _ bl rfl
   refine .lp (dG c) (.bg (fun t (y:Unit)=>∃ b0:A,t=[(bA false),b0]) ?_ ?_)
   ·exact .B7 c (.lg ⟨_,rfl⟩)
   rintro _ bm ⟨b0,rfl⟩
   refine .uc (.uc (.Gt (.st (az ..) (.st (v:=[bx (aa r),(b6 u w a x),aw.row true 1 (z.map (cI .i64)),fq .i64 iA a0,aw.row false 1 (o.map (cI .i64)),aw.row false 3 (a.map aj),(b6 p q a a1),(bo h i j k),bx [(iA a4)],aw.rng ml.ready]) (cU r8 (by simp only[uB,eo,ux,er,Nat.reduceLT,OW,bo,b6,b6])) (.cT ((by kernel_rfl:_=(bif ((ax 10 (a5.Net.Queue.map ah))&&((ax 10 (a5.Net.Apart.map ai))&&((ax 10 (a5.Ears.map aj))&&true))) then (bif ax 10 (a8.map (cI .i64)) then (bif ax 10 (af.map (cI .i64)) then true else false) else false) else false)).trans s5) ?_)))))
   exact ih _ _ _
  exact .ex (x1 _ _ _ _ _ _)
def jB (n:Nat) (b:al) (e:Int) (c:(List Int)) (d:Int) (f:al) (g:(List av)) (h:(List (Int×Int))) (i:Int) (j:(List Int)) (k:(List (Int×Int))) (l:(List Int)) (o:(List aG)) (p:Int) (q:(List av)) (r:(List (Int×Int))) (s:(List aG)) (t:Int) (u:Int):Nat->Int->(List av)->(List (Int×Int))->Option ((Int)⊕((List av)×(List (Int×Int))))
 | 0,_,_,_=>none
 | m+1,a,v,w=>bif (decide (a<d)) then ((bl c a).bind fun x=>(bl b.Ears x).bind fun y=>(iK n b e x c d a y.Did ((y.Did.length:Int)) f g h i j k l o p q r s t u (n+6) 0 v w).bind fun z=>match z with | (Sum.inl a0)=>some ((Sum.inl a0)) | (Sum.inr ((a1,a2)))=>jB n b e c d f g h i j k l o p q r s t u m (wr .i64 (a+1)) a1 a2) else (some ((Sum.inr ((v,w)))))
theorem Ae (a8:uG C) (a9:uH C) (j:al) (x:Int) (y:(List Int)) (z:Int) (k:al) (l:(List av)) (o:(List (Int×Int))) (p:Int) (q:(List Int)) (r:(List (Int×Int))) (t:(List Int)) (a:(List aG)) (g:Int) (b:(List av)) (c:(List (Int×Int))) (d:(List aG)) (f:Int) (h:Int) {K:((Int)⊕((List av)×(List (Int×Int))))->Option γ} (x0:∀ (i:Int) (s0:A) (s2:A) (s3:A) (a2:A) (a3:A) (a4:A) (q0:aw) (q1:aw) (q2:aw) (q3:aw) (q4:aw) (q5:aw) (q6:aw) (q10:aw) (q11:aw) (q12:aw),J φ (kr (St.mk [(0,s0),(2,s2),(3,s3),(10,a2),(11,a3),(12,a4)] [q0,q1,q2,q3,q4,q5,q6,(bo b c d f),bx [(iA i)],aw.rng (ml.done FR.ret),q10,q11,q12])) kL (K (Sum.inl i)) some) (x1:∀ (i:(List av)) (o1:(List (Int×Int))) (s0:A) (s2:A) (s3:A) (a2:A) (a3:A) (a4:A) (q0:aw) (q1:aw) (q2:aw) (q3:aw) (q4:aw),J φ (kx 0 (St.mk [(0,s0),(2,s2),(3,s3),(10,a2),(11,a3),(12,a4)] [q0,q1,q2,q3,q4,aw.row false 3 (a.map aj),bx [(im (i.map ah) false),(im (o1.map ai) false),(bL 5 0 a.length false),(iA g)],(bo b c d f),bx [(iA h)],aw.rng ml.ready])) kL (K (Sum.inr ((i,o1)))) some) :
  ∀ (m:Nat) (u:Int) (v:(List av)) (w:(List (Int×Int))),J φ (aA (cx C) (aX (cx C) (n+6) (wy 130 (di (cx C) (n+7)) 9 (uv (cx C) (ec C n 7) (ey C n 7) (n+7) 50 6 0 9 [(2,(pt 6 0)),(4,(pt 7 0)),(5,(pt 8 0))]))) (aX (cx C) (n+6)) (n+6) 78 6 0 10 kx kg kr kp m (St.mk [(0,(A.yld 9)),(2,(A.ip (aa j))),(3,(A.ip [(iA x)])),(10,(im (y.map (cI .i64)) false)),(11,(iA z)),(12,(iA u))] [bx (aa k),bx [(im (l.map ah) false),(im (o.map ai) false),(bL 5 0 a.length false),(iA p)],aw.row true 1 (q.map (cI .i64)),fq .i64 iA r,aw.row false 1 (t.map (cI .i64)),aw.row false 3 (a.map aj),bx [(im (v.map ah) false),(im (w.map ai) false),(bL 5 0 a.length false),(iA g)],(bo b c d f),bx [(iA h)],aw.rng ml.ready])) kL (jB n j x y z k l o p q r t a g b c d f h m u v w) K:=by
  refine nI (fun _ _ _=>.nn) fun m ih u v w=>.lp (GU ..) ?_
  unfold jB
  refine .st (aV ..) (.cj ?_ ?_)
  ·refine .bd (eR (e:=3) (es:=1)) fun a7=>.s (iA a7) (.s2 (im (j.Ears.map aj) false) (.bd (eR (e:=55) (es:=3)) fun a5=>.s2 (im (a5.Did.map (cI .i64)) false) (.st (dV (e:=3)) (.as (Af C n _ _ _ _ a8 a9 j x a7 y z u a5.Did ((a5.Did.length:Int)) k l o p q r t a g b c d f h ?_ ?_ _ 0 v w)))))
   ·intro ag ak am an ao w5430 w5431 w5432 w5433 w5434 w5435 w5436 w5437 w5438 w5439
    exact .un rfl (.ex (x0 _ _ _ _ _ _ _ _ _ _ _ _ _ _ _ _ _))
   ·intro ae af ap aq ar au
    refine .un rfl (.cT r8 (.st (az ..) (.s [bx (aa k),bx [(im (l.map ah) false),(im (o.map ai) false),(bL 5 0 a.length false),(iA p)],aw.row true 1 (q.map (cI .i64)),fq .i64 iA r,aw.row false 1 (t.map (cI .i64)),aw.row false 3 (a.map aj),bx [(im (ae.map ah) false),(im (af.map ai) false),(bL 5 0 a.length false),(iA g)],(bo b c d f),bx [(iA h)],aw.rng ml.ready] (.cT r8 ?_))))
    exact ih _ _ _
  exact .ex (x1 _ _ _ _ _ _ _ _ _ _ _ _ _)
def Ir (n:Nat) (a:al) (d:(List Int)) (a2:(List Int)):Option (al×Int):=
 (DK a).bind fun b=>bif (b != 0) then (some (((al.mk ((bq.mk ([]) ([]))) ([]) 0),b))) else ((jz n ((a.Ears.length:Int)) d ((d.length:Int)) ([]) ([]) ([]) 0 (n+8) (-1) 0).bind fun j=>match j with | (Sum.inl k)=>some (((al.mk ((bq.mk ([]) ([]))) ([]) 0),k)) | (Sum.inr _)=>bif (((a2.length:Int)) != ((a.Ears.length:Int))) then (some (((al.mk ((bq.mk ([]) ([]))) ([]) 0),1))) else ((jA n a2 a2 ((a2.length:Int)) ([]) ([]) ([]) 0 (n+8) 0).bind fun l=>match l with | (Sum.inl o)=>some (((al.mk ((bq.mk ([]) ([]))) ([]) 0),o)) | (Sum.inr _)=>bif (a.Bar==4096) then (some (((al.mk ((bq.mk ([]) ([]))) ([]) 0),2))) else ((Br 8 ((a.Ears.length:Int)) 0).bind fun g=>(fI n d a2 b g.length a.Ears ((a.Ears.length:Int)) a ([]) ([]) ([]) 0 (n+8) 0 g (([]:List (Int×Int))) (([]:List Int))).bind fun p=>match p with | (q,h,i,e)=>(iJ n a2 b q a.Ears ((a.Ears.length:Int)) a a.Net.Queue a.Net.Apart (wr .i64 (a.Bar+1)) h i e (n+8) 0 (([]:List aG))).bind fun r=>match r with | f=>(IP ((al.mk a.Net f (wr .i64 (a.Bar+1)))) a.Bar e).bind fun c=>(jB n c.2.1 c.2.2 c.1 ((c.1.length:Int)) a a.Net.Queue a.Net.Apart (wr .i64 (a.Bar+1)) h i e f (wr .i64 (a.Bar+1)) ([]) ([]) ([]) 0 0 (n+6) 0 a.Net.Queue a.Net.Apart).bind fun s=>match s with | (Sum.inl t)=>some (((al.mk ((bq.mk ([]) ([]))) ([]) 0),t)) | (Sum.inr ((u,v)))=>some (((al.mk ((bq.mk u v)) f (wr .i64 (a.Bar+1))),0)))))
theorem Mr (C:OT) (n:Nat) (w:xM C) (x:uG C) (a3:uH C) (t:my C) (a4:zR C) (a5:zS C) (a6:DV C) (a:al) (p:(List Int)) (a2:(List Int)):TJ C n 19 [(ag (aa a)),(im (p.map (cI .i64)) false),(im (a2.map (cI .i64)) false)] (Ir n a p a2) (fun y=>(tp [(ag (aa y.1)),(iA y.2)])):=by
 refine .lp (MV ..) ?_
 unfold Ir
 refine .s ((pt 0 0),[bx (aa a)]) (.s ((pt 1 0),[bx (aa a),bx [N3,N3,N3,(iA 0)]]) (.s (ag (aa a)) (.bd (g:=fun (y:Int)=>(iA y)) (by simp only[dQ,gb]; exact w a) fun u=>.st (aB ..) (.cj ?_ ?_))))
 ·exact .s fU (.s [bx (aa a),bx [N3,N3,N3,(iA 0)]] (.s fU (.lv u3)))
 refine .s2 (im (a.Ears.map aj) false) (.st (dV (e:=55)) (.st (dV (e:=3)) (.as (Aa C n _ _ _ _ t ((a.Ears.length:Int)) p ((p.length:Int)) ([]) ([]) ([]) 0 ?_ ?_ _ (-1) 0))))
 ·intro a8 a9 ab ad ae af ak am an
  exact .un rfl (.s fU (.lv u3))
 ·intro ao ap aq ar
  refine .un rfl (.cT r8 (.st (dV (e:=3)) (.st (aB ..) (.cj ?_ ?_))))
  ·exact .s fU (.s [bx (aa a),bx [N3,N3,N3,(iA 0)]] (.s fU (.lv u3)))
  refine .st (dV (e:=3)) (.as (Ab C n _ _ _ _ t a2 a2 ((a2.length:Int)) ([]) ([]) ([]) 0 ?_ ?_ _ 0))
  ·intro au av ax ay b0 b1 b2 b3
   exact .un rfl (.s fU (.lv u3))
  ·intro b4 b5 b6
   refine .un rfl (.cT r8 (.s2 (iA a.Bar) (.st (bt ..) (.cj ?_ ?_))))
   ·exact .s fU (.s [bx (aa a),bx [N3,N3,N3,(iA 0)]] (.s fU (.lv u3)))
   refine .bd (g:=fun (y:List Int)=>((bL 2 0 y.length false),[bx (aa a),bx [N3,N3,N3,(iA 0)],aw.row true 1 (y.map (cI .i64))])) (sV (e:=3) (es:=1) (f:=(cI .i64)) (z:=0) (z':=[(iA 0)]) r8 r8 r8 r8 rfl (by decide) (fun _=>rfl)) fun q=>.s ((A.mr 3),[bx (aa a),bx [N3,N3,N3,(iA 0)],aw.row true 1 (q.map (cI .i64)),fq .i64 iA (([]:List (Int×Int)))]) (.s2 (im (a.Ears.map aj) false) (.st (dV (e:=55)) (.as (Ac C n _ _ _ _ a4 p a2 u q.length a.Ears ((a.Ears.length:Int)) a ([]) ([]) ([]) 0 ?_ _ 0 q (([]:List (Int×Int))) (([]:List Int))))))
   ·intro a7 j k d b7 b8 b9 ba
    refine .un rfl (.cT r8 (.s2 (ag [(im (a.Net.Queue.map ah) false),(im (a.Net.Apart.map ai) false)]) (.s2 (iA a.Bar) (.st (az ..) (.s (ag [(im (a.Net.Queue.map ah) false),(im (a.Net.Apart.map ai) false),N3,(iA (wr .i64 (a.Bar+1)))]) (.s [bx (aa a),bx [(im (a.Net.Queue.map ah) false),(im (a.Net.Apart.map ai) false),N3,(iA (wr .i64 (a.Bar+1)))],aw.row true 1 (j.map (cI .i64)),fq .i64 iA k,aw.row false 1 (d.map (cI .i64))] (.s2 (im (a.Ears.map aj) false) (.st (dV (e:=55)) (.as (Ad C n _ _ _ _ a5 a2 u a7 a.Ears ((a.Ears.length:Int)) a a.Net.Queue a.Net.Apart (wr .i64 (a.Bar+1)) j k d ?_ _ 0 (([]:List aG))))))))))))
    ·intro c bc be bf bg bh bi bj
     refine .un rfl (.cT r8 (.s (ag [(im (a.Net.Queue.map ah) false),(im (a.Net.Apart.map ai) false),(bL 5 0 c.length false),(iA (wr .i64 (a.Bar+1)))]) (.s (ag [(im (a.Net.Queue.map ah) false),(im (a.Net.Apart.map ai) false),(bL 5 0 c.length false),(iA (wr .i64 (a.Bar+1)))]) (.s2 (iA a.Bar) (.bd (g:=fun (y:((List Int)×al×Int))=>(rK 78 [] [(A.ip [(im (y.1.map (cI .i64)) false)]),(A.ip (aa y.2.1)),(A.ip [(iA y.2.2)])])) (by show C 51 [snap [bx (aa a),(oN a c),aw.row true 1 (j.map (cI .i64)),fq .i64 iA k,aw.row false 1 (d.map (cI .i64)),aw.row false 3 (c.map aj)] (ag [(im (a.Net.Queue.map ah) false),(im (a.Net.Apart.map ai) false),(bL 5 0 c.length false),(iA (wr .i64 (a.Bar+1)))]),snap _ (iA a.Bar),snap [bx (aa a),(oN a c),aw.row true 1 (j.map (cI .i64)),fq .i64 iA k,aw.row false 1 (d.map (cI .i64)),aw.row false 3 (c.map aj)] (bL 4 0 d.length false)]=_; simp only[dQ,gb,cG (H:=[bx (aa a),(oN a c),aw.row true 1 (j.map (cI .i64)),fq .i64 iA k,aw.row false 1 (d.map (cI .i64)),aw.row false 3 (c.map aj)]) (b:=4) (es:=1) (l:=d) (eZ _) rfl,cG (H:=[bx (aa a),(oN a c),aw.row true 1 (j.map (cI .i64)),fq .i64 iA k,aw.row false 1 (d.map (cI .i64)),aw.row false 3 (c.map aj)]) (b:=5) (es:=3) (l:=c) du rfl]; exact a6 ((al.mk a.Net c (wr .i64 (a.Bar+1)))) a.Bar d) fun o=>.bb (.cl ((aO Hm).trans (M9 ..)) (.sq (pt 6 0) (.sq (pt 7 0) (.s ((pt 8 0),[bx (aa a),(oN a c),aw.row true 1 (j.map (cI .i64)),fq .i64 iA k,aw.row false 1 (d.map (cI .i64)),aw.row false 3 (c.map aj),(oN a c),bx [N3,N3,N3,(iA 0)],bx [(iA 0)]]) (.s (78,[(A.ip [(im (o.1.map (cI .i64)) false)]),(A.ip (aa o.2.1)),(A.ip [(iA o.2.2)])]) (.cT r8 (.cl ((ql Ho).trans (Nm ..)) (.s (im (o.1.map (cI .i64)) false) (.st (dV (e:=3)) (.as (Ae C n _ _ _ _ x a3 o.2.1 o.2.2 o.1 ((o.1.length:Int)) a a.Net.Queue a.Net.Apart (wr .i64 (a.Bar+1)) j k d c (wr .i64 (a.Bar+1)) ([]) ([]) ([]) 0 0 ?_ ?_ _ 0 a.Net.Queue a.Net.Apart))))))))))))))))
     ·intro r bk bl bm bn bo bp w5454 w5455 w5456 w5457 w5458 w5459 w5460 w5461 w5462 w5463
      exact .un rfl (.cr (.ok (.lp (Lf rfl) (.s fU (.s (iA r) (.cr (.lp (HO (L:=6) (v:=(tp [fU,(iA r)])) (by simp only[uB,eo,er,Nat.reduceLT,OW,fU])) (.cr (.s fU (.s (iA r) (.s [bx (aa a),bx [N3,N3,N3,(iA 0)],aw.row true 1 (j.map (cI .i64)),fq .i64 iA k,aw.row false 1 (d.map (cI .i64)),aw.row false 3 (c.map aj)] (.s fU (.lv u3)))))))))))))
     ·intro h i bq br bs bu bv bw w5472 w5473 w5474 w5475 w5476
      exact .un rfl (.cT r8 (.cr (.ok (.lp (Le rfl) (.s (ag [(im (h.map ah) false),(im (i.map ai) false),(bL 5 0 c.length false),(iA (wr .i64 (a.Bar+1)))]) (.s [w5472,w5473,w5474,w5475,w5476,aw.row false 3 (c.map aj),(lH h i c a),(lH h i c a),bx [(iA 0)],aw.dead] (.s [w5472,w5473,w5474,w5475,w5476,aw.row false 3 (c.map aj),(lH h i c a),(lH h i c a),bx [(iA 0)],aw.dead] (.s (ag [(im (h.map ah) false),(im (i.map ai) false),(bL 5 0 c.length false),(iA (wr .i64 (a.Bar+1)))]) (.s (iA 0) (.cr (.lp (HO (L:=6) (v:=(tp [(ag [(im (h.map ah) false),(im (i.map ai) false),(bL 5 0 c.length false),(iA (wr .i64 (a.Bar+1)))]),(iA 0)])) x6) (.cr (.s (ag [(im (h.map ah) false),(im (i.map ai) false),(bL 5 0 c.length false),(iA (wr .i64 (a.Bar+1)))]) (.s (iA 0) (.s [bx (aa a),(lH h i c a),aw.row true 1 (j.map (cI .i64)),fq .i64 iA k,aw.row false 1 (d.map (cI .i64)),aw.row false 3 (c.map aj)] (.s (ag [(im (h.map ah) false),(im (i.map ai) false),(bL 5 0 c.length false),(iA (wr .i64 (a.Bar+1)))]) (.lv (by show bR [bx (aa a),(lH h i c a),aw.row true 1 (j.map (cI .i64)),fq .i64 iA k,aw.row false 1 (d.map (cI .i64)),aw.row false 3 (c.map aj)] (tp [(ag [(im (h.map ah) false),(im (i.map ai) false),(bL 5 0 c.length false),(iA (wr .i64 (a.Bar+1)))]),(iA 0)])=_; first | (simp only[dQ,gb,bR,dN (H:=[bx (aa a),(lH h i c a),aw.row true 1 (j.map (cI .i64)),fq .i64 iA k,aw.row false 1 (d.map (cI .i64)),aw.row false 3 (c.map aj)]) (b:=5) (es:=3) (wr:=false) (l:=c) du rfl]; done) | (simp only[dQ,og,bR,dN (H:=[bx (aa a),(lH h i c a),aw.row true 1 (j.map (cI .i64)),fq .i64 iA k,aw.row false 1 (d.map (cI .i64)),aw.row false 3 (c.map aj)]) (b:=5) (es:=3) (wr:=false) (l:=c) du rfl]; first | done | rfl)))))))))))))))))))
def Ce (a:al) (b:(List Int)) (a2:(List Int)):Option (al×Int):=Ir aE a b a2
def zM (C:OT):Prop:=∀ (a:al) (b:(List Int)) (a2:(List Int)),C 19 [(ag (aa a)),(im (b.map (cI .i64)) false),(im (a2.map (cI .i64)) false)]=(Ce a b a2).map fun y=>(tp [(ag (aa y.1)),(iA y.2)])
def Ib:List ((al×Int)×(al×ba×Bool×Int)):=[((⟨⟨[],[]⟩,[⟨[],[],[]⟩,⟨[],[],[]⟩],0⟩,0),(⟨⟨[],[]⟩,[],0⟩,⟨0,0,0⟩,false,1)),
 ((⟨⟨[⟨0,1,[3,5,1,2,1,8,1,0,1,0,1,4]⟩,⟨0,1,[3,5,1,2,1,10,1,0,1,0,1,6]⟩,⟨0,2,[3,5,1,2,1,12,1,2,1,0,1,6]⟩],[]⟩,[⟨[],[],[]⟩,⟨[],[],[]⟩],0⟩,1),(⟨⟨[⟨0,1,[3,5,1,2,1,8,1,0,1,0,1,4]⟩,⟨0,2,[3,5,1,2,1,12,1,2,1,0,1,6]⟩],[]⟩,[⟨[⟨5,0,0,3⟩],[],[]⟩,⟨[],[],[]⟩],0⟩,⟨0,0,0⟩,false,0)),
 ((⟨⟨[⟨0,1,[3,5,1,2,1,8,1,0,1,0,1,4]⟩,⟨0,2,[3,5,1,2,1,12,1,2,1,0,1,6]⟩],[]⟩,[⟨[⟨5,0,0,3⟩],[],[]⟩,⟨[],[],[]⟩],0⟩,0),(⟨⟨[⟨0,2,[3,5,1,2,1,12,1,2,1,0,1,6]⟩],[]⟩,[⟨[⟨5,0,0,3⟩],[],[]⟩,⟨[],[],[]⟩],0⟩,⟨0,0,0⟩,false,0)),
 ((⟨⟨[⟨0,2,[3,5,1,2,1,12,1,2,1,0,1,6]⟩,⟨1,0,[3,4,1,4,1,0,1,0,1,6]⟩,⟨2,0,[3,4,1,4,1,2,1,0,1,0]⟩],[]⟩,[⟨[],[3],[3]⟩,⟨[],[0],[0]⟩],1⟩,0),(⟨⟨[⟨1,0,[3,4,1,4,1,0,1,0,1,6]⟩,⟨2,0,[3,4,1,4,1,2,1,0,1,0]⟩],[]⟩,[⟨[],[3],[3]⟩,⟨[],[0],[0]⟩],1⟩,⟨0,0,0⟩,false,0)),
 ((⟨⟨[⟨1,0,[3,4,1,4,1,0,1,0,1,6]⟩,⟨2,0,[3,4,1,4,1,2,1,0,1,0]⟩],[]⟩,[⟨[],[3],[3]⟩,⟨[],[0],[0]⟩],1⟩,0),(⟨⟨[⟨2,0,[3,4,1,4,1,2,1,0,1,0]⟩],[]⟩,[⟨[],[3],[3]⟩,⟨[],[0],[0]⟩],1⟩,⟨0,0,3⟩,true,0))]
def ED (a:al) (b:Int):Option (al×ba×Bool×Int):=BX Ib (a,b)
def DP (C:OT):Prop:=∀ (a:al) (b:Int),C 16 [(ag (aa a)),(iA b)]=(ED a b).map fun y=>(tp [(ag (aa y.1)),(ag (au y.2.1)),(bA y.2.2.1),(iA y.2.2.2)])
def nr (n:Nat) (b:(List Int)) (c:(List Int)):Nat->Int->Option ((Bool)⊕(Unit))
 | 0,_=>none
 | m+1,a=>bif (decide (a<((b.length:Int)))) then ((bl b a).bind fun d=>(bl c a).bind fun e=>bif (d != e) then (some ((Sum.inl false))) else (nr n b c m (wr .i64 (a+1)))) else (some ((Sum.inr (()))))
theorem Ap {w16:A} (f:(List Int)) (g:(List Int)) {K:((Bool)⊕(Unit))->Option γ} (i:∀ (h:Bool) (a:A) (b:A) (c:A),J φ (kr (St.mk [(0,a),(1,b),(4,(bA h)),(5,c)] [])) kL (K (Sum.inl h)) some) (j:∀ (a:A) (b:A) (k:A) (c:A),J φ (kx 0 (St.mk [(0,a),(1,b),(4,k),(5,c)] [])) kL (K (Sum.inr (()))) some) :
  ∀ (m:Nat) (d:Int),J φ (aA (cx C) (ec C n 8) (ey C n 8) (n+8) 55 0 0 0 kx kg kr kp m (St.mk [(0,(im (f.map (cI .i64)) false)),(1,(im (g.map (cI .i64)) false)),(4,w16),(5,(iA d))] [])) kL (nr n f g m d) K:=by
  refine nI (fun _=>.nn) fun m ih d=>.lp (GQ ..) ?_
  unfold nr
  refine .st (dV (e:=3)) (.st (aV ..) (.cj ?_ ?_))
  ·refine .bd (eR (e:=3) (es:=1)) fun l=>.s (iA l) (.bd (eR (e:=3) (es:=1)) fun o=>.s (iA o) (.st (aB ..) (.cj ?_ ?_)))
   ·exact .ex (i _ _ _ _)
   refine .st (az ..) (.s [] (.cT r8 ?_))
   exact ih _
  exact .ex (j _ _ _ _)
def JA (n:Nat) (a:(List Int)) (b:(List Int)):Option Bool:=
 bif (((a.length:Int)) != ((b.length:Int))) then (some false) else ((nr n a b (n+8) 0).bind fun IZ=>match IZ with | (Sum.inl c)=>some c | (Sum.inr _)=>some true)
theorem MF (C:OT) (n:Nat) (a:(List Int)) (b:(List Int)):TJ C n 55 [(im (a.map (cI .i64)) false),(im (b.map (cI .i64)) false)] (JA n a b) (fun y=>(bA y)):=by
 refine .lp (Nb ..) ?_
 unfold JA
 refine .st (dV (e:=3)) (.st (dV (e:=3)) (.st (aB ..) (.cj ?_ ?_)))
 ·exact .lv rfl
 refine .as (Ap C n _ _ _ _ a b ?_ ?_ _ 0)
 ·intro c d f g
  exact .un rfl (.lv rfl)
 ·intro h i j k
  exact .un rfl (.cT r8 (.lv rfl))
def IQ (a:(List Int)) (b:(List Int)):Option Bool:=JA aE a b
def zT (C:OT):Prop:=∀ (a:(List Int)) (b:(List Int)),C 55 [(im (a.map (cI .i64)) false),(im (b.map (cI .i64)) false)]=(IQ a b).map fun y=>(bA y)
def np (n:Nat) (e:(List aG)) (f:(List aG)) (a:Int):Nat->Int->Option ((Bool)⊕(Unit))
 | 0,_=>none
 | m+1,b=>(bl e a).bind fun g=>bif (decide (b<((g.Cues.length:Int)))) then ((bl e a).bind fun h=>(bl h.Cues b).bind fun c=>(bl f a).bind fun i=>(bl i.Cues b).bind fun d=>bif (!((c.No==d.No)&&((c.Role==d.Role)&&((c.Bar==d.Bar)&&(c.Program==d.Program))))) then (some ((Sum.inl false))) else (np n e f a m (wr .i64 (b+1)))) else (some ((Sum.inr (()))))
theorem Ah {w104:A} (c:(List aG)) (d:(List aG)) (f:Int) {K:((Bool)⊕(Unit))->Option γ} (j:∀ (i:Bool) (g:A),J φ (kr (St.mk [(0,(im (c.map aj) false)),(1,(im (d.map aj) false)),(4,(bA i)),(5,(iA f)),(6,g)] [])) kL (K (Sum.inl i)) some) (k:∀ (g:A),J φ (kx 2 (St.mk [(0,(im (c.map aj) false)),(1,(im (d.map aj) false)),(4,w104),(5,(iA f)),(6,g)] [])) kL (K (Sum.inr (()))) some) :
  ∀ (m:Nat) (h:Int),J φ (aA (cx C) (ec C n 8) (ey C n 8) (n+8) 22 0 1 0 kx kg kr kp m (St.mk [(0,(im (c.map aj) false)),(1,(im (d.map aj) false)),(4,w104),(5,(iA f)),(6,(iA h))] [])) kL (np n c d f m h) K:=by
  refine nI (fun _=>.nn) fun m ih h=>.lp (GM ..) ?_
  unfold np
  refine .bd (eR (e:=55) (es:=3)) fun l=>.s2 (im (l.Cues.map aD) false) (.st (dV (e:=30)) (.st (aV ..) (.cj ?_ ?_)))
  ·refine .bd (eR (e:=55) (es:=3)) fun o=>.s2 (im (o.Cues.map aD) false) (.bd (eR (e:=30) (es:=4)) fun a=>.s (ag (aD a)) (.bd (eR (e:=55) (es:=3)) fun p=>.s2 (im (p.Cues.map aD) false) (.bd (eR (e:=30) (es:=4)) fun b=>.s (ag (aD b)) (.s (bA (!((a.No==b.No)&&((a.Role==b.Role)&&((a.Bar==b.Bar)&&(a.Program==b.Program)))))) (.cj ?_ ?_)))))
   ·exact .ex (j _ _)
   refine .st (az ..) (.s [] (.cT r8 ?_))
   exact ih _
  exact .ex (k _)
def nm (n:Nat) (b:(List aG)) (c:(List aG)):Nat->Int->Option ((Bool)⊕(Unit))
 | 0,_=>none
 | m+1,a=>bif (decide (a<((b.length:Int)))) then ((bl b a).bind fun d=>(bl c a).bind fun e=>(bif (((d.Cues.length:Int)) != ((e.Cues.length:Int))) then (some true) else ((bl b a).bind fun f=>(bl c a).bind fun g=>(IQ f.Got g.Got).bind fun h=>some (!h))).bind fun i=>(bif i then (some true) else ((bl b a).bind fun j=>(bl c a).bind fun k=>(IQ j.Did k.Did).bind fun l=>some (!l))).bind fun o=>bif o then (some ((Sum.inl false))) else ((np n b c a (n+8) 0).bind fun p=>match p with | (Sum.inl q)=>some ((Sum.inl q)) | (Sum.inr _)=>nm n b c m (wr .i64 (a+1)))) else (some ((Sum.inr (()))))
theorem Ag (p:zT C) {w16:A} (d:(List aG)) (f:(List aG)) {K:((Bool)⊕(Unit))->Option γ} (q:∀ (r:Bool) (h:A) (i:A) (j:A),J φ (kr (St.mk [(0,h),(1,i),(4,(bA r)),(5,j)] [])) kL (K (Sum.inl r)) some) (x1:∀ (h:A) (i:A) (s4:A) (j:A),J φ (kx 0 (St.mk [(0,h),(1,i),(4,s4),(5,j)] [])) kL (K (Sum.inr (()))) some) :
  ∀ (m:Nat) (a:Int),J φ (aA (cx C) (ec C n 8) (ey C n 8) (n+8) 22 0 0 0 kx kg kr kp m (St.mk [(0,(im (d.map aj) false)),(1,(im (f.map aj) false)),(4,w16),(5,(iA a))] [])) kL (nm n d f m a) K:=by
  refine nI (fun _=>.nn) fun m ih a=>.lp (GL ..) ?_
  unfold nm
  refine .st (dV (e:=55)) (.st (aV ..) (.cj ?_ ?_))
  ·refine .bd (eR (e:=55) (es:=3)) fun ab=>.s2 (im (ab.Cues.map aD) false) (.st (dV (e:=30)) (.bd (eR (e:=55) (es:=3)) fun ad=>.s2 (im (ad.Cues.map aD) false) (.st (dV (e:=30)) (.st (aB ..) (.bg (fun t (y:Bool)=>∃ u v w x z a0 a1 a2 a3 a4 a5 a6:A,t=[(bA y),u,v,w,x,z,a0,a1,a2,a3,a4,a5,a6]) ?_ ?_)))))
   ·refine .bi ?_ ?_
    ·exact .lg ⟨_,_,_,_,_,_,_,_,_,_,_,_,rfl⟩
    exact .bd (eR (e:=55) (es:=3)) fun b=>.s (A.ip [(im (b.Got.map (cI .i64)) false),(im (b.Did.map (cI .i64)) false)]) (.s (im (b.Got.map (cI .i64)) false) (.bd (eR (e:=55) (es:=3)) fun c=>.s (A.ip [(im (c.Got.map (cI .i64)) false),(im (c.Did.map (cI .i64)) false)]) (.s (im (c.Got.map (cI .i64)) false) (.bd (g:=fun (y:Bool)=>(bA y)) (by simp only[dQ,gb]; exact p b.Got c.Got) fun ae=>.s (bA (!ae)) (.lg ⟨_,_,_,_,_,_,_,_,_,_,_,_,rfl⟩)))))
   rintro _ ag ⟨u,v,w,x,z,a0,a1,a2,a3,a4,a5,a6,rfl⟩
   refine .u4 (.u4 (.u4 (.uc (.Lc (.bg (fun t (y:Bool)=>∃ a7 a8:A,t=[(bA y),a7,a8]) ?_ ?_)))))
   ·refine .J3 (fun k=>?_) (fun k=>?_)
    ·exact .bb (.bd (eR (e:=55) (es:=3)) fun l=>.s (A.ip [(im (l.Did.map (cI .i64)) false)]) (.s (im (l.Did.map (cI .i64)) false) (.bd (eR (e:=55) (es:=3)) fun o=>.s (A.ip [(im (o.Did.map (cI .i64)) false)]) (.s (im (o.Did.map (cI .i64)) false) (.cr (.u4 (.u4 (.uc (.uc (.B7 k (.bd (g:=fun (y:Bool)=>(bA y)) (by simp only[dQ,gb]; exact p l.Did o.Did) fun af=>.s (bA (!af)) (.lg ⟨_,_,rfl⟩))))))))))))
    exact .bb (.cr (.u4 (.u4 (.uc (.uc (.AB k (.lg ⟨_,_,rfl⟩)))))))
   rintro _ ah ⟨a7,a8,rfl⟩
   refine .uc (.uc (.uc (.cj ?_ ?_)))
   ·exact .ex (q _ _ _ _)
   refine .as (Ah C n _ _ _ _ d f a ?_ ?_ _ 0)
   ·intro ai ak
    exact .un rfl (.ex (q _ _ _ _))
   ·intro al
    refine .un rfl (.cT r8 (.st (az ..) (.s [] (.cT r8 ?_))))
    exact ih _
  exact .ex (x1 _ _ _ _)
def Jx (n:Nat) (a:(List aG)) (b:(List aG)):Option Bool:=
 bif (((a.length:Int)) != ((b.length:Int))) then (some false) else ((nm n a b (n+8) 0).bind fun c=>match c with | (Sum.inl d)=>some d | (Sum.inr _)=>some true)
theorem Ms (C:OT) (n:Nat) (c:zT C) (a:(List aG)) (b:(List aG)):TJ C n 22 [(im (a.map aj) false),(im (b.map aj) false)] (Jx n a b) (fun y=>(bA y)):=by
 refine .lp (MW ..) ?_
 unfold Jx
 refine .st (dV (e:=55)) (.st (dV (e:=55)) (.st (aB ..) (.cj ?_ ?_)))
 ·exact .lv rfl
 refine .as (Ag C n _ _ _ _ c a b ?_ ?_ _ 0)
 ·intro d f g h
  exact .un rfl (.lv rfl)
 ·intro i j k l
  exact .un rfl (.cT r8 (.lv rfl))
def FL (a:(List aG)) (b:(List aG)):Option Bool:=Jx aE a b
def DS (C:OT):Prop:=∀ (a:(List aG)) (b:(List aG)),C 22 [(im (a.map aj) false),(im (b.map aj) false)]=(FL a b).map fun y=>(bA y)
def F7 (n:Nat)  : Option Bool:=
 (Ga 2).bind fun a=>(Ga 0).bind fun p=>(Ga 13).bind fun q=>(G9 a.1 ((bM.mk 0 0 0 9))).bind fun r=>(IM a.1 0).bind fun s=>(Ce a.1 ([]) ([0,2])).bind fun t=>(ED a.1 0).bind fun u=>(bif (a.2 != 0) then (some true) else (some (p.2 != 1))).bind fun v=>(bif v then (some true) else (some (q.2 != 1))).bind fun w=>(bif w then (some true) else (some (r.2 != 1))).bind fun x=>(bif x then (some true) else (some (s.2 != 1))).bind fun y=>(bif y then (some true) else (some (t.2 != 1))).bind fun z=>(bif z then (some true) else (some (u.2.2.2 != 1))).bind fun a0=>(bif a0 then (some true) else (some (((a.1.Ears.length:Int)) != 2))).bind fun a1=>(bif a1 then (some true) else ((DK a.1).bind fun a2=>some (a2 != 0))).bind fun a3=>(bif a3 then (some true) else ((DK ((al.mk ((bq.mk ([]) ([]))) ([]) 0))).bind fun a4=>some (a4 != 490))).bind fun a5=>bif a5 then (some false) else ((G9 a.1 ((bM.mk 4 0 0 2))).bind fun h=>(G9 h.1 ((bM.mk 5 0 0 3))).bind fun i=>(G9 i.1 ((bM.mk 6 1 0 3))).bind fun j=>(ED j.1 1).bind fun f=>(ED f.1 0).bind fun b=>(Ce b.1 ([]) ([0,1])).bind fun c=>(Ce b.1 ([]) ([0,0])).bind fun k=>(Ce b.1 ([0]) ([0,1])).bind fun l=>(bif (h.2 != 0) then (some true) else (some (i.2 != 0))).bind fun a6=>(bif a6 then (some true) else (some (j.2 != 0))).bind fun a7=>(bif a7 then (some true) else (some (f.2.2.2 != 0))).bind fun a8=>(bif a8 then (some true) else (some (b.2.2.2 != 0))).bind fun a9=>(bif a9 then (some true) else (some (c.2 != 0))).bind fun aa=>(bif aa then (some true) else (some (k.2 != 0))).bind fun ab=>(bif ab then (some true) else (some (l.2 != 0))).bind fun ad=>(bif ad then (some true) else (some f.2.2.1)).bind fun ae=>bif ae then (some false) else ((bif (((b.1.Ears.length:Int)) != 2) then (some true) else ((bl b.1.Ears 0).bind fun af=>some (((af.Cues.length:Int)) != 1))).bind fun ag=>(bif ag then (some true) else ((bl b.1.Ears 0).bind fun ah=>(bl ah.Cues 0).bind fun e=>some (!((e.No==5)&&((e.Role==0)&&((e.Bar==0)&&(e.Program==3))))))).bind fun ai=>(bif ai then (some true) else (some (((b.1.Net.Queue.length:Int)) != 1))).bind fun aj=>bif aj then (some false) else ((FL c.1.Ears ([(aG.mk ([]) ([3]) ([3])),(aG.mk ([]) ([0]) ([0]))])).bind fun ak=>(bif (!ak) then (some true) else ((FL k.1.Ears ([(aG.mk ([]) ([3]) ([0])),(aG.mk ([]) ([0]) ([0]))])).bind fun am=>some (!am))).bind fun an=>(bif an then (some true) else ((FL l.1.Ears ([(aG.mk ([]) ([0]) ([0])),(aG.mk ([]) ([0]) ([0]))])).bind fun ao=>some (!ao))).bind fun ap=>bif ap then (some false) else ((ED c.1 0).bind fun g=>(bif (g.2.2.2 != 0) then (some true) else (some (c.1.Bar != 1))).bind fun aq=>(bif aq then (some true) else (some (((c.1.Net.Queue.length:Int)) != 3))).bind fun ar=>(bif ar then (some true) else ((FL g.1.Ears c.1.Ears).bind fun au=>some (!au))).bind fun av=>bif av then (some false) else ((ED g.1 0).bind fun d=>(IM d.1 0).bind fun o=>(bif (d.2.2.2==0) then (some (o.2==0)) else (some false)).bind fun aw=>(bif aw then (some d.2.2.1) else (some false)).bind fun ax=>(bif ax then (some (((d.2.1.Role==0)&&((d.2.1.Bar==0)&&(d.2.1.Program==3))))) else (some false)).bind fun ay=>(bif ay then (some (((o.1.Net.Queue.length:Int))==2)) else (some false)).bind fun az=>some az)))))
theorem T7 (C:OT) (n:Nat) (a4:DN C) (a5:xM C) (x:DP C) (a0:zM C) (a6:DR C) (a1:DS C) (h9:Gm C):TJ C n 7 [] (F7 n ) (fun y=>(bA y)):=by
 refine .lp (e7 ..) ?_
 unfold F7
 refine .bd (a4 2) fun a=>.s (ag (aa a.1)) (.s (iA a.2) (.sq (pt 0 0) (.s [bx (aa a.1)] (.bd (a4 0) fun f=>.s (ag (aa f.1)) (.s (iA f.2) (.sq (pt 1 0) (.s [bx (aa a.1),bx (aa f.1)] (.bd (a4 13) fun h=>.s (ag (aa h.1)) (.s (iA h.2) (.sq (pt 2 0) (.s [bx (aa a.1),bx (aa f.1),bx (aa h.1)] (.s (ag (aa a.1)) (.s (ag [(iA 0),(iA 0),(iA 0),(iA 9)]) (.bd (g:=fun (y:(al×Int))=>(tp [(ag (aa y.1)),(iA y.2)])) (by simp only[dQ,gb]; exact h9 a.1 ((bM.mk 0 0 0 9))) fun i=>.s (ag (aa i.1)) (.s (iA i.2) (.sq (pt 3 0) (.s [bx (aa a.1),bx (aa f.1),bx (aa h.1),bx (aa i.1)] (.s (ag (aa a.1)) (.bd (g:=fun (y:(al×Int))=>(tp [(ag (aa y.1)),(iA y.2)])) (by simp only[dQ,gb]; exact a6 a.1 0) fun j=>?_)))))))))))))))))))
 refine .s (ag (aa j.1)) (.s (iA j.2) (.sq (pt 4 0) (.s [bx (aa a.1),bx (aa f.1),bx (aa h.1),bx (aa i.1),bx (aa j.1)] (.s (ag (aa a.1)) (.s (im [[(iA 0)],[(iA 2)]] true) (.bd (g:=fun (y:(al×Int))=>(tp [(ag (aa y.1)),(iA y.2)])) (by simp only[dQ,gb]; exact a0 a.1 ([]) ([0,2])) fun l=>.s (ag (aa l.1)) (.s (iA l.2) (.sq (pt 5 0) (.s [bx (aa a.1),bx (aa f.1),bx (aa h.1),bx (aa i.1),bx (aa j.1),bx (aa l.1)] (.s (ag (aa a.1)) (.bd (g:=fun (y:(al×ba×Bool×Int))=>(tp [(ag (aa y.1)),(ag (au y.2.1)),(bA y.2.2.1),(iA y.2.2.2)])) (by simp only[dQ,gb]; exact x a.1 0) fun b=>.s (ag (aa b.1)) (.s (ag (au b.2.1)) (.s (bA b.2.2.1) (.s (iA b.2.2.2) (.sq (pt 6 0) (.sq (pt 7 0) (.sh (.s [bx (aa a.1),bx (aa f.1),bx (aa h.1),bx (aa i.1),bx (aa j.1),bx (aa l.1),bx (aa b.1),bx (au b.2.1)] (.st (aB ..) (.bg (fun t (y:Bool)=>∃ a7 a8:A,t=[(bA y),a7,a8]) ?_ ?_))))))))))))))))))))
 ·refine .bi ?_ ?_
  ·exact .lg ⟨_,_,rfl⟩
  exact .st (aB ..) (.lg ⟨_,_,rfl⟩)
 rintro _ y9 ⟨a7,a8,rfl⟩
 refine .uc (.uc (.uc (.bg (fun t (y:Bool)=>∃ a9 ab:A,t=[(bA y),a9,ab]) ?_ ?_)))
 ·refine .bi ?_ ?_
  ·exact .lg ⟨_,_,rfl⟩
  exact .st (aB ..) (.lg ⟨_,_,rfl⟩)
 rintro _ du ⟨a9,ab,rfl⟩
 refine .uc (.uc (.uc (.bg (fun t (y:Bool)=>∃ ad ae:A,t=[(bA y),ad,ae]) ?_ ?_)))
 ·refine .bi ?_ ?_
  ·exact .lg ⟨_,_,rfl⟩
  exact .st (aB ..) (.lg ⟨_,_,rfl⟩)
 rintro _ dv ⟨ad,ae,rfl⟩
 refine .uc (.uc (.uc (.bg (fun t (y:Bool)=>∃ af ai:A,t=[(bA y),af,ai]) ?_ ?_)))
 ·refine .bi ?_ ?_
  ·exact .lg ⟨_,_,rfl⟩
  exact .st (aB ..) (.lg ⟨_,_,rfl⟩)
 rintro _ dw ⟨af,ai,rfl⟩
 refine .uc (.uc (.uc (.bg (fun t (y:Bool)=>∃ ak am:A,t=[(bA y),ak,am]) ?_ ?_)))
 ·refine .bi ?_ ?_
  ·exact .lg ⟨_,_,rfl⟩
  exact .st (aB ..) (.lg ⟨_,_,rfl⟩)
 rintro _ dx ⟨ak,am,rfl⟩
 refine .uc (.uc (.uc (.bg (fun t (y:Bool)=>∃ an ao:A,t=[(bA y),an,ao]) ?_ ?_)))
 ·refine .bi ?_ ?_
  ·exact .lg ⟨_,_,rfl⟩
  exact .st (aB ..) (.lg ⟨_,_,rfl⟩)
 rintro _ dy ⟨an,ao,rfl⟩
 refine .uc (.uc (.uc (.bg (fun t (y:Bool)=>∃ ap aq ar av:A,t=[(bA y),ap,aq,ar,av]) ?_ ?_)))
 ·refine .bi ?_ ?_
  ·exact .lg ⟨_,_,_,_,rfl⟩
  exact .s (pt 0 2) (.s (im (a.1.Ears.map aj) false) (.st (dV (e:=55)) (.st (aB ..) (.lg ⟨_,_,_,_,rfl⟩))))
 rintro _ dz ⟨ap,aq,ar,av,rfl⟩
 refine .u4 (.uc (.bg (fun t (y:Bool)=>∃ aw ax ay:A,t=[(bA y),aw,ax,ay]) ?_ ?_))
 ·refine .bi ?_ ?_
  ·exact .lg ⟨_,_,_,rfl⟩
  exact .s (ag (aa a.1)) (.bd (g:=fun (y:Int)=>(iA y)) (by simp only[dQ,gb]; exact a5 a.1) fun e0=>.st (aB ..) (.lg ⟨_,_,_,rfl⟩))
 rintro _ e1 ⟨aw,ax,ay,rfl⟩
 refine .u4 (.bg (fun t (y:Bool)=>∃ az b0 b1:A,t=[(bA y),az,b0,b1]) ?_ ?_)
 ·refine .bi ?_ ?_
  ·exact .lg ⟨_,_,_,rfl⟩
  exact .s (ag [N3,N3,N3,(iA 0)]) (.bd (g:=fun (y:Int)=>(iA y)) (by simp only[dQ,gb]; exact a5 ((al.mk ((bq.mk ([]) ([]))) ([]) 0))) fun e2=>.st (aB ..) (.lg ⟨_,_,_,rfl⟩))
 rintro _ e3 ⟨az,b0,b1,rfl⟩
 refine .u4 (.cj ?_ ?_)
 ·exact .lv rfl
 refine .s (ag (aa a.1)) (.s (ag [(iA 4),(iA 0),(iA 0),(iA 2)]) (.bd (g:=fun (y:(al×Int))=>(tp [(ag (aa y.1)),(iA y.2)])) (by simp only[dQ,gb]; exact h9 a.1 ((bM.mk 4 0 0 2))) fun o=>.s (ag (aa o.1)) (.s (iA o.2) (.sq (pt 8 0) (.s [bx (aa a.1),bx (aa f.1),bx (aa h.1),bx (aa i.1),bx (aa j.1),bx (aa l.1),bx (aa b.1),bx (au b.2.1),bx (aa o.1)] (.s (ag (aa o.1)) (.s (ag [(iA 5),(iA 0),(iA 0),(iA 3)]) (.bd (g:=fun (y:(al×Int))=>(tp [(ag (aa y.1)),(iA y.2)])) (by simp only[dQ,gb]; exact h9 o.1 ((bM.mk 5 0 0 3))) fun p=>.s (ag (aa p.1)) (.s (iA p.2) (.sq (pt 9 0) (.s [bx (aa a.1),bx (aa f.1),bx (aa h.1),bx (aa i.1),bx (aa j.1),bx (aa l.1),bx (aa b.1),bx (au b.2.1),bx (aa o.1),bx (aa p.1)] (.s (ag (aa p.1)) (.s (ag [(iA 6),(iA 1),(iA 0),(iA 3)]) (.bd (g:=fun (y:(al×Int))=>(tp [(ag (aa y.1)),(iA y.2)])) (by simp only[dQ,gb]; exact h9 p.1 ((bM.mk 6 1 0 3))) fun u=>.s (ag (aa u.1)) (.s (iA u.2) (.sq (pt 10 0) (.s [bx (aa a.1),bx (aa f.1),bx (aa h.1),bx (aa i.1),bx (aa j.1),bx (aa l.1),bx (aa b.1),bx (au b.2.1),bx (aa o.1),bx (aa p.1),bx (aa u.1)] (.s (ag (aa u.1)) (.bd (g:=fun (y:(al×ba×Bool×Int))=>(tp [(ag (aa y.1)),(ag (au y.2.1)),(bA y.2.2.1),(iA y.2.2.2)])) (by simp only[dQ,gb]; exact x u.1 1) fun d=>.s (ag (aa d.1)) ?_)))))))))))))))))))
 refine .s (ag (au d.2.1)) (.s (bA d.2.2.1) (.s (iA d.2.2.2) (.sq (pt 11 0) (.sq (pt 12 0) (.sh (.s [bx (aa a.1),bx (aa f.1),bx (aa h.1),bx (aa i.1),bx (aa j.1),bx (aa l.1),bx (aa b.1),bx (au b.2.1),bx (aa o.1),bx (aa p.1),bx (aa u.1),bx (aa d.1),bx (au d.2.1)] (.s (ag (aa d.1)) (.bd (g:=fun (y:(al×ba×Bool×Int))=>(tp [(ag (aa y.1)),(ag (au y.2.1)),(bA y.2.2.1),(iA y.2.2.2)])) (by simp only[dQ,gb]; exact x d.1 0) fun c=>.s (ag (aa c.1)) (.s (ag (au c.2.1)) (.s (bA c.2.2.1) (.s (iA c.2.2.2) (.sq (pt 13 0) (.sq (pt 14 0) (.sh (.s [bx (aa a.1),bx (aa f.1),bx (aa h.1),bx (aa i.1),bx (aa j.1),bx (aa l.1),bx (aa b.1),bx (au b.2.1),bx (aa o.1),bx (aa p.1),bx (aa u.1),bx (aa d.1),bx (au d.2.1),bx (aa c.1),bx (au c.2.1)] (.s (ag (aa c.1)) (.s (im [[(iA 0)],[(iA 1)]] true) (.bd (g:=fun (y:(al×Int))=>(tp [(ag (aa y.1)),(iA y.2)])) (by simp only[dQ,gb]; exact a0 c.1 ([]) ([0,1])) fun k=>.s (ag (aa k.1)) (.s (iA k.2) (.sq (pt 15 0) (.s [bx (aa a.1),bx (aa f.1),bx (aa h.1),bx (aa i.1),bx (aa j.1),bx (aa l.1),bx (aa b.1),bx (au b.2.1),bx (aa o.1),bx (aa p.1),bx (aa u.1),bx (aa d.1),bx (au d.2.1),bx (aa c.1),bx (au c.2.1),bx (aa k.1)] ?_)))))))))))))))))))))
 refine .s (ag (aa c.1)) (.s (im [[(iA 0)],[(iA 0)]] true) (.bd (g:=fun (y:(al×Int))=>(tp [(ag (aa y.1)),(iA y.2)])) (by simp only[dQ,gb]; exact a0 c.1 ([]) ([0,0])) fun v=>.s (ag (aa v.1)) (.s (iA v.2) (.sq (pt 16 0) (.s [bx (aa a.1),bx (aa f.1),bx (aa h.1),bx (aa i.1),bx (aa j.1),bx (aa l.1),bx (aa b.1),bx (au b.2.1),bx (aa o.1),bx (aa p.1),bx (aa u.1),bx (aa d.1),bx (au d.2.1),bx (aa c.1),bx (au c.2.1),bx (aa k.1),bx (aa v.1)] (.s (ag (aa c.1)) (.s (im [[(iA 0)]] true) (.s (im [[(iA 0)],[(iA 1)]] true) (.bd (g:=fun (y:(al×Int))=>(tp [(ag (aa y.1)),(iA y.2)])) (by simp only[dQ,gb]; exact a0 c.1 ([0]) ([0,1])) fun w=>.s (ag (aa w.1)) (.s (iA w.2) (.sq (pt 17 0) (.s [bx (aa a.1),bx (aa f.1),bx (aa h.1),bx (aa i.1),bx (aa j.1),bx (aa l.1),bx (aa b.1),bx (au b.2.1),bx (aa o.1),bx (aa p.1),bx (aa u.1),bx (aa d.1),bx (au d.2.1),bx (aa c.1),bx (au c.2.1),bx (aa k.1),bx (aa v.1),bx (aa w.1)] (.st (aB ..) (.bg (fun t (y:Bool)=>∃ b2 b3:A,t=[(bA y),b2,b3]) ?_ ?_))))))))))))))
 ·refine .bi ?_ ?_
  ·exact .lg ⟨_,_,rfl⟩
  exact .st (aB ..) (.lg ⟨_,_,rfl⟩)
 rintro _ e4 ⟨b2,b3,rfl⟩
 refine .uc (.uc (.uc (.bg (fun t (y:Bool)=>∃ b4 b5:A,t=[(bA y),b4,b5]) ?_ ?_)))
 ·refine .bi ?_ ?_
  ·exact .lg ⟨_,_,rfl⟩
  exact .st (aB ..) (.lg ⟨_,_,rfl⟩)
 rintro _ e5 ⟨b4,b5,rfl⟩
 refine .uc (.uc (.uc (.bg (fun t (y:Bool)=>∃ b6 b7:A,t=[(bA y),b6,b7]) ?_ ?_)))
 ·refine .bi ?_ ?_
  ·exact .lg ⟨_,_,rfl⟩
  exact .st (aB ..) (.lg ⟨_,_,rfl⟩)
 rintro _ e6 ⟨b6,b7,rfl⟩
 refine .uc (.uc (.uc (.bg (fun t (y:Bool)=>∃ b8 b9:A,t=[(bA y),b8,b9]) ?_ ?_)))
 ·refine .bi ?_ ?_
  ·exact .lg ⟨_,_,rfl⟩
  exact .st (aB ..) (.lg ⟨_,_,rfl⟩)
 rintro _ e8 ⟨b8,b9,rfl⟩
 refine .uc (.uc (.uc (.bg (fun t (y:Bool)=>∃ bb bc:A,t=[(bA y),bb,bc]) ?_ ?_)))
 ·refine .bi ?_ ?_
  ·exact .lg ⟨_,_,rfl⟩
  exact .st (aB ..) (.lg ⟨_,_,rfl⟩)
 rintro _ e9 ⟨bb,bc,rfl⟩
 refine .uc (.uc (.uc (.bg (fun t (y:Bool)=>∃ be bf:A,t=[(bA y),be,bf]) ?_ ?_)))
 ·refine .bi ?_ ?_
  ·exact .lg ⟨_,_,rfl⟩
  exact .st (aB ..) (.lg ⟨_,_,rfl⟩)
 rintro _ ea ⟨be,bf,rfl⟩
 refine .uc (.uc (.uc (.bg (fun t (y:Bool)=>∃ bh bj:A,t=[(bA y),bh,bj]) ?_ ?_)))
 ·refine .bi ?_ ?_
  ·exact .lg ⟨_,_,rfl⟩
  exact .st (aB ..) (.lg ⟨_,_,rfl⟩)
 rintro _ eb ⟨bh,bj,rfl⟩
 refine .uc (.uc (.uc (.bg (fun t (y:Bool)=>∃ bk:A,t=[(bA y),bk]) ?_ ?_)))
 ·refine .bi ?_ ?_
  ·exact .lg ⟨_,rfl⟩
  exact .lg ⟨_,rfl⟩
 rintro _ ec ⟨bk,rfl⟩
 refine .uc (.uc (.cj ?_ ?_))
 ·exact .lv rfl
 refine .s2 (im (c.1.Ears.map aj) false) (.st (dV (e:=55)) (.st (aB ..) (.bg (fun t (y:Bool)=>∃ bl bm bn bo bp br bs:A,t=[(bA y),bl,bm,bn,bo,bp,br,bs]) ?_ ?_)))
 ·refine .bi ?_ ?_
  ·exact .lg ⟨_,_,_,_,_,_,_,rfl⟩
  exact .s (pt 13 2) (.s (im (c.1.Ears.map aj) false) (.bd (eR (e:=55) (es:=3)) fun bu=>.s (A.ip (aj bu)) (.s (im (bu.Cues.map aD) false) (.st (dV (e:=30)) (.st (aB ..) (.lg ⟨_,_,_,_,_,_,_,rfl⟩))))))
 rintro _ ed ⟨bl,bm,bn,bo,bp,br,bs,rfl⟩
 refine .u4 (.u4 (.bg (fun t (y:Bool)=>∃ bv bw bz c0 c1 c2 c3 c4 c5:A,t=[(bA y),bv,bw,bz,c0,c1,c2,c3,c4,c5]) ?_ ?_))
 ·refine .bi ?_ ?_
  ·exact .lg ⟨_,_,_,_,_,_,_,_,_,rfl⟩
  exact .s (pt 13 2) (.s (im (c.1.Ears.map aj) false) (.bd (eR (e:=55) (es:=3)) fun c6=>.s (A.ip (aj c6)) (.s (im (c6.Cues.map aD) false) (.bd (eR (e:=30) (es:=4)) fun z=>.s (ag (aD z)) (.s (ag [(iA 5),(iA 0),(iA 0),(iA 3)]) (.s (bA (!((z.No==5)&&((z.Role==0)&&((z.Bar==0)&&(z.Program==3)))))) (.lg ⟨_,_,_,_,_,_,_,_,_,rfl⟩)))))))
 rintro _ ee ⟨bv,bw,bz,c0,c1,c2,c3,c4,c5,rfl⟩
 refine .u4 (.u4 (.uc (.uc (.bg (fun t (y:Bool)=>∃ c7 c8 c9 ca cb:A,t=[(bA y),c7,c8,c9,ca,cb]) ?_ ?_))))
 ·refine .bi ?_ ?_
  ·exact .lg ⟨_,_,_,_,_,rfl⟩
  exact .s (pt 13 0) (.s (pt 13 0) (.s (im (c.1.Net.Queue.map ah) false) (.st (dV (e:=48)) (.st (aB ..) (.lg ⟨_,_,_,_,_,rfl⟩)))))
 rintro _ ef ⟨c7,c8,c9,ca,cb,rfl⟩
 refine .u4 (.uc (.uc (.cj ?_ ?_)))
 ·exact .lv rfl
 refine .s2 (im (k.1.Ears.map aj) false) (.s (im [[(iA 3)]] true) (.s (im [[(iA 3)]] true) (.s (ag [N3,(im [[(iA 3)]] true),(im [[(iA 3)]] true)]) (.s (im [[(iA 0)]] true) (.s (im [[(iA 0)]] true) (.s (ag [N3,(im [[(iA 0)]] true),(im [[(iA 0)]] true)]) (.s (im [[(im [] false),(im [[(iA 3)]] false),(im [[(iA 3)]] false)],[(im [] false),(im [[(iA 0)]] false),(im [[(iA 0)]] false)]] true) (.bd (g:=fun (y:Bool)=>(bA y)) (by simp only[dQ,gb]; exact a1 k.1.Ears ([(aG.mk ([]) ([3]) ([3])),(aG.mk ([]) ([0]) ([0]))])) fun dp=>.s (bA (!dp)) (.bg (fun t (y:Bool)=>∃ cc cd ce cf cg ch ci ck cl cm cn:A,t=[(bA y),cc,cd,ce,cf,cg,ch,ci,ck,cl,cm,cn]) ?_ ?_)))))))))
 ·refine .bi ?_ ?_
  ·exact .lg ⟨_,_,_,_,_,_,_,_,_,_,_,rfl⟩
  exact .s (pt 16 2) (.s (im (v.1.Ears.map aj) false) (.s (im [[(iA 3)]] true) (.s (im [[(iA 0)]] true) (.s (ag [N3,(im [[(iA 3)]] true),(im [[(iA 0)]] true)]) (.s (im [[(iA 0)]] true) (.s (im [[(iA 0)]] true) (.s (ag [N3,(im [[(iA 0)]] true),(im [[(iA 0)]] true)]) (.s (im [[(im [] false),(im [[(iA 3)]] false),(im [[(iA 0)]] false)],[(im [] false),(im [[(iA 0)]] false),(im [[(iA 0)]] false)]] true) (.bd (g:=fun (y:Bool)=>(bA y)) (by simp only[dQ,gb]; exact a1 v.1.Ears ([(aG.mk ([]) ([3]) ([0])),(aG.mk ([]) ([0]) ([0]))])) fun dq=>.s (bA (!dq)) (.lg ⟨_,_,_,_,_,_,_,_,_,_,_,rfl⟩))))))))))
 rintro _ eg ⟨cc,cd,ce,cf,cg,ch,ci,ck,cl,cm,cn,rfl⟩
 refine .u4 (.u4 (.u4 (.bg (fun t (y:Bool)=>∃ co cp cq cr cs ct cu cv cw cx cy:A,t=[(bA y),co,cp,cq,cr,cs,ct,cu,cv,cw,cx,cy]) ?_ ?_)))
 ·refine .bi ?_ ?_
  ·exact .lg ⟨_,_,_,_,_,_,_,_,_,_,_,rfl⟩
  exact .s (pt 17 2) (.s (im (w.1.Ears.map aj) false) (.s (im [[(iA 0)]] true) (.s (im [[(iA 0)]] true) (.s (ag [N3,(im [[(iA 0)]] true),(im [[(iA 0)]] true)]) (.s (im [[(iA 0)]] true) (.s (im [[(iA 0)]] true) (.s (ag [N3,(im [[(iA 0)]] true),(im [[(iA 0)]] true)]) (.s (im [[(im [] false),(im [[(iA 0)]] false),(im [[(iA 0)]] false)],[(im [] false),(im [[(iA 0)]] false),(im [[(iA 0)]] false)]] true) (.bd (g:=fun (y:Bool)=>(bA y)) (by simp only[dQ,gb]; exact a1 w.1.Ears ([(aG.mk ([]) ([0]) ([0])),(aG.mk ([]) ([0]) ([0]))])) fun dr=>.s (bA (!dr)) (.lg ⟨_,_,_,_,_,_,_,_,_,_,_,rfl⟩))))))))))
 rintro _ eh ⟨co,cp,cq,cr,cs,ct,cu,cv,cw,cx,cy,rfl⟩
 refine .u4 (.u4 (.u4 (.cj ?_ ?_)))
 ·exact .lv rfl
 refine .s (ag (aa k.1)) (.bd (g:=fun (y:(al×ba×Bool×Int))=>(tp [(ag (aa y.1)),(ag (au y.2.1)),(bA y.2.2.1),(iA y.2.2.2)])) (by simp only[dQ,gb]; exact x k.1 0) fun q=>.s (ag (aa q.1)) (.s (ag (au q.2.1)) (.s (bA q.2.2.1) (.s (iA q.2.2.2) (.sq (pt 18 0) (.sq (pt 19 0) (.sh (.s [bx (aa a.1),bx (aa f.1),bx (aa h.1),bx (aa i.1),bx (aa j.1),bx (aa l.1),bx (aa b.1),bx (au b.2.1),bx (aa o.1),bx (aa p.1),bx (aa u.1),bx (aa d.1),bx (au d.2.1),bx (aa c.1),bx (au c.2.1),bx (aa k.1),bx (aa v.1),bx (aa w.1),bx (aa q.1),bx (au q.2.1)] (.st (aB ..) (.bg (fun t (y:Bool)=>∃ cz d0 d1:A,t=[(bA y),cz,d0,d1]) ?_ ?_))))))))))
 ·refine .bi ?_ ?_
  ·exact .lg ⟨_,_,_,rfl⟩
  exact .s (pt 15 3) (.s (iA k.1.Bar) (.st (aB ..) (.lg ⟨_,_,_,rfl⟩)))
 rintro _ ei ⟨cz,d0,d1,rfl⟩
 refine .u4 (.bg (fun t (y:Bool)=>∃ d2 d3 d4 d5 d6:A,t=[(bA y),d2,d3,d4,d5,d6]) ?_ ?_)
 ·refine .bi ?_ ?_
  ·exact .lg ⟨_,_,_,_,_,rfl⟩
  exact .s (pt 15 0) (.s (pt 15 0) (.s (im (k.1.Net.Queue.map ah) false) (.st (dV (e:=48)) (.st (aB ..) (.lg ⟨_,_,_,_,_,rfl⟩)))))
 rintro _ ej ⟨d2,d3,d4,d5,d6,rfl⟩
 refine .u4 (.uc (.uc (.bg (fun t (y:Bool)=>∃ d7 d8 d9 da db dc:A,t=[(bA y),d7,d8,d9,da,db,dc]) ?_ ?_)))
 ·refine .bi ?_ ?_
  ·exact .lg ⟨_,_,_,_,_,_,rfl⟩
  exact .s (pt 18 2) (.s (im (q.1.Ears.map aj) false) (.s (pt 15 2) (.s (im (k.1.Ears.map aj) false) (.bd (g:=fun (y:Bool)=>(bA y)) (by simp only[dQ,gb]; exact a1 q.1.Ears k.1.Ears) fun ds=>.s (bA (!ds)) (.lg ⟨_,_,_,_,_,_,rfl⟩)))))
 rintro _ ek ⟨d7,d8,d9,da,db,dc,rfl⟩
 refine .u4 (.uc (.uc (.uc (.cj ?_ ?_))))
 ·exact .lv rfl
 refine .s (ag (aa q.1)) (.bd (g:=fun (y:(al×ba×Bool×Int))=>(tp [(ag (aa y.1)),(ag (au y.2.1)),(bA y.2.2.1),(iA y.2.2.2)])) (by simp only[dQ,gb]; exact x q.1 0) fun r=>.s (ag (aa r.1)) (.s (ag (au r.2.1)) (.s (bA r.2.2.1) (.s (iA r.2.2.2) (.sq (pt 20 0) (.sq (pt 21 0) (.sh (.s [bx (aa a.1),bx (aa f.1),bx (aa h.1),bx (aa i.1),bx (aa j.1),bx (aa l.1),bx (aa b.1),bx (au b.2.1),bx (aa o.1),bx (aa p.1),bx (aa u.1),bx (aa d.1),bx (au d.2.1),bx (aa c.1),bx (au c.2.1),bx (aa k.1),bx (aa v.1),bx (aa w.1),bx (aa q.1),bx (au q.2.1),bx (aa r.1),bx (au r.2.1)] (.s (ag (aa r.1)) (.bd (g:=fun (y:(al×Int))=>(tp [(ag (aa y.1)),(iA y.2)])) (by simp only[dQ,gb]; exact a6 r.1 0) fun a3=>.s (ag (aa a3.1)) (.s (iA a3.2) (.sq (pt 22 0) (.s [bx (aa a.1),bx (aa f.1),bx (aa h.1),bx (aa i.1),bx (aa j.1),bx (aa l.1),bx (aa b.1),bx (au b.2.1),bx (aa o.1),bx (aa p.1),bx (aa u.1),bx (aa d.1),bx (au d.2.1),bx (aa c.1),bx (au c.2.1),bx (aa k.1),bx (aa v.1),bx (aa w.1),bx (aa q.1),bx (au q.2.1),bx (aa r.1),bx (au r.2.1),bx (aa a3.1)] (.st (bt ..) (.bg (fun t (y:Bool)=>∃ dd de:A,t=[(bA y),dd,de]) ?_ ?_)))))))))))))))
 ·refine .bi ?_ ?_
  ·exact .st (bt ..) (.lg ⟨_,_,rfl⟩)
  exact .lg ⟨_,_,rfl⟩
 rintro _ el ⟨dd,de,rfl⟩
 refine .uc (.uc (.uc (.bg (fun t (y:Bool)=>∃ df:A,t=[(bA y),df]) ?_ ?_)))
 ·refine .bi ?_ ?_
  ·exact .lg ⟨_,rfl⟩
  exact .lg ⟨_,rfl⟩
 rintro _ em ⟨df,rfl⟩
 refine .uc (.uc (.bg (fun t (y:Bool)=>∃ dg dh di:A,t=[(bA y),dg,dh,di]) ?_ ?_))
 ·refine .bi ?_ ?_
  ·exact .s (ag (au r.2.1)) (.s (ag [(iA 0),(iA 0),(iA 3)]) (.s (bA (((r.2.1.Role==0)&&((r.2.1.Bar==0)&&(r.2.1.Program==3))))) (.lg ⟨_,_,_,rfl⟩)))
  exact .lg ⟨_,_,_,rfl⟩
 rintro _ en ⟨dg,dh,di,rfl⟩
 refine .u4 (.bg (fun t (y:Bool)=>∃ dj dk dl dm dn:A,t=[(bA y),dj,dk,dl,dm,dn]) ?_ ?_)
 ·refine .bi ?_ ?_
  ·exact .s (pt 22 0) (.s (pt 22 0) (.s (im (a3.1.Net.Queue.map ah) false) (.st (dV (e:=48)) (.st (bt ..) (.lg ⟨_,_,_,_,_,rfl⟩)))))
  exact .lg ⟨_,_,_,_,_,rfl⟩
 rintro _ eo ⟨dj,dk,dl,dm,dn,rfl⟩
 exact .u4 (.uc (.uc (.lv rfl)))
def G7  : Option Bool:=F7 aE
def Gk (C:OT):Prop:=∀ (_:Unit),C 7 []=(G7 ).map fun y=>(bA y)
def It (n:Nat) (a:bq):Option Bool:=
 (bif (decide (((a.Queue.length:Int))<=40)) then (some (decide (((a.Apart.length:Int))<=40))) else (some false)).bind fun b=>some b
theorem Mt (C:OT) (n:Nat) (a:bq):TJ C n 23 [(ag [(im (a.Queue.map ah) false),(im (a.Apart.map ai) false)])] (It n a) (fun y=>(bA y)):=by
 refine .lp (MX ..) ?_
 unfold It
 refine .s ((pt 0 0),[bx [(im (a.Queue.map ah) false),(im (a.Apart.map ai) false)]]) (.s2 (im (a.Queue.map ah) false) (.st (dV (e:=48)) (.st (eH ..) (.bg (fun t (y:Bool)=>∃ b c d f:A,t=[(bA y),b,c,d,f]) ?_ ?_))))
 ·refine .bi ?_ ?_
  ·exact .s (pt 0 1) (.s (im (a.Apart.map ai) false) (.st (dV (e:=115)) (.st (eH ..) (.lg ⟨_,_,_,_,rfl⟩))))
  exact .lg ⟨_,_,_,_,rfl⟩
 rintro _ g ⟨b,c,d,f,rfl⟩
 exact .u4 (.uc (.lv rfl))
def Gb (a:bq):Option Bool:=It aE a
def DT (C:OT):Prop:=∀ (a:bq),C 23 [(ag [(im (a.Queue.map ah) false),(im (a.Apart.map ai) false)])]=(Gb a).map fun y=>(bA y)
def mL (n:Nat) (d:Bool) (b:al):Nat->Int->Option ((Bool)⊕(Unit))
 | 0,_=>none
 | m+1,c=>bif (decide (c<((b.Ears.length:Int)))) then ((bl b.Ears c).bind fun a=>(bif (decide (40<((a.Cues.length:Int)))) then (some true) else ((bif (decide (60<((a.Got.length:Int)))) then (some (decide (((a.Got.length:Int))<4094))) else (some false)).bind fun e=>some e)).bind fun f=>(bif f then (some true) else (some (decide (5000<((a.Got.length:Int)))))).bind fun g=>(bif g then (some true) else (some (decide (5000<((a.Did.length:Int)))))).bind fun h=>bif h then (some ((Sum.inl false))) else (mL n d b m (wr .i64 (c+1)))) else (some ((Sum.inr (()))))
theorem EO (g:Bool) (b:al) {K:((Bool)⊕(Unit))->Option γ} (x0:∀ (h:Bool) (c:A) (d:A) (q0:aw) (q1:aw),J φ (kr (St.mk [(1,c),(2,(bA h)),(4,d)] [q0,q1])) kL (K (Sum.inl h)) some) (x1:∀ (c:A) (s2:A) (d:A) (q0:aw),J φ (kx 0 (St.mk [(1,c),(2,s2),(4,d)] [q0])) kL (K (Sum.inr (()))) some) :
  ∀ (m:Nat) (f:Int),J φ (aA (cx C) (ec C n 8) (ey C n 8) (n+8) 8 0 0 1 kx kg kr kp m (St.mk [(1,(pt 0 0)),(2,(bA g)),(4,(iA f))] [bx (aa b)])) kL (mL n g b m f) K:=by
  refine nI (fun _=>.nn) fun m ih f=>.lp (JX ..) ?_
  unfold mL
  refine .s2 (im (b.Ears.map aj) false) (.st (dV (e:=55)) (.st (aV ..) (.cj ?_ ?_)))
  ·refine .s2 (im (b.Ears.map aj) false) (.bd (eR (e:=55) (es:=3)) fun a=>.s (ag (aj a)) (.sq (pt 1 0) (.s [bx (aa b),bx (aj a)] (.s2 (im (a.Cues.map aD) false) (.st (dV (e:=30)) (.st (dh ..) (.bg (fun t (y:Bool)=>∃ i j k l o p q r u w:A,t=[(bA y),i,j,k,l,o,p,q,r,u,w]) ?_ ?_)))))))
   ·refine .bi ?_ ?_
    ·exact .lg ⟨_,_,_,_,_,_,_,_,_,_,rfl⟩
    refine .s (pt 1 1) (.s (im (a.Got.map (cI .i64)) false) (.st (dV (e:=3)) (.st (dh ..) (.bg (fun t (y:Bool)=>∃ x z a0 a1:A,t=[(bA y),x,z,a0,a1]) ?_ ?_))))
    ·refine .bi ?_ ?_
     ·exact .s (pt 1 1) (.s (im (a.Got.map (cI .i64)) false) (.st (dV (e:=3)) (.st (aV ..) (.lg ⟨_,_,_,_,rfl⟩))))
     exact .lg ⟨_,_,_,_,rfl⟩
    rintro _ ae ⟨x,z,a0,a1,rfl⟩
    exact .u4 (.uc (.lg ⟨_,_,_,_,_,_,_,_,_,_,rfl⟩))
   rintro _ af ⟨i,j,k,l,o,p,q,r,u,w,rfl⟩
   refine .u4 (.u4 (.uc (.uc (.uc (.bg (fun t (y:Bool)=>∃ a2 a3 a4 a5:A,t=[(bA y),a2,a3,a4,a5]) ?_ ?_)))))
   ·refine .bi ?_ ?_
    ·exact .lg ⟨_,_,_,_,rfl⟩
    exact .s (pt 1 1) (.s (im (a.Got.map (cI .i64)) false) (.st (dV (e:=3)) (.st (dh ..) (.lg ⟨_,_,_,_,rfl⟩))))
   rintro _ ah ⟨a2,a3,a4,a5,rfl⟩
   refine .u4 (.uc (.bg (fun t (y:Bool)=>∃ a6 a7 a8 a9:A,t=[(bA y),a6,a7,a8,a9]) ?_ ?_))
   ·refine .bi ?_ ?_
    ·exact .lg ⟨_,_,_,_,rfl⟩
    exact .s (pt 1 2) (.s (im (a.Did.map (cI .i64)) false) (.st (dV (e:=3)) (.st (dh ..) (.lg ⟨_,_,_,_,rfl⟩))))
   rintro _ ai ⟨a6,a7,a8,a9,rfl⟩
   refine .u4 (.uc (.cj ?_ ?_))
   ·exact .ex (x0 _ _ _ _ _)
   refine .st (az ..) (.st (v:=[bx (aa b)]) (cU r8 x6) (.cT r8 ?_))
   exact ih _
  exact .ex (x1 _ _ _ _)
def F8 (n:Nat) (a:al):Option Bool:=
 (Gb a.Net).bind fun b=>(bif (!b) then (some true) else (some (decide (20<((a.Ears.length:Int)))))).bind fun c=>bif c then (some false) else ((mL n false a (n+8) 0).bind fun d=>match d with | (Sum.inl e)=>some e | (Sum.inr _)=>some true)
theorem T8 (C:OT) (n:Nat) (h:DT C) (a:al):TJ C n 8 [(ag (aa a))] (F8 n a) (fun y=>(bA y)):=by
 refine .lp (e8 ..) ?_
 unfold F8
 refine .s ((pt 0 0),[bx (aa a)]) (.s2 (ag [(im (a.Net.Queue.map ah) false),(im (a.Net.Apart.map ai) false)]) (.bd (g:=fun (y:Bool)=>(bA y)) (by simp only[dQ,gb]; exact h a.Net) fun i=>.s (bA (!i)) (.bg (fun t (y:Bool)=>∃ b c d f:A,t=[(bA y),b,c,d,f]) ?_ ?_)))
 ·refine .bi ?_ ?_
  ·exact .lg ⟨_,_,_,_,rfl⟩
  exact .s (pt 0 2) (.s (im (a.Ears.map aj) false) (.st (dV (e:=55)) (.st (dh ..) (.lg ⟨_,_,_,_,rfl⟩))))
 rintro _ j ⟨b,c,d,f,rfl⟩
 refine .u4 (.uc (.cj ?_ ?_))
 ·exact .lv rfl
 refine .as (EO C n _ _ _ _ false a ?_ ?_ _ 0)
 ·intro k l o w95 w96
  exact .un rfl (.lv rfl)
 ·intro p q r w100
  exact .un rfl (.cT r8 (.lv rfl))
def G8 (a:al):Option Bool:=F8 aE a
def Gl (C:OT):Prop:=∀ (a:al),C 8 [(ag (aa a))]=(G8 a).map fun y=>(bA y)
def jy (n:Nat) (b:(List Int)) (c:Int):Nat->Int->Option ((Bool)⊕(Unit))
 | 0,_=>none
 | m+1,a=>bif (decide (a<c)) then ((bl b a).bind fun d=>(bif (decide (d<0)) then (some true) else ((bl b a).bind fun e=>some (decide (a<e)))).bind fun f=>bif f then (some ((Sum.inl false))) else ((bl b a).bind fun g=>(bl b g).bind fun h=>(bl b a).bind fun i=>bif (h != i) then (some ((Sum.inl false))) else (jy n b c m (wr .i64 (a+1))))) else (some ((Sum.inr (()))))
theorem zZ {w15:A} (f:(List Int)) (g:Int) {K:((Bool)⊕(Unit))->Option γ} (h:∀ (i:Bool) (a:A) (b:A) (c:A),J φ (kr (St.mk [(0,a),(1,b),(4,(bA i)),(5,c)] [])) kL (K (Sum.inl i)) some) (r:∀ (a:A) (b:A) (u:A) (c:A),J φ (kx 0 (St.mk [(0,a),(1,b),(4,u),(5,c)] [])) kL (K (Sum.inr (()))) some) :
  ∀ (m:Nat) (d:Int),J φ (aA (cx C) (ec C n 8) (ey C n 8) (n+8) 18 0 0 0 kx kg kr kp m (St.mk [(0,(im (f.map (cI .i64)) false)),(1,(iA g)),(4,w15),(5,(iA d))] [])) kL (jy n f g m d) K:=by
  refine nI (fun _=>.nn) fun m ih d=>.lp (GG ..) ?_
  unfold jy
  refine .st (aV ..) (.cj ?_ ?_)
  ·refine .bd (eR (e:=3) (es:=1)) fun v=>.s (iA v) (.st (aV ..) (.bg (fun t (y:Bool)=>∃ j k l o p q:A,t=[(bA y),j,k,l,o,p,q]) ?_ ?_))
   ·refine .bi ?_ ?_
    ·exact .lg ⟨_,_,_,_,_,_,rfl⟩
    exact .bd (eR (e:=3) (es:=1)) fun w=>.s (iA w) (.st (dh ..) (.lg ⟨_,_,_,_,_,_,rfl⟩))
   rintro _ a1 ⟨j,k,l,o,p,q,rfl⟩
   refine .u4 (.uc (.uc (.uc (.cj ?_ ?_))))
   ·exact .ex (h _ _ _ _)
   refine .bd (eR (e:=3) (es:=1)) fun x=>.s (iA x) (.bd (eR (e:=3) (es:=1)) fun z=>.s (iA z) (.bd (eR (e:=3) (es:=1)) fun a0=>.s (iA a0) (.st (aB ..) (.cj ?_ ?_))))
   ·exact .ex (h _ _ _ _)
   refine .st (az ..) (.s [] (.cT r8 ?_))
   exact ih _
  exact .ex (r _ _ _ _)
def Iq (n:Nat) (a:(List Int)) (b:Int):Option Bool:=
 bif (((a.length:Int)) != b) then (some false) else ((jy n a b (n+8) 0).bind fun I0=>match I0 with | (Sum.inl c)=>some c | (Sum.inr _)=>some true)
theorem Mq (C:OT) (n:Nat) (a:(List Int)) (b:Int):TJ C n 18 [(im (a.map (cI .i64)) false),(iA b)] (Iq n a b) (fun y=>(bA y)):=by
 refine .lp (MU ..) ?_
 unfold Iq
 refine .st (dV (e:=3)) (.st (aB ..) (.cj ?_ ?_))
 ·exact .lv rfl
 refine .as (zZ C n _ _ _ _ a b ?_ ?_ _ 0)
 ·intro c d f g
  exact .un rfl (.lv rfl)
 ·intro h i j k
  exact .un rfl (.cT r8 (.lv rfl))
def FK (a:(List Int)) (b:Int):Option Bool:=Iq aE a b
def DQ (C:OT):Prop:=∀ (a:(List Int)) (b:Int),C 18 [(im (a.map (cI .i64)) false),(iA b)]=(FK a b).map fun y=>(bA y)
def mK (n:Nat) (f:(List Int)) (g:(List Int)) (h:Bool) (i:Int) (j:(List aG)) (k:Int) (l:Int) (b:(List bM)) (c:Int) (d:al) (o:al) (p:aG):Nat->Bool->Int->Int->Option (Bool×Int)
 | 0,_,_,_=>none
 | m+1,q,e,a=>bif (decide (a<c)) then ((bl b a).bind fun r=>bif (r.Bar==d.Bar) then (mK n f g h i j k l b c d o p m true e (wr .i64 (a+1))) else (mK n f g h i j k l b c d o p m q (wr .i64 (e+1)) (wr .i64 (a+1)))) else (some ((q,e)))
theorem EJ (d:(List Int)) (f:(List Int)) (i:Bool) (j:Int) (g:(List aG)) (k:Int) (l:Int) (h:(List bM)) (t:Int) (a:al) (b:al) (c:aG) {K:(Bool×Int)->Option γ} (x:∀ (u:Bool) (w:Int) (y:A) (z:A) (a0:A),J φ (kx 2 (St.mk [(1,(im (d.map (cI .i64)) false)),(2,(im (f.map (cI .i64)) false)),(3,(pt 0 0)),(6,(bA i)),(7,(pt 1 0)),(9,(iA j)),(10,(pt 2 0)),(11,(bA u)),(12,(iA w)),(63,(im (g.map aj) false)),(64,(iA k)),(65,(iA l)),(75,y),(76,z),(77,a0)] [bx (aa a),bx (aa b),bx (aj c)])) kL (K (u,w)) some) :
  ∀ (m:Nat) (o:Bool) (p:Int) (q:Int),J φ (aA (cx C) (ec C n 8) (ey C n 8) (n+8) 5 0 1 3 kx kg kr kp m (St.mk [(1,(im (d.map (cI .i64)) false)),(2,(im (f.map (cI .i64)) false)),(3,(pt 0 0)),(6,(bA i)),(7,(pt 1 0)),(9,(iA j)),(10,(pt 2 0)),(11,(bA o)),(12,(iA p)),(63,(im (g.map aj) false)),(64,(iA k)),(65,(iA l)),(75,(im (h.map aD) false)),(76,(iA t)),(77,(iA q))] [bx (aa a),bx (aa b),bx (aj c)])) kL (mK n d f i j g k l h t a b c m o p q) K:=by
  refine nI (fun _ _ _=>.nn) fun m ih o p q=>.lp (JU ..) ?_
  unfold mK
  refine .st (aV ..) (.cj ?_ ?_)
  ·refine .bd (eR (e:=30) (es:=4)) fun r=>.s (ag (aD r)) (.sq (pt 3 0) (.s [bx (aa a),bx (aa b),bx (aj c),bx (aD r)] (.s2 (iA r.Bar) (.s2 (iA a.Bar) (.st (bt ..) (.cj ?_ ?_))))))
   ·refine .st (az ..) (.st (v:=[bx (aa a),bx (aa b),bx (aj c)]) (cU r8 x6) (.cT ((by kernel_rfl:_=(bif ax 3 (d.map (cI .i64)) then (bif ax 3 (f.map (cI .i64)) then (bif ax 3 (g.map aj) then (bif ax 3 (h.map aD) then true else false) else false) else false) else false)).trans s5) ?_))
    exact ih _ _ _
   refine .st (az ..) (.st (az ..) (.st (v:=[bx (aa a),bx (aa b),bx (aj c)]) (cU r8 x6) (.cT ((by kernel_rfl:_=(bif ax 3 (d.map (cI .i64)) then (bif ax 3 (f.map (cI .i64)) then (bif ax 3 (g.map aj) then (bif ax 3 (h.map aD) then true else false) else false) else false) else false)).trans s5) ?_)))
   exact ih _ _ _
  exact .ex (x _ _ _ _ _)
def ot (n:Nat) (b:Int) (c:(List Int)) (d:Int):Nat->Bool->Int->Option (Bool)
 | 0,_,_=>none
 | m+1,e,a=>bif (decide (a<d)) then ((bl c a).bind fun f=>(bif e then (some (f != b)) else (some false)).bind fun g=>ot n b c d m g (wr .i64 (a+1))) else (some e)
theorem EK {w882 w883 w884 w885 w886 w887 w888 w889 w890 w891:A} {w892 w893 w894:aw} (a:Int) (d:(List Int)) (f:Int) {K:(Bool)->Option γ} (k:∀ (g:Bool) (l:A) (o:A) (p:A),J φ (kx 4 (St.mk [(1,w882),(2,w883),(3,w884),(6,w885),(7,w886),(9,(iA a)),(10,w887),(11,(bA g)),(12,w888),(63,w889),(64,w890),(65,w891),(89,l),(90,o),(91,p)] [w892,w893,w894])) kL (K g) some) :
  ∀ (m:Nat) (b:Bool) (c:Int),J φ (aA (cx C) (ec C n 8) (ey C n 8) (n+8) 5 0 2 3 kx kg kr kp m (St.mk [(1,w882),(2,w883),(3,w884),(6,w885),(7,w886),(9,(iA a)),(10,w887),(11,(bA b)),(12,w888),(63,w889),(64,w890),(65,w891),(89,(im (d.map (cI .i64)) false)),(90,(iA f)),(91,(iA c))] [w892,w893,w894])) kL (ot n a d f m b c) K:=by
  refine nI (fun _ _=>.nn) fun m ih b c=>.lp (JV ..) ?_
  unfold ot
  refine .st (aV ..) (.cj ?_ ?_)
  ·refine .bd (eR (e:=3) (es:=1)) fun q=>.s (iA q) (.bg (fun t (y:Bool)=>∃ h i j:A,t=[(bA y),h,i,j]) ?_ ?_)
   ·refine .bi ?_ ?_
    ·exact .st (aB ..) (.lg ⟨_,_,_,rfl⟩)
    exact .lg ⟨_,_,_,rfl⟩
   rintro _ r ⟨h,i,j,rfl⟩
   refine .u4 (.st (az ..) (.s [w892,w893,w894] (.cT r8 ?_)))
   exact ih _ _
  exact .ex (k _ _ _ _)
def ou (n:Nat) (i:(List Int)) (b:(List Int)) (j:Bool) (d:Int) (e:Bool) (k:(List aG)) (l:Int) (o:Int) (f:(List aG)) (g:Int) (c:al) (p:al) (q:aG):Nat->Int->Option ((Bool)⊕(Unit))
 | 0,_=>none
 | m+1,a=>bif (decide (a<g)) then ((bl f a).bind fun h=>(bif (!e) then ((bl b d).bind fun r=>(bl b a).bind fun s=>some (r==s)) else (some false)).bind fun t=>(bif t then (bif (((h.Did.length:Int)) != (wr .i64 (c.Bar+1))) then ((some (())).bind fun y=>(some (())).bind fun z=>some true) else (((bl h.Did c.Bar).bind fun u=>some (u != 0)).bind fun v=>(some v).bind fun w=>some w)) else ((some (())).bind fun a0=>some false)).bind fun x=>bif x then (some ((Sum.inl false))) else (ou n i b j d e k l o f g c p q m (wr .i64 (a+1)))) else (some ((Sum.inr (()))))
theorem EL (b:(List Int)) (c:(List Int)) (o:Bool) (a1:Int) (p:Bool) (d:(List aG)) (h:Int) (i:Int) (q:(List aG)) (a2:Int) (a:al) (f:al) (j:aG) {K:((Bool)⊕(Unit))->Option γ} (x0:∀ (o0:Bool) (r:A) (u:A) (w:A) (x:A) (z:A) (q0:aw) (q1:aw) (q2:aw) (q3:aw),J φ (kr (St.mk [(1,(im (b.map (cI .i64)) false)),(2,(im (c.map (cI .i64)) false)),(3,(pt 0 0)),(6,(bA o0)),(7,(pt 1 0)),(9,r),(11,u),(63,(im (d.map aj) false)),(64,(iA h)),(65,(iA i)),(117,w),(118,x),(119,z)] [q0,q1,q2,q3])) kL (K (Sum.inl o0)) some) (x1:∀ (r:A) (u:A) (w:A) (x:A) (z:A) (q2:aw),J φ (kx 6 (St.mk [(1,(im (b.map (cI .i64)) false)),(2,(im (c.map (cI .i64)) false)),(3,(pt 0 0)),(6,(bA o)),(7,(pt 1 0)),(9,r),(11,u),(63,(im (d.map aj) false)),(64,(iA h)),(65,(iA i)),(117,w),(118,x),(119,z)] [bx (aa a),bx (aa f),q2])) kL (K (Sum.inr (()))) some) :
  ∀ (m:Nat) (a0:Int),J φ (aA (cx C) (ec C n 8) (ey C n 8) (n+8) 5 0 3 3 kx kg kr kp m (St.mk [(1,(im (b.map (cI .i64)) false)),(2,(im (c.map (cI .i64)) false)),(3,(pt 0 0)),(6,(bA o)),(7,(pt 1 0)),(9,(iA a1)),(11,(bA p)),(63,(im (d.map aj) false)),(64,(iA h)),(65,(iA i)),(117,(im (q.map aj) false)),(118,(iA a2)),(119,(iA a0))] [bx (aa a),bx (aa f),bx (aj j)])) kL (ou n b c o a1 p d h i q a2 a f j m a0) K:=by
  refine nI (fun _=>.nn) fun m ih a0=>.lp (JW ..) ?_
  unfold ou
  refine .st (aV ..) (.cj ?_ ?_)
  ·refine .bd (eR (e:=55) (es:=3)) fun k=>.s (ag (aj k)) (.sq (pt 3 0) (.s [bx (aa a),bx (aa f),bx (aj j),bx (aj k)] (.s (bA (!p)) (.bg (fun t (y:Bool)=>∃ a4 a5 a6 a7 a8 a9 ab ad ae:A,t=[(bA y),a4,a5,a6,a7,a8,a9,ab,ad,ae]) ?_ ?_))))
   ·refine .bi ?_ ?_
    ·exact .bd (eR (e:=3) (es:=1)) fun ar=>.s (iA ar) (.bd (eR (e:=3) (es:=1)) fun au=>.s (iA au) (.st (bt ..) (.lg ⟨_,_,_,_,_,_,_,_,_,rfl⟩)))
    exact .lg ⟨_,_,_,_,_,_,_,_,_,rfl⟩
   rintro _ ay ⟨a4,a5,a6,a7,a8,a9,ab,ad,ae,rfl⟩
   refine .u4 (.u4 (.uc (.uc (.FI (.bg (fun t (y:Bool)=>∃ af:A,t=[(bA y),af]) ?_ ?_)))))
   ·refine .FY (fun l=>?_) (fun l=>?_)
    ·refine .bb (.s (pt 3 2) (.s (im (k.Did.map (cI .i64)) false) (.st (dV (e:=3)) (.s (pt 0 3) (.s (iA a.Bar) (.st (az ..) (.st (aB ..) (.J3 (fun g=>?_) (fun g=>?_)))))))))
     ·refine .bb (.s (pt 3 2) (.s (im (k.Did.map (cI .i64)) false) (.s (pt 0 3) (.s (iA a.Bar) (.cr (.u4 (.cr (.u4 (.u4 (.u4 (.bg (fun t (y:Bool)=>∃ ah ai:A,t=[(bA y),ah,ai]) ?_ ?_)))))))))))
      ·exact .lp (vz g) (.bd (eR (e:=3) (es:=1)) fun av=>.s (iA av) (.st (aB ..) (.lg ⟨_,_,rfl⟩)))
      rintro _ b0 ⟨ah,ai,rfl⟩
      refine .uc (.uc (.uc (.AB l (.bg (fun t (y:Bool) =>  t=(bA y)) ?_ ?_))))
      ·exact .B7 g (.lg rfl)
      rintro _ b1 rfl
      exact .lg ⟨_,rfl⟩
     refine .bb (.cr (.u4 (.cr (.u4 (.u4 (.u4 (.bg (fun t (y:Unit)=>∃ ak am:A,t=[(A.v undef),ak,am]) ?_ ?_)))))))
     ·exact .lp (vA g) (.lg ⟨_,_,rfl⟩)
     rintro _ b2 ⟨ak,am,rfl⟩
     refine .uc (.uc (.uc (.AB l (.bg (fun t (y:Unit) =>  t=(bA true)) ?_ ?_))))
     ·exact .AB g (.lg rfl)
     rintro _ b3 rfl
     exact .lg ⟨_,rfl⟩
    refine .bb (.cr (.u4 (.u4 (.u4 (.bg (fun t (y:Unit)=>∃ an ao:A,t=[(A.v undef),an,ao]) ?_ ?_)))))
    ·exact .gU (.lg ⟨_,_,rfl⟩)
    rintro _ b4 ⟨an,ao,rfl⟩
    exact .uc (.uc (.uc (.B7 l (.lg ⟨_,rfl⟩))))
   rintro _ b5 ⟨af,rfl⟩
   refine .uc (.uc (.cj ?_ ?_))
   ·exact .ex (x0 _ _ _ _ _ _ _ _ _ _)
   refine .st (az ..) (.st (v:=[bx (aa a),bx (aa f),bx (aj j)]) (cU r8 x6) (.cT ((by kernel_rfl:_=(bif ax 3 (b.map (cI .i64)) then (bif ax 3 (c.map (cI .i64)) then (bif ax 3 (d.map aj) then (bif ax 3 (q.map aj) then true else false) else false) else false) else false)).trans s5) ?_))
   exact ih _
  exact .ex (x1 _ _ _ _ _ _)
def om (n:Nat) (b:(List Int)) (h:(List Int)) (i:Bool) (e:(List aG)) (f:Int) (c:al) (d:al):Nat->Int->Option ((Bool)⊕((Bool)⊕(Unit)))
 | 0,_=>none
 | m+1,a=>bif (decide (a<f)) then ((bl e a).bind fun g=>(bl c.Ears a).bind fun j=>(mK n b h i a e f a j.Cues ((j.Cues.length:Int)) c d g (n+8) false 0 0).bind fun k=>match k with | (l,o)=>(ot n a b ((b.length:Int)) (n+8) l 0).bind fun p=>match p with | q=>(bif (((g.Cues.length:Int)) != o) then (some true) else (some (((g.Did.length:Int)) != (wr .i64 (c.Bar+1))))).bind fun r=>bif r then (some ((Sum.inl false))) else ((ou n b h i a q e f a d.Ears ((d.Ears.length:Int)) c d g (n+8) 0).bind fun s=>match s with | (Sum.inl t)=>some ((Sum.inr ((Sum.inl t)))) | (Sum.inr _)=>om n b h i e f c d m (wr .i64 (a+1)))) else (some ((Sum.inr ((Sum.inr (()))))))
theorem EI (d:(List Int)) (g:(List Int)) (r:Bool) (h:(List aG)) (u:Int) (b:al) (a:al) {K:((Bool)⊕((Bool)⊕(Unit)))->Option γ} (x0:∀ (i:Bool) (j:A) (s2:A) (k:A) (l:A) (o:A) (p:A) (q:A) (q0:aw) (q1:aw) (q2:aw),J φ (kr (St.mk [(1,j),(2,s2),(3,k),(6,(bA i)),(7,l),(63,o),(64,p),(65,q)] [q0,q1,q2])) kL (K (Sum.inl i)) some) (x1:∀ (i:Bool) (j:A) (s2:A) (k:A) (l:A) (o:A) (p:A) (q:A) (q0:aw) (q1:aw) (q2:aw) (q3:aw),J φ (kr (St.mk [(1,j),(2,s2),(3,k),(6,(bA i)),(7,l),(63,o),(64,p),(65,q)] [q0,q1,q2,q3])) kL (K (Sum.inr ((Sum.inl i)))) some) (x2:∀ (j:A) (s2:A) (k:A) (s6:A) (l:A) (o:A) (p:A) (q:A) (q0:aw) (q1:aw),J φ (kx 0 (St.mk [(1,j),(2,s2),(3,k),(6,s6),(7,l),(63,o),(64,p),(65,q)] [q0,q1])) kL (K (Sum.inr ((Sum.inr (()))))) some) :
  ∀ (m:Nat) (c:Int),J φ (aA (cx C) (ec C n 8) (ey C n 8) (n+8) 5 0 0 2 kx kg kr kp m (St.mk [(1,(im (d.map (cI .i64)) false)),(2,(im (g.map (cI .i64)) false)),(3,(pt 0 0)),(6,(bA r)),(7,(pt 1 0)),(63,(im (h.map aj) false)),(64,(iA u)),(65,(iA c))] [bx (aa b),bx (aa a)])) kL (om n d g r h u b a m c) K:=by
  refine nI (fun _=>.nn) fun m ih c=>.lp (JT ..) ?_
  unfold om
  refine .st (aV ..) (.cj ?_ ?_)
  ·refine .bd (eR (e:=55) (es:=3)) fun f=>.s (ag (aj f)) (.sq (pt 2 0) (.s [bx (aa b),bx (aa a),bx (aj f)] (.s2 (im (b.Ears.map aj) false) (.bd (eR (e:=55) (es:=3)) fun w=>.s2 (im (w.Cues.map aD) false) (.st (dV (e:=30)) (.as (EJ C n _ _ _ _ d g r c h u c w.Cues ((w.Cues.length:Int)) b a f ?_ _ false 0 0)))))))
   ·intro a9 ad ae af ah
    refine .un rfl (.cT r8 (.st (dV (e:=3)) (.as (EK C n _ _ _ _ c d ((d.length:Int)) ?_ _ a9 0))))
    ·intro ab ai ak am
     refine .un rfl (.cT r8 (.s2 (im (f.Cues.map aD) false) (.st (dV (e:=30)) (.st (aB ..) (.bg (fun t (y:Bool)=>∃ x z a0 a1 a2 a3 a4:A,t=[(bA y),x,z,a0,a1,a2,a3,a4]) ?_ ?_)))))
     ·refine .bi ?_ ?_
      ·exact .lg ⟨_,_,_,_,_,_,_,rfl⟩
      exact .s (pt 2 2) (.s (im (f.Did.map (cI .i64)) false) (.st (dV (e:=3)) (.s (pt 0 3) (.s (iA b.Bar) (.st (az ..) (.st (aB ..) (.lg ⟨_,_,_,_,_,_,_,rfl⟩)))))))
     rintro _ an ⟨x,z,a0,a1,a2,a3,a4,rfl⟩
     refine .u4 (.u4 (.cj ?_ ?_))
     ·exact .ex (x0 _ _ _ _ _ _ _ _ _ _ _)
     refine .s2 (im (a.Ears.map aj) false) (.st (dV (e:=55)) (.as (EL C n _ _ _ _ d g r c ab h u c a.Ears ((a.Ears.length:Int)) b a f ?_ ?_ _ 0)))
     ·intro ao ap aq ar au av w2175 w2176 w2177 w2178
      exact .un rfl (.ex (x1 _ _ _ _ _ _ _ _ _ _ _ _))
     ·intro ay b0 b1 b2 b3 w2184
      refine .un rfl (.cT r8 (.st (az ..) (.st (v:=[bx (aa b),bx (aa a)]) (cU r8 x6) (.cT ((by kernel_rfl:_=(bif ax 2 (d.map (cI .i64)) then (bif ax 2 (g.map (cI .i64)) then (bif ax 2 (h.map aj) then true else false) else false) else false)).trans s5) ?_))))
      exact ih _
  exact .ex (x2 _ _ _ _ _ _ _ _ _ _)
def F5 (n:Nat) (a:al) (c:(List Int)) (a2:(List Int)):Option Bool:=
 (G7 ).bind fun d=>bif (!d) then (some false) else ((G8 a).bind fun e=>(bif (!e) then (some true) else (some (decide (50<a.Bar)))).bind fun f=>(bif f then (some true) else (some (decide (20<((c.length:Int)))))).bind fun g=>(bif g then (some true) else ((FK a2 ((a.Ears.length:Int))).bind fun h=>some (!h))).bind fun i=>bif i then (some true) else ((Ce a c a2).bind fun b=>bif (b.2 != 0) then (some (((b.1.Ears.length:Int))==0)) else (bif (((b.1.Ears.length:Int)) != ((a.Ears.length:Int))) then (some false) else ((om n c a2 false b.1.Ears ((b.1.Ears.length:Int)) a b.1 (n+8) 0).bind fun j=>match j with | (Sum.inl k)=>some k | (Sum.inr ((Sum.inl l)))=>some l | (Sum.inr ((Sum.inr _)))=>some true))))
theorem T5 (C:OT) (n:Nat) (v:DQ C) (w:zM C) (x:Gk C) (z:Gl C) (a:al) (c:(List Int)) (a2:(List Int)):TJ C n 5 [(ag (aa a)),(im (c.map (cI .i64)) false),(im (a2.map (cI .i64)) false)] (F5 n a c a2) (fun y=>(bA y)):=by
 refine .lp (e5 ..) ?_
 unfold F5
 refine .s ((pt 0 0),[bx (aa a)]) (.bd (x ()) fun y1=>.s (bA (!y1)) (.cj ?_ ?_))
 ·exact .lv rfl
 refine .s (ag (aa a)) (.bd (g:=fun (y:Bool)=>(bA y)) (by simp only[dQ,gb]; exact z a) fun y3=>.s (bA (!y3)) (.bg (fun t (y:Bool)=>∃ d f h:A,t=[(bA y),d,f,h]) ?_ ?_))
 ·refine .bi ?_ ?_
  ·exact .lg ⟨_,_,_,rfl⟩
  exact .s (pt 0 3) (.s (iA a.Bar) (.st (dh ..) (.lg ⟨_,_,_,rfl⟩)))
 rintro _ y5 ⟨d,f,h,rfl⟩
 refine .u4 (.bg (fun t (y:Bool)=>∃ i j k:A,t=[(bA y),i,j,k]) ?_ ?_)
 ·refine .bi ?_ ?_
  ·exact .lg ⟨_,_,_,rfl⟩
  exact .st (dV (e:=3)) (.st (dh ..) (.lg ⟨_,_,_,rfl⟩))
 rintro _ a7 ⟨i,j,k,rfl⟩
 refine .u4 (.bg (fun t (y:Bool)=>∃ l o p q r u:A,t=[(bA y),l,o,p,q,r,u]) ?_ ?_)
 ·refine .bi ?_ ?_
  ·exact .lg ⟨_,_,_,_,_,_,rfl⟩
  exact .s (pt 0 2) (.s (im (a.Ears.map aj) false) (.st (dV (e:=55)) (.bd (g:=fun (y:Bool)=>(bA y)) (by simp only[dQ,gb]; exact v a2 ((a.Ears.length:Int))) fun a5=>.s (bA (!a5)) (.lg ⟨_,_,_,_,_,_,rfl⟩))))
 rintro _ a8 ⟨l,o,p,q,r,u,rfl⟩
 refine .u4 (.uc (.uc (.uc (.cj ?_ ?_))))
 ·exact .lv rfl
 refine .s (ag (aa a)) (.bd (g:=fun (y:(al×Int))=>(tp [(ag (aa y.1)),(iA y.2)])) (by simp only[dQ,gb]; exact w a c a2) fun b=>.s (ag (aa b.1)) (.s (iA b.2) (.sq (pt 1 0) (.s [bx (aa a),bx (aa b.1)] (.st (aB ..) (.cj ?_ ?_))))))
 ·exact .s2 (im (b.1.Ears.map aj) false) (.st (dV (e:=55)) (.st (bt ..) (.lv rfl)))
 refine .s2 (im (b.1.Ears.map aj) false) (.st (dV (e:=55)) (.s2 (im (a.Ears.map aj) false) (.st (dV (e:=55)) (.st (aB ..) (.cj ?_ ?_)))))
 ·exact .lv rfl
 refine .s2 (im (b.1.Ears.map aj) false) (.st (dV (e:=55)) (.as (EI C n _ _ _ _ c a2 false b.1.Ears ((b.1.Ears.length:Int)) a b.1 ?_ ?_ ?_ _ 0)))
 ·intro a9 ab ad ae af ah ai ak w2194 w2195 w2196
  exact .un rfl (.lv rfl)
 ·intro am an ao ap aq ar au av w2205 w2206 w2207 w2208
  exact .un rfl (.lv rfl)
 ·intro aw ax ay az b0 b1 b2 b3 w2217 w2218
  exact .un rfl (.cT r8 (.lv rfl))
def G5 (a:al) (b:(List Int)) (a2:(List Int)):Option Bool:=F5 aE a b a2
end Go.Proofs.Ytebkhfhcipnfgaa
