/-
 The program's functions as plain functions: by a tool; each follows the interpreter.
-/
import Derived.Test.YtebkhfhcipnfgaaGreatT1
namespace Go.Proofs.YtebkhfhcipnfgaaGreat
open Go.Proofs.Tryz (prog)
set_option linter.unusedVariables false
set_option linter.unusedSimpArgs false
set_option maxHeartbeats 4000000
set_option maxRecDepth 100000
set_option linter.defProp false
theorem Ya {p:Prop} (h:p:=by simp only[uB,eY,wG,eZ,Nat.reduceLT,decide_true,bo]):p:=h
variable (C:Nat->List A->Option A) (n:Nat) {ρ γ:Type} {φ:ρ->γ->Prop} {kL:R->Option ρ} (kx kg:Nat->St->Option R) (kr:St->Option R) (kp:A->St->Option R)
def qC (a:Int) (b:Int) (c:ByteArray) (d:(List ar)):aC:=bx [(iA a),(iA b),(sA c),(bM 3 0 d.length false)]
def jj (n:Nat) (c:Int) (b:aU) (e:Int) (f:Int) (g:ByteArray):Nat->Int->(List ar)->Option ((List ar))
 | 0,_,_=>none
 | m+1,a,d=>bif (decide (a<c)) then (bif decide (a=0) then ((cQ 56 d ([(ar.mk 1 b.kind iK ([]))])).bind fun h=>jj n c b e f g m (wr .i64 (a+1)) h) else bif decide (a=1) then ((cQ 56 d ([(ar.mk 1 b.cue.No iK ([]))])).bind fun i=>jj n c b e f g m (wr .i64 (a+1)) i) else bif decide (a=2) then ((cQ 56 d ([(ar.mk 1 b.cue.Role iK ([]))])).bind fun j=>jj n c b e f g m (wr .i64 (a+1)) j) else bif decide (a=3) then ((cQ 56 d ([(ar.mk 1 b.cue.Bar iK ([]))])).bind fun k=>jj n c b e f g m (wr .i64 (a+1)) k) else bif decide (a=4) then ((cQ 56 d ([(ar.mk 1 b.cue.Program iK ([]))])).bind fun l=>jj n c b e f g m (wr .i64 (a+1)) l) else none) else (some d)
theorem Dk {w95:A} (k:Int) (a:aU) (d:Int) (e:Int) (h:ByteArray) {K:((List ar))->Option γ} (u:∀ (i:(List ar)) (s2:A) (w:A) (x:A) (z:A) (q0:aC) (q2:aC),J φ (kx 0 (St.mk [(2,s2),(3,(pt 1 0)),(9,w),(10,x),(11,z)] [q0,bx [(iA d),(iA e),(sA h),(bM 3 0 i.length false)],q2,aC.row false 4 (i.map ax)])) kL (K i) some) :
  ∀ (m:Nat) (j:Int) (c:(List ar)),J φ (aE (cx C) (ec C n 8) (ey C n 8) (n+8) 54 0 0 4 kx kg kr kp m (St.mk [(2,w95),(3,(pt 1 0)),(9,(bM 2 0 5 false)),(10,(iA k)),(11,(iA j))] [bx (az a),(qC d e h c),aC.row true 1 [[(pt 0 0)],[(pt 0 1)],[(pt 0 2)],[(pt 0 3)],[(pt 0 4)],[(pt 0 0)],[(pt 0 5)],[(pt 0 6)],[(pt 0 7)]],aC.row false 4 (c.map ax)])) kL (jj n k a d e h m j c) K:=by
  refine nI (fun _ _=>.nn) fun m ih j c=>.lp (I5 ..) ?_
  unfold jj
  refine .st (aS ..) (.bQ ?_ ?_)
  ·refine .sp (fun a0=>?_) (fun _=>?_)
   ·refine .st (v:=(A.ep 2 0 0)) (by rw[Yr a0]; kernel_rfl) (.s (pt 0 0) (.s2 (bM 3 0 c.length false) (.s (pt 0 0) (.s (iA a.kind) (.s (ag [(iA 1),(iA a.kind),se,Ye]) (.s (im [[(iA 1),(iA a.kind),se,(im [] false)]] true) (.bd (g:=fun (y:List ar)=>((bM 3 0 y.length false),[bx (az a),(qC d e h c),aC.row true 1 [[(pt 0 0)],[(pt 0 1)],[(pt 0 2)],[(pt 0 3)],[(pt 0 4)],[(pt 0 0)],[(pt 0 5)],[(pt 0 6)],[(pt 0 7)]],aC.row false 4 (y.map ax)])) (bZ eJ (l:=c) (l2:=[(ar.mk 1 a.kind iK ([]))]) (b:=3) rfl (by decide) (gE (f:=ax) (l:=([(ar.mk 1 a.kind iK ([]))]:List ar)) XY)) fun o=>.s (pt 1 3) (.sh (.st (aF ..) (.s [bx (az a),bx [(iA d),(iA e),(sA h),(bM 3 0 o.length false)],aC.row true 1 [[(pt 0 0)],[(pt 0 1)],[(pt 0 2)],[(pt 0 3)],[(pt 0 4)],[(pt 0 0)],[(pt 0 5)],[(pt 0 6)],[(pt 0 7)]],aC.row false 4 (o.map ax)] (.cT r8 ?_)))))))))))
    exact ih _ _
   refine .sp (fun a1=>?_) (fun _=>?_)
   ·refine .st (v:=(A.ep 2 1 0)) (by rw[Yr a1]; kernel_rfl) (.s (pt 0 1) (.s2 (bM 3 0 c.length false) (.s (pt 0 1) (.s (iA a.cue.No) (.s (ag [(iA 1),(iA a.cue.No),se,Ye]) (.s (im [[(iA 1),(iA a.cue.No),se,(im [] false)]] true) (.bd (g:=fun (y:List ar)=>((bM 3 0 y.length false),[bx (az a),(qC d e h c),aC.row true 1 [[(pt 0 0)],[(pt 0 1)],[(pt 0 2)],[(pt 0 3)],[(pt 0 4)],[(pt 0 0)],[(pt 0 5)],[(pt 0 6)],[(pt 0 7)]],aC.row false 4 (y.map ax)])) (bZ eJ (l:=c) (l2:=[(ar.mk 1 a.cue.No iK ([]))]) (b:=3) rfl (by decide) (gE (f:=ax) (l:=([(ar.mk 1 a.cue.No iK ([]))]:List ar)) XY)) fun p=>.s (pt 1 3) (.sh (.st (aF ..) (.s [bx (az a),bx [(iA d),(iA e),(sA h),(bM 3 0 p.length false)],aC.row true 1 [[(pt 0 0)],[(pt 0 1)],[(pt 0 2)],[(pt 0 3)],[(pt 0 4)],[(pt 0 0)],[(pt 0 5)],[(pt 0 6)],[(pt 0 7)]],aC.row false 4 (p.map ax)] (.cT r8 ?_)))))))))))
    exact ih _ _
   refine .sp (fun a2=>?_) (fun _=>?_)
   ·refine .st (v:=(A.ep 2 2 0)) (by rw[Yr a2]; kernel_rfl) (.s (pt 0 2) (.s2 (bM 3 0 c.length false) (.s (pt 0 2) (.s (iA a.cue.Role) (.s (ag [(iA 1),(iA a.cue.Role),se,Ye]) (.s (im [[(iA 1),(iA a.cue.Role),se,(im [] false)]] true) (.bd (g:=fun (y:List ar)=>((bM 3 0 y.length false),[bx (az a),(qC d e h c),aC.row true 1 [[(pt 0 0)],[(pt 0 1)],[(pt 0 2)],[(pt 0 3)],[(pt 0 4)],[(pt 0 0)],[(pt 0 5)],[(pt 0 6)],[(pt 0 7)]],aC.row false 4 (y.map ax)])) (bZ eJ (l:=c) (l2:=[(ar.mk 1 a.cue.Role iK ([]))]) (b:=3) rfl (by decide) (gE (f:=ax) (l:=([(ar.mk 1 a.cue.Role iK ([]))]:List ar)) XY)) fun q=>.s (pt 1 3) (.sh (.st (aF ..) (.s [bx (az a),bx [(iA d),(iA e),(sA h),(bM 3 0 q.length false)],aC.row true 1 [[(pt 0 0)],[(pt 0 1)],[(pt 0 2)],[(pt 0 3)],[(pt 0 4)],[(pt 0 0)],[(pt 0 5)],[(pt 0 6)],[(pt 0 7)]],aC.row false 4 (q.map ax)] (.cT r8 ?_)))))))))))
    exact ih _ _
   refine .sp (fun a3=>?_) (fun _=>?_)
   ·refine .st (v:=(A.ep 2 3 0)) (by rw[Yr a3]; kernel_rfl) (.s (pt 0 3) (.s2 (bM 3 0 c.length false) (.s (pt 0 3) (.s (iA a.cue.Bar) (.s (ag [(iA 1),(iA a.cue.Bar),se,Ye]) (.s (im [[(iA 1),(iA a.cue.Bar),se,(im [] false)]] true) (.bd (g:=fun (y:List ar)=>((bM 3 0 y.length false),[bx (az a),(qC d e h c),aC.row true 1 [[(pt 0 0)],[(pt 0 1)],[(pt 0 2)],[(pt 0 3)],[(pt 0 4)],[(pt 0 0)],[(pt 0 5)],[(pt 0 6)],[(pt 0 7)]],aC.row false 4 (y.map ax)])) (bZ eJ (l:=c) (l2:=[(ar.mk 1 a.cue.Bar iK ([]))]) (b:=3) rfl (by decide) (gE (f:=ax) (l:=([(ar.mk 1 a.cue.Bar iK ([]))]:List ar)) XY)) fun r=>.s (pt 1 3) (.sh (.st (aF ..) (.s [bx (az a),bx [(iA d),(iA e),(sA h),(bM 3 0 r.length false)],aC.row true 1 [[(pt 0 0)],[(pt 0 1)],[(pt 0 2)],[(pt 0 3)],[(pt 0 4)],[(pt 0 0)],[(pt 0 5)],[(pt 0 6)],[(pt 0 7)]],aC.row false 4 (r.map ax)] (.cT r8 ?_)))))))))))
    exact ih _ _
   refine .sp (fun a4=>?_) (fun _=>?_)
   ·refine .st (v:=(A.ep 2 4 0)) (by rw[Yr a4]; kernel_rfl) (.s (pt 0 4) (.s2 (bM 3 0 c.length false) (.s (pt 0 4) (.s (iA a.cue.Program) (.s (ag [(iA 1),(iA a.cue.Program),se,Ye]) (.s (im [[(iA 1),(iA a.cue.Program),se,(im [] false)]] true) (.bd (g:=fun (y:List ar)=>((bM 3 0 y.length false),[bx (az a),(qC d e h c),aC.row true 1 [[(pt 0 0)],[(pt 0 1)],[(pt 0 2)],[(pt 0 3)],[(pt 0 4)],[(pt 0 0)],[(pt 0 5)],[(pt 0 6)],[(pt 0 7)]],aC.row false 4 (y.map ax)])) (bZ eJ (l:=c) (l2:=[(ar.mk 1 a.cue.Program iK ([]))]) (b:=3) rfl (by decide) (gE (f:=ax) (l:=([(ar.mk 1 a.cue.Program iK ([]))]:List ar)) XY)) fun t=>.s (pt 1 3) (.sh (.st (aF ..) (.s [bx (az a),bx [(iA d),(iA e),(sA h),(bM 3 0 t.length false)],aC.row true 1 [[(pt 0 0)],[(pt 0 1)],[(pt 0 2)],[(pt 0 3)],[(pt 0 4)],[(pt 0 0)],[(pt 0 5)],[(pt 0 6)],[(pt 0 7)]],aC.row false 4 (t.map ax)] (.cT r8 ?_)))))))))))
    exact ih _ _
   exact .nn
  exact .ex (u _ _ _ _ _ _ _)
def dZ (n:Nat) (c:Int) (b:aU) (e:Int) (f:Int) (g:ByteArray):Nat->Int->(List ar)->Option ((List ar))
 | 0,_,_=>none
 | m+1,a,d=>bif (decide (a<c)) then (bif decide (a=0) then ((cQ 56 d ([(ar.mk 1 b.kind iK ([]))])).bind fun h=>dZ n c b e f g m (wr .i64 (a+1)) h) else bif decide (a=1) then ((cQ 56 d ([(ar.mk 1 b.report.Role iK ([]))])).bind fun i=>dZ n c b e f g m (wr .i64 (a+1)) i) else bif decide (a=2) then ((cQ 56 d ([(ar.mk 1 b.report.Bar iK ([]))])).bind fun j=>dZ n c b e f g m (wr .i64 (a+1)) j) else bif decide (a=3) then ((cQ 56 d ([(ar.mk 1 b.report.Program iK ([]))])).bind fun k=>dZ n c b e f g m (wr .i64 (a+1)) k) else none) else (some d)
theorem BA {w213:A} (k:Int) (a:aU) (d:Int) (e:Int) (h:ByteArray) {K:((List ar))->Option γ} (t:∀ (i:(List ar)) (s2:A) (u:A) (w:A) (x:A) (q0:aC) (q2:aC),J φ (kx 0 (St.mk [(2,s2),(3,(pt 1 0)),(9,u),(10,w),(11,x)] [q0,bx [(iA d),(iA e),(sA h),(bM 3 0 i.length false)],q2,aC.row false 4 (i.map ax)])) kL (K i) some) :
  ∀ (m:Nat) (j:Int) (c:(List ar)),J φ (aE (cx C) (ec C n 8) (ey C n 8) (n+8) 54 0 0 4 kx kg kr kp m (St.mk [(2,w213),(3,(pt 1 0)),(9,(bM 2 5 4 true)),(10,(iA k)),(11,(iA j))] [bx (az a),bx [(iA d),(iA e),(sA h),(bM 3 0 c.length false)],aC.row true 1 [[(pt 0 0)],[(pt 0 1)],[(pt 0 2)],[(pt 0 3)],[(pt 0 4)],[(pt 0 0)],[(pt 0 5)],[(pt 0 6)],[(pt 0 7)]],aC.row false 4 (c.map ax)])) kL (dZ n k a d e h m j c) K:=by
  refine nI (fun _ _=>.nn) fun m ih j c=>.lp (I5 ..) ?_
  unfold dZ
  refine .st (aS ..) (.bQ ?_ ?_)
  ·refine .sp (fun z=>?_) (fun _=>?_)
   ·refine .st (v:=(A.ep 2 5 0)) (by rw[Yr z]; kernel_rfl) (.s (pt 0 0) (.s2 (bM 3 0 c.length false) (.s (pt 0 0) (.s (iA a.kind) (.s (ag [(iA 1),(iA a.kind),se,Ye]) (.s (im [[(iA 1),(iA a.kind),se,(im [] false)]] true) (.bd (g:=fun (y:List ar)=>((bM 3 0 y.length false),[bx (az a),bx [(iA d),(iA e),(sA h),(bM 3 0 c.length false)],aC.row true 1 [[(pt 0 0)],[(pt 0 1)],[(pt 0 2)],[(pt 0 3)],[(pt 0 4)],[(pt 0 0)],[(pt 0 5)],[(pt 0 6)],[(pt 0 7)]],aC.row false 4 (y.map ax)])) (bZ eJ (l:=c) (l2:=[(ar.mk 1 a.kind iK ([]))]) (b:=3) rfl (by decide) (gE (f:=ax) (l:=([(ar.mk 1 a.kind iK ([]))]:List ar)) XY)) fun o=>.s (pt 1 3) (.sh (.st (aF ..) (.s [bx (az a),bx [(iA d),(iA e),(sA h),(bM 3 0 o.length false)],aC.row true 1 [[(pt 0 0)],[(pt 0 1)],[(pt 0 2)],[(pt 0 3)],[(pt 0 4)],[(pt 0 0)],[(pt 0 5)],[(pt 0 6)],[(pt 0 7)]],aC.row false 4 (o.map ax)] (.cT r8 ?_)))))))))))
    exact ih _ _
   refine .sp (fun a0=>?_) (fun _=>?_)
   ·refine .st (v:=(A.ep 2 6 0)) (by rw[Yr a0]; kernel_rfl) (.s (pt 0 5) (.s2 (bM 3 0 c.length false) (.s (pt 0 5) (.s (iA a.report.Role) (.s (ag [(iA 1),(iA a.report.Role),se,Ye]) (.s (im [[(iA 1),(iA a.report.Role),se,(im [] false)]] true) (.bd (g:=fun (y:List ar)=>((bM 3 0 y.length false),[bx (az a),bx [(iA d),(iA e),(sA h),(bM 3 0 c.length false)],aC.row true 1 [[(pt 0 0)],[(pt 0 1)],[(pt 0 2)],[(pt 0 3)],[(pt 0 4)],[(pt 0 0)],[(pt 0 5)],[(pt 0 6)],[(pt 0 7)]],aC.row false 4 (y.map ax)])) (bZ eJ (l:=c) (l2:=[(ar.mk 1 a.report.Role iK ([]))]) (b:=3) rfl (by decide) (gE (f:=ax) (l:=([(ar.mk 1 a.report.Role iK ([]))]:List ar)) XY)) fun p=>.s (pt 1 3) (.sh (.st (aF ..) (.s [bx (az a),bx [(iA d),(iA e),(sA h),(bM 3 0 p.length false)],aC.row true 1 [[(pt 0 0)],[(pt 0 1)],[(pt 0 2)],[(pt 0 3)],[(pt 0 4)],[(pt 0 0)],[(pt 0 5)],[(pt 0 6)],[(pt 0 7)]],aC.row false 4 (p.map ax)] (.cT r8 ?_)))))))))))
    exact ih _ _
   refine .sp (fun a1=>?_) (fun _=>?_)
   ·refine .st (v:=(A.ep 2 7 0)) (by rw[Yr a1]; kernel_rfl) (.s (pt 0 6) (.s2 (bM 3 0 c.length false) (.s (pt 0 6) (.s (iA a.report.Bar) (.s (ag [(iA 1),(iA a.report.Bar),se,Ye]) (.s (im [[(iA 1),(iA a.report.Bar),se,(im [] false)]] true) (.bd (g:=fun (y:List ar)=>((bM 3 0 y.length false),[bx (az a),bx [(iA d),(iA e),(sA h),(bM 3 0 c.length false)],aC.row true 1 [[(pt 0 0)],[(pt 0 1)],[(pt 0 2)],[(pt 0 3)],[(pt 0 4)],[(pt 0 0)],[(pt 0 5)],[(pt 0 6)],[(pt 0 7)]],aC.row false 4 (y.map ax)])) (bZ eJ (l:=c) (l2:=[(ar.mk 1 a.report.Bar iK ([]))]) (b:=3) rfl (by decide) (gE (f:=ax) (l:=([(ar.mk 1 a.report.Bar iK ([]))]:List ar)) XY)) fun q=>.s (pt 1 3) (.sh (.st (aF ..) (.s [bx (az a),bx [(iA d),(iA e),(sA h),(bM 3 0 q.length false)],aC.row true 1 [[(pt 0 0)],[(pt 0 1)],[(pt 0 2)],[(pt 0 3)],[(pt 0 4)],[(pt 0 0)],[(pt 0 5)],[(pt 0 6)],[(pt 0 7)]],aC.row false 4 (q.map ax)] (.cT r8 ?_)))))))))))
    exact ih _ _
   refine .sp (fun a2=>?_) (fun _=>?_)
   ·refine .st (v:=(A.ep 2 8 0)) (by rw[Yr a2]; kernel_rfl) (.s (pt 0 7) (.s2 (bM 3 0 c.length false) (.s (pt 0 7) (.s (iA a.report.Program) (.s (ag [(iA 1),(iA a.report.Program),se,Ye]) (.s (im [[(iA 1),(iA a.report.Program),se,(im [] false)]] true) (.bd (g:=fun (y:List ar)=>((bM 3 0 y.length false),[bx (az a),bx [(iA d),(iA e),(sA h),(bM 3 0 c.length false)],aC.row true 1 [[(pt 0 0)],[(pt 0 1)],[(pt 0 2)],[(pt 0 3)],[(pt 0 4)],[(pt 0 0)],[(pt 0 5)],[(pt 0 6)],[(pt 0 7)]],aC.row false 4 (y.map ax)])) (bZ eJ (l:=c) (l2:=[(ar.mk 1 a.report.Program iK ([]))]) (b:=3) rfl (by decide) (gE (f:=ax) (l:=([(ar.mk 1 a.report.Program iK ([]))]:List ar)) XY)) fun r=>.s (pt 1 3) (.sh (.st (aF ..) (.s [bx (az a),bx [(iA d),(iA e),(sA h),(bM 3 0 r.length false)],aC.row true 1 [[(pt 0 0)],[(pt 0 1)],[(pt 0 2)],[(pt 0 3)],[(pt 0 4)],[(pt 0 0)],[(pt 0 5)],[(pt 0 6)],[(pt 0 7)]],aC.row false 4 (r.map ax)] (.cT r8 ?_)))))))))))
    exact ih _ _
   exact .nn
  exact .ex (t _ _ _ _ _ _ _)
def O2 (n:Nat) (a:aU):Option (List UInt8):=
 bif (a.kind==1) then ((jj n 5 a 3 0 iK (n+8) 0 (([]:List ar))).bind fun b=>match b with | c=>(JR ((ar.mk 3 0 iK c))).bind fun d=>some d.1) else ((dZ n 4 a 3 0 iK (n+8) 0 (([]:List ar))).bind fun e=>match e with | f=>(JR ((ar.mk 3 0 iK f))).bind fun g=>some g.1)
theorem VZ (C:OT) (n:Nat) (e:IP C) (d:aU):TJ C n 54 [(ag (az d))] (O2 n d) (fun y=>(im (y.map c8) false)):=by
 refine .lp (WT ..) ?_
 unfold O2
 refine .s ((pt 0 0),[bx (az d)]) (.s (ag [(iA 3),(iA 0),se,Ye]) (.sq (pt 1 0) (.sh (.cl ((bl Jr).trans (Ua ..)) (.s (pt 0 0) (.s (pt 0 0) (.s (pt 0 0) (.s (pt 0 1) (.s (pt 0 1) (.s (pt 0 0) (.s (pt 0 1) (.s (pt 0 2) (.s (pt 0 0) (.s (pt 0 1) (.s (pt 0 3) (.s (pt 0 0) (.s (pt 0 1) (.s (pt 0 4) (.s (pt 0 0) (.s (pt 0 0) (.s (pt 0 0) (.s (pt 0 5) (.s (pt 0 5) ?_)))))))))))))))))))))))
 refine .s (pt 0 0) (.s (pt 0 5) (.s (pt 0 6) (.s (pt 0 0) (.s (pt 0 5) (.s (pt 0 7) (.s (ag [(pt 0 0),(pt 0 1),(pt 0 2),(pt 0 3),(pt 0 4),(pt 0 0),(pt 0 5),(pt 0 6),(pt 0 7)]) (.cT r8 (.sq (A.ep 2 0 0) (.s [bx (az d),bx [(iA 3),(iA 0),se,Ye],aC.row true 1 [[(pt 0 0)],[(pt 0 1)],[(pt 0 2)],[(pt 0 3)],[(pt 0 4)],[(pt 0 0)],[(pt 0 5)],[(pt 0 6)],[(pt 0 7)]]] (.s (pt 0 0) (.s2 (iA d.kind) (.st (aZ ..) (.bQ ?_ ?_)))))))))))))
 ·refine .s (bM 2 0 5 false) (.cr (.ok (.s (iA 5) (.as (Dk C n _ _ _ _ 5 d 3 0 iK ?_ _ 0 (([]:List ar)))))))
  ·intro a i j k o w120 w121
   exact .un rfl (.cT r8 (.s (ag [(iA 3),(iA 0),se,(bM 3 0 a.length false)]) (.bd (g:=fun (y:((List UInt8)×Int))=>(tp [(im (y.1.map c8) false),(iA y.2)])) (by show C 81 [snap [w120,bx [(iA 3),(iA 0),se,(bM 3 0 a.length false)],w121,aC.row false 4 (a.map ax)] (ag [(iA 3),(iA 0),se,(bM 3 0 a.length false)])]=_; simp only[cf,dF,bU (H:=[w120,bx [(iA 3),(iA 0),se,(bM 3 0 a.length false)],w121,aC.row false 4 (a.map ax)]) (b:=3) (es:=4) (l:=a) cD rfl]; exact e ((ar.mk 3 0 iK a))) fun f=>.s (im (f.1.map c8) false) (.s (iA f.2) (.lv u2)))))
 refine .s (bM 2 5 4 true) (.cr (.ok (.s (iA 4) (.as (BA C n _ _ _ _ 4 d 3 0 iK ?_ _ 0 (([]:List ar)))))))
 ·intro c p q r t w236 w237
  exact .un rfl (.cT r8 (.s (ag [(iA 3),(iA 0),se,(bM 3 0 c.length false)]) (.bd (g:=fun (y:((List UInt8)×Int))=>(tp [(im (y.1.map c8) false),(iA y.2)])) (by show C 81 [snap [w236,bx [(iA 3),(iA 0),se,(bM 3 0 c.length false)],w237,aC.row false 4 (c.map ax)] (ag [(iA 3),(iA 0),se,(bM 3 0 c.length false)])]=_; simp only[cf,dF,bU (H:=[w236,bx [(iA 3),(iA 0),se,(bM 3 0 c.length false)],w237,aC.row false 4 (c.map ax)]) (b:=3) (es:=4) (l:=c) cD rfl]; exact e ((ar.mk 3 0 iK c))) fun h=>.s (im (h.1.map c8) false) (.s (iA h.2) (.lv u2)))))
def JQ (a:aU):Option (List UInt8):=O2 aA a
def qU (C:OT):Prop:=∀ (a:aU),C 54 [(ag (az a))]=(JQ a).map fun y=>(im (y.map c8) false)
def gi (a:(List ay)) (b:bh):aC:=bx [(bM 3 0 a.length false),(im (b.Apart.map au) false)]
def iQ (a:bh):aC:=bx [(im (a.Queue.map aq) false),(im (a.Apart.map au) false)]
def O1 (n:Nat) (a:bh) (b:ay):Option (bh×Int):=
 (Li a).bind fun c=>(bif (c != 0) then (some true) else ((Lm b).bind fun d=>some (!d))).bind fun e=>bif e then (some (((bh.mk ([]) ([])),60))) else (bif (((a.Queue.length:Int))==4096) then (some (((bh.mk ([]) ([])),2))) else ((iB a.Queue 0 ((a.Queue.length:Int))).bind fun f=>(cQ 40 f ([b])).bind fun g=>some (((bh.mk g a.Apart),0))))
theorem VY (C:OT) (n:Nat) (o:CN C) (p:CV C) (c:bh) (d:ay):TJ C n 53 [(ag [(im (c.Queue.map aq) false),(im (c.Apart.map au) false)]),(ag (aq d))] (O1 n c d) (fun y=>(tp [(ag [(im (y.1.Queue.map aq) false),(im (y.1.Apart.map au) false)]),(iA y.2)])):=by
 refine .lp (WS ..) ?_
 unfold O1
 refine .s ((pt 0 0),[(iQ c)]) (.s ((pt 1 0),[(iQ c),bx (aq d)]) (.s ((pt 2 0),[(iQ c),bx (aq d),bx [Ye,Ye]]) (.s (ag [(im (c.Queue.map aq) false),(im (c.Apart.map au) false)]) (.bd (g:=fun (y:Int)=>(iA y)) (by simp only[cf,dF]; exact o c) fun u=>.st (aH ..) (.bg (fun t (y:Bool)=>∃ i j k:A,t=[(bA y),i,j,k]) ?_ ?_)))))
 ·refine .bi ?_ ?_
  ·exact .lg ⟨_,_,_,rfl⟩
  exact .s (ag (aq d)) (.bd (g:=fun (y:Bool)=>(bA y)) (by simp only[cf,dF]; exact p d) fun q=>.s (bA (!q)) (.lg ⟨_,_,_,rfl⟩))
 rintro _ v ⟨i,j,k,rfl⟩
 refine .u4 (.bQ ?_ ?_)
 ·exact .s (ag [Ye,Ye]) (.s [(iQ c),bx (aq d),bx [Ye,Ye]] (.s (ag [Ye,Ye]) (.lv u2)))
 refine .s2 (im (c.Queue.map aq) false) (.st (dn (e:=68)) (.st (aZ ..) (.bQ ?_ ?_)))
 ·exact .s (ag [Ye,Ye]) (.s [(iQ c),bx (aq d),bx [Ye,Ye]] (.s (ag [Ye,Ye]) (.lv u2)))
 exact .s2 (im (c.Queue.map aq) false) (.s2 (im (c.Queue.map aq) false) (.st (dn (e:=68)) (.s2 (im (c.Queue.map aq) false) (.st (dn (e:=68)) (.bd (pM (e:=68) (es:=3) (f:=aq) (l:=c.Queue) (a:=0) (b:=(c.Queue.length:Int)) r8 r8 (fun _=>rfl) (.inl ⟨rfl,rfl⟩)) fun r=>.s (ag (aq d)) (.s (im [[(iA d.From),(iA d.To),(im (d.Data.map c8) false)]] true) (.bd (g:=fun (y:List ay)=>((bM 3 0 y.length false),[(iQ c),bx (aq d),bx [Ye,Ye],aC.row false 3 (y.map aq)])) (kF vx (l:=r) (l2:=[d]) (bH (f:=aq) ([d]:List ay) _ _)) fun h=>.s (pt 0 0) (.sh (.s (ag [(bM 3 0 h.length false),(im (c.Apart.map au) false)]) (.s [(gi h c),bx (aq d),(gi h c),aC.row false 3 (h.map aq)] (.s (ag [(bM 3 0 h.length false),(im (c.Apart.map au) false)]) (.lv (by show br [(gi h c),bx (aq d),(gi h c),aC.row false 3 (h.map aq)] (tp [(ag [(bM 3 0 h.length false),(im (c.Apart.map au) false)]),(iA 0)])=_; first | (simp only[cf,dF,br,bP (H:=[(gi h c),bx (aq d),(gi h c),aC.row false 3 (h.map aq)]) (b:=3) (es:=3) (wr:=false) (l:=h) cH rfl]; done) | (simp only[cf,g8,br,bP (H:=[(gi h c),bx (aq d),(gi h c),aC.row false 3 (h.map aq)]) (b:=3) (es:=3) (wr:=false) (l:=h) cH rfl]; first | done | rfl))))))))))))))
def JP (a:bh) (b:ay):Option (bh×Int):=O1 aA a b
def qT (C:OT):Prop:=∀ (a:bh) (b:ay),C 53 [(ag [(im (a.Queue.map aq) false),(im (a.Apart.map au) false)]),(ag (aq b))]=(JP a b).map fun y=>(tp [(ag [(im (y.1.Queue.map aq) false),(im (y.1.Apart.map au) false)]),(iA y.2)])
abbrev cU:A:=(ag [Ye,Ye,Ye,(iA 0)])
def QQ (n:Nat) (a:av) (b:bL):Option (av×Int):=
 (FL a).bind fun d=>bif (d != 0) then (some (((av.mk ((bh.mk ([]) ([]))) ([]) 0),d))) else ((JO b ((a.Ears.length:Int))).bind fun e=>bif (!e) then (some (((av.mk ((bh.mk ([]) ([]))) ([]) 0),1))) else ((JQ ((aU.mk 1 b ((bj.mk 0 0 0))))).bind fun f=>(JP a.Net ((ay.mk 0 (wr .i64 (b.Role+1)) f))).bind fun c=>bif (c.2 != 0) then (some (((av.mk ((bh.mk ([]) ([]))) ([]) 0),c.2))) else (some (((av.mk c.1 a.Ears a.Bar),0)))))
theorem VC (C:OT) (n:Nat) (f:wN C) (h:uf C) (i:qT C) (j:qU C) (a:av) (c:bL):TJ C n 19 [(ag (ak a)),(ag (aI c))] (QQ n a c) (fun y=>(tp [(ag (ak y.1)),(iA y.2)])):=by
 refine .lp (Wv ..) ?_
 unfold QQ
 refine .s ((pt 0 0),[bx (ak a)]) (.sq (pt 1 0) (.s ((pt 2 0),[bx (ak a),bx (aI c),bx [Ye,Ye,Ye,(iA 0)]]) (.s (ag (ak a)) (.bd (g:=fun (y:Int)=>(iA y)) (by simp only[cf,dF]; exact f a) fun l=>.st (aH ..) (.bQ ?_ ?_)))))
 ·exact .s cU (.s [bx (ak a),bx (aI c),bx [Ye,Ye,Ye,(iA 0)]] (.s cU (.lv u2)))
 refine .s (ag (aI c)) (.s2 (im (a.Ears.map aw) false) (.st (dn (e:=50)) (.bd (h c ((a.Ears.length:Int))) fun k=>.s (bA (!k)) (.bQ ?_ ?_))))
 ·exact .s cU (.s [bx (ak a),bx (aI c),bx [Ye,Ye,Ye,(iA 0)]] (.s cU (.lv u2)))
 refine .s (pt 0 0) (.s (ag [(im (a.Net.Queue.map aq) false),(im (a.Net.Apart.map au) false)]) (.s (pt 1 1) (.s (iA c.Role) (.st (aF ..) (.s (ag (aI c)) (.s (ag ([(iA 1)]++aI c++[(iA 0),(iA 0),(iA 0)])) (.bd (j ((aU.mk 1 c ((bj.mk 0 0 0))))) fun d=>.s (ag [(iA 0),(iA (wr .i64 (c.Role+1))),(im (d.map c8) false)]) (.bd (g:=fun (y:(bh×Int))=>(tp [(ag [(im (y.1.Queue.map aq) false),(im (y.1.Apart.map au) false)]),(iA y.2)])) (by simp only[cf,dF]; exact i a.Net ((ay.mk 0 (wr .i64 (c.Role+1)) d))) fun b=>.s (ag [(im (b.1.Queue.map aq) false),(im (b.1.Apart.map au) false)]) (.s (iA b.2) (.cT r8 (.sq (pt 3 0) (.s [bx (ak a),bx (aI c),bx [Ye,Ye,Ye,(iA 0)],bx [(im (b.1.Queue.map aq) false),(im (b.1.Apart.map au) false)]] (.st (aH ..) (.bQ ?_ ?_))))))))))))))
 ·exact .s cU (.s [bx (ak a),bx (aI c),bx [Ye,Ye,Ye,(iA 0)],bx [(im (b.1.Queue.map aq) false),(im (b.1.Apart.map au) false)]] (.s cU (.lv u2)))
 exact .s (ag [(im (b.1.Queue.map aq) false),(im (b.1.Apart.map au) false)]) (.s (pt 0 0) (.sh (.s (ag [(im (b.1.Queue.map aq) false),(im (b.1.Apart.map au) false),(im (a.Ears.map aw) false),(iA a.Bar)]) (.s [bx [(im (b.1.Queue.map aq) false),(im (b.1.Apart.map au) false),(im (a.Ears.map aw) false),(iA a.Bar)],bx (aI c),bx [(im (b.1.Queue.map aq) false),(im (b.1.Apart.map au) false),(im (a.Ears.map aw) false),(iA a.Bar)],bx [(im (b.1.Queue.map aq) false),(im (b.1.Apart.map au) false)]] (.s (ag [(im (b.1.Queue.map aq) false),(im (b.1.Apart.map au) false),(im (a.Ears.map aw) false),(iA a.Bar)]) (.lv u2))))))
def Le (a:av) (b:bL):Option (av×Int):=QQ aA a b
def Iy (C:OT):Prop:=∀ (a:av) (b:bL),C 19 [(ag (ak a)),(ag (aI b))]=(Le a b).map fun y=>(tp [(ag (ak y.1)),(iA y.2)])
def QR (n:Nat) (a:av) (b:Int) (a2:(List Int)):Option ((List Int)×av×Int):=
 some ((a2,a,b))
theorem VJ (C:OT) (n:Nat) (a:av) (b:Int) (a2:(List Int)):TJ C n 27 [(ag (ak a)),(iA b),(im (a2.map (cI .i64)) false)] (QR n a b a2) (fun y=>(tG 59 [] [(A.ip [(im (y.1.map (cI .i64)) false)]),(A.ip (ak y.2.1)),(A.ip [(iA y.2.2)])])):=by
 refine .lp (WC ..) ?_
 unfold QR
 exact .s ((pt 0 0),[bx (ak a)]) (.s ((pt 1 0),[bx (ak a),bx [(iA b)]]) (.s ((pt 2 0),[bx (ak a),bx [(iA b)],bx [(im (a2.map (cI .i64)) false)]]) (.lv (YX (tG 59 []) (DP (qL (f:=(cL (cI .i64))) (lH (dW _)) (fun _=>rfl) (a2:(List Int)) rfl rfl) (DP (qL (f:=ak) fO (fun _=>rfl) (a:av) rfl rfl) (DP (qL (f:=(cI .i64)) (dW _) (fun _=>rfl) (b:Int) rfl rfl) rfl)))))))
def Lf (a:av) (b:Int) (a2:(List Int)):Option ((List Int)×av×Int):=QR aA a b a2
def CH (C:OT):Prop:=∀ (a:av) (b:Int) (a2:(List Int)),C 27 [(ag (ak a)),(iA b),(im (a2.map (cI .i64)) false)]=(Lf a b a2).map fun y=>(tG 59 [] [(A.ip [(im (y.1.map (cI .i64)) false)]),(A.ip (ak y.2.1)),(A.ip [(iA y.2.2)])])
def bo (a:(List ay)) (b:(List (Int×Int))) (c:(List aN)) (d:Int):aC:=bx [(im (a.map aq) true),(im (b.map au) true),(im (c.map aw) true),(iA d)]
def me (n:Nat) (k:av) (e:Int) (d:Int) (l:(List Int)) (o:Int) (p:Int) (f:(List Int)) (g:Int) (q:av) (r:(List ay)) (s:(List (Int×Int))) (t:(List aN)) (u:Int) (v:(List ay)) (w:(List (Int×Int))) (x:(List aN)) (y:Int) (z:Int):Nat->Int->av->Option ((Int)⊕(av))
 | 0,_,_=>none
 | m+1,b,c=>bif (decide (b<g)) then ((bf f b).bind fun a0=>bif (decide (e<=b)) then ((some d).bind fun a1=>(some (wr .i64 (a1+1))).bind fun a2=>(some ((d,b,a0))).bind fun h=>(some ((2,0,0,0,0,h.1,h.2.1,h.2.2))).bind fun a=>((JQ ((aU.mk a.1 ((bL.mk a.2.1 a.2.2.1 a.2.2.2.1 a.2.2.2.2.1)) ((bj.mk a.2.2.2.2.2.1 a.2.2.2.2.2.2.1 a.2.2.2.2.2.2.2))))).bind fun a3=>some a3).bind fun a4=>(some ((a2,0,a4))).bind fun i=>(JP c.Net ((ay.mk i.1 i.2.1 i.2.2))).bind fun j=>bif (j.2 != 0) then ((some (())).bind fun a5=>some ((Sum.inl j.2))) else ((some (())).bind fun a6=>me n k e d l o p f g q r s t u v w x y z m (wr .i64 (b+1)) ((av.mk j.1 c.Ears c.Bar)))) else ((some (())).bind fun a7=>(some (())).bind fun a8=>(some (())).bind fun a9=>(some (())).bind fun aa=>(some (())).bind fun ab=>(some (())).bind fun ad=>(some (())).bind fun ae=>me n k e d l o p f g q r s t u v w x y z m (wr .i64 (b+1)) c)) else (some ((Sum.inr c)))
theorem FR (ai:qT C) (aj:qU C) (k:av) (a3:Int) (w:Int) (a2:(List Int)) (a4:Int) (a5:Int) (a6:(List Int)) (ad:Int) (l:av) (o:(List ay)) (p:(List (Int×Int))) (q:(List aN)) (r:Int) (f:(List ay)) (h:(List (Int×Int))) (i:(List aN)) (j:Int) (x:Int) {K:((Int)⊕(av))->Option γ} (x0:∀ (z:Int) (s6:A) (a8:A) (a9:A) (aa:A) (q0:aC) (q1:aC) (q2:aC) (q6:aC) (q7:aC) (q8:aC),J φ (kr (St.mk [(0,(A.yld 5)),(2,(A.ip (ak k))),(3,(A.ip [(iA a3)])),(6,s6),(10,(im (a2.map (cI .i64)) false)),(11,(iA a4)),(12,(iA a5)),(21,a8),(22,a9),(23,aa)] [q0,q1,q2,(bo f h i j),bx [(iA z)],aC.rng (jW.done It.ret),q6,q7,q8])) kL (K (Sum.inl z)) some) (x1:∀ (z:av) (s6:A) (a8:A) (a9:A) (aa:A),J φ (kx 2 (St.mk [(0,(A.yld 5)),(2,(A.ip (ak k))),(3,(A.ip [(iA a3)])),(6,s6),(10,(im (a2.map (cI .i64)) false)),(11,(iA a4)),(12,(iA a5)),(21,a8),(22,a9),(23,aa)] [bx (ak l),(bo o p q r),bx [(im (z.Net.Queue.map aq) false),(im (z.Net.Apart.map au) false),(im (z.Ears.map aw) false),(iA z.Bar)],(bo f h i j),bx [(iA x)],aC.rng jW.ready])) kL (K (Sum.inr z)) some) :
  ∀ (m:Nat) (u:Int) (d:av),J φ (aE (cx C) (bw (cx C) (n+6) (tZ 139 (dH (cx C) (n+7)) 5 (qH (cx C) (ec C n 7) (ey C n 7) (n+7) 26 2 0 5 [(2,(pt 2 0)),(4,(pt 3 0)),(5,(pt 4 0))]))) (bw (cx C) (n+6)) (n+6) 59 2 1 6 kx kg kr kp m (St.mk [(0,(A.yld 5)),(2,(A.ip (ak k))),(3,(A.ip [(iA a3)])),(6,(iA w)),(10,(im (a2.map (cI .i64)) false)),(11,(iA a4)),(12,(iA a5)),(21,(im (a6.map (cI .i64)) false)),(22,(iA ad)),(23,(iA u))] [bx (ak l),(bo o p q r),bx (ak d),(bo f h i j),bx [(iA x)],aC.rng jW.ready])) kL (me n k a3 w a2 a4 a5 a6 ad l o p q r f h i j x m u d) K:=by
  refine nI (fun _ _=>.nn) fun m ih u d=>.lp (I7 ..) ?_
  unfold me
  refine .st (aS ..) (.bQ ?_ ?_)
  ·refine .bd (dr (e:=3) (es:=1)) fun a0=>.s (iA a0) (.s (ag [(iA w),(iA u),(iA a0)]) (.sq (pt 6 0) (.s [bx (ak l),(bo o p q r),bx (ak d),(bo f h i j),bx [(iA x)],aC.rng jW.ready,bx [(iA w),(iA u),(iA a0)]] (.s (iA a3) (.st (dq ..) (.B4 (fun a=>?_) (fun a=>?_)))))))
   ·refine .bb (.cr (.bg (fun t (y:Int) =>  t=(iA y)) ?_ ?_))
    ·exact .lp (bX a) (.lg rfl)
    rintro _ ap rfl
    refine .bg (fun t (y:Int) =>  t=(iA y)) ?_ ?_
    ·exact .lp (bX a) (.st (aF ..) (.lg rfl))
    rintro _ an rfl
    refine .bg (fun t (y:Int×Int×Int) =>  t=(ag [(iA y.1),(iA y.2.1),(iA y.2.2)])) ?_ ?_
    ·exact .lp (bX a) (.s (ag [(iA w),(iA u),(iA a0)]) (.lg rfl))
    rintro _ ab rfl
    refine .bg (fun t (y:Int×Int×Int×Int×Int×Int×Int×Int) =>  t=(ag [(iA y.1),(iA y.2.1),(iA y.2.2.1),(iA y.2.2.2.1),(iA y.2.2.2.2.1),(iA y.2.2.2.2.2.1),(iA y.2.2.2.2.2.2.1),(iA y.2.2.2.2.2.2.2)])) ?_ ?_
    ·exact .lp (bX a) (.s (ag [(iA 2),(iA 0),(iA 0),(iA 0),(iA 0),(iA ab.1),(iA ab.2.1),(iA ab.2.2)]) (.lg rfl))
    rintro _ a1 rfl
    refine .bg (fun t (y:(List UInt8)) =>  t=(im (y.map c8) false)) ?_ ?_
    ·exact .lp (bX a) (.bd (aj ((aU.mk a1.1 ((bL.mk a1.2.1 a1.2.2.1 a1.2.2.2.1 a1.2.2.2.2.1)) ((bj.mk a1.2.2.2.2.2.1 a1.2.2.2.2.2.2.1 a1.2.2.2.2.2.2.2))))) fun ar=>.lg rfl)
    rintro _ ao rfl
    refine .bg (fun t (y:Int×Int×(List UInt8)) =>  t=(ag [(iA y.1),(iA y.2.1),(im (y.2.2.map c8) false)])) ?_ ?_
    ·exact .lp (bX a) (.s (ag [(iA an),(iA 0),(im (ao.map c8) false)]) (.lg rfl))
    rintro _ b rfl
    refine .lp (bX a) (.dY rfl (.cl (yq.trans (Bv.trans (DR C (ec C n 7) (ey C n 7) (n+7) _ _ _ _ _ _ _ _))) (.cT r8 (.lp (wC rfl) (.sq (pt 7 0) (.s [bx (ak l),(bo o p q r),bx (ak d),(bo f h i j),bx [(iA x)],aC.rng jW.ready,bx [(iA w),(iA u),(iA a0)],bx [(iA b.1),(iA b.2.1),(im (b.2.2.map c8) false)]] (.lp (wC rfl) (.s2 (ag [(im (d.Net.Queue.map aq) false),(im (d.Net.Apart.map au) false)]) (.s (ag [(iA b.1),(iA b.2.1),(im (b.2.2.map c8) false)]) (.bd (g:=fun (y:(bh×Int))=>(tp [(ag [(im (y.1.Queue.map aq) false),(im (y.1.Apart.map au) false)]),(iA y.2)])) (by simp only[cf,dF]; exact ai d.Net ((ay.mk b.1 b.2.1 b.2.2))) fun c=>.s (ag [(im (c.1.Queue.map aq) false),(im (c.1.Apart.map au) false)]) (.s (iA c.2) (.sq (pt 8 0) (.s [bx (ak l),(bo o p q r),bx (ak d),(bo f h i j),bx [(iA x)],aC.rng jW.busy,bx [(iA w),(iA u),(iA a0)],bx [(iA b.1),(iA b.2.1),(im (b.2.2.map c8) false)],bx [(im (c.1.Queue.map aq) false),(im (c.1.Apart.map au) false)]] (.st (aH ..) (.bQ ?_ ?_)))))))))))))))
    ·refine .s (ag [(im (f.map aq) true),(im (h.map au) true),(im (i.map aw) true),(iA j)]) (.sh (.s [bx (ak l),(bo o p q r),bx (ak d),(bo f h i j),bx [(iA c.2)],aC.rng jW.busy,bx [(iA w),(iA u),(iA a0)],bx [(iA b.1),(iA b.2.1),(im (b.2.2.map c8) false)],bx [(im (c.1.Queue.map aq) false),(im (c.1.Apart.map au) false)]] (.lp (vA rfl) (.cr (.ok (.bg (fun t (y:Unit)=>∃ ae:A,t=[(bA true),ae]) ?_ ?_))))))
     ·exact .qs a (.s (bA true) (.lg ⟨_,rfl⟩))
     rintro _ ax ⟨ae,rfl⟩
     exact .uc (.uc (.Lr (.ex (x0 _ _ _ _ _ _ _ _ _ _ _))))
    refine .s (ag [(im (c.1.Queue.map aq) false),(im (c.1.Apart.map au) false)]) (.s (pt 2 0) (.s [bx (ak l),(bo o p q r),bx [(im (c.1.Queue.map aq) false),(im (c.1.Apart.map au) false),(im (d.Ears.map aw) false),(iA d.Bar)],(bo f h i j),bx [(iA x)],aC.rng jW.busy,bx [(iA w),(iA u),(iA a0)],bx [(iA b.1),(iA b.2.1),(im (b.2.2.map c8) false)],bx [(im (c.1.Queue.map aq) false),(im (c.1.Apart.map au) false)]] (.lp (vA rfl) (.cr (.ok (.bg (fun t (y:Unit)=>∃ af:A,t=[(bA false),af]) ?_ ?_))))))
    ·exact .qs a (.s (bA false) (.lg ⟨_,rfl⟩))
    rintro _ az ⟨af,rfl⟩
    refine .uc (.uc (.Kd (.st (aF ..) (.st (v:=[bx (ak l),(bo o p q r),bx [(im (c.1.Queue.map aq) false),(im (c.1.Apart.map au) false),(im (d.Ears.map aw) false),(iA d.Bar)],(bo f h i j),bx [(iA x)],aC.rng jW.ready]) (dB r8 (by simp only[uB,eY,eZ,Nat.reduceLT,YW,bo,bo])) (.cT ((by kernel_rfl:_=(bif ((aM 6 (k.Net.Queue.map aq))&&((aM 6 (k.Net.Apart.map au))&&((aM 6 (k.Ears.map aw))&&true))) then (bif aM 6 (a2.map (cI .i64)) then (bif aM 6 (a6.map (cI .i64)) then true else false) else false) else false)).trans u3) ?_)))))
    exact ih _ _
   refine .bb (.cr (.bg (fun t (y:Unit) =>  t=(A.v undef)) ?_ ?_))
   ·exact .lp (bW a) (.lg rfl)
   rintro _ b0 rfl
   refine .bg (fun t (y:Unit) =>  t=(A.v undef)) ?_ ?_
   ·exact .lp (bW a) (.lg rfl)
   rintro _ b1 rfl
   refine .bg (fun t (y:Unit) =>  t=(A.v undef)) ?_ ?_
   ·exact .lp (bW a) (.lg rfl)
   rintro _ b2 rfl
   refine .bg (fun t (y:Unit) =>  t=(A.v undef)) ?_ ?_
   ·exact .lp (bW a) (.lg rfl)
   rintro _ b3 rfl
   refine .bg (fun t (y:Unit) =>  t=(A.v undef)) ?_ ?_
   ·exact .lp (bW a) (.lg rfl)
   rintro _ b4 rfl
   refine .bg (fun t (y:Unit) =>  t=(A.v undef)) ?_ ?_
   ·exact .lp (bW a) (.lg rfl)
   rintro _ b5 rfl
   refine .lp (bW a) (.bg (fun t (y:Unit)=>∃ ah:A,t=[(bA false),ah]) ?_ ?_)
   ·exact .qb a (.lg ⟨_,rfl⟩)
   rintro _ b6 ⟨ah,rfl⟩
   refine .uc (.uc (.Kd (.st (aF ..) (.st (v:=[bx (ak l),(bo o p q r),bx (ak d),(bo f h i j),bx [(iA x)],aC.rng jW.ready]) (dB r8 (by simp only[uB,eY,eZ,Nat.reduceLT,YW,bo,bo])) (.cT ((by kernel_rfl:_=(bif ((aM 6 (k.Net.Queue.map aq))&&((aM 6 (k.Net.Apart.map au))&&((aM 6 (k.Ears.map aw))&&true))) then (bif aM 6 (a2.map (cI .i64)) then (bif aM 6 (a6.map (cI .i64)) then true else false) else false) else false)).trans u3) ?_)))))
   exact ih _ _
  exact .ex (x1 _ _ _ _ _)
def mc (n:Nat) (b:av) (e:Int) (c:(List Int)) (d:Int) (f:av) (g:(List ay)) (h:(List (Int×Int))) (i:(List aN)) (j:Int) (k:(List ay)) (l:(List (Int×Int))) (o:(List aN)) (p:Int) (q:Int):Nat->Int->av->Option ((Int)⊕(av))
 | 0,_,_=>none
 | m+1,a,r=>bif (decide (a<d)) then ((bf c a).bind fun s=>(bf b.Ears s).bind fun t=>(me n b e s c d a t.Did ((t.Did.length:Int)) f g h i j k l o p q (n+6) 0 r).bind fun u=>match u with | (Sum.inl v)=>some ((Sum.inl v)) | (Sum.inr w)=>mc n b e c d f g h i j k l o p q m (wr .i64 (a+1)) w) else (some ((Sum.inr r)))
theorem FQ (a2:qT C) (a3:qU C) (h:av) (r:Int) (t:(List Int)) (u:Int) (i:av) (j:(List ay)) (k:(List (Int×Int))) (l:(List aN)) (o:Int) (b:(List ay)) (c:(List (Int×Int))) (d:(List aN)) (f:Int) (g:Int) {K:((Int)⊕(av))->Option γ} (x0:∀ (a:Int) (v:A) (s2:A) (w:A) (x:A) (y:A) (z:A) (q0:aC) (q1:aC) (q2:aC) (q6:aC) (q7:aC) (q8:aC),J φ (kr (St.mk [(0,v),(2,s2),(3,w),(10,x),(11,y),(12,z)] [q0,q1,q2,(bo b c d f),bx [(iA a)],aC.rng (jW.done It.ret),q6,q7,q8])) kL (K (Sum.inl a)) some) (x1:∀ (a:av) (v:A) (s2:A) (w:A) (x:A) (y:A) (z:A) (q0:aC) (q1:aC),J φ (kx 0 (St.mk [(0,v),(2,s2),(3,w),(10,x),(11,y),(12,z)] [q0,q1,bx [(im (a.Net.Queue.map aq) false),(im (a.Net.Apart.map au) false),(im (a.Ears.map aw) false),(iA a.Bar)],(bo b c d f),bx [(iA g)],aC.rng jW.ready])) kL (K (Sum.inr a)) some) :
  ∀ (m:Nat) (p:Int) (q:av),J φ (aE (cx C) (bw (cx C) (n+6) (tZ 139 (dH (cx C) (n+7)) 5 (qH (cx C) (ec C n 7) (ey C n 7) (n+7) 26 2 0 5 [(2,(pt 2 0)),(4,(pt 3 0)),(5,(pt 4 0))]))) (bw (cx C) (n+6)) (n+6) 59 2 0 6 kx kg kr kp m (St.mk [(0,(A.yld 5)),(2,(A.ip (ak h))),(3,(A.ip [(iA r)])),(10,(im (t.map (cI .i64)) false)),(11,(iA u)),(12,(iA p))] [bx (ak i),bx [(im (j.map aq) true),(im (k.map au) true),(im (l.map aw) true),(iA o)],bx (ak q),(bo b c d f),bx [(iA g)],aC.rng jW.ready])) kL (mc n h r t u i j k l o b c d f g m p q) K:=by
  refine nI (fun _ _=>.nn) fun m ih p q=>.lp (I6 ..) ?_
  unfold mc
  refine .st (aS ..) (.bQ ?_ ?_)
  ·refine .bd (dr (e:=3) (es:=1)) fun a1=>.s (iA a1) (.s2 (im (h.Ears.map aw) false) (.bd (dr (e:=50) (es:=3)) fun a0=>.s2 (im (a0.Did.map (cI .i64)) false) (.st (dn (e:=3)) (.as (FR C n _ _ _ _ a2 a3 h r a1 t u p a0.Did ((a0.Did.length:Int)) i j k l o b c d f g ?_ ?_ _ 0 q)))))
   ·intro a7 a8 a9 aa ab w2109 w2110 w2111 w2112 w2113 w2114
    exact .un rfl (.ex (x0 _ _ _ _ _ _ _ _ _ _ _ _ _))
   ·intro a6 ad ae af ag
    refine .un rfl (.cT r8 (.st (aF ..) (.s [bx (ak i),bx [(im (j.map aq) true),(im (k.map au) true),(im (l.map aw) true),(iA o)],bx (ak a6),(bo b c d f),bx [(iA g)],aC.rng jW.ready] (.cT r8 ?_))))
    exact ih _ _
  exact .ex (x1 _ _ _ _ _ _ _ _ _)
def F9 (n:Nat) (a:av) (c:Int):Option (av×Int):=
 (FL a).bind fun d=>bif (d != 0) then (some (((av.mk ((bh.mk ([]) ([]))) ([]) 0),d))) else ((wM c 0 (wr .i64 (((a.Ears.length:Int)) - 1))).bind fun e=>(bif (!e) then (some true) else (some (a.Bar==0))).bind fun f=>bif f then (some (((av.mk ((bh.mk ([]) ([]))) ([]) 0),1))) else ((Lf a 0 ([c])).bind fun b=>(mc n b.2.1 b.2.2 b.1 ((b.1.length:Int)) a ([]) ([]) ([]) 0 ([]) ([]) ([]) 0 0 (n+6) 0 a).bind fun g=>match g with | (Sum.inl h)=>some (((av.mk ((bh.mk ([]) ([]))) ([]) 0),h)) | (Sum.inr i)=>some ((i,0))))
theorem T9 (C:OT) (n:Nat) (k:wN C) (l:mZ C) (o:CH C) (p:qT C) (q:qU C) (a:av) (d:Int):TJ C n 9 [(ag (ak a)),(iA d)] (F9 n a d) (fun y=>(tp [(ag (ak y.1)),(iA y.2)])):=by
 refine .lp (e9 ..) ?_
 unfold F9
 refine .s ((pt 0 0),[bx (ak a)]) (.s ((pt 1 0),[bx (ak a),bx [Ye,Ye,Ye,(iA 0)]]) (.s (ag (ak a)) (.bd (g:=fun (y:Int)=>(iA y)) (by simp only[cf,dF]; exact k a) fun u=>.st (aH ..) (.bQ ?_ ?_))))
 ·exact .s cU (.s [bx (ak a),bx [Ye,Ye,Ye,(iA 0)]] (.s cU (.lv u2)))
 refine .s2 (im (a.Ears.map aw) false) (.st (dn (e:=50)) (.st (dh ..) (.bd (l d 0 (wr .i64 (((a.Ears.length:Int)) - 1))) fun r=>.s (bA (!r)) (.bg (fun t (y:Bool)=>∃ h i j:A,t=[(bA y),h,i,j]) ?_ ?_))))
 ·refine .bi ?_ ?_
  ·exact .lg ⟨_,_,_,rfl⟩
  exact .s (pt 0 3) (.s (iA a.Bar) (.st (aZ ..) (.lg ⟨_,_,_,rfl⟩)))
 rintro _ w ⟨h,i,j,rfl⟩
 refine .u4 (.bQ ?_ ?_)
 ·exact .s cU (.s [bx (ak a),bx [Ye,Ye,Ye,(iA 0)]] (.s cU (.lv u2)))
 refine .s (ag (ak a)) (.s (ag (ak a)) (.s (im [[(iA d)]] true) (.bd (g:=fun (y:((List Int)×av×Int))=>(tG 59 [] [(A.ip [(im (y.1.map (cI .i64)) false)]),(A.ip (ak y.2.1)),(A.ip [(iA y.2.2)])])) (by simp only[cf,dF]; exact o a 0 ([d])) fun c=>.bb (.cl ((bl Jp).trans (T2 ..)) (.sq (pt 2 0) (.sq (pt 3 0) (.s ((pt 4 0),[bx (ak a),bx [Ye,Ye,Ye,(iA 0)],bx (ak a),bx [Ye,Ye,Ye,(iA 0)],bx [(iA 0)]]) (.s (59,[(A.ip [(im (c.1.map (cI .i64)) false)]),(A.ip (ak c.2.1)),(A.ip [(iA c.2.2)])]) (.cT r8 (.cl ((oJ Jq).trans (T4 ..)) (.s (im (c.1.map (cI .i64)) false) (.st (dn (e:=3)) (.as (FQ C n _ _ _ _ p q c.2.1 c.2.2 c.1 ((c.1.length:Int)) a ([]) ([]) ([]) 0 ([]) ([]) ([]) 0 0 ?_ ?_ _ 0 a))))))))))))))
 ·intro f x z a2 a3 a4 a5 w2128 w2129 w2130 w2131 w2132 w2133
  exact .un rfl (.cr (.ok (.lp (Oe rfl) (.s cU (.s (iA f) (.cr (.lp (HJ (L:=2) (v:=(tp [cU,(iA f)])) (by simp only[uB,eY,eZ,Nat.reduceLT,YW,cU])) (.cr (.s cU (.s (iA f) (.s [bx (ak a),bx [Ye,Ye,Ye,(iA 0)]] (.s cU (.lv u2)))))))))))))
 ·intro b a6 a7 a8 a9 aa ab w2141 w2142
  exact .un rfl (.cT r8 (.cr (.ok (.lp (Od rfl) (.s (ag (ak b)) (.s [w2141,w2142,bx (ak b),bx (ak b),bx [(iA 0)],aC.dead] (.s [w2141,w2142,bx (ak b),bx (ak b),bx [(iA 0)],aC.dead] (.s (ag (ak b)) (.s (iA 0) (.cr (.lp (HJ (L:=2) (v:=(tp [(ag (ak b)),(iA 0)])) An) (.cr (.s (ag (ak b)) (.s (iA 0) (.s [bx (ak a),bx (ak b)] (.s (ag (ak b)) (.lv u2)))))))))))))))))
def G9 (a:av) (b:Int):Option (av×Int):=F9 aA a b
def JV (C:OT):Prop:=∀ (a:av) (b:Int),C 9 [(ag (ak a)),(iA b)]=(G9 a b).map fun y=>(tp [(ag (ak y.1)),(iA y.2)])
def jU (n:Nat) (b:(List Int)) (c:Int) (d:Int):Nat->Int->Option ((Int)⊕(Unit))
 | 0,_=>none
 | m+1,a=>bif (decide (a<d)) then ((bf b a).bind fun e=>bif (c==e) then (some ((Sum.inl a))) else (jU n b c d m (wr .i64 (a+1)))) else (some ((Sum.inr (()))))
theorem Dr {w24:A} (g:(List Int)) (h:Int) (i:Int) {K:((Int)⊕(Unit))->Option γ} (k:∀ (j:Int) (a:A) (b:A) (c:A) (d:A),J φ (kr (St.mk [(0,a),(1,b),(4,(iA j)),(7,c),(8,d)] [])) kL (K (Sum.inl j)) some) (l:∀ (a:A) (b:A) (o:A) (c:A) (d:A),J φ (kx 0 (St.mk [(0,a),(1,b),(4,o),(7,c),(8,d)] [])) kL (K (Sum.inr (()))) some) :
  ∀ (m:Nat) (f:Int),J φ (aE (cx C) (ec C n 8) (ey C n 8) (n+8) 58 0 0 0 kx kg kr kp m (St.mk [(0,(im (g.map (cI .i64)) false)),(1,(iA h)),(4,w24),(7,(iA i)),(8,(iA f))] [])) kL (jU n g h i m f) K:=by
  refine nI (fun _=>.nn) fun m ih f=>.lp (MJ ..) ?_
  unfold jU
  refine .st (aS ..) (.bQ ?_ ?_)
  ·refine .bd (dr (e:=3) (es:=1)) fun p=>.s (iA p) (.st (aZ ..) (.bQ ?_ ?_))
   ·exact .ex (k _ _ _ _ _)
   refine .st (aF ..) (.s [] (.cT r8 ?_))
   exact ih _
  exact .ex (l _ _ _ _ _)
def O6 (n:Nat) (a:(List Int)) (b:Int):Option Int:=
 (jU n a b ((a.length:Int)) (n+8) 0).bind fun Ly=>match Ly with | (Sum.inl c)=>some c | (Sum.inr _)=>some (-1)
theorem V3 (C:OT) (n:Nat) (a:(List Int)) (b:Int):TJ C n 58 [(im (a.map (cI .i64)) false),(iA b)] (O6 n a b) (fun y=>(iA y)):=by
 refine .lp (WX ..) ?_
 unfold O6
 refine .st (dn (e:=3)) (.as (Dr C n _ _ _ _ a b ((a.length:Int)) ?_ ?_ _ 0))
 ·intro c d f g h
  exact .un rfl (.lv rfl)
 ·intro i j k l o
  exact .un rfl (.cT r8 (.lv rfl))
def Pu (a:(List Int)) (b:Int):Option Int:=O6 aA a b
def IH (C:OT):Prop:=∀ (a:(List Int)) (b:Int),C 58 [(im (a.map (cI .i64)) false),(iA b)]=(Pu a b).map fun y=>(iA y)
def ON (n:Nat) (a:(List Int)) (b:Int):Option Bool:=
 (Pu a b).bind fun c=>some (decide (0<=c))
theorem VH (C:OT) (n:Nat) (c:IH C) (a:(List Int)) (b:Int):TJ C n 24 [(im (a.map (cI .i64)) false),(iA b)] (ON n a b) (fun y=>(bA y)):=by
 refine .lp (WA ..) ?_
 unfold ON
 exact .bd (g:=fun (y:Int)=>(iA y)) (by simp only[cf,dF]; exact c a b) fun d=>.st (dq ..) (.lv rfl)
def LJ (a:(List Int)) (b:Int):Option Bool:=ON aA a b
def CF (C:OT):Prop:=∀ (a:(List Int)) (b:Int),C 24 [(im (a.map (cI .i64)) false),(iA b)]=(LJ a b).map fun y=>(bA y)
def OO (n:Nat) (b:(List Int)) (c:Int):Option (List Int):=
 (EK 8 (wr .i64 (((b.length:Int))+1)) 0).bind fun a=>(nB a.length ((b.length:Int))).bind fun k2=>(yc ((qY a 0 a.length b)) k2 (fun (y:Int)=>c)).bind fun d=>some ((List.take a.length (List.drop 0 d)))
theorem VI (C:OT) (n:Nat) (c:(List Int)) (h:Int):TJ C n 25 [(im (c.map (cI .i64)) false),(iA h)] (OO n c h) (fun y=>(im (y.map (cI .i64)) false)):=by
 refine .lp (WB ..) ?_
 unfold OO
 exact .st (dn (e:=3)) (.st (aF ..) (.bd (g:=fun (y:List Int)=>((bM 0 0 y.length false),[aC.row true 1 (y.map (cI .i64))])) (uY (e:=3) (es:=1) (f:=(cI .i64)) (z:=0) (z':=[(iA 0)]) r8 r8 r8 r8 rfl (by decide) (fun _=>rfl)) fun a=>.st (v:=((iA (((min c.length a.length:Nat):Int))),[aC.row true 1 (List.map (cI .i64) ((qY a 0 a.length c)))])) (Cf (e:=3) (es:=1) (f:=(cI .i64)) (l:=a) (l2:=c) r8 r8 (by decide) (fun _=>rfl) (I0 _) (by decide) rfl (bH ..)) (.st (dn (e:=3)) (.bd (g:=fun (y:Nat)=>A.ep 0 y 0) (hJ (e:=3) (es:=1) (l:=(qY a 0 a.length c)) r8 r8 rfl) fun k2=>.bd (g:=fun (y:List Int)=>[aC.row true 1 (y.map (cI .i64))]) ((tE (es:=1) (n:=1) (l:=(qY a 0 a.length c)) (xs:=[(iA h)]) (u:=fun (y:Int)=>h) r8 r8 (by decide) rfl (fun _=>rfl) (by decide) (by decide) rfl (fun _=>rfl))) fun d=>.lv (by show br [aC.row true 1 (d.map (cI .i64))] (bM 0 0 a.length false)=_; first | (simp only[cf,dF,br,tr (H:=[aC.row true 1 (d.map (cI .i64))]) (b:=0) (es:=1) (wr:=true) (l:=d) (dW _) rfl]; done) | (simp only[cf,g8,br,tr (H:=[aC.row true 1 (d.map (cI .i64))]) (b:=0) (es:=1) (wr:=true) (l:=d) (dW _) rfl]; first | done | rfl))))))
def Il (a:(List Int)) (b:Int):Option (List Int):=OO aA a b
def CG (C:OT):Prop:=∀ (a:(List Int)) (b:Int),C 25 [(im (a.map (cI .i64)) false),(iA b)]=(Il a b).map fun y=>(im (y.map (cI .i64)) false)
def dQ (a:(List ay)) (b:(List (Int×Int))) (c:(List aN)) (d:Int):aC:=bx [(im (a.map aq) false),(im (b.map au) false),(bM 5 0 c.length false),(iA d)]
def uI (a:av) (b:(List aN)):aC:=bx [(im (a.Net.Queue.map aq) false),(im (a.Net.Apart.map au) false),(bM 5 0 b.length false),(iA (wr .i64 (a.Bar+1)))]
def re (a:(List ay)) (b:(List (Int×Int))) (c:(List aN)) (d:av):aC:=bx [(im (a.map aq) false),(im (b.map au) false),(bM 5 0 c.length false),(iA (wr .i64 (d.Bar+1)))]
def qD (a:Int×Int×(List UInt8)):aC:=bx [(iA a.1),(iA a.2.1),(im (a.2.2.map c8) false)]
def qc (n:Nat) (b:Int) (c:(List Int)) (d:Int) (f:(List ay)) (g:(List (Int×Int))) (h:(List aN)) (i:Int):Nat->Int->Int->Option ((Int)⊕(Unit))
 | 0,_,_=>none
 | m+1,j,a=>bif (decide (a<d)) then ((bf c a).bind fun e=>(wM e (wr .i64 (j+1)) (wr .i64 (b - 1))).bind fun k=>bif (!k) then (some ((Sum.inl 1))) else (qc n b c d f g h i m e (wr .i64 (a+1)))) else (some ((Sum.inr (()))))
theorem JX (t:mZ C) {w162 w163 w164 w165:A} {w166:aC} (f:Int) (o:(List Int)) (p:Int) (a:(List ay)) (b:(List (Int×Int))) (c:(List aN)) (d:Int) {K:((Int)⊕(Unit))->Option γ} (u:∀ (q:Int) (v:A) (s2:A) (w:A) (x:A) (h:A) (i:A) (j:A) (k:A),J φ (kr (St.mk [(1,v),(2,s2),(3,w),(6,(pt 1 0)),(7,(iA q)),(8,x),(9,h),(33,i),(34,j),(35,k)] [w166,(bo a b c d)])) kL (K (Sum.inl q)) some) (y:∀ (h:A) (i:A) (j:A) (k:A),J φ (kx 0 (St.mk [(1,w162),(2,w163),(3,w164),(6,(pt 1 0)),(7,w165),(8,(iA f)),(9,h),(33,i),(34,j),(35,k)] [w166,(bo a b c d)])) kL (K (Sum.inr (()))) some) :
  ∀ (m:Nat) (g:Int) (l:Int),J φ (aE (cx C) (ec C n 8) (ey C n 8) (n+8) 7 0 0 2 kx kg kr kp m (St.mk [(1,w162),(2,w163),(3,w164),(6,(pt 1 0)),(7,w165),(8,(iA f)),(9,(iA g)),(33,(im (o.map (cI .i64)) false)),(34,(iA p)),(35,(iA l))] [w166,(bo a b c d)])) kL (qc n f o p a b c d m g l) K:=by
  refine nI (fun _ _=>.nn) fun m ih g l=>.lp (Rv ..) ?_
  unfold qc
  refine .st (aS ..) (.bQ ?_ ?_)
  ·refine .bd (dr (e:=3) (es:=1)) fun r=>.s (iA r) (.st (aF ..) (.st (dh ..) (.bd (t r (wr .i64 (g+1)) (wr .i64 (f - 1))) fun z=>.s (bA (!z)) (.bQ ?_ ?_))))
   ·exact .s (ag [(im (a.map aq) true),(im (b.map au) true),(im (c.map aw) true),(iA d)]) (.s [w166,(bo a b c d)] (.ex (u _ _ _ _ _ _ _ _ _)))
   refine .st (aF ..) (.s [w166,(bo a b c d)] (.cT r8 ?_))
   exact ih _ _
  exact .ex (y _ _ _ _)
def qd (n:Nat) (c:(List Int)) (d:(List Int)) (e:Int) (f:(List ay)) (g:(List (Int×Int))) (h:(List aN)) (i:Int):Nat->Int->Option ((Int)⊕(Unit))
 | 0,_=>none
 | m+1,a=>bif (decide (a<e)) then ((bf d a).bind fun b=>(wM b 0 a).bind fun j=>(bif (!j) then (some true) else ((bf c b).bind fun k=>some (k != b))).bind fun l=>bif l then (some ((Sum.inl 1))) else (qd n c d e f g h i m (wr .i64 (a+1)))) else (some ((Sum.inr (()))))
theorem JY (z:mZ C) {w367 w368 w369 w370:A} {w371:aC} (g:(List Int)) (k:(List Int)) (l:Int) (a:(List ay)) (b:(List (Int×Int))) (c:(List aN)) (d:Int) {K:((Int)⊕(Unit))->Option γ} (x0:∀ (o:Int) (s1:A) (s2:A) (s3:A) (s8:A) (h:A) (i:A) (j:A),J φ (kr (St.mk [(1,s1),(2,s2),(3,s3),(6,(pt 1 0)),(7,(iA o)),(8,s8),(54,h),(55,i),(56,j)] [w371,(bo a b c d)])) kL (K (Sum.inl o)) some) (x1:∀ (h:A) (i:A) (j:A),J φ (kx 2 (St.mk [(1,w367),(2,(im (g.map (cI .i64)) false)),(3,w368),(6,(pt 1 0)),(7,w369),(8,w370),(54,h),(55,i),(56,j)] [w371,(bo a b c d)])) kL (K (Sum.inr (()))) some) :
  ∀ (m:Nat) (f:Int),J φ (aE (cx C) (ec C n 8) (ey C n 8) (n+8) 7 0 1 2 kx kg kr kp m (St.mk [(1,w367),(2,(im (g.map (cI .i64)) false)),(3,w368),(6,(pt 1 0)),(7,w369),(8,w370),(54,(im (k.map (cI .i64)) false)),(55,(iA l)),(56,(iA f))] [w371,(bo a b c d)])) kL (qd n g k l a b c d m f) K:=by
  refine nI (fun _=>.nn) fun m ih f=>.lp (Rw ..) ?_
  unfold qd
  refine .st (aS ..) (.bQ ?_ ?_)
  ·refine .bd (dr (e:=3) (es:=1)) fun p=>.s (iA p) (.bd (z p 0 f) fun a5=>.s (bA (!a5)) (.bg (fun t (y:Bool)=>∃ q r u v w x:A,t=[(bA y),q,r,u,v,w,x]) ?_ ?_))
   ·refine .bi ?_ ?_
    ·exact .lg ⟨_,_,_,_,_,_,rfl⟩
    exact .bd (dr (e:=3) (es:=1)) fun a6=>.s (iA a6) (.st (aH ..) (.lg ⟨_,_,_,_,_,_,rfl⟩))
   rintro _ a7 ⟨q,r,u,v,w,x,rfl⟩
   refine .u4 (.uc (.uc (.uc (.bQ ?_ ?_))))
   ·exact .s (ag [(im (a.map aq) true),(im (b.map au) true),(im (c.map aw) true),(iA d)]) (.s [w371,(bo a b c d)] (.ex (x0 _ _ _ _ _ _ _ _)))
   refine .st (aF ..) (.s [w371,(bo a b c d)] (.cT r8 ?_))
   exact ih _
  exact .ex (x1 _ _ _)
def ma (n:Nat) (f:(List Int)) (b:(List Int)) (k:Int) (c:Nat) (g:(List aN)) (h:Int) (i:av) (l:(List ay)) (o:(List (Int×Int))) (p:(List aN)) (q:Int):Nat->Int->(List Int)->(List (Int×Int))->(List Int)->Option (Nat×(List Int)×(List (Int×Int))×(List Int))
 | 0,_,_,_,_=>none
 | m+1,a,e,d,j=>bif (decide (a<h)) then ((bf g a).bind fun s=>(bif (decide (0<((s.Cues.length:Int)))) then ((bf s.Cues 0).bind fun v=>some (v.Bar==i.Bar)) else (some false)).bind fun w=>(bif w then ((LJ f a).bind fun x=>some (!x)) else (some false)).bind fun z=>bif z then ((bf s.Cues 0).bind fun a0=>(nB c a).bind fun k1713=>(yc e k1713 (fun (y:Int)=>a0.Program)).bind fun r=>(bf b a).bind fun t=>(bif ((getM d t).isSome) then ((nB c a).bind fun k1717=>(r[k1717]?).bind fun a1=>some (((getM d t).getD 0) != a1)) else (some false)).bind fun a2=>bif a2 then ((bf b a).bind fun a3=>(cQ 8 j ([a])).bind fun a4=>ma n f b k c g h i l o p q m (wr .i64 (a+1)) r (iG d a3 0) a4) else ((bf b a).bind fun a5=>(nB c a).bind fun k1730=>(r[k1730]?).bind fun a6=>(cQ 8 j ([a])).bind fun a7=>ma n f b k c g h i l o p q m (wr .i64 (a+1)) r (iG d a5 a6) a7)) else ((bf b a).bind fun u=>(bif ((getM d u).isSome) then ((nB c a).bind fun k1735=>(e[k1735]?).bind fun a8=>some (((getM d u).getD 0) != a8)) else (some false)).bind fun a9=>bif a9 then ((bf b a).bind fun aa=>(cQ 8 j ([a])).bind fun ab=>ma n f b k c g h i l o p q m (wr .i64 (a+1)) e (iG d aa 0) ab) else ((bf b a).bind fun ad=>(nB c a).bind fun k1748=>(e[k1748]?).bind fun ae=>(cQ 8 j ([a])).bind fun af=>ma n f b k c g h i l o p q m (wr .i64 (a+1)) e (iG d ad ae) af))) else (some ((c,e,d,j)))
theorem JZ (bf:CF C) (w:(List Int)) (a0:(List Int)) (aa:Int) (af:Nat) (a1:(List aN)) (ah:Int) (c:av) (d:(List ay)) (h:(List (Int×Int))) (i:(List aN)) (j:Int) {K:(Nat×(List Int)×(List (Int×Int))×(List Int))->Option γ} (x0:∀ (o0:Nat) (o1:(List Int)) (o2:(List (Int×Int))) (o3:(List Int)) (s1:A) (bk:A) (bl:A) (bm:A),J φ (kx 4 (St.mk [(1,s1),(2,(im (a0.map (cI .i64)) false)),(3,(pt 0 0)),(6,(pt 1 0)),(7,(iA aa)),(14,(bM 2 0 o0 false)),(15,(A.mr 3)),(16,(bM 4 0 o3.length false)),(83,bk),(84,bl),(85,bm)] [bx (ak c),(bo d h i j),aC.row true 1 (o1.map (cI .i64)),gP .i64 iA o2,aC.row false 1 (o3.map (cI .i64))])) kL (K (o0,o1,o2,o3)) some) :
  ∀ (m:Nat) (k:Int) (o:(List Int)) (a:(List (Int×Int))) (p:(List Int)),J φ (aE (cx C) (ec C n 8) (ey C n 8) (n+8) 7 0 2 5 kx kg kr kp m (St.mk [(1,(im (w.map (cI .i64)) false)),(2,(im (a0.map (cI .i64)) false)),(3,(pt 0 0)),(6,(pt 1 0)),(7,(iA aa)),(14,(bM 2 0 af false)),(15,(A.mr 3)),(16,(bM 4 0 p.length false)),(83,(im (a1.map aw) false)),(84,(iA ah)),(85,(iA k))] [bx (ak c),(bo d h i j),aC.row true 1 (o.map (cI .i64)),gP .i64 iA a,aC.row false 1 (p.map (cI .i64))])) kL (ma n w a0 aa af a1 ah c d h i j m k o a p) K:=by
  refine nI (fun _ _ _ _=>.nn) fun m ih k o a p=>.lp (Rx ..) ?_
  unfold ma
  refine .st (aS ..) (.bQ ?_ ?_)
  ·refine .bd (dr (e:=50) (es:=3)) fun q=>.s (ag (aw q)) (.sq (pt 5 0) (.s [bx (ak c),(bo d h i j),aC.row true 1 (o.map (cI .i64)),gP .i64 iA a,aC.row false 1 (p.map (cI .i64)),bx (aw q)] (.s2 (im (q.Cues.map aI) false) (.st (dn (e:=46)) (.st (cC ..) (.bg (fun t (y:Bool)=>∃ am an ao ap aq ar au ax:A,t=[(bA y),am,an,ao,ap,aq,ar,au,ax]) ?_ ?_))))))
   ·refine .bi ?_ ?_
    ·exact .s (pt 5 0) (.s (im (q.Cues.map aI) false) (.bd (dr (e:=46) (es:=4)) fun ab=>.s (A.ip [(iA ab.Bar),(iA ab.Program)]) (.s (iA ab.Bar) (.s (pt 0 3) (.s (iA c.Bar) (.st (aZ ..) (.lg ⟨_,_,_,_,_,_,_,_,rfl⟩)))))))
    exact .lg ⟨_,_,_,_,_,_,_,_,rfl⟩
   rintro _ bt ⟨am,an,ao,ap,aq,ar,au,ax,rfl⟩
   refine .u4 (.u4 (.uc (.XN (.bg (fun t (y:Bool)=>∃ az b0:A,t=[(bA y),az,b0]) ?_ ?_))))
   ·refine .B4 (fun ad=>?_) (fun ad=>?_)
    ·exact .bb (.cr (.uc (.uc (.qs ad (.bd (g:=fun (y:Bool)=>(bA y)) (by show C 24 [snap _ (im (w.map (cI .i64)) false),snap _ (iA k)]=_; simp only[cf,dF,bU (H:=[bx (ak c),(bo d h i j),aC.row true 1 (o.map (cI .i64)),gP .i64 iA a,aC.row false 1 (p.map (cI .i64)),bx (aw q)]) (b:=4) (es:=1) (l:=p) (dW _) rfl]; exact bf w k) fun bn=>.s (bA (!bn)) (.lg ⟨_,_,rfl⟩))))))
    exact .bb (.cr (.uc (.uc (.qb ad (.lg ⟨_,_,rfl⟩)))))
   rintro _ bu ⟨az,b0,rfl⟩
   refine .uc (.uc (.uc (.bQ ?_ ?_)))
   ·refine .s2 (im (q.Cues.map aI) false) (.bd (dr (e:=46) (es:=4)) fun ae=>.s2 (iA ae.Program) (.bd (g:=fun (y:Nat)=>A.ep 2 y 0) (hJ (e:=3) (es:=1) (l:=o) r8 r8 rfl) fun k1713=>.bd (g:=fun (y:List Int)=>[bx (ak c),(bo d h i j),aC.row true 1 (y.map (cI .i64)),gP .i64 iA a,aC.row false 1 (p.map (cI .i64)),bx (aw q)]) ((tE (es:=1) (n:=1) (l:=o) (xs:=[(iA ae.Program)]) (u:=fun (y:Int)=>ae.Program) r8 r8 (by decide) rfl (fun _=>rfl) (by decide) (by decide) rfl (fun _=>rfl))) fun r=>.bd (dr (e:=3) (es:=1)) fun a2=>.s (iA a2) (.st (v:=(tp [(iA ((getM a a2).getD 0)),(bA ((getM a a2).isSome))])) (EL (vt:=3) (f:=iA) (l:=a) (z:=0) (v:=Value.int .i64 0) r8 rfl r8 rfl) (.s (iA ((getM a a2).getD 0)) (.s (bA ((getM a a2).isSome)) (.bg (fun t (y:Bool)=>∃ b1 b2 b3 b4 b5 b6:A,t=[(bA y),b1,b2,b3,b4,b5,b6]) ?_ ?_))))))
    ·refine .bi ?_ ?_
     ·exact .bd (g:=fun (y:Nat)=>A.ep 2 y 0) (hJ (e:=3) (es:=1) (l:=r) r8 r8 rfl) fun k1717=>.bd (g:=fun (y:Int)=>(iA y)) (jS (es:=1) (n:=1) (l:=r) r8 (by decide) (fun _=>rfl) (by decide) rfl (fun _=>r8)) fun bv=>.st (aH ..) (.lg ⟨_,_,_,_,_,_,rfl⟩)
     exact .lg ⟨_,_,_,_,_,_,rfl⟩
    rintro _ bw ⟨b1,b2,b3,b4,b5,b6,rfl⟩
    refine .u4 (.uc (.uc (.uc (.bQ ?_ ?_))))
    ·refine .bd (dr (e:=3) (es:=1)) fun a4=>.s (iA a4) (.st (v:=[bx (ak c),(bo d h i j),aC.row true 1 (r.map (cI .i64)),gP .i64 iA (iG a a4 0),aC.row false 1 (p.map (cI .i64)),bx (aw q)]) (wi (vt:=3) (f:=iA) (l:=a) (x:=0) r8 rfl r8) (.s (im [[(iA k)]] true) (.bd (g:=fun (y:List Int)=>((bM 4 0 y.length false),[bx (ak c),(bo d h i j),aC.row true 1 (r.map (cI .i64)),gP .i64 iA (iG a a4 0),aC.row false 1 (y.map (cI .i64)),bx (aw q)])) (bZ ky (l:=p) (l2:=[k]) (b:=4) rfl (by decide) (bH (f:=(cI .i64)) ([k]:List Int) _ _)) fun bp=>.st (aF ..) (.st (v:=[bx (ak c),(bo d h i j),aC.row true 1 (r.map (cI .i64)),gP .i64 iA (iG a a4 0),aC.row false 1 (bp.map (cI .i64))]) (dB r8 Ya) (.cT ((by kernel_rfl:_=(bif aM 5 (w.map (cI .i64)) then (bif aM 5 (a0.map (cI .i64)) then (bif aM 5 (a1.map aw) then true else false) else false) else false)).trans u3) ?_)))))
     exact ih _ _ _ _
    refine .bd (dr (e:=3) (es:=1)) fun a5=>.s (iA a5) (.bd (g:=fun (y:Nat)=>A.ep 2 y 0) (hJ (e:=3) (es:=1) (l:=r) r8 r8 rfl) fun k1730=>.bd (g:=fun (y:Int)=>(iA y)) (jS (es:=1) (n:=1) (l:=r) r8 (by decide) (fun _=>rfl) (by decide) rfl (fun _=>r8)) fun a6=>.st (v:=[bx (ak c),(bo d h i j),aC.row true 1 (r.map (cI .i64)),gP .i64 iA (iG a a5 a6),aC.row false 1 (p.map (cI .i64)),bx (aw q)]) (wi (vt:=3) (f:=iA) (l:=a) (x:=a6) r8 rfl r8) (.s (im [[(iA k)]] true) (.bd (g:=fun (y:List Int)=>((bM 4 0 y.length false),[bx (ak c),(bo d h i j),aC.row true 1 (r.map (cI .i64)),gP .i64 iA (iG a a5 a6),aC.row false 1 (y.map (cI .i64)),bx (aw q)])) (bZ ky (l:=p) (l2:=[k]) (b:=4) rfl (by decide) (bH (f:=(cI .i64)) ([k]:List Int) _ _)) fun bq=>.st (aF ..) (.st (v:=[bx (ak c),(bo d h i j),aC.row true 1 (r.map (cI .i64)),gP .i64 iA (iG a a5 a6),aC.row false 1 (bq.map (cI .i64))]) (dB r8 Ya) (.cT ((by kernel_rfl:_=(bif aM 5 (w.map (cI .i64)) then (bif aM 5 (a0.map (cI .i64)) then (bif aM 5 (a1.map aw) then true else false) else false) else false)).trans u3) ?_)))))
    exact ih _ _ _ _
   refine .bd (dr (e:=3) (es:=1)) fun a3=>.s (iA a3) (.st (v:=(tp [(iA ((getM a a3).getD 0)),(bA ((getM a a3).isSome))])) (EL (vt:=3) (f:=iA) (l:=a) (z:=0) (v:=Value.int .i64 0) r8 rfl r8 rfl) (.s (iA ((getM a a3).getD 0)) (.s (bA ((getM a a3).isSome)) (.bg (fun t (y:Bool)=>∃ b7 b8 b9 ba bc be:A,t=[(bA y),b7,b8,b9,ba,bc,be]) ?_ ?_))))
   ·refine .bi ?_ ?_
    ·exact .bd (g:=fun (y:Nat)=>A.ep 2 y 0) (hJ (e:=3) (es:=1) (l:=o) r8 r8 rfl) fun k1735=>.bd (g:=fun (y:Int)=>(iA y)) (jS (es:=1) (n:=1) (l:=o) r8 (by decide) (fun _=>rfl) (by decide) rfl (fun _=>r8)) fun bz=>.st (aH ..) (.lg ⟨_,_,_,_,_,_,rfl⟩)
    exact .lg ⟨_,_,_,_,_,_,rfl⟩
   rintro _ c0 ⟨b7,b8,b9,ba,bc,be,rfl⟩
   refine .u4 (.uc (.uc (.uc (.bQ ?_ ?_))))
   ·refine .bd (dr (e:=3) (es:=1)) fun a7=>.s (iA a7) (.st (v:=[bx (ak c),(bo d h i j),aC.row true 1 (o.map (cI .i64)),gP .i64 iA (iG a a7 0),aC.row false 1 (p.map (cI .i64)),bx (aw q)]) (wi (vt:=3) (f:=iA) (l:=a) (x:=0) r8 rfl r8) (.s (im [[(iA k)]] true) (.bd (g:=fun (y:List Int)=>((bM 4 0 y.length false),[bx (ak c),(bo d h i j),aC.row true 1 (o.map (cI .i64)),gP .i64 iA (iG a a7 0),aC.row false 1 (y.map (cI .i64)),bx (aw q)])) (bZ ky (l:=p) (l2:=[k]) (b:=4) rfl (by decide) (bH (f:=(cI .i64)) ([k]:List Int) _ _)) fun br=>.st (aF ..) (.st (v:=[bx (ak c),(bo d h i j),aC.row true 1 (o.map (cI .i64)),gP .i64 iA (iG a a7 0),aC.row false 1 (br.map (cI .i64))]) (dB r8 Ya) (.cT ((by kernel_rfl:_=(bif aM 5 (w.map (cI .i64)) then (bif aM 5 (a0.map (cI .i64)) then (bif aM 5 (a1.map aw) then true else false) else false) else false)).trans u3) ?_)))))
    exact ih _ _ _ _
   refine .bd (dr (e:=3) (es:=1)) fun a8=>.s (iA a8) (.bd (g:=fun (y:Nat)=>A.ep 2 y 0) (hJ (e:=3) (es:=1) (l:=o) r8 r8 rfl) fun k1748=>.bd (g:=fun (y:Int)=>(iA y)) (jS (es:=1) (n:=1) (l:=o) r8 (by decide) (fun _=>rfl) (by decide) rfl (fun _=>r8)) fun a9=>.st (v:=[bx (ak c),(bo d h i j),aC.row true 1 (o.map (cI .i64)),gP .i64 iA (iG a a8 a9),aC.row false 1 (p.map (cI .i64)),bx (aw q)]) (wi (vt:=3) (f:=iA) (l:=a) (x:=a9) r8 rfl r8) (.s (im [[(iA k)]] true) (.bd (g:=fun (y:List Int)=>((bM 4 0 y.length false),[bx (ak c),(bo d h i j),aC.row true 1 (o.map (cI .i64)),gP .i64 iA (iG a a8 a9),aC.row false 1 (y.map (cI .i64)),bx (aw q)])) (bZ ky (l:=p) (l2:=[k]) (b:=4) rfl (by decide) (bH (f:=(cI .i64)) ([k]:List Int) _ _)) fun bs=>.st (aF ..) (.st (v:=[bx (ak c),(bo d h i j),aC.row true 1 (o.map (cI .i64)),gP .i64 iA (iG a a8 a9),aC.row false 1 (bs.map (cI .i64))]) (dB r8 Ya) (.cT ((by kernel_rfl:_=(bif aM 5 (w.map (cI .i64)) then (bif aM 5 (a0.map (cI .i64)) then (bif aM 5 (a1.map aw) then true else false) else false) else false)).trans u3) ?_)))))
   exact ih _ _ _ _
  exact .ex (x0 _ _ _ _ _ _ _ _)
def oy (n:Nat) (c:(List Int)) (k:Int) (d:Nat) (g:(List aN)) (h:Int) (i:av) (l:(List ay)) (o:(List (Int×Int))) (p:Int) (e:(List Int)) (f:(List (Int×Int))) (q:(List Int)):Nat->Int->(List aN)->Option ((List aN))
 | 0,_,_=>none
 | m+1,b,j=>bif (decide (b<h)) then ((bf g b).bind fun a=>(bif (decide (0<((a.Cues.length:Int)))) then ((bf a.Cues 0).bind fun r=>some (r.Bar==i.Bar)) else (some false)).bind fun s=>bif s then ((iB a.Cues 1 ((a.Cues.length:Int))).bind fun t=>(nB d b).bind fun k3184=>(e[k3184]?).bind fun u=>(Il a.Got u).bind fun v=>(bf c b).bind fun w=>(Il a.Did ((getM f w).getD 0)).bind fun x=>(cQ 72 j ([(aN.mk t v x)])).bind fun y=>oy n c k d g h i l o p e f q m (wr .i64 (b+1)) y) else ((nB d b).bind fun k3190=>(e[k3190]?).bind fun z=>(Il a.Got z).bind fun a0=>(bf c b).bind fun a1=>(Il a.Did ((getM f a1).getD 0)).bind fun a2=>(cQ 72 j ([(aN.mk a.Cues a0 a2)])).bind fun a3=>oy n c k d g h i l o p e f q m (wr .i64 (b+1)) a3)) else (some j)
theorem J0 (r:CG C) (u:(List Int)) (ad:Int) (ae:Nat) (w:(List aN)) (af:Int) (k:av) (o:(List ay)) (p:(List (Int×Int))) (q:Int) (j:(List Int)) (h:(List (Int×Int))) (i:(List Int)) {K:((List aN))->Option γ} (x0:∀ (o0:(List aN)) (s2:A) (s7:A) (an:A) (ao:A) (ap:A) (ar:A) (ax:A),J φ (kx 6 (St.mk [(2,s2),(3,(pt 0 0)),(6,(pt 1 0)),(7,s7),(14,an),(15,ao),(16,(bM 4 0 i.length false)),(162,ap),(163,ar),(164,ax)] [bx (ak k),bx [(im (o.map aq) false),(im (p.map au) false),(bM 5 0 o0.length false),(iA q)],aC.row true 1 (j.map (cI .i64)),gP .i64 iA h,aC.row false 1 (i.map (cI .i64)),aC.row false 3 (o0.map aw)])) kL (K o0) some) :
  ∀ (m:Nat) (a9:Int) (d:(List aN)),J φ (aE (cx C) (ec C n 8) (ey C n 8) (n+8) 7 0 3 6 kx kg kr kp m (St.mk [(2,(im (u.map (cI .i64)) false)),(3,(pt 0 0)),(6,(pt 1 0)),(7,(iA ad)),(14,(bM 2 0 ae false)),(15,(A.mr 3)),(16,(bM 4 0 i.length false)),(162,(im (w.map aw) false)),(163,(iA af)),(164,(iA a9))] [bx (ak k),(dQ o p d q),aC.row true 1 (j.map (cI .i64)),gP .i64 iA h,aC.row false 1 (i.map (cI .i64)),aC.row false 3 (d.map aw)])) kL (oy n u ad ae w af k o p q j h i m a9 d) K:=by
  refine nI (fun _ _=>.nn) fun m ih a9 d=>.lp (Ry ..) ?_
  unfold oy
  refine .st (aS ..) (.bQ ?_ ?_)
  ·refine .bd (dr (e:=50) (es:=3)) fun c=>.s (ag (aw c)) (.sq (pt 6 0) (.s [bx (ak k),(dQ o p d q),aC.row true 1 (j.map (cI .i64)),gP .i64 iA h,aC.row false 1 (i.map (cI .i64)),aC.row false 3 (d.map aw),bx (aw c)] (.s2 (im (c.Cues.map aI) false) (.st (dn (e:=46)) (.st (cC ..) (.U4 (.bg (fun t (y:Bool)=>∃ ah:A,t=[(bA y),ah]) ?_ ?_)))))))
   ·refine .B4 (fun aa=>?_) (fun aa=>?_)
    ·exact .bb (.bd (dr (e:=46) (es:=4)) fun ab=>.s (A.ip [(iA ab.Bar),(iA ab.Program)]) (.s (iA ab.Bar) (.s (pt 0 3) (.s (iA k.Bar) (.cr (.u4 (.uc (.uc (.qs aa (.st (aZ ..) (.lg ⟨_,rfl⟩)))))))))))
    exact .bb (.cr (.u4 (.uc (.uc (.qb aa (.lg ⟨_,rfl⟩))))))
   rintro _ az ⟨ah,rfl⟩
   refine .uc (.uc (.bQ ?_ ?_))
   ·refine .bd (pL (e:=46) (es:=4) (f:=aI) (l:=c.Cues) (a:=1) (b:=(c.Cues.length:Int)) r8 r8 (fun _=>rfl) (.inr ⟨_,rfl⟩) (.inl ⟨rfl,rfl⟩)) fun x=>.s2 (bM 5 0 d.length false) (.s2 (im (c.Got.map (cI .i64)) false) (.bd (g:=fun (y:Nat)=>A.ep 2 y 0) (hJ (e:=3) (es:=1) (l:=j) r8 r8 rfl) fun k3184=>.bd (g:=fun (y:Int)=>(iA y)) (jS (es:=1) (n:=1) (l:=j) r8 (by decide) (fun _=>rfl) (by decide) rfl (fun _=>r8)) fun ai=>.bd (g:=fun (y:(List Int))=>(im (y.map (cI .i64)) false)) (by show C 25 [snap _ (im (c.Got.map (cI .i64)) false),snap _ (iA ai)]=_; simp only[cf,dF,bU (H:=[bx (ak k),(dQ o p d q),aC.row true 1 (j.map (cI .i64)),gP .i64 iA h,aC.row false 1 (i.map (cI .i64)),aC.row false 3 (d.map aw),bx (aw c)]) (b:=4) (es:=1) (l:=i) (dW _) rfl,bU (H:=[bx (ak k),(dQ o p d q),aC.row true 1 (j.map (cI .i64)),gP .i64 iA h,aC.row false 1 (i.map (cI .i64)),aC.row false 3 (d.map aw),bx (aw c)]) (b:=5) (es:=3) (l:=d) dc rfl]; exact r c.Got ai) fun a0=>.s2 (im (c.Did.map (cI .i64)) false) (.bd (dr (e:=3) (es:=1)) fun a1=>.s (iA a1) (.st (v:=(iA ((getM h a1).getD 0))) (A3 (vt:=3) (f:=iA) (l:=h) (z:=0) (v:=Value.int .i64 0) r8 rfl r8 rfl) ?_))))
    refine .bd (g:=fun (y:(List Int))=>(im (y.map (cI .i64)) false)) (by show C 25 [snap _ (im (c.Did.map (cI .i64)) false),snap _ (iA ((getM h a1).getD 0))]=_; simp only[cf,dF,bU (H:=[bx (ak k),(dQ o p d q),aC.row true 1 (j.map (cI .i64)),gP .i64 iA h,aC.row false 1 (i.map (cI .i64)),aC.row false 3 (d.map aw),bx (aw c)]) (b:=4) (es:=1) (l:=i) (dW _) rfl,bU (H:=[bx (ak k),(dQ o p d q),aC.row true 1 (j.map (cI .i64)),gP .i64 iA h,aC.row false 1 (i.map (cI .i64)),aC.row false 3 (d.map aw),bx (aw c)]) (b:=5) (es:=3) (l:=d) dc rfl]; exact r c.Did ((getM h a1).getD 0)) fun a2=>.s (ag [(im (x.map aI) false),(im (a0.map (cI .i64)) false),(im (a2.map (cI .i64)) false)]) (.s (im [[(im (x.map aI) false),(im (a0.map (cI .i64)) false),(im (a2.map (cI .i64)) false)]] true) (.bd (g:=fun (y:List aN)=>((bM 5 0 y.length false),[bx (ak k),(dQ o p d q),aC.row true 1 (j.map (cI .i64)),gP .i64 iA h,aC.row false 1 (i.map (cI .i64)),aC.row false 3 (y.map aw),bx (aw c)])) (bZ vy (l:=d) (l2:=[(aN.mk x a0 a2)]) (b:=5) rfl (by decide) (bH (f:=aw) ([(aN.mk x a0 a2)]:List aN) _ _)) fun a3=>.s (pt 1 2) (.s [bx (ak k),bx [(im (o.map aq) false),(im (p.map au) false),(bM 5 0 a3.length false),(iA q)],aC.row true 1 (j.map (cI .i64)),gP .i64 iA h,aC.row false 1 (i.map (cI .i64)),aC.row false 3 (a3.map aw),bx (aw c)] (.st (aF ..) (.st (v:=[bx (ak k),bx [(im (o.map aq) false),(im (p.map au) false),(bM 5 0 a3.length false),(iA q)],aC.row true 1 (j.map (cI .i64)),gP .i64 iA h,aC.row false 1 (i.map (cI .i64)),aC.row false 3 (a3.map aw)]) (dB r8 (by simp only[uB,eY,wG,eZ,Nat.reduceLT,YW])) ?_)))))
    refine .cT ((by kernel_rfl:_=(bif aM 6 (u.map (cI .i64)) then (bif aM 6 (w.map aw) then true else false) else false)).trans u3) ?_
    exact ih _ _
   refine .s2 (bM 5 0 d.length false) (.s2 (im (c.Got.map (cI .i64)) false) (.bd (g:=fun (y:Nat)=>A.ep 2 y 0) (hJ (e:=3) (es:=1) (l:=j) r8 r8 rfl) fun k3190=>.bd (g:=fun (y:Int)=>(iA y)) (jS (es:=1) (n:=1) (l:=j) r8 (by decide) (fun _=>rfl) (by decide) rfl (fun _=>r8)) fun aj=>.bd (g:=fun (y:(List Int))=>(im (y.map (cI .i64)) false)) (by show C 25 [snap _ (im (c.Got.map (cI .i64)) false),snap _ (iA aj)]=_; simp only[cf,dF,bU (H:=[bx (ak k),(dQ o p d q),aC.row true 1 (j.map (cI .i64)),gP .i64 iA h,aC.row false 1 (i.map (cI .i64)),aC.row false 3 (d.map aw),bx (aw c)]) (b:=4) (es:=1) (l:=i) (dW _) rfl,bU (H:=[bx (ak k),(dQ o p d q),aC.row true 1 (j.map (cI .i64)),gP .i64 iA h,aC.row false 1 (i.map (cI .i64)),aC.row false 3 (d.map aw),bx (aw c)]) (b:=5) (es:=3) (l:=d) dc rfl]; exact r c.Got aj) fun a4=>.s2 (im (c.Did.map (cI .i64)) false) (.bd (dr (e:=3) (es:=1)) fun a5=>.s (iA a5) (.st (v:=(iA ((getM h a5).getD 0))) (A3 (vt:=3) (f:=iA) (l:=h) (z:=0) (v:=Value.int .i64 0) r8 rfl r8 rfl) (.bd (g:=fun (y:(List Int))=>(im (y.map (cI .i64)) false)) (by show C 25 [snap _ (im (c.Did.map (cI .i64)) false),snap _ (iA ((getM h a5).getD 0))]=_; simp only[cf,dF,bU (H:=[bx (ak k),(dQ o p d q),aC.row true 1 (j.map (cI .i64)),gP .i64 iA h,aC.row false 1 (i.map (cI .i64)),aC.row false 3 (d.map aw),bx (aw c)]) (b:=4) (es:=1) (l:=i) (dW _) rfl,bU (H:=[bx (ak k),(dQ o p d q),aC.row true 1 (j.map (cI .i64)),gP .i64 iA h,aC.row false 1 (i.map (cI .i64)),aC.row false 3 (d.map aw),bx (aw c)]) (b:=5) (es:=3) (l:=d) dc rfl]; exact r c.Did ((getM h a5).getD 0)) fun a6=>?_)))))
   refine .s (ag [(im (c.Cues.map aI) false),(im (a4.map (cI .i64)) false),(im (a6.map (cI .i64)) false)]) (.s (im [[(im (c.Cues.map aI) false),(im (a4.map (cI .i64)) false),(im (a6.map (cI .i64)) false)]] true) (.bd (g:=fun (y:List aN)=>((bM 5 0 y.length false),[bx (ak k),(dQ o p d q),aC.row true 1 (j.map (cI .i64)),gP .i64 iA h,aC.row false 1 (i.map (cI .i64)),aC.row false 3 (y.map aw),bx (aw c)])) (bZ vy (l:=d) (l2:=[(aN.mk c.Cues a4 a6)]) (b:=5) rfl (by decide) (bH (f:=aw) ([(aN.mk c.Cues a4 a6)]:List aN) _ _)) fun a7=>.s (pt 1 2) (.s [bx (ak k),bx [(im (o.map aq) false),(im (p.map au) false),(bM 5 0 a7.length false),(iA q)],aC.row true 1 (j.map (cI .i64)),gP .i64 iA h,aC.row false 1 (i.map (cI .i64)),aC.row false 3 (a7.map aw),bx (aw c)] (.st (aF ..) (.st (v:=[bx (ak k),bx [(im (o.map aq) false),(im (p.map au) false),(bM 5 0 a7.length false),(iA q)],aC.row true 1 (j.map (cI .i64)),gP .i64 iA h,aC.row false 1 (i.map (cI .i64)),aC.row false 3 (a7.map aw)]) (dB r8 (by simp only[uB,eY,wG,eZ,Nat.reduceLT,YW])) (.cT ((by kernel_rfl:_=(bif aM 6 (u.map (cI .i64)) then (bif aM 6 (w.map aw) then true else false) else false)).trans u3) ?_))))))
   exact ih _ _
  exact .ex (x0 _ _ _ _ _ _ _ _)
def l0 (n:Nat) (l:av) (e:Int) (c:Int) (o:(List Int)) (p:Int) (q:Int) (f:(List Int)) (g:Int) (r:av) (s:(List ay)) (t:(List (Int×Int))) (u:Int) (v:(List Int)) (w:(List (Int×Int))) (x:(List Int)) (y:(List aN)) (z:Int) (a0:(List ay)) (a1:(List (Int×Int))) (a2:(List aN)) (a3:Int) (a4:Int):Nat->Int->(List ay)->(List (Int×Int))->Option ((Int)⊕((List ay)×(List (Int×Int))))
 | 0,_,_,_=>none
 | m+1,b,h,i=>bif (decide (b<g)) then ((bf f b).bind fun a5=>bif (decide (e<=b)) then ((some c).bind fun a6=>(some (wr .i64 (a6+1))).bind fun a7=>(some ((c,b,a5))).bind fun j=>(some ((2,0,0,0,0,j.1,j.2.1,j.2.2))).bind fun a=>((JQ ((aU.mk a.1 ((bL.mk a.2.1 a.2.2.1 a.2.2.2.1 a.2.2.2.2.1)) ((bj.mk a.2.2.2.2.2.1 a.2.2.2.2.2.2.1 a.2.2.2.2.2.2.2))))).bind fun a8=>some a8).bind fun a9=>(some ((a7,0,a9))).bind fun k=>(JP ((bh.mk h i)) ((ay.mk k.1 k.2.1 k.2.2))).bind fun d=>bif (d.2 != 0) then ((some (())).bind fun aa=>some ((Sum.inl d.2))) else ((some (())).bind fun ab=>l0 n l e c o p q f g r s t u v w x y z a0 a1 a2 a3 a4 m (wr .i64 (b+1)) d.1.Queue d.1.Apart)) else ((some (())).bind fun ad=>(some (())).bind fun ae=>(some (())).bind fun af=>(some (())).bind fun ag=>(some (())).bind fun ah=>(some (())).bind fun ai=>(some (())).bind fun aj=>l0 n l e c o p q f g r s t u v w x y z a0 a1 a2 a3 a4 m (wr .i64 (b+1)) h i)) else (some ((Sum.inr ((h,i)))))
theorem FP (ax:qT C) (az:qU C) (a5:av) (a9:Int) (a3:Int) (a8:(List Int)) (ab:Int) (ad:Int) (ae:(List Int)) (am:Int) (r:av) (u:(List ay)) (w:(List (Int×Int))) (x:Int) (z:(List Int)) (a0:(List (Int×Int))) (o:(List Int)) (a:(List aN)) (a1:Int) (h:(List ay)) (i:(List (Int×Int))) (j:(List aN)) (k:Int) (a4:Int) {K:((Int)⊕((List ay)×(List (Int×Int))))->Option γ} (x0:∀ (o0:Int) (s6:A) (ah:A) (ai:A) (aj:A) (q0:aC) (q1:aC) (q2:aC) (q3:aC) (q4:aC) (q5:aC) (q6:aC) (q10:aC) (q11:aC) (q12:aC),J φ (kr (St.mk [(0,(A.yld 9)),(2,(A.ip (ak a5))),(3,(A.ip [(iA a9)])),(6,s6),(10,(im (a8.map (cI .i64)) false)),(11,(iA ab)),(12,(iA ad)),(21,ah),(22,ai),(23,aj)] [q0,q1,q2,q3,q4,q5,q6,(bo h i j k),bx [(iA o0)],aC.rng (jW.done It.ret),q10,q11,q12])) kL (K (Sum.inl o0)) some) (x1:∀ (o0:(List ay)) (o1:(List (Int×Int))) (s6:A) (ah:A) (ai:A) (aj:A),J φ (kx 2 (St.mk [(0,(A.yld 9)),(2,(A.ip (ak a5))),(3,(A.ip [(iA a9)])),(6,s6),(10,(im (a8.map (cI .i64)) false)),(11,(iA ab)),(12,(iA ad)),(21,ah),(22,ai),(23,aj)] [bx (ak r),(dQ u w a x),aC.row true 1 (z.map (cI .i64)),gP .i64 iA a0,aC.row false 1 (o.map (cI .i64)),aC.row false 3 (a.map aw),bx [(im (o0.map aq) false),(im (o1.map au) false),(bM 5 0 a.length false),(iA a1)],(bo h i j k),bx [(iA a4)],aC.rng jW.ready])) kL (K (Sum.inr ((o0,o1)))) some) :
  ∀ (m:Nat) (a2:Int) (p:(List ay)) (q:(List (Int×Int))),J φ (aE (cx C) (bw (cx C) (n+6) (tZ 139 (dH (cx C) (n+7)) 9 (qH (cx C) (ec C n 7) (ey C n 7) (n+7) 26 6 0 9 [(2,(pt 6 0)),(4,(pt 7 0)),(5,(pt 8 0))]))) (bw (cx C) (n+6)) (n+6) 59 6 1 10 kx kg kr kp m (St.mk [(0,(A.yld 9)),(2,(A.ip (ak a5))),(3,(A.ip [(iA a9)])),(6,(iA a3)),(10,(im (a8.map (cI .i64)) false)),(11,(iA ab)),(12,(iA ad)),(21,(im (ae.map (cI .i64)) false)),(22,(iA am)),(23,(iA a2))] [bx (ak r),(dQ u w a x),aC.row true 1 (z.map (cI .i64)),gP .i64 iA a0,aC.row false 1 (o.map (cI .i64)),aC.row false 3 (a.map aw),(dQ p q a a1),(bo h i j k),bx [(iA a4)],aC.rng jW.ready])) kL (l0 n a5 a9 a3 a8 ab ad ae am r u w x z a0 o a a1 h i j k a4 m a2 p q) K:=by
  refine nI (fun _ _ _=>.nn) fun m ih a2 p q=>.lp (I7 ..) ?_
  unfold l0
  refine .st (aS ..) (.bQ ?_ ?_)
  ·refine .bd (dr (e:=3) (es:=1)) fun a6=>.s (iA a6) (.s (ag [(iA a3),(iA a2),(iA a6)]) (.sq (pt 10 0) (.s [bx (ak r),(dQ u w a x),aC.row true 1 (z.map (cI .i64)),gP .i64 iA a0,aC.row false 1 (o.map (cI .i64)),aC.row false 3 (a.map aw),(dQ p q a a1),(bo h i j k),bx [(iA a4)],aC.rng jW.ready,bx [(iA a3),(iA a2),(iA a6)]] (.s (iA a9) (.st (dq ..) (.B4 (fun c=>?_) (fun c=>?_)))))))
   ·refine .bb (.cr (.bg (fun t (y:Int) =>  t=(iA y)) ?_ ?_))
    ·exact .lp (bX c) (.lg rfl)
    rintro _ b4 rfl
    refine .bg (fun t (y:Int) =>  t=(iA y)) ?_ ?_
    ·exact .lp (bX c) (.st (aF ..) (.lg rfl))
    rintro _ b2 rfl
    refine .bg (fun t (y:Int×Int×Int) =>  t=(ag [(iA y.1),(iA y.2.1),(iA y.2.2)])) ?_ ?_
    ·exact .lp (bX c) (.s (ag [(iA a3),(iA a2),(iA a6)]) (.lg rfl))
    rintro _ al rfl
    refine .bg (fun t (y:Int×Int×Int×Int×Int×Int×Int×Int) =>  t=(ag [(iA y.1),(iA y.2.1),(iA y.2.2.1),(iA y.2.2.2.1),(iA y.2.2.2.2.1),(iA y.2.2.2.2.2.1),(iA y.2.2.2.2.2.2.1),(iA y.2.2.2.2.2.2.2)])) ?_ ?_
    ·exact .lp (bX c) (.s (ag [(iA 2),(iA 0),(iA 0),(iA 0),(iA 0),(iA al.1),(iA al.2.1),(iA al.2.2)]) (.lg rfl))
    rintro _ a7 rfl
    refine .bg (fun t (y:(List UInt8)) =>  t=(im (y.map c8) false)) ?_ ?_
    ·exact .lp (bX c) (.bd (az ((aU.mk a7.1 ((bL.mk a7.2.1 a7.2.2.1 a7.2.2.2.1 a7.2.2.2.2.1)) ((bj.mk a7.2.2.2.2.2.1 a7.2.2.2.2.2.2.1 a7.2.2.2.2.2.2.2))))) fun b5=>.lg rfl)
    rintro _ b3 rfl
    refine .bg (fun t (y:Int×Int×(List UInt8)) =>  t=(ag [(iA y.1),(iA y.2.1),(im (y.2.2.map c8) false)])) ?_ ?_
    ·exact .lp (bX c) (.s (ag [(iA b2),(iA 0),(im (b3.map c8) false)]) (.lg rfl))
    rintro _ f rfl
    refine .lp (bX c) (.dY rfl (.cl (yq.trans (Bv.trans (DR C (ec C n 7) (ey C n 7) (n+7) _ _ _ _ _ _ _ _))) (.cT r8 (.lp (wC rfl) (.sq (pt 11 0) (.s [bx (ak r),(dQ u w a x),aC.row true 1 (z.map (cI .i64)),gP .i64 iA a0,aC.row false 1 (o.map (cI .i64)),aC.row false 3 (a.map aw),(dQ p q a a1),(bo h i j k),bx [(iA a4)],aC.rng jW.ready,bx [(iA a3),(iA a2),(iA a6)],(qD f)] (.lp (wC rfl) (.s2 (ag [(im (p.map aq) false),(im (q.map au) false)]) (.s (ag [(iA f.1),(iA f.2.1),(im (f.2.2.map c8) false)]) (.bd (g:=fun (y:(bh×Int))=>(tp [(ag [(im (y.1.Queue.map aq) false),(im (y.1.Apart.map au) false)]),(iA y.2)])) (by show C 53 [snap _ (ag [(im (p.map aq) false),(im (q.map au) false)]),snap _ (ag [(iA f.1),(iA f.2.1),(im (f.2.2.map c8) false)])]=_; simp only[cf,dF,bU (H:=[bx (ak r),(dQ u w a x),aC.row true 1 (z.map (cI .i64)),gP .i64 iA a0,aC.row false 1 (o.map (cI .i64)),aC.row false 3 (a.map aw),(dQ p q a a1),(bo h i j k),bx [(iA a4)],aC.rng jW.busy,bx [(iA a3),(iA a2),(iA a6)],(qD f)]) (b:=4) (es:=1) (l:=o) (dW _) rfl,bU (H:=[bx (ak r),(dQ u w a x),aC.row true 1 (z.map (cI .i64)),gP .i64 iA a0,aC.row false 1 (o.map (cI .i64)),aC.row false 3 (a.map aw),(dQ p q a a1),(bo h i j k),bx [(iA a4)],aC.rng jW.busy,bx [(iA a3),(iA a2),(iA a6)],(qD f)]) (b:=5) (es:=3) (l:=a) dc rfl]; exact ax ((bh.mk p q)) ((ay.mk f.1 f.2.1 f.2.2))) fun d=>.s (ag [(im (d.1.Queue.map aq) false),(im (d.1.Apart.map au) false)]) (.s (iA d.2) (.sq (pt 12 0) ?_))))))))))))
    refine .s [bx (ak r),(dQ u w a x),aC.row true 1 (z.map (cI .i64)),gP .i64 iA a0,aC.row false 1 (o.map (cI .i64)),aC.row false 3 (a.map aw),(dQ p q a a1),(bo h i j k),bx [(iA a4)],aC.rng jW.busy,bx [(iA a3),(iA a2),(iA a6)],(qD f),bx [(im (d.1.Queue.map aq) false),(im (d.1.Apart.map au) false)]] (.st (aH ..) (.bQ ?_ ?_))
    ·refine .s (ag [(im (h.map aq) true),(im (i.map au) true),(im (j.map aw) true),(iA k)]) (.sh (.s [bx (ak r),(dQ u w a x),aC.row true 1 (z.map (cI .i64)),gP .i64 iA a0,aC.row false 1 (o.map (cI .i64)),aC.row false 3 (a.map aw),(dQ p q a a1),(bo h i j k),bx [(iA d.2)],aC.rng jW.busy,bx [(iA a3),(iA a2),(iA a6)],(qD f),bx [(im (d.1.Queue.map aq) false),(im (d.1.Apart.map au) false)]] (.lp (vA rfl) (.cr (.ok (.bg (fun t (y:Unit)=>∃ ao:A,t=[(bA true),ao]) ?_ ?_))))))
     ·exact .qs c (.s (bA true) (.lg ⟨_,rfl⟩))
     rintro _ b6 ⟨ao,rfl⟩
     exact .uc (.uc (.Lr (.ex (x0 _ _ _ _ _ _ _ _ _ _ _ _ _ _ _))))
    refine .s (ag [(im (d.1.Queue.map aq) false),(im (d.1.Apart.map au) false)]) (.s (pt 6 0) (.s [bx (ak r),(dQ u w a x),aC.row true 1 (z.map (cI .i64)),gP .i64 iA a0,aC.row false 1 (o.map (cI .i64)),aC.row false 3 (a.map aw),bx [(im (d.1.Queue.map aq) false),(im (d.1.Apart.map au) false),(bM 5 0 a.length false),(iA a1)],(bo h i j k),bx [(iA a4)],aC.rng jW.busy,bx [(iA a3),(iA a2),(iA a6)],(qD f),bx [(im (d.1.Queue.map aq) false),(im (d.1.Apart.map au) false)]] (.lp (vA rfl) (.cr (.ok (.bg (fun t (y:Unit)=>∃ ap:A,t=[(bA false),ap]) ?_ ?_))))))
    ·exact .qs c (.s (bA false) (.lg ⟨_,rfl⟩))
    rintro _ b7 ⟨ap,rfl⟩
    refine .uc (.uc (.Kd (.st (aF ..) (.st (v:=[bx (ak r),(dQ u w a x),aC.row true 1 (z.map (cI .i64)),gP .i64 iA a0,aC.row false 1 (o.map (cI .i64)),aC.row false 3 (a.map aw),bx [(im (d.1.Queue.map aq) false),(im (d.1.Apart.map au) false),(bM 5 0 a.length false),(iA a1)],(bo h i j k),bx [(iA a4)],aC.rng jW.ready]) (dB r8 (by simp only[uB,eY,wG,eZ,Nat.reduceLT,YW,bo,dQ])) (.cT ((by kernel_rfl:_=(bif ((aM 10 (a5.Net.Queue.map aq))&&((aM 10 (a5.Net.Apart.map au))&&((aM 10 (a5.Ears.map aw))&&true))) then (bif aM 10 (a8.map (cI .i64)) then (bif aM 10 (ae.map (cI .i64)) then true else false) else false) else false)).trans u3) ?_)))))
    exact ih _ _ _
   refine .bb (.cr (.bg (fun t (y:Unit) =>  t=(A.v undef)) ?_ ?_))
   ·exact .lp (bW c) (.lg rfl)
   rintro _ b8 rfl
   refine .bg (fun t (y:Unit) =>  t=(A.v undef)) ?_ ?_
   ·exact .lp (bW c) (.lg rfl)
   rintro _ b9 rfl
   refine .bg (fun t (y:Unit) =>  t=(A.v undef)) ?_ ?_
   ·exact .lp (bW c) (.lg rfl)
   rintro _ ba rfl
   refine .bg (fun t (y:Unit) =>  t=(A.v undef)) ?_ ?_
   ·exact .lp (bW c) (.lg rfl)
   rintro _ bc rfl
   refine .bg (fun t (y:Unit) =>  t=(A.v undef)) ?_ ?_
   ·exact .lp (bW c) (.lg rfl)
   rintro _ be rfl
   refine .bg (fun t (y:Unit) =>  t=(A.v undef)) ?_ ?_
   ·exact .lp (bW c) (.lg rfl)
   rintro _ bf rfl
   refine .lp (bW c) (.bg (fun t (y:Unit)=>∃ ar:A,t=[(bA false),ar]) ?_ ?_)
   ·exact .qb c (.lg ⟨_,rfl⟩)
   rintro _ bi ⟨ar,rfl⟩
   refine .uc (.uc (.Kd (.st (aF ..) (.st (v:=[bx (ak r),(dQ u w a x),aC.row true 1 (z.map (cI .i64)),gP .i64 iA a0,aC.row false 1 (o.map (cI .i64)),aC.row false 3 (a.map aw),(dQ p q a a1),(bo h i j k),bx [(iA a4)],aC.rng jW.ready]) (dB r8 (by simp only[uB,eY,wG,eZ,Nat.reduceLT,YW,bo,dQ,dQ])) (.cT ((by kernel_rfl:_=(bif ((aM 10 (a5.Net.Queue.map aq))&&((aM 10 (a5.Net.Apart.map au))&&((aM 10 (a5.Ears.map aw))&&true))) then (bif aM 10 (a8.map (cI .i64)) then (bif aM 10 (ae.map (cI .i64)) then true else false) else false) else false)).trans u3) ?_)))))
   exact ih _ _ _
  exact .ex (x1 _ _ _ _ _ _)
def nS (n:Nat) (b:av) (e:Int) (c:(List Int)) (d:Int) (f:av) (g:(List ay)) (h:(List (Int×Int))) (i:Int) (j:(List Int)) (k:(List (Int×Int))) (l:(List Int)) (o:(List aN)) (p:Int) (q:(List ay)) (r:(List (Int×Int))) (s:(List aN)) (t:Int) (u:Int):Nat->Int->(List ay)->(List (Int×Int))->Option ((Int)⊕((List ay)×(List (Int×Int))))
 | 0,_,_,_=>none
 | m+1,a,v,w=>bif (decide (a<d)) then ((bf c a).bind fun x=>(bf b.Ears x).bind fun y=>(l0 n b e x c d a y.Did ((y.Did.length:Int)) f g h i j k l o p q r s t u (n+6) 0 v w).bind fun z=>match z with | (Sum.inl a0)=>some ((Sum.inl a0)) | (Sum.inr ((a1,a2)))=>nS n b e c d f g h i j k l o p q r s t u m (wr .i64 (a+1)) a1 a2) else (some ((Sum.inr ((v,w)))))
theorem FO (a8:qT C) (a9:qU C) (j:av) (x:Int) (y:(List Int)) (z:Int) (k:av) (l:(List ay)) (o:(List (Int×Int))) (p:Int) (q:(List Int)) (r:(List (Int×Int))) (t:(List Int)) (a:(List aN)) (g:Int) (b:(List ay)) (c:(List (Int×Int))) (d:(List aN)) (f:Int) (h:Int) {K:((Int)⊕((List ay)×(List (Int×Int))))->Option γ} (x0:∀ (i:Int) (s0:A) (s2:A) (s3:A) (a2:A) (a3:A) (a4:A) (q0:aC) (q1:aC) (q2:aC) (q3:aC) (q4:aC) (q5:aC) (q6:aC) (q10:aC) (q11:aC) (q12:aC),J φ (kr (St.mk [(0,s0),(2,s2),(3,s3),(10,a2),(11,a3),(12,a4)] [q0,q1,q2,q3,q4,q5,q6,(bo b c d f),bx [(iA i)],aC.rng (jW.done It.ret),q10,q11,q12])) kL (K (Sum.inl i)) some) (x1:∀ (i:(List ay)) (o1:(List (Int×Int))) (s0:A) (s2:A) (s3:A) (a2:A) (a3:A) (a4:A) (q0:aC) (q1:aC) (q2:aC) (q3:aC) (q4:aC),J φ (kx 0 (St.mk [(0,s0),(2,s2),(3,s3),(10,a2),(11,a3),(12,a4)] [q0,q1,q2,q3,q4,aC.row false 3 (a.map aw),bx [(im (i.map aq) false),(im (o1.map au) false),(bM 5 0 a.length false),(iA g)],(bo b c d f),bx [(iA h)],aC.rng jW.ready])) kL (K (Sum.inr ((i,o1)))) some) :
  ∀ (m:Nat) (u:Int) (v:(List ay)) (w:(List (Int×Int))),J φ (aE (cx C) (bw (cx C) (n+6) (tZ 139 (dH (cx C) (n+7)) 9 (qH (cx C) (ec C n 7) (ey C n 7) (n+7) 26 6 0 9 [(2,(pt 6 0)),(4,(pt 7 0)),(5,(pt 8 0))]))) (bw (cx C) (n+6)) (n+6) 59 6 0 10 kx kg kr kp m (St.mk [(0,(A.yld 9)),(2,(A.ip (ak j))),(3,(A.ip [(iA x)])),(10,(im (y.map (cI .i64)) false)),(11,(iA z)),(12,(iA u))] [bx (ak k),bx [(im (l.map aq) false),(im (o.map au) false),(bM 5 0 a.length false),(iA p)],aC.row true 1 (q.map (cI .i64)),gP .i64 iA r,aC.row false 1 (t.map (cI .i64)),aC.row false 3 (a.map aw),bx [(im (v.map aq) false),(im (w.map au) false),(bM 5 0 a.length false),(iA g)],(bo b c d f),bx [(iA h)],aC.rng jW.ready])) kL (nS n j x y z k l o p q r t a g b c d f h m u v w) K:=by
  refine nI (fun _ _ _=>.nn) fun m ih u v w=>.lp (I6 ..) ?_
  unfold nS
  refine .st (aS ..) (.bQ ?_ ?_)
  ·refine .bd (dr (e:=3) (es:=1)) fun a7=>.s (iA a7) (.s2 (im (j.Ears.map aw) false) (.bd (dr (e:=50) (es:=3)) fun a5=>.s2 (im (a5.Did.map (cI .i64)) false) (.st (dn (e:=3)) (.as (FP C n _ _ _ _ a8 a9 j x a7 y z u a5.Did ((a5.Did.length:Int)) k l o p q r t a g b c d f h ?_ ?_ _ 0 v w)))))
   ·intro af ag ah ai aj w5430 w5431 w5432 w5433 w5434 w5435 w5436 w5437 w5438 w5439
    exact .un rfl (.ex (x0 _ _ _ _ _ _ _ _ _ _ _ _ _ _ _ _ _))
   ·intro ad ae al am an ao
    refine .un rfl (.cT r8 (.st (aF ..) (.s [bx (ak k),bx [(im (l.map aq) false),(im (o.map au) false),(bM 5 0 a.length false),(iA p)],aC.row true 1 (q.map (cI .i64)),gP .i64 iA r,aC.row false 1 (t.map (cI .i64)),aC.row false 3 (a.map aw),bx [(im (ad.map aq) false),(im (ae.map au) false),(bM 5 0 a.length false),(iA g)],(bo b c d f),bx [(iA h)],aC.rng jW.ready] (.cT r8 ?_))))
    exact ih _ _ _
  exact .ex (x1 _ _ _ _ _ _ _ _ _ _ _ _ _)
def F7 (n:Nat) (a:av) (d:(List Int)) (a2:(List Int)):Option (av×Int):=
 (FL a).bind fun b=>bif (b != 0) then (some (((av.mk ((bh.mk ([]) ([]))) ([]) 0),b))) else ((qc n ((a.Ears.length:Int)) d ((d.length:Int)) ([]) ([]) ([]) 0 (n+8) (-1) 0).bind fun j=>match j with | (Sum.inl k)=>some (((av.mk ((bh.mk ([]) ([]))) ([]) 0),k)) | (Sum.inr _)=>bif (((a2.length:Int)) != ((a.Ears.length:Int))) then (some (((av.mk ((bh.mk ([]) ([]))) ([]) 0),1))) else ((qd n a2 a2 ((a2.length:Int)) ([]) ([]) ([]) 0 (n+8) 0).bind fun l=>match l with | (Sum.inl o)=>some (((av.mk ((bh.mk ([]) ([]))) ([]) 0),o)) | (Sum.inr _)=>bif (a.Bar==4096) then (some (((av.mk ((bh.mk ([]) ([]))) ([]) 0),2))) else ((EK 8 ((a.Ears.length:Int)) 0).bind fun g=>(ma n d a2 b g.length a.Ears ((a.Ears.length:Int)) a ([]) ([]) ([]) 0 (n+8) 0 g (([]:List (Int×Int))) (([]:List Int))).bind fun p=>match p with | (q,h,i,e)=>(oy n a2 b q a.Ears ((a.Ears.length:Int)) a a.Net.Queue a.Net.Apart (wr .i64 (a.Bar+1)) h i e (n+8) 0 (([]:List aN))).bind fun r=>match r with | f=>(Lf ((av.mk a.Net f (wr .i64 (a.Bar+1)))) a.Bar e).bind fun c=>(nS n c.2.1 c.2.2 c.1 ((c.1.length:Int)) a a.Net.Queue a.Net.Apart (wr .i64 (a.Bar+1)) h i e f (wr .i64 (a.Bar+1)) ([]) ([]) ([]) 0 0 (n+6) 0 a.Net.Queue a.Net.Apart).bind fun s=>match s with | (Sum.inl t)=>some (((av.mk ((bh.mk ([]) ([]))) ([]) 0),t)) | (Sum.inr ((u,v)))=>some (((av.mk ((bh.mk u v)) f (wr .i64 (a.Bar+1))),0)))))
theorem T7 (C:OT) (n:Nat) (w:wN C) (t:mZ C) (x:CF C) (a3:CG C) (a4:CH C) (a5:qT C) (a6:qU C) (a:av) (p:(List Int)) (a2:(List Int)):TJ C n 7 [(ag (ak a)),(im (p.map (cI .i64)) false),(im (a2.map (cI .i64)) false)] (F7 n a p a2) (fun y=>(tp [(ag (ak y.1)),(iA y.2)])):=by
 refine .lp (e7 ..) ?_
 unfold F7
 refine .s ((pt 0 0),[bx (ak a)]) (.s ((pt 1 0),[bx (ak a),bx [Ye,Ye,Ye,(iA 0)]]) (.s (ag (ak a)) (.bd (g:=fun (y:Int)=>(iA y)) (by simp only[cf,dF]; exact w a) fun u=>.st (aH ..) (.bQ ?_ ?_))))
 ·exact .s cU (.s [bx (ak a),bx [Ye,Ye,Ye,(iA 0)]] (.s cU (.lv u2)))
 refine .s2 (im (a.Ears.map aw) false) (.st (dn (e:=50)) (.st (dn (e:=3)) (.as (JX C n _ _ _ _ t ((a.Ears.length:Int)) p ((p.length:Int)) ([]) ([]) ([]) 0 ?_ ?_ _ (-1) 0))))
 ·intro a8 a9 aa ab ad ae af ah ai
  exact .un rfl (.s cU (.lv u2))
 ·intro aj al am an
  refine .un rfl (.cT r8 (.st (dn (e:=3)) (.st (aH ..) (.bQ ?_ ?_))))
  ·exact .s cU (.s [bx (ak a),bx [Ye,Ye,Ye,(iA 0)]] (.s cU (.lv u2)))
  refine .st (dn (e:=3)) (.as (JY C n _ _ _ _ t a2 a2 ((a2.length:Int)) ([]) ([]) ([]) 0 ?_ ?_ _ 0))
  ·intro ao ap ar ax ay az b0 b1
   exact .un rfl (.s cU (.lv u2))
  ·intro b2 b3 b4
   refine .un rfl (.cT r8 (.s2 (iA a.Bar) (.st (aZ ..) (.bQ ?_ ?_))))
   ·exact .s cU (.s [bx (ak a),bx [Ye,Ye,Ye,(iA 0)]] (.s cU (.lv u2)))
   refine .bd (g:=fun (y:List Int)=>((bM 2 0 y.length false),[bx (ak a),bx [Ye,Ye,Ye,(iA 0)],aC.row true 1 (y.map (cI .i64))])) (uY (e:=3) (es:=1) (f:=(cI .i64)) (z:=0) (z':=[(iA 0)]) r8 r8 r8 r8 rfl (by decide) (fun _=>rfl)) fun q=>.s ((A.mr 3),[bx (ak a),bx [Ye,Ye,Ye,(iA 0)],aC.row true 1 (q.map (cI .i64)),gP .i64 iA (([]:List (Int×Int)))]) (.s2 (im (a.Ears.map aw) false) (.st (dn (e:=50)) (.as (JZ C n _ _ _ _ x p a2 u q.length a.Ears ((a.Ears.length:Int)) a ([]) ([]) ([]) 0 ?_ _ 0 q (([]:List (Int×Int))) (([]:List Int))))))
   ·intro a7 j k d b5 b6 b7 b8
    refine .un rfl (.cT r8 (.s2 (ag [(im (a.Net.Queue.map aq) false),(im (a.Net.Apart.map au) false)]) (.s2 (iA a.Bar) (.st (aF ..) (.s (ag [(im (a.Net.Queue.map aq) false),(im (a.Net.Apart.map au) false),Ye,(iA (wr .i64 (a.Bar+1)))]) (.s [bx (ak a),bx [(im (a.Net.Queue.map aq) false),(im (a.Net.Apart.map au) false),Ye,(iA (wr .i64 (a.Bar+1)))],aC.row true 1 (j.map (cI .i64)),gP .i64 iA k,aC.row false 1 (d.map (cI .i64))] (.s2 (im (a.Ears.map aw) false) (.st (dn (e:=50)) (.as (J0 C n _ _ _ _ a3 a2 u a7 a.Ears ((a.Ears.length:Int)) a a.Net.Queue a.Net.Apart (wr .i64 (a.Bar+1)) j k d ?_ _ 0 (([]:List aN))))))))))))
    ·intro c b9 ba bc be bf bg bh
     refine .un rfl (.cT r8 (.s (ag [(im (a.Net.Queue.map aq) false),(im (a.Net.Apart.map au) false),(bM 5 0 c.length false),(iA (wr .i64 (a.Bar+1)))]) (.s (ag [(im (a.Net.Queue.map aq) false),(im (a.Net.Apart.map au) false),(bM 5 0 c.length false),(iA (wr .i64 (a.Bar+1)))]) (.s2 (iA a.Bar) (.bd (g:=fun (y:((List Int)×av×Int))=>(tG 59 [] [(A.ip [(im (y.1.map (cI .i64)) false)]),(A.ip (ak y.2.1)),(A.ip [(iA y.2.2)])])) (by show C 27 [snap [bx (ak a),(uI a c),aC.row true 1 (j.map (cI .i64)),gP .i64 iA k,aC.row false 1 (d.map (cI .i64)),aC.row false 3 (c.map aw)] (ag [(im (a.Net.Queue.map aq) false),(im (a.Net.Apart.map au) false),(bM 5 0 c.length false),(iA (wr .i64 (a.Bar+1)))]),snap _ (iA a.Bar),snap [bx (ak a),(uI a c),aC.row true 1 (j.map (cI .i64)),gP .i64 iA k,aC.row false 1 (d.map (cI .i64)),aC.row false 3 (c.map aw)] (bM 4 0 d.length false)]=_; simp only[cf,dF,bU (H:=[bx (ak a),(uI a c),aC.row true 1 (j.map (cI .i64)),gP .i64 iA k,aC.row false 1 (d.map (cI .i64)),aC.row false 3 (c.map aw)]) (b:=4) (es:=1) (l:=d) (dW _) rfl,bU (H:=[bx (ak a),(uI a c),aC.row true 1 (j.map (cI .i64)),gP .i64 iA k,aC.row false 1 (d.map (cI .i64)),aC.row false 3 (c.map aw)]) (b:=5) (es:=3) (l:=c) dc rfl]; exact a4 ((av.mk a.Net c (wr .i64 (a.Bar+1)))) a.Bar d) fun o=>.bb (.cl ((bl Jp).trans (T2 ..)) (.sq (pt 6 0) (.sq (pt 7 0) (.s ((pt 8 0),[bx (ak a),(uI a c),aC.row true 1 (j.map (cI .i64)),gP .i64 iA k,aC.row false 1 (d.map (cI .i64)),aC.row false 3 (c.map aw),(uI a c),bx [Ye,Ye,Ye,(iA 0)],bx [(iA 0)]]) (.s (59,[(A.ip [(im (o.1.map (cI .i64)) false)]),(A.ip (ak o.2.1)),(A.ip [(iA o.2.2)])]) (.cT r8 (.cl ((oJ Jq).trans (T4 ..)) (.s (im (o.1.map (cI .i64)) false) (.st (dn (e:=3)) (.as (FO C n _ _ _ _ a5 a6 o.2.1 o.2.2 o.1 ((o.1.length:Int)) a a.Net.Queue a.Net.Apart (wr .i64 (a.Bar+1)) j k d c (wr .i64 (a.Bar+1)) ([]) ([]) ([]) 0 0 ?_ ?_ _ 0 a.Net.Queue a.Net.Apart))))))))))))))))
     ·intro r bi bj bk bm bn bo w5454 w5455 w5456 w5457 w5458 w5459 w5460 w5461 w5462 w5463
      exact .un rfl (.cr (.ok (.lp (Oe rfl) (.s cU (.s (iA r) (.cr (.lp (HJ (L:=6) (v:=(tp [cU,(iA r)])) (by simp only[uB,eY,eZ,Nat.reduceLT,YW,cU])) (.cr (.s cU (.s (iA r) (.s [bx (ak a),bx [Ye,Ye,Ye,(iA 0)],aC.row true 1 (j.map (cI .i64)),gP .i64 iA k,aC.row false 1 (d.map (cI .i64)),aC.row false 3 (c.map aw)] (.s cU (.lv u2)))))))))))))
     ·intro h i bp bq bs bt bu bv w5472 w5473 w5474 w5475 w5476
      exact .un rfl (.cT r8 (.cr (.ok (.lp (Od rfl) (.s (ag [(im (h.map aq) false),(im (i.map au) false),(bM 5 0 c.length false),(iA (wr .i64 (a.Bar+1)))]) (.s [w5472,w5473,w5474,w5475,w5476,aC.row false 3 (c.map aw),(re h i c a),(re h i c a),bx [(iA 0)],aC.dead] (.s [w5472,w5473,w5474,w5475,w5476,aC.row false 3 (c.map aw),(re h i c a),(re h i c a),bx [(iA 0)],aC.dead] (.s (ag [(im (h.map aq) false),(im (i.map au) false),(bM 5 0 c.length false),(iA (wr .i64 (a.Bar+1)))]) (.s (iA 0) (.cr (.lp (HJ (L:=6) (v:=(tp [(ag [(im (h.map aq) false),(im (i.map au) false),(bM 5 0 c.length false),(iA (wr .i64 (a.Bar+1)))]),(iA 0)])) An) (.cr (.s (ag [(im (h.map aq) false),(im (i.map au) false),(bM 5 0 c.length false),(iA (wr .i64 (a.Bar+1)))]) (.s (iA 0) (.s [bx (ak a),(re h i c a),aC.row true 1 (j.map (cI .i64)),gP .i64 iA k,aC.row false 1 (d.map (cI .i64)),aC.row false 3 (c.map aw)] (.s (ag [(im (h.map aq) false),(im (i.map au) false),(bM 5 0 c.length false),(iA (wr .i64 (a.Bar+1)))]) (.lv (by show br [bx (ak a),(re h i c a),aC.row true 1 (j.map (cI .i64)),gP .i64 iA k,aC.row false 1 (d.map (cI .i64)),aC.row false 3 (c.map aw)] (tp [(ag [(im (h.map aq) false),(im (i.map au) false),(bM 5 0 c.length false),(iA (wr .i64 (a.Bar+1)))]),(iA 0)])=_; first | (simp only[cf,dF,br,bP (H:=[bx (ak a),(re h i c a),aC.row true 1 (j.map (cI .i64)),gP .i64 iA k,aC.row false 1 (d.map (cI .i64)),aC.row false 3 (c.map aw)]) (b:=5) (es:=3) (wr:=false) (l:=c) dc rfl]; done) | (simp only[cf,g8,br,bP (H:=[bx (ak a),(re h i c a),aC.row true 1 (j.map (cI .i64)),gP .i64 iA k,aC.row false 1 (d.map (cI .i64)),aC.row false 3 (c.map aw)]) (b:=5) (es:=3) (wr:=false) (l:=c) dc rfl]; first | done | rfl)))))))))))))))))))
def G7 (a:av) (b:(List Int)) (a2:(List Int)):Option (av×Int):=F7 aA a b a2
def JU (C:OT):Prop:=∀ (a:av) (b:(List Int)) (a2:(List Int)),C 7 [(ag (ak a)),(im (b.map (cI .i64)) false),(im (a2.map (cI .i64)) false)]=(G7 a b a2).map fun y=>(tp [(ag (ak y.1)),(iA y.2)])
def On:List ((av×Int)×(av×bj×Bool×Int)):=[((⟨⟨[],[]⟩,[⟨[],[],[]⟩,⟨[],[],[]⟩],0⟩,0),(⟨⟨[],[]⟩,[],0⟩,⟨0,0,0⟩,false,1)),
 ((⟨⟨[⟨0,1,[3,5,1,2,1,8,1,0,1,0,1,4]⟩,⟨0,1,[3,5,1,2,1,10,1,0,1,0,1,6]⟩,⟨0,2,[3,5,1,2,1,12,1,2,1,0,1,6]⟩],[]⟩,[⟨[],[],[]⟩,⟨[],[],[]⟩],0⟩,1),(⟨⟨[⟨0,1,[3,5,1,2,1,8,1,0,1,0,1,4]⟩,⟨0,2,[3,5,1,2,1,12,1,2,1,0,1,6]⟩],[]⟩,[⟨[⟨5,0,0,3⟩],[],[]⟩,⟨[],[],[]⟩],0⟩,⟨0,0,0⟩,false,0)),
 ((⟨⟨[⟨0,1,[3,5,1,2,1,8,1,0,1,0,1,4]⟩,⟨0,2,[3,5,1,2,1,12,1,2,1,0,1,6]⟩],[]⟩,[⟨[⟨5,0,0,3⟩],[],[]⟩,⟨[],[],[]⟩],0⟩,0),(⟨⟨[⟨0,2,[3,5,1,2,1,12,1,2,1,0,1,6]⟩],[]⟩,[⟨[⟨5,0,0,3⟩],[],[]⟩,⟨[],[],[]⟩],0⟩,⟨0,0,0⟩,false,0)),
 ((⟨⟨[⟨0,2,[3,5,1,2,1,12,1,2,1,0,1,6]⟩,⟨1,0,[3,4,1,4,1,0,1,0,1,6]⟩,⟨2,0,[3,4,1,4,1,2,1,0,1,0]⟩],[]⟩,[⟨[],[3],[3]⟩,⟨[],[0],[0]⟩],1⟩,0),(⟨⟨[⟨1,0,[3,4,1,4,1,0,1,0,1,6]⟩,⟨2,0,[3,4,1,4,1,2,1,0,1,0]⟩],[]⟩,[⟨[],[3],[3]⟩,⟨[],[0],[0]⟩],1⟩,⟨0,0,0⟩,false,0)),
 ((⟨⟨[⟨1,0,[3,4,1,4,1,0,1,0,1,6]⟩,⟨2,0,[3,4,1,4,1,2,1,0,1,0]⟩],[]⟩,[⟨[],[3],[3]⟩,⟨[],[0],[0]⟩],1⟩,0),(⟨⟨[⟨2,0,[3,4,1,4,1,2,1,0,1,0]⟩],[]⟩,[⟨[],[3],[3]⟩,⟨[],[0],[0]⟩],1⟩,⟨0,0,3⟩,true,0))]
def JM (a:av) (b:Int):Option (av×bj×Bool×Int):=HR On (a,b)
def Iw (C:OT):Prop:=∀ (a:av) (b:Int),C 12 [(ag (ak a)),(iA b)]=(JM a b).map fun y=>(tp [(ag (ak y.1)),(ag (aD y.2.1)),(bA y.2.2.1),(iA y.2.2.2)])
def lh (n:Nat) (b:(List Int)) (c:(List Int)):Nat->Int->Option ((Bool)⊕(Unit))
 | 0,_=>none
 | m+1,a=>bif (decide (a<((b.length:Int)))) then ((bf b a).bind fun d=>(bf c a).bind fun e=>bif (d != e) then (some ((Sum.inl false))) else (lh n b c m (wr .i64 (a+1)))) else (some ((Sum.inr (()))))
theorem Dq {w16:A} (f:(List Int)) (g:(List Int)) {K:((Bool)⊕(Unit))->Option γ} (i:∀ (h:Bool) (a:A) (b:A) (c:A),J φ (kr (St.mk [(0,a),(1,b),(4,(bA h)),(5,c)] [])) kL (K (Sum.inl h)) some) (j:∀ (a:A) (b:A) (k:A) (c:A),J φ (kx 0 (St.mk [(0,a),(1,b),(4,k),(5,c)] [])) kL (K (Sum.inr (()))) some) :
  ∀ (m:Nat) (d:Int),J φ (aE (cx C) (ec C n 8) (ey C n 8) (n+8) 57 0 0 0 kx kg kr kp m (St.mk [(0,(im (f.map (cI .i64)) false)),(1,(im (g.map (cI .i64)) false)),(4,w16),(5,(iA d))] [])) kL (lh n f g m d) K:=by
  refine nI (fun _=>.nn) fun m ih d=>.lp (MI ..) ?_
  unfold lh
  refine .st (dn (e:=3)) (.st (aS ..) (.bQ ?_ ?_))
  ·refine .bd (dr (e:=3) (es:=1)) fun l=>.s (iA l) (.bd (dr (e:=3) (es:=1)) fun o=>.s (iA o) (.st (aH ..) (.bQ ?_ ?_)))
   ·exact .ex (i _ _ _ _)
   refine .st (aF ..) (.s [] (.cT r8 ?_))
   exact ih _
  exact .ex (j _ _ _ _)
def O5 (n:Nat) (a:(List Int)) (b:(List Int)):Option Bool:=
 bif (((a.length:Int)) != ((b.length:Int))) then (some false) else ((lh n a b (n+8) 0).bind fun PA=>match PA with | (Sum.inl c)=>some c | (Sum.inr _)=>some true)
theorem V2 (C:OT) (n:Nat) (a:(List Int)) (b:(List Int)):TJ C n 57 [(im (a.map (cI .i64)) false),(im (b.map (cI .i64)) false)] (O5 n a b) (fun y=>(bA y)):=by
 refine .lp (WW ..) ?_
 unfold O5
 refine .st (dn (e:=3)) (.st (dn (e:=3)) (.st (aH ..) (.bQ ?_ ?_)))
 ·exact .lv rfl
 refine .as (Dq C n _ _ _ _ a b ?_ ?_ _ 0)
 ·intro c d f g
  exact .un rfl (.lv rfl)
 ·intro h i j k
  exact .un rfl (.cT r8 (.lv rfl))
def Lj (a:(List Int)) (b:(List Int)):Option Bool:=O5 aA a b
def CP (C:OT):Prop:=∀ (a:(List Int)) (b:(List Int)),C 57 [(im (a.map (cI .i64)) false),(im (b.map (cI .i64)) false)]=(Lj a b).map fun y=>(bA y)
def kT (n:Nat) (e:(List aN)) (f:(List aN)) (a:Int):Nat->Int->Option ((Bool)⊕(Unit))
 | 0,_=>none
 | m+1,b=>(bf e a).bind fun g=>bif (decide (b<((g.Cues.length:Int)))) then ((bf e a).bind fun h=>(bf h.Cues b).bind fun c=>(bf f a).bind fun i=>(bf i.Cues b).bind fun d=>bif (!((c.No==d.No)&&((c.Role==d.Role)&&((c.Bar==d.Bar)&&(c.Program==d.Program))))) then (some ((Sum.inl false))) else (kT n e f a m (wr .i64 (b+1)))) else (some ((Sum.inr (()))))
theorem Db {w104:A} (c:(List aN)) (d:(List aN)) (f:Int) {K:((Bool)⊕(Unit))->Option γ} (j:∀ (i:Bool) (g:A),J φ (kr (St.mk [(0,(im (c.map aw) false)),(1,(im (d.map aw) false)),(4,(bA i)),(5,(iA f)),(6,g)] [])) kL (K (Sum.inl i)) some) (k:∀ (g:A),J φ (kx 2 (St.mk [(0,(im (c.map aw) false)),(1,(im (d.map aw) false)),(4,w104),(5,(iA f)),(6,g)] [])) kL (K (Sum.inr (()))) some) :
  ∀ (m:Nat) (h:Int),J φ (aE (cx C) (ec C n 8) (ey C n 8) (n+8) 21 0 1 0 kx kg kr kp m (St.mk [(0,(im (c.map aw) false)),(1,(im (d.map aw) false)),(4,w104),(5,(iA f)),(6,(iA h))] [])) kL (kT n c d f m h) K:=by
  refine nI (fun _=>.nn) fun m ih h=>.lp (Mx ..) ?_
  unfold kT
  refine .bd (dr (e:=50) (es:=3)) fun l=>.s2 (im (l.Cues.map aI) false) (.st (dn (e:=46)) (.st (aS ..) (.bQ ?_ ?_)))
  ·refine .bd (dr (e:=50) (es:=3)) fun o=>.s2 (im (o.Cues.map aI) false) (.bd (dr (e:=46) (es:=4)) fun a=>.s (ag (aI a)) (.bd (dr (e:=50) (es:=3)) fun p=>.s2 (im (p.Cues.map aI) false) (.bd (dr (e:=46) (es:=4)) fun b=>.s (ag (aI b)) (.s (bA (!((a.No==b.No)&&((a.Role==b.Role)&&((a.Bar==b.Bar)&&(a.Program==b.Program)))))) (.bQ ?_ ?_)))))
   ·exact .ex (j _ _)
   refine .st (aF ..) (.s [] (.cT r8 ?_))
   exact ih _
  exact .ex (k _)
def kS (n:Nat) (b:(List aN)) (c:(List aN)):Nat->Int->Option ((Bool)⊕(Unit))
 | 0,_=>none
 | m+1,a=>bif (decide (a<((b.length:Int)))) then ((bf b a).bind fun d=>(bf c a).bind fun e=>(bif (((d.Cues.length:Int)) != ((e.Cues.length:Int))) then (some true) else ((bf b a).bind fun f=>(bf c a).bind fun g=>(Lj f.Got g.Got).bind fun h=>some (!h))).bind fun i=>(bif i then (some true) else ((bf b a).bind fun j=>(bf c a).bind fun k=>(Lj j.Did k.Did).bind fun l=>some (!l))).bind fun o=>bif o then (some ((Sum.inl false))) else ((kT n b c a (n+8) 0).bind fun Gz=>match Gz with | (Sum.inl p)=>some ((Sum.inl p)) | (Sum.inr _)=>kS n b c m (wr .i64 (a+1)))) else (some ((Sum.inr (()))))
theorem Da (p:CP C) {w16:A} (d:(List aN)) (f:(List aN)) {K:((Bool)⊕(Unit))->Option γ} (q:∀ (r:Bool) (h:A) (i:A) (j:A),J φ (kr (St.mk [(0,h),(1,i),(4,(bA r)),(5,j)] [])) kL (K (Sum.inl r)) some) (x1:∀ (h:A) (i:A) (s4:A) (j:A),J φ (kx 0 (St.mk [(0,h),(1,i),(4,s4),(5,j)] [])) kL (K (Sum.inr (()))) some) :
  ∀ (m:Nat) (a:Int),J φ (aE (cx C) (ec C n 8) (ey C n 8) (n+8) 21 0 0 0 kx kg kr kp m (St.mk [(0,(im (d.map aw) false)),(1,(im (f.map aw) false)),(4,w16),(5,(iA a))] [])) kL (kS n d f m a) K:=by
  refine nI (fun _=>.nn) fun m ih a=>.lp (Mw ..) ?_
  unfold kS
  refine .st (dn (e:=50)) (.st (aS ..) (.bQ ?_ ?_))
  ·refine .bd (dr (e:=50) (es:=3)) fun ab=>.s2 (im (ab.Cues.map aI) false) (.st (dn (e:=46)) (.bd (dr (e:=50) (es:=3)) fun ad=>.s2 (im (ad.Cues.map aI) false) (.st (dn (e:=46)) (.st (aH ..) (.bg (fun t (y:Bool)=>∃ u v w x z a0 a1 a2 a3 a4 a5 a6:A,t=[(bA y),u,v,w,x,z,a0,a1,a2,a3,a4,a5,a6]) ?_ ?_)))))
   ·refine .bi ?_ ?_
    ·exact .lg ⟨_,_,_,_,_,_,_,_,_,_,_,_,rfl⟩
    exact .bd (dr (e:=50) (es:=3)) fun b=>.s (A.ip [(im (b.Got.map (cI .i64)) false),(im (b.Did.map (cI .i64)) false)]) (.s (im (b.Got.map (cI .i64)) false) (.bd (dr (e:=50) (es:=3)) fun c=>.s (A.ip [(im (c.Got.map (cI .i64)) false),(im (c.Did.map (cI .i64)) false)]) (.s (im (c.Got.map (cI .i64)) false) (.bd (g:=fun (y:Bool)=>(bA y)) (by simp only[cf,dF]; exact p b.Got c.Got) fun ae=>.s (bA (!ae)) (.lg ⟨_,_,_,_,_,_,_,_,_,_,_,_,rfl⟩)))))
   rintro _ ag ⟨u,v,w,x,z,a0,a1,a2,a3,a4,a5,a6,rfl⟩
   refine .u4 (.u4 (.u4 (.uc (.Tw (.bg (fun t (y:Bool)=>∃ a7 a8:A,t=[(bA y),a7,a8]) ?_ ?_)))))
   ·refine .FA (fun k=>?_) (fun k=>?_)
    ·exact .bb (.bd (dr (e:=50) (es:=3)) fun l=>.s (A.ip [(im (l.Did.map (cI .i64)) false)]) (.s (im (l.Did.map (cI .i64)) false) (.bd (dr (e:=50) (es:=3)) fun o=>.s (A.ip [(im (o.Did.map (cI .i64)) false)]) (.s (im (o.Did.map (cI .i64)) false) (.cr (.u4 (.u4 (.uc (.uc (.qb k (.bd (g:=fun (y:Bool)=>(bA y)) (by simp only[cf,dF]; exact p l.Did o.Did) fun af=>.s (bA (!af)) (.lg ⟨_,_,rfl⟩))))))))))))
    exact .bb (.cr (.u4 (.u4 (.uc (.uc (.qs k (.lg ⟨_,_,rfl⟩)))))))
   rintro _ ah ⟨a7,a8,rfl⟩
   refine .uc (.uc (.uc (.bQ ?_ ?_)))
   ·exact .ex (q _ _ _ _)
   refine .as (Db C n _ _ _ _ d f a ?_ ?_ _ 0)
   ·intro ai aj
    exact .un rfl (.ex (q _ _ _ _))
   ·intro ak
    refine .un rfl (.cT r8 (.st (aF ..) (.s [] (.cT r8 ?_))))
    exact ih _
  exact .ex (x1 _ _ _ _)
def OK (n:Nat) (a:(List aN)) (b:(List aN)):Option Bool:=
 bif (((a.length:Int)) != ((b.length:Int))) then (some false) else ((kS n a b (n+8) 0).bind fun GA=>match GA with | (Sum.inl c)=>some c | (Sum.inr _)=>some true)
theorem VE (C:OT) (n:Nat) (c:CP C) (a:(List aN)) (b:(List aN)):TJ C n 21 [(im (a.map aw) false),(im (b.map aw) false)] (OK n a b) (fun y=>(bA y)):=by
 refine .lp (Wx ..) ?_
 unfold OK
 refine .st (dn (e:=50)) (.st (dn (e:=50)) (.st (aH ..) (.bQ ?_ ?_)))
 ·exact .lv rfl
 refine .as (Da C n _ _ _ _ c a b ?_ ?_ _ 0)
 ·intro d f g h
  exact .un rfl (.lv rfl)
 ·intro i j k l
  exact .un rfl (.cT r8 (.lv rfl))
def FM (a:(List aN)) (b:(List aN)):Option Bool:=OK aA a b
def CE (C:OT):Prop:=∀ (a:(List aN)) (b:(List aN)),C 21 [(im (a.map aw) false),(im (b.map aw) false)]=(FM a b).map fun y=>(bA y)
def F5 (n:Nat)  : Option Bool:=
 (LH 2).bind fun a=>(LH 0).bind fun p=>(LH 13).bind fun q=>(Le a.1 ((bL.mk 0 0 0 9))).bind fun r=>(G9 a.1 0).bind fun s=>(G7 a.1 ([]) ([0,2])).bind fun t=>(JM a.1 0).bind fun u=>(bif (a.2 != 0) then (some true) else (some (p.2 != 1))).bind fun v=>(bif v then (some true) else (some (q.2 != 1))).bind fun w=>(bif w then (some true) else (some (r.2 != 1))).bind fun x=>(bif x then (some true) else (some (s.2 != 1))).bind fun y=>(bif y then (some true) else (some (t.2 != 1))).bind fun z=>(bif z then (some true) else (some (u.2.2.2 != 1))).bind fun a0=>(bif a0 then (some true) else (some (((a.1.Ears.length:Int)) != 2))).bind fun a1=>(bif a1 then (some true) else ((FL a.1).bind fun a2=>some (a2 != 0))).bind fun a3=>(bif a3 then (some true) else ((FL ((av.mk ((bh.mk ([]) ([]))) ([]) 0))).bind fun a4=>some (a4 != 490))).bind fun a5=>bif a5 then (some false) else ((Le a.1 ((bL.mk 4 0 0 2))).bind fun h=>(Le h.1 ((bL.mk 5 0 0 3))).bind fun i=>(Le i.1 ((bL.mk 6 1 0 3))).bind fun j=>(JM j.1 1).bind fun f=>(JM f.1 0).bind fun b=>(G7 b.1 ([]) ([0,1])).bind fun c=>(G7 b.1 ([]) ([0,0])).bind fun k=>(G7 b.1 ([0]) ([0,1])).bind fun l=>(bif (h.2 != 0) then (some true) else (some (i.2 != 0))).bind fun a6=>(bif a6 then (some true) else (some (j.2 != 0))).bind fun a7=>(bif a7 then (some true) else (some (f.2.2.2 != 0))).bind fun a8=>(bif a8 then (some true) else (some (b.2.2.2 != 0))).bind fun a9=>(bif a9 then (some true) else (some (c.2 != 0))).bind fun aa=>(bif aa then (some true) else (some (k.2 != 0))).bind fun ab=>(bif ab then (some true) else (some (l.2 != 0))).bind fun ad=>(bif ad then (some true) else (some f.2.2.1)).bind fun ae=>bif ae then (some false) else ((bif (((b.1.Ears.length:Int)) != 2) then (some true) else ((bf b.1.Ears 0).bind fun af=>some (((af.Cues.length:Int)) != 1))).bind fun ag=>(bif ag then (some true) else ((bf b.1.Ears 0).bind fun ah=>(bf ah.Cues 0).bind fun e=>some (!((e.No==5)&&((e.Role==0)&&((e.Bar==0)&&(e.Program==3))))))).bind fun ai=>(bif ai then (some true) else (some (((b.1.Net.Queue.length:Int)) != 1))).bind fun aj=>bif aj then (some false) else ((FM c.1.Ears ([(aN.mk ([]) ([3]) ([3])),(aN.mk ([]) ([0]) ([0]))])).bind fun ak=>(bif (!ak) then (some true) else ((FM k.1.Ears ([(aN.mk ([]) ([3]) ([0])),(aN.mk ([]) ([0]) ([0]))])).bind fun al=>some (!al))).bind fun am=>(bif am then (some true) else ((FM l.1.Ears ([(aN.mk ([]) ([0]) ([0])),(aN.mk ([]) ([0]) ([0]))])).bind fun an=>some (!an))).bind fun ao=>bif ao then (some false) else ((JM c.1 0).bind fun g=>(bif (g.2.2.2 != 0) then (some true) else (some (c.1.Bar != 1))).bind fun ap=>(bif ap then (some true) else (some (((c.1.Net.Queue.length:Int)) != 3))).bind fun aq=>(bif aq then (some true) else ((FM g.1.Ears c.1.Ears).bind fun ar=>some (!ar))).bind fun au=>bif au then (some false) else ((JM g.1 0).bind fun d=>(G9 d.1 0).bind fun o=>(bif (d.2.2.2==0) then (some (o.2==0)) else (some false)).bind fun aw=>(bif aw then (some d.2.2.1) else (some false)).bind fun ax=>(bif ax then (some (((d.2.1.Role==0)&&((d.2.1.Bar==0)&&(d.2.1.Program==3))))) else (some false)).bind fun ay=>(bif ay then (some (((o.1.Net.Queue.length:Int))==2)) else (some false)).bind fun az=>some az)))))
theorem T5 (C:OT) (n:Nat) (x:Iw C) (a4:Ix C) (a0:Iy C) (a5:wN C) (a1:CE C) (h7:JU C) (h9:JV C):TJ C n 5 [] (F5 n ) (fun y=>(bA y)):=by
 refine .lp (e5 ..) ?_
 unfold F5
 refine .bd (a4 2) fun a=>.s (ag (ak a.1)) (.s (iA a.2) (.sq (pt 0 0) (.s [bx (ak a.1)] (.bd (a4 0) fun f=>.s (ag (ak f.1)) (.s (iA f.2) (.sq (pt 1 0) (.s [bx (ak a.1),bx (ak f.1)] (.bd (a4 13) fun h=>.s (ag (ak h.1)) (.s (iA h.2) (.sq (pt 2 0) (.s [bx (ak a.1),bx (ak f.1),bx (ak h.1)] (.s (ag (ak a.1)) (.s (ag [(iA 0),(iA 0),(iA 0),(iA 9)]) (.bd (g:=fun (y:(av×Int))=>(tp [(ag (ak y.1)),(iA y.2)])) (by simp only[cf,dF]; exact a0 a.1 ((bL.mk 0 0 0 9))) fun i=>.s (ag (ak i.1)) (.s (iA i.2) (.sq (pt 3 0) (.s [bx (ak a.1),bx (ak f.1),bx (ak h.1),bx (ak i.1)] (.s (ag (ak a.1)) (.bd (g:=fun (y:(av×Int))=>(tp [(ag (ak y.1)),(iA y.2)])) (by simp only[cf,dF]; exact h9 a.1 0) fun j=>?_)))))))))))))))))))
 refine .s (ag (ak j.1)) (.s (iA j.2) (.sq (pt 4 0) (.s [bx (ak a.1),bx (ak f.1),bx (ak h.1),bx (ak i.1),bx (ak j.1)] (.s (ag (ak a.1)) (.s (im [[(iA 0)],[(iA 2)]] true) (.bd (g:=fun (y:(av×Int))=>(tp [(ag (ak y.1)),(iA y.2)])) (by simp only[cf,dF]; exact h7 a.1 ([]) ([0,2])) fun l=>.s (ag (ak l.1)) (.s (iA l.2) (.sq (pt 5 0) (.s [bx (ak a.1),bx (ak f.1),bx (ak h.1),bx (ak i.1),bx (ak j.1),bx (ak l.1)] (.s (ag (ak a.1)) (.bd (g:=fun (y:(av×bj×Bool×Int))=>(tp [(ag (ak y.1)),(ag (aD y.2.1)),(bA y.2.2.1),(iA y.2.2.2)])) (by simp only[cf,dF]; exact x a.1 0) fun b=>.s (ag (ak b.1)) (.s (ag (aD b.2.1)) (.s (bA b.2.2.1) (.s (iA b.2.2.2) (.sq (pt 6 0) (.sq (pt 7 0) (.sh (.s [bx (ak a.1),bx (ak f.1),bx (ak h.1),bx (ak i.1),bx (ak j.1),bx (ak l.1),bx (ak b.1),bx (aD b.2.1)] (.st (aH ..) (.bg (fun t (y:Bool)=>∃ a7 a8:A,t=[(bA y),a7,a8]) ?_ ?_))))))))))))))))))))
 ·refine .bi ?_ ?_
  ·exact .lg ⟨_,_,rfl⟩
  exact .st (aH ..) (.lg ⟨_,_,rfl⟩)
 rintro _ y9 ⟨a7,a8,rfl⟩
 refine .uc (.uc (.uc (.bg (fun t (y:Bool)=>∃ a9 aa:A,t=[(bA y),a9,aa]) ?_ ?_)))
 ·refine .bi ?_ ?_
  ·exact .lg ⟨_,_,rfl⟩
  exact .st (aH ..) (.lg ⟨_,_,rfl⟩)
 rintro _ du ⟨a9,aa,rfl⟩
 refine .uc (.uc (.uc (.bg (fun t (y:Bool)=>∃ ab ad:A,t=[(bA y),ab,ad]) ?_ ?_)))
 ·refine .bi ?_ ?_
  ·exact .lg ⟨_,_,rfl⟩
  exact .st (aH ..) (.lg ⟨_,_,rfl⟩)
 rintro _ dv ⟨ab,ad,rfl⟩
 refine .uc (.uc (.uc (.bg (fun t (y:Bool)=>∃ ae af:A,t=[(bA y),ae,af]) ?_ ?_)))
 ·refine .bi ?_ ?_
  ·exact .lg ⟨_,_,rfl⟩
  exact .st (aH ..) (.lg ⟨_,_,rfl⟩)
 rintro _ dw ⟨ae,af,rfl⟩
 refine .uc (.uc (.uc (.bg (fun t (y:Bool)=>∃ ah ai:A,t=[(bA y),ah,ai]) ?_ ?_)))
 ·refine .bi ?_ ?_
  ·exact .lg ⟨_,_,rfl⟩
  exact .st (aH ..) (.lg ⟨_,_,rfl⟩)
 rintro _ dx ⟨ah,ai,rfl⟩
 refine .uc (.uc (.uc (.bg (fun t (y:Bool)=>∃ aj al:A,t=[(bA y),aj,al]) ?_ ?_)))
 ·refine .bi ?_ ?_
  ·exact .lg ⟨_,_,rfl⟩
  exact .st (aH ..) (.lg ⟨_,_,rfl⟩)
 rintro _ dy ⟨aj,al,rfl⟩
 refine .uc (.uc (.uc (.bg (fun t (y:Bool)=>∃ am an ao ap:A,t=[(bA y),am,an,ao,ap]) ?_ ?_)))
 ·refine .bi ?_ ?_
  ·exact .lg ⟨_,_,_,_,rfl⟩
  exact .s (pt 0 2) (.s (im (a.1.Ears.map aw) false) (.st (dn (e:=50)) (.st (aH ..) (.lg ⟨_,_,_,_,rfl⟩))))
 rintro _ dz ⟨am,an,ao,ap,rfl⟩
 refine .u4 (.uc (.bg (fun t (y:Bool)=>∃ ar au ax:A,t=[(bA y),ar,au,ax]) ?_ ?_))
 ·refine .bi ?_ ?_
  ·exact .lg ⟨_,_,_,rfl⟩
  exact .s (ag (ak a.1)) (.bd (g:=fun (y:Int)=>(iA y)) (by simp only[cf,dF]; exact a5 a.1) fun e0=>.st (aH ..) (.lg ⟨_,_,_,rfl⟩))
 rintro _ e1 ⟨ar,au,ax,rfl⟩
 refine .u4 (.bg (fun t (y:Bool)=>∃ ay az b0:A,t=[(bA y),ay,az,b0]) ?_ ?_)
 ·refine .bi ?_ ?_
  ·exact .lg ⟨_,_,_,rfl⟩
  exact .s (ag [Ye,Ye,Ye,(iA 0)]) (.bd (g:=fun (y:Int)=>(iA y)) (by simp only[cf,dF]; exact a5 ((av.mk ((bh.mk ([]) ([]))) ([]) 0))) fun e2=>.st (aH ..) (.lg ⟨_,_,_,rfl⟩))
 rintro _ e3 ⟨ay,az,b0,rfl⟩
 refine .u4 (.bQ ?_ ?_)
 ·exact .lv rfl
 refine .s (ag (ak a.1)) (.s (ag [(iA 4),(iA 0),(iA 0),(iA 2)]) (.bd (g:=fun (y:(av×Int))=>(tp [(ag (ak y.1)),(iA y.2)])) (by simp only[cf,dF]; exact a0 a.1 ((bL.mk 4 0 0 2))) fun o=>.s (ag (ak o.1)) (.s (iA o.2) (.sq (pt 8 0) (.s [bx (ak a.1),bx (ak f.1),bx (ak h.1),bx (ak i.1),bx (ak j.1),bx (ak l.1),bx (ak b.1),bx (aD b.2.1),bx (ak o.1)] (.s (ag (ak o.1)) (.s (ag [(iA 5),(iA 0),(iA 0),(iA 3)]) (.bd (g:=fun (y:(av×Int))=>(tp [(ag (ak y.1)),(iA y.2)])) (by simp only[cf,dF]; exact a0 o.1 ((bL.mk 5 0 0 3))) fun p=>.s (ag (ak p.1)) (.s (iA p.2) (.sq (pt 9 0) (.s [bx (ak a.1),bx (ak f.1),bx (ak h.1),bx (ak i.1),bx (ak j.1),bx (ak l.1),bx (ak b.1),bx (aD b.2.1),bx (ak o.1),bx (ak p.1)] (.s (ag (ak p.1)) (.s (ag [(iA 6),(iA 1),(iA 0),(iA 3)]) (.bd (g:=fun (y:(av×Int))=>(tp [(ag (ak y.1)),(iA y.2)])) (by simp only[cf,dF]; exact a0 p.1 ((bL.mk 6 1 0 3))) fun u=>.s (ag (ak u.1)) (.s (iA u.2) (.sq (pt 10 0) (.s [bx (ak a.1),bx (ak f.1),bx (ak h.1),bx (ak i.1),bx (ak j.1),bx (ak l.1),bx (ak b.1),bx (aD b.2.1),bx (ak o.1),bx (ak p.1),bx (ak u.1)] (.s (ag (ak u.1)) (.bd (g:=fun (y:(av×bj×Bool×Int))=>(tp [(ag (ak y.1)),(ag (aD y.2.1)),(bA y.2.2.1),(iA y.2.2.2)])) (by simp only[cf,dF]; exact x u.1 1) fun d=>.s (ag (ak d.1)) ?_)))))))))))))))))))
 refine .s (ag (aD d.2.1)) (.s (bA d.2.2.1) (.s (iA d.2.2.2) (.sq (pt 11 0) (.sq (pt 12 0) (.sh (.s [bx (ak a.1),bx (ak f.1),bx (ak h.1),bx (ak i.1),bx (ak j.1),bx (ak l.1),bx (ak b.1),bx (aD b.2.1),bx (ak o.1),bx (ak p.1),bx (ak u.1),bx (ak d.1),bx (aD d.2.1)] (.s (ag (ak d.1)) (.bd (g:=fun (y:(av×bj×Bool×Int))=>(tp [(ag (ak y.1)),(ag (aD y.2.1)),(bA y.2.2.1),(iA y.2.2.2)])) (by simp only[cf,dF]; exact x d.1 0) fun c=>.s (ag (ak c.1)) (.s (ag (aD c.2.1)) (.s (bA c.2.2.1) (.s (iA c.2.2.2) (.sq (pt 13 0) (.sq (pt 14 0) (.sh (.s [bx (ak a.1),bx (ak f.1),bx (ak h.1),bx (ak i.1),bx (ak j.1),bx (ak l.1),bx (ak b.1),bx (aD b.2.1),bx (ak o.1),bx (ak p.1),bx (ak u.1),bx (ak d.1),bx (aD d.2.1),bx (ak c.1),bx (aD c.2.1)] (.s (ag (ak c.1)) (.s (im [[(iA 0)],[(iA 1)]] true) (.bd (g:=fun (y:(av×Int))=>(tp [(ag (ak y.1)),(iA y.2)])) (by simp only[cf,dF]; exact h7 c.1 ([]) ([0,1])) fun k=>.s (ag (ak k.1)) (.s (iA k.2) (.sq (pt 15 0) (.s [bx (ak a.1),bx (ak f.1),bx (ak h.1),bx (ak i.1),bx (ak j.1),bx (ak l.1),bx (ak b.1),bx (aD b.2.1),bx (ak o.1),bx (ak p.1),bx (ak u.1),bx (ak d.1),bx (aD d.2.1),bx (ak c.1),bx (aD c.2.1),bx (ak k.1)] ?_)))))))))))))))))))))
 refine .s (ag (ak c.1)) (.s (im [[(iA 0)],[(iA 0)]] true) (.bd (g:=fun (y:(av×Int))=>(tp [(ag (ak y.1)),(iA y.2)])) (by simp only[cf,dF]; exact h7 c.1 ([]) ([0,0])) fun v=>.s (ag (ak v.1)) (.s (iA v.2) (.sq (pt 16 0) (.s [bx (ak a.1),bx (ak f.1),bx (ak h.1),bx (ak i.1),bx (ak j.1),bx (ak l.1),bx (ak b.1),bx (aD b.2.1),bx (ak o.1),bx (ak p.1),bx (ak u.1),bx (ak d.1),bx (aD d.2.1),bx (ak c.1),bx (aD c.2.1),bx (ak k.1),bx (ak v.1)] (.s (ag (ak c.1)) (.s (im [[(iA 0)]] true) (.s (im [[(iA 0)],[(iA 1)]] true) (.bd (g:=fun (y:(av×Int))=>(tp [(ag (ak y.1)),(iA y.2)])) (by simp only[cf,dF]; exact h7 c.1 ([0]) ([0,1])) fun w=>.s (ag (ak w.1)) (.s (iA w.2) (.sq (pt 17 0) (.s [bx (ak a.1),bx (ak f.1),bx (ak h.1),bx (ak i.1),bx (ak j.1),bx (ak l.1),bx (ak b.1),bx (aD b.2.1),bx (ak o.1),bx (ak p.1),bx (ak u.1),bx (ak d.1),bx (aD d.2.1),bx (ak c.1),bx (aD c.2.1),bx (ak k.1),bx (ak v.1),bx (ak w.1)] (.st (aH ..) (.bg (fun t (y:Bool)=>∃ b1 b2:A,t=[(bA y),b1,b2]) ?_ ?_))))))))))))))
 ·refine .bi ?_ ?_
  ·exact .lg ⟨_,_,rfl⟩
  exact .st (aH ..) (.lg ⟨_,_,rfl⟩)
 rintro _ e4 ⟨b1,b2,rfl⟩
 refine .uc (.uc (.uc (.bg (fun t (y:Bool)=>∃ b3 b4:A,t=[(bA y),b3,b4]) ?_ ?_)))
 ·refine .bi ?_ ?_
  ·exact .lg ⟨_,_,rfl⟩
  exact .st (aH ..) (.lg ⟨_,_,rfl⟩)
 rintro _ e6 ⟨b3,b4,rfl⟩
 refine .uc (.uc (.uc (.bg (fun t (y:Bool)=>∃ b5 b6:A,t=[(bA y),b5,b6]) ?_ ?_)))
 ·refine .bi ?_ ?_
  ·exact .lg ⟨_,_,rfl⟩
  exact .st (aH ..) (.lg ⟨_,_,rfl⟩)
 rintro _ e7 ⟨b5,b6,rfl⟩
 refine .uc (.uc (.uc (.bg (fun t (y:Bool)=>∃ b7 b8:A,t=[(bA y),b7,b8]) ?_ ?_)))
 ·refine .bi ?_ ?_
  ·exact .lg ⟨_,_,rfl⟩
  exact .st (aH ..) (.lg ⟨_,_,rfl⟩)
 rintro _ e8 ⟨b7,b8,rfl⟩
 refine .uc (.uc (.uc (.bg (fun t (y:Bool)=>∃ b9 ba:A,t=[(bA y),b9,ba]) ?_ ?_)))
 ·refine .bi ?_ ?_
  ·exact .lg ⟨_,_,rfl⟩
  exact .st (aH ..) (.lg ⟨_,_,rfl⟩)
 rintro _ e9 ⟨b9,ba,rfl⟩
 refine .uc (.uc (.uc (.bg (fun t (y:Bool)=>∃ bb bc:A,t=[(bA y),bb,bc]) ?_ ?_)))
 ·refine .bi ?_ ?_
  ·exact .lg ⟨_,_,rfl⟩
  exact .st (aH ..) (.lg ⟨_,_,rfl⟩)
 rintro _ ea ⟨bb,bc,rfl⟩
 refine .uc (.uc (.uc (.bg (fun t (y:Bool)=>∃ be bf:A,t=[(bA y),be,bf]) ?_ ?_)))
 ·refine .bi ?_ ?_
  ·exact .lg ⟨_,_,rfl⟩
  exact .st (aH ..) (.lg ⟨_,_,rfl⟩)
 rintro _ eb ⟨be,bf,rfl⟩
 refine .uc (.uc (.uc (.bg (fun t (y:Bool)=>∃ bk:A,t=[(bA y),bk]) ?_ ?_)))
 ·refine .bi ?_ ?_
  ·exact .lg ⟨_,rfl⟩
  exact .lg ⟨_,rfl⟩
 rintro _ ec ⟨bk,rfl⟩
 refine .uc (.uc (.bQ ?_ ?_))
 ·exact .lv rfl
 refine .s2 (im (c.1.Ears.map aw) false) (.st (dn (e:=50)) (.st (aH ..) (.bg (fun t (y:Bool)=>∃ bl bm bn bo bp bq br:A,t=[(bA y),bl,bm,bn,bo,bp,bq,br]) ?_ ?_)))
 ·refine .bi ?_ ?_
  ·exact .lg ⟨_,_,_,_,_,_,_,rfl⟩
  exact .s (pt 13 2) (.s (im (c.1.Ears.map aw) false) (.bd (dr (e:=50) (es:=3)) fun bs=>.s (A.ip (aw bs)) (.s (im (bs.Cues.map aI) false) (.st (dn (e:=46)) (.st (aH ..) (.lg ⟨_,_,_,_,_,_,_,rfl⟩))))))
 rintro _ ed ⟨bl,bm,bn,bo,bp,bq,br,rfl⟩
 refine .u4 (.u4 (.bg (fun t (y:Bool)=>∃ bt bu bv bw bz c0 c1 c2 c3:A,t=[(bA y),bt,bu,bv,bw,bz,c0,c1,c2,c3]) ?_ ?_))
 ·refine .bi ?_ ?_
  ·exact .lg ⟨_,_,_,_,_,_,_,_,_,rfl⟩
  exact .s (pt 13 2) (.s (im (c.1.Ears.map aw) false) (.bd (dr (e:=50) (es:=3)) fun c4=>.s (A.ip (aw c4)) (.s (im (c4.Cues.map aI) false) (.bd (dr (e:=46) (es:=4)) fun z=>.s (ag (aI z)) (.s (ag [(iA 5),(iA 0),(iA 0),(iA 3)]) (.s (bA (!((z.No==5)&&((z.Role==0)&&((z.Bar==0)&&(z.Program==3)))))) (.lg ⟨_,_,_,_,_,_,_,_,_,rfl⟩)))))))
 rintro _ ee ⟨bt,bu,bv,bw,bz,c0,c1,c2,c3,rfl⟩
 refine .u4 (.u4 (.uc (.uc (.bg (fun t (y:Bool)=>∃ c5 c6 c7 c8 c9:A,t=[(bA y),c5,c6,c7,c8,c9]) ?_ ?_))))
 ·refine .bi ?_ ?_
  ·exact .lg ⟨_,_,_,_,_,rfl⟩
  exact .s (pt 13 0) (.s (pt 13 0) (.s (im (c.1.Net.Queue.map aq) false) (.st (dn (e:=68)) (.st (aH ..) (.lg ⟨_,_,_,_,_,rfl⟩)))))
 rintro _ ef ⟨c5,c6,c7,c8,c9,rfl⟩
 refine .u4 (.uc (.uc (.bQ ?_ ?_)))
 ·exact .lv rfl
 refine .s2 (im (k.1.Ears.map aw) false) (.s (im [[(iA 3)]] true) (.s (im [[(iA 3)]] true) (.s (ag [Ye,(im [[(iA 3)]] true),(im [[(iA 3)]] true)]) (.s (im [[(iA 0)]] true) (.s (im [[(iA 0)]] true) (.s (ag [Ye,(im [[(iA 0)]] true),(im [[(iA 0)]] true)]) (.s (im [[(im [] false),(im [[(iA 3)]] false),(im [[(iA 3)]] false)],[(im [] false),(im [[(iA 0)]] false),(im [[(iA 0)]] false)]] true) (.bd (g:=fun (y:Bool)=>(bA y)) (by simp only[cf,dF]; exact a1 k.1.Ears ([(aN.mk ([]) ([3]) ([3])),(aN.mk ([]) ([0]) ([0]))])) fun dm=>.s (bA (!dm)) (.bg (fun t (y:Bool)=>∃ ca cb cc cd ce cg ch ci cj ck cl:A,t=[(bA y),ca,cb,cc,cd,ce,cg,ch,ci,cj,ck,cl]) ?_ ?_)))))))))
 ·refine .bi ?_ ?_
  ·exact .lg ⟨_,_,_,_,_,_,_,_,_,_,_,rfl⟩
  exact .s (pt 16 2) (.s (im (v.1.Ears.map aw) false) (.s (im [[(iA 3)]] true) (.s (im [[(iA 0)]] true) (.s (ag [Ye,(im [[(iA 3)]] true),(im [[(iA 0)]] true)]) (.s (im [[(iA 0)]] true) (.s (im [[(iA 0)]] true) (.s (ag [Ye,(im [[(iA 0)]] true),(im [[(iA 0)]] true)]) (.s (im [[(im [] false),(im [[(iA 3)]] false),(im [[(iA 0)]] false)],[(im [] false),(im [[(iA 0)]] false),(im [[(iA 0)]] false)]] true) (.bd (g:=fun (y:Bool)=>(bA y)) (by simp only[cf,dF]; exact a1 v.1.Ears ([(aN.mk ([]) ([3]) ([0])),(aN.mk ([]) ([0]) ([0]))])) fun dp=>.s (bA (!dp)) (.lg ⟨_,_,_,_,_,_,_,_,_,_,_,rfl⟩))))))))))
 rintro _ eg ⟨ca,cb,cc,cd,ce,cg,ch,ci,cj,ck,cl,rfl⟩
 refine .u4 (.u4 (.u4 (.bg (fun t (y:Bool)=>∃ cm cn co cp cq cr cs ct cu cv cw:A,t=[(bA y),cm,cn,co,cp,cq,cr,cs,ct,cu,cv,cw]) ?_ ?_)))
 ·refine .bi ?_ ?_
  ·exact .lg ⟨_,_,_,_,_,_,_,_,_,_,_,rfl⟩
  exact .s (pt 17 2) (.s (im (w.1.Ears.map aw) false) (.s (im [[(iA 0)]] true) (.s (im [[(iA 0)]] true) (.s (ag [Ye,(im [[(iA 0)]] true),(im [[(iA 0)]] true)]) (.s (im [[(iA 0)]] true) (.s (im [[(iA 0)]] true) (.s (ag [Ye,(im [[(iA 0)]] true),(im [[(iA 0)]] true)]) (.s (im [[(im [] false),(im [[(iA 0)]] false),(im [[(iA 0)]] false)],[(im [] false),(im [[(iA 0)]] false),(im [[(iA 0)]] false)]] true) (.bd (g:=fun (y:Bool)=>(bA y)) (by simp only[cf,dF]; exact a1 w.1.Ears ([(aN.mk ([]) ([0]) ([0])),(aN.mk ([]) ([0]) ([0]))])) fun dq=>.s (bA (!dq)) (.lg ⟨_,_,_,_,_,_,_,_,_,_,_,rfl⟩))))))))))
 rintro _ eh ⟨cm,cn,co,cp,cq,cr,cs,ct,cu,cv,cw,rfl⟩
 refine .u4 (.u4 (.u4 (.bQ ?_ ?_)))
 ·exact .lv rfl
 refine .s (ag (ak k.1)) (.bd (g:=fun (y:(av×bj×Bool×Int))=>(tp [(ag (ak y.1)),(ag (aD y.2.1)),(bA y.2.2.1),(iA y.2.2.2)])) (by simp only[cf,dF]; exact x k.1 0) fun q=>.s (ag (ak q.1)) (.s (ag (aD q.2.1)) (.s (bA q.2.2.1) (.s (iA q.2.2.2) (.sq (pt 18 0) (.sq (pt 19 0) (.sh (.s [bx (ak a.1),bx (ak f.1),bx (ak h.1),bx (ak i.1),bx (ak j.1),bx (ak l.1),bx (ak b.1),bx (aD b.2.1),bx (ak o.1),bx (ak p.1),bx (ak u.1),bx (ak d.1),bx (aD d.2.1),bx (ak c.1),bx (aD c.2.1),bx (ak k.1),bx (ak v.1),bx (ak w.1),bx (ak q.1),bx (aD q.2.1)] (.st (aH ..) (.bg (fun t (y:Bool)=>∃ cx cy cz:A,t=[(bA y),cx,cy,cz]) ?_ ?_))))))))))
 ·refine .bi ?_ ?_
  ·exact .lg ⟨_,_,_,rfl⟩
  exact .s (pt 15 3) (.s (iA k.1.Bar) (.st (aH ..) (.lg ⟨_,_,_,rfl⟩)))
 rintro _ ei ⟨cx,cy,cz,rfl⟩
 refine .u4 (.bg (fun t (y:Bool)=>∃ d0 d1 d2 d3 d4:A,t=[(bA y),d0,d1,d2,d3,d4]) ?_ ?_)
 ·refine .bi ?_ ?_
  ·exact .lg ⟨_,_,_,_,_,rfl⟩
  exact .s (pt 15 0) (.s (pt 15 0) (.s (im (k.1.Net.Queue.map aq) false) (.st (dn (e:=68)) (.st (aH ..) (.lg ⟨_,_,_,_,_,rfl⟩)))))
 rintro _ ej ⟨d0,d1,d2,d3,d4,rfl⟩
 refine .u4 (.uc (.uc (.bg (fun t (y:Bool)=>∃ d5 d6 d7 d8 d9 da:A,t=[(bA y),d5,d6,d7,d8,d9,da]) ?_ ?_)))
 ·refine .bi ?_ ?_
  ·exact .lg ⟨_,_,_,_,_,_,rfl⟩
  exact .s (pt 18 2) (.s (im (q.1.Ears.map aw) false) (.s (pt 15 2) (.s (im (k.1.Ears.map aw) false) (.bd (g:=fun (y:Bool)=>(bA y)) (by simp only[cf,dF]; exact a1 q.1.Ears k.1.Ears) fun ds=>.s (bA (!ds)) (.lg ⟨_,_,_,_,_,_,rfl⟩)))))
 rintro _ ek ⟨d5,d6,d7,d8,d9,da,rfl⟩
 refine .u4 (.uc (.uc (.uc (.bQ ?_ ?_))))
 ·exact .lv rfl
 refine .s (ag (ak q.1)) (.bd (g:=fun (y:(av×bj×Bool×Int))=>(tp [(ag (ak y.1)),(ag (aD y.2.1)),(bA y.2.2.1),(iA y.2.2.2)])) (by simp only[cf,dF]; exact x q.1 0) fun r=>.s (ag (ak r.1)) (.s (ag (aD r.2.1)) (.s (bA r.2.2.1) (.s (iA r.2.2.2) (.sq (pt 20 0) (.sq (pt 21 0) (.sh (.s [bx (ak a.1),bx (ak f.1),bx (ak h.1),bx (ak i.1),bx (ak j.1),bx (ak l.1),bx (ak b.1),bx (aD b.2.1),bx (ak o.1),bx (ak p.1),bx (ak u.1),bx (ak d.1),bx (aD d.2.1),bx (ak c.1),bx (aD c.2.1),bx (ak k.1),bx (ak v.1),bx (ak w.1),bx (ak q.1),bx (aD q.2.1),bx (ak r.1),bx (aD r.2.1)] (.s (ag (ak r.1)) (.bd (g:=fun (y:(av×Int))=>(tp [(ag (ak y.1)),(iA y.2)])) (by simp only[cf,dF]; exact h9 r.1 0) fun a3=>.s (ag (ak a3.1)) (.s (iA a3.2) (.sq (pt 22 0) (.s [bx (ak a.1),bx (ak f.1),bx (ak h.1),bx (ak i.1),bx (ak j.1),bx (ak l.1),bx (ak b.1),bx (aD b.2.1),bx (ak o.1),bx (ak p.1),bx (ak u.1),bx (ak d.1),bx (aD d.2.1),bx (ak c.1),bx (aD c.2.1),bx (ak k.1),bx (ak v.1),bx (ak w.1),bx (ak q.1),bx (aD q.2.1),bx (ak r.1),bx (aD r.2.1),bx (ak a3.1)] (.st (aZ ..) (.bg (fun t (y:Bool)=>∃ db dc:A,t=[(bA y),db,dc]) ?_ ?_)))))))))))))))
 ·refine .bi ?_ ?_
  ·exact .st (aZ ..) (.lg ⟨_,_,rfl⟩)
  exact .lg ⟨_,_,rfl⟩
 rintro _ el ⟨db,dc,rfl⟩
 refine .uc (.uc (.uc (.bg (fun t (y:Bool)=>∃ dd:A,t=[(bA y),dd]) ?_ ?_)))
 ·refine .bi ?_ ?_
  ·exact .lg ⟨_,rfl⟩
  exact .lg ⟨_,rfl⟩
 rintro _ em ⟨dd,rfl⟩
 refine .uc (.uc (.bg (fun t (y:Bool)=>∃ de df dg:A,t=[(bA y),de,df,dg]) ?_ ?_))
 ·refine .bi ?_ ?_
  ·exact .s (ag (aD r.2.1)) (.s (ag [(iA 0),(iA 0),(iA 3)]) (.s (bA (((r.2.1.Role==0)&&((r.2.1.Bar==0)&&(r.2.1.Program==3))))) (.lg ⟨_,_,_,rfl⟩)))
  exact .lg ⟨_,_,_,rfl⟩
 rintro _ en ⟨de,df,dg,rfl⟩
 refine .u4 (.bg (fun t (y:Bool)=>∃ dh di dj dk dl:A,t=[(bA y),dh,di,dj,dk,dl]) ?_ ?_)
 ·refine .bi ?_ ?_
  ·exact .s (pt 22 0) (.s (pt 22 0) (.s (im (a3.1.Net.Queue.map aq) false) (.st (dn (e:=68)) (.st (aZ ..) (.lg ⟨_,_,_,_,_,rfl⟩)))))
  exact .lg ⟨_,_,_,_,_,rfl⟩
 rintro _ eo ⟨dh,di,dj,dk,dl,rfl⟩
 exact .u4 (.uc (.uc (.lv rfl)))
def G5  : Option Bool:=F5 aA
def L8 (C:OT):Prop:=∀ (_:Unit),C 5 []=(G5 ).map fun y=>(bA y)
def OL (n:Nat) (a:bh):Option Bool:=
 (bif (decide (((a.Queue.length:Int))<=40)) then (some (decide (((a.Apart.length:Int))<=40))) else (some false)).bind fun b=>some b
theorem VF (C:OT) (n:Nat) (a:bh):TJ C n 22 [(ag [(im (a.Queue.map aq) false),(im (a.Apart.map au) false)])] (OL n a) (fun y=>(bA y)):=by
 refine .lp (Wy ..) ?_
 unfold OL
 refine .s ((pt 0 0),[bx [(im (a.Queue.map aq) false),(im (a.Apart.map au) false)]]) (.s2 (im (a.Queue.map aq) false) (.st (dn (e:=68)) (.st (dT ..) (.bg (fun t (y:Bool)=>∃ b c d f:A,t=[(bA y),b,c,d,f]) ?_ ?_))))
 ·refine .bi ?_ ?_
  ·exact .s (pt 0 1) (.s (im (a.Apart.map au) false) (.st (dn (e:=99)) (.st (dT ..) (.lg ⟨_,_,_,_,rfl⟩))))
  exact .lg ⟨_,_,_,_,rfl⟩
 rintro _ g ⟨b,c,d,f,rfl⟩
 exact .u4 (.uc (.lv rfl))
def LI (a:bh):Option Bool:=OL aA a
def Iz (C:OT):Prop:=∀ (a:bh),C 22 [(ag [(im (a.Queue.map aq) false),(im (a.Apart.map au) false)])]=(LI a).map fun y=>(bA y)
def ox (n:Nat) (d:Bool) (b:av):Nat->Int->Option ((Bool)⊕(Unit))
 | 0,_=>none
 | m+1,c=>bif (decide (c<((b.Ears.length:Int)))) then ((bf b.Ears c).bind fun a=>(bif (decide (40<((a.Cues.length:Int)))) then (some true) else ((bif (decide (60<((a.Got.length:Int)))) then (some (decide (((a.Got.length:Int))<4094))) else (some false)).bind fun e=>some e)).bind fun f=>(bif f then (some true) else (some (decide (5000<((a.Got.length:Int)))))).bind fun g=>(bif g then (some true) else (some (decide (5000<((a.Did.length:Int)))))).bind fun h=>bif h then (some ((Sum.inl false))) else (ox n d b m (wr .i64 (c+1)))) else (some ((Sum.inr (()))))
theorem JW (g:Bool) (b:av) {K:((Bool)⊕(Unit))->Option γ} (x0:∀ (h:Bool) (c:A) (d:A) (q0:aC) (q1:aC),J φ (kr (St.mk [(1,c),(2,(bA h)),(4,d)] [q0,q1])) kL (K (Sum.inl h)) some) (x1:∀ (c:A) (s2:A) (d:A) (q0:aC),J φ (kx 0 (St.mk [(1,c),(2,s2),(4,d)] [q0])) kL (K (Sum.inr (()))) some) :
  ∀ (m:Nat) (f:Int),J φ (aE (cx C) (ec C n 8) (ey C n 8) (n+8) 6 0 0 1 kx kg kr kp m (St.mk [(1,(pt 0 0)),(2,(bA g)),(4,(iA f))] [bx (ak b)])) kL (ox n g b m f) K:=by
  refine nI (fun _=>.nn) fun m ih f=>.lp (Ru ..) ?_
  unfold ox
  refine .s2 (im (b.Ears.map aw) false) (.st (dn (e:=50)) (.st (aS ..) (.bQ ?_ ?_)))
  ·refine .s2 (im (b.Ears.map aw) false) (.bd (dr (e:=50) (es:=3)) fun a=>.s (ag (aw a)) (.sq (pt 1 0) (.s [bx (ak b),bx (aw a)] (.s2 (im (a.Cues.map aI) false) (.st (dn (e:=46)) (.st (cC ..) (.bg (fun t (y:Bool)=>∃ i j k l o p q r u w:A,t=[(bA y),i,j,k,l,o,p,q,r,u,w]) ?_ ?_)))))))
   ·refine .bi ?_ ?_
    ·exact .lg ⟨_,_,_,_,_,_,_,_,_,_,rfl⟩
    refine .s (pt 1 1) (.s (im (a.Got.map (cI .i64)) false) (.st (dn (e:=3)) (.st (cC ..) (.bg (fun t (y:Bool)=>∃ x z a0 a1:A,t=[(bA y),x,z,a0,a1]) ?_ ?_))))
    ·refine .bi ?_ ?_
     ·exact .s (pt 1 1) (.s (im (a.Got.map (cI .i64)) false) (.st (dn (e:=3)) (.st (aS ..) (.lg ⟨_,_,_,_,rfl⟩))))
     exact .lg ⟨_,_,_,_,rfl⟩
    rintro _ ad ⟨x,z,a0,a1,rfl⟩
    exact .u4 (.uc (.lg ⟨_,_,_,_,_,_,_,_,_,_,rfl⟩))
   rintro _ ae ⟨i,j,k,l,o,p,q,r,u,w,rfl⟩
   refine .u4 (.u4 (.uc (.uc (.uc (.bg (fun t (y:Bool)=>∃ a2 a3 a4 a5:A,t=[(bA y),a2,a3,a4,a5]) ?_ ?_)))))
   ·refine .bi ?_ ?_
    ·exact .lg ⟨_,_,_,_,rfl⟩
    exact .s (pt 1 1) (.s (im (a.Got.map (cI .i64)) false) (.st (dn (e:=3)) (.st (cC ..) (.lg ⟨_,_,_,_,rfl⟩))))
   rintro _ af ⟨a2,a3,a4,a5,rfl⟩
   refine .u4 (.uc (.bg (fun t (y:Bool)=>∃ a6 a7 a8 a9:A,t=[(bA y),a6,a7,a8,a9]) ?_ ?_))
   ·refine .bi ?_ ?_
    ·exact .lg ⟨_,_,_,_,rfl⟩
    exact .s (pt 1 2) (.s (im (a.Did.map (cI .i64)) false) (.st (dn (e:=3)) (.st (cC ..) (.lg ⟨_,_,_,_,rfl⟩))))
   rintro _ ah ⟨a6,a7,a8,a9,rfl⟩
   refine .u4 (.uc (.bQ ?_ ?_))
   ·exact .ex (x0 _ _ _ _ _)
   refine .st (aF ..) (.st (v:=[bx (ak b)]) (dB r8 An) (.cT r8 ?_))
   exact ih _
  exact .ex (x1 _ _ _ _)
def F6 (n:Nat) (a:av):Option Bool:=
 (LI a.Net).bind fun b=>(bif (!b) then (some true) else (some (decide (20<((a.Ears.length:Int)))))).bind fun c=>bif c then (some false) else ((ox n false a (n+8) 0).bind fun d=>match d with | (Sum.inl e)=>some e | (Sum.inr _)=>some true)
theorem T6 (C:OT) (n:Nat) (h:Iz C) (a:av):TJ C n 6 [(ag (ak a))] (F6 n a) (fun y=>(bA y)):=by
 refine .lp (e6 ..) ?_
 unfold F6
 refine .s ((pt 0 0),[bx (ak a)]) (.s2 (ag [(im (a.Net.Queue.map aq) false),(im (a.Net.Apart.map au) false)]) (.bd (g:=fun (y:Bool)=>(bA y)) (by simp only[cf,dF]; exact h a.Net) fun i=>.s (bA (!i)) (.bg (fun t (y:Bool)=>∃ b c d f:A,t=[(bA y),b,c,d,f]) ?_ ?_)))
 ·refine .bi ?_ ?_
  ·exact .lg ⟨_,_,_,_,rfl⟩
  exact .s (pt 0 2) (.s (im (a.Ears.map aw) false) (.st (dn (e:=50)) (.st (cC ..) (.lg ⟨_,_,_,_,rfl⟩))))
 rintro _ j ⟨b,c,d,f,rfl⟩
 refine .u4 (.uc (.bQ ?_ ?_))
 ·exact .lv rfl
 refine .as (JW C n _ _ _ _ false a ?_ ?_ _ 0)
 ·intro k l o w95 w96
  exact .un rfl (.lv rfl)
 ·intro p q r w100
  exact .un rfl (.cT r8 (.lv rfl))
def G6 (a:av):Option Bool:=F6 aA a
def L9 (C:OT):Prop:=∀ (a:av),C 6 [(ag (ak a))]=(G6 a).map fun y=>(bA y)
def O7 (n:Nat) (a:Int) (b:Int) (a2:Int):Option Bool:=
 (bif (decide (b<=a)) then (some (decide (a<=a2))) else (some false)).bind fun c=>some c
theorem V4 (C:OT) (n:Nat) (a:Int) (b:Int) (a2:Int):TJ C n 60 [(iA a),(iA b),(iA a2)] (O7 n a b a2) (fun y=>(bA y)):=by
 refine .lp (WY ..) ?_
 unfold O7
 refine .st (dq ..) (.bg (fun t (y:Bool)=>∃ c d e:A,t=[(bA y),c,d,e]) ?_ ?_)
 ·refine .bi ?_ ?_
  ·exact .st (dT ..) (.lg ⟨_,_,_,rfl⟩)
  exact .lg ⟨_,_,_,rfl⟩
 rintro _ f ⟨c,d,e,rfl⟩
 exact .u4 (.lv rfl)
def Cj (a:Int) (b:Int) (a2:Int):Option Bool:=O7 aA a b a2
def ug (C:OT):Prop:=∀ (a:Int) (b:Int) (a2:Int),C 60 [(iA a),(iA b),(iA a2)]=(Cj a b a2).map fun y=>(bA y)
def Po (n:Nat) (a:Int):Option Bool:=
 (bif (decide (0<=a)) then (some (decide (a<24))) else (some false)).bind fun b=>some b
theorem Wk (C:OT) (n:Nat) (a:Int):TJ C n 87 [(iA a)] (Po n a) (fun y=>(bA y)):=by
 refine .lp (Xj ..) ?_
 unfold Po
 refine .st (dq ..) (.bg (fun t (y:Bool)=>∃ b c:A,t=[(bA y),b,c]) ?_ ?_)
 ·refine .bi ?_ ?_
  ·exact .st (aS ..) (.lg ⟨_,_,rfl⟩)
  exact .lg ⟨_,_,rfl⟩
 rintro _ d ⟨b,c,rfl⟩
 exact .uc (.uc (.uc (.lv rfl)))
def Ip (a:Int):Option Bool:=Po aA a
def Ay (C:OT):Prop:=∀ (a:Int),C 87 [(iA a)]=(Ip a).map fun y=>(bA y)
def Pn (n:Nat) (a:ay):Option Bool:=
 (Ip a.From).bind fun b=>(bif b then ((Ip a.To).bind fun c=>some c) else (some false)).bind fun d=>(bif d then (some (a.From != a.To)) else (some false)).bind fun e=>(bif e then (some (decide (((a.Data.length:Int))<=1048576))) else (some false)).bind fun f=>some f
theorem Wj (C:OT) (n:Nat) (b:Ay C) (a:ay):TJ C n 86 [(ag (aq a))] (Pn n a) (fun y=>(bA y)):=by
 refine .lp (Xi ..) ?_
 unfold Pn
 refine .s ((pt 0 0),[bx (aq a)]) (.s2 (iA a.From) (.bd (b a.From) fun r=>.bg (fun t (y:Bool)=>∃ c d f:A,t=[(bA y),c,d,f]) ?_ ?_))
 ·refine .bi ?_ ?_
  ·exact .s (pt 0 1) (.s (iA a.To) (.bd (b a.To) fun u=>.lg ⟨_,_,_,rfl⟩))
  exact .lg ⟨_,_,_,rfl⟩
 rintro _ v ⟨c,d,f,rfl⟩
 refine .u4 (.bg (fun t (y:Bool)=>∃ g h i j k:A,t=[(bA y),g,h,i,j,k]) ?_ ?_)
 ·refine .bi ?_ ?_
  ·exact .s (pt 0 0) (.s (iA a.From) (.s (pt 0 1) (.s (iA a.To) (.st (aH ..) (.lg ⟨_,_,_,_,_,rfl⟩)))))
  exact .lg ⟨_,_,_,_,_,rfl⟩
 rintro _ w ⟨g,h,i,j,k,rfl⟩
 refine .u4 (.uc (.uc (.bg (fun t (y:Bool)=>∃ l o p q:A,t=[(bA y),l,o,p,q]) ?_ ?_)))
 ·refine .bi ?_ ?_
  ·exact .s (pt 0 2) (.s (im (a.Data.map c8) false) (.st (dn (e:=5)) (.st (dT ..) (.lg ⟨_,_,_,_,rfl⟩))))
  exact .lg ⟨_,_,_,_,rfl⟩
 rintro _ x ⟨l,o,p,q,rfl⟩
 exact .u4 (.uc (.lv rfl))
def Lo (a:ay):Option Bool:=Pn aA a
def Ax (C:OT):Prop:=∀ (a:ay),C 86 [(ag (aq a))]=(Lo a).map fun y=>(bA y)
def lj (n:Nat) (a:(List ay)) (c:(List (Int×Int))):Nat->Int->Option ((Int)⊕(Unit))
 | 0,_=>none
 | m+1,b=>bif (decide (b<((a.length:Int)))) then ((bf a b).bind fun d=>(Lo d).bind fun e=>bif (!e) then (some ((Sum.inl 60))) else (lj n a c m (wr .i64 (b+1)))) else (some ((Sum.inr (()))))
theorem Ds (i:Ax C) {w37:A} (a:(List ay)) (b:(List (Int×Int))) {K:((Int)⊕(Unit))->Option γ} (j:∀ (f:Int) (k:A) (c:A) (q0:aC),J φ (kr (St.mk [(1,k),(2,(iA f)),(3,c)] [q0])) kL (K (Sum.inl f)) some) (l:∀ (c:A),J φ (kx 0 (St.mk [(1,(pt 0 0)),(2,w37),(3,c)] [bx [(im (a.map aq) false),(im (b.map au) false)]])) kL (K (Sum.inr (()))) some) :
  ∀ (m:Nat) (d:Int),J φ (aE (cx C) (ec C n 8) (ey C n 8) (n+8) 61 0 0 1 kx kg kr kp m (St.mk [(1,(pt 0 0)),(2,w37),(3,(iA d))] [bx [(im (a.map aq) false),(im (b.map au) false)]])) kL (lj n a b m d) K:=by
  refine nI (fun _=>.nn) fun m ih d=>.lp (MK ..) ?_
  unfold lj
  refine .s2 (im (a.map aq) false) (.st (dn (e:=68)) (.st (aS ..) (.bQ ?_ ?_)))
  ·refine .s2 (im (a.map aq) false) (.bd (dr (e:=68) (es:=3)) fun h=>.s (ag (aq h)) (.bd (g:=fun (y:Bool)=>(bA y)) (by simp only[cf,dF]; exact i h) fun o=>.s (bA (!o)) (.bQ ?_ ?_)))
   ·exact .ex (j _ _ _ _)
   refine .st (aF ..) (.s [bx [(im (a.map aq) false),(im (b.map au) false)]] (.cT r8 ?_))
   exact ih _
  exact .ex (l _)
def jk (n:Nat) (d:Int) (e:(List ay)) (c:(List (Int×Int))):Nat->Int->Option ((Int)⊕(Unit))
 | 0,_=>none
 | m+1,a=>bif (decide (a<((c.length:Int)))) then ((bf c a).bind fun b=>(Ip b.1).bind fun f=>(bif (!f) then (some true) else ((Ip b.2).bind fun g=>some (!g))).bind fun h=>(bif h then (some true) else (some (decide (b.2<=b.1)))).bind fun i=>bif i then (some ((Sum.inl 60))) else ((bif (decide (0<a)) then ((bf c (wr .i64 (a - 1))).bind fun j=>bif (decide (b.1<j.1)) then ((some (())).bind fun t=>(some (())).bind fun u=>(some (())).bind fun v=>some true) else ((bf c (wr .i64 (a - 1))).bind fun k=>bif (b.1==k.1) then ((bf c (wr .i64 (a - 1))).bind fun l=>(some (decide (b.2<=l.2))).bind fun o=>((some o).bind fun p=>some p).bind fun q=>(some q).bind fun r=>some r) else ((some (())).bind fun w=>((some (())).bind fun x=>some (())).bind fun y=>(some (())).bind fun z=>some false))) else ((some (())).bind fun a0=>(some (())).bind fun a1=>some false)).bind fun s=>bif s then (some ((Sum.inl 60))) else (jk n d e c m (wr .i64 (a+1))))) else (some ((Sum.inr (()))))
theorem Dt (o:Ay C) (p:Int) (g:(List ay)) (b:(List (Int×Int))) {K:((Int)⊕(Unit))->Option γ} (q:∀ (r:Int) (h:A) (i:A) (q0:aC) (q1:aC),J φ (kr (St.mk [(1,h),(2,(iA r)),(4,i)] [q0,q1])) kL (K (Sum.inl r)) some) (x1:∀ (h:A) (s2:A) (i:A) (q0:aC),J φ (kx 2 (St.mk [(1,h),(2,s2),(4,i)] [q0])) kL (K (Sum.inr (()))) some) :
  ∀ (m:Nat) (j:Int),J φ (aE (cx C) (ec C n 8) (ey C n 8) (n+8) 61 0 1 1 kx kg kr kp m (St.mk [(1,(pt 0 0)),(2,(iA p)),(4,(iA j))] [bx [(im (g.map aq) false),(im (b.map au) false)]])) kL (jk n p g b m j) K:=by
  refine nI (fun _=>.nn) fun m ih j=>.lp (ML ..) ?_
  unfold jk
  refine .s2 (im (b.map au) false) (.st (dn (e:=99)) (.st (aS ..) (.bQ ?_ ?_)))
  ·refine .s2 (im (b.map au) false) (.bd (dr (e:=99) (es:=2)) fun a=>.s (ag [(iA a.1),(iA a.2)]) (.sq (pt 1 0) (.s [bx [(im (g.map aq) false),(im (b.map au) false)],bx [(iA a.1),(iA a.2)]] (.s (pt 1 0) (.s (iA a.1) (.bd (o a.1) fun a8=>.s (bA (!a8)) (.bg (fun t (y:Bool)=>∃ u w x z:A,t=[(bA y),u,w,x,z]) ?_ ?_)))))))
   ·refine .bi ?_ ?_
    ·exact .lg ⟨_,_,_,_,rfl⟩
    exact .s (pt 1 1) (.s (iA a.2) (.bd (o a.2) fun a9=>.s (bA (!a9)) (.lg ⟨_,_,_,_,rfl⟩)))
   rintro _ aa ⟨u,w,x,z,rfl⟩
   refine .u4 (.uc (.bg (fun t (y:Bool)=>∃ a0 a1 a2 a3 a4:A,t=[(bA y),a0,a1,a2,a3,a4]) ?_ ?_))
   ·refine .bi ?_ ?_
    ·exact .lg ⟨_,_,_,_,_,rfl⟩
    exact .s (pt 1 0) (.s (iA a.1) (.s (pt 1 1) (.s (iA a.2) (.st (dq ..) (.lg ⟨_,_,_,_,_,rfl⟩)))))
   rintro _ ab ⟨a0,a1,a2,a3,a4,rfl⟩
   refine .u4 (.uc (.uc (.bQ ?_ ?_)))
   ·exact .ex (q _ _ _ _ _)
   refine .st (cC ..) (.Fc (.bg (fun t (y:Bool)=>∃ a5:A,t=[(bA y),a5]) ?_ ?_))
   ·refine .B4 (fun d=>?_) (fun d=>?_)
    ·refine .bb (.s (pt 1 0) (.s (iA a.1) (.s (pt 0 1) (.s (im (b.map au) false) (.st (dh ..) (.bd (dr (e:=99) (es:=2)) fun k=>.s (A.ip [(iA k.1),(iA k.2)]) (.s (iA k.1) (.st (aS ..) (.FA (fun c=>?_) (fun c=>?_))))))))))
     ·refine .bb (.s (pt 1 0) (.s (iA a.1) (.s (pt 0 1) (.s (im (b.map au) false) (.st (dh ..) (.bd (dr (e:=99) (es:=2)) fun l=>.s (A.ip [(iA l.1),(iA l.2)]) (.s (iA l.1) (.st (aZ ..) (.B4 (fun f=>?_) (fun f=>?_))))))))))
      ·refine .bb (.s (pt 1 1) (.s (iA a.2) (.s (pt 0 1) (.s (im (b.map au) false) (.st (dh ..) (.bd (dr (e:=99) (es:=2)) fun a6=>.s (A.ip [(iA a6.2)]) (.s (iA a6.2) (.cr (.u4 (.u4 (.uc (.cr (.u4 (.u4 (.u4 (.u4 (.u4 (.cr (.u4 (.u4 (.u4 (.u4 (.u4 (.u4 (.u4 (.uc (.uc (.uc (.bg (fun t (y:Bool) =>  t=[(bA y)]) ?_ ?_)))))))))))))))))))))))))))))
       ·exact .lp (bX f) (.st (dT ..) (.lg rfl))
       rintro _ ad rfl
       refine .uc (.bg (fun t (y:Bool) =>  t=[(bA y)]) ?_ ?_)
       ·refine .lp (ra c) (.bg (fun t (y:Bool) =>  t=(bA y)) ?_ ?_)
        ·exact .qs f (.lg rfl)
        rintro _ ae rfl
        exact .lg rfl
       rintro _ af rfl
       refine .uc (.qs d (.bg (fun t (y:Bool) =>  t=(bA y)) ?_ ?_))
       ·exact .qb c (.lg rfl)
       rintro _ ah rfl
       exact .lg ⟨_,rfl⟩
      refine .bb (.cr (.u4 (.u4 (.uc (.cr (.u4 (.u4 (.u4 (.u4 (.u4 (.cr (.u4 (.u4 (.u4 (.u4 (.u4 (.u4 (.u4 (.uc (.uc (.uc (.bg (fun t (y:Unit) =>  t=[(A.v undef)]) ?_ ?_))))))))))))))))))))))
      ·exact .lp (bW f) (.lg rfl)
      rintro _ ai rfl
      refine .uc (.bg (fun t (y:Unit) =>  t=[(bA false)]) ?_ ?_)
      ·refine .lp (ra c) (.bg (fun t (y:Unit) =>  t=(bA false)) ?_ ?_)
       ·exact .qb f (.lg rfl)
       rintro _ aj rfl
       exact .lg rfl
      rintro _ ak rfl
      refine .uc (.qs d (.bg (fun t (y:Unit) =>  t=(bA false)) ?_ ?_))
      ·exact .qb c (.lg rfl)
      rintro _ al rfl
      exact .lg ⟨_,rfl⟩
     refine .bb (.cr (.u4 (.u4 (.u4 (.u4 (.u4 (.cr (.u4 (.u4 (.u4 (.u4 (.u4 (.u4 (.u4 (.uc (.uc (.uc (.bg (fun t (y:Unit) =>  t=[(A.v undef)]) ?_ ?_))))))))))))))))))
     ·exact .gU (.lg rfl)
     rintro _ am rfl
     refine .uc (.bg (fun t (y:Unit) =>  t=[(A.v undef)]) ?_ ?_)
     ·exact .lp (xK c) (.lg rfl)
     rintro _ an rfl
     refine .uc (.qs d (.bg (fun t (y:Unit) =>  t=(bA true)) ?_ ?_))
     ·exact .qs c (.lg rfl)
     rintro _ ao rfl
     exact .lg ⟨_,rfl⟩
    refine .bb (.cr (.u4 (.u4 (.u4 (.u4 (.u4 (.u4 (.u4 (.uc (.uc (.uc (.bg (fun t (y:Unit) =>  t=[(A.v undef)]) ?_ ?_))))))))))))
    ·exact .gU (.lg rfl)
    rintro _ ap rfl
    refine .uc (.bg (fun t (y:Unit) =>  t=[(A.v undef)]) ?_ ?_)
    ·exact .gU (.lg rfl)
    rintro _ ar rfl
    exact .uc (.qb d (.lg ⟨_,rfl⟩))
   rintro _ av ⟨a5,rfl⟩
   refine .uc (.uc (.bQ ?_ ?_))
   ·exact .ex (q _ _ _ _ _)
   refine .st (aF ..) (.st (v:=[bx [(im (g.map aq) false),(im (b.map au) false)]]) (dB r8 An) (.cT r8 ?_))
   exact ih _
  exact .ex (x1 _ _ _ _)
def O8 (n:Nat) (a:bh):Option Int:=
 bif (decide (4096<((a.Queue.length:Int)))) then (some 60) else ((lj n a.Queue a.Apart (n+8) 0).bind fun PD=>match PD with | (Sum.inl b)=>some b | (Sum.inr _)=>(jk n 0 a.Queue a.Apart (n+8) 0).bind fun c=>match c with | (Sum.inl d)=>some d | (Sum.inr _)=>some 0)
theorem V5 (C:OT) (n:Nat) (b:Ax C) (c:Ay C) (a:bh):TJ C n 61 [(ag [(im (a.Queue.map aq) false),(im (a.Apart.map au) false)])] (O8 n a) (fun y=>(iA y)):=by
 refine .lp (WZ ..) ?_
 unfold O8
 refine .s ((pt 0 0),[bx [(im (a.Queue.map aq) false),(im (a.Apart.map au) false)]]) (.s2 (im (a.Queue.map aq) false) (.st (dn (e:=68)) (.st (cC ..) (.bQ ?_ ?_))))
 ·exact .lv rfl
 refine .as (Ds C n _ _ _ _ b a.Queue a.Apart ?_ ?_ _ 0)
 ·intro d f g w49
  exact .un rfl (.lv rfl)
 ·intro h
  refine .un rfl (.cT r8 (.as (Dt C n _ _ _ _ c 0 a.Queue a.Apart ?_ ?_ _ 0)))
  ·intro i j k w525 w526
   exact .un rfl (.lv rfl)
  ·intro l o p w530
   exact .un rfl (.cT r8 (.lv rfl))
def Lk (a:bh):Option Int:=O8 aA a
def CQ (C:OT):Prop:=∀ (a:bh),C 61 [(ag [(im (a.Queue.map aq) false),(im (a.Apart.map au) false)])]=(Lk a).map fun y=>(iA y)
def Pp (n:Nat) (a:bL) (b:Int):Option Bool:=
 (Cj a.No 0 1048576).bind fun c=>(bif c then ((Cj a.Role 0 (wr .i64 (b - 1))).bind fun d=>some d) else (some false)).bind fun e=>(bif e then ((Cj a.Bar 0 4095).bind fun f=>some f) else (some false)).bind fun g=>(bif g then ((Cj a.Program 1 8).bind fun h=>some h) else (some false)).bind fun i=>some i
theorem Wl (C:OT) (n:Nat) (b:ug C) (a:bL) (c:Int):TJ C n 88 [(ag (aI a)),(iA c)] (Pp n a c) (fun y=>(bA y)):=by
 refine .lp (Xk ..) ?_
 unfold Pp
 refine .s ((pt 0 0),[bx (aI a)]) (.s2 (iA a.No) (.bd (b a.No 0 1048576) fun q=>.bg (fun t (y:Bool)=>∃ d e f g h:A,t=[(bA y),d,e,f,g,h]) ?_ ?_))
 ·refine .bi ?_ ?_
  ·exact .s (pt 0 1) (.s (iA a.Role) (.st (dh ..) (.bd (b a.Role 0 (wr .i64 (c - 1))) fun r=>.lg ⟨_,_,_,_,_,rfl⟩)))
  exact .lg ⟨_,_,_,_,_,rfl⟩
 rintro _ u ⟨d,e,f,g,h,rfl⟩
 refine .u4 (.uc (.uc (.bg (fun t (y:Bool)=>∃ i j k:A,t=[(bA y),i,j,k]) ?_ ?_)))
 ·refine .bi ?_ ?_
  ·exact .s (pt 0 2) (.s (iA a.Bar) (.bd (b a.Bar 0 4095) fun v=>.lg ⟨_,_,_,rfl⟩))
  exact .lg ⟨_,_,_,rfl⟩
 rintro _ w ⟨i,j,k,rfl⟩
 refine .u4 (.bg (fun t (y:Bool)=>∃ l o p:A,t=[(bA y),l,o,p]) ?_ ?_)
 ·refine .bi ?_ ?_
  ·exact .s (pt 0 3) (.s (iA a.Program) (.bd (b a.Program 1 8) fun x=>.lg ⟨_,_,_,rfl⟩))
  exact .lg ⟨_,_,_,rfl⟩
 rintro _ z ⟨l,o,p,rfl⟩
 exact .u4 (.lv rfl)
def Lp (a:bL) (b:Int):Option Bool:=Pp aA a b
def Az (C:OT):Prop:=∀ (a:bL) (b:Int),C 88 [(ag (aI a)),(iA b)]=(Lp a b).map fun y=>(bA y)
end Go.Proofs.YtebkhfhcipnfgaaGreat
