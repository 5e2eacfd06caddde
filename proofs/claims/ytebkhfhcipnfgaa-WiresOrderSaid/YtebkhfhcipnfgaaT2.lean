/-
 The program's functions as plain functions: by a tool; each follows the interpreter.
-/
import Derived.Test.YtebkhfhcipnfgaaT1
namespace Go.Proofs.Ytebkhfhcipnfgaa
open Go.Proofs.Try (prog)
set_option linter.unusedVariables false
set_option linter.unusedSimpArgs false
set_option maxHeartbeats 4000000
set_option maxRecDepth 100000
set_option linter.defProp false
variable (C:Nat->List A->Option A) (n:Nat) {ρ γ:Type} {φ:ρ->γ->Prop} {kL:R->Option ρ} (kx kg:Nat->St->Option R) (kr:St->Option R) (kp:A->St->Option R)
def pM (a:Int) (b:Int) (c:ByteArray) (d:(List ah)):aD:=bx [(iA a),(iA b),(sA c),(bU 3 0 d.length false)]
def iv (n:Nat) (c:Int) (b:aH) (e:Int) (f:Int) (g:ByteArray):Nat->Int->(List ah)->Option ((List ah))
 | 0,_,_=>none
 | m+1,a,d=>bif (decide (a<c)) then (bif decide (a=0) then ((cF 56 d ([(ah.mk 1 b.kind iM ([]))])).bind fun h=>iv n c b e f g m (wr .i64 (a+1)) h) else bif decide (a=1) then ((cF 56 d ([(ah.mk 1 b.cue.No iM ([]))])).bind fun i=>iv n c b e f g m (wr .i64 (a+1)) i) else bif decide (a=2) then ((cF 56 d ([(ah.mk 1 b.cue.Role iM ([]))])).bind fun j=>iv n c b e f g m (wr .i64 (a+1)) j) else bif decide (a=3) then ((cF 56 d ([(ah.mk 1 b.cue.Bar iM ([]))])).bind fun k=>iv n c b e f g m (wr .i64 (a+1)) k) else bif decide (a=4) then ((cF 56 d ([(ah.mk 1 b.cue.Program iM ([]))])).bind fun l=>iv n c b e f g m (wr .i64 (a+1)) l) else none) else (some d)
theorem BB {w95:A} (k:Int) (a:aH) (d:Int) (e:Int) (h:ByteArray) {K:((List ah))->Option γ} (u:∀ (i:(List ah)) (s2:A) (w:A) (x:A) (z:A) (q0:aD) (q2:aD),J φ (kx 0 (St.mk [(2,s2),(3,(pt 1 0)),(9,w),(10,x),(11,z)] [q0,bx [(iA d),(iA e),(sA h),(bU 3 0 i.length false)],q2,aD.row false 4 (i.map ak)])) kL (K i) some) :
  ∀ (m:Nat) (j:Int) (c:(List ah)),J φ (aI (cx C) (ec C n 8) (ey C n 8) (n+8) 26 0 0 4 kx kg kr kp m (St.mk [(2,w95),(3,(pt 1 0)),(9,(bU 2 0 5 false)),(10,(iA k)),(11,(iA j))] [bx (aj a),(pM d e h c),aD.row true 1 [[(pt 0 0)],[(pt 0 1)],[(pt 0 2)],[(pt 0 3)],[(pt 0 4)],[(pt 0 0)],[(pt 0 5)],[(pt 0 6)],[(pt 0 7)]],aD.row false 4 (c.map ak)])) kL (iv n k a d e h m j c) K:=by
  refine nI (fun _ _=>.nn) fun m ih j c=>.lp (Gi ..) ?_
  unfold iv
  refine .st (bj ..) (.cd ?_ ?_)
  ·refine .sp (fun a0=>?_) (fun _=>?_)
   ·refine .st (v:=(A.ep 2 0 0)) (by rw[SF a0]; kernel_rfl) (.s (pt 0 0) (.s2 (bU 3 0 c.length false) (.s (pt 0 0) (.s (iA a.kind) (.s (ag [(iA 1),(iA a.kind),se,Sv]) (.s (im [[(iA 1),(iA a.kind),se,(im [] false)]] true) (.bd (g:=fun (y:List ah)=>((bU 3 0 y.length false),[bx (aj a),(pM d e h c),aD.row true 1 [[(pt 0 0)],[(pt 0 1)],[(pt 0 2)],[(pt 0 3)],[(pt 0 4)],[(pt 0 0)],[(pt 0 5)],[(pt 0 6)],[(pt 0 7)]],aD.row false 4 (y.map ak)])) (cA eo (l:=c) (l2:=[(ah.mk 1 a.kind iM ([]))]) (b:=3) rfl (by decide) (gI (f:=ak) (l:=([(ah.mk 1 a.kind iM ([]))]:List ah)) H7)) fun o=>.s (pt 1 3) (.sh (.st (aF ..) (.s [bx (aj a),bx [(iA d),(iA e),(sA h),(bU 3 0 o.length false)],aD.row true 1 [[(pt 0 0)],[(pt 0 1)],[(pt 0 2)],[(pt 0 3)],[(pt 0 4)],[(pt 0 0)],[(pt 0 5)],[(pt 0 6)],[(pt 0 7)]],aD.row false 4 (o.map ak)] (.cT r7 ?_)))))))))))
    exact ih _ _
   refine .sp (fun a1=>?_) (fun _=>?_)
   ·refine .st (v:=(A.ep 2 1 0)) (by rw[SF a1]; kernel_rfl) (.s (pt 0 1) (.s2 (bU 3 0 c.length false) (.s (pt 0 1) (.s (iA a.cue.No) (.s (ag [(iA 1),(iA a.cue.No),se,Sv]) (.s (im [[(iA 1),(iA a.cue.No),se,(im [] false)]] true) (.bd (g:=fun (y:List ah)=>((bU 3 0 y.length false),[bx (aj a),(pM d e h c),aD.row true 1 [[(pt 0 0)],[(pt 0 1)],[(pt 0 2)],[(pt 0 3)],[(pt 0 4)],[(pt 0 0)],[(pt 0 5)],[(pt 0 6)],[(pt 0 7)]],aD.row false 4 (y.map ak)])) (cA eo (l:=c) (l2:=[(ah.mk 1 a.cue.No iM ([]))]) (b:=3) rfl (by decide) (gI (f:=ak) (l:=([(ah.mk 1 a.cue.No iM ([]))]:List ah)) H7)) fun p=>.s (pt 1 3) (.sh (.st (aF ..) (.s [bx (aj a),bx [(iA d),(iA e),(sA h),(bU 3 0 p.length false)],aD.row true 1 [[(pt 0 0)],[(pt 0 1)],[(pt 0 2)],[(pt 0 3)],[(pt 0 4)],[(pt 0 0)],[(pt 0 5)],[(pt 0 6)],[(pt 0 7)]],aD.row false 4 (p.map ak)] (.cT r7 ?_)))))))))))
    exact ih _ _
   refine .sp (fun a2=>?_) (fun _=>?_)
   ·refine .st (v:=(A.ep 2 2 0)) (by rw[SF a2]; kernel_rfl) (.s (pt 0 2) (.s2 (bU 3 0 c.length false) (.s (pt 0 2) (.s (iA a.cue.Role) (.s (ag [(iA 1),(iA a.cue.Role),se,Sv]) (.s (im [[(iA 1),(iA a.cue.Role),se,(im [] false)]] true) (.bd (g:=fun (y:List ah)=>((bU 3 0 y.length false),[bx (aj a),(pM d e h c),aD.row true 1 [[(pt 0 0)],[(pt 0 1)],[(pt 0 2)],[(pt 0 3)],[(pt 0 4)],[(pt 0 0)],[(pt 0 5)],[(pt 0 6)],[(pt 0 7)]],aD.row false 4 (y.map ak)])) (cA eo (l:=c) (l2:=[(ah.mk 1 a.cue.Role iM ([]))]) (b:=3) rfl (by decide) (gI (f:=ak) (l:=([(ah.mk 1 a.cue.Role iM ([]))]:List ah)) H7)) fun q=>.s (pt 1 3) (.sh (.st (aF ..) (.s [bx (aj a),bx [(iA d),(iA e),(sA h),(bU 3 0 q.length false)],aD.row true 1 [[(pt 0 0)],[(pt 0 1)],[(pt 0 2)],[(pt 0 3)],[(pt 0 4)],[(pt 0 0)],[(pt 0 5)],[(pt 0 6)],[(pt 0 7)]],aD.row false 4 (q.map ak)] (.cT r7 ?_)))))))))))
    exact ih _ _
   refine .sp (fun a3=>?_) (fun _=>?_)
   ·refine .st (v:=(A.ep 2 3 0)) (by rw[SF a3]; kernel_rfl) (.s (pt 0 3) (.s2 (bU 3 0 c.length false) (.s (pt 0 3) (.s (iA a.cue.Bar) (.s (ag [(iA 1),(iA a.cue.Bar),se,Sv]) (.s (im [[(iA 1),(iA a.cue.Bar),se,(im [] false)]] true) (.bd (g:=fun (y:List ah)=>((bU 3 0 y.length false),[bx (aj a),(pM d e h c),aD.row true 1 [[(pt 0 0)],[(pt 0 1)],[(pt 0 2)],[(pt 0 3)],[(pt 0 4)],[(pt 0 0)],[(pt 0 5)],[(pt 0 6)],[(pt 0 7)]],aD.row false 4 (y.map ak)])) (cA eo (l:=c) (l2:=[(ah.mk 1 a.cue.Bar iM ([]))]) (b:=3) rfl (by decide) (gI (f:=ak) (l:=([(ah.mk 1 a.cue.Bar iM ([]))]:List ah)) H7)) fun r=>.s (pt 1 3) (.sh (.st (aF ..) (.s [bx (aj a),bx [(iA d),(iA e),(sA h),(bU 3 0 r.length false)],aD.row true 1 [[(pt 0 0)],[(pt 0 1)],[(pt 0 2)],[(pt 0 3)],[(pt 0 4)],[(pt 0 0)],[(pt 0 5)],[(pt 0 6)],[(pt 0 7)]],aD.row false 4 (r.map ak)] (.cT r7 ?_)))))))))))
    exact ih _ _
   refine .sp (fun a4=>?_) (fun _=>?_)
   ·refine .st (v:=(A.ep 2 4 0)) (by rw[SF a4]; kernel_rfl) (.s (pt 0 4) (.s2 (bU 3 0 c.length false) (.s (pt 0 4) (.s (iA a.cue.Program) (.s (ag [(iA 1),(iA a.cue.Program),se,Sv]) (.s (im [[(iA 1),(iA a.cue.Program),se,(im [] false)]] true) (.bd (g:=fun (y:List ah)=>((bU 3 0 y.length false),[bx (aj a),(pM d e h c),aD.row true 1 [[(pt 0 0)],[(pt 0 1)],[(pt 0 2)],[(pt 0 3)],[(pt 0 4)],[(pt 0 0)],[(pt 0 5)],[(pt 0 6)],[(pt 0 7)]],aD.row false 4 (y.map ak)])) (cA eo (l:=c) (l2:=[(ah.mk 1 a.cue.Program iM ([]))]) (b:=3) rfl (by decide) (gI (f:=ak) (l:=([(ah.mk 1 a.cue.Program iM ([]))]:List ah)) H7)) fun t=>.s (pt 1 3) (.sh (.st (aF ..) (.s [bx (aj a),bx [(iA d),(iA e),(sA h),(bU 3 0 t.length false)],aD.row true 1 [[(pt 0 0)],[(pt 0 1)],[(pt 0 2)],[(pt 0 3)],[(pt 0 4)],[(pt 0 0)],[(pt 0 5)],[(pt 0 6)],[(pt 0 7)]],aD.row false 4 (t.map ak)] (.cT r7 ?_)))))))))))
    exact ih _ _
   exact .nn
  exact .ex (u _ _ _ _ _ _ _)
def gW (n:Nat) (c:Int) (b:aH) (e:Int) (f:Int) (g:ByteArray):Nat->Int->(List ah)->Option ((List ah))
 | 0,_,_=>none
 | m+1,a,d=>bif (decide (a<c)) then (bif decide (a=0) then ((cF 56 d ([(ah.mk 1 b.kind iM ([]))])).bind fun h=>gW n c b e f g m (wr .i64 (a+1)) h) else bif decide (a=1) then ((cF 56 d ([(ah.mk 1 b.report.Role iM ([]))])).bind fun i=>gW n c b e f g m (wr .i64 (a+1)) i) else bif decide (a=2) then ((cF 56 d ([(ah.mk 1 b.report.Bar iM ([]))])).bind fun j=>gW n c b e f g m (wr .i64 (a+1)) j) else bif decide (a=3) then ((cF 56 d ([(ah.mk 1 b.report.Program iM ([]))])).bind fun k=>gW n c b e f g m (wr .i64 (a+1)) k) else none) else (some d)
theorem Ao {w213:A} (k:Int) (a:aH) (d:Int) (e:Int) (h:ByteArray) {K:((List ah))->Option γ} (t:∀ (i:(List ah)) (s2:A) (u:A) (w:A) (x:A) (q0:aD) (q2:aD),J φ (kx 0 (St.mk [(2,s2),(3,(pt 1 0)),(9,u),(10,w),(11,x)] [q0,bx [(iA d),(iA e),(sA h),(bU 3 0 i.length false)],q2,aD.row false 4 (i.map ak)])) kL (K i) some) :
  ∀ (m:Nat) (j:Int) (c:(List ah)),J φ (aI (cx C) (ec C n 8) (ey C n 8) (n+8) 26 0 0 4 kx kg kr kp m (St.mk [(2,w213),(3,(pt 1 0)),(9,(bU 2 5 4 true)),(10,(iA k)),(11,(iA j))] [bx (aj a),bx [(iA d),(iA e),(sA h),(bU 3 0 c.length false)],aD.row true 1 [[(pt 0 0)],[(pt 0 1)],[(pt 0 2)],[(pt 0 3)],[(pt 0 4)],[(pt 0 0)],[(pt 0 5)],[(pt 0 6)],[(pt 0 7)]],aD.row false 4 (c.map ak)])) kL (gW n k a d e h m j c) K:=by
  refine nI (fun _ _=>.nn) fun m ih j c=>.lp (Gi ..) ?_
  unfold gW
  refine .st (bj ..) (.cd ?_ ?_)
  ·refine .sp (fun z=>?_) (fun _=>?_)
   ·refine .st (v:=(A.ep 2 5 0)) (by rw[SF z]; kernel_rfl) (.s (pt 0 0) (.s2 (bU 3 0 c.length false) (.s (pt 0 0) (.s (iA a.kind) (.s (ag [(iA 1),(iA a.kind),se,Sv]) (.s (im [[(iA 1),(iA a.kind),se,(im [] false)]] true) (.bd (g:=fun (y:List ah)=>((bU 3 0 y.length false),[bx (aj a),bx [(iA d),(iA e),(sA h),(bU 3 0 c.length false)],aD.row true 1 [[(pt 0 0)],[(pt 0 1)],[(pt 0 2)],[(pt 0 3)],[(pt 0 4)],[(pt 0 0)],[(pt 0 5)],[(pt 0 6)],[(pt 0 7)]],aD.row false 4 (y.map ak)])) (cA eo (l:=c) (l2:=[(ah.mk 1 a.kind iM ([]))]) (b:=3) rfl (by decide) (gI (f:=ak) (l:=([(ah.mk 1 a.kind iM ([]))]:List ah)) H7)) fun o=>.s (pt 1 3) (.sh (.st (aF ..) (.s [bx (aj a),bx [(iA d),(iA e),(sA h),(bU 3 0 o.length false)],aD.row true 1 [[(pt 0 0)],[(pt 0 1)],[(pt 0 2)],[(pt 0 3)],[(pt 0 4)],[(pt 0 0)],[(pt 0 5)],[(pt 0 6)],[(pt 0 7)]],aD.row false 4 (o.map ak)] (.cT r7 ?_)))))))))))
    exact ih _ _
   refine .sp (fun a0=>?_) (fun _=>?_)
   ·refine .st (v:=(A.ep 2 6 0)) (by rw[SF a0]; kernel_rfl) (.s (pt 0 5) (.s2 (bU 3 0 c.length false) (.s (pt 0 5) (.s (iA a.report.Role) (.s (ag [(iA 1),(iA a.report.Role),se,Sv]) (.s (im [[(iA 1),(iA a.report.Role),se,(im [] false)]] true) (.bd (g:=fun (y:List ah)=>((bU 3 0 y.length false),[bx (aj a),bx [(iA d),(iA e),(sA h),(bU 3 0 c.length false)],aD.row true 1 [[(pt 0 0)],[(pt 0 1)],[(pt 0 2)],[(pt 0 3)],[(pt 0 4)],[(pt 0 0)],[(pt 0 5)],[(pt 0 6)],[(pt 0 7)]],aD.row false 4 (y.map ak)])) (cA eo (l:=c) (l2:=[(ah.mk 1 a.report.Role iM ([]))]) (b:=3) rfl (by decide) (gI (f:=ak) (l:=([(ah.mk 1 a.report.Role iM ([]))]:List ah)) H7)) fun p=>.s (pt 1 3) (.sh (.st (aF ..) (.s [bx (aj a),bx [(iA d),(iA e),(sA h),(bU 3 0 p.length false)],aD.row true 1 [[(pt 0 0)],[(pt 0 1)],[(pt 0 2)],[(pt 0 3)],[(pt 0 4)],[(pt 0 0)],[(pt 0 5)],[(pt 0 6)],[(pt 0 7)]],aD.row false 4 (p.map ak)] (.cT r7 ?_)))))))))))
    exact ih _ _
   refine .sp (fun a1=>?_) (fun _=>?_)
   ·refine .st (v:=(A.ep 2 7 0)) (by rw[SF a1]; kernel_rfl) (.s (pt 0 6) (.s2 (bU 3 0 c.length false) (.s (pt 0 6) (.s (iA a.report.Bar) (.s (ag [(iA 1),(iA a.report.Bar),se,Sv]) (.s (im [[(iA 1),(iA a.report.Bar),se,(im [] false)]] true) (.bd (g:=fun (y:List ah)=>((bU 3 0 y.length false),[bx (aj a),bx [(iA d),(iA e),(sA h),(bU 3 0 c.length false)],aD.row true 1 [[(pt 0 0)],[(pt 0 1)],[(pt 0 2)],[(pt 0 3)],[(pt 0 4)],[(pt 0 0)],[(pt 0 5)],[(pt 0 6)],[(pt 0 7)]],aD.row false 4 (y.map ak)])) (cA eo (l:=c) (l2:=[(ah.mk 1 a.report.Bar iM ([]))]) (b:=3) rfl (by decide) (gI (f:=ak) (l:=([(ah.mk 1 a.report.Bar iM ([]))]:List ah)) H7)) fun q=>.s (pt 1 3) (.sh (.st (aF ..) (.s [bx (aj a),bx [(iA d),(iA e),(sA h),(bU 3 0 q.length false)],aD.row true 1 [[(pt 0 0)],[(pt 0 1)],[(pt 0 2)],[(pt 0 3)],[(pt 0 4)],[(pt 0 0)],[(pt 0 5)],[(pt 0 6)],[(pt 0 7)]],aD.row false 4 (q.map ak)] (.cT r7 ?_)))))))))))
    exact ih _ _
   refine .sp (fun a2=>?_) (fun _=>?_)
   ·refine .st (v:=(A.ep 2 8 0)) (by rw[SF a2]; kernel_rfl) (.s (pt 0 7) (.s2 (bU 3 0 c.length false) (.s (pt 0 7) (.s (iA a.report.Program) (.s (ag [(iA 1),(iA a.report.Program),se,Sv]) (.s (im [[(iA 1),(iA a.report.Program),se,(im [] false)]] true) (.bd (g:=fun (y:List ah)=>((bU 3 0 y.length false),[bx (aj a),bx [(iA d),(iA e),(sA h),(bU 3 0 c.length false)],aD.row true 1 [[(pt 0 0)],[(pt 0 1)],[(pt 0 2)],[(pt 0 3)],[(pt 0 4)],[(pt 0 0)],[(pt 0 5)],[(pt 0 6)],[(pt 0 7)]],aD.row false 4 (y.map ak)])) (cA eo (l:=c) (l2:=[(ah.mk 1 a.report.Program iM ([]))]) (b:=3) rfl (by decide) (gI (f:=ak) (l:=([(ah.mk 1 a.report.Program iM ([]))]:List ah)) H7)) fun r=>.s (pt 1 3) (.sh (.st (aF ..) (.s [bx (aj a),bx [(iA d),(iA e),(sA h),(bU 3 0 r.length false)],aD.row true 1 [[(pt 0 0)],[(pt 0 1)],[(pt 0 2)],[(pt 0 3)],[(pt 0 4)],[(pt 0 0)],[(pt 0 5)],[(pt 0 6)],[(pt 0 7)]],aD.row false 4 (r.map ak)] (.cT r7 ?_)))))))))))
    exact ih _ _
   exact .nn
  exact .ex (t _ _ _ _ _ _ _)
def Mu (n:Nat) (a:aH):Option (List UInt8):=
 bif (a.kind==1) then ((iv n 5 a 3 0 iM (n+8) 0 (([]:List ah))).bind fun b=>match b with | c=>(Lt ((ah.mk 3 0 iM c))).bind fun d=>some d.1) else ((gW n 4 a 3 0 iM (n+8) 0 (([]:List ah))).bind fun e=>match e with | f=>(Lt ((ah.mk 3 0 iM f))).bind fun g=>some g.1)
theorem QE (C:OT) (n:Nat) (e:FT C) (d:aH):TJ C n 26 [(ag (aj d))] (Mu n d) (fun y=>(im (y.map c8) false)):=by
 refine .lp (Rh ..) ?_
 unfold Mu
 refine .s ((pt 0 0),[bx (aj d)]) (.s (ag [(iA 3),(iA 0),se,Sv]) (.sq (pt 1 0) (.sh (.cl ((aK GA).trans (Pe ..)) (.s (pt 0 0) (.s (pt 0 0) (.s (pt 0 0) (.s (pt 0 1) (.s (pt 0 1) (.s (pt 0 0) (.s (pt 0 1) (.s (pt 0 2) (.s (pt 0 0) (.s (pt 0 1) (.s (pt 0 3) (.s (pt 0 0) (.s (pt 0 1) (.s (pt 0 4) (.s (pt 0 0) (.s (pt 0 0) (.s (pt 0 0) (.s (pt 0 5) (.s (pt 0 5) ?_)))))))))))))))))))))))
 refine .s (pt 0 0) (.s (pt 0 5) (.s (pt 0 6) (.s (pt 0 0) (.s (pt 0 5) (.s (pt 0 7) (.s (ag [(pt 0 0),(pt 0 1),(pt 0 2),(pt 0 3),(pt 0 4),(pt 0 0),(pt 0 5),(pt 0 6),(pt 0 7)]) (.cT r7 (.sq (A.ep 2 0 0) (.s [bx (aj d),bx [(iA 3),(iA 0),se,Sv],aD.row true 1 [[(pt 0 0)],[(pt 0 1)],[(pt 0 2)],[(pt 0 3)],[(pt 0 4)],[(pt 0 0)],[(pt 0 5)],[(pt 0 6)],[(pt 0 7)]]] (.s (pt 0 0) (.s2 (iA d.kind) (.st (aV ..) (.cd ?_ ?_)))))))))))))
 ·refine .s (bU 2 0 5 false) (.cr (.ok (.s (iA 5) (.as (BB C n _ _ _ _ 5 d 3 0 iM ?_ _ 0 (([]:List ah)))))))
  ·intro a i j k o w120 w121
   exact .un rfl (.cT r7 (.s (ag [(iA 3),(iA 0),se,(bU 3 0 a.length false)]) (.bd (g:=fun (y:((List UInt8)×Int))=>(tp [(im (y.1.map c8) false),(iA y.2)])) (by show C 58 [snap [w120,bx [(iA 3),(iA 0),se,(bU 3 0 a.length false)],w121,aD.row false 4 (a.map ak)] (ag [(iA 3),(iA 0),se,(bU 3 0 a.length false)])]=_; simp only[cD,dL,ng (H:=[w120,bx [(iA 3),(iA 0),se,(bU 3 0 a.length false)],w121,aD.row false 4 (a.map ak)]) (b:=3) (es:=4) (l:=a) cq rfl]; exact e ((ah.mk 3 0 iM a))) fun f=>.s (im (f.1.map c8) false) (.s (iA f.2) (.lv s0)))))
 refine .s (bU 2 5 4 true) (.cr (.ok (.s (iA 4) (.as (Ao C n _ _ _ _ 4 d 3 0 iM ?_ _ 0 (([]:List ah)))))))
 ·intro c p q r t w236 w237
  exact .un rfl (.cT r7 (.s (ag [(iA 3),(iA 0),se,(bU 3 0 c.length false)]) (.bd (g:=fun (y:((List UInt8)×Int))=>(tp [(im (y.1.map c8) false),(iA y.2)])) (by show C 58 [snap [w236,bx [(iA 3),(iA 0),se,(bU 3 0 c.length false)],w237,aD.row false 4 (c.map ak)] (ag [(iA 3),(iA 0),se,(bU 3 0 c.length false)])]=_; simp only[cD,dL,ng (H:=[w236,bx [(iA 3),(iA 0),se,(bU 3 0 c.length false)],w237,aD.row false 4 (c.map ak)]) (b:=3) (es:=4) (l:=c) cq rfl]; exact e ((ah.mk 3 0 iM c))) fun h=>.s (im (h.1.map c8) false) (.s (iA h.2) (.lv s0)))))
def MA (a:aH):Option (List UInt8):=Mu az a
def FN (C:OT):Prop:=∀ (a:aH),C 26 [(ag (aj a))]=(MA a).map fun y=>(im (y.map c8) false)
def mH (a:(List aw)) (b:aM):aD:=bx [(bU 3 0 a.length false),(im (b.Apart.map ai) false)]
def eU (a:aM):aD:=bx [(im (a.Queue.map af) false),(im (a.Apart.map ai) false)]
def Mt (n:Nat) (a:aM) (b:aw):Option (aM×Int):=
 (GR a).bind fun c=>(bif (c != 0) then (some true) else ((Iq b).bind fun d=>some (!d))).bind fun e=>bif e then (some (((aM.mk ([]) ([])),60))) else (bif (((a.Queue.length:Int))==4096) then (some (((aM.mk ([]) ([])),2))) else ((gD a.Queue 0 ((a.Queue.length:Int))).bind fun f=>(cF 40 f ([b])).bind fun g=>some (((aM.mk g a.Apart),0))))
theorem QD (C:OT) (n:Nat) (o:zl C) (p:Br C) (c:aM) (d:aw):TJ C n 25 [(ag [(im (c.Queue.map af) false),(im (c.Apart.map ai) false)]),(ag (af d))] (Mt n c d) (fun y=>(tp [(ag [(im (y.1.Queue.map af) false),(im (y.1.Apart.map ai) false)]),(iA y.2)])):=by
 refine .lp (Rg ..) ?_
 unfold Mt
 refine .s ((pt 0 0),[(eU c)]) (.s ((pt 1 0),[(eU c),bx (af d)]) (.s ((pt 2 0),[(eU c),bx (af d),bx [Sv,Sv]]) (.s (ag [(im (c.Queue.map af) false),(im (c.Apart.map ai) false)]) (.bd (g:=fun (y:Int)=>(iA y)) (by simp only[cD,dL]; exact o c) fun u=>.st (aC ..) (.bg (fun t (y:Bool)=>∃ i j k:A,t=[(bA y),i,j,k]) ?_ ?_)))))
 ·refine .bi ?_ ?_
  ·exact .lg ⟨_,_,_,rfl⟩
  exact .s (ag (af d)) (.bd (g:=fun (y:Bool)=>(bA y)) (by simp only[cD,dL]; exact p d) fun q=>.s (bA (!q)) (.lg ⟨_,_,_,rfl⟩))
 rintro _ v ⟨i,j,k,rfl⟩
 refine .u4 (.cd ?_ ?_)
 ·exact .s (ag [Sv,Sv]) (.s [(eU c),bx (af d),bx [Sv,Sv]] (.s (ag [Sv,Sv]) (.lv s0)))
 refine .s2 (im (c.Queue.map af) false) (.st (eE (e:=48)) (.st (aV ..) (.cd ?_ ?_)))
 ·exact .s (ag [Sv,Sv]) (.s [(eU c),bx (af d),bx [Sv,Sv]] (.s (ag [Sv,Sv]) (.lv s0)))
 exact .s2 (im (c.Queue.map af) false) (.s2 (im (c.Queue.map af) false) (.st (eE (e:=48)) (.s2 (im (c.Queue.map af) false) (.st (eE (e:=48)) (.bd (mo (e:=48) (es:=3) (f:=af) (l:=c.Queue) (a:=0) (b:=(c.Queue.length:Int)) r7 r7 (fun _=>rfl) (.inl ⟨rfl,rfl⟩)) fun r=>.s (ag (af d)) (.s (im [[(iA d.From),(iA d.To),(im (d.Data.map c8) false)]] true) (.bd (g:=fun (y:List aw)=>((bU 3 0 y.length false),[(eU c),bx (af d),bx [Sv,Sv],aD.row false 3 (y.map af)])) (k9 zw (l:=r) (l2:=[d]) (bz (f:=af) ([d]:List aw) _ _)) fun h=>.s (pt 0 0) (.sh (.s (ag [(bU 3 0 h.length false),(im (c.Apart.map ai) false)]) (.s [(mH h c),bx (af d),(mH h c),aD.row false 3 (h.map af)] (.s (ag [(bU 3 0 h.length false),(im (c.Apart.map ai) false)]) (.lv (by show br [(mH h c),bx (af d),(mH h c),aD.row false 3 (h.map af)] (tp [(ag [(bU 3 0 h.length false),(im (c.Apart.map ai) false)]),(iA 0)])=_; first | (simp only[cD,dL,br,bS (H:=[(mH h c),bx (af d),(mH h c),aD.row false 3 (h.map af)]) (b:=3) (es:=3) (wr:=false) (l:=h) b8 rfl]; done) | (simp only[cD,jQ,br,bS (H:=[(mH h c),bx (af d),(mH h c),aD.row false 3 (h.map af)]) (b:=3) (es:=3) (wr:=false) (l:=h) b8 rfl]; first | done | rfl))))))))))))))
def Mz (a:aM) (b:aw):Option (aM×Int):=Mt az a b
def FM (C:OT):Prop:=∀ (a:aM) (b:aw),C 25 [(ag [(im (a.Queue.map af) false),(im (a.Apart.map ai) false)]),(ag (af b))]=(Mz a b).map fun y=>(tp [(ag [(im (y.1.Queue.map af) false),(im (y.1.Apart.map ai) false)]),(iA y.2)])
abbrev tW:A:=(ag [Sv,Sv,Sv,(iA 0)])
def F9 (n:Nat) (a:aq) (b:aO):Option (aq×Int):=
 (D2 a).bind fun d=>bif (d != 0) then (some (((aq.mk ((aM.mk ([]) ([]))) ([]) 0),d))) else ((GQ b ((a.Ears.length:Int))).bind fun e=>bif (!e) then (some (((aq.mk ((aM.mk ([]) ([]))) ([]) 0),1))) else ((MA ((aH.mk 1 b ((ba.mk 0 0 0))))).bind fun f=>(Mz a.Net ((aw.mk 0 (wr .i64 (b.Role+1)) f))).bind fun c=>bif (c.2 != 0) then (some (((aq.mk ((aM.mk ([]) ([]))) ([]) 0),c.2))) else (some (((aq.mk c.1 a.Ears a.Bar),0)))))
theorem T9 (C:OT) (n:Nat) (f:vT C) (h:tr C) (i:FM C) (j:FN C) (a:aq) (c:aO):TJ C n 9 [(ag (aa a)),(ag (au c))] (F9 n a c) (fun y=>(tp [(ag (aa y.1)),(iA y.2)])):=by
 refine .lp (e9 ..) ?_
 unfold F9
 refine .s ((pt 0 0),[bx (aa a)]) (.sq (pt 1 0) (.s ((pt 2 0),[bx (aa a),bx (au c),bx [Sv,Sv,Sv,(iA 0)]]) (.s (ag (aa a)) (.bd (g:=fun (y:Int)=>(iA y)) (by simp only[cD,dL]; exact f a) fun l=>.st (aC ..) (.cd ?_ ?_)))))
 ·exact .s tW (.s [bx (aa a),bx (au c),bx [Sv,Sv,Sv,(iA 0)]] (.s tW (.lv s0)))
 refine .s (ag (au c)) (.s2 (im (a.Ears.map av) false) (.st (eE (e:=55)) (.bd (h c ((a.Ears.length:Int))) fun k=>.s (bA (!k)) (.cd ?_ ?_))))
 ·exact .s tW (.s [bx (aa a),bx (au c),bx [Sv,Sv,Sv,(iA 0)]] (.s tW (.lv s0)))
 refine .s (pt 0 0) (.s (ag [(im (a.Net.Queue.map af) false),(im (a.Net.Apart.map ai) false)]) (.s (pt 1 1) (.s (iA c.Role) (.st (aF ..) (.s (ag (au c)) (.s (ag ([(iA 1)]++au c++[(iA 0),(iA 0),(iA 0)])) (.bd (j ((aH.mk 1 c ((ba.mk 0 0 0))))) fun d=>.s (ag [(iA 0),(iA (wr .i64 (c.Role+1))),(im (d.map c8) false)]) (.bd (g:=fun (y:(aM×Int))=>(tp [(ag [(im (y.1.Queue.map af) false),(im (y.1.Apart.map ai) false)]),(iA y.2)])) (by simp only[cD,dL]; exact i a.Net ((aw.mk 0 (wr .i64 (c.Role+1)) d))) fun b=>.s (ag [(im (b.1.Queue.map af) false),(im (b.1.Apart.map ai) false)]) (.s (iA b.2) (.cT r7 (.sq (pt 3 0) (.s [bx (aa a),bx (au c),bx [Sv,Sv,Sv,(iA 0)],bx [(im (b.1.Queue.map af) false),(im (b.1.Apart.map ai) false)]] (.st (aC ..) (.cd ?_ ?_))))))))))))))
 ·exact .s tW (.s [bx (aa a),bx (au c),bx [Sv,Sv,Sv,(iA 0)],bx [(im (b.1.Queue.map af) false),(im (b.1.Apart.map ai) false)]] (.s tW (.lv s0)))
 exact .s (ag [(im (b.1.Queue.map af) false),(im (b.1.Apart.map ai) false)]) (.s (pt 0 0) (.sh (.s (ag [(im (b.1.Queue.map af) false),(im (b.1.Apart.map ai) false),(im (a.Ears.map av) false),(iA a.Bar)]) (.s [bx [(im (b.1.Queue.map af) false),(im (b.1.Apart.map ai) false),(im (a.Ears.map av) false),(iA a.Bar)],bx (au c),bx [(im (b.1.Queue.map af) false),(im (b.1.Apart.map ai) false),(im (a.Ears.map av) false),(iA a.Bar)],bx [(im (b.1.Queue.map af) false),(im (b.1.Apart.map ai) false)]] (.s (ag [(im (b.1.Queue.map af) false),(im (b.1.Apart.map ai) false),(im (a.Ears.map av) false),(iA a.Bar)]) (.lv s0))))))
def G9 (a:aq) (b:aO):Option (aq×Int):=F9 az a b
def I6 (C:OT):Prop:=∀ (a:aq) (b:aO),C 9 [(ag (aa a)),(ag (au b))]=(G9 a b).map fun y=>(tp [(ag (aa y.1)),(iA y.2)])
def KK:List ((aq×Int)×(aq×Int)):=[((⟨⟨[],[]⟩,[⟨[],[],[]⟩,⟨[],[],[]⟩],0⟩,0),(⟨⟨[],[]⟩,[],0⟩,1)),
 ((⟨⟨[⟨2,0,[3,4,1,4,1,2,1,0,1,0]⟩],[]⟩,[⟨[],[3],[3]⟩,⟨[],[0],[0]⟩],1⟩,0),(⟨⟨[⟨2,0,[3,4,1,4,1,2,1,0,1,0]⟩,⟨1,0,[3,4,1,4,1,0,1,0,1,6]⟩],[]⟩,[⟨[],[3],[3]⟩,⟨[],[0],[0]⟩],1⟩,0))]
def Ls (a:aq) (b:Int):Option (aq×Int):=DJ KK (a,b)
def FK (C:OT):Prop:=∀ (a:aq) (b:Int),C 21 [(ag (aa a)),(iA b)]=(Ls a b).map fun y=>(tp [(ag (aa y.1)),(iA y.2)])
def KJ:List ((aq×(List Int)×(List Int))×(aq×Int)):=[((⟨⟨[],[]⟩,[⟨[],[],[]⟩,⟨[],[],[]⟩],0⟩,[],[0,2]),(⟨⟨[],[]⟩,[],0⟩,1)),
 ((⟨⟨[⟨0,2,[3,5,1,2,1,12,1,2,1,0,1,6]⟩],[]⟩,[⟨[⟨5,0,0,3⟩],[],[]⟩,⟨[],[],[]⟩],0⟩,[],[0,1]),(⟨⟨[⟨0,2,[3,5,1,2,1,12,1,2,1,0,1,6]⟩,⟨1,0,[3,4,1,4,1,0,1,0,1,6]⟩,⟨2,0,[3,4,1,4,1,2,1,0,1,0]⟩],[]⟩,[⟨[],[3],[3]⟩,⟨[],[0],[0]⟩],1⟩,0)),
 ((⟨⟨[⟨0,2,[3,5,1,2,1,12,1,2,1,0,1,6]⟩],[]⟩,[⟨[⟨5,0,0,3⟩],[],[]⟩,⟨[],[],[]⟩],0⟩,[],[0,0]),(⟨⟨[⟨0,2,[3,5,1,2,1,12,1,2,1,0,1,6]⟩,⟨1,0,[3,4,1,4,1,0,1,0,1,0]⟩,⟨2,0,[3,4,1,4,1,2,1,0,1,0]⟩],[]⟩,[⟨[],[3],[0]⟩,⟨[],[0],[0]⟩],1⟩,0)),
 ((⟨⟨[⟨0,2,[3,5,1,2,1,12,1,2,1,0,1,6]⟩],[]⟩,[⟨[⟨5,0,0,3⟩],[],[]⟩,⟨[],[],[]⟩],0⟩,[0],[0,1]),(⟨⟨[⟨0,2,[3,5,1,2,1,12,1,2,1,0,1,6]⟩,⟨1,0,[3,4,1,4,1,0,1,0,1,0]⟩,⟨2,0,[3,4,1,4,1,2,1,0,1,0]⟩],[]⟩,[⟨[],[0],[0]⟩,⟨[],[0],[0]⟩],1⟩,0))]
def Ik (a:aq) (b:(List Int)) (a2:(List Int)):Option (aq×Int):=DJ KJ (a,b,a2)
def FJ (C:OT):Prop:=∀ (a:aq) (b:(List Int)) (a2:(List Int)),C 19 [(ag (aa a)),(im (b.map (cI .i64)) false),(im (a2.map (cI .i64)) false)]=(Ik a b a2).map fun y=>(tp [(ag (aa y.1)),(iA y.2)])
def Ll (n:Nat) (a:aM) (b:Int):Option (aw×Int):=
 (GR a).bind fun c=>bif (c != 0) then (some (((aw.mk 0 0 ([])),60))) else ((bif (decide (b<0)) then (some true) else (some (decide (((a.Queue.length:Int))<=b)))).bind fun d=>bif d then (some (((aw.mk 0 0 ([])),1))) else ((bE a.Queue b).bind fun e=>some ((e,0))))
theorem QV (C:OT) (n:Nat) (k:zl C) (a:aM) (c:Int):TJ C n 70 [(ag [(im (a.Queue.map af) false),(im (a.Apart.map ai) false)]),(iA c)] (Ll n a c) (fun y=>(tp [(ag (af y.1)),(iA y.2)])):=by
 refine .lp (RD ..) ?_
 unfold Ll
 refine .s ((pt 0 0),[(eU a)]) (.s ((pt 1 0),[(eU a),bx [(iA 0),(iA 0),Sv]]) (.s (ag [(im (a.Queue.map af) false),(im (a.Apart.map ai) false)]) (.bd (g:=fun (y:Int)=>(iA y)) (by simp only[cD,dL]; exact k a) fun l=>.st (aC ..) (.cd ?_ ?_))))
 ·exact .s (ag [(iA 0),(iA 0),Sv]) (.s [(eU a),bx [(iA 0),(iA 0),Sv]] (.s (ag [(iA 0),(iA 0),Sv]) (.lv s0)))
 refine .st (bj ..) (.bg (fun t (y:Bool)=>∃ d f h i j:A,t=[(bA y),d,f,h,i,j]) ?_ ?_)
 ·refine .bi ?_ ?_
  ·exact .lg ⟨_,_,_,_,_,rfl⟩
  exact .s (pt 0 0) (.s (im (a.Queue.map af) false) (.st (eE (e:=48)) (.st (dS ..) (.lg ⟨_,_,_,_,_,rfl⟩))))
 rintro _ o ⟨d,f,h,i,j,rfl⟩
 refine .u4 (.uc (.uc (.cd ?_ ?_)))
 ·exact .s (ag [(iA 0),(iA 0),Sv]) (.s [(eU a),bx [(iA 0),(iA 0),Sv]] (.s (ag [(iA 0),(iA 0),Sv]) (.lv s0)))
 exact .s2 (im (a.Queue.map af) false) (.bd (gp (e:=48) (es:=3)) fun b=>.s (ag (af b)) (.s [(eU a),bx (af b)] (.s (ag (af b)) (.lv s0))))
def IX (a:aM) (b:Int):Option (aw×Int):=Ll az a b
def FV (C:OT):Prop:=∀ (a:aM) (b:Int),C 70 [(ag [(im (a.Queue.map af) false),(im (a.Apart.map ai) false)]),(iA b)]=(IX a b).map fun y=>(tp [(ag (af y.1)),(iA y.2)])
def jn (n:Nat) (b:(List (Int×Int))) (c:Int) (d:Int) (e:Int):Nat->Int->Option ((Int)⊕(Unit))
 | 0,_=>none
 | m+1,a=>bif (decide (a<c)) then ((bE b a).bind fun f=>bif (((d==f.1)&&(e==f.2))) then (some ((Sum.inl a))) else (jn n b c d e m (wr .i64 (a+1)))) else (some ((Sum.inr (()))))
theorem BM {w33:A} (j:(List (Int×Int))) (k:Int) (a:Int) (b:Int) {K:((Int)⊕(Unit))->Option γ} (o:∀ (l:Int) (d:A) (f:A) (g:A) (h:A) (q0:aD),J φ (kr (St.mk [(0,d),(3,f),(4,(iA l)),(7,g),(8,h)] [q0])) kL (K (Sum.inl l)) some) (p:∀ (d:A) (f:A) (q:A) (g:A) (h:A) (q0:aD),J φ (kx 0 (St.mk [(0,d),(3,f),(4,q),(7,g),(8,h)] [q0])) kL (K (Sum.inr (()))) some) :
  ∀ (m:Nat) (i:Int),J φ (aI (cx C) (ec C n 8) (ey C n 8) (n+8) 93 0 0 1 kx kg kr kp m (St.mk [(0,(im (j.map ai) false)),(3,(pt 0 0)),(4,w33),(7,(iA k)),(8,(iA i))] [bx [(iA a),(iA b)]])) kL (jn n j k a b m i) K:=by
  refine nI (fun _=>.nn) fun m ih i=>.lp (JB ..) ?_
  unfold jn
  refine .st (bj ..) (.cd ?_ ?_)
  ·refine .s (ag [(iA a),(iA b)]) (.bd (gp (e:=115) (es:=2)) fun c=>.s (ag [(iA c.1),(iA c.2)]) (.s (bA (((a==c.1)&&(b==c.2)))) (.cd ?_ ?_)))
   ·exact .ex (o _ _ _ _ _ _)
   refine .st (aF ..) (.s [bx [(iA a),(iA b)]] (.cT r7 ?_))
   exact ih _
  exact .ex (p _ _ _ _ _ _)
def Lq (n:Nat) (a:(List (Int×Int))) (b:(Int×Int)):Option Int:=
 (jn n a ((a.length:Int)) b.1 b.2 (n+8) 0).bind fun c=>match c with | (Sum.inl d)=>some d | (Sum.inr _)=>some (-1)
theorem Q3 (C:OT) (n:Nat) (b:(List (Int×Int))) (a:(Int×Int)):TJ C n 93 [(im (b.map ai) false),(ag [(iA a.1),(iA a.2)])] (Lq n b a) (fun y=>(iA y)):=by
 refine .lp (RO ..) ?_
 unfold Lq
 refine .s ((pt 0 0),[bx [(iA a.1),(iA a.2)]]) (.st (eE (e:=115)) (.as (BM C n _ _ _ _ b ((b.length:Int)) a.1 a.2 ?_ ?_ _ 0)))
 ·intro c d f g h w48
  exact .un rfl (.lv rfl)
 ·intro i j k l o w54
  exact .un rfl (.cT r7 (.lv rfl))
def Lv (a:(List (Int×Int))) (b:(Int×Int)):Option Int:=Lq az a b
def F5 (C:OT):Prop:=∀ (b:(List (Int×Int))) (a:(Int×Int)),C 93 [(im (b.map ai) false),(ag [(iA a.1),(iA a.2)])]=(Lv b a).map fun y=>(iA y)
def Lm (n:Nat) (a:(List (Int×Int))) (b:(Int×Int)):Option Bool:=
 (Lv a b).bind fun c=>some (decide (0<=c))
theorem QW (C:OT) (n:Nat) (c:F5 C) (b:(List (Int×Int))) (a:(Int×Int)):TJ C n 71 [(im (b.map ai) false),(ag [(iA a.1),(iA a.2)])] (Lm n b a) (fun y=>(bA y)):=by
 refine .lp (RE ..) ?_
 unfold Lm
 exact .s ((pt 0 0),[bx [(iA a.1),(iA a.2)]]) (.s (ag [(iA a.1),(iA a.2)]) (.bd (g:=fun (y:Int)=>(iA y)) (by simp only[cD,dL]; exact c b a) fun d=>.st (dS ..) (.lv rfl)))
def IY (a:(List (Int×Int))) (b:(Int×Int)):Option Bool:=Lm az a b
def FW (C:OT):Prop:=∀ (b:(List (Int×Int))) (a:(Int×Int)),C 71 [(im (b.map ai) false),(ag [(iA a.1),(iA a.2)])]=(IY b a).map fun y=>(bA y)
def mI (a:(List aw)) (b:aM):aD:=bx [(bU 2 0 a.length false),(im (b.Apart.map ai) false)]
def Ln (n:Nat) (a:aM) (b:Int):Option aM:=
 (gD a.Queue 0 b).bind fun c=>(gD a.Queue (wr .i64 (b+1)) ((a.Queue.length:Int))).bind fun d=>(cF 40 c d).bind fun e=>some ((aM.mk e a.Apart))
theorem QY (C:OT) (n:Nat) (c:aM) (h:Int):TJ C n 73 [(ag [(im (c.Queue.map af) false),(im (c.Apart.map ai) false)]),(iA h)] (Ln n c h) (fun y=>(ag [(im (y.Queue.map af) false),(im (y.Apart.map ai) false)])):=by
 refine .lp (RG ..) ?_
 unfold Ln
 exact .sq (pt 0 0) (.s ((pt 1 0),[bx [(im (c.Queue.map af) false),(im (c.Apart.map ai) false)],bx [Sv,Sv]]) (.s2 (im (c.Queue.map af) false) (.bd (mo (e:=48) (es:=3) (f:=af) (l:=c.Queue) (a:=0) (b:=h) r7 r7 (fun _=>rfl) (.inl ⟨rfl,rfl⟩)) fun i=>.s2 (im (c.Queue.map af) false) (.st (aF ..) (.bd (oM (e:=48) (es:=3) (f:=af) (l:=c.Queue) (a:=wr .i64 (h+1)) (b:=(c.Queue.length:Int)) r7 r7 (fun _=>rfl) (.inr ⟨_,rfl⟩) (.inl ⟨rfl,rfl⟩)) fun j=>.bd (g:=fun (y:List aw)=>((bU 2 0 y.length false),[bx [(im (c.Queue.map af) false),(im (c.Apart.map ai) false)],bx [Sv,Sv],aD.row false 3 (y.map af)])) (k9 zw (l:=i) (l2:=j) (bz ..)) fun d=>.s (pt 0 0) (.sh (.s (ag [(bU 2 0 d.length false),(im (c.Apart.map ai) false)]) (.s [(mI d c),(mI d c),aD.row false 3 (d.map af)] (.s (ag [(bU 2 0 d.length false),(im (c.Apart.map ai) false)]) (.lv (by show br [(mI d c),(mI d c),aD.row false 3 (d.map af)] (ag [(bU 2 0 d.length false),(im (c.Apart.map ai) false)])=_; first | (simp only[cD,dL,br,bS (H:=[(mI d c),(mI d c),aD.row false 3 (d.map af)]) (b:=2) (es:=3) (wr:=false) (l:=d) b8 rfl]; done) | (simp only[cD,jQ,br,bS (H:=[(mI d c),(mI d c),aD.row false 3 (d.map af)]) (b:=2) (es:=3) (wr:=false) (l:=d) b8 rfl]; first | done | rfl))))))))))))
def It (a:aM) (b:Int):Option aM:=Ln az a b
def FX (C:OT):Prop:=∀ (a:aM) (b:Int),C 73 [(ag [(im (a.Queue.map af) false),(im (a.Apart.map ai) false)]),(iA b)]=(It a b).map fun y=>(ag [(im (y.Queue.map af) false),(im (y.Apart.map ai) false)])
def Lc (n:Nat) (b:aM) (c:Int):Option (aw×aM×Int):=
 (IX b c).bind fun a=>bif (a.2 != 0) then (some ((a.1,(aM.mk ([]) ([])),a.2))) else ((IZ a.1.From a.1.To).bind fun d=>(IY b.Apart d).bind fun e=>bif e then ((It b c).bind fun f=>some (((aw.mk 0 0 ([])),f,0))) else ((It b c).bind fun g=>some ((a.1,g,0))))
theorem QL (C:OT) (n:Nat) (h:FV C) (i:FW C) (j:Bv C) (f:FX C) (a:aM) (c:Int):TJ C n 41 [(ag [(im (a.Queue.map af) false),(im (a.Apart.map ai) false)]),(iA c)] (Lc n a c) (fun y=>(tp [(ag (af y.1)),(ag [(im (y.2.1.Queue.map af) false),(im (y.2.1.Apart.map ai) false)]),(iA y.2.2)])):=by
 refine .lp (Ro ..) ?_
 unfold Lc
 refine .s ((pt 0 0),[(eU a)]) (.sq (pt 1 0) (.s ((pt 2 0),[(eU a),bx [(iA 0),(iA 0),Sv],bx [Sv,Sv]]) (.s (ag [(im (a.Queue.map af) false),(im (a.Apart.map ai) false)]) (.bd (g:=fun (y:(aw×Int))=>(tp [(ag (af y.1)),(iA y.2)])) (by simp only[cD,dL]; exact h a c) fun b=>.s (ag (af b.1)) (.s (iA b.2) (.s [(eU a),bx (af b.1),bx [Sv,Sv]] (.st (aC ..) (.cd ?_ ?_))))))))
 ·exact .s (ag (af b.1)) (.s (ag [Sv,Sv]) (.cT r7 (.sh (.s [(eU a),bx (af b.1),bx [Sv,Sv]] (.s (ag (af b.1)) (.s (ag [Sv,Sv]) (.lv s0)))))))
 refine .s2 (im (a.Apart.map ai) false) (.s2 (iA b.1.From) (.s2 (iA b.1.To) (.bd (j b.1.From b.1.To) fun k=>.bd (g:=fun (y:Bool)=>(bA y)) (by simp only[cD,dL]; exact i a.Apart k) fun l=>.cd ?_ ?_)))
 ·exact .s (ag [(iA 0),(iA 0),Sv]) (.s [(eU a),bx [(iA 0),(iA 0),Sv],bx [Sv,Sv]] (.s (ag [(iA 0),(iA 0),Sv]) (.s (ag [(im (a.Queue.map af) false),(im (a.Apart.map ai) false)]) (.bd (g:=fun (y:aM)=>(ag [(im (y.Queue.map af) false),(im (y.Apart.map ai) false)])) (by simp only[cD,dL]; exact f a c) fun d=>.sh (.s [(eU a),bx [(iA 0),(iA 0),Sv],bx [(im (d.Queue.map af) false),(im (d.Apart.map ai) false)]] (.s (ag [(iA 0),(iA 0),Sv]) (.s (ag [(im (d.Queue.map af) false),(im (d.Apart.map ai) false)]) (.lv s0))))))))
 exact .s (ag (af b.1)) (.s (ag [(im (a.Queue.map af) false),(im (a.Apart.map ai) false)]) (.bd (g:=fun (y:aM)=>(ag [(im (y.Queue.map af) false),(im (y.Apart.map ai) false)])) (by simp only[cD,dL]; exact f a c) fun e=>.sh (.s [(eU a),bx (af b.1),bx [(im (e.Queue.map af) false),(im (e.Apart.map ai) false)]] (.s (ag (af b.1)) (.s (ag [(im (e.Queue.map af) false),(im (e.Apart.map ai) false)]) (.lv s0))))))
def IQ (a:aM) (b:Int):Option (aw×aM×Int):=Lc az a b
def FQ (C:OT):Prop:=∀ (a:aM) (b:Int),C 41 [(ag [(im (a.Queue.map af) false),(im (a.Apart.map ai) false)]),(iA b)]=(IQ a b).map fun y=>(tp [(ag (af y.1)),(ag [(im (y.2.1.Queue.map af) false),(im (y.2.1.Apart.map ai) false)]),(iA y.2.2)])
def Ld (n:Nat) (a:aO) (b:Int):Option Int:=
 some (wr .i64 (a.Bar - b))
theorem QM (C:OT) (n:Nat) (a:aO) (b:Int):TJ C n 43 [(ag (au a)),(iA b)] (Ld n a b) (fun y=>(iA y)):=by
 refine .lp (Rs ..) ?_
 unfold Ld
 exact .s ((pt 0 0),[bx (au a)]) (.s2 (iA a.Bar) (.st (dU ..) (.lv rfl)))
def Im (a:aO) (b:Int):Option Int:=Ld az a b
def Bp (C:OT):Prop:=∀ (a:aO) (b:Int),C 43 [(ag (au a)),(iA b)]=(Im a b).map fun y=>(iA y)
def fh (n:Nat) (c:(List aO)) (d:Int):Nat->Int->Int->Option (Int)
 | 0,_,_=>none
 | m+1,a,b=>bif (decide (a<b)) then ((bE c (wr .i64 (je .u64 (wr .u64 (wr .i64 (a+b))) 1))).bind fun e=>(Im e d).bind fun f=>bif (decide (f<0)) then (fh n c d m (wr .i64 ((wr .i64 (je .u64 (wr .u64 (wr .i64 (a+b))) 1))+1)) b) else (fh n c d m a (wr .i64 (je .u64 (wr .u64 (wr .i64 (a+b))) 1)))) else (some a)
theorem v9 (i:Bp C) {w45 w46 w47:A} (d:(List aO)) (c:Int) {K:(Int)->Option γ} (j:∀ (f:Int) (k:A) (l:A) (o:A),J φ (kx 0 (St.mk [(0,(im (d.map au) false)),(1,(iA c)),(2,(sV 43 [] [])),(6,k),(7,l),(8,w47),(9,(iA f)),(10,o)] [])) kL (K f) some) :
  ∀ (m:Nat) (a:Int) (b:Int),J φ (aI (cx C) (ec C n 8) (ey C n 8) (n+8) 42 0 0 0 kx kg kr kp m (St.mk [(0,(im (d.map au) false)),(1,(iA c)),(2,(sV 43 [] [])),(6,w45),(7,w46),(8,w47),(9,(iA a)),(10,(iA b))] [])) kL (fh n d c m a b) K:=by
  refine nI (fun _ _=>.nn) fun m ih a b=>.lp (Ju ..) ?_
  unfold fh
  refine .st (bj ..) (.cd ?_ ?_)
  ·refine .st (aF ..) (.st (v:=(A.v (.int .u64 (wr .u64 (wr .i64 (a+b)))))) (aE (hs:=by kernel_rfl) (hd:=by kernel_rfl) ..) (.st (ju (hb:=by decide) ..) (.st (v:=(iA (wr .i64 (je .u64 (wr .u64 (wr .i64 (a+b))) 1)))) (aE (hs:=by kernel_rfl) (hd:=by kernel_rfl) ..) (.bd (gp (e:=30) (es:=4)) fun h=>.s (ag (au h)) (.dO r7 r7 (.bd (g:=fun (y:Int)=>(iA y)) (by simp only[TN,Tg,TG,cD,dL]; exact(i h c)) fun p=>.st (bj ..) (.cd ?_ ?_)))))))
   ·refine .st (aF ..) (.s [] (.cT r7 ?_))
    exact ih _ _
   refine .s [] (.cT r7 ?_)
   exact ih _ _
  exact .ex (j _ _ _ _)
def ux (n:Nat) (a:(List aO)) (c:Int):Option (Int×Bool):=
 (fh n a c (n+8) 0 ((a.length:Int))).bind fun LB=>match LB with | b=>(bif (decide (b<((a.length:Int)))) then ((bE a b).bind fun d=>(Im d c).bind fun e=>some (e==0)) else (some false)).bind fun f=>some ((b,f))
theorem GX (C:OT) (n:Nat) (c:Bp C) (a:(List aO)) (b:Int):TJ C n 42 [(im (a.map au) false),(iA b),(sV 43 [] [])] (ux n a b) (fun y=>(tp [(iA y.1),(bA y.2)])):=by
 refine .lp (Rq ..) ?_
 unfold ux
 refine .st (eE (e:=30)) (.as (v9 C n _ _ _ _ c a b ?_ _ 0 ((a.length:Int))))
 ·intro q r u v
  refine .un rfl (.cT r7 (.st (bj ..) (.bg (fun t (y:Bool)=>∃ d f h i j k l o:A,t=[(bA y),d,f,h,i,j,k,l,o]) ?_ ?_)))
  ·refine .bi ?_ ?_
   ·exact .bd (gp (e:=30) (es:=4)) fun p=>.s (ag (au p)) (.vO r7 r7 (.bd (g:=fun (y:Int)=>(iA y)) (by simp only[TN,Tg,TG,cD,dL]; exact(c p b)) fun w=>.st (aV ..) (.lg ⟨_,_,_,_,_,_,_,_,rfl⟩)))
   exact .lg ⟨_,_,_,_,_,_,_,_,rfl⟩
  rintro _ x ⟨d,f,h,i,j,k,l,o,rfl⟩
  exact .u4 (.u4 (.uc (.lv rfl)))
def qD (a:(List aO)) (b:Int):Option (Int×Bool):=ux az a b
def vU (C:OT):Prop:=∀ (a:(List aO)) (b:Int),C 42 [(im (a.map au) false),(iA b),(sV 43 [] [])]=(qD a b).map fun y=>(tp [(iA y.1),(bA y.2)])
def cu (a:(aw×aM×Int)):aD:=bx [(im (a.2.1.Queue.map af) false),(im (a.2.1.Apart.map ai) false)]
def fw (a:(aw×aM×Int)) (b:aq):aD:=bx [(im (a.2.1.Queue.map af) false),(im (a.2.1.Apart.map ai) false),(im (b.Ears.map av) false),(iA b.Bar)]
def eu (a:(aw×aM×Int)) (b:(List aP)) (c:aq):aD:=bx [(im (a.2.1.Queue.map af) false),(im (a.2.1.Apart.map ai) false),(bU 8 0 b.length false),(iA c.Bar)]
def jU (a:(aw×aM×Int)) (b:(List aP)) (c:aq):aD:=bx [(im (a.2.1.Queue.map af) false),(im (a.2.1.Apart.map ai) false),(bU 7 0 b.length false),(iA c.Bar)]
def K2 (n:Nat) (a:aq) (k:Int):Option (aq×ba×Bool×Int):=
 (D2 a).bind fun j=>bif (j != 0) then (some (((aq.mk ((aM.mk ([]) ([]))) ([]) 0),(ba.mk 0 0 0),false,j))) else ((IQ a.Net k).bind fun c=>bif (c.2.2 != 0) then (some (((aq.mk ((aM.mk ([]) ([]))) ([]) 0),(ba.mk 0 0 0),false,c.2.2))) else ((Il c.1.Data).bind fun b=>(bif b.2 then (some (b.1.kind==2)) else (some false)).bind fun l=>bif l then (some (((aq.mk c.2.1 a.Ears a.Bar),b.1.report,true,0))) else ((bif b.2 then (some (decide (a.Bar<=b.1.cue.Bar))) else (some false)).bind fun o=>bif o then ((bE a.Ears b.1.cue.Role).bind fun d=>(qD d.Cues b.1.cue.Bar).bind fun e=>bif (!e.2) then ((cF 32 ([]) d.Cues).bind fun p=>(CD p e.1 b.1.cue).bind fun q=>(cF 72 ([]) a.Ears).bind fun f=>(nZ f.length b.1.cue.Role).bind fun k28=>(qo f k28 (fun (y:aP)=>(aP.mk q y.Got y.Did))).bind fun r=>some (((aq.mk c.2.1 ((List.take f.length (List.drop 0 r))) a.Bar),(ba.mk 0 0 0),false,0))) else ((bE d.Cues e.1).bind fun s=>bif (decide (s.No<b.1.cue.No)) then ((cF 32 ([]) d.Cues).bind fun g=>(nZ g.length e.1).bind fun k34=>(qo g k34 (fun (y:aO)=>b.1.cue)).bind fun t=>(cF 72 ([]) a.Ears).bind fun h=>(nZ h.length b.1.cue.Role).bind fun k38=>(qo h k38 (fun (y:aP)=>(aP.mk ((List.take g.length (List.drop 0 t))) y.Got y.Did))).bind fun u=>some (((aq.mk c.2.1 ((List.take h.length (List.drop 0 u))) a.Bar),(ba.mk 0 0 0),false,0))) else ((cF 72 ([]) a.Ears).bind fun i=>(nZ i.length b.1.cue.Role).bind fun k42=>(qo i k42 (fun (y:aP)=>(aP.mk d.Cues y.Got y.Did))).bind fun v=>some (((aq.mk c.2.1 ((List.take i.length (List.drop 0 v))) a.Bar),(ba.mk 0 0 0),false,0))))) else (some (((aq.mk c.2.1 a.Ears a.Bar),(ba.mk 0 0 0),false,0))))))
theorem Qy (C:OT) (n:Nat) (ak:vT C) (am:zo C) (an:FQ C) (h42_43:vU C) (c:aq) (a1:Int):TJ C n 16 [(ag (aa c)),(iA a1)] (K2 n c a1) (fun y=>(tp [(ag (aa y.1)),(ag (al y.2.1)),(bA y.2.2.1),(iA y.2.2.2)])):=by
 refine .lp (Rb ..) ?_
 unfold K2
 refine .s ((pt 0 0),[bx (aa c)]) (.sq (pt 1 0) (.s ((pt 2 0),[bx (aa c),bx [Sv,Sv,Sv,(iA 0)],bx [(iA 0),(iA 0),(iA 0)]]) (.s (ag (aa c)) (.bd (g:=fun (y:Int)=>(iA y)) (by simp only[cD,dL]; exact ak c) fun y1=>.st (aC ..) (.cd ?_ ?_)))))
 ·exact .s (ag [Sv,Sv,Sv,(iA 0)]) (.s (ag [(iA 0),(iA 0),(iA 0)]) (.cT r7 (.sh (.s [bx (aa c),bx [Sv,Sv,Sv,(iA 0)],bx [(iA 0),(iA 0),(iA 0)]] (.s (ag [Sv,Sv,Sv,(iA 0)]) (.s (ag [(iA 0),(iA 0),(iA 0)]) (.lv s0)))))))
 refine .s2 (ag [(im (c.Net.Queue.map af) false),(im (c.Net.Apart.map ai) false)]) (.bd (g:=fun (y:(aw×aM×Int))=>(tp [(ag (af y.1)),(ag [(im (y.2.1.Queue.map af) false),(im (y.2.1.Apart.map ai) false)]),(iA y.2.2)])) (by simp only[cD,dL]; exact an c.Net a1) fun a=>.s (ag (af a.1)) (.s (ag [(im (a.2.1.Queue.map af) false),(im (a.2.1.Apart.map ai) false)]) (.s (iA a.2.2) (.sq (pt 3 0) (.sq (pt 4 0) (.sh (.s [bx (aa c),bx [Sv,Sv,Sv,(iA 0)],bx [(iA 0),(iA 0),(iA 0)],bx (af a.1),(cu a)] (.st (aC ..) (.cd ?_ ?_)))))))))
 ·exact .s (ag [Sv,Sv,Sv,(iA 0)]) (.s (ag [(iA 0),(iA 0),(iA 0)]) (.cT r7 (.sh (.s [bx (aa c),bx [Sv,Sv,Sv,(iA 0)],bx [(iA 0),(iA 0),(iA 0)],bx (af a.1),(cu a)] (.s (ag [Sv,Sv,Sv,(iA 0)]) (.s (ag [(iA 0),(iA 0),(iA 0)]) (.lv s0)))))))
 refine .s (ag [(im (a.2.1.Queue.map af) false),(im (a.2.1.Apart.map ai) false)]) (.s (pt 0 0) (.s [(fw a c),bx [Sv,Sv,Sv,(iA 0)],bx [(iA 0),(iA 0),(iA 0)],bx (af a.1),(cu a)] (.s2 (im (a.1.Data.map c8) false) (.bd (g:=fun (y:(aH×Bool))=>(tp [(ag (aj y.1)),(bA y.2)])) (by simp only[cD,dL]; exact am a.1.Data) fun d=>.s (ag (aj d.1)) (.s (bA d.2) (.sq (pt 5 0) (.s [(fw a c),bx [Sv,Sv,Sv,(iA 0)],bx [(iA 0),(iA 0),(iA 0)],bx (af a.1),(cu a),bx (aj d.1)] (.bg (fun t (y:Bool)=>∃ j8 j9 a8:A,t=[(bA y),j8,j9,a8]) ?_ ?_))))))))
 ·refine .bi ?_ ?_
  ·exact .s (pt 5 0) (.s (iA d.1.kind) (.st (aV ..) (.lg ⟨_,_,_,rfl⟩)))
  exact .lg ⟨_,_,_,rfl⟩
 rintro _ y7 ⟨j8,j9,a8,rfl⟩
 refine .u4 (.cd ?_ ?_)
 ·exact .s (ag [(im (a.2.1.Queue.map af) false),(im (a.2.1.Apart.map ai) false),(im (c.Ears.map av) false),(iA c.Bar)]) (.s (pt 5 5) (.s (ag (al d.1.report)) (.cT r7 (.sh (.s [(fw a c),(fw a c),bx (al d.1.report),bx (af a.1),(cu a),bx (aj d.1)] (.s (ag [(im (a.2.1.Queue.map af) false),(im (a.2.1.Apart.map ai) false),(im (c.Ears.map av) false),(iA c.Bar)]) (.s (ag (al d.1.report)) (.lv s0))))))))
 refine .s2 (ag (au d.1.cue)) (.sq (pt 6 0) (.s [(fw a c),bx [Sv,Sv,Sv,(iA 0)],bx [(iA 0),(iA 0),(iA 0)],bx (af a.1),(cu a),bx (aj d.1),bx (au d.1.cue)] (.bg (fun t (y:Bool)=>∃ a9 ab ad ae ah:A,t=[(bA y),a9,ab,ad,ae,ah]) ?_ ?_)))
 ·refine .bi ?_ ?_
  ·exact .s (pt 6 2) (.s (iA d.1.cue.Bar) (.s (pt 0 3) (.s (iA c.Bar) (.st (dS ..) (.lg ⟨_,_,_,_,_,rfl⟩)))))
  exact .lg ⟨_,_,_,_,_,rfl⟩
 rintro _ ay ⟨a9,ab,ad,ae,ah,rfl⟩
 refine .u4 (.uc (.uc (.cd ?_ ?_)))
 ·refine .s2 (im (c.Ears.map av) false) (.s2 (iA d.1.cue.Role) (.bd (gp (e:=55) (es:=3)) fun k=>.s2 (im (k.Cues.map au) false) (.s2 (iA d.1.cue.Bar) (.bd (g:=fun (y:(Int×Bool))=>(tp [(iA y.1),(bA y.2)])) (by simp only[cD,dL]; exact h42_43 k.Cues d.1.cue.Bar) fun a4=>.s (iA a4.1) (.s (bA a4.2) (.s (bA (!a4.2)) (.cd ?_ ?_)))))))
  ·refine .s (ag (au d.1.cue)) (.cT r7 (.s (im [[(iA d.1.cue.No),(iA d.1.cue.Role),(iA d.1.cue.Bar),(iA d.1.cue.Program)]] true) (.cT r7 (.cl ((aK Gz).trans (Pd ..)) (.st (v:=(A.nq (k.Cues.map au))) (rY (e:=30) r7) (.nq (f:=au) (l:=k.Cues) (fun hn=>by rw[hn]; kernel_rfl) (.s Sv (.bd (g:=fun (y:List aO)=>((bU 7 0 y.length false),[(fw a c),bx [Sv,Sv,Sv,(iA 0)],bx [(iA 0),(iA 0),(iA 0)],bx (af a.1),(cu a),bx (aj d.1),bx (au d.1.cue),aD.row true 4 (y.map au)])) (mT (e:=30) (es:=4) (by_:=32) (z:=[(iA 0),(iA 0),(iA 0),(iA 0)]) r7 r7 r7 r7 rfl (by decide) (by decide) r7 (f:=au) (fun _=>rfl) q7 (l2:=k.Cues) (bz ..)) fun ao=>.cr (.ok (.is (o:=fun (y:List aO)=>(Out.ret (im (y.map au) false),[(fw a c),bx [Sv,Sv,Sv,(iA 0)],bx [(iA 0),(iA 0),(iA 0)],bx (af a.1),(cu a),bx (aj d.1),bx (au d.1.cue),aD.dead])) (Hu (f:=au) (l:=ao) (x:=d.1.cue) (b:=7) J0 r7 r7 r7 rfl (fun _=>rfl) q7 rfl (by decide) rfl) fun a5=>.ok (.st (v:=((im (a5.map au) false),[(fw a c),bx [Sv,Sv,Sv,(iA 0)],bx [(iA 0),(iA 0),(iA 0)],bx (af a.1),(cu a),bx (aj d.1),bx (au d.1.cue),aD.dead])) rfl (.s2 (im (c.Ears.map av) false) (.cl ((aK CW).trans (M6 ..)) (.st (v:=(A.nq (c.Ears.map av))) (rY (e:=55) r7) (.nq (f:=av) (l:=c.Ears) (fun hn=>by rw[hn]; kernel_rfl) (.s Sv ?_))))))))))))))))
   exact .bd (g:=fun (y:List aP)=>((bU 8 0 y.length false),[(fw a c),bx [Sv,Sv,Sv,(iA 0)],bx [(iA 0),(iA 0),(iA 0)],bx (af a.1),(cu a),bx (aj d.1),bx (au d.1.cue),aD.dead,aD.row true 3 (y.map av)])) (mT (e:=55) (es:=3) (by_:=72) (z:=[Sv,Sv,Sv]) r7 r7 r7 r7 rfl (by decide) (by decide) r7 (f:=av) (fun _=>rfl) q8 (l2:=c.Ears) (bz ..)) fun h=>.cr (.ok (.s (pt 0 2) (.s [(eu a h c),bx [Sv,Sv,Sv,(iA 0)],bx [(iA 0),(iA 0),(iA 0)],bx (af a.1),(cu a),bx (aj d.1),bx (au d.1.cue),aD.dead,aD.row true 3 (h.map av)] (.s2 (bU 8 0 h.length false) (.s2 (iA d.1.cue.Role) (.bd (g:=fun (y:Nat)=>A.ep 8 y 0) (nh (e:=55) (es:=3) (l:=h) r7 r7 rfl) fun k28=>.s (A.ep 8 k28 0) (.bd (g:=fun (y:List aP)=>[(eu a h c),bx [Sv,Sv,Sv,(iA 0)],bx [(iA 0),(iA 0),(iA 0)],bx (af a.1),(cu a),bx (aj d.1),bx (au d.1.cue),aD.dead,aD.row true 3 (y.map av)]) ((lN (es:=3) (n:=1) (l:=h) (xs:=[(im (a5.map au) false)]) (u:=fun (y:aP)=>(aP.mk a5 y.Got y.Did)) r7 r7 (by decide) rfl (fun _=>rfl) (by decide) (by decide) rfl (fun _=>rfl))) fun p=>.s (ag [(im (a.2.1.Queue.map af) false),(im (a.2.1.Apart.map ai) false),(bU 8 0 h.length false),(iA c.Bar)]) (.s (ag [(iA 0),(iA 0),(iA 0)]) (.cT r7 (.sh (.s [(eu a h c),(eu a h c),bx [(iA 0),(iA 0),(iA 0)],bx (af a.1),(cu a),bx (aj d.1),bx (au d.1.cue),aD.dead,aD.row true 3 (p.map av)] (.s (ag [(im (a.2.1.Queue.map af) false),(im (a.2.1.Apart.map ai) false),(bU 8 0 h.length false),(iA c.Bar)]) (.s (ag [(iA 0),(iA 0),(iA 0)]) (.lv (by show br [(eu a h c),(eu a h c),bx [(iA 0),(iA 0),(iA 0)],bx (af a.1),(cu a),bx (aj d.1),bx (au d.1.cue),aD.dead,aD.row true 3 (p.map av)] (tp [(ag [(im (a.2.1.Queue.map af) false),(im (a.2.1.Apart.map ai) false),(bU 8 0 h.length false),(iA c.Bar)]),(ag [(iA 0),(iA 0),(iA 0)]),(bA false),(iA 0)])=_; first | (simp only[cD,dL,br,hU (H:=[(eu a h c),(eu a h c),bx [(iA 0),(iA 0),(iA 0)],bx (af a.1),(cu a),bx (aj d.1),bx (au d.1.cue),aD.dead,aD.row true 3 (p.map av)]) (b:=8) (es:=3) (wr:=true) (l:=p) dW rfl]; done) | (simp only[cD,jQ,br,hU (H:=[(eu a h c),(eu a h c),bx [(iA 0),(iA 0),(iA 0)],bx (af a.1),(cu a),bx (aj d.1),bx (au d.1.cue),aD.dead,aD.row true 3 (p.map av)]) (b:=8) (es:=3) (wr:=true) (l:=p) dW rfl]; first | done | rfl))))))))))))))))
  refine .bd (gp (e:=30) (es:=4)) fun ap=>.s2 (iA ap.No) (.s2 (iA d.1.cue.No) (.st (bj ..) (.cd ?_ ?_)))
  ·refine .cl ((aK Gz).trans (Pd ..)) (.st (v:=(A.nq (k.Cues.map au))) (rY (e:=30) r7) (.nq (f:=au) (l:=k.Cues) (fun hn=>by rw[hn]; kernel_rfl) (.s Sv (.bd (g:=fun (y:List aO)=>((bU 7 0 y.length false),[(fw a c),bx [Sv,Sv,Sv,(iA 0)],bx [(iA 0),(iA 0),(iA 0)],bx (af a.1),(cu a),bx (aj d.1),bx (au d.1.cue),aD.row true 4 (y.map au)])) (mT (e:=30) (es:=4) (by_:=32) (z:=[(iA 0),(iA 0),(iA 0),(iA 0)]) r7 r7 r7 r7 rfl (by decide) (by decide) r7 (f:=au) (fun _=>rfl) q7 (l2:=k.Cues) (bz ..)) fun w=>.cr (.ok (.s (ag (au d.1.cue)) (.bd (g:=fun (y:Nat)=>A.ep 7 y 0) (nh (e:=30) (es:=4) (l:=w) r7 r7 rfl) fun k34=>.bd (g:=fun (y:List aO)=>[(fw a c),bx [Sv,Sv,Sv,(iA 0)],bx [(iA 0),(iA 0),(iA 0)],bx (af a.1),(cu a),bx (aj d.1),bx (au d.1.cue),aD.row true 4 (y.map au)]) ((lN (es:=4) (n:=4) (l:=w) (xs:=[(iA d.1.cue.No),(iA d.1.cue.Role),(iA d.1.cue.Bar),(iA d.1.cue.Program)]) (u:=fun (y:aO)=>d.1.cue) r7 r7 (by decide) rfl (fun _=>rfl) (by decide) (by decide) rfl (fun _=>rfl))) fun a2=>.st (v:=((im (List.map au ((List.take w.length (List.drop 0 a2)))) false),[(fw a c),bx [Sv,Sv,Sv,(iA 0)],bx [(iA 0),(iA 0),(iA 0)],bx (af a.1),(cu a),bx (aj d.1),bx (au d.1.cue),aD.dead])) (CG (es:=4) (l:=a2) fT rfl (by decide)) (.s2 (im (c.Ears.map av) false) (.cl ((aK CW).trans (M6 ..)) (.st (v:=(A.nq (c.Ears.map av))) (rY (e:=55) r7) (.nq (f:=av) (l:=c.Ears) (fun hn=>by rw[hn]; kernel_rfl) (.s Sv ?_))))))))))))
   exact .bd (g:=fun (y:List aP)=>((bU 8 0 y.length false),[(fw a c),bx [Sv,Sv,Sv,(iA 0)],bx [(iA 0),(iA 0),(iA 0)],bx (af a.1),(cu a),bx (aj d.1),bx (au d.1.cue),aD.dead,aD.row true 3 (y.map av)])) (mT (e:=55) (es:=3) (by_:=72) (z:=[Sv,Sv,Sv]) r7 r7 r7 r7 rfl (by decide) (by decide) r7 (f:=av) (fun _=>rfl) q8 (l2:=c.Ears) (bz ..)) fun i=>.cr (.ok (.s (pt 0 2) (.s [(eu a i c),bx [Sv,Sv,Sv,(iA 0)],bx [(iA 0),(iA 0),(iA 0)],bx (af a.1),(cu a),bx (aj d.1),bx (au d.1.cue),aD.dead,aD.row true 3 (i.map av)] (.s2 (bU 8 0 i.length false) (.s2 (iA d.1.cue.Role) (.bd (g:=fun (y:Nat)=>A.ep 8 y 0) (nh (e:=55) (es:=3) (l:=i) r7 r7 rfl) fun k38=>.s (A.ep 8 k38 0) (.bd (g:=fun (y:List aP)=>[(eu a i c),bx [Sv,Sv,Sv,(iA 0)],bx [(iA 0),(iA 0),(iA 0)],bx (af a.1),(cu a),bx (aj d.1),bx (au d.1.cue),aD.dead,aD.row true 3 (y.map av)]) ((lN (es:=3) (n:=1) (l:=i) (xs:=[(im (List.map au ((List.take w.length (List.drop 0 a2)))) false)]) (u:=fun (y:aP)=>(aP.mk ((List.take w.length (List.drop 0 a2))) y.Got y.Did)) r7 r7 (by decide) rfl (fun _=>rfl) (by decide) (by decide) rfl (fun _=>rfl))) fun q=>.s (ag [(im (a.2.1.Queue.map af) false),(im (a.2.1.Apart.map ai) false),(bU 8 0 i.length false),(iA c.Bar)]) (.s (ag [(iA 0),(iA 0),(iA 0)]) (.cT r7 (.sh (.s [(eu a i c),(eu a i c),bx [(iA 0),(iA 0),(iA 0)],bx (af a.1),(cu a),bx (aj d.1),bx (au d.1.cue),aD.dead,aD.row true 3 (q.map av)] (.s (ag [(im (a.2.1.Queue.map af) false),(im (a.2.1.Apart.map ai) false),(bU 8 0 i.length false),(iA c.Bar)]) (.s (ag [(iA 0),(iA 0),(iA 0)]) (.lv (by show br [(eu a i c),(eu a i c),bx [(iA 0),(iA 0),(iA 0)],bx (af a.1),(cu a),bx (aj d.1),bx (au d.1.cue),aD.dead,aD.row true 3 (q.map av)] (tp [(ag [(im (a.2.1.Queue.map af) false),(im (a.2.1.Apart.map ai) false),(bU 8 0 i.length false),(iA c.Bar)]),(ag [(iA 0),(iA 0),(iA 0)]),(bA false),(iA 0)])=_; first | (simp only[cD,dL,br,hU (H:=[(eu a i c),(eu a i c),bx [(iA 0),(iA 0),(iA 0)],bx (af a.1),(cu a),bx (aj d.1),bx (au d.1.cue),aD.dead,aD.row true 3 (q.map av)]) (b:=8) (es:=3) (wr:=true) (l:=q) dW rfl]; done) | (simp only[cD,jQ,br,hU (H:=[(eu a i c),(eu a i c),bx [(iA 0),(iA 0),(iA 0)],bx (af a.1),(cu a),bx (aj d.1),bx (au d.1.cue),aD.dead,aD.row true 3 (q.map av)]) (b:=8) (es:=3) (wr:=true) (l:=q) dW rfl]; first | done | rfl))))))))))))))))
  refine .st (v:=((im (k.Cues.map au) false),[(fw a c),bx [Sv,Sv,Sv,(iA 0)],bx [(iA 0),(iA 0),(iA 0)],bx (af a.1),(cu a),bx (aj d.1),bx (au d.1.cue)])) rfl (.s2 (im (c.Ears.map av) false) (.cl ((aK CW).trans (M6 ..)) (.st (v:=(A.nq (c.Ears.map av))) (rY (e:=55) r7) (.nq (f:=av) (l:=c.Ears) (fun hn=>by rw[hn]; kernel_rfl) (.s Sv (.bd (g:=fun (y:List aP)=>((bU 7 0 y.length false),[(fw a c),bx [Sv,Sv,Sv,(iA 0)],bx [(iA 0),(iA 0),(iA 0)],bx (af a.1),(cu a),bx (aj d.1),bx (au d.1.cue),aD.row true 3 (y.map av)])) (mT (e:=55) (es:=3) (by_:=72) (z:=[Sv,Sv,Sv]) r7 r7 r7 r7 rfl (by decide) (by decide) r7 (f:=av) (fun _=>rfl) q8 (l2:=c.Ears) (bz ..)) fun j=>.cr (.ok (.s (pt 0 2) (.s [(jU a j c),bx [Sv,Sv,Sv,(iA 0)],bx [(iA 0),(iA 0),(iA 0)],bx (af a.1),(cu a),bx (aj d.1),bx (au d.1.cue),aD.row true 3 (j.map av)] (.s2 (bU 7 0 j.length false) (.s2 (iA d.1.cue.Role) (.bd (g:=fun (y:Nat)=>A.ep 7 y 0) (nh (e:=55) (es:=3) (l:=j) r7 r7 rfl) fun k42=>.s (A.ep 7 k42 0) (.bd (g:=fun (y:List aP)=>[(jU a j c),bx [Sv,Sv,Sv,(iA 0)],bx [(iA 0),(iA 0),(iA 0)],bx (af a.1),(cu a),bx (aj d.1),bx (au d.1.cue),aD.row true 3 (y.map av)]) ((lN (es:=3) (n:=1) (l:=j) (xs:=[(im (k.Cues.map au) false)]) (u:=fun (y:aP)=>(aP.mk k.Cues y.Got y.Did)) r7 r7 (by decide) rfl (fun _=>rfl) (by decide) (by decide) rfl (fun _=>rfl))) fun r=>.s (ag [(im (a.2.1.Queue.map af) false),(im (a.2.1.Apart.map ai) false),(bU 7 0 j.length false),(iA c.Bar)]) (.s (ag [(iA 0),(iA 0),(iA 0)]) (.cT r7 (.sh ?_))))))))))))))))
  exact .s [(jU a j c),(jU a j c),bx [(iA 0),(iA 0),(iA 0)],bx (af a.1),(cu a),bx (aj d.1),bx (au d.1.cue),aD.row true 3 (r.map av)] (.s (ag [(im (a.2.1.Queue.map af) false),(im (a.2.1.Apart.map ai) false),(bU 7 0 j.length false),(iA c.Bar)]) (.s (ag [(iA 0),(iA 0),(iA 0)]) (.lv (by show br [(jU a j c),(jU a j c),bx [(iA 0),(iA 0),(iA 0)],bx (af a.1),(cu a),bx (aj d.1),bx (au d.1.cue),aD.row true 3 (r.map av)] (tp [(ag [(im (a.2.1.Queue.map af) false),(im (a.2.1.Apart.map ai) false),(bU 7 0 j.length false),(iA c.Bar)]),(ag [(iA 0),(iA 0),(iA 0)]),(bA false),(iA 0)])=_; first | (simp only[cD,dL,br,hU (H:=[(jU a j c),(jU a j c),bx [(iA 0),(iA 0),(iA 0)],bx (af a.1),(cu a),bx (aj d.1),bx (au d.1.cue),aD.row true 3 (r.map av)]) (b:=7) (es:=3) (wr:=true) (l:=r) dW rfl]; done) | (simp only[cD,jQ,br,hU (H:=[(jU a j c),(jU a j c),bx [(iA 0),(iA 0),(iA 0)],bx (af a.1),(cu a),bx (aj d.1),bx (au d.1.cue),aD.row true 3 (r.map av)]) (b:=7) (es:=3) (wr:=true) (l:=r) dW rfl]; first | done | rfl)))))
 exact .s (ag [(im (a.2.1.Queue.map af) false),(im (a.2.1.Apart.map ai) false),(im (c.Ears.map av) false),(iA c.Bar)]) (.s (ag [(iA 0),(iA 0),(iA 0)]) (.cT r7 (.sh (.s [(fw a c),(fw a c),bx [(iA 0),(iA 0),(iA 0)],bx (af a.1),(cu a),bx (aj d.1),bx (au d.1.cue)] (.s (ag [(im (a.2.1.Queue.map af) false),(im (a.2.1.Apart.map ai) false),(im (c.Ears.map av) false),(iA c.Bar)]) (.s (ag [(iA 0),(iA 0),(iA 0)]) (.lv s0)))))))
def sP (a:aq) (b:Int):Option (aq×ba×Bool×Int):=K2 az a b
def Bm (C:OT):Prop:=∀ (a:aq) (b:Int),C 16 [(ag (aa a)),(iA b)]=(sP a b).map fun y=>(tp [(ag (aa y.1)),(ag (al y.2.1)),(bA y.2.2.1),(iA y.2.2.2)])
def km (n:Nat) (b:(List Int)) (c:(List Int)):Nat->Int->Option ((Bool)⊕(Unit))
 | 0,_=>none
 | m+1,a=>bif (decide (a<((b.length:Int)))) then ((bE b a).bind fun d=>(bE c a).bind fun e=>bif (d != e) then (some ((Sum.inl false))) else (km n b c m (wr .i64 (a+1)))) else (some ((Sum.inr (()))))
theorem BK {w16:A} (f:(List Int)) (g:(List Int)) {K:((Bool)⊕(Unit))->Option γ} (i:∀ (h:Bool) (a:A) (b:A) (c:A),J φ (kr (St.mk [(0,a),(1,b),(4,(bA h)),(5,c)] [])) kL (K (Sum.inl h)) some) (j:∀ (a:A) (b:A) (k:A) (c:A),J φ (kx 0 (St.mk [(0,a),(1,b),(4,k),(5,c)] [])) kL (K (Sum.inr (()))) some) :
  ∀ (m:Nat) (d:Int),J φ (aI (cx C) (ec C n 8) (ey C n 8) (n+8) 55 0 0 0 kx kg kr kp m (St.mk [(0,(im (f.map (cI .i64)) false)),(1,(im (g.map (cI .i64)) false)),(4,w16),(5,(iA d))] [])) kL (km n f g m d) K:=by
  refine nI (fun _=>.nn) fun m ih d=>.lp (Jw ..) ?_
  unfold km
  refine .st (eE (e:=3)) (.st (bj ..) (.cd ?_ ?_))
  ·refine .bd (gp (e:=3) (es:=1)) fun l=>.s (iA l) (.bd (gp (e:=3) (es:=1)) fun o=>.s (iA o) (.st (aC ..) (.cd ?_ ?_)))
   ·exact .ex (i _ _ _ _)
   refine .st (aF ..) (.s [] (.cT r7 ?_))
   exact ih _
  exact .ex (j _ _ _ _)
def Lf (n:Nat) (a:(List Int)) (b:(List Int)):Option Bool:=
 bif (((a.length:Int)) != ((b.length:Int))) then (some false) else ((km n a b (n+8) 0).bind fun LA=>match LA with | (Sum.inl c)=>some c | (Sum.inr _)=>some true)
theorem QO (C:OT) (n:Nat) (a:(List Int)) (b:(List Int)):TJ C n 55 [(im (a.map (cI .i64)) false),(im (b.map (cI .i64)) false)] (Lf n a b) (fun y=>(bA y)):=by
 refine .lp (Ru ..) ?_
 unfold Lf
 refine .st (eE (e:=3)) (.st (eE (e:=3)) (.st (aC ..) (.cd ?_ ?_)))
 ·exact .lv rfl
 refine .as (BK C n _ _ _ _ a b ?_ ?_ _ 0)
 ·intro c d f g
  exact .un rfl (.lv rfl)
 ·intro h i j k
  exact .un rfl (.cT r7 (.lv rfl))
def Ip (a:(List Int)) (b:(List Int)):Option Bool:=Lf az a b
def Bq (C:OT):Prop:=∀ (a:(List Int)) (b:(List Int)),C 55 [(im (a.map (cI .i64)) false),(im (b.map (cI .i64)) false)]=(Ip a b).map fun y=>(bA y)
def ke (n:Nat) (e:(List aP)) (f:(List aP)) (a:Int):Nat->Int->Option ((Bool)⊕(Unit))
 | 0,_=>none
 | m+1,b=>(bE e a).bind fun g=>bif (decide (b<((g.Cues.length:Int)))) then ((bE e a).bind fun h=>(bE h.Cues b).bind fun c=>(bE f a).bind fun i=>(bE i.Cues b).bind fun d=>bif (!((c.No==d.No)&&((c.Role==d.Role)&&((c.Bar==d.Bar)&&(c.Program==d.Program))))) then (some ((Sum.inl false))) else (ke n e f a m (wr .i64 (b+1)))) else (some ((Sum.inr (()))))
theorem BA {w104:A} (c:(List aP)) (d:(List aP)) (f:Int) {K:((Bool)⊕(Unit))->Option γ} (j:∀ (i:Bool) (g:A),J φ (kr (St.mk [(0,(im (c.map av) false)),(1,(im (d.map av) false)),(4,(bA i)),(5,(iA f)),(6,g)] [])) kL (K (Sum.inl i)) some) (k:∀ (g:A),J φ (kx 2 (St.mk [(0,(im (c.map av) false)),(1,(im (d.map av) false)),(4,w104),(5,(iA f)),(6,g)] [])) kL (K (Sum.inr (()))) some) :
  ∀ (m:Nat) (h:Int),J φ (aI (cx C) (ec C n 8) (ey C n 8) (n+8) 22 0 1 0 kx kg kr kp m (St.mk [(0,(im (c.map av) false)),(1,(im (d.map av) false)),(4,w104),(5,(iA f)),(6,(iA h))] [])) kL (ke n c d f m h) K:=by
  refine nI (fun _=>.nn) fun m ih h=>.lp (Jo ..) ?_
  unfold ke
  refine .bd (gp (e:=55) (es:=3)) fun l=>.s2 (im (l.Cues.map au) false) (.st (eE (e:=30)) (.st (bj ..) (.cd ?_ ?_)))
  ·refine .bd (gp (e:=55) (es:=3)) fun o=>.s2 (im (o.Cues.map au) false) (.bd (gp (e:=30) (es:=4)) fun a=>.s (ag (au a)) (.bd (gp (e:=55) (es:=3)) fun p=>.s2 (im (p.Cues.map au) false) (.bd (gp (e:=30) (es:=4)) fun b=>.s (ag (au b)) (.s (bA (!((a.No==b.No)&&((a.Role==b.Role)&&((a.Bar==b.Bar)&&(a.Program==b.Program)))))) (.cd ?_ ?_)))))
   ·exact .ex (j _ _)
   refine .st (aF ..) (.s [] (.cT r7 ?_))
   exact ih _
  exact .ex (k _)
def kd (n:Nat) (b:(List aP)) (c:(List aP)):Nat->Int->Option ((Bool)⊕(Unit))
 | 0,_=>none
 | m+1,a=>bif (decide (a<((b.length:Int)))) then ((bE b a).bind fun d=>(bE c a).bind fun e=>(bif (((d.Cues.length:Int)) != ((e.Cues.length:Int))) then (some true) else ((bE b a).bind fun f=>(bE c a).bind fun g=>(Ip f.Got g.Got).bind fun h=>some (!h))).bind fun i=>(bif i then (some true) else ((bE b a).bind fun j=>(bE c a).bind fun k=>(Ip j.Did k.Did).bind fun l=>some (!l))).bind fun o=>bif o then (some ((Sum.inl false))) else ((ke n b c a (n+8) 0).bind fun p=>match p with | (Sum.inl q)=>some ((Sum.inl q)) | (Sum.inr _)=>kd n b c m (wr .i64 (a+1)))) else (some ((Sum.inr (()))))
theorem Bz (p:Bq C) {w16:A} (d:(List aP)) (f:(List aP)) {K:((Bool)⊕(Unit))->Option γ} (q:∀ (r:Bool) (h:A) (i:A) (j:A),J φ (kr (St.mk [(0,h),(1,i),(4,(bA r)),(5,j)] [])) kL (K (Sum.inl r)) some) (x1:∀ (h:A) (i:A) (s4:A) (j:A),J φ (kx 0 (St.mk [(0,h),(1,i),(4,s4),(5,j)] [])) kL (K (Sum.inr (()))) some) :
  ∀ (m:Nat) (a:Int),J φ (aI (cx C) (ec C n 8) (ey C n 8) (n+8) 22 0 0 0 kx kg kr kp m (St.mk [(0,(im (d.map av) false)),(1,(im (f.map av) false)),(4,w16),(5,(iA a))] [])) kL (kd n d f m a) K:=by
  refine nI (fun _=>.nn) fun m ih a=>.lp (Jn ..) ?_
  unfold kd
  refine .st (eE (e:=55)) (.st (bj ..) (.cd ?_ ?_))
  ·refine .bd (gp (e:=55) (es:=3)) fun ab=>.s2 (im (ab.Cues.map au) false) (.st (eE (e:=30)) (.bd (gp (e:=55) (es:=3)) fun ad=>.s2 (im (ad.Cues.map au) false) (.st (eE (e:=30)) (.st (aC ..) (.bg (fun t (y:Bool)=>∃ u v w x z a0 a1 a2 a3 a4 a5 a6:A,t=[(bA y),u,v,w,x,z,a0,a1,a2,a3,a4,a5,a6]) ?_ ?_)))))
   ·refine .bi ?_ ?_
    ·exact .lg ⟨_,_,_,_,_,_,_,_,_,_,_,_,rfl⟩
    exact .bd (gp (e:=55) (es:=3)) fun b=>.s (A.ip [(im (b.Got.map (cI .i64)) false),(im (b.Did.map (cI .i64)) false)]) (.s (im (b.Got.map (cI .i64)) false) (.bd (gp (e:=55) (es:=3)) fun c=>.s (A.ip [(im (c.Got.map (cI .i64)) false),(im (c.Did.map (cI .i64)) false)]) (.s (im (c.Got.map (cI .i64)) false) (.bd (g:=fun (y:Bool)=>(bA y)) (by simp only[cD,dL]; exact p b.Got c.Got) fun ae=>.s (bA (!ae)) (.lg ⟨_,_,_,_,_,_,_,_,_,_,_,_,rfl⟩)))))
   rintro _ ag ⟨u,v,w,x,z,a0,a1,a2,a3,a4,a5,a6,rfl⟩
   refine .u4 (.u4 (.u4 (.uc (.OS (.bg (fun t (y:Bool)=>∃ a7 a8:A,t=[(bA y),a7,a8]) ?_ ?_)))))
   ·refine .JP (fun k=>?_) (fun k=>?_)
    ·exact .bb (.bd (gp (e:=55) (es:=3)) fun l=>.s (A.ip [(im (l.Did.map (cI .i64)) false)]) (.s (im (l.Did.map (cI .i64)) false) (.bd (gp (e:=55) (es:=3)) fun o=>.s (A.ip [(im (o.Did.map (cI .i64)) false)]) (.s (im (o.Did.map (cI .i64)) false) (.cr (.u4 (.u4 (.uc (.uc (.Gd k (.bd (g:=fun (y:Bool)=>(bA y)) (by simp only[cD,dL]; exact p l.Did o.Did) fun af=>.s (bA (!af)) (.lg ⟨_,_,rfl⟩))))))))))))
    exact .bb (.cr (.u4 (.u4 (.uc (.uc (.Hd k (.lg ⟨_,_,rfl⟩)))))))
   rintro _ ah ⟨a7,a8,rfl⟩
   refine .uc (.uc (.uc (.cd ?_ ?_)))
   ·exact .ex (q _ _ _ _)
   refine .as (BA C n _ _ _ _ d f a ?_ ?_ _ 0)
   ·intro ai aj
    exact .un rfl (.ex (q _ _ _ _))
   ·intro ak
    refine .un rfl (.cT r7 (.st (aF ..) (.s [] (.cT r7 ?_))))
    exact ih _
  exact .ex (x1 _ _ _ _)
def K4 (n:Nat) (a:(List aP)) (b:(List aP)):Option Bool:=
 bif (((a.length:Int)) != ((b.length:Int))) then (some false) else ((kd n a b (n+8) 0).bind fun c=>match c with | (Sum.inl d)=>some d | (Sum.inr _)=>some true)
theorem QA (C:OT) (n:Nat) (c:Bq C) (a:(List aP)) (b:(List aP)):TJ C n 22 [(im (a.map av) false),(im (b.map av) false)] (K4 n a b) (fun y=>(bA y)):=by
 refine .lp (Rd ..) ?_
 unfold K4
 refine .st (eE (e:=55)) (.st (eE (e:=55)) (.st (aC ..) (.cd ?_ ?_)))
 ·exact .lv rfl
 refine .as (Bz C n _ _ _ _ c a b ?_ ?_ _ 0)
 ·intro d f g h
  exact .un rfl (.lv rfl)
 ·intro i j k l
  exact .un rfl (.cT r7 (.lv rfl))
def D3 (a:(List aP)) (b:(List aP)):Option Bool:=K4 az a b
def Bn (C:OT):Prop:=∀ (a:(List aP)) (b:(List aP)),C 22 [(im (a.map av) false),(im (b.map av) false)]=(D3 a b).map fun y=>(bA y)
def F7 (n:Nat)  : Option Bool:=
 (IK 2).bind fun a=>(IK 0).bind fun p=>(IK 13).bind fun q=>(G9 a.1 ((aO.mk 0 0 0 9))).bind fun r=>(Ls a.1 0).bind fun s=>(Ik a.1 ([]) ([0,2])).bind fun t=>(sP a.1 0).bind fun u=>(bif (a.2 != 0) then (some true) else (some (p.2 != 1))).bind fun v=>(bif v then (some true) else (some (q.2 != 1))).bind fun w=>(bif w then (some true) else (some (r.2 != 1))).bind fun x=>(bif x then (some true) else (some (s.2 != 1))).bind fun y=>(bif y then (some true) else (some (t.2 != 1))).bind fun z=>(bif z then (some true) else (some (u.2.2.2 != 1))).bind fun a0=>(bif a0 then (some true) else (some (((a.1.Ears.length:Int)) != 2))).bind fun a1=>(bif a1 then (some true) else ((D2 a.1).bind fun a2=>some (a2 != 0))).bind fun a3=>(bif a3 then (some true) else ((D2 ((aq.mk ((aM.mk ([]) ([]))) ([]) 0))).bind fun a4=>some (a4 != 490))).bind fun a5=>bif a5 then (some false) else ((G9 a.1 ((aO.mk 4 0 0 2))).bind fun h=>(G9 h.1 ((aO.mk 5 0 0 3))).bind fun i=>(G9 i.1 ((aO.mk 6 1 0 3))).bind fun j=>(sP j.1 1).bind fun f=>(sP f.1 0).bind fun b=>(Ik b.1 ([]) ([0,1])).bind fun c=>(Ik b.1 ([]) ([0,0])).bind fun k=>(Ik b.1 ([0]) ([0,1])).bind fun l=>(bif (h.2 != 0) then (some true) else (some (i.2 != 0))).bind fun a6=>(bif a6 then (some true) else (some (j.2 != 0))).bind fun a7=>(bif a7 then (some true) else (some (f.2.2.2 != 0))).bind fun a8=>(bif a8 then (some true) else (some (b.2.2.2 != 0))).bind fun a9=>(bif a9 then (some true) else (some (c.2 != 0))).bind fun aa=>(bif aa then (some true) else (some (k.2 != 0))).bind fun ab=>(bif ab then (some true) else (some (l.2 != 0))).bind fun ad=>(bif ad then (some true) else (some f.2.2.1)).bind fun ae=>bif ae then (some false) else ((bif (((b.1.Ears.length:Int)) != 2) then (some true) else ((bE b.1.Ears 0).bind fun af=>some (((af.Cues.length:Int)) != 1))).bind fun ag=>(bif ag then (some true) else ((bE b.1.Ears 0).bind fun ah=>(bE ah.Cues 0).bind fun e=>some (!((e.No==5)&&((e.Role==0)&&((e.Bar==0)&&(e.Program==3))))))).bind fun ai=>(bif ai then (some true) else (some (((b.1.Net.Queue.length:Int)) != 1))).bind fun aj=>bif aj then (some false) else ((D3 c.1.Ears ([(aP.mk ([]) ([3]) ([3])),(aP.mk ([]) ([0]) ([0]))])).bind fun ak=>(bif (!ak) then (some true) else ((D3 k.1.Ears ([(aP.mk ([]) ([3]) ([0])),(aP.mk ([]) ([0]) ([0]))])).bind fun al=>some (!al))).bind fun am=>(bif am then (some true) else ((D3 l.1.Ears ([(aP.mk ([]) ([0]) ([0])),(aP.mk ([]) ([0]) ([0]))])).bind fun an=>some (!an))).bind fun ao=>bif ao then (some false) else ((sP c.1 0).bind fun g=>(bif (g.2.2.2 != 0) then (some true) else (some (c.1.Bar != 1))).bind fun ap=>(bif ap then (some true) else (some (((c.1.Net.Queue.length:Int)) != 3))).bind fun ar=>(bif ar then (some true) else ((D3 g.1.Ears c.1.Ears).bind fun au=>some (!au))).bind fun av=>bif av then (some false) else ((sP g.1 0).bind fun d=>(Ls d.1 0).bind fun o=>(bif (d.2.2.2==0) then (some (o.2==0)) else (some false)).bind fun aw=>(bif aw then (some d.2.2.1) else (some false)).bind fun ax=>(bif ax then (some (((d.2.1.Role==0)&&((d.2.1.Bar==0)&&(d.2.1.Program==3))))) else (some false)).bind fun ay=>(bif ay then (some (((o.1.Net.Queue.length:Int))==2)) else (some false)).bind fun az=>some az)))))
theorem T7 (C:OT) (n:Nat) (a4:FG C) (a5:vT C) (x:Bm C) (a0:FJ C) (a6:FK C) (a1:Bn C) (h9:I6 C):TJ C n 7 [] (F7 n ) (fun y=>(bA y)):=by
 refine .lp (e7 ..) ?_
 unfold F7
 refine .bd (a4 2) fun a=>.s (ag (aa a.1)) (.s (iA a.2) (.sq (pt 0 0) (.s [bx (aa a.1)] (.bd (a4 0) fun f=>.s (ag (aa f.1)) (.s (iA f.2) (.sq (pt 1 0) (.s [bx (aa a.1),bx (aa f.1)] (.bd (a4 13) fun h=>.s (ag (aa h.1)) (.s (iA h.2) (.sq (pt 2 0) (.s [bx (aa a.1),bx (aa f.1),bx (aa h.1)] (.s (ag (aa a.1)) (.s (ag [(iA 0),(iA 0),(iA 0),(iA 9)]) (.bd (g:=fun (y:(aq×Int))=>(tp [(ag (aa y.1)),(iA y.2)])) (by simp only[cD,dL]; exact h9 a.1 ((aO.mk 0 0 0 9))) fun i=>.s (ag (aa i.1)) (.s (iA i.2) (.sq (pt 3 0) (.s [bx (aa a.1),bx (aa f.1),bx (aa h.1),bx (aa i.1)] (.s (ag (aa a.1)) (.bd (g:=fun (y:(aq×Int))=>(tp [(ag (aa y.1)),(iA y.2)])) (by simp only[cD,dL]; exact a6 a.1 0) fun j=>?_)))))))))))))))))))
 refine .s (ag (aa j.1)) (.s (iA j.2) (.sq (pt 4 0) (.s [bx (aa a.1),bx (aa f.1),bx (aa h.1),bx (aa i.1),bx (aa j.1)] (.s (ag (aa a.1)) (.s (im [[(iA 0)],[(iA 2)]] true) (.bd (g:=fun (y:(aq×Int))=>(tp [(ag (aa y.1)),(iA y.2)])) (by simp only[cD,dL]; exact a0 a.1 ([]) ([0,2])) fun l=>.s (ag (aa l.1)) (.s (iA l.2) (.sq (pt 5 0) (.s [bx (aa a.1),bx (aa f.1),bx (aa h.1),bx (aa i.1),bx (aa j.1),bx (aa l.1)] (.s (ag (aa a.1)) (.bd (g:=fun (y:(aq×ba×Bool×Int))=>(tp [(ag (aa y.1)),(ag (al y.2.1)),(bA y.2.2.1),(iA y.2.2.2)])) (by simp only[cD,dL]; exact x a.1 0) fun b=>.s (ag (aa b.1)) (.s (ag (al b.2.1)) (.s (bA b.2.2.1) (.s (iA b.2.2.2) (.sq (pt 6 0) (.sq (pt 7 0) (.sh (.s [bx (aa a.1),bx (aa f.1),bx (aa h.1),bx (aa i.1),bx (aa j.1),bx (aa l.1),bx (aa b.1),bx (al b.2.1)] (.st (aC ..) (.bg (fun t (y:Bool)=>∃ a7 a8:A,t=[(bA y),a7,a8]) ?_ ?_))))))))))))))))))))
 ·refine .bi ?_ ?_
  ·exact .lg ⟨_,_,rfl⟩
  exact .st (aC ..) (.lg ⟨_,_,rfl⟩)
 rintro _ y9 ⟨a7,a8,rfl⟩
 refine .uc (.uc (.uc (.bg (fun t (y:Bool)=>∃ a9 ab:A,t=[(bA y),a9,ab]) ?_ ?_)))
 ·refine .bi ?_ ?_
  ·exact .lg ⟨_,_,rfl⟩
  exact .st (aC ..) (.lg ⟨_,_,rfl⟩)
 rintro _ dt ⟨a9,ab,rfl⟩
 refine .uc (.uc (.uc (.bg (fun t (y:Bool)=>∃ ad ae:A,t=[(bA y),ad,ae]) ?_ ?_)))
 ·refine .bi ?_ ?_
  ·exact .lg ⟨_,_,rfl⟩
  exact .st (aC ..) (.lg ⟨_,_,rfl⟩)
 rintro _ du ⟨ad,ae,rfl⟩
 refine .uc (.uc (.uc (.bg (fun t (y:Bool)=>∃ ah ai:A,t=[(bA y),ah,ai]) ?_ ?_)))
 ·refine .bi ?_ ?_
  ·exact .lg ⟨_,_,rfl⟩
  exact .st (aC ..) (.lg ⟨_,_,rfl⟩)
 rintro _ dv ⟨ah,ai,rfl⟩
 refine .uc (.uc (.uc (.bg (fun t (y:Bool)=>∃ aj ak:A,t=[(bA y),aj,ak]) ?_ ?_)))
 ·refine .bi ?_ ?_
  ·exact .lg ⟨_,_,rfl⟩
  exact .st (aC ..) (.lg ⟨_,_,rfl⟩)
 rintro _ dw ⟨aj,ak,rfl⟩
 refine .uc (.uc (.uc (.bg (fun t (y:Bool)=>∃ am an:A,t=[(bA y),am,an]) ?_ ?_)))
 ·refine .bi ?_ ?_
  ·exact .lg ⟨_,_,rfl⟩
  exact .st (aC ..) (.lg ⟨_,_,rfl⟩)
 rintro _ dx ⟨am,an,rfl⟩
 refine .uc (.uc (.uc (.bg (fun t (y:Bool)=>∃ ao ap ar aw:A,t=[(bA y),ao,ap,ar,aw]) ?_ ?_)))
 ·refine .bi ?_ ?_
  ·exact .lg ⟨_,_,_,_,rfl⟩
  exact .s (pt 0 2) (.s (im (a.1.Ears.map av) false) (.st (eE (e:=55)) (.st (aC ..) (.lg ⟨_,_,_,_,rfl⟩))))
 rintro _ dy ⟨ao,ap,ar,aw,rfl⟩
 refine .u4 (.uc (.bg (fun t (y:Bool)=>∃ ax ay az:A,t=[(bA y),ax,ay,az]) ?_ ?_))
 ·refine .bi ?_ ?_
  ·exact .lg ⟨_,_,_,rfl⟩
  exact .s (ag (aa a.1)) (.bd (g:=fun (y:Int)=>(iA y)) (by simp only[cD,dL]; exact a5 a.1) fun dz=>.st (aC ..) (.lg ⟨_,_,_,rfl⟩))
 rintro _ e0 ⟨ax,ay,az,rfl⟩
 refine .u4 (.bg (fun t (y:Bool)=>∃ b0 b1 b2:A,t=[(bA y),b0,b1,b2]) ?_ ?_)
 ·refine .bi ?_ ?_
  ·exact .lg ⟨_,_,_,rfl⟩
  exact .s (ag [Sv,Sv,Sv,(iA 0)]) (.bd (g:=fun (y:Int)=>(iA y)) (by simp only[cD,dL]; exact a5 ((aq.mk ((aM.mk ([]) ([]))) ([]) 0))) fun e1=>.st (aC ..) (.lg ⟨_,_,_,rfl⟩))
 rintro _ e2 ⟨b0,b1,b2,rfl⟩
 refine .u4 (.cd ?_ ?_)
 ·exact .lv rfl
 refine .s (ag (aa a.1)) (.s (ag [(iA 4),(iA 0),(iA 0),(iA 2)]) (.bd (g:=fun (y:(aq×Int))=>(tp [(ag (aa y.1)),(iA y.2)])) (by simp only[cD,dL]; exact h9 a.1 ((aO.mk 4 0 0 2))) fun o=>.s (ag (aa o.1)) (.s (iA o.2) (.sq (pt 8 0) (.s [bx (aa a.1),bx (aa f.1),bx (aa h.1),bx (aa i.1),bx (aa j.1),bx (aa l.1),bx (aa b.1),bx (al b.2.1),bx (aa o.1)] (.s (ag (aa o.1)) (.s (ag [(iA 5),(iA 0),(iA 0),(iA 3)]) (.bd (g:=fun (y:(aq×Int))=>(tp [(ag (aa y.1)),(iA y.2)])) (by simp only[cD,dL]; exact h9 o.1 ((aO.mk 5 0 0 3))) fun p=>.s (ag (aa p.1)) (.s (iA p.2) (.sq (pt 9 0) (.s [bx (aa a.1),bx (aa f.1),bx (aa h.1),bx (aa i.1),bx (aa j.1),bx (aa l.1),bx (aa b.1),bx (al b.2.1),bx (aa o.1),bx (aa p.1)] (.s (ag (aa p.1)) (.s (ag [(iA 6),(iA 1),(iA 0),(iA 3)]) (.bd (g:=fun (y:(aq×Int))=>(tp [(ag (aa y.1)),(iA y.2)])) (by simp only[cD,dL]; exact h9 p.1 ((aO.mk 6 1 0 3))) fun u=>.s (ag (aa u.1)) (.s (iA u.2) (.sq (pt 10 0) (.s [bx (aa a.1),bx (aa f.1),bx (aa h.1),bx (aa i.1),bx (aa j.1),bx (aa l.1),bx (aa b.1),bx (al b.2.1),bx (aa o.1),bx (aa p.1),bx (aa u.1)] (.s (ag (aa u.1)) (.bd (g:=fun (y:(aq×ba×Bool×Int))=>(tp [(ag (aa y.1)),(ag (al y.2.1)),(bA y.2.2.1),(iA y.2.2.2)])) (by simp only[cD,dL]; exact x u.1 1) fun d=>.s (ag (aa d.1)) ?_)))))))))))))))))))
 refine .s (ag (al d.2.1)) (.s (bA d.2.2.1) (.s (iA d.2.2.2) (.sq (pt 11 0) (.sq (pt 12 0) (.sh (.s [bx (aa a.1),bx (aa f.1),bx (aa h.1),bx (aa i.1),bx (aa j.1),bx (aa l.1),bx (aa b.1),bx (al b.2.1),bx (aa o.1),bx (aa p.1),bx (aa u.1),bx (aa d.1),bx (al d.2.1)] (.s (ag (aa d.1)) (.bd (g:=fun (y:(aq×ba×Bool×Int))=>(tp [(ag (aa y.1)),(ag (al y.2.1)),(bA y.2.2.1),(iA y.2.2.2)])) (by simp only[cD,dL]; exact x d.1 0) fun c=>.s (ag (aa c.1)) (.s (ag (al c.2.1)) (.s (bA c.2.2.1) (.s (iA c.2.2.2) (.sq (pt 13 0) (.sq (pt 14 0) (.sh (.s [bx (aa a.1),bx (aa f.1),bx (aa h.1),bx (aa i.1),bx (aa j.1),bx (aa l.1),bx (aa b.1),bx (al b.2.1),bx (aa o.1),bx (aa p.1),bx (aa u.1),bx (aa d.1),bx (al d.2.1),bx (aa c.1),bx (al c.2.1)] (.s (ag (aa c.1)) (.s (im [[(iA 0)],[(iA 1)]] true) (.bd (g:=fun (y:(aq×Int))=>(tp [(ag (aa y.1)),(iA y.2)])) (by simp only[cD,dL]; exact a0 c.1 ([]) ([0,1])) fun k=>.s (ag (aa k.1)) (.s (iA k.2) (.sq (pt 15 0) (.s [bx (aa a.1),bx (aa f.1),bx (aa h.1),bx (aa i.1),bx (aa j.1),bx (aa l.1),bx (aa b.1),bx (al b.2.1),bx (aa o.1),bx (aa p.1),bx (aa u.1),bx (aa d.1),bx (al d.2.1),bx (aa c.1),bx (al c.2.1),bx (aa k.1)] ?_)))))))))))))))))))))
 refine .s (ag (aa c.1)) (.s (im [[(iA 0)],[(iA 0)]] true) (.bd (g:=fun (y:(aq×Int))=>(tp [(ag (aa y.1)),(iA y.2)])) (by simp only[cD,dL]; exact a0 c.1 ([]) ([0,0])) fun v=>.s (ag (aa v.1)) (.s (iA v.2) (.sq (pt 16 0) (.s [bx (aa a.1),bx (aa f.1),bx (aa h.1),bx (aa i.1),bx (aa j.1),bx (aa l.1),bx (aa b.1),bx (al b.2.1),bx (aa o.1),bx (aa p.1),bx (aa u.1),bx (aa d.1),bx (al d.2.1),bx (aa c.1),bx (al c.2.1),bx (aa k.1),bx (aa v.1)] (.s (ag (aa c.1)) (.s (im [[(iA 0)]] true) (.s (im [[(iA 0)],[(iA 1)]] true) (.bd (g:=fun (y:(aq×Int))=>(tp [(ag (aa y.1)),(iA y.2)])) (by simp only[cD,dL]; exact a0 c.1 ([0]) ([0,1])) fun w=>.s (ag (aa w.1)) (.s (iA w.2) (.sq (pt 17 0) (.s [bx (aa a.1),bx (aa f.1),bx (aa h.1),bx (aa i.1),bx (aa j.1),bx (aa l.1),bx (aa b.1),bx (al b.2.1),bx (aa o.1),bx (aa p.1),bx (aa u.1),bx (aa d.1),bx (al d.2.1),bx (aa c.1),bx (al c.2.1),bx (aa k.1),bx (aa v.1),bx (aa w.1)] (.st (aC ..) (.bg (fun t (y:Bool)=>∃ b3 b4:A,t=[(bA y),b3,b4]) ?_ ?_))))))))))))))
 ·refine .bi ?_ ?_
  ·exact .lg ⟨_,_,rfl⟩
  exact .st (aC ..) (.lg ⟨_,_,rfl⟩)
 rintro _ e3 ⟨b3,b4,rfl⟩
 refine .uc (.uc (.uc (.bg (fun t (y:Bool)=>∃ b5 b6:A,t=[(bA y),b5,b6]) ?_ ?_)))
 ·refine .bi ?_ ?_
  ·exact .lg ⟨_,_,rfl⟩
  exact .st (aC ..) (.lg ⟨_,_,rfl⟩)
 rintro _ e4 ⟨b5,b6,rfl⟩
 refine .uc (.uc (.uc (.bg (fun t (y:Bool)=>∃ b7 b8:A,t=[(bA y),b7,b8]) ?_ ?_)))
 ·refine .bi ?_ ?_
  ·exact .lg ⟨_,_,rfl⟩
  exact .st (aC ..) (.lg ⟨_,_,rfl⟩)
 rintro _ e5 ⟨b7,b8,rfl⟩
 refine .uc (.uc (.uc (.bg (fun t (y:Bool)=>∃ b9 bb:A,t=[(bA y),b9,bb]) ?_ ?_)))
 ·refine .bi ?_ ?_
  ·exact .lg ⟨_,_,rfl⟩
  exact .st (aC ..) (.lg ⟨_,_,rfl⟩)
 rintro _ e6 ⟨b9,bb,rfl⟩
 refine .uc (.uc (.uc (.bg (fun t (y:Bool)=>∃ bc be:A,t=[(bA y),bc,be]) ?_ ?_)))
 ·refine .bi ?_ ?_
  ·exact .lg ⟨_,_,rfl⟩
  exact .st (aC ..) (.lg ⟨_,_,rfl⟩)
 rintro _ e8 ⟨bc,be,rfl⟩
 refine .uc (.uc (.uc (.bg (fun t (y:Bool)=>∃ bf bh:A,t=[(bA y),bf,bh]) ?_ ?_)))
 ·refine .bi ?_ ?_
  ·exact .lg ⟨_,_,rfl⟩
  exact .st (aC ..) (.lg ⟨_,_,rfl⟩)
 rintro _ e9 ⟨bf,bh,rfl⟩
 refine .uc (.uc (.uc (.bg (fun t (y:Bool)=>∃ bj bk:A,t=[(bA y),bj,bk]) ?_ ?_)))
 ·refine .bi ?_ ?_
  ·exact .lg ⟨_,_,rfl⟩
  exact .st (aC ..) (.lg ⟨_,_,rfl⟩)
 rintro _ ea ⟨bj,bk,rfl⟩
 refine .uc (.uc (.uc (.bg (fun t (y:Bool)=>∃ bl:A,t=[(bA y),bl]) ?_ ?_)))
 ·refine .bi ?_ ?_
  ·exact .lg ⟨_,rfl⟩
  exact .lg ⟨_,rfl⟩
 rintro _ eb ⟨bl,rfl⟩
 refine .uc (.uc (.cd ?_ ?_))
 ·exact .lv rfl
 refine .s2 (im (c.1.Ears.map av) false) (.st (eE (e:=55)) (.st (aC ..) (.bg (fun t (y:Bool)=>∃ bm bn bo bp bq br bs:A,t=[(bA y),bm,bn,bo,bp,bq,br,bs]) ?_ ?_)))
 ·refine .bi ?_ ?_
  ·exact .lg ⟨_,_,_,_,_,_,_,rfl⟩
  exact .s (pt 13 2) (.s (im (c.1.Ears.map av) false) (.bd (gp (e:=55) (es:=3)) fun bt=>.s (A.ip (av bt)) (.s (im (bt.Cues.map au) false) (.st (eE (e:=30)) (.st (aC ..) (.lg ⟨_,_,_,_,_,_,_,rfl⟩))))))
 rintro _ ec ⟨bm,bn,bo,bp,bq,br,bs,rfl⟩
 refine .u4 (.u4 (.bg (fun t (y:Bool)=>∃ bu bv bw bz c0 c1 c2 c3 c4:A,t=[(bA y),bu,bv,bw,bz,c0,c1,c2,c3,c4]) ?_ ?_))
 ·refine .bi ?_ ?_
  ·exact .lg ⟨_,_,_,_,_,_,_,_,_,rfl⟩
  exact .s (pt 13 2) (.s (im (c.1.Ears.map av) false) (.bd (gp (e:=55) (es:=3)) fun c5=>.s (A.ip (av c5)) (.s (im (c5.Cues.map au) false) (.bd (gp (e:=30) (es:=4)) fun z=>.s (ag (au z)) (.s (ag [(iA 5),(iA 0),(iA 0),(iA 3)]) (.s (bA (!((z.No==5)&&((z.Role==0)&&((z.Bar==0)&&(z.Program==3)))))) (.lg ⟨_,_,_,_,_,_,_,_,_,rfl⟩)))))))
 rintro _ ed ⟨bu,bv,bw,bz,c0,c1,c2,c3,c4,rfl⟩
 refine .u4 (.u4 (.uc (.uc (.bg (fun t (y:Bool)=>∃ c6 c7 c8 c9 ca:A,t=[(bA y),c6,c7,c8,c9,ca]) ?_ ?_))))
 ·refine .bi ?_ ?_
  ·exact .lg ⟨_,_,_,_,_,rfl⟩
  exact .s (pt 13 0) (.s (pt 13 0) (.s (im (c.1.Net.Queue.map af) false) (.st (eE (e:=48)) (.st (aC ..) (.lg ⟨_,_,_,_,_,rfl⟩)))))
 rintro _ ee ⟨c6,c7,c8,c9,ca,rfl⟩
 refine .u4 (.uc (.uc (.cd ?_ ?_)))
 ·exact .lv rfl
 refine .s2 (im (k.1.Ears.map av) false) (.s (im [[(iA 3)]] true) (.s (im [[(iA 3)]] true) (.s (ag [Sv,(im [[(iA 3)]] true),(im [[(iA 3)]] true)]) (.s (im [[(iA 0)]] true) (.s (im [[(iA 0)]] true) (.s (ag [Sv,(im [[(iA 0)]] true),(im [[(iA 0)]] true)]) (.s (im [[(im [] false),(im [[(iA 3)]] false),(im [[(iA 3)]] false)],[(im [] false),(im [[(iA 0)]] false),(im [[(iA 0)]] false)]] true) (.bd (g:=fun (y:Bool)=>(bA y)) (by simp only[cD,dL]; exact a1 k.1.Ears ([(aP.mk ([]) ([3]) ([3])),(aP.mk ([]) ([0]) ([0]))])) fun dn=>.s (bA (!dn)) (.bg (fun t (y:Bool)=>∃ cb cc ce cf cg ch ci cj ck cl cm:A,t=[(bA y),cb,cc,ce,cf,cg,ch,ci,cj,ck,cl,cm]) ?_ ?_)))))))))
 ·refine .bi ?_ ?_
  ·exact .lg ⟨_,_,_,_,_,_,_,_,_,_,_,rfl⟩
  exact .s (pt 16 2) (.s (im (v.1.Ears.map av) false) (.s (im [[(iA 3)]] true) (.s (im [[(iA 0)]] true) (.s (ag [Sv,(im [[(iA 3)]] true),(im [[(iA 0)]] true)]) (.s (im [[(iA 0)]] true) (.s (im [[(iA 0)]] true) (.s (ag [Sv,(im [[(iA 0)]] true),(im [[(iA 0)]] true)]) (.s (im [[(im [] false),(im [[(iA 3)]] false),(im [[(iA 0)]] false)],[(im [] false),(im [[(iA 0)]] false),(im [[(iA 0)]] false)]] true) (.bd (g:=fun (y:Bool)=>(bA y)) (by simp only[cD,dL]; exact a1 v.1.Ears ([(aP.mk ([]) ([3]) ([0])),(aP.mk ([]) ([0]) ([0]))])) fun dp=>.s (bA (!dp)) (.lg ⟨_,_,_,_,_,_,_,_,_,_,_,rfl⟩))))))))))
 rintro _ ef ⟨cb,cc,ce,cf,cg,ch,ci,cj,ck,cl,cm,rfl⟩
 refine .u4 (.u4 (.u4 (.bg (fun t (y:Bool)=>∃ cn co cp cq cr cs ct cu cv cw cx:A,t=[(bA y),cn,co,cp,cq,cr,cs,ct,cu,cv,cw,cx]) ?_ ?_)))
 ·refine .bi ?_ ?_
  ·exact .lg ⟨_,_,_,_,_,_,_,_,_,_,_,rfl⟩
  exact .s (pt 17 2) (.s (im (w.1.Ears.map av) false) (.s (im [[(iA 0)]] true) (.s (im [[(iA 0)]] true) (.s (ag [Sv,(im [[(iA 0)]] true),(im [[(iA 0)]] true)]) (.s (im [[(iA 0)]] true) (.s (im [[(iA 0)]] true) (.s (ag [Sv,(im [[(iA 0)]] true),(im [[(iA 0)]] true)]) (.s (im [[(im [] false),(im [[(iA 0)]] false),(im [[(iA 0)]] false)],[(im [] false),(im [[(iA 0)]] false),(im [[(iA 0)]] false)]] true) (.bd (g:=fun (y:Bool)=>(bA y)) (by simp only[cD,dL]; exact a1 w.1.Ears ([(aP.mk ([]) ([0]) ([0])),(aP.mk ([]) ([0]) ([0]))])) fun dq=>.s (bA (!dq)) (.lg ⟨_,_,_,_,_,_,_,_,_,_,_,rfl⟩))))))))))
 rintro _ eg ⟨cn,co,cp,cq,cr,cs,ct,cu,cv,cw,cx,rfl⟩
 refine .u4 (.u4 (.u4 (.cd ?_ ?_)))
 ·exact .lv rfl
 refine .s (ag (aa k.1)) (.bd (g:=fun (y:(aq×ba×Bool×Int))=>(tp [(ag (aa y.1)),(ag (al y.2.1)),(bA y.2.2.1),(iA y.2.2.2)])) (by simp only[cD,dL]; exact x k.1 0) fun q=>.s (ag (aa q.1)) (.s (ag (al q.2.1)) (.s (bA q.2.2.1) (.s (iA q.2.2.2) (.sq (pt 18 0) (.sq (pt 19 0) (.sh (.s [bx (aa a.1),bx (aa f.1),bx (aa h.1),bx (aa i.1),bx (aa j.1),bx (aa l.1),bx (aa b.1),bx (al b.2.1),bx (aa o.1),bx (aa p.1),bx (aa u.1),bx (aa d.1),bx (al d.2.1),bx (aa c.1),bx (al c.2.1),bx (aa k.1),bx (aa v.1),bx (aa w.1),bx (aa q.1),bx (al q.2.1)] (.st (aC ..) (.bg (fun t (y:Bool)=>∃ cy cz d0:A,t=[(bA y),cy,cz,d0]) ?_ ?_))))))))))
 ·refine .bi ?_ ?_
  ·exact .lg ⟨_,_,_,rfl⟩
  exact .s (pt 15 3) (.s (iA k.1.Bar) (.st (aC ..) (.lg ⟨_,_,_,rfl⟩)))
 rintro _ eh ⟨cy,cz,d0,rfl⟩
 refine .u4 (.bg (fun t (y:Bool)=>∃ d1 d2 d3 d4 d5:A,t=[(bA y),d1,d2,d3,d4,d5]) ?_ ?_)
 ·refine .bi ?_ ?_
  ·exact .lg ⟨_,_,_,_,_,rfl⟩
  exact .s (pt 15 0) (.s (pt 15 0) (.s (im (k.1.Net.Queue.map af) false) (.st (eE (e:=48)) (.st (aC ..) (.lg ⟨_,_,_,_,_,rfl⟩)))))
 rintro _ ei ⟨d1,d2,d3,d4,d5,rfl⟩
 refine .u4 (.uc (.uc (.bg (fun t (y:Bool)=>∃ d6 d7 d8 d9 da db:A,t=[(bA y),d6,d7,d8,d9,da,db]) ?_ ?_)))
 ·refine .bi ?_ ?_
  ·exact .lg ⟨_,_,_,_,_,_,rfl⟩
  exact .s (pt 18 2) (.s (im (q.1.Ears.map av) false) (.s (pt 15 2) (.s (im (k.1.Ears.map av) false) (.bd (g:=fun (y:Bool)=>(bA y)) (by simp only[cD,dL]; exact a1 q.1.Ears k.1.Ears) fun dr=>.s (bA (!dr)) (.lg ⟨_,_,_,_,_,_,rfl⟩)))))
 rintro _ ej ⟨d6,d7,d8,d9,da,db,rfl⟩
 refine .u4 (.uc (.uc (.uc (.cd ?_ ?_))))
 ·exact .lv rfl
 refine .s (ag (aa q.1)) (.bd (g:=fun (y:(aq×ba×Bool×Int))=>(tp [(ag (aa y.1)),(ag (al y.2.1)),(bA y.2.2.1),(iA y.2.2.2)])) (by simp only[cD,dL]; exact x q.1 0) fun r=>.s (ag (aa r.1)) (.s (ag (al r.2.1)) (.s (bA r.2.2.1) (.s (iA r.2.2.2) (.sq (pt 20 0) (.sq (pt 21 0) (.sh (.s [bx (aa a.1),bx (aa f.1),bx (aa h.1),bx (aa i.1),bx (aa j.1),bx (aa l.1),bx (aa b.1),bx (al b.2.1),bx (aa o.1),bx (aa p.1),bx (aa u.1),bx (aa d.1),bx (al d.2.1),bx (aa c.1),bx (al c.2.1),bx (aa k.1),bx (aa v.1),bx (aa w.1),bx (aa q.1),bx (al q.2.1),bx (aa r.1),bx (al r.2.1)] (.s (ag (aa r.1)) (.bd (g:=fun (y:(aq×Int))=>(tp [(ag (aa y.1)),(iA y.2)])) (by simp only[cD,dL]; exact a6 r.1 0) fun a3=>.s (ag (aa a3.1)) (.s (iA a3.2) (.sq (pt 22 0) (.s [bx (aa a.1),bx (aa f.1),bx (aa h.1),bx (aa i.1),bx (aa j.1),bx (aa l.1),bx (aa b.1),bx (al b.2.1),bx (aa o.1),bx (aa p.1),bx (aa u.1),bx (aa d.1),bx (al d.2.1),bx (aa c.1),bx (al c.2.1),bx (aa k.1),bx (aa v.1),bx (aa w.1),bx (aa q.1),bx (al q.2.1),bx (aa r.1),bx (al r.2.1),bx (aa a3.1)] (.st (aV ..) (.bg (fun t (y:Bool)=>∃ dc dd:A,t=[(bA y),dc,dd]) ?_ ?_)))))))))))))))
 ·refine .bi ?_ ?_
  ·exact .st (aV ..) (.lg ⟨_,_,rfl⟩)
  exact .lg ⟨_,_,rfl⟩
 rintro _ ek ⟨dc,dd,rfl⟩
 refine .uc (.uc (.uc (.bg (fun t (y:Bool)=>∃ de:A,t=[(bA y),de]) ?_ ?_)))
 ·refine .bi ?_ ?_
  ·exact .lg ⟨_,rfl⟩
  exact .lg ⟨_,rfl⟩
 rintro _ el ⟨de,rfl⟩
 refine .uc (.uc (.bg (fun t (y:Bool)=>∃ df dg dh:A,t=[(bA y),df,dg,dh]) ?_ ?_))
 ·refine .bi ?_ ?_
  ·exact .s (ag (al r.2.1)) (.s (ag [(iA 0),(iA 0),(iA 3)]) (.s (bA (((r.2.1.Role==0)&&((r.2.1.Bar==0)&&(r.2.1.Program==3))))) (.lg ⟨_,_,_,rfl⟩)))
  exact .lg ⟨_,_,_,rfl⟩
 rintro _ em ⟨df,dg,dh,rfl⟩
 refine .u4 (.bg (fun t (y:Bool)=>∃ di dj dk dl dm:A,t=[(bA y),di,dj,dk,dl,dm]) ?_ ?_)
 ·refine .bi ?_ ?_
  ·exact .s (pt 22 0) (.s (pt 22 0) (.s (im (a3.1.Net.Queue.map af) false) (.st (eE (e:=48)) (.st (aV ..) (.lg ⟨_,_,_,_,_,rfl⟩)))))
  exact .lg ⟨_,_,_,_,_,rfl⟩
 rintro _ en ⟨di,dj,dk,dl,dm,rfl⟩
 exact .u4 (.uc (.uc (.lv rfl)))
def G7  : Option Bool:=F7 az
def I4 (C:OT):Prop:=∀ (_:Unit),C 7 []=(G7 ).map fun y=>(bA y)
def K5 (n:Nat) (a:aM):Option Bool:=
 (bif (decide (((a.Queue.length:Int))<=40)) then (some (decide (((a.Apart.length:Int))<=40))) else (some false)).bind fun b=>some b
theorem QB (C:OT) (n:Nat) (a:aM):TJ C n 23 [(ag [(im (a.Queue.map af) false),(im (a.Apart.map ai) false)])] (K5 n a) (fun y=>(bA y)):=by
 refine .lp (Re ..) ?_
 unfold K5
 refine .s ((pt 0 0),[bx [(im (a.Queue.map af) false),(im (a.Apart.map ai) false)]]) (.s2 (im (a.Queue.map af) false) (.st (eE (e:=48)) (.st (fm ..) (.bg (fun t (y:Bool)=>∃ b c d f:A,t=[(bA y),b,c,d,f]) ?_ ?_))))
 ·refine .bi ?_ ?_
  ·exact .s (pt 0 1) (.s (im (a.Apart.map ai) false) (.st (eE (e:=115)) (.st (fm ..) (.lg ⟨_,_,_,_,rfl⟩))))
  exact .lg ⟨_,_,_,_,rfl⟩
 rintro _ g ⟨b,c,d,f,rfl⟩
 exact .u4 (.uc (.lv rfl))
def IL (a:aM):Option Bool:=K5 az a
def FL (C:OT):Prop:=∀ (a:aM),C 23 [(ag [(im (a.Queue.map af) false),(im (a.Apart.map ai) false)])]=(IL a).map fun y=>(bA y)
def nG (n:Nat) (d:Bool) (b:aq):Nat->Int->Option ((Bool)⊕(Unit))
 | 0,_=>none
 | m+1,c=>bif (decide (c<((b.Ears.length:Int)))) then ((bE b.Ears c).bind fun a=>(bif (decide (40<((a.Cues.length:Int)))) then (some true) else ((bif (decide (60<((a.Got.length:Int)))) then (some (decide (((a.Got.length:Int))<4094))) else (some false)).bind fun e=>some e)).bind fun f=>(bif f then (some true) else (some (decide (5000<((a.Got.length:Int)))))).bind fun g=>(bif g then (some true) else (some (decide (5000<((a.Did.length:Int)))))).bind fun h=>bif h then (some ((Sum.inl false))) else (nG n d b m (wr .i64 (c+1)))) else (some ((Sum.inr (()))))
theorem G1 (g:Bool) (b:aq) {K:((Bool)⊕(Unit))->Option γ} (x0:∀ (h:Bool) (c:A) (d:A) (q0:aD) (q1:aD),J φ (kr (St.mk [(1,c),(2,(bA h)),(4,d)] [q0,q1])) kL (K (Sum.inl h)) some) (x1:∀ (c:A) (s2:A) (d:A) (q0:aD),J φ (kx 0 (St.mk [(1,c),(2,s2),(4,d)] [q0])) kL (K (Sum.inr (()))) some) :
  ∀ (m:Nat) (f:Int),J φ (aI (cx C) (ec C n 8) (ey C n 8) (n+8) 8 0 0 1 kx kg kr kp m (St.mk [(1,(pt 0 0)),(2,(bA g)),(4,(iA f))] [bx (aa b)])) kL (nG n g b m f) K:=by
  refine nI (fun _=>.nn) fun m ih f=>.lp (M7 ..) ?_
  unfold nG
  refine .s2 (im (b.Ears.map av) false) (.st (eE (e:=55)) (.st (bj ..) (.cd ?_ ?_)))
  ·refine .s2 (im (b.Ears.map av) false) (.bd (gp (e:=55) (es:=3)) fun a=>.s (ag (av a)) (.sq (pt 1 0) (.s [bx (aa b),bx (av a)] (.s2 (im (a.Cues.map au) false) (.st (eE (e:=30)) (.st (dg ..) (.bg (fun t (y:Bool)=>∃ i j k l o p q r u w:A,t=[(bA y),i,j,k,l,o,p,q,r,u,w]) ?_ ?_)))))))
   ·refine .bi ?_ ?_
    ·exact .lg ⟨_,_,_,_,_,_,_,_,_,_,rfl⟩
    refine .s (pt 1 1) (.s (im (a.Got.map (cI .i64)) false) (.st (eE (e:=3)) (.st (dg ..) (.bg (fun t (y:Bool)=>∃ x z a0 a1:A,t=[(bA y),x,z,a0,a1]) ?_ ?_))))
    ·refine .bi ?_ ?_
     ·exact .s (pt 1 1) (.s (im (a.Got.map (cI .i64)) false) (.st (eE (e:=3)) (.st (bj ..) (.lg ⟨_,_,_,_,rfl⟩))))
     exact .lg ⟨_,_,_,_,rfl⟩
    rintro _ ae ⟨x,z,a0,a1,rfl⟩
    exact .u4 (.uc (.lg ⟨_,_,_,_,_,_,_,_,_,_,rfl⟩))
   rintro _ af ⟨i,j,k,l,o,p,q,r,u,w,rfl⟩
   refine .u4 (.u4 (.uc (.uc (.uc (.bg (fun t (y:Bool)=>∃ a2 a3 a4 a5:A,t=[(bA y),a2,a3,a4,a5]) ?_ ?_)))))
   ·refine .bi ?_ ?_
    ·exact .lg ⟨_,_,_,_,rfl⟩
    exact .s (pt 1 1) (.s (im (a.Got.map (cI .i64)) false) (.st (eE (e:=3)) (.st (dg ..) (.lg ⟨_,_,_,_,rfl⟩))))
   rintro _ ah ⟨a2,a3,a4,a5,rfl⟩
   refine .u4 (.uc (.bg (fun t (y:Bool)=>∃ a6 a7 a8 a9:A,t=[(bA y),a6,a7,a8,a9]) ?_ ?_))
   ·refine .bi ?_ ?_
    ·exact .lg ⟨_,_,_,_,rfl⟩
    exact .s (pt 1 2) (.s (im (a.Did.map (cI .i64)) false) (.st (eE (e:=3)) (.st (dg ..) (.lg ⟨_,_,_,_,rfl⟩))))
   rintro _ ai ⟨a6,a7,a8,a9,rfl⟩
   refine .u4 (.uc (.cd ?_ ?_))
   ·exact .ex (x0 _ _ _ _ _)
   refine .st (aF ..) (.st (v:=[bx (aa b)]) (fb r7 An) (.cT r7 ?_))
   exact ih _
  exact .ex (x1 _ _ _ _)
def F8 (n:Nat) (a:aq):Option Bool:=
 (IL a.Net).bind fun b=>(bif (!b) then (some true) else (some (decide (20<((a.Ears.length:Int)))))).bind fun c=>bif c then (some false) else ((nG n false a (n+8) 0).bind fun d=>match d with | (Sum.inl e)=>some e | (Sum.inr _)=>some true)
theorem T8 (C:OT) (n:Nat) (h:FL C) (a:aq):TJ C n 8 [(ag (aa a))] (F8 n a) (fun y=>(bA y)):=by
 refine .lp (e8 ..) ?_
 unfold F8
 refine .s ((pt 0 0),[bx (aa a)]) (.s2 (ag [(im (a.Net.Queue.map af) false),(im (a.Net.Apart.map ai) false)]) (.bd (g:=fun (y:Bool)=>(bA y)) (by simp only[cD,dL]; exact h a.Net) fun i=>.s (bA (!i)) (.bg (fun t (y:Bool)=>∃ b c d f:A,t=[(bA y),b,c,d,f]) ?_ ?_)))
 ·refine .bi ?_ ?_
  ·exact .lg ⟨_,_,_,_,rfl⟩
  exact .s (pt 0 2) (.s (im (a.Ears.map av) false) (.st (eE (e:=55)) (.st (dg ..) (.lg ⟨_,_,_,_,rfl⟩))))
 rintro _ j ⟨b,c,d,f,rfl⟩
 refine .u4 (.uc (.cd ?_ ?_))
 ·exact .lv rfl
 refine .as (G1 C n _ _ _ _ false a ?_ ?_ _ 0)
 ·intro k l o w95 w96
  exact .un rfl (.lv rfl)
 ·intro p q r w100
  exact .un rfl (.cT r7 (.lv rfl))
def G8 (a:aq):Option Bool:=F8 az a
def I5 (C:OT):Prop:=∀ (a:aq),C 8 [(ag (aa a))]=(G8 a).map fun y=>(bA y)
def m5 (a:(List ah)):aD:=bx [(iA 3),(iA 0),se,(bU 4 0 a.length false)]
abbrev m6:A:=(ag [(iA 0),(iA 0),se,(im [] false)])
def GV (C:OT) (N:Nat) (self:(List UInt8)->Int->Bool->Int->Option (ah×Int×Bool)):Prop:=∀ (a:(List UInt8)) (a2:Int) (b:Bool) (c:Int) (X:ar),J (fun (o:R) (y:(ah×Int×Bool))=>o=(Out.ret (ag [(iA y.1.Kind),(iA y.1.N),(sA y.1.S),(im (y.1.L.map ak) false)]),[aA,bx [(im (a.map c8) false),(iA y.2.1),(bA y.2.2)]]++X)) (dx (cx C) N 95 [(pt 1 0),(iA c)] ([aA,bx [(im (a.map c8) false),(iA a2),(bA b)]]++X) 0) some (self a a2 b c) some
def eF (n:Nat) (d:(List UInt8)):Nat->Int->Int->Int->Bool->Option ((Int×Int×Bool)⊕(Int×Bool))
 | 0,_,_,_,_=>none
 | m+1,f,b,c,e=>bif (!e) then ((bif (decide (((d.length:Int))<=c)) then (some ((0,c,true))) else ((bE d (wr .i64 ((wr .i64 (c+1)) - 1))).bind fun g=>some (((g.toNat:Int),wr .i64 (c+1),e)))).bind fun a=>(bif (b==9) then (some (decide (1<a.1))) else (some false)).bind fun h=>(bif h then (some true) else ((bif (decide (0<b)) then (some (a.1==0)) else (some false)).bind fun i=>some i)).bind fun j=>bif j then (some ((Sum.inl ((0,a.2.1,true))))) else (bif decide (0<=(wr .i64 (7*b))) then (bif (decide (a.1<128)) then (some ((Sum.inl ((wr .u64 (f+(ot .u64 (wr .u64 (Int.tmod a.1 128)) (wr .i64 (7*b)))),a.2.1,a.2.2))))) else (eF n d m (wr .u64 (f+(ot .u64 (wr .u64 (Int.tmod a.1 128)) (wr .i64 (7*b))))) (wr .i64 (b+1)) a.2.1 a.2.2)) else none)) else (some ((Sum.inr ((c,e)))))
theorem nH {w338:A} {w339:aD} (a:(List UInt8)) {K:((Int×Int×Bool)⊕(Int×Bool))->Option γ} (o:∀ (d:Int) (f:Int) (p:Bool) (h:A) (i:A) (j:A),J φ (kr (St.mk [(0,h),(2,(A.v (.int .u64 d))),(3,i),(4,j)] [aA,bx [(im (a.map c8) false),(iA f),(bA p)],w339])) kL (K (Sum.inl ((d,f,p)))) some) (x1:∀ (d:Int) (f:Bool) (h:A) (s2:A) (i:A) (j:A),J φ (kx 0 (St.mk [(0,h),(2,s2),(3,i),(4,j)] [aA,bx [(im (a.map c8) false),(iA d),(bA f)],w339])) kL (K (Sum.inr ((d,f)))) some) :
  ∀ (m:Nat) (k:Int) (l:Int) (b:Int) (c:Bool),J φ (aI (cx C) (ec C n 7) (ey C n 7) (n+7) 113 0 0 3 kx kg kr kp m (St.mk [(0,(pt 1 0)),(2,w338),(3,(A.v (.int .u64 k))),(4,(iA l))] [aA,bx [(im (a.map c8) false),(iA b),(bA c)],w339])) kL (eF n a m k l b c) K:=by
  refine nI (fun _ _ _ _=>.nn) fun m ih k l b c=>.lp (Ho ..) ?_
  unfold eF
  refine .s (pt 1 0) (.s2 (bA c) (.s (bA (!c)) (.cd ?_ ?_)))
  ·refine .bg (fun (t:Out×ar) (y:Int×Int×Bool)=>t=(Out.ret (uA y.1),[aA,bx [(im (a.map c8) false),(iA y.2.1),(bA y.2.2)],w339])) ?_ ?_
   ·refine .lp ((aK CV).trans (Jk ..)) (.s (pt 1 0) (.s2 (iA b) (.s (pt 1 0) (.s2 (im (a.map c8) false) (.st (eE (e:=5)) (.st (dS ..) (.cd ?_ ?_)))))))
    ·exact .s (pt 1 0) (.s (pt 1 2) (.s [aA,bx [(im (a.map c8) false),(iA b),(bA true)],w339] (.lg rfl)))
    exact .s (pt 1 0) (.s2 (iA b) (.st (aF ..) (.s (pt 1 0) (.s (pt 1 1) (.s [aA,bx [(im (a.map c8) false),(iA (wr .i64 (b+1))),(bA c)],w339] (.s (pt 1 0) (.s2 (im (a.map c8) false) (.s (pt 1 0) (.s2 (iA (wr .i64 (b+1))) (.st (dU ..) (.bd (gp (e:=5) (es:=1)) fun a5=>.s (uA ((a5.toNat:Int))) (.lg rfl))))))))))))
   rintro _ g rfl
   refine .ok (.st (aV ..) (.bg (fun t (y:Bool)=>∃ q r:A,t=[(bA y),q,r]) ?_ ?_))
   ·refine .bi ?_ ?_
    ·exact .st (dg ..) (.lg ⟨_,_,rfl⟩)
    exact .lg ⟨_,_,rfl⟩
   rintro _ a6 ⟨q,r,rfl⟩
   refine .uc (.uc (.uc (.bg (fun t (y:Bool)=>∃ u w x z a0 a1:A,t=[(bA y),u,w,x,z,a0,a1]) ?_ ?_)))
   ·refine .bi ?_ ?_
    ·exact .lg ⟨_,_,_,_,_,_,rfl⟩
    refine .st (dg ..) (.bg (fun t (y:Bool)=>∃ a2 a3:A,t=[(bA y),a2,a3]) ?_ ?_)
    ·refine .bi ?_ ?_
     ·exact .st (aV ..) (.lg ⟨_,_,rfl⟩)
     exact .lg ⟨_,_,rfl⟩
    rintro _ a7 ⟨a2,a3,rfl⟩
    exact .uc (.uc (.uc (.lg ⟨_,_,_,_,_,_,rfl⟩)))
   rintro _ a8 ⟨u,w,x,z,a0,a1,rfl⟩
   refine .u4 (.uc (.uc (.uc (.cd ?_ ?_))))
   ·exact .s (pt 1 0) (.s (pt 1 2) (.s [aA,bx [(im (a.map c8) false),(iA g.2.1),(bA true)],w339] (.ex (o _ _ _ _ _ _))))
   refine .st (kz (hb:=by decide) ..) (.st (v:=(A.v (.int .u64 (wr .u64 (Int.tmod g.1 128))))) (aE (hs:=by kernel_rfl) (hd:=by kernel_rfl) ..) (.st (oy ..) (.gd fun hg=>.st (qM (hb:=SF hg) ..) (.st (aF ..) (.st (bj ..) (.cd ?_ ?_))))))
   ·exact .ex (o _ _ _ _ _ _)
   refine .st (aF ..) (.s [aA,bx [(im (a.map c8) false),(iA g.2.1),(bA g.2.2)],w339] (.cT r7 ?_))
   exact ih _ _ _ _
  exact .ex (x1 _ _ _ _ _ _)
def fD (self:(List UInt8)->Int->Bool->Int->Option (ah×Int×Bool)) (n:Nat) (c:Int) (d:Int) (e:(List UInt8)) (i:Int) (j:Int) (k:ByteArray):Nat->Int->Int->Bool->(List ah)->Option (Int×Bool×(List ah))
 | 0,_,_,_,_=>none
 | m+1,f,g,a,h=>(bif (decide (f<d)) then (some (!a)) else (some false)).bind fun l=>bif l then ((self e g a (wr .i64 (c+1))).bind fun b=>(cF 56 h ([b.1])).bind fun o=>fD self n c d e i j k m (wr .u64 (f+1)) b.2.1 b.2.2 o) else (some ((g,a,h)))
theorem As (self:(List UInt8)->Int->Bool->Int->Option (ah×Int×Bool)) (hS:GV C (n+8) self) {w1142:A} {w1143:aD} (o:Int) (r:Int) (d:(List UInt8)) (e:Int) (h:Int) (i:ByteArray) {K:(Int×Bool×(List ah))->Option γ} (x0:∀ (u:Int) (w:Bool) (p:(List ah)) (s1:A) (s7:A) (s9:A),J φ (kx 1 (St.mk [(0,(pt 1 0)),(1,s1),(4,w1142),(7,s7),(8,(pt 3 0)),(9,s9)] [aA,bx [(im (d.map c8) false),(iA u),(bA w)],w1143,bx [(iA e),(iA h),(sA i),(bU 4 0 p.length false)],aD.row false 4 (p.map ak)])) kL (K (u,w,p)) some) :
  ∀ (m:Nat) (q:Int) (k:Int) (j:Bool) (a:(List ah)),J φ (aI (cx C) (ec C n 8) (ey C n 8) (n+8) 95 0 0 5 kx kg kr kp m (St.mk [(0,(pt 1 0)),(1,(iA o)),(4,w1142),(7,(A.v (.int .u64 r))),(8,(pt 3 0)),(9,(A.v (.int .u64 q)))] [aA,bx [(im (d.map c8) false),(iA k),(bA j)],w1143,bx [(iA e),(iA h),(sA i),(bU 4 0 a.length false)],aD.row false 4 (a.map ak)])) kL (fD self n o r d e h i m q k j a) K:=by
  refine nI (fun _ _ _ _=>.nn) fun m ih q k j a=>.lp (JC ..) ?_
  unfold fD
  refine .st (bj ..) (.bg (fun t (y:Bool)=>∃ x z a0 a1 a2:A,t=[(bA y),x,z,a0,a1,a2]) ?_ ?_)
  ·refine .bi ?_ ?_
   ·exact .s (pt 1 0) (.s (pt 1 2) (.s (bA j) (.s (bA (!j)) (.lg ⟨_,_,_,_,_,rfl⟩))))
   exact .lg ⟨_,_,_,_,_,rfl⟩
  rintro _ a8 ⟨x,z,a0,a1,a2,rfl⟩
  refine .u4 (.uc (.uc (.cd ?_ ?_)))
  ·refine .s (pt 3 3) (.s (bU 4 0 a.length false) (.st (aF ..) (.cT r7 (.bg (fun (t:R) (y:(ah×Int×Bool))=>t=(Out.ret (ag [(iA y.1.Kind),(iA y.1.N),(sA y.1.S),(im (y.1.L.map ak) false)]),[aA,bx [(im (d.map c8) false),(iA y.2.1),(bA y.2.2)],w1143,bx [(iA e),(iA h),(sA i),(bU 4 0 a.length false)],aD.row false 4 (a.map ak)])) (hS d k j (wr .i64 (o+1)) [w1143,bx [(iA e),(iA h),(sA i),(bU 4 0 a.length false)],aD.row false 4 (a.map ak)]) ?_))))
   rintro _ c rfl
   refine .ok (.s (im [[(iA c.1.Kind),(iA c.1.N),(sA c.1.S),(im (c.1.L.map ak) false)]] true) (.bd (g:=fun (y:List ah)=>((bU 4 0 y.length false),[aA,bx [(im (d.map c8) false),(iA c.2.1),(bA c.2.2)],w1143,bx [(iA e),(iA h),(sA i),(bU 4 0 a.length false)],aD.row false 4 (y.map ak)])) (cA eo (l:=a) (l2:=[c.1]) (b:=4) rfl (by decide) (gI (f:=ak) (l:=([c.1]:List ah)) H7)) fun a3=>.s (pt 3 3) (.sh (.st (aF ..) (.s [aA,bx [(im (d.map c8) false),(iA c.2.1),(bA c.2.2)],w1143,bx [(iA e),(iA h),(sA i),(bU 4 0 a3.length false)],aD.row false 4 (a3.map ak)] (.cT r7 ?_))))))
   exact ih _ _ _ _
  exact .ex (x0 _ _ _ _ _ _)
def vR (self:(List UInt8)->Int->Bool->Int->Option (ah×Int×Bool)) (n:Nat) (c:(List UInt8)) (a2:Int) (g:Bool) (f:Int):Option (ah×Int×Bool):=
 (bif (decide (((c.length:Int))<=a2)) then (some ((0,a2,true))) else ((bE c (wr .i64 ((wr .i64 (a2+1)) - 1))).bind fun h=>some (((h.toNat:Int),wr .i64 (a2+1),g)))).bind fun b=>bif (b.1==1) then (((eF n c (n+7) 0 0 b.2.1 b.2.2).bind fun i=>match i with | (Sum.inl ((j,k,l)))=>some ((j,k,l)) | (Sum.inr ((o,p)))=>some ((0,o,p))).bind fun d=>bif ((Int.tmod d.1 2)==1) then (some (((ah.mk 1 (wr .i64 ((wr .i64 (0 - (wr .i64 (wr .u64 (Int.tdiv d.1 2))))) - 1)) iM ([])),d.2.1,d.2.2))) else (some (((ah.mk 1 (wr .i64 (wr .u64 (Int.tdiv d.1 2))) iM ([])),d.2.1,d.2.2)))) else (bif (b.1==2) then (((eF n c (n+7) 0 0 b.2.1 b.2.2).bind fun q=>match q with | (Sum.inl ((r,s,t)))=>some ((r,s,t)) | (Sum.inr ((u,v)))=>some ((0,u,v))).bind fun a=>(bif a.2.2 then (some true) else (some (decide ((wr .u64 (wr .i64 (((c.length:Int)) - a.2.1)))<a.1)))).bind fun w=>bif w then (some (((ah.mk 0 0 iM ([])),a.2.1,true))) else ((gD c (wr .i64 ((wr .i64 (a.2.1+(wr .i64 (a.1)))) - (wr .i64 (a.1)))) (wr .i64 (a.2.1+(wr .i64 (a.1))))).bind fun x=>some (((ah.mk 2 0 (fR x) ([])),wr .i64 (a.2.1+(wr .i64 (a.1))),a.2.2)))) else (bif (b.1==3) then (((eF n c (n+7) 0 0 b.2.1 b.2.2).bind fun y=>match y with | (Sum.inl ((z,a0,a5)))=>some ((z,a0,a5)) | (Sum.inr ((a6,a7)))=>some ((0,a6,a7))).bind fun e=>(bif e.2.2 then (some true) else (some (decide ((wr .u64 (wr .i64 (((c.length:Int)) - e.2.1)))<e.1)))).bind fun a8=>(bif a8 then (some true) else (some (f==16))).bind fun a9=>bif a9 then (some (((ah.mk 0 0 iM ([])),e.2.1,true))) else ((fD self n f e.1 c 3 0 iM (n+8) 0 e.2.1 e.2.2 (([]:List ah))).bind fun aa=>match aa with | (ab,ad,ae)=>some (((ah.mk 3 0 iM ae),ab,ad)))) else (some (((ah.mk 0 0 iM ([])),b.2.1,true)))))
theorem MM (C:OT) (n:Nat) (self:(List UInt8)->Int->Bool->Int->Option (ah×Int×Bool)) (hS:GV C (n+8) self) (c:(List UInt8)) (a2:Int) (q:Bool) (r:Int):J (fun (o:R) (y:(ah×Int×Bool))=>∃ Z,o=(Out.ret (ag [(iA y.1.Kind),(iA y.1.N),(sA y.1.S),(im (y.1.L.map ak) false)]),[aA,bx [(im (c.map c8) false),(iA y.2.1),(bA y.2.2)]]++Z)) (aB (cx C) (ec C n 8) (ey C n 8) (n+8) 95 [(pt 1 0),(iA r)] [aA,bx [(im (c.map c8) false),(iA a2),(bA q)]] 0) some (vR self n c a2 q r) some:=by
 refine .lp (RP ..) ?_
 unfold vR
 refine .s ((pt 2 0),[aA,bx [(im (c.map c8) false),(iA a2),(bA q)],aA]) (.bg (fun (t:Out×ar) (y:Int×Int×Bool)=>t=(Out.ret (uA y.1),[aA,bx [(im (c.map c8) false),(iA y.2.1),(bA y.2.2)],aA])) ?_ ?_)
 ·refine .lp ((aK CV).trans (Jk ..)) (.s (pt 1 0) (.s2 (iA a2) (.s (pt 1 0) (.s2 (im (c.map c8) false) (.st (eE (e:=5)) (.st (dS ..) (.cd ?_ ?_)))))))
  ·exact .s (pt 1 0) (.s (pt 1 2) (.s [aA,bx [(im (c.map c8) false),(iA a2),(bA true)],aA] (.lg rfl)))
  exact .s (pt 1 0) (.s2 (iA a2) (.st (aF ..) (.s (pt 1 0) (.s (pt 1 1) (.s [aA,bx [(im (c.map c8) false),(iA (wr .i64 (a2+1))),(bA q)],aA] (.s (pt 1 0) (.s2 (im (c.map c8) false) (.s (pt 1 0) (.s2 (iA (wr .i64 (a2+1))) (.st (dU ..) (.bd (gp (e:=5) (es:=1)) fun a9=>.s (uA ((a9.toNat:Int))) (.lg rfl))))))))))))
 rintro _ j rfl
 refine .ok (.st (aV ..) (.cd ?_ ?_))
 ·refine .bg (fun (t:Out×ar) (y:Int×Int×Bool)=>t=(Out.ret (A.v (.int .u64 y.1)),[aA,bx [(im (c.map c8) false),(iA y.2.1),(bA y.2.2)],aA])) ?_ ?_
  ·refine .lp ((aK yJ).trans (Hn ..)) (.as (nH C n _ _ _ _ c ?_ ?_ _ 0 0 j.2.1 j.2.2))
   ·intro aa ab ad ae af ai
    exact .un rfl (.lg rfl)
   ·intro aj al am an ao ap
    exact .un rfl (.cT r7 (.lg rfl))
  rintro _ g rfl
  refine .ok (.st (kz (hb:=by decide) ..) (.st (aV ..) (.cd ?_ ?_)))
  ·exact .st (qL (hb:=by decide) ..) (.st (v:=(iA (wr .i64 (wr .u64 (Int.tdiv g.1 2))))) (aE (hs:=by kernel_rfl) (hd:=by kernel_rfl) ..) (.s (iA (wr .i64 (0 - (wr .i64 (wr .u64 (Int.tdiv g.1 2)))))) (.st (dU ..) (.s (ag [(iA 1),(iA (wr .i64 ((wr .i64 (0 - (wr .i64 (wr .u64 (Int.tdiv g.1 2))))) - 1))),se,Sv]) (.s [aA,bx [(im (c.map c8) false),(iA g.2.1),(bA g.2.2)],bx [(iA 1),(iA (wr .i64 ((wr .i64 (0 - (wr .i64 (wr .u64 (Int.tdiv g.1 2))))) - 1))),se,Sv]] (.s (ag [(iA 1),(iA (wr .i64 ((wr .i64 (0 - (wr .i64 (wr .u64 (Int.tdiv g.1 2))))) - 1))),se,(im [] false)]) (.lf rfl rfl (fQ (o:=Out.ret (ag [(iA 1),(iA (wr .i64 ((wr .i64 (0 - (wr .i64 (wr .u64 (Int.tdiv g.1 2))))) - 1))),se,(im [] false)])) (lo:=0) (off:=3) (b:=2) (p:=0) (H2:=[aA,bx [(im (c.map c8) false),(iA g.2.1),(bA g.2.2)]]) (X:=[bx [(iA 1),(iA (wr .i64 ((wr .i64 (0 - (wr .i64 (wr .u64 (Int.tdiv g.1 2))))) - 1))),se,Sv]]) (S9 rfl)))))))))
  exact .st (qL (hb:=by decide) ..) (.st (v:=(iA (wr .i64 (wr .u64 (Int.tdiv g.1 2))))) (aE (hs:=by kernel_rfl) (hd:=by kernel_rfl) ..) (.s (ag [(iA 1),(iA (wr .i64 (wr .u64 (Int.tdiv g.1 2)))),se,Sv]) (.s [aA,bx [(im (c.map c8) false),(iA g.2.1),(bA g.2.2)],bx [(iA 1),(iA (wr .i64 (wr .u64 (Int.tdiv g.1 2)))),se,Sv]] (.s (ag [(iA 1),(iA (wr .i64 (wr .u64 (Int.tdiv g.1 2)))),se,(im [] false)]) (.lf rfl rfl (fQ (o:=Out.ret (ag [(iA 1),(iA (wr .i64 (wr .u64 (Int.tdiv g.1 2)))),se,(im [] false)])) (lo:=0) (off:=3) (b:=2) (p:=0) (H2:=[aA,bx [(im (c.map c8) false),(iA g.2.1),(bA g.2.2)]]) (X:=[bx [(iA 1),(iA (wr .i64 (wr .u64 (Int.tdiv g.1 2)))),se,Sv]]) (S9 rfl)))))))
 refine .st (aV ..) (.cd ?_ ?_)
 ·refine .bg (fun (t:Out×ar) (y:Int×Int×Bool)=>t=(Out.ret (A.v (.int .u64 y.1)),[aA,bx [(im (c.map c8) false),(iA y.2.1),(bA y.2.2)],aA])) ?_ ?_
  ·refine .lp ((aK yJ).trans (Hn ..)) (.as (nH C n _ _ _ _ c ?_ ?_ _ 0 0 j.2.1 j.2.2))
   ·intro aq au av aw ax ay
    exact .un rfl (.lg rfl)
   ·intro az b0 b1 b2 b3 b4
    exact .un rfl (.cT r7 (.lg rfl))
  rintro _ d rfl
  refine .ok (.s (pt 1 0) (.s2 (bA d.2.2) (.KG (.bg (fun t (y:Bool)=>∃ a5:A,t=[(bA y),a5]) ?_ ?_))))
  ·refine .JP (fun u=>?_) (fun u=>?_)
   ·exact .bb (.s (pt 1 0) (.s (pt 1 0) (.s (im (c.map c8) false) (.st (eE (e:=5)) (.s (pt 1 0) (.s (pt 1 1) (.s (iA d.2.1) (.st (dU ..) (.st (v:=(A.v (.int .u64 (wr .u64 (wr .i64 (((c.length:Int)) - d.2.1)))))) (aE (hs:=by kernel_rfl) (hd:=by kernel_rfl) ..) (.cr (.u4 (.u4 (.u4 (.Gd u (.st (dg ..) (.lg ⟨_,rfl⟩))))))))))))))))
   exact .bb (.cr (.u4 (.u4 (.u4 (.Hd u (.lg ⟨_,rfl⟩))))))
  rintro _ b5 ⟨a5,rfl⟩
  refine .uc (.uc (.cd ?_ ?_))
  ·exact .s (pt 1 0) (.s (pt 1 2) (.sh (.s (ag [(iA 0),(iA 0),se,Sv]) (.s [aA,bx [(im (c.map c8) false),(iA d.2.1),(bA true)],aA] (.s m6 (.lf rfl rfl (fQ (o:=Out.ret m6) (lo:=0) (off:=3) (b:=2) (p:=0) (H2:=[aA,bx [(im (c.map c8) false),(iA d.2.1),(bA true)]]) (X:=[aA]) (S9 rfl))))))))
  exact .s (pt 1 0) (.s2 (iA d.2.1) (.st (v:=(iA (wr .i64 (d.1)))) (aE (hs:=by kernel_rfl) (hd:=by kernel_rfl) ..) (.st (aF ..) (.s (pt 1 0) (.s (pt 1 1) (.s [aA,bx [(im (c.map c8) false),(iA (wr .i64 (d.2.1+(wr .i64 (d.1))))),(bA d.2.2)],aA] (.s (pt 1 0) (.s2 (im (c.map c8) false) (.s (pt 1 0) (.s2 (iA (wr .i64 (d.2.1+(wr .i64 (d.1))))) (.st (v:=(iA (wr .i64 (d.1)))) (aE (hs:=by kernel_rfl) (hd:=by kernel_rfl) ..) (.st (dU ..) (.s (pt 1 0) (.s2 (iA (wr .i64 (d.2.1+(wr .i64 (d.1))))) (.bd (oM (e:=5) (es:=1) (f:=c8) (l:=c) (a:=wr .i64 ((wr .i64 (d.2.1+(wr .i64 (d.1)))) - (wr .i64 (d.1)))) (b:=wr .i64 (d.2.1+(wr .i64 (d.1)))) r7 r7 (fun _=>rfl) (.inr ⟨_,rfl⟩) (.inr ⟨_,rfl⟩)) fun k=>.st (v:=(A.v (Value.string (fR k)))) (mW (e:=5) (l:=k) r7 r7 r7 r7 (bz ..) rfl) (.s (ag [(iA 2),(iA 0),(A.v (Value.string (fR k))),Sv]) (.s [aA,bx [(im (c.map c8) false),(iA (wr .i64 (d.2.1+(wr .i64 (d.1))))),(bA d.2.2)],bx [(iA 2),(iA 0),(A.v (Value.string (fR k))),Sv]] (.s (ag [(iA 2),(iA 0),(A.v (Value.string (fR k))),(im [] false)]) (.lf rfl rfl (fQ (o:=Out.ret (ag [(iA 2),(iA 0),(A.v (Value.string (fR k))),(im [] false)])) (lo:=0) (off:=3) (b:=2) (p:=0) (H2:=[aA,bx [(im (c.map c8) false),(iA (wr .i64 (d.2.1+(wr .i64 (d.1))))),(bA d.2.2)]]) (X:=[bx [(iA 2),(iA 0),(A.v (Value.string (fR k))),Sv]]) (S9 rfl)))))))))))))))))))))
 refine .st (aV ..) (.cd ?_ ?_)
 ·refine .bg (fun (t:Out×ar) (y:Int×Int×Bool)=>t=(Out.ret (A.v (.int .u64 y.1)),[aA,bx [(im (c.map c8) false),(iA y.2.1),(bA y.2.2)],aA])) ?_ ?_
  ·refine .lp ((aK yJ).trans (Hn ..)) (.as (nH C n _ _ _ _ c ?_ ?_ _ 0 0 j.2.1 j.2.2))
   ·intro b6 b7 b8 b9 ba bc
    exact .un rfl (.lg rfl)
   ·intro be bf bh bj bk bl
    exact .un rfl (.cT r7 (.lg rfl))
  rintro _ i rfl
  refine .ok (.s (pt 1 0) (.s2 (bA i.2.2) (.KG (.bg (fun t (y:Bool)=>∃ a6:A,t=[(bA y),a6]) ?_ ?_))))
  ·refine .JP (fun w=>?_) (fun w=>?_)
   ·exact .bb (.s (pt 1 0) (.s (pt 1 0) (.s (im (c.map c8) false) (.st (eE (e:=5)) (.s (pt 1 0) (.s (pt 1 1) (.s (iA i.2.1) (.st (dU ..) (.st (v:=(A.v (.int .u64 (wr .u64 (wr .i64 (((c.length:Int)) - i.2.1)))))) (aE (hs:=by kernel_rfl) (hd:=by kernel_rfl) ..) (.cr (.u4 (.u4 (.u4 (.Gd w (.st (dg ..) (.lg ⟨_,rfl⟩))))))))))))))))
   exact .bb (.cr (.u4 (.u4 (.u4 (.Hd w (.lg ⟨_,rfl⟩))))))
  rintro _ bm ⟨a6,rfl⟩
  refine .uc (.uc (.bg (fun t (y:Bool)=>∃ a7 a8:A,t=[(bA y),a7,a8]) ?_ ?_))
  ·refine .bi ?_ ?_
   ·exact .lg ⟨_,_,rfl⟩
   exact .st (aV ..) (.lg ⟨_,_,rfl⟩)
  rintro _ bn ⟨a7,a8,rfl⟩
  refine .uc (.uc (.uc (.cd ?_ ?_)))
  ·exact .s (pt 1 0) (.s (pt 1 2) (.sh (.s (ag [(iA 0),(iA 0),se,Sv]) (.s [aA,bx [(im (c.map c8) false),(iA i.2.1),(bA true)],aA] (.s m6 (.lf rfl rfl (fQ (o:=Out.ret m6) (lo:=0) (off:=3) (b:=2) (p:=0) (H2:=[aA,bx [(im (c.map c8) false),(iA i.2.1),(bA true)]]) (X:=[aA]) (S9 rfl))))))))
  refine .s (ag [(iA 3),(iA 0),se,Sv]) (.sq (pt 3 0) (.s [aA,bx [(im (c.map c8) false),(iA i.2.1),(bA i.2.2)],aA,bx [(iA 3),(iA 0),se,Sv]] (.as (As C n _ _ _ _ self hS r i.1 c 3 0 iM ?_ _ 0 i.2.1 i.2.2 (([]:List ah))))))
  ·intro x a0 h bo bp bq
   exact .un rfl (.cT r7 (.s (ag [(iA 3),(iA 0),se,(bU 4 0 h.length false)]) (.s [aA,bx [(im (c.map c8) false),(iA x),(bA a0)],(m5 h),(m5 h),aD.row false 4 (h.map ak)] (.st (v:=(ag [(iA 3),(iA 0),se,(im (h.map ak) false)])) ((Ty (fun z=>ml prog 107 (pt 2 0) z) (wi (H:=[aA,bx [(im (c.map c8) false),(iA x),(bA a0)],(m5 h),(m5 h),aD.row false 4 (h.map ak)]) (lo:=0) (off:=3) (b:=2) (o:=0) (b':=4) (es:=4) (l:=h) cq rfl rfl rfl (S9 rfl))).trans r7) (.lf rfl rfl (fQ (o:=Out.ret (ag [(iA 3),(iA 0),se,(im (h.map ak) false)])) (lo:=0) (off:=3) (b:=2) (p:=0) (H2:=[aA,bx [(im (c.map c8) false),(iA x),(bA a0)]]) (X:=[(m5 h),(m5 h),aD.row false 4 (h.map ak)]) (S9 rfl)))))))
 exact .s (pt 1 0) (.s (pt 1 2) (.sh (.s (ag [(iA 0),(iA 0),se,Sv]) (.s [aA,bx [(im (c.map c8) false),(iA j.2.1),(bA true)],aA] (.s m6 (.lf rfl rfl (fQ (o:=Out.ret m6) (lo:=0) (off:=3) (b:=2) (p:=0) (H2:=[aA,bx [(im (c.map c8) false),(iA j.2.1),(bA true)]]) (X:=[aA]) (S9 rfl))))))))
def BP:Nat->(List UInt8)->Int->Bool->Int->Option (ah×Int×Bool)
 | 0=>fun _ _ _ _=>none
 | N+1=>fun a1 a2 a3 a4=>bif Nat.ble 8 N then vR (BP N) (N - 8) a1 a2 a3 a4 else none
theorem I3 (C:OT):∀ N,GV C N (BP N)
 | 0=>fun _ _ _ _ X r h=>by cases h
 | N+1=>fun a a2 b c X=>by
  show J _ _ _ (bif Nat.ble 8 N then vR (BP N) (N - 8) a a2 b c else none) _
  cases h:Nat.ble 8 N with
  | false=>exact fun r h=>by cases h
  | true=>
   obtain ⟨n,rfl⟩:∃ n,N=n+8:=⟨N - 8,by have:=S9 h; omega⟩
   rw[VM]
   exact B9 (m:=2) r7 r7 (by decide) rfl r7 ((by kernel_rfl:_=((((aQ 2 (a.map c8))&&true))&&true)).trans so) (fun _=>rfl) (fun y=>((by kernel_rfl:_=((aQ 2 (y.1.L.map ak))&&true)).trans so)) (fun y=>((by kernel_rfl:_=((((aQ 2 (a.map c8))&&true))&&true)).trans so)) (MM C n  (BP (n+8)) (I3 C  (n+8)) a a2 b c)
def uF (C:OT) (self:ah->Option Bool):Prop:=∀ (a:ah),C 102 [(ag (ae a))]=(self a).map fun y=>(bA y)
def gh (self:ah->Option Bool) (n:Nat) (a:ah):Nat->Int->Option ((Bool)⊕(Unit))
 | 0,_=>none
 | m+1,b=>bif (decide (b<((a.L.length:Int)))) then ((bE a.L b).bind fun c=>(self c).bind fun d=>bif (!d) then (some ((Sum.inl false))) else (gh self n a m (wr .i64 (b+1)))) else (some ((Sum.inr (()))))
theorem xQ (self:ah->Option Bool) (hS:uF C self) {KS:A} (a:ah) {K:((Bool)⊕(Unit))->Option γ} (h:∀ (f:Bool) (i:A) (b:A) (q0:aD),J φ (kr (St.mk [(1,i),(2,(bA f)),(3,b)] [q0])) kL (K (Sum.inl f)) some) (j:∀ (s2:A) (b:A),J φ (kx 1 (St.mk [(1,(pt 0 0)),(2,s2),(3,b)] [bx (ae a)])) kL (K (Sum.inr (()))) some) :
  ∀ (m:Nat) (c:Int),J φ (aI (cx C) (ec C n 8) (ey C n 8) (n+8) 102 0 0 1 kx kg kr kp m (St.mk [(1,(pt 0 0)),(2,KS),(3,(iA c))] [bx (ae a)])) kL (gh self n a m c) K:=by
  refine nI (fun _=>.nn) fun m ih c=>.lp (Hi ..) ?_
  unfold gh
  refine .s2 (im (a.L.map ak) false) (.st (eE (e:=107)) (.st (bj ..) (.cd ?_ ?_)))
  ·refine .s2 (im (a.L.map ak) false) (.bd ((gp (e:=107) (es:=4)).trans (dD _)) fun d=>.s (ag (ae d)) (.bd (g:=fun (y:Bool)=>(bA y)) (by show C 102 [snap _ (ag (ae d))]=_; simp only[cD,dL]; exact hS d) fun k=>.s (bA (!k)) (.cd ?_ ?_)))
   ·exact .ex (h _ _ _ _)
   refine .st (aF ..) (.s [bx (ae a)] (.cT r7 ?_))
   exact ih _
  exact .ex (j _ _)
def Bb (self:ah->Option Bool) (n:Nat) (a:ah):Option Bool:=
 bif (a.Kind==1) then ((bif (iK a.S ((ByteArray.mk #[]))) then (some (((a.L.length:Int))==0)) else (some false)).bind fun b=>some b) else (bif (a.Kind==2) then ((bif (a.N==0) then (some (((a.L.length:Int))==0)) else (some false)).bind fun c=>some c) else (bif (a.Kind==3) then ((gh self n a (n+8) 0).bind fun d=>match d with | (Sum.inl e)=>some e | (Sum.inr _)=>(bif (a.N==0) then (some (iK a.S ((ByteArray.mk #[])))) else (some false)).bind fun f=>some f) else (some false)))
theorem MF (C:OT) (n:Nat) (self:ah->Option Bool) (hS:uF C self) (a:ah):TJ C n 102 [(ag (ae a))] (Bb self n a) (fun y=>(bA y)):=by
 refine .lp (MZ ..) ?_
 unfold Bb
 refine .s ((pt 0 0),[bx (ae a)]) (.s2 (iA a.Kind) (.st (aV ..) (.cd ?_ ?_)))
 ·refine .s2 (sA a.S) (.st (jt ..) (.bg (fun t (y:Bool)=>∃ b c d f:A,t=[(bA y),b,c,d,f]) ?_ ?_))
  ·refine .bi ?_ ?_
   ·exact .s (pt 0 3) (.s (im (a.L.map ak) false) (.st (eE (e:=107)) (.st (aV ..) (.lg ⟨_,_,_,_,rfl⟩))))
   exact .lg ⟨_,_,_,_,rfl⟩
  rintro _ p ⟨b,c,d,f,rfl⟩
  exact .u4 (.uc (.lv rfl))
 refine .st (aV ..) (.cd ?_ ?_)
 ·refine .s2 (iA a.N) (.st (aV ..) (.bg (fun t (y:Bool)=>∃ g h i j:A,t=[(bA y),g,h,i,j]) ?_ ?_))
  ·refine .bi ?_ ?_
   ·exact .s (pt 0 3) (.s (im (a.L.map ak) false) (.st (eE (e:=107)) (.st (aV ..) (.lg ⟨_,_,_,_,rfl⟩))))
   exact .lg ⟨_,_,_,_,rfl⟩
  rintro _ q ⟨g,h,i,j,rfl⟩
  exact .u4 (.uc (.lv rfl))
 refine .st (aV ..) (.cd ?_ ?_)
 ·refine .as (xQ C n _ _ _ _ self hS a ?_ ?_ _ 0)
  ·intro r u v w52
   exact .un rfl (.lv rfl)
  ·intro w x
   refine .un rfl (.cT r7 (.s2 (iA a.N) (.st (aV ..) (.bg (fun t (y:Bool)=>∃ k l o:A,t=[(bA y),k,l,o]) ?_ ?_))))
   ·refine .bi ?_ ?_
    ·exact .s (pt 0 2) (.s (sA a.S) (.st (jt ..) (.lg ⟨_,_,_,rfl⟩)))
    exact .lg ⟨_,_,_,rfl⟩
   rintro _ z ⟨k,l,o,rfl⟩
   exact .u4 (.lv rfl)
 exact .lv rfl
def vX:Nat->ah->Option Bool
 | 0=>fun _=>none
 | q+1=>fun a0=>Bb (vX q) az a0
def D0 (a:ah):Option Bool:=vX az a
def Bh (C:OT):Prop:=∀ (a:ah),C 102 [(ag (ae a))]=(D0 a).map fun y=>(bA y)
def uG (C:OT) (self:ah->Option Int):Prop:=∀ (a:ah),C 103 [(ag (ae a))]=(self a).map fun y=>(iA y)
def gi (self:ah->Option Int) (n:Nat) (a:ah):Nat->Int->Int->Option (Int)
 | 0,_,_=>none
 | m+1,b,c=>bif (decide (c<((a.L.length:Int)))) then ((bE a.L c).bind fun e=>(self e).bind fun d=>gi self n a m ((if b<d then d else b)) (wr .i64 (c+1))) else (some b)
theorem xR (self:ah->Option Int) (hS:uG C self) {w22:A} (a:ah) {K:(Int)->Option γ} (i:∀ (f:Int) (j:A) (s2:A) (k:A) (q0:aD),J φ (kx 0 (St.mk [(1,j),(2,s2),(3,(iA f)),(4,k)] [q0])) kL (K f) some) :
  ∀ (m:Nat) (b:Int) (c:Int),J φ (aI (cx C) (ec C n 8) (ey C n 8) (n+8) 103 0 0 1 kx kg kr kp m (St.mk [(1,(pt 0 0)),(2,w22),(3,(iA b)),(4,(iA c))] [bx (ae a)])) kL (gi self n a m b c) K:=by
  refine nI (fun _ _=>.nn) fun m ih b c=>.lp (Hj ..) ?_
  unfold gi
  refine .s2 (im (a.L.map ak) false) (.st (eE (e:=107)) (.st (bj ..) (.cd ?_ ?_)))
  ·refine .s2 (im (a.L.map ak) false) (.bd ((gp (e:=107) (es:=4)).trans (dD _)) fun d=>.s (ag (ae d)) (.bd (g:=fun (y:Int)=>(iA y)) (by show C 103 [snap _ (ag (ae d))]=_; simp only[cD,dL]; exact hS d) fun h=>.s (iA ((if b<h then h else b))) (.st (aF ..) (.s [bx (ae a)] (.cT r7 ?_)))))
   exact ih _ _
  exact .ex (i _ _ _ _ _)
def Bc (self:ah->Option Int) (n:Nat) (a:ah):Option Int:=
 bif (a.Kind != 3) then (some 0) else ((gi self n a (n+8) 0 0).bind fun b=>match b with | c=>some (wr .i64 (c+1)))
theorem MG (C:OT) (n:Nat) (self:ah->Option Int) (hS:uG C self) (a:ah):TJ C n 103 [(ag (ae a))] (Bc self n a) (fun y=>(iA y)):=by
 refine .lp (M0 ..) ?_
 unfold Bc
 refine .s ((pt 0 0),[bx (ae a)]) (.s2 (iA a.Kind) (.st (aC ..) (.cd ?_ ?_)))
 ·exact .lv rfl
 refine .as (xR C n _ _ _ _ self hS a ?_ _ 0 0)
 ·intro b c d e O7
  exact .un rfl (.cT r7 (.st (aF ..) (.lv rfl)))
def vY:Nat->ah->Option Int
 | 0=>fun _=>none
 | q+1=>fun a0=>Bc (vY q) az a0
def D1 (a:ah):Option Int:=vY az a
def Bi (C:OT):Prop:=∀ (a:ah),C 103 [(ag (ae a))]=(D1 a).map fun y=>(iA y)
def Lp (n:Nat) (a:ah):Option Int:=
 (D0 a).bind fun b=>bif (!b) then (some 1) else ((D1 a).bind fun c=>bif (decide (16<c)) then (some 2) else (some 0))
theorem Q1 (C:OT) (n:Nat) (b:Bh C) (c:Bi C) (a:ah):TJ C n 85 [(ag (ae a))] (Lp n a) (fun y=>(iA y)):=by
 refine .lp (RK ..) ?_
 unfold Lp
 refine .s ((pt 0 0),[bx (ae a)]) (.s (ag (ae a)) (.bd (g:=fun (y:Bool)=>(bA y)) (by simp only[cD,dL]; exact b a) fun d=>.s (bA (!d)) (.cd ?_ ?_)))
 ·exact .lv rfl
 refine .s (ag (ae a)) (.bd (g:=fun (y:Int)=>(iA y)) (by simp only[cD,dL]; exact c a) fun e=>.st (dg ..) (.cd ?_ ?_))
 ·exact .lv rfl
 exact .lv rfl
def I1 (a:ah):Option Int:=Lp az a
def F0 (C:OT):Prop:=∀ (a:ah),C 85 [(ag (ae a))]=(I1 a).map fun y=>(iA y)
def DX (n:Nat) (a:Int):Option Int:=
 bif (decide (0<=a)) then (some (wr .u64 (2*(wr .u64 (a))))) else (some (wr .u64 ((wr .u64 (2*(wr .u64 (wr .i64 (0 - (wr .i64 (a+1)))))))+1)))
theorem MI (C:OT) (n:Nat) (a:Int):TJ C n 105 [(iA a)] (DX n a) (fun y=>(A.v (.int .u64 y))):=by
 refine .lp (M3 ..) ?_
 unfold DX
 refine .st (dS ..) (.cd ?_ ?_)
 ·exact .st (v:=(A.v (.int .u64 (wr .u64 (a))))) (aE (hs:=by kernel_rfl) (hd:=by kernel_rfl) ..) (.st (oy ..) (.lv rfl))
 exact .st (aF ..) (.s (iA (wr .i64 (0 - (wr .i64 (a+1))))) (.st (v:=(A.v (.int .u64 (wr .u64 (wr .i64 (0 - (wr .i64 (a+1)))))))) (aE (hs:=by kernel_rfl) (hd:=by kernel_rfl) ..) (.st (oy ..) (.st (aF ..) (.lv rfl)))))
def Bd (a:Int):Option Int:=DX az a
def Bl (C:OT):Prop:=∀ (a:Int),C 105 [(iA a)]=(Bd a).map fun y=>(A.v (.int .u64 y))
def zq (C:OT) (self:Int->Option (List UInt8)):Prop:=∀ (a:Int),C 104 [(A.v (.int .u64 a))]=(self a).map fun y=>(im (y.map c8) false)
def xK (self:Int->Option (List UInt8)) (n:Nat) (a:Int):Option (List UInt8):=
 bif (decide (a<128)) then (bif (decide (0<=(wr .u8 (a)))&&decide ((wr .u8 (a))<256)) then (some ([(UInt8.ofNat (Int.toNat (wr .u8 (a))))])) else none) else (bif (decide (0<=(wr .u8 (wr .u64 ((Int.tmod a 128)+128))))&&decide ((wr .u8 (wr .u64 ((Int.tmod a 128)+128)))<256)) then ((self (wr .u64 (Int.tdiv a 128))).bind fun b=>(cF 1 ([(UInt8.ofNat (Int.toNat (wr .u8 (wr .u64 ((Int.tmod a 128)+128)))))]) b).bind fun c=>some c) else none)
theorem MH (C:OT) (n:Nat) (self:Int->Option (List UInt8)) (hS:zq C self) (a:Int):TJ C n 104 [(A.v (.int .u64 a))] (xK self n a) (fun y=>(im (y.map c8) false)):=by
 refine .lp (M1 ..) ?_
 unfold xK
 refine .st (bj ..) (.cd ?_ ?_)
 ·exact .st (v:=(uA (wr .u8 (a)))) (aE (hs:=by kernel_rfl) (hd:=by kernel_rfl) ..) (.gd fun hg=>.st (v:=(im [[(uA (((UInt8.ofNat (Int.toNat (wr .u8 (a)))).toNat:Int)))]] true)) (by rw[fc hg]; kernel_rfl) (.lv s0))
 exact .st (kz (hb:=by decide) ..) (.st (aF ..) (.st (v:=(uA (wr .u8 (wr .u64 ((Int.tmod a 128)+128))))) (aE (hs:=by kernel_rfl) (hd:=by kernel_rfl) ..) (.gd fun hg=>.st (v:=(im [[(uA (((UInt8.ofNat (Int.toNat (wr .u8 (wr .u64 ((Int.tmod a 128)+128))))).toNat:Int)))]] true)) (by rw[fc hg]; kernel_rfl) (.st (qL (hb:=by decide) ..) (.bd (g:=fun (y:(List UInt8))=>(im (y.map c8) false)) (hS (wr .u64 (Int.tdiv a 128))) fun d=>.bd (g:=fun (y:List UInt8)=>((bU 0 0 y.length false),[aD.row false 1 (y.map c8)])) (k9 cK (l:=[(UInt8.ofNat (Int.toNat (wr .u8 (wr .u64 ((Int.tmod a 128)+128)))))]) (l2:=d) (bz ..)) fun c=>.lv (by show br [aD.row false 1 (c.map c8)] (bU 0 0 c.length false)=_; first | (simp only[cD,dL,br,bS (H:=[aD.row false 1 (c.map c8)]) (b:=0) (es:=1) (wr:=false) (l:=c) et rfl]; done) | (simp only[cD,jQ,br,bS (H:=[aD.row false 1 (c.map c8)]) (b:=0) (es:=1) (wr:=false) (l:=c) et rfl]; first | done | rfl)))))))
def vZ:Nat->Int->Option (List UInt8)
 | 0=>fun _=>none
 | q+1=>fun a0=>xK (vZ q) az a0
def Am (a:Int):Option (List UInt8):=vZ az a
def Bj (C:OT):Prop:=∀ (a:Int),C 104 [(A.v (.int .u64 a))]=(Am a).map fun y=>(im (y.map c8) false)
def xM (C:OT) (self:ah->Option (List UInt8)):Prop:=∀ (a:ah),C 86 [(ag (ae a))]=(self a).map fun y=>(im (y.map c8) false)
def jm (self:ah->Option (List UInt8)) (n:Nat) (a:ah):Nat->Int->(List UInt8)->Option ((List UInt8))
 | 0,_,_=>none
 | m+1,b,c=>bif (decide (b<((a.L.length:Int)))) then ((bE a.L b).bind fun d=>(self d).bind fun e=>(cF 1 c e).bind fun f=>jm self n a m (wr .i64 (b+1)) f) else (some c)
theorem BL (self:ah->Option (List UInt8)) (hS:xM C self) {w38:A} (a:ah) {K:((List UInt8))->Option γ} (i:∀ (d:(List UInt8)) (j:A) (s2:A) (k:A) (q0:aD),J φ (kx 1 (St.mk [(1,j),(2,s2),(3,(bU 1 0 d.length false)),(4,k)] [q0,aD.row false 1 (d.map c8)])) kL (K d) some) :
  ∀ (m:Nat) (f:Int) (c:(List UInt8)),J φ (aI (cx C) (ec C n 8) (ey C n 8) (n+8) 86 0 0 2 kx kg kr kp m (St.mk [(1,(pt 0 0)),(2,w38),(3,(bU 1 0 c.length false)),(4,(iA f))] [bx (ae a),aD.row false 1 (c.map c8)])) kL (jm self n a m f c) K:=by
  refine nI (fun _ _=>.nn) fun m ih f c=>.lp (Jy ..) ?_
  unfold jm
  refine .s2 (im (a.L.map ak) false) (.st (eE (e:=107)) (.st (bj ..) (.cd ?_ ?_)))
  ·refine .s2 (im (a.L.map ak) false) (.bd ((gp (e:=107) (es:=4)).trans (dD _)) fun h=>.s (ag (ae h)) (.bd (g:=fun (y:(List UInt8))=>(im (y.map c8) false)) (by show C 86 [snap _ (ag (ae h))]=_; simp only[cD,dL,ng (H:=[bx (ae a),aD.row false 1 (c.map c8)]) (b:=1) (es:=1) (l:=c) et rfl]; exact hS h) fun o=>.bd (g:=fun (y:List UInt8)=>((bU 1 0 y.length false),[bx (ae a),aD.row false 1 (y.map c8)])) (cA cK (l:=c) (l2:=o) (b:=1) rfl (by decide) (bz ..)) fun p=>.st (aF ..) (.s [bx (ae a),aD.row false 1 (p.map c8)] (.cT r7 ?_))))
   exact ih _ _
  exact .ex (i _ _ _ _ _)
def IG (self:ah->Option (List UInt8)) (n:Nat) (a:ah):Option (List UInt8):=
 bif (a.Kind==1) then ((Bd a.N).bind fun b=>(Am b).bind fun c=>(cF 1 ([(1:UInt8)]) c).bind fun d=>some d) else (bif (a.Kind==2) then ((Am (wr .u64 ((a.S.size:Int)))).bind fun e=>(cF 1 ([(2:UInt8)]) e).bind fun f=>(cF 1 f (kF a.S)).bind fun g=>some g) else ((Am (wr .u64 ((a.L.length:Int)))).bind fun h=>(cF 1 ([(3:UInt8)]) h).bind fun i=>(jm self n a (n+8) 0 i).bind fun j=>match j with | k=>some k))
theorem Q2 (C:OT) (n:Nat) (h:Bj C) (i:Bl C) (self:ah->Option (List UInt8)) (hS:xM C self) (a:ah):TJ C n 86 [(ag (ae a))] (IG self n a) (fun y=>(im (y.map c8) false)):=by
 refine .lp (RL ..) ?_
 unfold IG
 refine .s ((pt 0 0),[bx (ae a)]) (.s2 (iA a.Kind) (.st (aV ..) (.cd ?_ ?_)))
 ·exact .s (im [[(uA 1)]] true) (.s2 (iA a.N) (.bd (i a.N) fun j=>.bd (h j) fun k=>.bd (g:=fun (y:List UInt8)=>((bU 1 0 y.length false),[bx (ae a),aD.row false 1 (y.map c8)])) (k9 cK (l:=[(1:UInt8)]) (l2:=k) (bz ..)) fun c=>.lv (by show br [bx (ae a),aD.row false 1 (c.map c8)] (bU 1 0 c.length false)=_; first | (simp only[cD,dL,br,bS (H:=[bx (ae a),aD.row false 1 (c.map c8)]) (b:=1) (es:=1) (wr:=false) (l:=c) et rfl]; done) | (simp only[cD,jQ,br,bS (H:=[bx (ae a),aD.row false 1 (c.map c8)]) (b:=1) (es:=1) (wr:=false) (l:=c) et rfl]; first | done | rfl))))
 refine .st (aV ..) (.cd ?_ ?_)
 ·exact .s (im [[(uA 2)]] true) (.s2 (sA a.S) (.s (iA ((a.S.size:Int))) (.st (v:=(A.v (.int .u64 (wr .u64 ((a.S.size:Int)))))) (aE (hs:=by kernel_rfl) (hd:=by kernel_rfl) ..) (.bd (h (wr .u64 ((a.S.size:Int)))) fun o=>.bd (g:=fun (y:List UInt8)=>((bU 1 0 y.length false),[bx (ae a),aD.row false 1 (y.map c8)])) (k9 cK (l:=[(2:UInt8)]) (l2:=o) (bz ..)) fun p=>.cT r7 (.s (pt 0 2) (.cT r7 (.s (sA a.S) (.bd (g:=fun (y:List UInt8)=>((bU 1 0 y.length false),[bx (ae a),aD.row false 1 (y.map c8)])) (cA uP (l:=p) (l2:=kF a.S) (b:=1) rfl (by decide) (qw ..)) fun d=>.lv (by show br [bx (ae a),aD.row false 1 (d.map c8)] (bU 1 0 d.length false)=_; first | (simp only[cD,dL,br,bS (H:=[bx (ae a),aD.row false 1 (d.map c8)]) (b:=1) (es:=1) (wr:=false) (l:=d) et rfl]; done) | (simp only[cD,jQ,br,bS (H:=[bx (ae a),aD.row false 1 (d.map c8)]) (b:=1) (es:=1) (wr:=false) (l:=d) et rfl]; first | done | rfl))))))))))
 refine .s (im [[(uA 3)]] true) (.s2 (im (a.L.map ak) false) (.st (eE (e:=107)) (.st (v:=(A.v (.int .u64 (wr .u64 ((a.L.length:Int)))))) (aE (hs:=by kernel_rfl) (hd:=by kernel_rfl) ..) (.bd (h (wr .u64 ((a.L.length:Int)))) fun q=>.bd (g:=fun (y:List UInt8)=>((bU 1 0 y.length false),[bx (ae a),aD.row false 1 (y.map c8)])) (k9 cK (l:=[(3:UInt8)]) (l2:=q) (bz ..)) fun r=>.as (BL C n _ _ _ _ self hS a ?_ _ 0 r)))))
 ·intro f t u w w51
  exact .un rfl (.cT r7 (.lv (by show br [w51,aD.row false 1 (f.map c8)] (bU 1 0 f.length false)=_; first | (simp only[cD,dL,br,bS (H:=[w51,aD.row false 1 (f.map c8)]) (b:=1) (es:=1) (wr:=false) (l:=f) et rfl]; done) | (simp only[cD,jQ,br,bS (H:=[w51,aD.row false 1 (f.map c8)]) (b:=1) (es:=1) (wr:=false) (l:=f) et rfl]; first | done | rfl))))
def Gb:Nat->ah->Option (List UInt8)
 | 0=>fun _=>none
 | q+1=>fun a0=>IG (Gb q) az a0
def Lu (a:ah):Option (List UInt8):=Gb az a
def F3 (C:OT):Prop:=∀ (a:ah),C 86 [(ag (ae a))]=(Lu a).map fun y=>(im (y.map c8) false)
def Lo (n:Nat) (b:(List UInt8)):Option (ah×Int):=
 (BP (n+8) b 0 false 0).bind fun a=>(bif a.2.2 then (some true) else (some (a.2.1 != ((b.length:Int))))).bind fun c=>(bif c then (some true) else ((I1 a.1).bind fun d=>some (d != 0))).bind fun e=>(bif e then (some true) else ((Lu a.1).bind fun f=>some (!iK (fR f) (fR b)))).bind fun g=>bif g then (some (((ah.mk 0 0 iM ([])),10))) else (some ((a.1,0)))
theorem QZ (C:OT) (n:Nat) (x:F0 C) (z:F3 C) (b:(List UInt8)):TJ C n 76 [(im (b.map c8) false)] (Lo n b) (fun y=>(tp [(ag (ae y.1)),(iA y.2)])):=by
 refine .lp (RH ..) ?_
 unfold Lo
 refine .s ((pt 0 0),[aA]) (.s (ag [(im (b.map c8) false),(iA 0),(bA false)]) (.s ((pt 1 0),[aA,bx [(im (b.map c8) false),(iA 0),(bA false)]]) (.bg (fun (t:R) (y:(ah×Int×Bool))=>t=(Out.ret (ag [(iA y.1.Kind),(iA y.1.N),(sA y.1.S),(im (y.1.L.map ak) false)]),[aA,bx [(im (b.map c8) false),(iA y.2.1),(bA y.2.2)]])) (I3 C (n+8) b 0 false 0 []) ?_)))
 rintro _ a rfl
 refine .ok (.sq (pt 2 0) (.s [aA,bx [(im (b.map c8) false),(iA a.2.1),(bA a.2.2)],bx (ae a.1)] (.s (pt 1 0) (.s2 (bA a.2.2) (.bg (fun t (y:Bool)=>∃ d f h i j k o:A,t=[(bA y),d,f,h,i,j,k,o]) ?_ ?_)))))
 ·refine .bi ?_ ?_
  ·exact .lg ⟨_,_,_,_,_,_,_,rfl⟩
  exact .s (pt 1 0) (.s (pt 1 1) (.s (iA a.2.1) (.st (eE (e:=5)) (.st (aC ..) (.lg ⟨_,_,_,_,_,_,_,rfl⟩)))))
 rintro _ y3 ⟨d,f,h,i,j,k,o,rfl⟩
 refine .u4 (.u4 (.bg (fun t (y:Bool)=>∃ p q r:A,t=[(bA y),p,q,r]) ?_ ?_))
 ·refine .bi ?_ ?_
  ·exact .lg ⟨_,_,_,rfl⟩
  exact .s (ag (ae a.1)) (.bd (g:=fun (y:Int)=>(iA y)) (by simp only[cD,dL]; exact x a.1) fun a2=>.st (aC ..) (.lg ⟨_,_,_,rfl⟩))
 rintro _ a3 ⟨p,q,r,rfl⟩
 refine .u4 (.Sc (.bg (fun t (y:Bool)=>∃ u:A,t=[(bA y),u]) ?_ ?_))
 ·refine .JP (fun c=>?_) (fun c=>?_)
  ·exact .bb (.s (ag (ae a.1)) (.bd (g:=fun (y:(List UInt8))=>(im (y.map c8) false)) (by simp only[cD,dL]; exact z a.1) fun w=>.st (v:=(A.v (Value.string (fR w)))) (mW (e:=5) (l:=w) r7 r7 r7 r7 (bz ..) rfl) (.st (v:=(A.v (Value.string (fR b)))) (mW (e:=5) (l:=b) r7 r7 r7 r7 (bz ..) rfl) (.cr (.u4 (.uc (.Gd c (.st (xU ..) (.lg ⟨_,rfl⟩)))))))))
  exact .bb (.cr (.u4 (.uc (.Hd c (.lg ⟨_,rfl⟩)))))
 rintro _ a4 ⟨u,rfl⟩
 refine .uc (.uc (.cd ?_ ?_))
 ·exact .s (ag [(iA 0),(iA 0),se,Sv]) (.s [aA,bx [(im (b.map c8) false),(iA a.2.1),(bA a.2.2)],bx (ae a.1)] (.s (ag [(iA 0),(iA 0),se,Sv]) (.lv s0)))
 exact .s (ag (ae a.1)) (.s [bx (ae a.1),bx [(im (b.map c8) false),(iA a.2.1),(bA a.2.2)],bx (ae a.1)] (.s (ag (ae a.1)) (.lv s0)))
def I0 (a:(List UInt8)):Option (ah×Int):=Lo az a
def FY (C:OT):Prop:=∀ (a:(List UInt8)),C 76 [(im (a.map c8) false)]=(I0 a).map fun y=>(tp [(ag (ae y.1)),(iA y.2)])
def kl (n:Nat) (a:ah):Nat->Int->(List Int)->Option ((Bool)⊕((List Int)))
 | 0,_,_=>none
 | m+1,b,c=>bif (decide (b<((a.L.length:Int)))) then ((bE a.L b).bind fun d=>bif (d.Kind != 1) then (some ((Sum.inl false))) else ((bE a.L b).bind fun e=>(cF 8 c ([e.N])).bind fun f=>kl n a m (wr .i64 (b+1)) f)) else (some ((Sum.inr c)))
theorem BJ {KS w42:A} (a:ah) {K:((Bool)⊕((List Int)))->Option γ} (o:∀ (c:Bool) (i:A) (p:A) (j:A) (q0:aD) (q1:aD),J φ (kr (St.mk [(2,Sv),(3,(bA c)),(4,i),(6,p),(7,j)] [q0,q1])) kL (K (Sum.inl c)) some) (q:∀ (c:(List Int)) (s2:A) (r:A) (i:A) (j:A) (q0:aD),J φ (kx 0 (St.mk [(2,s2),(3,r),(4,i),(6,(bU 1 0 c.length false)),(7,j)] [q0,aD.row false 1 (c.map (cI .i64))])) kL (K (Sum.inr c)) some) :
  ∀ (m:Nat) (k:Int) (d:(List Int)),J φ (aI (cx C) (ec C n 8) (ey C n 8) (n+8) 47 0 0 2 kx kg kr kp m (St.mk [(2,KS),(3,w42),(4,(pt 0 0)),(6,(bU 1 0 d.length false)),(7,(iA k))] [bx (ae a),aD.row false 1 (d.map (cI .i64))])) kL (kl n a m k d) K:=by
  refine nI (fun _ _=>.nn) fun m ih k d=>.lp (Jv ..) ?_
  unfold kl
  refine .s2 (im (a.L.map ak) false) (.st (eE (e:=107)) (.st (bj ..) (.cd ?_ ?_)))
  ·refine .s2 (im (a.L.map ak) false) (.bd ((gp (e:=107) (es:=4)).trans (dD _)) fun t=>.s2 (iA t.Kind) (.st (aC ..) (.cd ?_ ?_)))
   ·exact .ex (o _ _ _ _ _ _)
   refine .s2 (im (a.L.map ak) false) (.bd ((gp (e:=107) (es:=4)).trans (dD _)) fun h=>.s2 (iA h.N) (.s (im [[(iA h.N)]] true) (.bd (g:=fun (y:List Int)=>((bU 1 0 y.length false),[bx (ae a),aD.row false 1 (y.map (cI .i64))])) (cA Eb (l:=d) (l2:=[h.N]) (b:=1) rfl (by decide) (bz (f:=(cI .i64)) ([h.N]:List Int) _ _)) fun u=>.st (aF ..) (.s [bx (ae a),aD.row false 1 (u.map (cI .i64))] (.cT r7 ?_)))))
   exact ih _ _
  exact .ex (q _ _ _ _ _ _)
def Le (n:Nat) (b:(List UInt8)):Option ((List Int)×Bool):=
 (I0 b).bind fun a=>(bif (a.2 != 0) then (some true) else (some (a.1.Kind != 3))).bind fun c=>bif c then (some (([],false))) else ((kl n a.1 (n+8) 0 (([]:List Int))).bind fun d=>match d with | (Sum.inl e)=>some (([],e)) | (Sum.inr f)=>some ((f,true)))
theorem QN (C:OT) (n:Nat) (i:FY C) (d:(List UInt8)):TJ C n 47 [(im (d.map c8) false)] (Le n d) (fun y=>(tp [(im (y.1.map (cI .i64)) false),(bA y.2)])):=by
 refine .lp (Rt ..) ?_
 unfold Le
 refine .bd (g:=fun (y:(ah×Int))=>(tp [(ag (ae y.1)),(iA y.2)])) (by simp only[cD,dL]; exact i d) fun c=>.s (ag (ae c.1)) (.s (iA c.2) (.sq (pt 0 0) (.s [bx (ae c.1)] (.st (aC ..) (.bg (fun t (y:Bool)=>∃ e f h:A,t=[(bA y),e,f,h]) ?_ ?_)))))
 ·refine .bi ?_ ?_
  ·exact .lg ⟨_,_,_,rfl⟩
  exact .s (pt 0 0) (.s (iA c.1.Kind) (.st (aC ..) (.lg ⟨_,_,_,rfl⟩)))
 rintro _ j ⟨e,f,h,rfl⟩
 refine .u4 (.cd ?_ ?_)
 ·exact .lv s0
 refine .as (BJ C n _ _ _ _ c.1 ?_ ?_ _ 0 (([]:List Int)))
 ·intro k o p q w56 w57
  exact .un rfl (.lv s0)
 ·intro a r u v w w63
  exact .un rfl (.cT r7 (.lv (by show br [w63,aD.row false 1 (a.map (cI .i64))] (tp [(bU 1 0 a.length false),(bA true)])=_; first | (simp only[cD,dL,br,bS (H:=[w63,aD.row false 1 (a.map (cI .i64))]) (b:=1) (es:=1) (wr:=false) (l:=a) (jK _) rfl]; done) | (simp only[cD,jQ,br,bS (H:=[w63,aD.row false 1 (a.map (cI .i64))]) (b:=1) (es:=1) (wr:=false) (l:=a) (jK _) rfl]; first | done | rfl))))
def IT (a:(List UInt8)):Option ((List Int)×Bool):=Le az a
def FR (C:OT):Prop:=∀ (a:(List UInt8)),C 47 [(im (a.map c8) false)]=(IT a).map fun y=>(tp [(im (y.1.map (cI .i64)) false),(bA y.2)])
def K3 (n:Nat) (b:(List UInt8)):Option (aO×Bool):=
 (IT b).bind fun a=>(bif (!a.2) then (some true) else (some (((a.1.length:Int)) != 5))).bind fun c=>(bif c then (some true) else ((bE a.1 0).bind fun d=>some (d != 1))).bind fun e=>bif e then (some (((aO.mk 0 0 0 0),false))) else ((bE a.1 1).bind fun f=>(bE a.1 2).bind fun g=>(bE a.1 3).bind fun h=>(bE a.1 4).bind fun i=>some (((aO.mk f g h i),true)))
theorem Qz (C:OT) (n:Nat) (r:FR C) (f:(List UInt8)):TJ C n 17 [(im (f.map c8) false)] (K3 n f) (fun y=>(tp [(ag (au y.1)),(bA y.2)])):=by
 refine .lp (Rc ..) ?_
 unfold K3
 refine .s ((pt 0 0),[bx [(iA 0),(iA 0),(iA 0),(iA 0)]]) (.bd (g:=fun (y:((List Int)×Bool))=>(tp [(im (y.1.map (cI .i64)) false),(bA y.2)])) (by simp only[cD,dL]; exact r f) fun h=>.s (im (h.1.map (cI .i64)) false) (.s (bA h.2) (.s (bA (!h.2)) (.bg (fun t (y:Bool)=>∃ i j k:A,t=[(bA y),i,j,k]) ?_ ?_))))
 ·refine .bi ?_ ?_
  ·exact .lg ⟨_,_,_,rfl⟩
  exact .st (eE (e:=3)) (.st (aC ..) (.lg ⟨_,_,_,rfl⟩))
 rintro _ v ⟨i,j,k,rfl⟩
 refine .u4 (.bg (fun t (y:Bool)=>∃ l o p q:A,t=[(bA y),l,o,p,q]) ?_ ?_)
 ·refine .bi ?_ ?_
  ·exact .lg ⟨_,_,_,_,rfl⟩
  exact .bd (gp (e:=3) (es:=1)) fun u=>.s (iA u) (.st (aC ..) (.lg ⟨_,_,_,_,rfl⟩))
 rintro _ w ⟨l,o,p,q,rfl⟩
 refine .u4 (.uc (.cd ?_ ?_))
 ·exact .s (ag [(iA 0),(iA 0),(iA 0),(iA 0)]) (.s [bx [(iA 0),(iA 0),(iA 0),(iA 0)]] (.s (ag [(iA 0),(iA 0),(iA 0),(iA 0)]) (.lv rfl)))
 exact .bd (gp (e:=3) (es:=1)) fun a=>.s (iA a) (.bd (gp (e:=3) (es:=1)) fun b=>.s (iA b) (.bd (gp (e:=3) (es:=1)) fun c=>.s (iA c) (.bd (gp (e:=3) (es:=1)) fun d=>.s (iA d) (.s (ag [(iA a),(iA b),(iA c),(iA d)]) (.s [bx [(iA a),(iA b),(iA c),(iA d)]] (.s (ag [(iA a),(iA b),(iA c),(iA d)]) (.lv rfl)))))))
def DQ (a:(List UInt8)):Option (aO×Bool):=K3 az a
def FI (C:OT):Prop:=∀ (a:(List UInt8)),C 17 [(im (a.map c8) false)]=(DQ a).map fun y=>(tp [(ag (au y.1)),(bA y.2)])
def Lk (n:Nat) (a:aw) (b:aw):Option Bool:=
 (bif (a.From==b.From) then (some (a.To==b.To)) else (some false)).bind fun c=>(bif c then (some (iK (fR a.Data) (fR b.Data))) else (some false)).bind fun d=>some d
theorem QU (C:OT) (n:Nat) (a:aw) (b:aw):TJ C n 69 [(ag (af a)),(ag (af b))] (Lk n a b) (fun y=>(bA y)):=by
 refine .lp (RC ..) ?_
 unfold Lk
 refine .s ((pt 0 0),[bx (af a)]) (.s ((pt 1 0),[bx (af a),bx (af b)]) (.s2 (iA a.From) (.s2 (iA b.From) (.st (aV ..) (.bg (fun t (y:Bool)=>∃ c d f g h:A,t=[(bA y),c,d,f,g,h]) ?_ ?_)))))
 ·refine .bi ?_ ?_
  ·exact .s (pt 0 1) (.s (iA a.To) (.s (pt 1 1) (.s (iA b.To) (.st (aV ..) (.lg ⟨_,_,_,_,_,rfl⟩)))))
  exact .lg ⟨_,_,_,_,_,rfl⟩
 rintro _ u ⟨c,d,f,g,h,rfl⟩
 refine .u4 (.uc (.uc (.bg (fun t (y:Bool)=>∃ i j k o p q r:A,t=[(bA y),i,j,k,o,p,q,r]) ?_ ?_)))
 ·refine .bi ?_ ?_
  ·exact .s (pt 0 2) (.s (im (a.Data.map c8) false) (.st (v:=(A.v (Value.string (fR a.Data)))) (mW (e:=5) (l:=a.Data) r7 r7 r7 r7 (bz ..) rfl) (.s (pt 1 2) (.s (im (b.Data.map c8) false) (.st (v:=(A.v (Value.string (fR b.Data)))) (mW (e:=5) (l:=b.Data) r7 r7 r7 r7 (bz ..) rfl) (.st (jt ..) (.lg ⟨_,_,_,_,_,_,_,rfl⟩)))))))
  exact .lg ⟨_,_,_,_,_,_,_,rfl⟩
 rintro _ w ⟨i,j,k,o,p,q,r,rfl⟩
 exact .u4 (.u4 (.lv rfl))
def IW (a:aw) (b:aw):Option Bool:=Lk az a b
def Bu (C:OT):Prop:=∀ (a:aw) (b:aw),C 69 [(ag (af a)),(ag (af b))]=(IW a b).map fun y=>(bA y)
def ki (n:Nat) (b:(List aw)) (d:(List (Int×Int))) (c:(List aw)) (e:(List (Int×Int))):Nat->Int->Option ((Bool)⊕(Unit))
 | 0,_=>none
 | m+1,a=>bif (decide (a<((b.length:Int)))) then ((bE b a).bind fun f=>(bE c a).bind fun g=>(IW f g).bind fun h=>bif (!h) then (some ((Sum.inl false))) else (ki n b d c e m (wr .i64 (a+1)))) else (some ((Sum.inr (()))))
theorem BH (l:Bu C) {w126:A} (a:(List aw)) (c:(List (Int×Int))) (b:(List aw)) (d:(List (Int×Int))) {K:((Bool)⊕(Unit))->Option γ} (o:∀ (i:Bool) (s2:A) (p:A) (f:A) (q0:aD) (q1:aD),J φ (kr (St.mk [(2,s2),(3,p),(4,(bA i)),(5,f)] [q0,q1])) kL (K (Sum.inl i)) some) (q:∀ (f:A),J φ (kx 0 (St.mk [(2,(pt 0 0)),(3,(pt 1 0)),(4,w126),(5,f)] [bx [(im (a.map af) false),(im (c.map ai) false)],bx [(im (b.map af) false),(im (d.map ai) false)]])) kL (K (Sum.inr (()))) some) :
  ∀ (m:Nat) (h:Int),J φ (aI (cx C) (ec C n 8) (ey C n 8) (n+8) 40 0 0 2 kx kg kr kp m (St.mk [(2,(pt 0 0)),(3,(pt 1 0)),(4,w126),(5,(iA h))] [bx [(im (a.map af) false),(im (c.map ai) false)],bx [(im (b.map af) false),(im (d.map ai) false)]])) kL (ki n a c b d m h) K:=by
  refine nI (fun _=>.nn) fun m ih h=>.lp (Js ..) ?_
  unfold ki
  refine .s2 (im (a.map af) false) (.st (eE (e:=48)) (.st (bj ..) (.cd ?_ ?_)))
  ·refine .s2 (im (a.map af) false) (.bd (gp (e:=48) (es:=3)) fun j=>.s (ag (af j)) (.s2 (im (b.map af) false) (.bd (gp (e:=48) (es:=3)) fun k=>.s (ag (af k)) (.bd (g:=fun (y:Bool)=>(bA y)) (by simp only[cD,dL]; exact l j k) fun r=>.s (bA (!r)) (.cd ?_ ?_)))))
   ·exact .ex (o _ _ _ _ _ _)
   refine .st (aF ..) (.s [bx [(im (a.map af) false),(im (c.map ai) false)],bx [(im (b.map af) false),(im (d.map ai) false)]] (.cT r7 ?_))
   exact ih _
  exact .ex (q _)
def kj (n:Nat) (f:(List aw)) (b:(List (Int×Int))) (g:(List aw)) (c:(List (Int×Int))):Nat->Int->Option ((Bool)⊕(Unit))
 | 0,_=>none
 | m+1,a=>bif (decide (a<((b.length:Int)))) then ((bE b a).bind fun d=>(bE c a).bind fun e=>bif (!((d.1==e.1)&&(d.2==e.2))) then (some ((Sum.inl false))) else (kj n f b g c m (wr .i64 (a+1)))) else (some ((Sum.inr (()))))
theorem BI {w145:A} (f:(List aw)) (a:(List (Int×Int))) (g:(List aw)) (b:(List (Int×Int))) {K:((Bool)⊕(Unit))->Option γ} (l:∀ (k:Bool) (s2:A) (h:A) (i:A) (q0:aD) (q1:aD),J φ (kr (St.mk [(2,s2),(3,h),(4,(bA k)),(6,i)] [q0,q1])) kL (K (Sum.inl k)) some) (o:∀ (s2:A) (h:A) (p:A) (i:A) (q0:aD) (q1:aD),J φ (kx 2 (St.mk [(2,s2),(3,h),(4,p),(6,i)] [q0,q1])) kL (K (Sum.inr (()))) some) :
  ∀ (m:Nat) (j:Int),J φ (aI (cx C) (ec C n 8) (ey C n 8) (n+8) 40 0 1 2 kx kg kr kp m (St.mk [(2,(pt 0 0)),(3,(pt 1 0)),(4,w145),(6,(iA j))] [bx [(im (f.map af) false),(im (a.map ai) false)],bx [(im (g.map af) false),(im (b.map ai) false)]])) kL (kj n f a g b m j) K:=by
  refine nI (fun _=>.nn) fun m ih j=>.lp (Jt ..) ?_
  unfold kj
  refine .s2 (im (a.map ai) false) (.st (eE (e:=115)) (.st (bj ..) (.cd ?_ ?_)))
  ·refine .s2 (im (a.map ai) false) (.bd (gp (e:=115) (es:=2)) fun c=>.s (ag [(iA c.1),(iA c.2)]) (.s2 (im (b.map ai) false) (.bd (gp (e:=115) (es:=2)) fun d=>.s (ag [(iA d.1),(iA d.2)]) (.s (bA (!((c.1==d.1)&&(c.2==d.2)))) (.cd ?_ ?_)))))
   ·exact .ex (l _ _ _ _ _ _)
   refine .st (aF ..) (.s [bx [(im (f.map af) false),(im (a.map ai) false)],bx [(im (g.map af) false),(im (b.map ai) false)]] (.cT r7 ?_))
   exact ih _
  exact .ex (o _ _ _ _ _ _)
def Lb (n:Nat) (a:aM) (b:aM):Option Bool:=
 (bif (((a.Queue.length:Int)) != ((b.Queue.length:Int))) then (some true) else (some (((a.Apart.length:Int)) != ((b.Apart.length:Int))))).bind fun c=>bif c then (some false) else ((ki n a.Queue a.Apart b.Queue b.Apart (n+8) 0).bind fun d=>match d with | (Sum.inl e)=>some e | (Sum.inr _)=>(kj n a.Queue a.Apart b.Queue b.Apart (n+8) 0).bind fun f=>match f with | (Sum.inl g)=>some g | (Sum.inr _)=>some true)
theorem QK (C:OT) (n:Nat) (k:Bu C) (a:aM) (b:aM):TJ C n 40 [(ag [(im (a.Queue.map af) false),(im (a.Apart.map ai) false)]),(ag [(im (b.Queue.map af) false),(im (b.Apart.map ai) false)])] (Lb n a b) (fun y=>(bA y)):=by
 refine .lp (Rn ..) ?_
 unfold Lb
 refine .sq (pt 0 0) (.s ((pt 1 0),[bx [(im (a.Queue.map af) false),(im (a.Apart.map ai) false)],bx [(im (b.Queue.map af) false),(im (b.Apart.map ai) false)]]) (.s2 (im (a.Queue.map af) false) (.st (eE (e:=48)) (.s2 (im (b.Queue.map af) false) (.st (eE (e:=48)) (.st (aC ..) (.bg (fun t (y:Bool)=>∃ c d f g h i j:A,t=[(bA y),c,d,f,g,h,i,j]) ?_ ?_)))))))
 ·refine .bi ?_ ?_
  ·exact .lg ⟨_,_,_,_,_,_,_,rfl⟩
  exact .s (pt 0 1) (.s (im (a.Apart.map ai) false) (.st (eE (e:=115)) (.s (pt 1 1) (.s (im (b.Apart.map ai) false) (.st (eE (e:=115)) (.st (aC ..) (.lg ⟨_,_,_,_,_,_,_,rfl⟩)))))))
 rintro _ l ⟨c,d,f,g,h,i,j,rfl⟩
 refine .u4 (.u4 (.cd ?_ ?_))
 ·exact .lv rfl
 refine .as (BH C n _ _ _ _ k a.Queue a.Apart b.Queue b.Apart ?_ ?_ _ 0)
 ·intro o p q r w142 w143
  exact .un rfl (.lv rfl)
 ·intro u
  refine .un rfl (.cT r7 (.as (BI C n _ _ _ _ a.Queue a.Apart b.Queue b.Apart ?_ ?_ _ 0)))
  ·intro v w x z w160 w161
   exact .un rfl (.lv rfl)
  ·intro a2 a3 a4 a5 w166 w167
   exact .un rfl (.cT r7 (.lv rfl))
def IP (a:aM) (b:aM):Option Bool:=Lb az a b
def FP (C:OT):Prop:=∀ (a:aM) (b:aM),C 40 [(ag [(im (a.Queue.map af) false),(im (a.Apart.map ai) false)]),(ag [(im (b.Queue.map af) false),(im (b.Apart.map ai) false)])]=(IP a b).map fun y=>(bA y)
def K1 (n:Nat) (a:aq) (b:aq):Option Bool:=
 (bif (a.Bar==b.Bar) then ((D3 a.Ears b.Ears).bind fun c=>some c) else (some false)).bind fun d=>(bif d then ((IP a.Net b.Net).bind fun e=>some e) else (some false)).bind fun f=>some f
theorem Qx (C:OT) (n:Nat) (p:Bn C) (q:FP C) (a:aq) (b:aq):TJ C n 15 [(ag (aa a)),(ag (aa b))] (K1 n a b) (fun y=>(bA y)):=by
 refine .lp (Ra ..) ?_
 unfold K1
 refine .s ((pt 0 0),[bx (aa a)]) (.s ((pt 1 0),[bx (aa a),bx (aa b)]) (.s2 (iA a.Bar) (.s2 (iA b.Bar) (.st (aV ..) (.bg (fun t (y:Bool)=>∃ c d e f h:A,t=[(bA y),c,d,e,f,h]) ?_ ?_)))))
 ·refine .bi ?_ ?_
  ·exact .s (pt 0 2) (.s (im (a.Ears.map av) false) (.s (pt 1 2) (.s (im (b.Ears.map av) false) (.bd (g:=fun (y:Bool)=>(bA y)) (by simp only[cD,dL]; exact p a.Ears b.Ears) fun r=>.lg ⟨_,_,_,_,_,rfl⟩))))
  exact .lg ⟨_,_,_,_,_,rfl⟩
 rintro _ u ⟨c,d,e,f,h,rfl⟩
 refine .u4 (.uc (.uc (.bg (fun t (y:Bool)=>∃ i j k l o:A,t=[(bA y),i,j,k,l,o]) ?_ ?_)))
 ·refine .bi ?_ ?_
  ·exact .s (pt 0 0) (.s (ag [(im (a.Net.Queue.map af) false),(im (a.Net.Apart.map ai) false)]) (.s (pt 1 0) (.s (ag [(im (b.Net.Queue.map af) false),(im (b.Net.Apart.map ai) false)]) (.bd (g:=fun (y:Bool)=>(bA y)) (by simp only[cD,dL]; exact q a.Net b.Net) fun v=>.lg ⟨_,_,_,_,_,rfl⟩))))
  exact .lg ⟨_,_,_,_,_,rfl⟩
 rintro _ w ⟨i,j,k,l,o,rfl⟩
 exact .u4 (.uc (.uc (.lv rfl)))
def FE (a:aq) (b:aq):Option Bool:=K1 az a b
def FH (C:OT):Prop:=∀ (a:aq) (b:aq),C 15 [(ag (aa a)),(ag (aa b))]=(FE a b).map fun y=>(bA y)
end Go.Proofs.Ytebkhfhcipnfgaa
