/-
 The program's functions as plain functions: by a tool; each follows the interpreter.
-/
import Derived.Test.YtebkhfhcipnfgaaT1
namespace Go.Proofs.Ytebkhfhcipnfgaa
open Go.Proofs.Try (prog)
set_option linter.unusedVariables false
set_option linter.unusedSimpArgs false
set_option maxHeartbeats 4000000
set_option maxRecDepth 100000
set_option linter.defProp false
variable (C:Nat->List A->Option A) (n:Nat) {ρ γ:Type} {φ:ρ->γ->Prop} {kL:R->Option ρ} (kx kg:Nat->St->Option R) (kr:St->Option R) (kp:A->St->Option R)
def oZ (a:Int) (b:Int) (c:ByteArray) (d:(List aq)):aO:=bx [(iA a),(iA b),(sA c),(cf 3 0 d.length false)]
def dD (n:Nat) (c:Int) (b:aP) (e:Int) (f:Int) (g:ByteArray):Nat->Int->(List aq)->Option ((List aq))
 | 0,_,_=>none
 | m+1,a,d=>bif (decide (a<c)) then (bif decide (a=0) then ((c7 56 d ([(aq.mk 1 b.kind gS ([]))])).bind fun h=>dD n c b e f g m (wr .i64 (a+1)) h) else bif decide (a=1) then ((c7 56 d ([(aq.mk 1 b.cue.No gS ([]))])).bind fun i=>dD n c b e f g m (wr .i64 (a+1)) i) else bif decide (a=2) then ((c7 56 d ([(aq.mk 1 b.cue.Role gS ([]))])).bind fun j=>dD n c b e f g m (wr .i64 (a+1)) j) else bif decide (a=3) then ((c7 56 d ([(aq.mk 1 b.cue.Bar gS ([]))])).bind fun k=>dD n c b e f g m (wr .i64 (a+1)) k) else bif decide (a=4) then ((c7 56 d ([(aq.mk 1 b.cue.Program gS ([]))])).bind fun l=>dD n c b e f g m (wr .i64 (a+1)) l) else none) else (some d)
theorem AG {w95:A} (k:Int) (a:aP) (d:Int) (e:Int) (h:ByteArray) {K:((List aq))->Option γ} (u:∀ (i:(List aq)) (s2:A) (w:A) (x:A) (z:A) (q0:aO) (q2:aO),J φ (kx 0 (St.mk [(2,s2),(3,(pt 1 0)),(9,w),(10,x),(11,z)] [q0,bx [(iA d),(iA e),(sA h),(cf 3 0 i.length false)],q2,aO.row false 4 (i.map av)])) kL (K i) some) :
  ∀ (m:Nat) (j:Int) (c:(List aq)),J φ (aK (cx C) (ec C n 8) (ey C n 8) (n+8) 26 0 0 4 kx kg kr kp m (St.mk [(2,w95),(3,(pt 1 0)),(9,(cf 2 0 5 false)),(10,(iA k)),(11,(iA j))] [bx (ax a),(oZ d e h c),aO.row true 1 [[(pt 0 0)],[(pt 0 1)],[(pt 0 2)],[(pt 0 3)],[(pt 0 4)],[(pt 0 0)],[(pt 0 5)],[(pt 0 6)],[(pt 0 7)]],aO.row false 4 (c.map av)])) kL (dD n k a d e h m j c) K:=by
  refine nI (fun _ _=>.nn) fun m ih j c=>.lp (E5 ..) ?_
  unfold dD
  refine .st (aY ..) (.cd ?_ ?_)
  ·refine .sp (fun a0=>?_) (fun _=>?_)
   ·refine .st (v:=(A.ep 2 0 0)) (by rw[Tv a0]; kernel_rfl) (.s (pt 0 0) (.s2 (cf 3 0 c.length false) (.s (pt 0 0) (.s (iA a.kind) (.s (ag [(iA 1),(iA a.kind),se,Th]) (.s (im [[(iA 1),(iA a.kind),se,(im [] false)]] true) (.bd (g:=fun (y:List aq)=>((cf 3 0 y.length false),[bx (ax a),(oZ d e h c),aO.row true 1 [[(pt 0 0)],[(pt 0 1)],[(pt 0 2)],[(pt 0 3)],[(pt 0 4)],[(pt 0 0)],[(pt 0 5)],[(pt 0 6)],[(pt 0 7)]],aO.row false 4 (y.map av)])) (cw dZ (l:=c) (l2:=[(aq.mk 1 a.kind gS ([]))]) (b:=3) rfl (by decide) (fT (f:=av) (l:=([(aq.mk 1 a.kind gS ([]))]:List aq)) y6)) fun o=>.s (pt 1 3) (.sh (.st (aH ..) (.s [bx (ax a),bx [(iA d),(iA e),(sA h),(cf 3 0 o.length false)],aO.row true 1 [[(pt 0 0)],[(pt 0 1)],[(pt 0 2)],[(pt 0 3)],[(pt 0 4)],[(pt 0 0)],[(pt 0 5)],[(pt 0 6)],[(pt 0 7)]],aO.row false 4 (o.map av)] (.cT r8 ?_)))))))))))
    exact ih _ _
   refine .sp (fun a1=>?_) (fun _=>?_)
   ·refine .st (v:=(A.ep 2 1 0)) (by rw[Tv a1]; kernel_rfl) (.s (pt 0 1) (.s2 (cf 3 0 c.length false) (.s (pt 0 1) (.s (iA a.cue.No) (.s (ag [(iA 1),(iA a.cue.No),se,Th]) (.s (im [[(iA 1),(iA a.cue.No),se,(im [] false)]] true) (.bd (g:=fun (y:List aq)=>((cf 3 0 y.length false),[bx (ax a),(oZ d e h c),aO.row true 1 [[(pt 0 0)],[(pt 0 1)],[(pt 0 2)],[(pt 0 3)],[(pt 0 4)],[(pt 0 0)],[(pt 0 5)],[(pt 0 6)],[(pt 0 7)]],aO.row false 4 (y.map av)])) (cw dZ (l:=c) (l2:=[(aq.mk 1 a.cue.No gS ([]))]) (b:=3) rfl (by decide) (fT (f:=av) (l:=([(aq.mk 1 a.cue.No gS ([]))]:List aq)) y6)) fun p=>.s (pt 1 3) (.sh (.st (aH ..) (.s [bx (ax a),bx [(iA d),(iA e),(sA h),(cf 3 0 p.length false)],aO.row true 1 [[(pt 0 0)],[(pt 0 1)],[(pt 0 2)],[(pt 0 3)],[(pt 0 4)],[(pt 0 0)],[(pt 0 5)],[(pt 0 6)],[(pt 0 7)]],aO.row false 4 (p.map av)] (.cT r8 ?_)))))))))))
    exact ih _ _
   refine .sp (fun a2=>?_) (fun _=>?_)
   ·refine .st (v:=(A.ep 2 2 0)) (by rw[Tv a2]; kernel_rfl) (.s (pt 0 2) (.s2 (cf 3 0 c.length false) (.s (pt 0 2) (.s (iA a.cue.Role) (.s (ag [(iA 1),(iA a.cue.Role),se,Th]) (.s (im [[(iA 1),(iA a.cue.Role),se,(im [] false)]] true) (.bd (g:=fun (y:List aq)=>((cf 3 0 y.length false),[bx (ax a),(oZ d e h c),aO.row true 1 [[(pt 0 0)],[(pt 0 1)],[(pt 0 2)],[(pt 0 3)],[(pt 0 4)],[(pt 0 0)],[(pt 0 5)],[(pt 0 6)],[(pt 0 7)]],aO.row false 4 (y.map av)])) (cw dZ (l:=c) (l2:=[(aq.mk 1 a.cue.Role gS ([]))]) (b:=3) rfl (by decide) (fT (f:=av) (l:=([(aq.mk 1 a.cue.Role gS ([]))]:List aq)) y6)) fun q=>.s (pt 1 3) (.sh (.st (aH ..) (.s [bx (ax a),bx [(iA d),(iA e),(sA h),(cf 3 0 q.length false)],aO.row true 1 [[(pt 0 0)],[(pt 0 1)],[(pt 0 2)],[(pt 0 3)],[(pt 0 4)],[(pt 0 0)],[(pt 0 5)],[(pt 0 6)],[(pt 0 7)]],aO.row false 4 (q.map av)] (.cT r8 ?_)))))))))))
    exact ih _ _
   refine .sp (fun a3=>?_) (fun _=>?_)
   ·refine .st (v:=(A.ep 2 3 0)) (by rw[Tv a3]; kernel_rfl) (.s (pt 0 3) (.s2 (cf 3 0 c.length false) (.s (pt 0 3) (.s (iA a.cue.Bar) (.s (ag [(iA 1),(iA a.cue.Bar),se,Th]) (.s (im [[(iA 1),(iA a.cue.Bar),se,(im [] false)]] true) (.bd (g:=fun (y:List aq)=>((cf 3 0 y.length false),[bx (ax a),(oZ d e h c),aO.row true 1 [[(pt 0 0)],[(pt 0 1)],[(pt 0 2)],[(pt 0 3)],[(pt 0 4)],[(pt 0 0)],[(pt 0 5)],[(pt 0 6)],[(pt 0 7)]],aO.row false 4 (y.map av)])) (cw dZ (l:=c) (l2:=[(aq.mk 1 a.cue.Bar gS ([]))]) (b:=3) rfl (by decide) (fT (f:=av) (l:=([(aq.mk 1 a.cue.Bar gS ([]))]:List aq)) y6)) fun r=>.s (pt 1 3) (.sh (.st (aH ..) (.s [bx (ax a),bx [(iA d),(iA e),(sA h),(cf 3 0 r.length false)],aO.row true 1 [[(pt 0 0)],[(pt 0 1)],[(pt 0 2)],[(pt 0 3)],[(pt 0 4)],[(pt 0 0)],[(pt 0 5)],[(pt 0 6)],[(pt 0 7)]],aO.row false 4 (r.map av)] (.cT r8 ?_)))))))))))
    exact ih _ _
   refine .sp (fun a4=>?_) (fun _=>?_)
   ·refine .st (v:=(A.ep 2 4 0)) (by rw[Tv a4]; kernel_rfl) (.s (pt 0 4) (.s2 (cf 3 0 c.length false) (.s (pt 0 4) (.s (iA a.cue.Program) (.s (ag [(iA 1),(iA a.cue.Program),se,Th]) (.s (im [[(iA 1),(iA a.cue.Program),se,(im [] false)]] true) (.bd (g:=fun (y:List aq)=>((cf 3 0 y.length false),[bx (ax a),(oZ d e h c),aO.row true 1 [[(pt 0 0)],[(pt 0 1)],[(pt 0 2)],[(pt 0 3)],[(pt 0 4)],[(pt 0 0)],[(pt 0 5)],[(pt 0 6)],[(pt 0 7)]],aO.row false 4 (y.map av)])) (cw dZ (l:=c) (l2:=[(aq.mk 1 a.cue.Program gS ([]))]) (b:=3) rfl (by decide) (fT (f:=av) (l:=([(aq.mk 1 a.cue.Program gS ([]))]:List aq)) y6)) fun t=>.s (pt 1 3) (.sh (.st (aH ..) (.s [bx (ax a),bx [(iA d),(iA e),(sA h),(cf 3 0 t.length false)],aO.row true 1 [[(pt 0 0)],[(pt 0 1)],[(pt 0 2)],[(pt 0 3)],[(pt 0 4)],[(pt 0 0)],[(pt 0 5)],[(pt 0 6)],[(pt 0 7)]],aO.row false 4 (t.map av)] (.cT r8 ?_)))))))))))
    exact ih _ _
   exact .nn
  exact .ex (u _ _ _ _ _ _ _)
def gO (n:Nat) (c:Int) (b:aP) (e:Int) (f:Int) (g:ByteArray):Nat->Int->(List aq)->Option ((List aq))
 | 0,_,_=>none
 | m+1,a,d=>bif (decide (a<c)) then (bif decide (a=0) then ((c7 56 d ([(aq.mk 1 b.kind gS ([]))])).bind fun h=>gO n c b e f g m (wr .i64 (a+1)) h) else bif decide (a=1) then ((c7 56 d ([(aq.mk 1 b.report.Role gS ([]))])).bind fun i=>gO n c b e f g m (wr .i64 (a+1)) i) else bif decide (a=2) then ((c7 56 d ([(aq.mk 1 b.report.Bar gS ([]))])).bind fun j=>gO n c b e f g m (wr .i64 (a+1)) j) else bif decide (a=3) then ((c7 56 d ([(aq.mk 1 b.report.Program gS ([]))])).bind fun k=>gO n c b e f g m (wr .i64 (a+1)) k) else none) else (some d)
theorem zb {w213:A} (k:Int) (a:aP) (d:Int) (e:Int) (h:ByteArray) {K:((List aq))->Option γ} (t:∀ (i:(List aq)) (s2:A) (u:A) (w:A) (x:A) (q0:aO) (q2:aO),J φ (kx 0 (St.mk [(2,s2),(3,(pt 1 0)),(9,u),(10,w),(11,x)] [q0,bx [(iA d),(iA e),(sA h),(cf 3 0 i.length false)],q2,aO.row false 4 (i.map av)])) kL (K i) some) :
  ∀ (m:Nat) (j:Int) (c:(List aq)),J φ (aK (cx C) (ec C n 8) (ey C n 8) (n+8) 26 0 0 4 kx kg kr kp m (St.mk [(2,w213),(3,(pt 1 0)),(9,(cf 2 5 4 true)),(10,(iA k)),(11,(iA j))] [bx (ax a),bx [(iA d),(iA e),(sA h),(cf 3 0 c.length false)],aO.row true 1 [[(pt 0 0)],[(pt 0 1)],[(pt 0 2)],[(pt 0 3)],[(pt 0 4)],[(pt 0 0)],[(pt 0 5)],[(pt 0 6)],[(pt 0 7)]],aO.row false 4 (c.map av)])) kL (gO n k a d e h m j c) K:=by
  refine nI (fun _ _=>.nn) fun m ih j c=>.lp (E5 ..) ?_
  unfold gO
  refine .st (aY ..) (.cd ?_ ?_)
  ·refine .sp (fun z=>?_) (fun _=>?_)
   ·refine .st (v:=(A.ep 2 5 0)) (by rw[Tv z]; kernel_rfl) (.s (pt 0 0) (.s2 (cf 3 0 c.length false) (.s (pt 0 0) (.s (iA a.kind) (.s (ag [(iA 1),(iA a.kind),se,Th]) (.s (im [[(iA 1),(iA a.kind),se,(im [] false)]] true) (.bd (g:=fun (y:List aq)=>((cf 3 0 y.length false),[bx (ax a),bx [(iA d),(iA e),(sA h),(cf 3 0 c.length false)],aO.row true 1 [[(pt 0 0)],[(pt 0 1)],[(pt 0 2)],[(pt 0 3)],[(pt 0 4)],[(pt 0 0)],[(pt 0 5)],[(pt 0 6)],[(pt 0 7)]],aO.row false 4 (y.map av)])) (cw dZ (l:=c) (l2:=[(aq.mk 1 a.kind gS ([]))]) (b:=3) rfl (by decide) (fT (f:=av) (l:=([(aq.mk 1 a.kind gS ([]))]:List aq)) y6)) fun o=>.s (pt 1 3) (.sh (.st (aH ..) (.s [bx (ax a),bx [(iA d),(iA e),(sA h),(cf 3 0 o.length false)],aO.row true 1 [[(pt 0 0)],[(pt 0 1)],[(pt 0 2)],[(pt 0 3)],[(pt 0 4)],[(pt 0 0)],[(pt 0 5)],[(pt 0 6)],[(pt 0 7)]],aO.row false 4 (o.map av)] (.cT r8 ?_)))))))))))
    exact ih _ _
   refine .sp (fun a0=>?_) (fun _=>?_)
   ·refine .st (v:=(A.ep 2 6 0)) (by rw[Tv a0]; kernel_rfl) (.s (pt 0 5) (.s2 (cf 3 0 c.length false) (.s (pt 0 5) (.s (iA a.report.Role) (.s (ag [(iA 1),(iA a.report.Role),se,Th]) (.s (im [[(iA 1),(iA a.report.Role),se,(im [] false)]] true) (.bd (g:=fun (y:List aq)=>((cf 3 0 y.length false),[bx (ax a),bx [(iA d),(iA e),(sA h),(cf 3 0 c.length false)],aO.row true 1 [[(pt 0 0)],[(pt 0 1)],[(pt 0 2)],[(pt 0 3)],[(pt 0 4)],[(pt 0 0)],[(pt 0 5)],[(pt 0 6)],[(pt 0 7)]],aO.row false 4 (y.map av)])) (cw dZ (l:=c) (l2:=[(aq.mk 1 a.report.Role gS ([]))]) (b:=3) rfl (by decide) (fT (f:=av) (l:=([(aq.mk 1 a.report.Role gS ([]))]:List aq)) y6)) fun p=>.s (pt 1 3) (.sh (.st (aH ..) (.s [bx (ax a),bx [(iA d),(iA e),(sA h),(cf 3 0 p.length false)],aO.row true 1 [[(pt 0 0)],[(pt 0 1)],[(pt 0 2)],[(pt 0 3)],[(pt 0 4)],[(pt 0 0)],[(pt 0 5)],[(pt 0 6)],[(pt 0 7)]],aO.row false 4 (p.map av)] (.cT r8 ?_)))))))))))
    exact ih _ _
   refine .sp (fun a1=>?_) (fun _=>?_)
   ·refine .st (v:=(A.ep 2 7 0)) (by rw[Tv a1]; kernel_rfl) (.s (pt 0 6) (.s2 (cf 3 0 c.length false) (.s (pt 0 6) (.s (iA a.report.Bar) (.s (ag [(iA 1),(iA a.report.Bar),se,Th]) (.s (im [[(iA 1),(iA a.report.Bar),se,(im [] false)]] true) (.bd (g:=fun (y:List aq)=>((cf 3 0 y.length false),[bx (ax a),bx [(iA d),(iA e),(sA h),(cf 3 0 c.length false)],aO.row true 1 [[(pt 0 0)],[(pt 0 1)],[(pt 0 2)],[(pt 0 3)],[(pt 0 4)],[(pt 0 0)],[(pt 0 5)],[(pt 0 6)],[(pt 0 7)]],aO.row false 4 (y.map av)])) (cw dZ (l:=c) (l2:=[(aq.mk 1 a.report.Bar gS ([]))]) (b:=3) rfl (by decide) (fT (f:=av) (l:=([(aq.mk 1 a.report.Bar gS ([]))]:List aq)) y6)) fun q=>.s (pt 1 3) (.sh (.st (aH ..) (.s [bx (ax a),bx [(iA d),(iA e),(sA h),(cf 3 0 q.length false)],aO.row true 1 [[(pt 0 0)],[(pt 0 1)],[(pt 0 2)],[(pt 0 3)],[(pt 0 4)],[(pt 0 0)],[(pt 0 5)],[(pt 0 6)],[(pt 0 7)]],aO.row false 4 (q.map av)] (.cT r8 ?_)))))))))))
    exact ih _ _
   refine .sp (fun a2=>?_) (fun _=>?_)
   ·refine .st (v:=(A.ep 2 8 0)) (by rw[Tv a2]; kernel_rfl) (.s (pt 0 7) (.s2 (cf 3 0 c.length false) (.s (pt 0 7) (.s (iA a.report.Program) (.s (ag [(iA 1),(iA a.report.Program),se,Th]) (.s (im [[(iA 1),(iA a.report.Program),se,(im [] false)]] true) (.bd (g:=fun (y:List aq)=>((cf 3 0 y.length false),[bx (ax a),bx [(iA d),(iA e),(sA h),(cf 3 0 c.length false)],aO.row true 1 [[(pt 0 0)],[(pt 0 1)],[(pt 0 2)],[(pt 0 3)],[(pt 0 4)],[(pt 0 0)],[(pt 0 5)],[(pt 0 6)],[(pt 0 7)]],aO.row false 4 (y.map av)])) (cw dZ (l:=c) (l2:=[(aq.mk 1 a.report.Program gS ([]))]) (b:=3) rfl (by decide) (fT (f:=av) (l:=([(aq.mk 1 a.report.Program gS ([]))]:List aq)) y6)) fun r=>.s (pt 1 3) (.sh (.st (aH ..) (.s [bx (ax a),bx [(iA d),(iA e),(sA h),(cf 3 0 r.length false)],aO.row true 1 [[(pt 0 0)],[(pt 0 1)],[(pt 0 2)],[(pt 0 3)],[(pt 0 4)],[(pt 0 0)],[(pt 0 5)],[(pt 0 6)],[(pt 0 7)]],aO.row false 4 (r.map av)] (.cT r8 ?_)))))))))))
    exact ih _ _
   exact .nn
  exact .ex (t _ _ _ _ _ _ _)
def KM (n:Nat) (a:aP):Option (List UInt8):=
 bif (a.kind==1) then ((dD n 5 a 3 0 gS (n+8) 0 (([]:List aq))).bind fun b=>match b with | c=>(FQ ((aq.mk 3 0 gS c))).bind fun d=>some d.1) else ((gO n 4 a 3 0 gS (n+8) 0 (([]:List aq))).bind fun e=>match e with | f=>(FQ ((aq.mk 3 0 gS f))).bind fun g=>some g.1)
theorem Q5 (C:OT) (n:Nat) (e:EN C) (d:aP):TJ C n 26 [(ag (ax d))] (KM n d) (fun y=>(im (y.map c8) false)):=by
 refine .lp (RU ..) ?_
 unfold KM
 refine .s ((pt 0 0),[bx (ax d)]) (.s (ag [(iA 3),(iA 0),se,Th]) (.sq (pt 1 0) (.sh (.cl ((aV Fq).trans (Pt ..)) (.s (pt 0 0) (.s (pt 0 0) (.s (pt 0 0) (.s (pt 0 1) (.s (pt 0 1) (.s (pt 0 0) (.s (pt 0 1) (.s (pt 0 2) (.s (pt 0 0) (.s (pt 0 1) (.s (pt 0 3) (.s (pt 0 0) (.s (pt 0 1) (.s (pt 0 4) (.s (pt 0 0) (.s (pt 0 0) (.s (pt 0 0) (.s (pt 0 5) (.s (pt 0 5) ?_)))))))))))))))))))))))
 refine .s (pt 0 0) (.s (pt 0 5) (.s (pt 0 6) (.s (pt 0 0) (.s (pt 0 5) (.s (pt 0 7) (.s (ag [(pt 0 0),(pt 0 1),(pt 0 2),(pt 0 3),(pt 0 4),(pt 0 0),(pt 0 5),(pt 0 6),(pt 0 7)]) (.cT r8 (.sq (A.ep 2 0 0) (.s [bx (ax d),bx [(iA 3),(iA 0),se,Th],aO.row true 1 [[(pt 0 0)],[(pt 0 1)],[(pt 0 2)],[(pt 0 3)],[(pt 0 4)],[(pt 0 0)],[(pt 0 5)],[(pt 0 6)],[(pt 0 7)]]] (.s (pt 0 0) (.s2 (iA d.kind) (.st (aX ..) (.cd ?_ ?_)))))))))))))
 ·refine .s (cf 2 0 5 false) (.cr (.ok (.s (iA 5) (.as (AG C n _ _ _ _ 5 d 3 0 gS ?_ _ 0 (([]:List aq)))))))
  ·intro a i j k o w120 w121
   exact .un rfl (.cT r8 (.s (ag [(iA 3),(iA 0),se,(cf 3 0 a.length false)]) (.bd (g:=fun (y:((List UInt8)×Int))=>(tp [(im (y.1.map c8) false),(iA y.2)])) (by show C 58 [snap [w120,bx [(iA 3),(iA 0),se,(cf 3 0 a.length false)],w121,aO.row false 4 (a.map av)] (ag [(iA 3),(iA 0),se,(cf 3 0 a.length false)])]=_; simp only[cP,eu,mW (H:=[w120,bx [(iA 3),(iA 0),se,(cf 3 0 a.length false)],w121,aO.row false 4 (a.map av)]) (b:=3) (es:=4) (l:=a) cb rfl]; exact e ((aq.mk 3 0 gS a))) fun f=>.s (im (f.1.map c8) false) (.s (iA f.2) (.lv s5)))))
 refine .s (cf 2 5 4 true) (.cr (.ok (.s (iA 4) (.as (zb C n _ _ _ _ 4 d 3 0 gS ?_ _ 0 (([]:List aq)))))))
 ·intro c p q r t w236 w237
  exact .un rfl (.cT r8 (.s (ag [(iA 3),(iA 0),se,(cf 3 0 c.length false)]) (.bd (g:=fun (y:((List UInt8)×Int))=>(tp [(im (y.1.map c8) false),(iA y.2)])) (by show C 58 [snap [w236,bx [(iA 3),(iA 0),se,(cf 3 0 c.length false)],w237,aO.row false 4 (c.map av)] (ag [(iA 3),(iA 0),se,(cf 3 0 c.length false)])]=_; simp only[cP,eu,mW (H:=[w236,bx [(iA 3),(iA 0),se,(cf 3 0 c.length false)],w237,aO.row false 4 (c.map av)]) (b:=3) (es:=4) (l:=c) cb rfl]; exact e ((aq.mk 3 0 gS c))) fun h=>.s (im (h.1.map c8) false) (.s (iA h.2) (.lv s5)))))
def HQ (a:aP):Option (List UInt8):=KM aB a
def EH (C:OT):Prop:=∀ (a:aP),C 26 [(ag (ax a))]=(HQ a).map fun y=>(im (y.map c8) false)
def fD (a:(List az)) (b:bo):aO:=bx [(cf 3 0 a.length false),(im (b.Apart.map au) false)]
def gX (a:bo):aO:=bx [(im (a.Queue.map ar) false),(im (a.Apart.map au) false)]
def KL (n:Nat) (a:bo) (b:az):Option (bo×Int):=
 (Ho a).bind fun c=>(bif (c != 0) then (some true) else ((Hs b).bind fun d=>some (!d))).bind fun e=>bif e then (some (((bo.mk ([]) ([])),60))) else (bif (((a.Queue.length:Int))==4096) then (some (((bo.mk ([]) ([])),2))) else ((iJ a.Queue 0 ((a.Queue.length:Int))).bind fun f=>(c7 40 f ([b])).bind fun g=>some (((bo.mk g a.Apart),0))))
theorem Q4 (C:OT) (n:Nat) (o:Aj C) (p:As C) (c:bo) (d:az):TJ C n 25 [(ag [(im (c.Queue.map ar) false),(im (c.Apart.map au) false)]),(ag (ar d))] (KL n c d) (fun y=>(tp [(ag [(im (y.1.Queue.map ar) false),(im (y.1.Apart.map au) false)]),(iA y.2)])):=by
 refine .lp (RT ..) ?_
 unfold KL
 refine .s ((pt 0 0),[(gX c)]) (.s ((pt 1 0),[(gX c),bx (ar d)]) (.s ((pt 2 0),[(gX c),bx (ar d),bx [Th,Th]]) (.s (ag [(im (c.Queue.map ar) false),(im (c.Apart.map au) false)]) (.bd (g:=fun (y:Int)=>(iA y)) (by simp only[cP,eu]; exact o c) fun u=>.st (aI ..) (.bg (fun t (y:Bool)=>∃ i j k:A,t=[(bA y),i,j,k]) ?_ ?_)))))
 ·refine .bi ?_ ?_
  ·exact .lg ⟨_,_,_,rfl⟩
  exact .s (ag (ar d)) (.bd (g:=fun (y:Bool)=>(bA y)) (by simp only[cP,eu]; exact p d) fun q=>.s (bA (!q)) (.lg ⟨_,_,_,rfl⟩))
 rintro _ v ⟨i,j,k,rfl⟩
 refine .u4 (.cd ?_ ?_)
 ·exact .s (ag [Th,Th]) (.s [(gX c),bx (ar d),bx [Th,Th]] (.s (ag [Th,Th]) (.lv s5)))
 refine .s2 (im (c.Queue.map ar) false) (.st (dT (e:=48)) (.st (aX ..) (.cd ?_ ?_)))
 ·exact .s (ag [Th,Th]) (.s [(gX c),bx (ar d),bx [Th,Th]] (.s (ag [Th,Th]) (.lv s5)))
 exact .s2 (im (c.Queue.map ar) false) (.s2 (im (c.Queue.map ar) false) (.st (dT (e:=48)) (.s2 (im (c.Queue.map ar) false) (.st (dT (e:=48)) (.bd (n6 (e:=48) (es:=3) (f:=ar) (l:=c.Queue) (a:=0) (b:=(c.Queue.length:Int)) r8 r8 (fun _=>rfl) (.inl ⟨rfl,rfl⟩)) fun r=>.s (ag (ar d)) (.s (im [[(iA d.From),(iA d.To),(im (d.Data.map c8) false)]] true) (.bd (g:=fun (y:List az)=>((cf 3 0 y.length false),[(gX c),bx (ar d),bx [Th,Th],aO.row false 3 (y.map ar)])) (kW tA (l:=r) (l2:=[d]) (bN (f:=ar) ([d]:List az) _ _)) fun h=>.s (pt 0 0) (.sh (.s (ag [(cf 3 0 h.length false),(im (c.Apart.map au) false)]) (.s [(fD h c),bx (ar d),(fD h c),aO.row false 3 (h.map ar)] (.s (ag [(cf 3 0 h.length false),(im (c.Apart.map au) false)]) (.lv (by show bC [(fD h c),bx (ar d),(fD h c),aO.row false 3 (h.map ar)] (tp [(ag [(cf 3 0 h.length false),(im (c.Apart.map au) false)]),(iA 0)])=_; first | (simp only[cP,eu,bC,bO (H:=[(fD h c),bx (ar d),(fD h c),aO.row false 3 (h.map ar)]) (b:=3) (es:=3) (wr:=false) (l:=h) cq rfl]; done) | (simp only[cP,jA,bC,bO (H:=[(fD h c),bx (ar d),(fD h c),aO.row false 3 (h.map ar)]) (b:=3) (es:=3) (wr:=false) (l:=h) cq rfl]; first | done | rfl))))))))))))))
def HP (a:bo) (b:az):Option (bo×Int):=KL aB a b
def EG (C:OT):Prop:=∀ (a:bo) (b:az),C 25 [(ag [(im (a.Queue.map ar) false),(im (a.Apart.map au) false)]),(ag (ar b))]=(HP a b).map fun y=>(tp [(ag [(im (y.1.Queue.map ar) false),(im (y.1.Apart.map au) false)]),(iA y.2)])
abbrev lO:A:=(ag [Th,Th,Th,(iA 0)])
def F9 (n:Nat) (a:aw) (b:bw):Option (aw×Int):=
 (Ev a).bind fun d=>bif (d != 0) then (some (((aw.mk ((bo.mk ([]) ([]))) ([]) 0),d))) else ((FO b ((a.Ears.length:Int))).bind fun e=>bif (!e) then (some (((aw.mk ((bo.mk ([]) ([]))) ([]) 0),1))) else ((HQ ((aP.mk 1 b ((bz.mk 0 0 0))))).bind fun f=>(HP a.Net ((az.mk 0 (wr .i64 (b.Role+1)) f))).bind fun c=>bif (c.2 != 0) then (some (((aw.mk ((bo.mk ([]) ([]))) ([]) 0),c.2))) else (some (((aw.mk c.1 a.Ears a.Bar),0)))))
theorem T9 (C:OT) (n:Nat) (f:xQ C) (h:rW C) (i:EG C) (j:EH C) (a:aw) (c:bw):TJ C n 9 [(ag (ak a)),(ag (aE c))] (F9 n a c) (fun y=>(tp [(ag (ak y.1)),(iA y.2)])):=by
 refine .lp (e9 ..) ?_
 unfold F9
 refine .s ((pt 0 0),[bx (ak a)]) (.sq (pt 1 0) (.s ((pt 2 0),[bx (ak a),bx (aE c),bx [Th,Th,Th,(iA 0)]]) (.s (ag (ak a)) (.bd (g:=fun (y:Int)=>(iA y)) (by simp only[cP,eu]; exact f a) fun l=>.st (aI ..) (.cd ?_ ?_)))))
 ·exact .s lO (.s [bx (ak a),bx (aE c),bx [Th,Th,Th,(iA 0)]] (.s lO (.lv s5)))
 refine .s (ag (aE c)) (.s2 (im (a.Ears.map aC) false) (.st (dT (e:=55)) (.bd (h c ((a.Ears.length:Int))) fun k=>.s (bA (!k)) (.cd ?_ ?_))))
 ·exact .s lO (.s [bx (ak a),bx (aE c),bx [Th,Th,Th,(iA 0)]] (.s lO (.lv s5)))
 refine .s (pt 0 0) (.s (ag [(im (a.Net.Queue.map ar) false),(im (a.Net.Apart.map au) false)]) (.s (pt 1 1) (.s (iA c.Role) (.st (aH ..) (.s (ag (aE c)) (.s (ag ([(iA 1)]++aE c++[(iA 0),(iA 0),(iA 0)])) (.bd (j ((aP.mk 1 c ((bz.mk 0 0 0))))) fun d=>.s (ag [(iA 0),(iA (wr .i64 (c.Role+1))),(im (d.map c8) false)]) (.bd (g:=fun (y:(bo×Int))=>(tp [(ag [(im (y.1.Queue.map ar) false),(im (y.1.Apart.map au) false)]),(iA y.2)])) (by simp only[cP,eu]; exact i a.Net ((az.mk 0 (wr .i64 (c.Role+1)) d))) fun b=>.s (ag [(im (b.1.Queue.map ar) false),(im (b.1.Apart.map au) false)]) (.s (iA b.2) (.cT r8 (.sq (pt 3 0) (.s [bx (ak a),bx (aE c),bx [Th,Th,Th,(iA 0)],bx [(im (b.1.Queue.map ar) false),(im (b.1.Apart.map au) false)]] (.st (aI ..) (.cd ?_ ?_))))))))))))))
 ·exact .s lO (.s [bx (ak a),bx (aE c),bx [Th,Th,Th,(iA 0)],bx [(im (b.1.Queue.map ar) false),(im (b.1.Apart.map au) false)]] (.s lO (.lv s5)))
 exact .s (ag [(im (b.1.Queue.map ar) false),(im (b.1.Apart.map au) false)]) (.s (pt 0 0) (.sh (.s (ag [(im (b.1.Queue.map ar) false),(im (b.1.Apart.map au) false),(im (a.Ears.map aC) false),(iA a.Bar)]) (.s [bx [(im (b.1.Queue.map ar) false),(im (b.1.Apart.map au) false),(im (a.Ears.map aC) false),(iA a.Bar)],bx (aE c),bx [(im (b.1.Queue.map ar) false),(im (b.1.Apart.map au) false),(im (a.Ears.map aC) false),(iA a.Bar)],bx [(im (b.1.Queue.map ar) false),(im (b.1.Apart.map au) false)]] (.s (ag [(im (b.1.Queue.map ar) false),(im (b.1.Apart.map au) false),(im (a.Ears.map aC) false),(iA a.Bar)]) (.lv s5))))))
def G9 (a:aw) (b:bw):Option (aw×Int):=F9 aB a b
def FV (C:OT):Prop:=∀ (a:aw) (b:bw),C 9 [(ag (ak a)),(ag (aE b))]=(G9 a b).map fun y=>(tp [(ag (ak y.1)),(iA y.2)])
def Kq:List ((aw×Int)×(aw×Int)):=[((⟨⟨[],[]⟩,[⟨[],[],[]⟩,⟨[],[],[]⟩],0⟩,0),(⟨⟨[],[]⟩,[],0⟩,1)),
 ((⟨⟨[⟨2,0,[3,4,1,4,1,2,1,0,1,0]⟩],[]⟩,[⟨[],[3],[3]⟩,⟨[],[0],[0]⟩],1⟩,0),(⟨⟨[⟨2,0,[3,4,1,4,1,2,1,0,1,0]⟩,⟨1,0,[3,4,1,4,1,0,1,0,1,6]⟩],[]⟩,[⟨[],[3],[3]⟩,⟨[],[0],[0]⟩],1⟩,0))]
def Lg (a:aw) (b:Int):Option (aw×Int):=zP Kq (a,b)
def EE (C:OT):Prop:=∀ (a:aw) (b:Int),C 21 [(ag (ak a)),(iA b)]=(Lg a b).map fun y=>(tp [(ag (ak y.1)),(iA y.2)])
def Kp:List ((aw×(List Int)×(List Int))×(aw×Int)):=[((⟨⟨[],[]⟩,[⟨[],[],[]⟩,⟨[],[],[]⟩],0⟩,[],[0,2]),(⟨⟨[],[]⟩,[],0⟩,1)),
 ((⟨⟨[⟨0,2,[3,5,1,2,1,12,1,2,1,0,1,6]⟩],[]⟩,[⟨[⟨5,0,0,3⟩],[],[]⟩,⟨[],[],[]⟩],0⟩,[],[0,1]),(⟨⟨[⟨0,2,[3,5,1,2,1,12,1,2,1,0,1,6]⟩,⟨1,0,[3,4,1,4,1,0,1,0,1,6]⟩,⟨2,0,[3,4,1,4,1,2,1,0,1,0]⟩],[]⟩,[⟨[],[3],[3]⟩,⟨[],[0],[0]⟩],1⟩,0)),
 ((⟨⟨[⟨0,2,[3,5,1,2,1,12,1,2,1,0,1,6]⟩],[]⟩,[⟨[⟨5,0,0,3⟩],[],[]⟩,⟨[],[],[]⟩],0⟩,[],[0,0]),(⟨⟨[⟨0,2,[3,5,1,2,1,12,1,2,1,0,1,6]⟩,⟨1,0,[3,4,1,4,1,0,1,0,1,0]⟩,⟨2,0,[3,4,1,4,1,2,1,0,1,0]⟩],[]⟩,[⟨[],[3],[0]⟩,⟨[],[0],[0]⟩],1⟩,0)),
 ((⟨⟨[⟨0,2,[3,5,1,2,1,12,1,2,1,0,1,6]⟩],[]⟩,[⟨[⟨5,0,0,3⟩],[],[]⟩,⟨[],[],[]⟩],0⟩,[0],[0,1]),(⟨⟨[⟨0,2,[3,5,1,2,1,12,1,2,1,0,1,6]⟩,⟨1,0,[3,4,1,4,1,0,1,0,1,0]⟩,⟨2,0,[3,4,1,4,1,2,1,0,1,0]⟩],[]⟩,[⟨[],[0],[0]⟩,⟨[],[0],[0]⟩],1⟩,0))]
def Hn (a:aw) (b:(List Int)) (a2:(List Int)):Option (aw×Int):=zP Kp (a,b,a2)
def ED (C:OT):Prop:=∀ (a:aw) (b:(List Int)) (a2:(List Int)),C 19 [(ag (ak a)),(im (b.map (cI .i64)) false),(im (a2.map (cI .i64)) false)]=(Hn a b a2).map fun y=>(tp [(ag (ak y.1)),(iA y.2)])
def Ko:List ((aw×Int)×(aw×bz×Bool×Int)):=[((⟨⟨[],[]⟩,[⟨[],[],[]⟩,⟨[],[],[]⟩],0⟩,0),(⟨⟨[],[]⟩,[],0⟩,⟨0,0,0⟩,false,1)),
 ((⟨⟨[⟨0,1,[3,5,1,2,1,8,1,0,1,0,1,4]⟩,⟨0,1,[3,5,1,2,1,10,1,0,1,0,1,6]⟩,⟨0,2,[3,5,1,2,1,12,1,2,1,0,1,6]⟩],[]⟩,[⟨[],[],[]⟩,⟨[],[],[]⟩],0⟩,1),(⟨⟨[⟨0,1,[3,5,1,2,1,8,1,0,1,0,1,4]⟩,⟨0,2,[3,5,1,2,1,12,1,2,1,0,1,6]⟩],[]⟩,[⟨[⟨5,0,0,3⟩],[],[]⟩,⟨[],[],[]⟩],0⟩,⟨0,0,0⟩,false,0)),
 ((⟨⟨[⟨0,1,[3,5,1,2,1,8,1,0,1,0,1,4]⟩,⟨0,2,[3,5,1,2,1,12,1,2,1,0,1,6]⟩],[]⟩,[⟨[⟨5,0,0,3⟩],[],[]⟩,⟨[],[],[]⟩],0⟩,0),(⟨⟨[⟨0,2,[3,5,1,2,1,12,1,2,1,0,1,6]⟩],[]⟩,[⟨[⟨5,0,0,3⟩],[],[]⟩,⟨[],[],[]⟩],0⟩,⟨0,0,0⟩,false,0)),
 ((⟨⟨[⟨0,2,[3,5,1,2,1,12,1,2,1,0,1,6]⟩,⟨1,0,[3,4,1,4,1,0,1,0,1,6]⟩,⟨2,0,[3,4,1,4,1,2,1,0,1,0]⟩],[]⟩,[⟨[],[3],[3]⟩,⟨[],[0],[0]⟩],1⟩,0),(⟨⟨[⟨1,0,[3,4,1,4,1,0,1,0,1,6]⟩,⟨2,0,[3,4,1,4,1,2,1,0,1,0]⟩],[]⟩,[⟨[],[3],[3]⟩,⟨[],[0],[0]⟩],1⟩,⟨0,0,0⟩,false,0)),
 ((⟨⟨[⟨1,0,[3,4,1,4,1,0,1,0,1,6]⟩,⟨2,0,[3,4,1,4,1,2,1,0,1,0]⟩],[]⟩,[⟨[],[3],[3]⟩,⟨[],[0],[0]⟩],1⟩,0),(⟨⟨[⟨2,0,[3,4,1,4,1,2,1,0,1,0]⟩],[]⟩,[⟨[],[3],[3]⟩,⟨[],[0],[0]⟩],1⟩,⟨0,0,3⟩,true,0))]
def FN (a:aw) (b:Int):Option (aw×bz×Bool×Int):=zP Ko (a,b)
def EB (C:OT):Prop:=∀ (a:aw) (b:Int),C 16 [(ag (ak a)),(iA b)]=(FN a b).map fun y=>(tp [(ag (ak y.1)),(ag (aA y.2.1)),(bA y.2.2.1),(iA y.2.2.2)])
def km (n:Nat) (b:(List Int)) (c:(List Int)):Nat->Int->Option ((Bool)⊕(Unit))
 | 0,_=>none
 | m+1,a=>bif (decide (a<((b.length:Int)))) then ((bK b a).bind fun d=>(bK c a).bind fun e=>bif (d != e) then (some ((Sum.inl false))) else (km n b c m (wr .i64 (a+1)))) else (some ((Sum.inr (()))))
theorem AU {w16:A} (f:(List Int)) (g:(List Int)) {K:((Bool)⊕(Unit))->Option γ} (i:∀ (h:Bool) (a:A) (b:A) (c:A),J φ (kr (St.mk [(0,a),(1,b),(4,(bA h)),(5,c)] [])) kL (K (Sum.inl h)) some) (j:∀ (a:A) (b:A) (k:A) (c:A),J φ (kx 0 (St.mk [(0,a),(1,b),(4,k),(5,c)] [])) kL (K (Sum.inr (()))) some) :
  ∀ (m:Nat) (d:Int),J φ (aK (cx C) (ec C n 8) (ey C n 8) (n+8) 55 0 0 0 kx kg kr kp m (St.mk [(0,(im (f.map (cI .i64)) false)),(1,(im (g.map (cI .i64)) false)),(4,w16),(5,(iA d))] [])) kL (km n f g m d) K:=by
  refine nI (fun _=>.nn) fun m ih d=>.lp (IZ ..) ?_
  unfold km
  refine .st (dT (e:=3)) (.st (aY ..) (.cd ?_ ?_))
  ·refine .bd (eX (e:=3) (es:=1)) fun l=>.s (iA l) (.bd (eX (e:=3) (es:=1)) fun o=>.s (iA o) (.st (aI ..) (.cd ?_ ?_)))
   ·exact .ex (i _ _ _ _)
   refine .st (aH ..) (.s [] (.cT r8 ?_))
   exact ih _
  exact .ex (j _ _ _ _)
def K0 (n:Nat) (a:(List Int)) (b:(List Int)):Option Bool:=
 bif (((a.length:Int)) != ((b.length:Int))) then (some false) else ((km n a b (n+8) 0).bind fun Ln=>match Ln with | (Sum.inl c)=>some c | (Sum.inr _)=>some true)
theorem Rl (C:OT) (n:Nat) (a:(List Int)) (b:(List Int)):TJ C n 55 [(im (a.map (cI .i64)) false),(im (b.map (cI .i64)) false)] (K0 n a b) (fun y=>(bA y)):=by
 refine .lp (Sa ..) ?_
 unfold K0
 refine .st (dT (e:=3)) (.st (dT (e:=3)) (.st (aI ..) (.cd ?_ ?_)))
 ·exact .lv rfl
 refine .as (AU C n _ _ _ _ a b ?_ ?_ _ 0)
 ·intro c d f g
  exact .un rfl (.lv rfl)
 ·intro h i j k
  exact .un rfl (.cT r8 (.lv rfl))
def Hr (a:(List Int)) (b:(List Int)):Option Bool:=K0 aB a b
def Ar (C:OT):Prop:=∀ (a:(List Int)) (b:(List Int)),C 55 [(im (a.map (cI .i64)) false),(im (b.map (cI .i64)) false)]=(Hr a b).map fun y=>(bA y)
def ka (n:Nat) (e:(List bH)) (f:(List bH)) (a:Int):Nat->Int->Option ((Bool)⊕(Unit))
 | 0,_=>none
 | m+1,b=>(bK e a).bind fun g=>bif (decide (b<((g.Cues.length:Int)))) then ((bK e a).bind fun h=>(bK h.Cues b).bind fun c=>(bK f a).bind fun i=>(bK i.Cues b).bind fun d=>bif (!((c.No==d.No)&&((c.Role==d.Role)&&((c.Bar==d.Bar)&&(c.Program==d.Program))))) then (some ((Sum.inl false))) else (ka n e f a m (wr .i64 (b+1)))) else (some ((Sum.inr (()))))
theorem AF {w104:A} (c:(List bH)) (d:(List bH)) (f:Int) {K:((Bool)⊕(Unit))->Option γ} (j:∀ (i:Bool) (g:A),J φ (kr (St.mk [(0,(im (c.map aC) false)),(1,(im (d.map aC) false)),(4,(bA i)),(5,(iA f)),(6,g)] [])) kL (K (Sum.inl i)) some) (k:∀ (g:A),J φ (kx 2 (St.mk [(0,(im (c.map aC) false)),(1,(im (d.map aC) false)),(4,w104),(5,(iA f)),(6,g)] [])) kL (K (Sum.inr (()))) some) :
  ∀ (m:Nat) (h:Int),J φ (aK (cx C) (ec C n 8) (ey C n 8) (n+8) 22 0 1 0 kx kg kr kp m (St.mk [(0,(im (c.map aC) false)),(1,(im (d.map aC) false)),(4,w104),(5,(iA f)),(6,(iA h))] [])) kL (ka n c d f m h) K:=by
  refine nI (fun _=>.nn) fun m ih h=>.lp (IK ..) ?_
  unfold ka
  refine .bd (eX (e:=55) (es:=3)) fun l=>.s2 (im (l.Cues.map aE) false) (.st (dT (e:=30)) (.st (aY ..) (.cd ?_ ?_)))
  ·refine .bd (eX (e:=55) (es:=3)) fun o=>.s2 (im (o.Cues.map aE) false) (.bd (eX (e:=30) (es:=4)) fun a=>.s (ag (aE a)) (.bd (eX (e:=55) (es:=3)) fun p=>.s2 (im (p.Cues.map aE) false) (.bd (eX (e:=30) (es:=4)) fun b=>.s (ag (aE b)) (.s (bA (!((a.No==b.No)&&((a.Role==b.Role)&&((a.Bar==b.Bar)&&(a.Program==b.Program)))))) (.cd ?_ ?_)))))
   ·exact .ex (j _ _)
   refine .st (aH ..) (.s [] (.cT r8 ?_))
   exact ih _
  exact .ex (k _)
def j0 (n:Nat) (b:(List bH)) (c:(List bH)):Nat->Int->Option ((Bool)⊕(Unit))
 | 0,_=>none
 | m+1,a=>bif (decide (a<((b.length:Int)))) then ((bK b a).bind fun d=>(bK c a).bind fun e=>(bif (((d.Cues.length:Int)) != ((e.Cues.length:Int))) then (some true) else ((bK b a).bind fun f=>(bK c a).bind fun g=>(Hr f.Got g.Got).bind fun h=>some (!h))).bind fun i=>(bif i then (some true) else ((bK b a).bind fun j=>(bK c a).bind fun k=>(Hr j.Did k.Did).bind fun l=>some (!l))).bind fun o=>bif o then (some ((Sum.inl false))) else ((ka n b c a (n+8) 0).bind fun p=>match p with | (Sum.inl q)=>some ((Sum.inl q)) | (Sum.inr _)=>j0 n b c m (wr .i64 (a+1)))) else (some ((Sum.inr (()))))
theorem AE (p:Ar C) {w16:A} (d:(List bH)) (f:(List bH)) {K:((Bool)⊕(Unit))->Option γ} (q:∀ (r:Bool) (h:A) (i:A) (j:A),J φ (kr (St.mk [(0,h),(1,i),(4,(bA r)),(5,j)] [])) kL (K (Sum.inl r)) some) (x1:∀ (h:A) (i:A) (s4:A) (j:A),J φ (kx 0 (St.mk [(0,h),(1,i),(4,s4),(5,j)] [])) kL (K (Sum.inr (()))) some) :
  ∀ (m:Nat) (a:Int),J φ (aK (cx C) (ec C n 8) (ey C n 8) (n+8) 22 0 0 0 kx kg kr kp m (St.mk [(0,(im (d.map aC) false)),(1,(im (f.map aC) false)),(4,w16),(5,(iA a))] [])) kL (j0 n d f m a) K:=by
  refine nI (fun _=>.nn) fun m ih a=>.lp (IJ ..) ?_
  unfold j0
  refine .st (dT (e:=55)) (.st (aY ..) (.cd ?_ ?_))
  ·refine .bd (eX (e:=55) (es:=3)) fun ab=>.s2 (im (ab.Cues.map aE) false) (.st (dT (e:=30)) (.bd (eX (e:=55) (es:=3)) fun ad=>.s2 (im (ad.Cues.map aE) false) (.st (dT (e:=30)) (.st (aI ..) (.bg (fun t (y:Bool)=>∃ u v w x z a0 a1 a2 a3 a4 a5 a6:A,t=[(bA y),u,v,w,x,z,a0,a1,a2,a3,a4,a5,a6]) ?_ ?_)))))
   ·refine .bi ?_ ?_
    ·exact .lg ⟨_,_,_,_,_,_,_,_,_,_,_,_,rfl⟩
    exact .bd (eX (e:=55) (es:=3)) fun b=>.s (A.ip [(im (b.Got.map (cI .i64)) false),(im (b.Did.map (cI .i64)) false)]) (.s (im (b.Got.map (cI .i64)) false) (.bd (eX (e:=55) (es:=3)) fun c=>.s (A.ip [(im (c.Got.map (cI .i64)) false),(im (c.Did.map (cI .i64)) false)]) (.s (im (c.Got.map (cI .i64)) false) (.bd (g:=fun (y:Bool)=>(bA y)) (by simp only[cP,eu]; exact p b.Got c.Got) fun ae=>.s (bA (!ae)) (.lg ⟨_,_,_,_,_,_,_,_,_,_,_,_,rfl⟩)))))
   rintro _ ag ⟨u,v,w,x,z,a0,a1,a2,a3,a4,a5,a6,rfl⟩
   refine .u4 (.u4 (.u4 (.uc (.OY (.bg (fun t (y:Bool)=>∃ a7 a8:A,t=[(bA y),a7,a8]) ?_ ?_)))))
   ·refine .Fa (fun k=>?_) (fun k=>?_)
    ·exact .bb (.bd (eX (e:=55) (es:=3)) fun l=>.s (A.ip [(im (l.Did.map (cI .i64)) false)]) (.s (im (l.Did.map (cI .i64)) false) (.bd (eX (e:=55) (es:=3)) fun o=>.s (A.ip [(im (o.Did.map (cI .i64)) false)]) (.s (im (o.Did.map (cI .i64)) false) (.cr (.u4 (.u4 (.uc (.uc (.sm k (.bd (g:=fun (y:Bool)=>(bA y)) (by simp only[cP,eu]; exact p l.Did o.Did) fun af=>.s (bA (!af)) (.lg ⟨_,_,rfl⟩))))))))))))
    exact .bb (.cr (.u4 (.u4 (.uc (.uc (.uD k (.lg ⟨_,_,rfl⟩)))))))
   rintro _ ah ⟨a7,a8,rfl⟩
   refine .uc (.uc (.uc (.cd ?_ ?_)))
   ·exact .ex (q _ _ _ _)
   refine .as (AF C n _ _ _ _ d f a ?_ ?_ _ 0)
   ·intro ai aj
    exact .un rfl (.ex (q _ _ _ _))
   ·intro ak
    refine .un rfl (.cT r8 (.st (aH ..) (.s [] (.cT r8 ?_))))
    exact ih _
  exact .ex (x1 _ _ _ _)
def KI (n:Nat) (a:(List bH)) (b:(List bH)):Option Bool:=
 bif (((a.length:Int)) != ((b.length:Int))) then (some false) else ((j0 n a b (n+8) 0).bind fun c=>match c with | (Sum.inl d)=>some d | (Sum.inr _)=>some true)
theorem Q1 (C:OT) (n:Nat) (c:Ar C) (a:(List bH)) (b:(List bH)):TJ C n 22 [(im (a.map aC) false),(im (b.map aC) false)] (KI n a b) (fun y=>(bA y)):=by
 refine .lp (RQ ..) ?_
 unfold KI
 refine .st (dT (e:=55)) (.st (dT (e:=55)) (.st (aI ..) (.cd ?_ ?_)))
 ·exact .lv rfl
 refine .as (AE C n _ _ _ _ c a b ?_ ?_ _ 0)
 ·intro d f g h
  exact .un rfl (.lv rfl)
 ·intro i j k l
  exact .un rfl (.cT r8 (.lv rfl))
def CI (a:(List bH)) (b:(List bH)):Option Bool:=KI aB a b
def Ai (C:OT):Prop:=∀ (a:(List bH)) (b:(List bH)),C 22 [(im (a.map aC) false),(im (b.map aC) false)]=(CI a b).map fun y=>(bA y)
def F7 (n:Nat)  : Option Bool:=
 (Eu 2).bind fun a=>(Eu 0).bind fun p=>(Eu 13).bind fun q=>(G9 a.1 ((bw.mk 0 0 0 9))).bind fun r=>(Lg a.1 0).bind fun s=>(Hn a.1 ([]) ([0,2])).bind fun t=>(FN a.1 0).bind fun u=>(bif (a.2 != 0) then (some true) else (some (p.2 != 1))).bind fun v=>(bif v then (some true) else (some (q.2 != 1))).bind fun w=>(bif w then (some true) else (some (r.2 != 1))).bind fun x=>(bif x then (some true) else (some (s.2 != 1))).bind fun y=>(bif y then (some true) else (some (t.2 != 1))).bind fun z=>(bif z then (some true) else (some (u.2.2.2 != 1))).bind fun a0=>(bif a0 then (some true) else (some (((a.1.Ears.length:Int)) != 2))).bind fun a1=>(bif a1 then (some true) else ((Ev a.1).bind fun a2=>some (a2 != 0))).bind fun a3=>(bif a3 then (some true) else ((Ev ((aw.mk ((bo.mk ([]) ([]))) ([]) 0))).bind fun a4=>some (a4 != 490))).bind fun a5=>bif a5 then (some false) else ((G9 a.1 ((bw.mk 4 0 0 2))).bind fun h=>(G9 h.1 ((bw.mk 5 0 0 3))).bind fun i=>(G9 i.1 ((bw.mk 6 1 0 3))).bind fun j=>(FN j.1 1).bind fun f=>(FN f.1 0).bind fun b=>(Hn b.1 ([]) ([0,1])).bind fun c=>(Hn b.1 ([]) ([0,0])).bind fun k=>(Hn b.1 ([0]) ([0,1])).bind fun l=>(bif (h.2 != 0) then (some true) else (some (i.2 != 0))).bind fun a6=>(bif a6 then (some true) else (some (j.2 != 0))).bind fun a7=>(bif a7 then (some true) else (some (f.2.2.2 != 0))).bind fun a8=>(bif a8 then (some true) else (some (b.2.2.2 != 0))).bind fun a9=>(bif a9 then (some true) else (some (c.2 != 0))).bind fun aa=>(bif aa then (some true) else (some (k.2 != 0))).bind fun ab=>(bif ab then (some true) else (some (l.2 != 0))).bind fun ad=>(bif ad then (some true) else (some f.2.2.1)).bind fun ae=>bif ae then (some false) else ((bif (((b.1.Ears.length:Int)) != 2) then (some true) else ((bK b.1.Ears 0).bind fun af=>some (((af.Cues.length:Int)) != 1))).bind fun ag=>(bif ag then (some true) else ((bK b.1.Ears 0).bind fun ah=>(bK ah.Cues 0).bind fun e=>some (!((e.No==5)&&((e.Role==0)&&((e.Bar==0)&&(e.Program==3))))))).bind fun ai=>(bif ai then (some true) else (some (((b.1.Net.Queue.length:Int)) != 1))).bind fun aj=>bif aj then (some false) else ((CI c.1.Ears ([(bH.mk ([]) ([3]) ([3])),(bH.mk ([]) ([0]) ([0]))])).bind fun ak=>(bif (!ak) then (some true) else ((CI k.1.Ears ([(bH.mk ([]) ([3]) ([0])),(bH.mk ([]) ([0]) ([0]))])).bind fun al=>some (!al))).bind fun am=>(bif am then (some true) else ((CI l.1.Ears ([(bH.mk ([]) ([0]) ([0])),(bH.mk ([]) ([0]) ([0]))])).bind fun an=>some (!an))).bind fun ao=>bif ao then (some false) else ((FN c.1 0).bind fun g=>(bif (g.2.2.2 != 0) then (some true) else (some (c.1.Bar != 1))).bind fun ap=>(bif ap then (some true) else (some (((c.1.Net.Queue.length:Int)) != 3))).bind fun aq=>(bif aq then (some true) else ((CI g.1.Ears c.1.Ears).bind fun ar=>some (!ar))).bind fun au=>bif au then (some false) else ((FN g.1 0).bind fun d=>(Lg d.1 0).bind fun o=>(bif (d.2.2.2==0) then (some (o.2==0)) else (some false)).bind fun av=>(bif av then (some d.2.2.1) else (some false)).bind fun ax=>(bif ax then (some (((d.2.1.Role==0)&&((d.2.1.Bar==0)&&(d.2.1.Program==3))))) else (some false)).bind fun ay=>(bif ay then (some (((o.1.Net.Queue.length:Int))==2)) else (some false)).bind fun az=>some az)))))
theorem T7 (C:OT) (n:Nat) (a4:Ag C) (a5:xQ C) (x:EB C) (a0:ED C) (a6:EE C) (a1:Ai C) (h9:FV C):TJ C n 7 [] (F7 n ) (fun y=>(bA y)):=by
 refine .lp (e7 ..) ?_
 unfold F7
 refine .bd (a4 2) fun a=>.s (ag (ak a.1)) (.s (iA a.2) (.sq (pt 0 0) (.s [bx (ak a.1)] (.bd (a4 0) fun f=>.s (ag (ak f.1)) (.s (iA f.2) (.sq (pt 1 0) (.s [bx (ak a.1),bx (ak f.1)] (.bd (a4 13) fun h=>.s (ag (ak h.1)) (.s (iA h.2) (.sq (pt 2 0) (.s [bx (ak a.1),bx (ak f.1),bx (ak h.1)] (.s (ag (ak a.1)) (.s (ag [(iA 0),(iA 0),(iA 0),(iA 9)]) (.bd (g:=fun (y:(aw×Int))=>(tp [(ag (ak y.1)),(iA y.2)])) (by simp only[cP,eu]; exact h9 a.1 ((bw.mk 0 0 0 9))) fun i=>.s (ag (ak i.1)) (.s (iA i.2) (.sq (pt 3 0) (.s [bx (ak a.1),bx (ak f.1),bx (ak h.1),bx (ak i.1)] (.s (ag (ak a.1)) (.bd (g:=fun (y:(aw×Int))=>(tp [(ag (ak y.1)),(iA y.2)])) (by simp only[cP,eu]; exact a6 a.1 0) fun j=>?_)))))))))))))))))))
 refine .s (ag (ak j.1)) (.s (iA j.2) (.sq (pt 4 0) (.s [bx (ak a.1),bx (ak f.1),bx (ak h.1),bx (ak i.1),bx (ak j.1)] (.s (ag (ak a.1)) (.s (im [[(iA 0)],[(iA 2)]] true) (.bd (g:=fun (y:(aw×Int))=>(tp [(ag (ak y.1)),(iA y.2)])) (by simp only[cP,eu]; exact a0 a.1 ([]) ([0,2])) fun l=>.s (ag (ak l.1)) (.s (iA l.2) (.sq (pt 5 0) (.s [bx (ak a.1),bx (ak f.1),bx (ak h.1),bx (ak i.1),bx (ak j.1),bx (ak l.1)] (.s (ag (ak a.1)) (.bd (g:=fun (y:(aw×bz×Bool×Int))=>(tp [(ag (ak y.1)),(ag (aA y.2.1)),(bA y.2.2.1),(iA y.2.2.2)])) (by simp only[cP,eu]; exact x a.1 0) fun b=>.s (ag (ak b.1)) (.s (ag (aA b.2.1)) (.s (bA b.2.2.1) (.s (iA b.2.2.2) (.sq (pt 6 0) (.sq (pt 7 0) (.sh (.s [bx (ak a.1),bx (ak f.1),bx (ak h.1),bx (ak i.1),bx (ak j.1),bx (ak l.1),bx (ak b.1),bx (aA b.2.1)] (.st (aI ..) (.bg (fun t (y:Bool)=>∃ a7 a8:A,t=[(bA y),a7,a8]) ?_ ?_))))))))))))))))))))
 ·refine .bi ?_ ?_
  ·exact .lg ⟨_,_,rfl⟩
  exact .st (aI ..) (.lg ⟨_,_,rfl⟩)
 rintro _ y9 ⟨a7,a8,rfl⟩
 refine .uc (.uc (.uc (.bg (fun t (y:Bool)=>∃ a9 aa:A,t=[(bA y),a9,aa]) ?_ ?_)))
 ·refine .bi ?_ ?_
  ·exact .lg ⟨_,_,rfl⟩
  exact .st (aI ..) (.lg ⟨_,_,rfl⟩)
 rintro _ ds ⟨a9,aa,rfl⟩
 refine .uc (.uc (.uc (.bg (fun t (y:Bool)=>∃ ab ad:A,t=[(bA y),ab,ad]) ?_ ?_)))
 ·refine .bi ?_ ?_
  ·exact .lg ⟨_,_,rfl⟩
  exact .st (aI ..) (.lg ⟨_,_,rfl⟩)
 rintro _ dt ⟨ab,ad,rfl⟩
 refine .uc (.uc (.uc (.bg (fun t (y:Bool)=>∃ ae af:A,t=[(bA y),ae,af]) ?_ ?_)))
 ·refine .bi ?_ ?_
  ·exact .lg ⟨_,_,rfl⟩
  exact .st (aI ..) (.lg ⟨_,_,rfl⟩)
 rintro _ du ⟨ae,af,rfl⟩
 refine .uc (.uc (.uc (.bg (fun t (y:Bool)=>∃ ah ai:A,t=[(bA y),ah,ai]) ?_ ?_)))
 ·refine .bi ?_ ?_
  ·exact .lg ⟨_,_,rfl⟩
  exact .st (aI ..) (.lg ⟨_,_,rfl⟩)
 rintro _ dv ⟨ah,ai,rfl⟩
 refine .uc (.uc (.uc (.bg (fun t (y:Bool)=>∃ aj al:A,t=[(bA y),aj,al]) ?_ ?_)))
 ·refine .bi ?_ ?_
  ·exact .lg ⟨_,_,rfl⟩
  exact .st (aI ..) (.lg ⟨_,_,rfl⟩)
 rintro _ dw ⟨aj,al,rfl⟩
 refine .uc (.uc (.uc (.bg (fun t (y:Bool)=>∃ am an ao ap:A,t=[(bA y),am,an,ao,ap]) ?_ ?_)))
 ·refine .bi ?_ ?_
  ·exact .lg ⟨_,_,_,_,rfl⟩
  exact .s (pt 0 2) (.s (im (a.1.Ears.map aC) false) (.st (dT (e:=55)) (.st (aI ..) (.lg ⟨_,_,_,_,rfl⟩))))
 rintro _ dx ⟨am,an,ao,ap,rfl⟩
 refine .u4 (.uc (.bg (fun t (y:Bool)=>∃ aq au av:A,t=[(bA y),aq,au,av]) ?_ ?_))
 ·refine .bi ?_ ?_
  ·exact .lg ⟨_,_,_,rfl⟩
  exact .s (ag (ak a.1)) (.bd (g:=fun (y:Int)=>(iA y)) (by simp only[cP,eu]; exact a5 a.1) fun dy=>.st (aI ..) (.lg ⟨_,_,_,rfl⟩))
 rintro _ dz ⟨aq,au,av,rfl⟩
 refine .u4 (.bg (fun t (y:Bool)=>∃ ax ay az:A,t=[(bA y),ax,ay,az]) ?_ ?_)
 ·refine .bi ?_ ?_
  ·exact .lg ⟨_,_,_,rfl⟩
  exact .s (ag [Th,Th,Th,(iA 0)]) (.bd (g:=fun (y:Int)=>(iA y)) (by simp only[cP,eu]; exact a5 ((aw.mk ((bo.mk ([]) ([]))) ([]) 0))) fun e0=>.st (aI ..) (.lg ⟨_,_,_,rfl⟩))
 rintro _ e1 ⟨ax,ay,az,rfl⟩
 refine .u4 (.cd ?_ ?_)
 ·exact .lv rfl
 refine .s (ag (ak a.1)) (.s (ag [(iA 4),(iA 0),(iA 0),(iA 2)]) (.bd (g:=fun (y:(aw×Int))=>(tp [(ag (ak y.1)),(iA y.2)])) (by simp only[cP,eu]; exact h9 a.1 ((bw.mk 4 0 0 2))) fun o=>.s (ag (ak o.1)) (.s (iA o.2) (.sq (pt 8 0) (.s [bx (ak a.1),bx (ak f.1),bx (ak h.1),bx (ak i.1),bx (ak j.1),bx (ak l.1),bx (ak b.1),bx (aA b.2.1),bx (ak o.1)] (.s (ag (ak o.1)) (.s (ag [(iA 5),(iA 0),(iA 0),(iA 3)]) (.bd (g:=fun (y:(aw×Int))=>(tp [(ag (ak y.1)),(iA y.2)])) (by simp only[cP,eu]; exact h9 o.1 ((bw.mk 5 0 0 3))) fun p=>.s (ag (ak p.1)) (.s (iA p.2) (.sq (pt 9 0) (.s [bx (ak a.1),bx (ak f.1),bx (ak h.1),bx (ak i.1),bx (ak j.1),bx (ak l.1),bx (ak b.1),bx (aA b.2.1),bx (ak o.1),bx (ak p.1)] (.s (ag (ak p.1)) (.s (ag [(iA 6),(iA 1),(iA 0),(iA 3)]) (.bd (g:=fun (y:(aw×Int))=>(tp [(ag (ak y.1)),(iA y.2)])) (by simp only[cP,eu]; exact h9 p.1 ((bw.mk 6 1 0 3))) fun u=>.s (ag (ak u.1)) (.s (iA u.2) (.sq (pt 10 0) (.s [bx (ak a.1),bx (ak f.1),bx (ak h.1),bx (ak i.1),bx (ak j.1),bx (ak l.1),bx (ak b.1),bx (aA b.2.1),bx (ak o.1),bx (ak p.1),bx (ak u.1)] (.s (ag (ak u.1)) (.bd (g:=fun (y:(aw×bz×Bool×Int))=>(tp [(ag (ak y.1)),(ag (aA y.2.1)),(bA y.2.2.1),(iA y.2.2.2)])) (by simp only[cP,eu]; exact x u.1 1) fun d=>.s (ag (ak d.1)) ?_)))))))))))))))))))
 refine .s (ag (aA d.2.1)) (.s (bA d.2.2.1) (.s (iA d.2.2.2) (.sq (pt 11 0) (.sq (pt 12 0) (.sh (.s [bx (ak a.1),bx (ak f.1),bx (ak h.1),bx (ak i.1),bx (ak j.1),bx (ak l.1),bx (ak b.1),bx (aA b.2.1),bx (ak o.1),bx (ak p.1),bx (ak u.1),bx (ak d.1),bx (aA d.2.1)] (.s (ag (ak d.1)) (.bd (g:=fun (y:(aw×bz×Bool×Int))=>(tp [(ag (ak y.1)),(ag (aA y.2.1)),(bA y.2.2.1),(iA y.2.2.2)])) (by simp only[cP,eu]; exact x d.1 0) fun c=>.s (ag (ak c.1)) (.s (ag (aA c.2.1)) (.s (bA c.2.2.1) (.s (iA c.2.2.2) (.sq (pt 13 0) (.sq (pt 14 0) (.sh (.s [bx (ak a.1),bx (ak f.1),bx (ak h.1),bx (ak i.1),bx (ak j.1),bx (ak l.1),bx (ak b.1),bx (aA b.2.1),bx (ak o.1),bx (ak p.1),bx (ak u.1),bx (ak d.1),bx (aA d.2.1),bx (ak c.1),bx (aA c.2.1)] (.s (ag (ak c.1)) (.s (im [[(iA 0)],[(iA 1)]] true) (.bd (g:=fun (y:(aw×Int))=>(tp [(ag (ak y.1)),(iA y.2)])) (by simp only[cP,eu]; exact a0 c.1 ([]) ([0,1])) fun k=>.s (ag (ak k.1)) (.s (iA k.2) (.sq (pt 15 0) (.s [bx (ak a.1),bx (ak f.1),bx (ak h.1),bx (ak i.1),bx (ak j.1),bx (ak l.1),bx (ak b.1),bx (aA b.2.1),bx (ak o.1),bx (ak p.1),bx (ak u.1),bx (ak d.1),bx (aA d.2.1),bx (ak c.1),bx (aA c.2.1),bx (ak k.1)] ?_)))))))))))))))))))))
 refine .s (ag (ak c.1)) (.s (im [[(iA 0)],[(iA 0)]] true) (.bd (g:=fun (y:(aw×Int))=>(tp [(ag (ak y.1)),(iA y.2)])) (by simp only[cP,eu]; exact a0 c.1 ([]) ([0,0])) fun v=>.s (ag (ak v.1)) (.s (iA v.2) (.sq (pt 16 0) (.s [bx (ak a.1),bx (ak f.1),bx (ak h.1),bx (ak i.1),bx (ak j.1),bx (ak l.1),bx (ak b.1),bx (aA b.2.1),bx (ak o.1),bx (ak p.1),bx (ak u.1),bx (ak d.1),bx (aA d.2.1),bx (ak c.1),bx (aA c.2.1),bx (ak k.1),bx (ak v.1)] (.s (ag (ak c.1)) (.s (im [[(iA 0)]] true) (.s (im [[(iA 0)],[(iA 1)]] true) (.bd (g:=fun (y:(aw×Int))=>(tp [(ag (ak y.1)),(iA y.2)])) (by simp only[cP,eu]; exact a0 c.1 ([0]) ([0,1])) fun w=>.s (ag (ak w.1)) (.s (iA w.2) (.sq (pt 17 0) (.s [bx (ak a.1),bx (ak f.1),bx (ak h.1),bx (ak i.1),bx (ak j.1),bx (ak l.1),bx (ak b.1),bx (aA b.2.1),bx (ak o.1),bx (ak p.1),bx (ak u.1),bx (ak d.1),bx (aA d.2.1),bx (ak c.1),bx (aA c.2.1),bx (ak k.1),bx (ak v.1),bx (ak w.1)] (.st (aI ..) (.bg (fun t (y:Bool)=>∃ b0 b1:A,t=[(bA y),b0,b1]) ?_ ?_))))))))))))))
 ·refine .bi ?_ ?_
  ·exact .lg ⟨_,_,rfl⟩
  exact .st (aI ..) (.lg ⟨_,_,rfl⟩)
 rintro _ e2 ⟨b0,b1,rfl⟩
 refine .uc (.uc (.uc (.bg (fun t (y:Bool)=>∃ b2 b3:A,t=[(bA y),b2,b3]) ?_ ?_)))
 ·refine .bi ?_ ?_
  ·exact .lg ⟨_,_,rfl⟩
  exact .st (aI ..) (.lg ⟨_,_,rfl⟩)
 rintro _ e3 ⟨b2,b3,rfl⟩
 refine .uc (.uc (.uc (.bg (fun t (y:Bool)=>∃ b4 b5:A,t=[(bA y),b4,b5]) ?_ ?_)))
 ·refine .bi ?_ ?_
  ·exact .lg ⟨_,_,rfl⟩
  exact .st (aI ..) (.lg ⟨_,_,rfl⟩)
 rintro _ e4 ⟨b4,b5,rfl⟩
 refine .uc (.uc (.uc (.bg (fun t (y:Bool)=>∃ b6 b7:A,t=[(bA y),b6,b7]) ?_ ?_)))
 ·refine .bi ?_ ?_
  ·exact .lg ⟨_,_,rfl⟩
  exact .st (aI ..) (.lg ⟨_,_,rfl⟩)
 rintro _ e5 ⟨b6,b7,rfl⟩
 refine .uc (.uc (.uc (.bg (fun t (y:Bool)=>∃ b8 b9:A,t=[(bA y),b8,b9]) ?_ ?_)))
 ·refine .bi ?_ ?_
  ·exact .lg ⟨_,_,rfl⟩
  exact .st (aI ..) (.lg ⟨_,_,rfl⟩)
 rintro _ e6 ⟨b8,b9,rfl⟩
 refine .uc (.uc (.uc (.bg (fun t (y:Bool)=>∃ ba bb:A,t=[(bA y),ba,bb]) ?_ ?_)))
 ·refine .bi ?_ ?_
  ·exact .lg ⟨_,_,rfl⟩
  exact .st (aI ..) (.lg ⟨_,_,rfl⟩)
 rintro _ e8 ⟨ba,bb,rfl⟩
 refine .uc (.uc (.uc (.bg (fun t (y:Bool)=>∃ bc be:A,t=[(bA y),bc,be]) ?_ ?_)))
 ·refine .bi ?_ ?_
  ·exact .lg ⟨_,_,rfl⟩
  exact .st (aI ..) (.lg ⟨_,_,rfl⟩)
 rintro _ e9 ⟨bc,be,rfl⟩
 refine .uc (.uc (.uc (.bg (fun t (y:Bool)=>∃ bf:A,t=[(bA y),bf]) ?_ ?_)))
 ·refine .bi ?_ ?_
  ·exact .lg ⟨_,rfl⟩
  exact .lg ⟨_,rfl⟩
 rintro _ ea ⟨bf,rfl⟩
 refine .uc (.uc (.cd ?_ ?_))
 ·exact .lv rfl
 refine .s2 (im (c.1.Ears.map aC) false) (.st (dT (e:=55)) (.st (aI ..) (.bg (fun t (y:Bool)=>∃ bh bj bk bl bm bn bp:A,t=[(bA y),bh,bj,bk,bl,bm,bn,bp]) ?_ ?_)))
 ·refine .bi ?_ ?_
  ·exact .lg ⟨_,_,_,_,_,_,_,rfl⟩
  exact .s (pt 13 2) (.s (im (c.1.Ears.map aC) false) (.bd (eX (e:=55) (es:=3)) fun bq=>.s (A.ip (aC bq)) (.s (im (bq.Cues.map aE) false) (.st (dT (e:=30)) (.st (aI ..) (.lg ⟨_,_,_,_,_,_,_,rfl⟩))))))
 rintro _ eb ⟨bh,bj,bk,bl,bm,bn,bp,rfl⟩
 refine .u4 (.u4 (.bg (fun t (y:Bool)=>∃ br bs bt bu bv c0 c1 c2 c3:A,t=[(bA y),br,bs,bt,bu,bv,c0,c1,c2,c3]) ?_ ?_))
 ·refine .bi ?_ ?_
  ·exact .lg ⟨_,_,_,_,_,_,_,_,_,rfl⟩
  exact .s (pt 13 2) (.s (im (c.1.Ears.map aC) false) (.bd (eX (e:=55) (es:=3)) fun c4=>.s (A.ip (aC c4)) (.s (im (c4.Cues.map aE) false) (.bd (eX (e:=30) (es:=4)) fun z=>.s (ag (aE z)) (.s (ag [(iA 5),(iA 0),(iA 0),(iA 3)]) (.s (bA (!((z.No==5)&&((z.Role==0)&&((z.Bar==0)&&(z.Program==3)))))) (.lg ⟨_,_,_,_,_,_,_,_,_,rfl⟩)))))))
 rintro _ ec ⟨br,bs,bt,bu,bv,c0,c1,c2,c3,rfl⟩
 refine .u4 (.u4 (.uc (.uc (.bg (fun t (y:Bool)=>∃ c5 c6 c7 c8 c9:A,t=[(bA y),c5,c6,c7,c8,c9]) ?_ ?_))))
 ·refine .bi ?_ ?_
  ·exact .lg ⟨_,_,_,_,_,rfl⟩
  exact .s (pt 13 0) (.s (pt 13 0) (.s (im (c.1.Net.Queue.map ar) false) (.st (dT (e:=48)) (.st (aI ..) (.lg ⟨_,_,_,_,_,rfl⟩)))))
 rintro _ ed ⟨c5,c6,c7,c8,c9,rfl⟩
 refine .u4 (.uc (.uc (.cd ?_ ?_)))
 ·exact .lv rfl
 refine .s2 (im (k.1.Ears.map aC) false) (.s (im [[(iA 3)]] true) (.s (im [[(iA 3)]] true) (.s (ag [Th,(im [[(iA 3)]] true),(im [[(iA 3)]] true)]) (.s (im [[(iA 0)]] true) (.s (im [[(iA 0)]] true) (.s (ag [Th,(im [[(iA 0)]] true),(im [[(iA 0)]] true)]) (.s (im [[(im [] false),(im [[(iA 3)]] false),(im [[(iA 3)]] false)],[(im [] false),(im [[(iA 0)]] false),(im [[(iA 0)]] false)]] true) (.bd (g:=fun (y:Bool)=>(bA y)) (by simp only[cP,eu]; exact a1 k.1.Ears ([(bH.mk ([]) ([3]) ([3])),(bH.mk ([]) ([0]) ([0]))])) fun dm=>.s (bA (!dm)) (.bg (fun t (y:Bool)=>∃ ca cb cc ce cf cg ch ci cj ck cl:A,t=[(bA y),ca,cb,cc,ce,cf,cg,ch,ci,cj,ck,cl]) ?_ ?_)))))))))
 ·refine .bi ?_ ?_
  ·exact .lg ⟨_,_,_,_,_,_,_,_,_,_,_,rfl⟩
  exact .s (pt 16 2) (.s (im (v.1.Ears.map aC) false) (.s (im [[(iA 3)]] true) (.s (im [[(iA 0)]] true) (.s (ag [Th,(im [[(iA 3)]] true),(im [[(iA 0)]] true)]) (.s (im [[(iA 0)]] true) (.s (im [[(iA 0)]] true) (.s (ag [Th,(im [[(iA 0)]] true),(im [[(iA 0)]] true)]) (.s (im [[(im [] false),(im [[(iA 3)]] false),(im [[(iA 0)]] false)],[(im [] false),(im [[(iA 0)]] false),(im [[(iA 0)]] false)]] true) (.bd (g:=fun (y:Bool)=>(bA y)) (by simp only[cP,eu]; exact a1 v.1.Ears ([(bH.mk ([]) ([3]) ([0])),(bH.mk ([]) ([0]) ([0]))])) fun dn=>.s (bA (!dn)) (.lg ⟨_,_,_,_,_,_,_,_,_,_,_,rfl⟩))))))))))
 rintro _ ee ⟨ca,cb,cc,ce,cf,cg,ch,ci,cj,ck,cl,rfl⟩
 refine .u4 (.u4 (.u4 (.bg (fun t (y:Bool)=>∃ cm cn co cp cq cr cs ct cu cv cw:A,t=[(bA y),cm,cn,co,cp,cq,cr,cs,ct,cu,cv,cw]) ?_ ?_)))
 ·refine .bi ?_ ?_
  ·exact .lg ⟨_,_,_,_,_,_,_,_,_,_,_,rfl⟩
  exact .s (pt 17 2) (.s (im (w.1.Ears.map aC) false) (.s (im [[(iA 0)]] true) (.s (im [[(iA 0)]] true) (.s (ag [Th,(im [[(iA 0)]] true),(im [[(iA 0)]] true)]) (.s (im [[(iA 0)]] true) (.s (im [[(iA 0)]] true) (.s (ag [Th,(im [[(iA 0)]] true),(im [[(iA 0)]] true)]) (.s (im [[(im [] false),(im [[(iA 0)]] false),(im [[(iA 0)]] false)],[(im [] false),(im [[(iA 0)]] false),(im [[(iA 0)]] false)]] true) (.bd (g:=fun (y:Bool)=>(bA y)) (by simp only[cP,eu]; exact a1 w.1.Ears ([(bH.mk ([]) ([0]) ([0])),(bH.mk ([]) ([0]) ([0]))])) fun dp=>.s (bA (!dp)) (.lg ⟨_,_,_,_,_,_,_,_,_,_,_,rfl⟩))))))))))
 rintro _ ef ⟨cm,cn,co,cp,cq,cr,cs,ct,cu,cv,cw,rfl⟩
 refine .u4 (.u4 (.u4 (.cd ?_ ?_)))
 ·exact .lv rfl
 refine .s (ag (ak k.1)) (.bd (g:=fun (y:(aw×bz×Bool×Int))=>(tp [(ag (ak y.1)),(ag (aA y.2.1)),(bA y.2.2.1),(iA y.2.2.2)])) (by simp only[cP,eu]; exact x k.1 0) fun q=>.s (ag (ak q.1)) (.s (ag (aA q.2.1)) (.s (bA q.2.2.1) (.s (iA q.2.2.2) (.sq (pt 18 0) (.sq (pt 19 0) (.sh (.s [bx (ak a.1),bx (ak f.1),bx (ak h.1),bx (ak i.1),bx (ak j.1),bx (ak l.1),bx (ak b.1),bx (aA b.2.1),bx (ak o.1),bx (ak p.1),bx (ak u.1),bx (ak d.1),bx (aA d.2.1),bx (ak c.1),bx (aA c.2.1),bx (ak k.1),bx (ak v.1),bx (ak w.1),bx (ak q.1),bx (aA q.2.1)] (.st (aI ..) (.bg (fun t (y:Bool)=>∃ cx cy cz:A,t=[(bA y),cx,cy,cz]) ?_ ?_))))))))))
 ·refine .bi ?_ ?_
  ·exact .lg ⟨_,_,_,rfl⟩
  exact .s (pt 15 3) (.s (iA k.1.Bar) (.st (aI ..) (.lg ⟨_,_,_,rfl⟩)))
 rintro _ eg ⟨cx,cy,cz,rfl⟩
 refine .u4 (.bg (fun t (y:Bool)=>∃ d0 d1 d2 d3 d4:A,t=[(bA y),d0,d1,d2,d3,d4]) ?_ ?_)
 ·refine .bi ?_ ?_
  ·exact .lg ⟨_,_,_,_,_,rfl⟩
  exact .s (pt 15 0) (.s (pt 15 0) (.s (im (k.1.Net.Queue.map ar) false) (.st (dT (e:=48)) (.st (aI ..) (.lg ⟨_,_,_,_,_,rfl⟩)))))
 rintro _ eh ⟨d0,d1,d2,d3,d4,rfl⟩
 refine .u4 (.uc (.uc (.bg (fun t (y:Bool)=>∃ d5 d6 d7 d8 d9 da:A,t=[(bA y),d5,d6,d7,d8,d9,da]) ?_ ?_)))
 ·refine .bi ?_ ?_
  ·exact .lg ⟨_,_,_,_,_,_,rfl⟩
  exact .s (pt 18 2) (.s (im (q.1.Ears.map aC) false) (.s (pt 15 2) (.s (im (k.1.Ears.map aC) false) (.bd (g:=fun (y:Bool)=>(bA y)) (by simp only[cP,eu]; exact a1 q.1.Ears k.1.Ears) fun dq=>.s (bA (!dq)) (.lg ⟨_,_,_,_,_,_,rfl⟩)))))
 rintro _ ei ⟨d5,d6,d7,d8,d9,da,rfl⟩
 refine .u4 (.uc (.uc (.uc (.cd ?_ ?_))))
 ·exact .lv rfl
 refine .s (ag (ak q.1)) (.bd (g:=fun (y:(aw×bz×Bool×Int))=>(tp [(ag (ak y.1)),(ag (aA y.2.1)),(bA y.2.2.1),(iA y.2.2.2)])) (by simp only[cP,eu]; exact x q.1 0) fun r=>.s (ag (ak r.1)) (.s (ag (aA r.2.1)) (.s (bA r.2.2.1) (.s (iA r.2.2.2) (.sq (pt 20 0) (.sq (pt 21 0) (.sh (.s [bx (ak a.1),bx (ak f.1),bx (ak h.1),bx (ak i.1),bx (ak j.1),bx (ak l.1),bx (ak b.1),bx (aA b.2.1),bx (ak o.1),bx (ak p.1),bx (ak u.1),bx (ak d.1),bx (aA d.2.1),bx (ak c.1),bx (aA c.2.1),bx (ak k.1),bx (ak v.1),bx (ak w.1),bx (ak q.1),bx (aA q.2.1),bx (ak r.1),bx (aA r.2.1)] (.s (ag (ak r.1)) (.bd (g:=fun (y:(aw×Int))=>(tp [(ag (ak y.1)),(iA y.2)])) (by simp only[cP,eu]; exact a6 r.1 0) fun a3=>.s (ag (ak a3.1)) (.s (iA a3.2) (.sq (pt 22 0) (.s [bx (ak a.1),bx (ak f.1),bx (ak h.1),bx (ak i.1),bx (ak j.1),bx (ak l.1),bx (ak b.1),bx (aA b.2.1),bx (ak o.1),bx (ak p.1),bx (ak u.1),bx (ak d.1),bx (aA d.2.1),bx (ak c.1),bx (aA c.2.1),bx (ak k.1),bx (ak v.1),bx (ak w.1),bx (ak q.1),bx (aA q.2.1),bx (ak r.1),bx (aA r.2.1),bx (ak a3.1)] (.st (aX ..) (.bg (fun t (y:Bool)=>∃ db dc:A,t=[(bA y),db,dc]) ?_ ?_)))))))))))))))
 ·refine .bi ?_ ?_
  ·exact .st (aX ..) (.lg ⟨_,_,rfl⟩)
  exact .lg ⟨_,_,rfl⟩
 rintro _ ej ⟨db,dc,rfl⟩
 refine .uc (.uc (.uc (.bg (fun t (y:Bool)=>∃ dd:A,t=[(bA y),dd]) ?_ ?_)))
 ·refine .bi ?_ ?_
  ·exact .lg ⟨_,rfl⟩
  exact .lg ⟨_,rfl⟩
 rintro _ ek ⟨dd,rfl⟩
 refine .uc (.uc (.bg (fun t (y:Bool)=>∃ de df dg:A,t=[(bA y),de,df,dg]) ?_ ?_))
 ·refine .bi ?_ ?_
  ·exact .s (ag (aA r.2.1)) (.s (ag [(iA 0),(iA 0),(iA 3)]) (.s (bA (((r.2.1.Role==0)&&((r.2.1.Bar==0)&&(r.2.1.Program==3))))) (.lg ⟨_,_,_,rfl⟩)))
  exact .lg ⟨_,_,_,rfl⟩
 rintro _ el ⟨de,df,dg,rfl⟩
 refine .u4 (.bg (fun t (y:Bool)=>∃ dh di dj dk dl:A,t=[(bA y),dh,di,dj,dk,dl]) ?_ ?_)
 ·refine .bi ?_ ?_
  ·exact .s (pt 22 0) (.s (pt 22 0) (.s (im (a3.1.Net.Queue.map ar) false) (.st (dT (e:=48)) (.st (aX ..) (.lg ⟨_,_,_,_,_,rfl⟩)))))
  exact .lg ⟨_,_,_,_,_,rfl⟩
 rintro _ em ⟨dh,di,dj,dk,dl,rfl⟩
 exact .u4 (.uc (.uc (.lv rfl)))
def G7  : Option Bool:=F7 aB
def Ik (C:OT):Prop:=∀ (_:Unit),C 7 []=(G7 ).map fun y=>(bA y)
def KJ (n:Nat) (a:bo):Option Bool:=
 (bif (decide (((a.Queue.length:Int))<=40)) then (some (decide (((a.Apart.length:Int))<=40))) else (some false)).bind fun b=>some b
theorem Q2 (C:OT) (n:Nat) (a:bo):TJ C n 23 [(ag [(im (a.Queue.map ar) false),(im (a.Apart.map au) false)])] (KJ n a) (fun y=>(bA y)):=by
 refine .lp (RR ..) ?_
 unfold KJ
 refine .s ((pt 0 0),[bx [(im (a.Queue.map ar) false),(im (a.Apart.map au) false)]]) (.s2 (im (a.Queue.map ar) false) (.st (dT (e:=48)) (.st (dE ..) (.bg (fun t (y:Bool)=>∃ b c d f:A,t=[(bA y),b,c,d,f]) ?_ ?_))))
 ·refine .bi ?_ ?_
  ·exact .s (pt 0 1) (.s (im (a.Apart.map au) false) (.st (dT (e:=115)) (.st (dE ..) (.lg ⟨_,_,_,_,rfl⟩))))
  exact .lg ⟨_,_,_,_,rfl⟩
 rintro _ g ⟨b,c,d,f,rfl⟩
 exact .u4 (.uc (.lv rfl))
def HO (a:bo):Option Bool:=KJ aB a
def EF (C:OT):Prop:=∀ (a:bo),C 23 [(ag [(im (a.Queue.map ar) false),(im (a.Apart.map au) false)])]=(HO a).map fun y=>(bA y)
def nd (n:Nat) (d:Bool) (b:aw):Nat->Int->Option ((Bool)⊕(Unit))
 | 0,_=>none
 | m+1,c=>bif (decide (c<((b.Ears.length:Int)))) then ((bK b.Ears c).bind fun a=>(bif (decide (40<((a.Cues.length:Int)))) then (some true) else ((bif (decide (60<((a.Got.length:Int)))) then (some (decide (((a.Got.length:Int))<4094))) else (some false)).bind fun e=>some e)).bind fun f=>(bif f then (some true) else (some (decide (5000<((a.Got.length:Int)))))).bind fun g=>(bif g then (some true) else (some (decide (5000<((a.Did.length:Int)))))).bind fun h=>bif h then (some ((Sum.inl false))) else (nd n d b m (wr .i64 (c+1)))) else (some ((Sum.inr (()))))
theorem FY (g:Bool) (b:aw) {K:((Bool)⊕(Unit))->Option γ} (x0:∀ (h:Bool) (c:A) (d:A) (q0:aO) (q1:aO),J φ (kr (St.mk [(1,c),(2,(bA h)),(4,d)] [q0,q1])) kL (K (Sum.inl h)) some) (x1:∀ (c:A) (s2:A) (d:A) (q0:aO),J φ (kx 0 (St.mk [(1,c),(2,s2),(4,d)] [q0])) kL (K (Sum.inr (()))) some) :
  ∀ (m:Nat) (f:Int),J φ (aK (cx C) (ec C n 8) (ey C n 8) (n+8) 8 0 0 1 kx kg kr kp m (St.mk [(1,(pt 0 0)),(2,(bA g)),(4,(iA f))] [bx (ak b)])) kL (nd n g b m f) K:=by
  refine nI (fun _=>.nn) fun m ih f=>.lp (MW ..) ?_
  unfold nd
  refine .s2 (im (b.Ears.map aC) false) (.st (dT (e:=55)) (.st (aY ..) (.cd ?_ ?_)))
  ·refine .s2 (im (b.Ears.map aC) false) (.bd (eX (e:=55) (es:=3)) fun a=>.s (ag (aC a)) (.sq (pt 1 0) (.s [bx (ak b),bx (aC a)] (.s2 (im (a.Cues.map aE) false) (.st (dT (e:=30)) (.st (cM ..) (.bg (fun t (y:Bool)=>∃ i j k l o p q r u w:A,t=[(bA y),i,j,k,l,o,p,q,r,u,w]) ?_ ?_)))))))
   ·refine .bi ?_ ?_
    ·exact .lg ⟨_,_,_,_,_,_,_,_,_,_,rfl⟩
    refine .s (pt 1 1) (.s (im (a.Got.map (cI .i64)) false) (.st (dT (e:=3)) (.st (cM ..) (.bg (fun t (y:Bool)=>∃ x z a0 a1:A,t=[(bA y),x,z,a0,a1]) ?_ ?_))))
    ·refine .bi ?_ ?_
     ·exact .s (pt 1 1) (.s (im (a.Got.map (cI .i64)) false) (.st (dT (e:=3)) (.st (aY ..) (.lg ⟨_,_,_,_,rfl⟩))))
     exact .lg ⟨_,_,_,_,rfl⟩
    rintro _ ad ⟨x,z,a0,a1,rfl⟩
    exact .u4 (.uc (.lg ⟨_,_,_,_,_,_,_,_,_,_,rfl⟩))
   rintro _ ae ⟨i,j,k,l,o,p,q,r,u,w,rfl⟩
   refine .u4 (.u4 (.uc (.uc (.uc (.bg (fun t (y:Bool)=>∃ a2 a3 a4 a5:A,t=[(bA y),a2,a3,a4,a5]) ?_ ?_)))))
   ·refine .bi ?_ ?_
    ·exact .lg ⟨_,_,_,_,rfl⟩
    exact .s (pt 1 1) (.s (im (a.Got.map (cI .i64)) false) (.st (dT (e:=3)) (.st (cM ..) (.lg ⟨_,_,_,_,rfl⟩))))
   rintro _ af ⟨a2,a3,a4,a5,rfl⟩
   refine .u4 (.uc (.bg (fun t (y:Bool)=>∃ a6 a7 a8 a9:A,t=[(bA y),a6,a7,a8,a9]) ?_ ?_))
   ·refine .bi ?_ ?_
    ·exact .lg ⟨_,_,_,_,rfl⟩
    exact .s (pt 1 2) (.s (im (a.Did.map (cI .i64)) false) (.st (dT (e:=3)) (.st (cM ..) (.lg ⟨_,_,_,_,rfl⟩))))
   rintro _ ah ⟨a6,a7,a8,a9,rfl⟩
   refine .u4 (.uc (.cd ?_ ?_))
   ·exact .ex (x0 _ _ _ _ _)
   refine .st (aH ..) (.st (v:=[bx (ak b)]) (eD r8 u3) (.cT r8 ?_))
   exact ih _
  exact .ex (x1 _ _ _ _)
def F8 (n:Nat) (a:aw):Option Bool:=
 (HO a.Net).bind fun b=>(bif (!b) then (some true) else (some (decide (20<((a.Ears.length:Int)))))).bind fun c=>bif c then (some false) else ((nd n false a (n+8) 0).bind fun d=>match d with | (Sum.inl e)=>some e | (Sum.inr _)=>some true)
theorem T8 (C:OT) (n:Nat) (h:EF C) (a:aw):TJ C n 8 [(ag (ak a))] (F8 n a) (fun y=>(bA y)):=by
 refine .lp (e8 ..) ?_
 unfold F8
 refine .s ((pt 0 0),[bx (ak a)]) (.s2 (ag [(im (a.Net.Queue.map ar) false),(im (a.Net.Apart.map au) false)]) (.bd (g:=fun (y:Bool)=>(bA y)) (by simp only[cP,eu]; exact h a.Net) fun i=>.s (bA (!i)) (.bg (fun t (y:Bool)=>∃ b c d f:A,t=[(bA y),b,c,d,f]) ?_ ?_)))
 ·refine .bi ?_ ?_
  ·exact .lg ⟨_,_,_,_,rfl⟩
  exact .s (pt 0 2) (.s (im (a.Ears.map aC) false) (.st (dT (e:=55)) (.st (cM ..) (.lg ⟨_,_,_,_,rfl⟩))))
 rintro _ j ⟨b,c,d,f,rfl⟩
 refine .u4 (.uc (.cd ?_ ?_))
 ·exact .lv rfl
 refine .as (FY C n _ _ _ _ false a ?_ ?_ _ 0)
 ·intro k l o w95 w96
  exact .un rfl (.lv rfl)
 ·intro p q r w100
  exact .un rfl (.cT r8 (.lv rfl))
def G8 (a:aw):Option Bool:=F8 aB a
def Il (C:OT):Prop:=∀ (a:aw),C 8 [(ag (ak a))]=(G8 a).map fun y=>(bA y)
def KU (n:Nat) (a:Int) (b:Int) (a2:Int):Option Bool:=
 (bif (decide (b<=a)) then (some (decide (a<=a2))) else (some false)).bind fun c=>some c
theorem Rf (C:OT) (n:Nat) (a:Int) (b:Int) (a2:Int):TJ C n 36 [(iA a),(iA b),(iA a2)] (KU n a b a2) (fun y=>(bA y)):=by
 refine .lp (R4 ..) ?_
 unfold KU
 refine .st (ef ..) (.bg (fun t (y:Bool)=>∃ c d e:A,t=[(bA y),c,d,e]) ?_ ?_)
 ·refine .bi ?_ ?_
  ·exact .st (dE ..) (.lg ⟨_,_,_,rfl⟩)
  exact .lg ⟨_,_,_,rfl⟩
 rintro _ f ⟨c,d,e,rfl⟩
 exact .u4 (.lv rfl)
def zT (a:Int) (b:Int) (a2:Int):Option Bool:=KU aB a b a2
def rX (C:OT):Prop:=∀ (a:Int) (b:Int) (a2:Int),C 36 [(iA a),(iA b),(iA a2)]=(zT a b a2).map fun y=>(bA y)
def K9 (n:Nat) (a:Int):Option Bool:=
 (bif (decide (0<=a)) then (some (decide (a<24))) else (some false)).bind fun b=>some b
theorem Rw (C:OT) (n:Nat) (a:Int):TJ C n 67 [(iA a)] (K9 n a) (fun y=>(bA y)):=by
 refine .lp (Sl ..) ?_
 unfold K9
 refine .st (ef ..) (.bg (fun t (y:Bool)=>∃ b c:A,t=[(bA y),b,c]) ?_ ?_)
 ·refine .bi ?_ ?_
  ·exact .st (aY ..) (.lg ⟨_,_,rfl⟩)
  exact .lg ⟨_,_,rfl⟩
 rintro _ d ⟨b,c,rfl⟩
 exact .uc (.uc (.uc (.lv rfl)))
def Ew (a:Int):Option Bool:=K9 aB a
def xV (C:OT):Prop:=∀ (a:Int),C 67 [(iA a)]=(Ew a).map fun y=>(bA y)
def K3 (n:Nat) (a:az):Option Bool:=
 (Ew a.From).bind fun b=>(bif b then ((Ew a.To).bind fun c=>some c) else (some false)).bind fun d=>(bif d then (some (a.From != a.To)) else (some false)).bind fun e=>(bif e then (some (decide (((a.Data.length:Int))<=1048576))) else (some false)).bind fun f=>some f
theorem Ro (C:OT) (n:Nat) (b:xV C) (a:az):TJ C n 59 [(ag (ar a))] (K3 n a) (fun y=>(bA y)):=by
 refine .lp (Sd ..) ?_
 unfold K3
 refine .s ((pt 0 0),[bx (ar a)]) (.s2 (iA a.From) (.bd (b a.From) fun r=>.bg (fun t (y:Bool)=>∃ c d f:A,t=[(bA y),c,d,f]) ?_ ?_))
 ·refine .bi ?_ ?_
  ·exact .s (pt 0 1) (.s (iA a.To) (.bd (b a.To) fun u=>.lg ⟨_,_,_,rfl⟩))
  exact .lg ⟨_,_,_,rfl⟩
 rintro _ v ⟨c,d,f,rfl⟩
 refine .u4 (.bg (fun t (y:Bool)=>∃ g h i j k:A,t=[(bA y),g,h,i,j,k]) ?_ ?_)
 ·refine .bi ?_ ?_
  ·exact .s (pt 0 0) (.s (iA a.From) (.s (pt 0 1) (.s (iA a.To) (.st (aI ..) (.lg ⟨_,_,_,_,_,rfl⟩)))))
  exact .lg ⟨_,_,_,_,_,rfl⟩
 rintro _ w ⟨g,h,i,j,k,rfl⟩
 refine .u4 (.uc (.uc (.bg (fun t (y:Bool)=>∃ l o p q:A,t=[(bA y),l,o,p,q]) ?_ ?_)))
 ·refine .bi ?_ ?_
  ·exact .s (pt 0 2) (.s (im (a.Data.map c8) false) (.st (dT (e:=5)) (.st (dE ..) (.lg ⟨_,_,_,_,rfl⟩))))
  exact .lg ⟨_,_,_,_,rfl⟩
 rintro _ x ⟨l,o,p,q,rfl⟩
 exact .u4 (.uc (.lv rfl))
def Ht (a:az):Option Bool:=K3 aB a
def xR (C:OT):Prop:=∀ (a:az),C 59 [(ag (ar a))]=(Ht a).map fun y=>(bA y)
def ke (n:Nat) (a:(List az)) (c:(List (Int×Int))):Nat->Int->Option ((Int)⊕(Unit))
 | 0,_=>none
 | m+1,b=>bif (decide (b<((a.length:Int)))) then ((bK a b).bind fun d=>(Ht d).bind fun e=>bif (!e) then (some ((Sum.inl 60))) else (ke n a c m (wr .i64 (b+1)))) else (some ((Sum.inr (()))))
theorem AM (i:xR C) {w37:A} (a:(List az)) (b:(List (Int×Int))) {K:((Int)⊕(Unit))->Option γ} (j:∀ (f:Int) (k:A) (c:A) (q0:aO),J φ (kr (St.mk [(1,k),(2,(iA f)),(3,c)] [q0])) kL (K (Sum.inl f)) some) (l:∀ (c:A),J φ (kx 0 (St.mk [(1,(pt 0 0)),(2,w37),(3,c)] [bx [(im (a.map ar) false),(im (b.map au) false)]])) kL (K (Sum.inr (()))) some) :
  ∀ (m:Nat) (d:Int),J φ (aK (cx C) (ec C n 8) (ey C n 8) (n+8) 37 0 0 1 kx kg kr kp m (St.mk [(1,(pt 0 0)),(2,w37),(3,(iA d))] [bx [(im (a.map ar) false),(im (b.map au) false)]])) kL (ke n a b m d) K:=by
  refine nI (fun _=>.nn) fun m ih d=>.lp (IQ ..) ?_
  unfold ke
  refine .s2 (im (a.map ar) false) (.st (dT (e:=48)) (.st (aY ..) (.cd ?_ ?_)))
  ·refine .s2 (im (a.map ar) false) (.bd (eX (e:=48) (es:=3)) fun h=>.s (ag (ar h)) (.bd (g:=fun (y:Bool)=>(bA y)) (by simp only[cP,eu]; exact i h) fun o=>.s (bA (!o)) (.cd ?_ ?_)))
   ·exact .ex (j _ _ _ _)
   refine .st (aH ..) (.s [bx [(im (a.map ar) false),(im (b.map au) false)]] (.cT r8 ?_))
   exact ih _
  exact .ex (l _)
def ij (n:Nat) (d:Int) (e:(List az)) (c:(List (Int×Int))):Nat->Int->Option ((Int)⊕(Unit))
 | 0,_=>none
 | m+1,a=>bif (decide (a<((c.length:Int)))) then ((bK c a).bind fun b=>(Ew b.1).bind fun f=>(bif (!f) then (some true) else ((Ew b.2).bind fun g=>some (!g))).bind fun h=>(bif h then (some true) else (some (decide (b.2<=b.1)))).bind fun i=>bif i then (some ((Sum.inl 60))) else ((bif (decide (0<a)) then ((bK c (wr .i64 (a - 1))).bind fun j=>bif (decide (b.1<j.1)) then ((some (())).bind fun x=>(some (())).bind fun y=>(some true).bind fun k=>some k) else ((bK c (wr .i64 (a - 1))).bind fun l=>bif (b.1==l.1) then ((bK c (wr .i64 (a - 1))).bind fun o=>(some (decide (b.2<=o.2))).bind fun p=>((some p).bind fun q=>some q).bind fun r=>(some r).bind fun s=>some s) else ((some (())).bind fun z=>((some false).bind fun t=>some t).bind fun u=>(some u).bind fun v=>some v))) else ((some (())).bind fun a0=>(some (())).bind fun a1=>some false)).bind fun w=>bif w then (some ((Sum.inl 60))) else (ij n d e c m (wr .i64 (a+1))))) else (some ((Sum.inr (()))))
theorem AN (o:xV C) (p:Int) (g:(List az)) (b:(List (Int×Int))) {K:((Int)⊕(Unit))->Option γ} (q:∀ (r:Int) (h:A) (i:A) (q0:aO) (q1:aO),J φ (kr (St.mk [(1,h),(2,(iA r)),(4,i)] [q0,q1])) kL (K (Sum.inl r)) some) (x1:∀ (h:A) (s2:A) (i:A) (q0:aO),J φ (kx 2 (St.mk [(1,h),(2,s2),(4,i)] [q0])) kL (K (Sum.inr (()))) some) :
  ∀ (m:Nat) (j:Int),J φ (aK (cx C) (ec C n 8) (ey C n 8) (n+8) 37 0 1 1 kx kg kr kp m (St.mk [(1,(pt 0 0)),(2,(iA p)),(4,(iA j))] [bx [(im (g.map ar) false),(im (b.map au) false)]])) kL (ij n p g b m j) K:=by
  refine nI (fun _=>.nn) fun m ih j=>.lp (IT ..) ?_
  unfold ij
  refine .s2 (im (b.map au) false) (.st (dT (e:=115)) (.st (aY ..) (.cd ?_ ?_)))
  ·refine .s2 (im (b.map au) false) (.bd (eX (e:=115) (es:=2)) fun a=>.s (ag [(iA a.1),(iA a.2)]) (.sq (pt 1 0) (.s [bx [(im (g.map ar) false),(im (b.map au) false)],bx [(iA a.1),(iA a.2)]] (.s (pt 1 0) (.s (iA a.1) (.bd (o a.1) fun a8=>.s (bA (!a8)) (.bg (fun t (y:Bool)=>∃ u w x z:A,t=[(bA y),u,w,x,z]) ?_ ?_)))))))
   ·refine .bi ?_ ?_
    ·exact .lg ⟨_,_,_,_,rfl⟩
    exact .s (pt 1 1) (.s (iA a.2) (.bd (o a.2) fun a9=>.s (bA (!a9)) (.lg ⟨_,_,_,_,rfl⟩)))
   rintro _ aa ⟨u,w,x,z,rfl⟩
   refine .u4 (.uc (.bg (fun t (y:Bool)=>∃ a0 a1 a2 a3 a4:A,t=[(bA y),a0,a1,a2,a3,a4]) ?_ ?_))
   ·refine .bi ?_ ?_
    ·exact .lg ⟨_,_,_,_,_,rfl⟩
    exact .s (pt 1 0) (.s (iA a.1) (.s (pt 1 1) (.s (iA a.2) (.st (ef ..) (.lg ⟨_,_,_,_,_,rfl⟩)))))
   rintro _ ab ⟨a0,a1,a2,a3,a4,rfl⟩
   refine .u4 (.uc (.uc (.cd ?_ ?_)))
   ·exact .ex (q _ _ _ _ _)
   refine .st (cM ..) (.Ce (.bg (fun t (y:Bool)=>∃ a5:A,t=[(bA y),a5]) ?_ ?_))
   ·refine .Fb (fun d=>?_) (fun d=>?_)
    ·refine .bb (.s (pt 1 0) (.s (iA a.1) (.s (pt 0 1) (.s (im (b.map au) false) (.st (dk ..) (.bd (eX (e:=115) (es:=2)) fun k=>.s (A.ip [(iA k.1),(iA k.2)]) (.s (iA k.1) (.st (aY ..) (.Fa (fun c=>?_) (fun c=>?_))))))))))
     ·refine .bb (.s (pt 1 0) (.s (iA a.1) (.s (pt 0 1) (.s (im (b.map au) false) (.st (dk ..) (.bd (eX (e:=115) (es:=2)) fun l=>.s (A.ip [(iA l.1),(iA l.2)]) (.s (iA l.1) (.st (aX ..) (.Fb (fun f=>?_) (fun f=>?_))))))))))
      ·refine .bb (.s (pt 1 1) (.s (iA a.2) (.s (pt 0 1) (.s (im (b.map au) false) (.st (dk ..) (.bd (eX (e:=115) (es:=2)) fun a6=>.s (A.ip [(iA a6.2)]) (.s (iA a6.2) (.cr (.u4 (.u4 (.uc (.cr (.u4 (.u4 (.u4 (.u4 (.u4 (.cr (.u4 (.u4 (.u4 (.u4 (.u4 (.u4 (.u4 (.uc (.uc (.uc (.bg (fun t (y:Bool) =>  t=[(bA y)]) ?_ ?_)))))))))))))))))))))))))))))
       ·exact .lp (iz f) (.st (dE ..) (.lg rfl))
       rintro _ ad rfl
       refine .uc (.bg (fun t (y:Bool) =>  t=[(bA y)]) ?_ ?_)
       ·refine .lp (pD c) (.bg (fun t (y:Bool) =>  t=(bA y)) ?_ ?_)
        ·exact .uD f (.lg rfl)
        rintro _ ae rfl
        exact .lg rfl
       rintro _ af rfl
       refine .uc (.uD d (.bg (fun t (y:Bool) =>  t=(bA y)) ?_ ?_))
       ·exact .sm c (.lg rfl)
       rintro _ ah rfl
       exact .lg ⟨_,rfl⟩
      refine .bb (.cr (.u4 (.u4 (.uc (.cr (.u4 (.u4 (.u4 (.u4 (.u4 (.cr (.u4 (.u4 (.u4 (.u4 (.u4 (.u4 (.u4 (.uc (.uc (.uc (.bg (fun t (y:Unit) =>  t=[(A.v undef)]) ?_ ?_))))))))))))))))))))))
      ·exact .lp (iy f) (.lg rfl)
      rintro _ ai rfl
      refine .uc (.bg (fun t (y:Bool) =>  t=[(bA y)]) ?_ ?_)
      ·refine .lp (pD c) (.bg (fun t (y:Bool) =>  t=(bA y)) ?_ ?_)
       ·exact .sm f (.lg rfl)
       rintro _ aj rfl
       exact .lg rfl
      rintro _ ak rfl
      refine .uc (.uD d (.bg (fun t (y:Bool) =>  t=(bA y)) ?_ ?_))
      ·exact .sm c (.lg rfl)
      rintro _ al rfl
      exact .lg ⟨_,rfl⟩
     refine .bb (.cr (.u4 (.u4 (.u4 (.u4 (.u4 (.cr (.u4 (.u4 (.u4 (.u4 (.u4 (.u4 (.u4 (.uc (.uc (.uc (.bg (fun t (y:Unit) =>  t=[(A.v undef)]) ?_ ?_))))))))))))))))))
     ·exact .gU (.lg rfl)
     rintro _ am rfl
     refine .uc (.bg (fun t (y:Unit) =>  t=[(A.v undef)]) ?_ ?_)
     ·exact .lp (vE c) (.lg rfl)
     rintro _ an rfl
     refine .uc (.uD d (.bg (fun t (y:Bool) =>  t=(bA y)) ?_ ?_))
     ·exact .uD c (.lg rfl)
     rintro _ ao rfl
     exact .lg ⟨_,rfl⟩
    refine .bb (.cr (.u4 (.u4 (.u4 (.u4 (.u4 (.u4 (.u4 (.uc (.uc (.uc (.bg (fun t (y:Unit) =>  t=[(A.v undef)]) ?_ ?_))))))))))))
    ·exact .gU (.lg rfl)
    rintro _ ap rfl
    refine .uc (.bg (fun t (y:Unit) =>  t=[(A.v undef)]) ?_ ?_)
    ·exact .gU (.lg rfl)
    rintro _ aq rfl
    exact .uc (.sm d (.lg ⟨_,rfl⟩))
   rintro _ av ⟨a5,rfl⟩
   refine .uc (.uc (.cd ?_ ?_))
   ·exact .ex (q _ _ _ _ _)
   refine .st (aH ..) (.st (v:=[bx [(im (g.map ar) false),(im (b.map au) false)]]) (eD r8 u3) (.cT r8 ?_))
   exact ih _
  exact .ex (x1 _ _ _ _)
def KV (n:Nat) (a:bo):Option Int:=
 bif (decide (4096<((a.Queue.length:Int)))) then (some 60) else ((ke n a.Queue a.Apart (n+8) 0).bind fun b=>match b with | (Sum.inl c)=>some c | (Sum.inr _)=>(ij n 0 a.Queue a.Apart (n+8) 0).bind fun d=>match d with | (Sum.inl e)=>some e | (Sum.inr _)=>some 0)
theorem Rg (C:OT) (n:Nat) (b:xR C) (c:xV C) (a:bo):TJ C n 37 [(ag [(im (a.Queue.map ar) false),(im (a.Apart.map au) false)])] (KV n a) (fun y=>(iA y)):=by
 refine .lp (R5 ..) ?_
 unfold KV
 refine .s ((pt 0 0),[bx [(im (a.Queue.map ar) false),(im (a.Apart.map au) false)]]) (.s2 (im (a.Queue.map ar) false) (.st (dT (e:=48)) (.st (cM ..) (.cd ?_ ?_))))
 ·exact .lv rfl
 refine .as (AM C n _ _ _ _ b a.Queue a.Apart ?_ ?_ _ 0)
 ·intro d f g w49
  exact .un rfl (.lv rfl)
 ·intro h
  refine .un rfl (.cT r8 (.as (AN C n _ _ _ _ c 0 a.Queue a.Apart ?_ ?_ _ 0)))
  ·intro i j k w525 w526
   exact .un rfl (.lv rfl)
  ·intro l o p w530
   exact .un rfl (.cT r8 (.lv rfl))
def Hp (a:bo):Option Int:=KV aB a
def Am (C:OT):Prop:=∀ (a:bo),C 37 [(ag [(im (a.Queue.map ar) false),(im (a.Apart.map au) false)])]=(Hp a).map fun y=>(iA y)
def KN (n:Nat) (a:bw) (b:Int):Option Bool:=
 (zT a.No 0 1048576).bind fun c=>(bif c then ((zT a.Role 0 (wr .i64 (b - 1))).bind fun d=>some d) else (some false)).bind fun e=>(bif e then ((zT a.Bar 0 4095).bind fun f=>some f) else (some false)).bind fun g=>(bif g then ((zT a.Program 1 8).bind fun h=>some h) else (some false)).bind fun i=>some i
theorem Q6 (C:OT) (n:Nat) (b:rX C) (a:bw) (c:Int):TJ C n 27 [(ag (aE a)),(iA c)] (KN n a c) (fun y=>(bA y)):=by
 refine .lp (RV ..) ?_
 unfold KN
 refine .s ((pt 0 0),[bx (aE a)]) (.s2 (iA a.No) (.bd (b a.No 0 1048576) fun q=>.bg (fun t (y:Bool)=>∃ d e f g h:A,t=[(bA y),d,e,f,g,h]) ?_ ?_))
 ·refine .bi ?_ ?_
  ·exact .s (pt 0 1) (.s (iA a.Role) (.st (dk ..) (.bd (b a.Role 0 (wr .i64 (c - 1))) fun r=>.lg ⟨_,_,_,_,_,rfl⟩)))
  exact .lg ⟨_,_,_,_,_,rfl⟩
 rintro _ u ⟨d,e,f,g,h,rfl⟩
 refine .u4 (.uc (.uc (.bg (fun t (y:Bool)=>∃ i j k:A,t=[(bA y),i,j,k]) ?_ ?_)))
 ·refine .bi ?_ ?_
  ·exact .s (pt 0 2) (.s (iA a.Bar) (.bd (b a.Bar 0 4095) fun v=>.lg ⟨_,_,_,rfl⟩))
  exact .lg ⟨_,_,_,rfl⟩
 rintro _ w ⟨i,j,k,rfl⟩
 refine .u4 (.bg (fun t (y:Bool)=>∃ l o p:A,t=[(bA y),l,o,p]) ?_ ?_)
 ·refine .bi ?_ ?_
  ·exact .s (pt 0 3) (.s (iA a.Program) (.bd (b a.Program 1 8) fun x=>.lg ⟨_,_,_,rfl⟩))
  exact .lg ⟨_,_,_,rfl⟩
 rintro _ z ⟨l,o,p,rfl⟩
 exact .u4 (.lv rfl)
def FP (a:bw) (b:Int):Option Bool:=KN aB a b
def uJ (C:OT):Prop:=∀ (a:bw) (b:Int),C 27 [(ag (aE a)),(iA b)]=(FP a b).map fun y=>(bA y)
def kf (n:Nat) (c:aw) (b:bH):Nat->Int->Option ((Bool)⊕(Unit))
 | 0,_=>none
 | m+1,a=>bif (decide (a<c.Bar)) then ((bK b.Got a).bind fun d=>(zT d 0 8).bind fun e=>(bif (!e) then ((some (())).bind fun o=>some true) else ((bK b.Did a).bind fun f=>bif (f != 0) then ((bK b.Did a).bind fun g=>(bK b.Got a).bind fun h=>(some (g != h)).bind fun i=>(some i).bind fun j=>some j) else ((some (())).bind fun p=>(some false).bind fun k=>some k))).bind fun l=>bif l then (some ((Sum.inl false))) else (kf n c b m (wr .i64 (a+1)))) else (some ((Sum.inr (()))))
theorem AO (k:rX C) {w319 w320:A} (b:aw) (a:bH) {K:((Bool)⊕(Unit))->Option γ} (l:∀ (h:Bool) (o:A) (s2:A) (p:A) (f:A) (q0:aO) (q1:aO),J φ (kr (St.mk [(1,o),(2,s2),(4,(bA h)),(5,p),(6,f)] [q0,q1])) kL (K (Sum.inl h)) some) (q:∀ (f:A),J φ (kx 0 (St.mk [(1,w319),(2,(pt 0 0)),(4,w320),(5,(pt 1 0)),(6,f)] [bx (ak b),bx (aC a)])) kL (K (Sum.inr (()))) some) :
  ∀ (m:Nat) (g:Int),J φ (aK (cx C) (ec C n 8) (ey C n 8) (n+8) 38 0 0 2 kx kg kr kp m (St.mk [(1,w319),(2,(pt 0 0)),(4,w320),(5,(pt 1 0)),(6,(iA g))] [bx (ak b),bx (aC a)])) kL (kf n b a m g) K:=by
  refine nI (fun _=>.nn) fun m ih g=>.lp (IU ..) ?_
  unfold kf
  refine .s2 (iA b.Bar) (.st (aY ..) (.cd ?_ ?_))
  ·refine .s2 (im (a.Got.map (cI .i64)) false) (.bd (eX (e:=3) (es:=1)) fun i=>.s (iA i) (.bd (k i 0 8) fun r=>.s (bA (!r)) (.Hd (.bg (fun t (y:Bool)=>∃ j:A,t=[(bA y),j]) ?_ ?_))))
   ·refine .Fa (fun d=>?_) (fun d=>?_)
    ·refine .bb (.s (pt 1 2) (.s (im (a.Did.map (cI .i64)) false) (.bd (eX (e:=3) (es:=1)) fun u=>.s (iA u) (.st (aI ..) (.Fb (fun c=>?_) (fun c=>?_))))))
     ·refine .bb (.s (pt 1 2) (.s (im (a.Did.map (cI .i64)) false) (.bd (eX (e:=3) (es:=1)) fun w=>.s (iA w) (.s (pt 1 1) (.s (im (a.Got.map (cI .i64)) false) (.bd (eX (e:=3) (es:=1)) fun x=>.s (iA x) (.cr (.u4 (.u4 (.uc (.uc (.cr (.u4 (.u4 (.u4 (.u4 (.uc (.bg (fun t (y:Bool) =>  t=[(bA y)]) ?_ ?_))))))))))))))))))
      ·exact .lp (iz c) (.st (aI ..) (.lg rfl))
      rintro _ z rfl
      refine .uc (.sm d (.bg (fun t (y:Bool) =>  t=(bA y)) ?_ ?_))
      ·exact .uD c (.lg rfl)
      rintro _ a0 rfl
      exact .lg ⟨_,rfl⟩
     refine .bb (.cr (.u4 (.u4 (.uc (.uc (.cr (.u4 (.u4 (.u4 (.u4 (.uc (.bg (fun t (y:Unit) =>  t=[(A.v undef)]) ?_ ?_))))))))))))
     ·exact .lp (iy c) (.lg rfl)
     rintro _ a1 rfl
     refine .uc (.sm d (.bg (fun t (y:Bool) =>  t=(bA y)) ?_ ?_))
     ·exact .sm c (.lg rfl)
     rintro _ a2 rfl
     exact .lg ⟨_,rfl⟩
    refine .bb (.cr (.u4 (.u4 (.u4 (.u4 (.uc (.bg (fun t (y:Unit) =>  t=[(A.v undef)]) ?_ ?_)))))))
    ·exact .gU (.lg rfl)
    rintro _ a3 rfl
    exact .uc (.uD d (.lg ⟨_,rfl⟩))
   rintro _ a4 ⟨j,rfl⟩
   refine .uc (.uc (.cd ?_ ?_))
   ·exact .ex (l _ _ _ _ _ _ _)
   refine .st (aH ..) (.s [bx (ak b),bx (aC a)] (.cT r8 ?_))
   exact ih _
  exact .ex (q _)
def kh (n:Nat) (e:Int) (f:Bool) (d:aw) (b:bH):Nat->Int->Option ((Bool)⊕(Unit))
 | 0,_=>none
 | m+1,a=>bif (decide (a<((b.Cues.length:Int)))) then ((bK b.Cues a).bind fun c=>(FP c ((d.Ears.length:Int))).bind fun g=>(bif (!g) then (some true) else (some (c.Role != e))).bind fun h=>(bif h then (some true) else (some (decide (c.Bar<d.Bar)))).bind fun i=>(bif i then ((some (())).bind fun q=>some true) else (bif (decide (0<a)) then ((bK b.Cues (wr .i64 (a - 1))).bind fun j=>(some (decide (c.Bar<=j.Bar))).bind fun k=>(some k).bind fun l=>some l) else ((some (())).bind fun r=>(some false).bind fun o=>some o))).bind fun p=>bif p then (some ((Sum.inl false))) else (kh n e f d b m (wr .i64 (a+1)))) else (some ((Sum.inr (()))))
theorem AP (a4:uJ C) (l:Int) (o:Bool) (a:aw) (b:bH) {K:((Bool)⊕(Unit))->Option γ} (x0:∀ (p:Bool) (g:A) (s2:A) (h:A) (i:A) (q0:aO) (q1:aO) (q2:aO),J φ (kr (St.mk [(1,g),(2,s2),(4,(bA p)),(5,h),(7,i)] [q0,q1,q2])) kL (K (Sum.inl p)) some) (x1:∀ (g:A) (s2:A) (s4:A) (h:A) (i:A) (q0:aO) (q1:aO),J φ (kx 2 (St.mk [(1,g),(2,s2),(4,s4),(5,h),(7,i)] [q0,q1])) kL (K (Sum.inr (()))) some) :
  ∀ (m:Nat) (j:Int),J φ (aK (cx C) (ec C n 8) (ey C n 8) (n+8) 38 0 1 2 kx kg kr kp m (St.mk [(1,(iA l)),(2,(pt 0 0)),(4,(bA o)),(5,(pt 1 0)),(7,(iA j))] [bx (ak a),bx (aC b)])) kL (kh n l o a b m j) K:=by
  refine nI (fun _=>.nn) fun m ih j=>.lp (IV ..) ?_
  unfold kh
  refine .s2 (im (b.Cues.map aE) false) (.st (dT (e:=30)) (.st (aY ..) (.cd ?_ ?_)))
  ·refine .s2 (im (b.Cues.map aE) false) (.bd (eX (e:=30) (es:=4)) fun c=>.s (ag (aE c)) (.sq (pt 2 0) (.s [bx (ak a),bx (aC b),bx (aE c)] (.s (ag (aE c)) (.s2 (im (a.Ears.map aC) false) (.st (dT (e:=55)) (.bd (a4 c ((a.Ears.length:Int))) fun a8=>.s (bA (!a8)) (.bg (fun t (y:Bool)=>∃ q r u w:A,t=[(bA y),q,r,u,w]) ?_ ?_))))))))
   ·refine .bi ?_ ?_
    ·exact .lg ⟨_,_,_,_,rfl⟩
    exact .s (pt 2 1) (.s (iA c.Role) (.st (aI ..) (.lg ⟨_,_,_,_,rfl⟩)))
   rintro _ a9 ⟨q,r,u,w,rfl⟩
   refine .u4 (.uc (.bg (fun t (y:Bool)=>∃ x z a0 a1 a2:A,t=[(bA y),x,z,a0,a1,a2]) ?_ ?_))
   ·refine .bi ?_ ?_
    ·exact .lg ⟨_,_,_,_,_,rfl⟩
    exact .s (pt 2 2) (.s (iA c.Bar) (.s (pt 0 3) (.s (iA a.Bar) (.st (aY ..) (.lg ⟨_,_,_,_,_,rfl⟩)))))
   rintro _ aa ⟨x,z,a0,a1,a2,rfl⟩
   refine .u4 (.uc (.uc (.Hc (.bg (fun t (y:Bool)=>∃ a3:A,t=[(bA y),a3]) ?_ ?_))))
   ·refine .Fa (fun f=>?_) (fun f=>?_)
    ·refine .bb (.st (cM ..) (.Fb (fun d=>?_) (fun d=>?_)))
     ·refine .bb (.s (pt 2 2) (.s (iA c.Bar) (.s (pt 1 0) (.s (im (b.Cues.map aE) false) (.st (dk ..) (.bd (eX (e:=30) (es:=4)) fun k=>.s (A.ip [(iA k.Bar),(iA k.Program)]) (.s (iA k.Bar) (.cr (.u4 (.u4 (.uc (.cr (.u4 (.u4 (.u4 (.bg (fun t (y:Bool) =>  t=[(bA y)]) ?_ ?_))))))))))))))))
      ·exact .lp (iz d) (.st (dE ..) (.lg rfl))
      rintro _ ab rfl
      refine .uc (.sm f (.bg (fun t (y:Bool) =>  t=(bA y)) ?_ ?_))
      ·exact .uD d (.lg rfl)
      rintro _ ad rfl
      exact .lg ⟨_,rfl⟩
     refine .bb (.cr (.u4 (.u4 (.uc (.cr (.u4 (.u4 (.u4 (.bg (fun t (y:Unit) =>  t=[(A.v undef)]) ?_ ?_)))))))))
     ·exact .lp (iy d) (.lg rfl)
     rintro _ ae rfl
     refine .uc (.sm f (.bg (fun t (y:Bool) =>  t=(bA y)) ?_ ?_))
     ·exact .sm d (.lg rfl)
     rintro _ af rfl
     exact .lg ⟨_,rfl⟩
    refine .bb (.cr (.u4 (.u4 (.u4 (.bg (fun t (y:Unit) =>  t=[(A.v undef)]) ?_ ?_)))))
    ·exact .gU (.lg rfl)
    rintro _ ah rfl
    exact .uc (.uD f (.lg ⟨_,rfl⟩))
   rintro _ ai ⟨a3,rfl⟩
   refine .uc (.uc (.cd ?_ ?_))
   ·exact .ex (x0 _ _ _ _ _ _ _ _)
   refine .st (aH ..) (.st (v:=[bx (ak a),bx (aC b)]) (eD r8 u3) (.cT r8 ?_))
   exact ih _
  exact .ex (x1 _ _ _ _ _ _ _)
def KW (n:Nat) (a:aw) (c:Int):Option Bool:=
 (bK a.Ears c).bind fun b=>(bif (((b.Got.length:Int)) != a.Bar) then (some true) else (some (((b.Did.length:Int)) != a.Bar))).bind fun d=>bif d then (some false) else ((kf n a b (n+8) 0).bind fun e=>match e with | (Sum.inl f)=>some f | (Sum.inr _)=>(kh n c false a b (n+8) 0).bind fun g=>match g with | (Sum.inl h)=>some h | (Sum.inr _)=>some true)
theorem Rh (C:OT) (n:Nat) (k:uJ C) (l:rX C) (a:aw) (c:Int):TJ C n 38 [(ag (ak a)),(iA c)] (KW n a c) (fun y=>(bA y)):=by
 refine .lp (R6 ..) ?_
 unfold KW
 refine .s ((pt 0 0),[bx (ak a)]) (.s2 (im (a.Ears.map aC) false) (.bd (eX (e:=55) (es:=3)) fun b=>.s (ag (aC b)) (.sq (pt 1 0) (.s [bx (ak a),bx (aC b)] (.s2 (im (b.Got.map (cI .i64)) false) (.st (dT (e:=3)) (.s2 (iA a.Bar) (.st (aI ..) (.bg (fun t (y:Bool)=>∃ d f g h i j:A,t=[(bA y),d,f,g,h,i,j]) ?_ ?_)))))))))
 ·refine .bi ?_ ?_
  ·exact .lg ⟨_,_,_,_,_,_,rfl⟩
  exact .s (pt 1 2) (.s (im (b.Did.map (cI .i64)) false) (.st (dT (e:=3)) (.s (pt 0 3) (.s (iA a.Bar) (.st (aI ..) (.lg ⟨_,_,_,_,_,_,rfl⟩))))))
 rintro _ o ⟨d,f,g,h,i,j,rfl⟩
 refine .u4 (.uc (.uc (.uc (.cd ?_ ?_))))
 ·exact .lv rfl
 refine .as (AO C n _ _ _ _ l a b ?_ ?_ _ 0)
 ·intro p q r u v w430 w431
  exact .un rfl (.lv rfl)
 ·intro w
  refine .un rfl (.cT r8 (.as (AP C n _ _ _ _ k c false a b ?_ ?_ _ 0)))
  ·intro x z a2 a3 a4 w644 w645 w646
   exact .un rfl (.lv rfl)
  ·intro a5 a6 a7 a8 a9 w652 w653
   exact .un rfl (.cT r8 (.lv rfl))
def HV (a:aw) (b:Int):Option Bool:=KW aB a b
def Ao (C:OT):Prop:=∀ (a:aw) (b:Int),C 38 [(ag (ak a)),(iA b)]=(HV a b).map fun y=>(bA y)
def mP (a:(List aq)):aO:=bx [(iA 3),(iA 0),se,(cf 4 0 a.length false)]
abbrev mQ:A:=(ag [(iA 0),(iA 0),se,(im [] false)])
def FU (C:OT) (N:Nat) (self:(List UInt8)->Int->Bool->Int->Option (aq×Int×Bool)):Prop:=∀ (a:(List UInt8)) (a2:Int) (b:Bool) (c:Int) (X:ay),J (fun (o:R) (y:(aq×Int×Bool))=>o=(Out.ret (ag [(iA y.1.Kind),(iA y.1.N),(sA y.1.S),(im (y.1.L.map av) false)]),[aG,bx [(im (a.map c8) false),(iA y.2.1),(bA y.2.2)]]++X)) (dI (cx C) N 95 [(pt 1 0),(iA c)] ([aG,bx [(im (a.map c8) false),(iA a2),(bA b)]]++X) 0) some (self a a2 b c) some
def eH (n:Nat) (d:(List UInt8)):Nat->Int->Int->Int->Bool->Option ((Int×Int×Bool)⊕(Int×Bool))
 | 0,_,_,_,_=>none
 | m+1,f,b,c,e=>bif (!e) then ((bif (decide (((d.length:Int))<=c)) then (some ((0,c,true))) else ((bK d (wr .i64 ((wr .i64 (c+1)) - 1))).bind fun g=>some (((g.toNat:Int),wr .i64 (c+1),e)))).bind fun a=>(bif (b==9) then (some (decide (1<a.1))) else (some false)).bind fun h=>(bif h then (some true) else ((bif (decide (0<b)) then (some (a.1==0)) else (some false)).bind fun i=>some i)).bind fun j=>bif j then (some ((Sum.inl ((0,a.2.1,true))))) else (bif decide (0<=(wr .i64 (7*b))) then (bif (decide (a.1<128)) then (some ((Sum.inl ((wr .u64 (f+(nO .u64 (wr .u64 (Int.tmod a.1 128)) (wr .i64 (7*b)))),a.2.1,a.2.2))))) else (eH n d m (wr .u64 (f+(nO .u64 (wr .u64 (Int.tmod a.1 128)) (wr .i64 (7*b))))) (wr .i64 (b+1)) a.2.1 a.2.2)) else none)) else (some ((Sum.inr ((c,e)))))
theorem ng {w338:A} {w339:aO} (a:(List UInt8)) {K:((Int×Int×Bool)⊕(Int×Bool))->Option γ} (o:∀ (d:Int) (f:Int) (p:Bool) (h:A) (i:A) (j:A),J φ (kr (St.mk [(0,h),(2,(A.v (.int .u64 d))),(3,i),(4,j)] [aG,bx [(im (a.map c8) false),(iA f),(bA p)],w339])) kL (K (Sum.inl ((d,f,p)))) some) (x1:∀ (d:Int) (f:Bool) (h:A) (s2:A) (i:A) (j:A),J φ (kx 0 (St.mk [(0,h),(2,s2),(3,i),(4,j)] [aG,bx [(im (a.map c8) false),(iA d),(bA f)],w339])) kL (K (Sum.inr ((d,f)))) some) :
  ∀ (m:Nat) (k:Int) (l:Int) (b:Int) (c:Bool),J φ (aK (cx C) (ec C n 7) (ey C n 7) (n+7) 113 0 0 3 kx kg kr kp m (St.mk [(0,(pt 1 0)),(2,w338),(3,(A.v (.int .u64 k))),(4,(iA l))] [aG,bx [(im (a.map c8) false),(iA b),(bA c)],w339])) kL (eH n a m k l b c) K:=by
  refine nI (fun _ _ _ _=>.nn) fun m ih k l b c=>.lp (Gp ..) ?_
  unfold eH
  refine .s (pt 1 0) (.s2 (bA c) (.s (bA (!c)) (.cd ?_ ?_)))
  ·refine .bg (fun (t:Out×ay) (y:Int×Int×Bool)=>t=(Out.ret (uA y.1),[aG,bx [(im (a.map c8) false),(iA y.2.1),(bA y.2.2)],w339])) ?_ ?_
   ·refine .lp ((aV BO).trans (ID ..)) (.s (pt 1 0) (.s2 (iA b) (.s (pt 1 0) (.s2 (im (a.map c8) false) (.st (dT (e:=5)) (.st (ef ..) (.cd ?_ ?_)))))))
    ·exact .s (pt 1 0) (.s (pt 1 2) (.s [aG,bx [(im (a.map c8) false),(iA b),(bA true)],w339] (.lg rfl)))
    exact .s (pt 1 0) (.s2 (iA b) (.st (aH ..) (.s (pt 1 0) (.s (pt 1 1) (.s [aG,bx [(im (a.map c8) false),(iA (wr .i64 (b+1))),(bA c)],w339] (.s (pt 1 0) (.s2 (im (a.map c8) false) (.s (pt 1 0) (.s2 (iA (wr .i64 (b+1))) (.st (dk ..) (.bd (eX (e:=5) (es:=1)) fun a5=>.s (uA ((a5.toNat:Int))) (.lg rfl))))))))))))
   rintro _ g rfl
   refine .ok (.st (aX ..) (.bg (fun t (y:Bool)=>∃ q r:A,t=[(bA y),q,r]) ?_ ?_))
   ·refine .bi ?_ ?_
    ·exact .st (cM ..) (.lg ⟨_,_,rfl⟩)
    exact .lg ⟨_,_,rfl⟩
   rintro _ a6 ⟨q,r,rfl⟩
   refine .uc (.uc (.uc (.bg (fun t (y:Bool)=>∃ u w x z a0 a1:A,t=[(bA y),u,w,x,z,a0,a1]) ?_ ?_)))
   ·refine .bi ?_ ?_
    ·exact .lg ⟨_,_,_,_,_,_,rfl⟩
    refine .st (cM ..) (.bg (fun t (y:Bool)=>∃ a2 a3:A,t=[(bA y),a2,a3]) ?_ ?_)
    ·refine .bi ?_ ?_
     ·exact .st (aX ..) (.lg ⟨_,_,rfl⟩)
     exact .lg ⟨_,_,rfl⟩
    rintro _ a7 ⟨a2,a3,rfl⟩
    exact .uc (.uc (.uc (.lg ⟨_,_,_,_,_,_,rfl⟩)))
   rintro _ a8 ⟨u,w,x,z,a0,a1,rfl⟩
   refine .u4 (.uc (.uc (.uc (.cd ?_ ?_))))
   ·exact .s (pt 1 0) (.s (pt 1 2) (.s [aG,bx [(im (a.map c8) false),(iA g.2.1),(bA true)],w339] (.ex (o _ _ _ _ _ _))))
   refine .st (p7 (hb:=by decide) ..) (.st (v:=(A.v (.int .u64 (wr .u64 (Int.tmod g.1 128))))) (aL (hs:=by kernel_rfl) (hd:=by kernel_rfl) ..) (.st (nT ..) (.gd fun hg=>.st (p8 (hb:=Tv hg) ..) (.st (aH ..) (.st (aY ..) (.cd ?_ ?_))))))
   ·exact .ex (o _ _ _ _ _ _)
   refine .st (aH ..) (.s [aG,bx [(im (a.map c8) false),(iA g.2.1),(bA g.2.2)],w339] (.cT r8 ?_))
   exact ih _ _ _ _
  exact .ex (x1 _ _ _ _ _ _)
def fw (self:(List UInt8)->Int->Bool->Int->Option (aq×Int×Bool)) (n:Nat) (c:Int) (d:Int) (e:(List UInt8)) (i:Int) (j:Int) (k:ByteArray):Nat->Int->Int->Bool->(List aq)->Option (Int×Bool×(List aq))
 | 0,_,_,_,_=>none
 | m+1,f,g,a,h=>(bif (decide (f<d)) then (some (!a)) else (some false)).bind fun l=>bif l then ((self e g a (wr .i64 (c+1))).bind fun b=>(c7 56 h ([b.1])).bind fun o=>fw self n c d e i j k m (wr .u64 (f+1)) b.2.1 b.2.2 o) else (some ((g,a,h)))
theorem zg (self:(List UInt8)->Int->Bool->Int->Option (aq×Int×Bool)) (hS:FU C (n+8) self) {w1142:A} {w1143:aO} (o:Int) (r:Int) (d:(List UInt8)) (e:Int) (h:Int) (i:ByteArray) {K:(Int×Bool×(List aq))->Option γ} (x0:∀ (u:Int) (w:Bool) (p:(List aq)) (s1:A) (s7:A) (s9:A),J φ (kx 1 (St.mk [(0,(pt 1 0)),(1,s1),(4,w1142),(7,s7),(8,(pt 3 0)),(9,s9)] [aG,bx [(im (d.map c8) false),(iA u),(bA w)],w1143,bx [(iA e),(iA h),(sA i),(cf 4 0 p.length false)],aO.row false 4 (p.map av)])) kL (K (u,w,p)) some) :
  ∀ (m:Nat) (q:Int) (k:Int) (j:Bool) (a:(List aq)),J φ (aK (cx C) (ec C n 8) (ey C n 8) (n+8) 95 0 0 5 kx kg kr kp m (St.mk [(0,(pt 1 0)),(1,(iA o)),(4,w1142),(7,(A.v (.int .u64 r))),(8,(pt 3 0)),(9,(A.v (.int .u64 q)))] [aG,bx [(im (d.map c8) false),(iA k),(bA j)],w1143,bx [(iA e),(iA h),(sA i),(cf 4 0 a.length false)],aO.row false 4 (a.map av)])) kL (fw self n o r d e h i m q k j a) K:=by
  refine nI (fun _ _ _ _=>.nn) fun m ih q k j a=>.lp (I5 ..) ?_
  unfold fw
  refine .st (aY ..) (.bg (fun t (y:Bool)=>∃ x z a0 a1 a2:A,t=[(bA y),x,z,a0,a1,a2]) ?_ ?_)
  ·refine .bi ?_ ?_
   ·exact .s (pt 1 0) (.s (pt 1 2) (.s (bA j) (.s (bA (!j)) (.lg ⟨_,_,_,_,_,rfl⟩))))
   exact .lg ⟨_,_,_,_,_,rfl⟩
  rintro _ a8 ⟨x,z,a0,a1,a2,rfl⟩
  refine .u4 (.uc (.uc (.cd ?_ ?_)))
  ·refine .s (pt 3 3) (.s (cf 4 0 a.length false) (.st (aH ..) (.cT r8 (.bg (fun (t:R) (y:(aq×Int×Bool))=>t=(Out.ret (ag [(iA y.1.Kind),(iA y.1.N),(sA y.1.S),(im (y.1.L.map av) false)]),[aG,bx [(im (d.map c8) false),(iA y.2.1),(bA y.2.2)],w1143,bx [(iA e),(iA h),(sA i),(cf 4 0 a.length false)],aO.row false 4 (a.map av)])) (hS d k j (wr .i64 (o+1)) [w1143,bx [(iA e),(iA h),(sA i),(cf 4 0 a.length false)],aO.row false 4 (a.map av)]) ?_))))
   rintro _ c rfl
   refine .ok (.s (im [[(iA c.1.Kind),(iA c.1.N),(sA c.1.S),(im (c.1.L.map av) false)]] true) (.bd (g:=fun (y:List aq)=>((cf 4 0 y.length false),[aG,bx [(im (d.map c8) false),(iA c.2.1),(bA c.2.2)],w1143,bx [(iA e),(iA h),(sA i),(cf 4 0 a.length false)],aO.row false 4 (y.map av)])) (cw dZ (l:=a) (l2:=[c.1]) (b:=4) rfl (by decide) (fT (f:=av) (l:=([c.1]:List aq)) y6)) fun a3=>.s (pt 3 3) (.sh (.st (aH ..) (.s [aG,bx [(im (d.map c8) false),(iA c.2.1),(bA c.2.2)],w1143,bx [(iA e),(iA h),(sA i),(cf 4 0 a3.length false)],aO.row false 4 (a3.map av)] (.cT r8 ?_))))))
   exact ih _ _ _ _
  exact .ex (x0 _ _ _ _ _ _)
def uH (self:(List UInt8)->Int->Bool->Int->Option (aq×Int×Bool)) (n:Nat) (c:(List UInt8)) (a2:Int) (g:Bool) (f:Int):Option (aq×Int×Bool):=
 (bif (decide (((c.length:Int))<=a2)) then (some ((0,a2,true))) else ((bK c (wr .i64 ((wr .i64 (a2+1)) - 1))).bind fun h=>some (((h.toNat:Int),wr .i64 (a2+1),g)))).bind fun b=>bif (b.1==1) then (((eH n c (n+7) 0 0 b.2.1 b.2.2).bind fun i=>match i with | (Sum.inl ((j,k,l)))=>some ((j,k,l)) | (Sum.inr ((o,p)))=>some ((0,o,p))).bind fun d=>bif ((Int.tmod d.1 2)==1) then (some (((aq.mk 1 (wr .i64 ((wr .i64 (0 - (wr .i64 (wr .u64 (Int.tdiv d.1 2))))) - 1)) gS ([])),d.2.1,d.2.2))) else (some (((aq.mk 1 (wr .i64 (wr .u64 (Int.tdiv d.1 2))) gS ([])),d.2.1,d.2.2)))) else (bif (b.1==2) then (((eH n c (n+7) 0 0 b.2.1 b.2.2).bind fun q=>match q with | (Sum.inl ((r,s,t)))=>some ((r,s,t)) | (Sum.inr ((u,v)))=>some ((0,u,v))).bind fun a=>(bif a.2.2 then (some true) else (some (decide ((wr .u64 (wr .i64 (((c.length:Int)) - a.2.1)))<a.1)))).bind fun w=>bif w then (some (((aq.mk 0 0 gS ([])),a.2.1,true))) else ((iJ c (wr .i64 ((wr .i64 (a.2.1+(wr .i64 (a.1)))) - (wr .i64 (a.1)))) (wr .i64 (a.2.1+(wr .i64 (a.1))))).bind fun x=>some (((aq.mk 2 0 (fK x) ([])),wr .i64 (a.2.1+(wr .i64 (a.1))),a.2.2)))) else (bif (b.1==3) then (((eH n c (n+7) 0 0 b.2.1 b.2.2).bind fun y=>match y with | (Sum.inl ((z,a0,a5)))=>some ((z,a0,a5)) | (Sum.inr ((a6,a7)))=>some ((0,a6,a7))).bind fun e=>(bif e.2.2 then (some true) else (some (decide ((wr .u64 (wr .i64 (((c.length:Int)) - e.2.1)))<e.1)))).bind fun a8=>(bif a8 then (some true) else (some (f==16))).bind fun a9=>bif a9 then (some (((aq.mk 0 0 gS ([])),e.2.1,true))) else ((fw self n f e.1 c 3 0 gS (n+8) 0 e.2.1 e.2.2 (([]:List aq))).bind fun aa=>match aa with | (ab,ad,ae)=>some (((aq.mk 3 0 gS ae),ab,ad)))) else (some (((aq.mk 0 0 gS ([])),b.2.1,true)))))
theorem MF (C:OT) (n:Nat) (self:(List UInt8)->Int->Bool->Int->Option (aq×Int×Bool)) (hS:FU C (n+8) self) (c:(List UInt8)) (a2:Int) (q:Bool) (r:Int):J (fun (o:R) (y:(aq×Int×Bool))=>∃ Z,o=(Out.ret (ag [(iA y.1.Kind),(iA y.1.N),(sA y.1.S),(im (y.1.L.map av) false)]),[aG,bx [(im (c.map c8) false),(iA y.2.1),(bA y.2.2)]]++Z)) (aF (cx C) (ec C n 8) (ey C n 8) (n+8) 95 [(pt 1 0),(iA r)] [aG,bx [(im (c.map c8) false),(iA a2),(bA q)]] 0) some (uH self n c a2 q r) some:=by
 refine .lp (Sy ..) ?_
 unfold uH
 refine .s ((pt 2 0),[aG,bx [(im (c.map c8) false),(iA a2),(bA q)],aG]) (.bg (fun (t:Out×ay) (y:Int×Int×Bool)=>t=(Out.ret (uA y.1),[aG,bx [(im (c.map c8) false),(iA y.2.1),(bA y.2.2)],aG])) ?_ ?_)
 ·refine .lp ((aV BO).trans (ID ..)) (.s (pt 1 0) (.s2 (iA a2) (.s (pt 1 0) (.s2 (im (c.map c8) false) (.st (dT (e:=5)) (.st (ef ..) (.cd ?_ ?_)))))))
  ·exact .s (pt 1 0) (.s (pt 1 2) (.s [aG,bx [(im (c.map c8) false),(iA a2),(bA true)],aG] (.lg rfl)))
  exact .s (pt 1 0) (.s2 (iA a2) (.st (aH ..) (.s (pt 1 0) (.s (pt 1 1) (.s [aG,bx [(im (c.map c8) false),(iA (wr .i64 (a2+1))),(bA q)],aG] (.s (pt 1 0) (.s2 (im (c.map c8) false) (.s (pt 1 0) (.s2 (iA (wr .i64 (a2+1))) (.st (dk ..) (.bd (eX (e:=5) (es:=1)) fun a9=>.s (uA ((a9.toNat:Int))) (.lg rfl))))))))))))
 rintro _ j rfl
 refine .ok (.st (aX ..) (.cd ?_ ?_))
 ·refine .bg (fun (t:Out×ay) (y:Int×Int×Bool)=>t=(Out.ret (A.v (.int .u64 y.1)),[aG,bx [(im (c.map c8) false),(iA y.2.1),(bA y.2.2)],aG])) ?_ ?_
  ·refine .lp ((aV xo).trans (Gn ..)) (.as (ng C n _ _ _ _ c ?_ ?_ _ 0 0 j.2.1 j.2.2))
   ·intro aa ab ad ae af ah
    exact .un rfl (.lg rfl)
   ·intro ai aj ak al am an
    exact .un rfl (.cT r8 (.lg rfl))
  rintro _ g rfl
  refine .ok (.st (p7 (hb:=by decide) ..) (.st (aX ..) (.cd ?_ ?_)))
  ·exact .st (p6 (hb:=by decide) ..) (.st (v:=(iA (wr .i64 (wr .u64 (Int.tdiv g.1 2))))) (aL (hs:=by kernel_rfl) (hd:=by kernel_rfl) ..) (.s (iA (wr .i64 (0 - (wr .i64 (wr .u64 (Int.tdiv g.1 2)))))) (.st (dk ..) (.s (ag [(iA 1),(iA (wr .i64 ((wr .i64 (0 - (wr .i64 (wr .u64 (Int.tdiv g.1 2))))) - 1))),se,Th]) (.s [aG,bx [(im (c.map c8) false),(iA g.2.1),(bA g.2.2)],bx [(iA 1),(iA (wr .i64 ((wr .i64 (0 - (wr .i64 (wr .u64 (Int.tdiv g.1 2))))) - 1))),se,Th]] (.s (ag [(iA 1),(iA (wr .i64 ((wr .i64 (0 - (wr .i64 (wr .u64 (Int.tdiv g.1 2))))) - 1))),se,(im [] false)]) (.lf rfl rfl (fJ (o:=Out.ret (ag [(iA 1),(iA (wr .i64 ((wr .i64 (0 - (wr .i64 (wr .u64 (Int.tdiv g.1 2))))) - 1))),se,(im [] false)])) (lo:=0) (off:=3) (b:=2) (p:=0) (H2:=[aG,bx [(im (c.map c8) false),(iA g.2.1),(bA g.2.2)]]) (X:=[bx [(iA 1),(iA (wr .i64 ((wr .i64 (0 - (wr .i64 (wr .u64 (Int.tdiv g.1 2))))) - 1))),se,Th]]) (TR rfl)))))))))
  exact .st (p6 (hb:=by decide) ..) (.st (v:=(iA (wr .i64 (wr .u64 (Int.tdiv g.1 2))))) (aL (hs:=by kernel_rfl) (hd:=by kernel_rfl) ..) (.s (ag [(iA 1),(iA (wr .i64 (wr .u64 (Int.tdiv g.1 2)))),se,Th]) (.s [aG,bx [(im (c.map c8) false),(iA g.2.1),(bA g.2.2)],bx [(iA 1),(iA (wr .i64 (wr .u64 (Int.tdiv g.1 2)))),se,Th]] (.s (ag [(iA 1),(iA (wr .i64 (wr .u64 (Int.tdiv g.1 2)))),se,(im [] false)]) (.lf rfl rfl (fJ (o:=Out.ret (ag [(iA 1),(iA (wr .i64 (wr .u64 (Int.tdiv g.1 2)))),se,(im [] false)])) (lo:=0) (off:=3) (b:=2) (p:=0) (H2:=[aG,bx [(im (c.map c8) false),(iA g.2.1),(bA g.2.2)]]) (X:=[bx [(iA 1),(iA (wr .i64 (wr .u64 (Int.tdiv g.1 2)))),se,Th]]) (TR rfl)))))))
 refine .st (aX ..) (.cd ?_ ?_)
 ·refine .bg (fun (t:Out×ay) (y:Int×Int×Bool)=>t=(Out.ret (A.v (.int .u64 y.1)),[aG,bx [(im (c.map c8) false),(iA y.2.1),(bA y.2.2)],aG])) ?_ ?_
  ·refine .lp ((aV xo).trans (Gn ..)) (.as (ng C n _ _ _ _ c ?_ ?_ _ 0 0 j.2.1 j.2.2))
   ·intro ao ap ar au aw ax
    exact .un rfl (.lg rfl)
   ·intro az b0 b1 b2 b3 b4
    exact .un rfl (.cT r8 (.lg rfl))
  rintro _ d rfl
  refine .ok (.s (pt 1 0) (.s2 (bA d.2.2) (.Kk (.bg (fun t (y:Bool)=>∃ a5:A,t=[(bA y),a5]) ?_ ?_))))
  ·refine .Fa (fun u=>?_) (fun u=>?_)
   ·exact .bb (.s (pt 1 0) (.s (pt 1 0) (.s (im (c.map c8) false) (.st (dT (e:=5)) (.s (pt 1 0) (.s (pt 1 1) (.s (iA d.2.1) (.st (dk ..) (.st (v:=(A.v (.int .u64 (wr .u64 (wr .i64 (((c.length:Int)) - d.2.1)))))) (aL (hs:=by kernel_rfl) (hd:=by kernel_rfl) ..) (.cr (.u4 (.u4 (.u4 (.sm u (.st (cM ..) (.lg ⟨_,rfl⟩))))))))))))))))
   exact .bb (.cr (.u4 (.u4 (.u4 (.uD u (.lg ⟨_,rfl⟩))))))
  rintro _ b5 ⟨a5,rfl⟩
  refine .uc (.uc (.cd ?_ ?_))
  ·exact .s (pt 1 0) (.s (pt 1 2) (.sh (.s (ag [(iA 0),(iA 0),se,Th]) (.s [aG,bx [(im (c.map c8) false),(iA d.2.1),(bA true)],aG] (.s mQ (.lf rfl rfl (fJ (o:=Out.ret mQ) (lo:=0) (off:=3) (b:=2) (p:=0) (H2:=[aG,bx [(im (c.map c8) false),(iA d.2.1),(bA true)]]) (X:=[aG]) (TR rfl))))))))
  exact .s (pt 1 0) (.s2 (iA d.2.1) (.st (v:=(iA (wr .i64 (d.1)))) (aL (hs:=by kernel_rfl) (hd:=by kernel_rfl) ..) (.st (aH ..) (.s (pt 1 0) (.s (pt 1 1) (.s [aG,bx [(im (c.map c8) false),(iA (wr .i64 (d.2.1+(wr .i64 (d.1))))),(bA d.2.2)],aG] (.s (pt 1 0) (.s2 (im (c.map c8) false) (.s (pt 1 0) (.s2 (iA (wr .i64 (d.2.1+(wr .i64 (d.1))))) (.st (v:=(iA (wr .i64 (d.1)))) (aL (hs:=by kernel_rfl) (hd:=by kernel_rfl) ..) (.st (dk ..) (.s (pt 1 0) (.s2 (iA (wr .i64 (d.2.1+(wr .i64 (d.1))))) (.bd (pT (e:=5) (es:=1) (f:=c8) (l:=c) (a:=wr .i64 ((wr .i64 (d.2.1+(wr .i64 (d.1)))) - (wr .i64 (d.1)))) (b:=wr .i64 (d.2.1+(wr .i64 (d.1)))) r8 r8 (fun _=>rfl) (.inr ⟨_,rfl⟩) (.inr ⟨_,rfl⟩)) fun k=>.st (v:=(A.v (Value.string (fK k)))) (mN (e:=5) (l:=k) r8 r8 r8 r8 (bN ..) rfl) (.s (ag [(iA 2),(iA 0),(A.v (Value.string (fK k))),Th]) (.s [aG,bx [(im (c.map c8) false),(iA (wr .i64 (d.2.1+(wr .i64 (d.1))))),(bA d.2.2)],bx [(iA 2),(iA 0),(A.v (Value.string (fK k))),Th]] (.s (ag [(iA 2),(iA 0),(A.v (Value.string (fK k))),(im [] false)]) (.lf rfl rfl (fJ (o:=Out.ret (ag [(iA 2),(iA 0),(A.v (Value.string (fK k))),(im [] false)])) (lo:=0) (off:=3) (b:=2) (p:=0) (H2:=[aG,bx [(im (c.map c8) false),(iA (wr .i64 (d.2.1+(wr .i64 (d.1))))),(bA d.2.2)]]) (X:=[bx [(iA 2),(iA 0),(A.v (Value.string (fK k))),Th]]) (TR rfl)))))))))))))))))))))
 refine .st (aX ..) (.cd ?_ ?_)
 ·refine .bg (fun (t:Out×ay) (y:Int×Int×Bool)=>t=(Out.ret (A.v (.int .u64 y.1)),[aG,bx [(im (c.map c8) false),(iA y.2.1),(bA y.2.2)],aG])) ?_ ?_
  ·refine .lp ((aV xo).trans (Gn ..)) (.as (ng C n _ _ _ _ c ?_ ?_ _ 0 0 j.2.1 j.2.2))
   ·intro b6 b7 b8 b9 ba bc
    exact .un rfl (.lg rfl)
   ·intro be bf bh bj bk bl
    exact .un rfl (.cT r8 (.lg rfl))
  rintro _ i rfl
  refine .ok (.s (pt 1 0) (.s2 (bA i.2.2) (.Kk (.bg (fun t (y:Bool)=>∃ a6:A,t=[(bA y),a6]) ?_ ?_))))
  ·refine .Fa (fun w=>?_) (fun w=>?_)
   ·exact .bb (.s (pt 1 0) (.s (pt 1 0) (.s (im (c.map c8) false) (.st (dT (e:=5)) (.s (pt 1 0) (.s (pt 1 1) (.s (iA i.2.1) (.st (dk ..) (.st (v:=(A.v (.int .u64 (wr .u64 (wr .i64 (((c.length:Int)) - i.2.1)))))) (aL (hs:=by kernel_rfl) (hd:=by kernel_rfl) ..) (.cr (.u4 (.u4 (.u4 (.sm w (.st (cM ..) (.lg ⟨_,rfl⟩))))))))))))))))
   exact .bb (.cr (.u4 (.u4 (.u4 (.uD w (.lg ⟨_,rfl⟩))))))
  rintro _ bm ⟨a6,rfl⟩
  refine .uc (.uc (.bg (fun t (y:Bool)=>∃ a7 a8:A,t=[(bA y),a7,a8]) ?_ ?_))
  ·refine .bi ?_ ?_
   ·exact .lg ⟨_,_,rfl⟩
   exact .st (aX ..) (.lg ⟨_,_,rfl⟩)
  rintro _ bn ⟨a7,a8,rfl⟩
  refine .uc (.uc (.uc (.cd ?_ ?_)))
  ·exact .s (pt 1 0) (.s (pt 1 2) (.sh (.s (ag [(iA 0),(iA 0),se,Th]) (.s [aG,bx [(im (c.map c8) false),(iA i.2.1),(bA true)],aG] (.s mQ (.lf rfl rfl (fJ (o:=Out.ret mQ) (lo:=0) (off:=3) (b:=2) (p:=0) (H2:=[aG,bx [(im (c.map c8) false),(iA i.2.1),(bA true)]]) (X:=[aG]) (TR rfl))))))))
  refine .s (ag [(iA 3),(iA 0),se,Th]) (.sq (pt 3 0) (.s [aG,bx [(im (c.map c8) false),(iA i.2.1),(bA i.2.2)],aG,bx [(iA 3),(iA 0),se,Th]] (.as (zg C n _ _ _ _ self hS r i.1 c 3 0 gS ?_ _ 0 i.2.1 i.2.2 (([]:List aq))))))
  ·intro x a0 h bo bp bq
   exact .un rfl (.cT r8 (.s (ag [(iA 3),(iA 0),se,(cf 4 0 h.length false)]) (.s [aG,bx [(im (c.map c8) false),(iA x),(bA a0)],(mP h),(mP h),aO.row false 4 (h.map av)] (.st (v:=(ag [(iA 3),(iA 0),se,(im (h.map av) false)])) ((Ue (fun z=>lY prog 107 (pt 2 0) z) (uV (H:=[aG,bx [(im (c.map c8) false),(iA x),(bA a0)],(mP h),(mP h),aO.row false 4 (h.map av)]) (lo:=0) (off:=3) (b:=2) (o:=0) (b':=4) (es:=4) (l:=h) cb rfl rfl rfl (TR rfl))).trans r8) (.lf rfl rfl (fJ (o:=Out.ret (ag [(iA 3),(iA 0),se,(im (h.map av) false)])) (lo:=0) (off:=3) (b:=2) (p:=0) (H2:=[aG,bx [(im (c.map c8) false),(iA x),(bA a0)]]) (X:=[(mP h),(mP h),aO.row false 4 (h.map av)]) (TR rfl)))))))
 exact .s (pt 1 0) (.s (pt 1 2) (.sh (.s (ag [(iA 0),(iA 0),se,Th]) (.s [aG,bx [(im (c.map c8) false),(iA j.2.1),(bA true)],aG] (.s mQ (.lf rfl rfl (fJ (o:=Out.ret mQ) (lo:=0) (off:=3) (b:=2) (p:=0) (H2:=[aG,bx [(im (c.map c8) false),(iA j.2.1),(bA true)]]) (X:=[aG]) (TR rfl))))))))
def AZ:Nat->(List UInt8)->Int->Bool->Int->Option (aq×Int×Bool)
 | 0=>fun _ _ _ _=>none
 | N+1=>fun a1 a2 a3 a4=>bif Nat.ble 8 N then uH (AZ N) (N - 8) a1 a2 a3 a4 else none
theorem Ij (C:OT):∀ N,FU C N (AZ N)
 | 0=>fun _ _ _ _ X r h=>by cases h
 | N+1=>fun a a2 b c X=>by
  show J _ _ _ (bif Nat.ble 8 N then uH (AZ N) (N - 8) a a2 b c else none) _
  cases h:Nat.ble 8 N with
  | false=>exact fun r h=>by cases h
  | true=>
   obtain ⟨n,rfl⟩:∃ n,N=n+8:=⟨N - 8,by have:=TR h; omega⟩
   rw[VW]
   exact Ba (m:=2) r8 r8 (by decide) rfl r8 ((by kernel_rfl:_=((((aW 2 (a.map c8))&&true))&&true)).trans s6) (fun _=>rfl) (fun y=>((by kernel_rfl:_=((aW 2 (y.1.L.map av))&&true)).trans s6)) (fun y=>((by kernel_rfl:_=((((aW 2 (a.map c8))&&true))&&true)).trans s6)) (MF C n  (AZ (n+8)) (Ij C  (n+8)) a a2 b c)
def ti (C:OT) (self:aq->Option Bool):Prop:=∀ (a:aq),C 102 [(ag (al a))]=(self a).map fun y=>(bA y)
def fU (self:aq->Option Bool) (n:Nat) (a:aq):Nat->Int->Option ((Bool)⊕(Unit))
 | 0,_=>none
 | m+1,b=>bif (decide (b<((a.L.length:Int)))) then ((bK a.L b).bind fun c=>(self c).bind fun d=>bif (!d) then (some ((Sum.inl false))) else (fU self n a m (wr .i64 (b+1)))) else (some ((Sum.inr (()))))
theorem wG (self:aq->Option Bool) (hS:ti C self) {HH:A} (a:aq) {K:((Bool)⊕(Unit))->Option γ} (h:∀ (f:Bool) (i:A) (b:A) (q0:aO),J φ (kr (St.mk [(1,i),(2,(bA f)),(3,b)] [q0])) kL (K (Sum.inl f)) some) (j:∀ (s2:A) (b:A),J φ (kx 1 (St.mk [(1,(pt 0 0)),(2,s2),(3,b)] [bx (al a)])) kL (K (Sum.inr (()))) some) :
  ∀ (m:Nat) (c:Int),J φ (aK (cx C) (ec C n 8) (ey C n 8) (n+8) 102 0 0 1 kx kg kr kp m (St.mk [(1,(pt 0 0)),(2,HH),(3,(iA c))] [bx (al a)])) kL (fU self n a m c) K:=by
  refine nI (fun _=>.nn) fun m ih c=>.lp (Gi ..) ?_
  unfold fU
  refine .s2 (im (a.L.map av) false) (.st (dT (e:=107)) (.st (aY ..) (.cd ?_ ?_)))
  ·refine .s2 (im (a.L.map av) false) (.bd ((eX (e:=107) (es:=4)).trans (dH _)) fun d=>.s (ag (al d)) (.bd (g:=fun (y:Bool)=>(bA y)) (by show C 102 [snap _ (ag (al d))]=_; simp only[cP,eu]; exact hS d) fun k=>.s (bA (!k)) (.cd ?_ ?_)))
   ·exact .ex (h _ _ _ _)
   refine .st (aH ..) (.s [bx (al a)] (.cT r8 ?_))
   exact ih _
  exact .ex (j _ _)
def zY (self:aq->Option Bool) (n:Nat) (a:aq):Option Bool:=
 bif (a.Kind==1) then ((bif (iI a.S ((ByteArray.mk #[]))) then (some (((a.L.length:Int))==0)) else (some false)).bind fun b=>some b) else (bif (a.Kind==2) then ((bif (a.N==0) then (some (((a.L.length:Int))==0)) else (some false)).bind fun c=>some c) else (bif (a.Kind==3) then ((fU self n a (n+8) 0).bind fun d=>match d with | (Sum.inl e)=>some e | (Sum.inr _)=>(bif (a.N==0) then (some (iI a.S ((ByteArray.mk #[])))) else (some false)).bind fun f=>some f) else (some false)))
theorem My (C:OT) (n:Nat) (self:aq->Option Bool) (hS:ti C self) (a:aq):TJ C n 102 [(ag (al a))] (zY self n a) (fun y=>(bA y)):=by
 refine .lp (MQ ..) ?_
 unfold zY
 refine .s ((pt 0 0),[bx (al a)]) (.s2 (iA a.Kind) (.st (aX ..) (.cd ?_ ?_)))
 ·refine .s2 (sA a.S) (.st (jm ..) (.bg (fun t (y:Bool)=>∃ b c d f:A,t=[(bA y),b,c,d,f]) ?_ ?_))
  ·refine .bi ?_ ?_
   ·exact .s (pt 0 3) (.s (im (a.L.map av) false) (.st (dT (e:=107)) (.st (aX ..) (.lg ⟨_,_,_,_,rfl⟩))))
   exact .lg ⟨_,_,_,_,rfl⟩
  rintro _ p ⟨b,c,d,f,rfl⟩
  exact .u4 (.uc (.lv rfl))
 refine .st (aX ..) (.cd ?_ ?_)
 ·refine .s2 (iA a.N) (.st (aX ..) (.bg (fun t (y:Bool)=>∃ g h i j:A,t=[(bA y),g,h,i,j]) ?_ ?_))
  ·refine .bi ?_ ?_
   ·exact .s (pt 0 3) (.s (im (a.L.map av) false) (.st (dT (e:=107)) (.st (aX ..) (.lg ⟨_,_,_,_,rfl⟩))))
   exact .lg ⟨_,_,_,_,rfl⟩
  rintro _ q ⟨g,h,i,j,rfl⟩
  exact .u4 (.uc (.lv rfl))
 refine .st (aX ..) (.cd ?_ ?_)
 ·refine .as (wG C n _ _ _ _ self hS a ?_ ?_ _ 0)
  ·intro r u v w52
   exact .un rfl (.lv rfl)
  ·intro w x
   refine .un rfl (.cT r8 (.s2 (iA a.N) (.st (aX ..) (.bg (fun t (y:Bool)=>∃ k l o:A,t=[(bA y),k,l,o]) ?_ ?_))))
   ·refine .bi ?_ ?_
    ·exact .s (pt 0 2) (.s (sA a.S) (.st (jm ..) (.lg ⟨_,_,_,rfl⟩)))
    exact .lg ⟨_,_,_,rfl⟩
   rintro _ z ⟨k,l,o,rfl⟩
   exact .u4 (.lv rfl)
 exact .lv rfl
def uM:Nat->aq->Option Bool
 | 0=>fun _=>none
 | q+1=>fun a0=>zY (uM q) aB a0
def CG (a:aq):Option Bool:=uM aB a
def Ac (C:OT):Prop:=∀ (a:aq),C 102 [(ag (al a))]=(CG a).map fun y=>(bA y)
def tj (C:OT) (self:aq->Option Int):Prop:=∀ (a:aq),C 103 [(ag (al a))]=(self a).map fun y=>(iA y)
def fV (self:aq->Option Int) (n:Nat) (a:aq):Nat->Int->Int->Option (Int)
 | 0,_,_=>none
 | m+1,b,c=>bif (decide (c<((a.L.length:Int)))) then ((bK a.L c).bind fun e=>(self e).bind fun d=>fV self n a m ((if b<d then d else b)) (wr .i64 (c+1))) else (some b)
theorem wH (self:aq->Option Int) (hS:tj C self) {w22:A} (a:aq) {K:(Int)->Option γ} (i:∀ (f:Int) (j:A) (s2:A) (k:A) (q0:aO),J φ (kx 0 (St.mk [(1,j),(2,s2),(3,(iA f)),(4,k)] [q0])) kL (K f) some) :
  ∀ (m:Nat) (b:Int) (c:Int),J φ (aK (cx C) (ec C n 8) (ey C n 8) (n+8) 103 0 0 1 kx kg kr kp m (St.mk [(1,(pt 0 0)),(2,w22),(3,(iA b)),(4,(iA c))] [bx (al a)])) kL (fV self n a m b c) K:=by
  refine nI (fun _ _=>.nn) fun m ih b c=>.lp (Gj ..) ?_
  unfold fV
  refine .s2 (im (a.L.map av) false) (.st (dT (e:=107)) (.st (aY ..) (.cd ?_ ?_)))
  ·refine .s2 (im (a.L.map av) false) (.bd ((eX (e:=107) (es:=4)).trans (dH _)) fun d=>.s (ag (al d)) (.bd (g:=fun (y:Int)=>(iA y)) (by show C 103 [snap _ (ag (al d))]=_; simp only[cP,eu]; exact hS d) fun h=>.s (iA ((if b<h then h else b))) (.st (aH ..) (.s [bx (al a)] (.cT r8 ?_)))))
   exact ih _ _
  exact .ex (i _ _ _ _ _)
def zZ (self:aq->Option Int) (n:Nat) (a:aq):Option Int:=
 bif (a.Kind != 3) then (some 0) else ((fV self n a (n+8) 0 0).bind fun Lo=>match Lo with | b=>some (wr .i64 (b+1)))
theorem Mz (C:OT) (n:Nat) (self:aq->Option Int) (hS:tj C self) (a:aq):TJ C n 103 [(ag (al a))] (zZ self n a) (fun y=>(iA y)):=by
 refine .lp (MR ..) ?_
 unfold zZ
 refine .s ((pt 0 0),[bx (al a)]) (.s2 (iA a.Kind) (.st (aI ..) (.cd ?_ ?_)))
 ·exact .lv rfl
 refine .as (wH C n _ _ _ _ self hS a ?_ _ 0 0)
 ·intro b c d e Pk
  exact .un rfl (.cT r8 (.st (aH ..) (.lv rfl)))
def uN:Nat->aq->Option Int
 | 0=>fun _=>none
 | q+1=>fun a0=>zZ (uN q) aB a0
def CH (a:aq):Option Int:=uN aB a
def Ad (C:OT):Prop:=∀ (a:aq),C 103 [(ag (al a))]=(CH a).map fun y=>(iA y)
def Le (n:Nat) (a:aq):Option Int:=
 (CG a).bind fun b=>bif (!b) then (some 1) else ((CH a).bind fun c=>bif (decide (16<c)) then (some 2) else (some 0))
theorem RC (C:OT) (n:Nat) (b:Ac C) (c:Ad C) (a:aq):TJ C n 85 [(ag (al a))] (Le n a) (fun y=>(iA y)):=by
 refine .lp (Ss ..) ?_
 unfold Le
 refine .s ((pt 0 0),[bx (al a)]) (.s (ag (al a)) (.bd (g:=fun (y:Bool)=>(bA y)) (by simp only[cP,eu]; exact b a) fun d=>.s (bA (!d)) (.cd ?_ ?_)))
 ·exact .lv rfl
 refine .s (ag (al a)) (.bd (g:=fun (y:Int)=>(iA y)) (by simp only[cP,eu]; exact c a) fun e=>.st (cM ..) (.cd ?_ ?_))
 ·exact .lv rfl
 exact .lv rfl
def Hw (a:aq):Option Int:=Le aB a
def Aw (C:OT):Prop:=∀ (a:aq),C 85 [(ag (al a))]=(Hw a).map fun y=>(iA y)
def CD (n:Nat) (a:Int):Option Int:=
 bif (decide (0<=a)) then (some (wr .u64 (2*(wr .u64 (a))))) else (some (wr .u64 ((wr .u64 (2*(wr .u64 (wr .i64 (0 - (wr .i64 (a+1)))))))+1)))
theorem MB (C:OT) (n:Nat) (a:Int):TJ C n 105 [(iA a)] (CD n a) (fun y=>(A.v (.int .u64 y))):=by
 refine .lp (MT ..) ?_
 unfold CD
 refine .st (ef ..) (.cd ?_ ?_)
 ·exact .st (v:=(A.v (.int .u64 (wr .u64 (a))))) (aL (hs:=by kernel_rfl) (hd:=by kernel_rfl) ..) (.st (nT ..) (.lv rfl))
 exact .st (aH ..) (.s (iA (wr .i64 (0 - (wr .i64 (a+1))))) (.st (v:=(A.v (.int .u64 (wr .u64 (wr .i64 (0 - (wr .i64 (a+1)))))))) (aL (hs:=by kernel_rfl) (hd:=by kernel_rfl) ..) (.st (nT ..) (.st (aH ..) (.lv rfl)))))
def z8 (a:Int):Option Int:=CD aB a
def Af (C:OT):Prop:=∀ (a:Int),C 105 [(iA a)]=(z8 a).map fun y=>(A.v (.int .u64 y))
def xW (C:OT) (self:Int->Option (List UInt8)):Prop:=∀ (a:Int),C 104 [(A.v (.int .u64 a))]=(self a).map fun y=>(im (y.map c8) false)
def wC (self:Int->Option (List UInt8)) (n:Nat) (a:Int):Option (List UInt8):=
 bif (decide (a<128)) then (bif (decide (0<=(wr .u8 (a)))&&decide ((wr .u8 (a))<256)) then (some ([(UInt8.ofNat (Int.toNat (wr .u8 (a))))])) else none) else (bif (decide (0<=(wr .u8 (wr .u64 ((Int.tmod a 128)+128))))&&decide ((wr .u8 (wr .u64 ((Int.tmod a 128)+128)))<256)) then ((self (wr .u64 (Int.tdiv a 128))).bind fun b=>(c7 1 ([(UInt8.ofNat (Int.toNat (wr .u8 (wr .u64 ((Int.tmod a 128)+128)))))]) b).bind fun c=>some c) else none)
theorem MA (C:OT) (n:Nat) (self:Int->Option (List UInt8)) (hS:xW C self) (a:Int):TJ C n 104 [(A.v (.int .u64 a))] (wC self n a) (fun y=>(im (y.map c8) false)):=by
 refine .lp (MS ..) ?_
 unfold wC
 refine .st (aY ..) (.cd ?_ ?_)
 ·exact .st (v:=(uA (wr .u8 (a)))) (aL (hs:=by kernel_rfl) (hd:=by kernel_rfl) ..) (.gd fun hg=>.st (v:=(im [[(uA (((UInt8.ofNat (Int.toNat (wr .u8 (a)))).toNat:Int)))]] true)) (by rw[eV hg]; kernel_rfl) (.lv s5))
 exact .st (p7 (hb:=by decide) ..) (.st (aH ..) (.st (v:=(uA (wr .u8 (wr .u64 ((Int.tmod a 128)+128))))) (aL (hs:=by kernel_rfl) (hd:=by kernel_rfl) ..) (.gd fun hg=>.st (v:=(im [[(uA (((UInt8.ofNat (Int.toNat (wr .u8 (wr .u64 ((Int.tmod a 128)+128))))).toNat:Int)))]] true)) (by rw[eV hg]; kernel_rfl) (.st (p6 (hb:=by decide) ..) (.bd (g:=fun (y:(List UInt8))=>(im (y.map c8) false)) (hS (wr .u64 (Int.tdiv a 128))) fun d=>.bd (g:=fun (y:List UInt8)=>((cf 0 0 y.length false),[aO.row false 1 (y.map c8)])) (kW cQ (l:=[(UInt8.ofNat (Int.toNat (wr .u8 (wr .u64 ((Int.tmod a 128)+128)))))]) (l2:=d) (bN ..)) fun c=>.lv (by show bC [aO.row false 1 (c.map c8)] (cf 0 0 c.length false)=_; first | (simp only[cP,eu,bC,bO (H:=[aO.row false 1 (c.map c8)]) (b:=0) (es:=1) (wr:=false) (l:=c) eB rfl]; done) | (simp only[cP,jA,bC,bO (H:=[aO.row false 1 (c.map c8)]) (b:=0) (es:=1) (wr:=false) (l:=c) eB rfl]; first | done | rfl)))))))
def uO:Nat->Int->Option (List UInt8)
 | 0=>fun _=>none
 | q+1=>fun a0=>wC (uO q) aB a0
def za (a:Int):Option (List UInt8):=uO aB a
def Ae (C:OT):Prop:=∀ (a:Int),C 104 [(A.v (.int .u64 a))]=(za a).map fun y=>(im (y.map c8) false)
def wD (C:OT) (self:aq->Option (List UInt8)):Prop:=∀ (a:aq),C 86 [(ag (al a))]=(self a).map fun y=>(im (y.map c8) false)
def jj (self:aq->Option (List UInt8)) (n:Nat) (a:aq):Nat->Int->(List UInt8)->Option ((List UInt8))
 | 0,_,_=>none
 | m+1,b,c=>bif (decide (b<((a.L.length:Int)))) then ((bK a.L b).bind fun d=>(self d).bind fun e=>(c7 1 c e).bind fun f=>jj self n a m (wr .i64 (b+1)) f) else (some c)
theorem AW (self:aq->Option (List UInt8)) (hS:wD C self) {w38:A} (a:aq) {K:((List UInt8))->Option γ} (i:∀ (d:(List UInt8)) (j:A) (s2:A) (k:A) (q0:aO),J φ (kx 1 (St.mk [(1,j),(2,s2),(3,(cf 1 0 d.length false)),(4,k)] [q0,aO.row false 1 (d.map c8)])) kL (K d) some) :
  ∀ (m:Nat) (f:Int) (c:(List UInt8)),J φ (aK (cx C) (ec C n 8) (ey C n 8) (n+8) 86 0 0 2 kx kg kr kp m (St.mk [(1,(pt 0 0)),(2,w38),(3,(cf 1 0 c.length false)),(4,(iA f))] [bx (al a),aO.row false 1 (c.map c8)])) kL (jj self n a m f c) K:=by
  refine nI (fun _ _=>.nn) fun m ih f c=>.lp (I2 ..) ?_
  unfold jj
  refine .s2 (im (a.L.map av) false) (.st (dT (e:=107)) (.st (aY ..) (.cd ?_ ?_)))
  ·refine .s2 (im (a.L.map av) false) (.bd ((eX (e:=107) (es:=4)).trans (dH _)) fun h=>.s (ag (al h)) (.bd (g:=fun (y:(List UInt8))=>(im (y.map c8) false)) (by show C 86 [snap _ (ag (al h))]=_; simp only[cP,eu,mW (H:=[bx (al a),aO.row false 1 (c.map c8)]) (b:=1) (es:=1) (l:=c) eB rfl]; exact hS h) fun o=>.bd (g:=fun (y:List UInt8)=>((cf 1 0 y.length false),[bx (al a),aO.row false 1 (y.map c8)])) (cw cQ (l:=c) (l2:=o) (b:=1) rfl (by decide) (bN ..)) fun p=>.st (aH ..) (.s [bx (al a),aO.row false 1 (p.map c8)] (.cT r8 ?_))))
   exact ih _ _
  exact .ex (i _ _ _ _ _)
def HI (self:aq->Option (List UInt8)) (n:Nat) (a:aq):Option (List UInt8):=
 bif (a.Kind==1) then ((z8 a.N).bind fun b=>(za b).bind fun c=>(c7 1 ([(1:UInt8)]) c).bind fun d=>some d) else (bif (a.Kind==2) then ((za (wr .u64 ((a.S.size:Int)))).bind fun e=>(c7 1 ([(2:UInt8)]) e).bind fun f=>(c7 1 f (kA a.S)).bind fun g=>some g) else ((za (wr .u64 ((a.L.length:Int)))).bind fun h=>(c7 1 ([(3:UInt8)]) h).bind fun i=>(jj self n a (n+8) 0 i).bind fun j=>match j with | k=>some k))
theorem RD (C:OT) (n:Nat) (h:Ae C) (i:Af C) (self:aq->Option (List UInt8)) (hS:wD C self) (a:aq):TJ C n 86 [(ag (al a))] (HI self n a) (fun y=>(im (y.map c8) false)):=by
 refine .lp (Su ..) ?_
 unfold HI
 refine .s ((pt 0 0),[bx (al a)]) (.s2 (iA a.Kind) (.st (aX ..) (.cd ?_ ?_)))
 ·exact .s (im [[(uA 1)]] true) (.s2 (iA a.N) (.bd (i a.N) fun j=>.bd (h j) fun k=>.bd (g:=fun (y:List UInt8)=>((cf 1 0 y.length false),[bx (al a),aO.row false 1 (y.map c8)])) (kW cQ (l:=[(1:UInt8)]) (l2:=k) (bN ..)) fun c=>.lv (by show bC [bx (al a),aO.row false 1 (c.map c8)] (cf 1 0 c.length false)=_; first | (simp only[cP,eu,bC,bO (H:=[bx (al a),aO.row false 1 (c.map c8)]) (b:=1) (es:=1) (wr:=false) (l:=c) eB rfl]; done) | (simp only[cP,jA,bC,bO (H:=[bx (al a),aO.row false 1 (c.map c8)]) (b:=1) (es:=1) (wr:=false) (l:=c) eB rfl]; first | done | rfl))))
 refine .st (aX ..) (.cd ?_ ?_)
 ·exact .s (im [[(uA 2)]] true) (.s2 (sA a.S) (.s (iA ((a.S.size:Int))) (.st (v:=(A.v (.int .u64 (wr .u64 ((a.S.size:Int)))))) (aL (hs:=by kernel_rfl) (hd:=by kernel_rfl) ..) (.bd (h (wr .u64 ((a.S.size:Int)))) fun o=>.bd (g:=fun (y:List UInt8)=>((cf 1 0 y.length false),[bx (al a),aO.row false 1 (y.map c8)])) (kW cQ (l:=[(2:UInt8)]) (l2:=o) (bN ..)) fun p=>.cT r8 (.s (pt 0 2) (.cT r8 (.s (sA a.S) (.bd (g:=fun (y:List UInt8)=>((cf 1 0 y.length false),[bx (al a),aO.row false 1 (y.map c8)])) (cw tB (l:=p) (l2:=kA a.S) (b:=1) rfl (by decide) (pU ..)) fun d=>.lv (by show bC [bx (al a),aO.row false 1 (d.map c8)] (cf 1 0 d.length false)=_; first | (simp only[cP,eu,bC,bO (H:=[bx (al a),aO.row false 1 (d.map c8)]) (b:=1) (es:=1) (wr:=false) (l:=d) eB rfl]; done) | (simp only[cP,jA,bC,bO (H:=[bx (al a),aO.row false 1 (d.map c8)]) (b:=1) (es:=1) (wr:=false) (l:=d) eB rfl]; first | done | rfl))))))))))
 refine .s (im [[(uA 3)]] true) (.s2 (im (a.L.map av) false) (.st (dT (e:=107)) (.st (v:=(A.v (.int .u64 (wr .u64 ((a.L.length:Int)))))) (aL (hs:=by kernel_rfl) (hd:=by kernel_rfl) ..) (.bd (h (wr .u64 ((a.L.length:Int)))) fun q=>.bd (g:=fun (y:List UInt8)=>((cf 1 0 y.length false),[bx (al a),aO.row false 1 (y.map c8)])) (kW cQ (l:=[(3:UInt8)]) (l2:=q) (bN ..)) fun r=>.as (AW C n _ _ _ _ self hS a ?_ _ 0 r)))))
 ·intro f t u w w51
  exact .un rfl (.cT r8 (.lv (by show bC [w51,aO.row false 1 (f.map c8)] (cf 1 0 f.length false)=_; first | (simp only[cP,eu,bC,bO (H:=[w51,aO.row false 1 (f.map c8)]) (b:=1) (es:=1) (wr:=false) (l:=f) eB rfl]; done) | (simp only[cP,jA,bC,bO (H:=[w51,aO.row false 1 (f.map c8)]) (b:=1) (es:=1) (wr:=false) (l:=f) eB rfl]; first | done | rfl))))
def EZ:Nat->aq->Option (List UInt8)
 | 0=>fun _=>none
 | q+1=>fun a0=>HI (EZ q) aB a0
def Ih (a:aq):Option (List UInt8):=EZ aB a
def Ax (C:OT):Prop:=∀ (a:aq),C 86 [(ag (al a))]=(Ih a).map fun y=>(im (y.map c8) false)
def Lc (n:Nat) (b:(List UInt8)):Option (aq×Int):=
 (AZ (n+8) b 0 false 0).bind fun a=>(bif a.2.2 then (some true) else (some (a.2.1 != ((b.length:Int))))).bind fun c=>(bif c then (some true) else ((Hw a.1).bind fun d=>some (d != 0))).bind fun e=>(bif e then (some true) else ((Ih a.1).bind fun f=>some (!iI (fK f) (fK b)))).bind fun g=>bif g then (some (((aq.mk 0 0 gS ([])),10))) else (some ((a.1,0)))
theorem RA (C:OT) (n:Nat) (x:Aw C) (z:Ax C) (b:(List UInt8)):TJ C n 76 [(im (b.map c8) false)] (Lc n b) (fun y=>(tp [(ag (al y.1)),(iA y.2)])):=by
 refine .lp (Sp ..) ?_
 unfold Lc
 refine .s ((pt 0 0),[aG]) (.s (ag [(im (b.map c8) false),(iA 0),(bA false)]) (.s ((pt 1 0),[aG,bx [(im (b.map c8) false),(iA 0),(bA false)]]) (.bg (fun (t:R) (y:(aq×Int×Bool))=>t=(Out.ret (ag [(iA y.1.Kind),(iA y.1.N),(sA y.1.S),(im (y.1.L.map av) false)]),[aG,bx [(im (b.map c8) false),(iA y.2.1),(bA y.2.2)]])) (Ij C (n+8) b 0 false 0 []) ?_)))
 rintro _ a rfl
 refine .ok (.sq (pt 2 0) (.s [aG,bx [(im (b.map c8) false),(iA a.2.1),(bA a.2.2)],bx (al a.1)] (.s (pt 1 0) (.s2 (bA a.2.2) (.bg (fun t (y:Bool)=>∃ d f h i j k o:A,t=[(bA y),d,f,h,i,j,k,o]) ?_ ?_)))))
 ·refine .bi ?_ ?_
  ·exact .lg ⟨_,_,_,_,_,_,_,rfl⟩
  exact .s (pt 1 0) (.s (pt 1 1) (.s (iA a.2.1) (.st (dT (e:=5)) (.st (aI ..) (.lg ⟨_,_,_,_,_,_,_,rfl⟩)))))
 rintro _ y3 ⟨d,f,h,i,j,k,o,rfl⟩
 refine .u4 (.u4 (.bg (fun t (y:Bool)=>∃ p q r:A,t=[(bA y),p,q,r]) ?_ ?_))
 ·refine .bi ?_ ?_
  ·exact .lg ⟨_,_,_,rfl⟩
  exact .s (ag (al a.1)) (.bd (g:=fun (y:Int)=>(iA y)) (by simp only[cP,eu]; exact x a.1) fun a2=>.st (aI ..) (.lg ⟨_,_,_,rfl⟩))
 rintro _ a3 ⟨p,q,r,rfl⟩
 refine .u4 (.SX (.bg (fun t (y:Bool)=>∃ u:A,t=[(bA y),u]) ?_ ?_))
 ·refine .Fa (fun c=>?_) (fun c=>?_)
  ·exact .bb (.s (ag (al a.1)) (.bd (g:=fun (y:(List UInt8))=>(im (y.map c8) false)) (by simp only[cP,eu]; exact z a.1) fun w=>.st (v:=(A.v (Value.string (fK w)))) (mN (e:=5) (l:=w) r8 r8 r8 r8 (bN ..) rfl) (.st (v:=(A.v (Value.string (fK b)))) (mN (e:=5) (l:=b) r8 r8 r8 r8 (bN ..) rfl) (.cr (.u4 (.uc (.sm c (.st (wI ..) (.lg ⟨_,rfl⟩)))))))))
  exact .bb (.cr (.u4 (.uc (.uD c (.lg ⟨_,rfl⟩)))))
 rintro _ a4 ⟨u,rfl⟩
 refine .uc (.uc (.cd ?_ ?_))
 ·exact .s (ag [(iA 0),(iA 0),se,Th]) (.s [aG,bx [(im (b.map c8) false),(iA a.2.1),(bA a.2.2)],bx (al a.1)] (.s (ag [(iA 0),(iA 0),se,Th]) (.lv s5)))
 exact .s (ag (al a.1)) (.s [bx (al a.1),bx [(im (b.map c8) false),(iA a.2.1),(bA a.2.2)],bx (al a.1)] (.s (ag (al a.1)) (.lv s5)))
def Ie (a:(List UInt8)):Option (aq×Int):=Lc aB a
def EV (C:OT):Prop:=∀ (a:(List UInt8)),C 76 [(im (a.map c8) false)]=(Ie a).map fun y=>(tp [(ag (al y.1)),(iA y.2)])
def kl (n:Nat) (a:aq):Nat->Int->(List Int)->Option ((Bool)⊕((List Int)))
 | 0,_,_=>none
 | m+1,b,c=>bif (decide (b<((a.L.length:Int)))) then ((bK a.L b).bind fun d=>bif (d.Kind != 1) then (some ((Sum.inl false))) else ((bK a.L b).bind fun e=>(c7 8 c ([e.N])).bind fun f=>kl n a m (wr .i64 (b+1)) f)) else (some ((Sum.inr c)))
theorem AS {HH w42:A} (a:aq) {K:((Bool)⊕((List Int)))->Option γ} (o:∀ (c:Bool) (i:A) (p:A) (j:A) (q0:aO) (q1:aO),J φ (kr (St.mk [(2,Th),(3,(bA c)),(4,i),(6,p),(7,j)] [q0,q1])) kL (K (Sum.inl c)) some) (q:∀ (c:(List Int)) (s2:A) (r:A) (i:A) (j:A) (q0:aO),J φ (kx 0 (St.mk [(2,s2),(3,r),(4,i),(6,(cf 1 0 c.length false)),(7,j)] [q0,aO.row false 1 (c.map (cI .i64))])) kL (K (Sum.inr c)) some) :
  ∀ (m:Nat) (k:Int) (d:(List Int)),J φ (aK (cx C) (ec C n 8) (ey C n 8) (n+8) 47 0 0 2 kx kg kr kp m (St.mk [(2,HH),(3,w42),(4,(pt 0 0)),(6,(cf 1 0 d.length false)),(7,(iA k))] [bx (al a),aO.row false 1 (d.map (cI .i64))])) kL (kl n a m k d) K:=by
  refine nI (fun _ _=>.nn) fun m ih k d=>.lp (IY ..) ?_
  unfold kl
  refine .s2 (im (a.L.map av) false) (.st (dT (e:=107)) (.st (aY ..) (.cd ?_ ?_)))
  ·refine .s2 (im (a.L.map av) false) (.bd ((eX (e:=107) (es:=4)).trans (dH _)) fun t=>.s2 (iA t.Kind) (.st (aI ..) (.cd ?_ ?_)))
   ·exact .ex (o _ _ _ _ _ _)
   refine .s2 (im (a.L.map av) false) (.bd ((eX (e:=107) (es:=4)).trans (dH _)) fun h=>.s2 (iA h.N) (.s (im [[(iA h.N)]] true) (.bd (g:=fun (y:List Int)=>((cf 1 0 y.length false),[bx (al a),aO.row false 1 (y.map (cI .i64))])) (cw CP (l:=d) (l2:=[h.N]) (b:=1) rfl (by decide) (bN (f:=(cI .i64)) ([h.N]:List Int) _ _)) fun u=>.st (aH ..) (.s [bx (al a),aO.row false 1 (u.map (cI .i64))] (.cT r8 ?_)))))
   exact ih _ _
  exact .ex (q _ _ _ _ _ _)
def KZ (n:Nat) (b:(List UInt8)):Option ((List Int)×Bool):=
 (Ie b).bind fun a=>(bif (a.2 != 0) then (some true) else (some (a.1.Kind != 3))).bind fun c=>bif c then (some (([],false))) else ((kl n a.1 (n+8) 0 (([]:List Int))).bind fun d=>match d with | (Sum.inl e)=>some (([],e)) | (Sum.inr f)=>some ((f,true)))
theorem Rk (C:OT) (n:Nat) (i:EV C) (d:(List UInt8)):TJ C n 47 [(im (d.map c8) false)] (KZ n d) (fun y=>(tp [(im (y.1.map (cI .i64)) false),(bA y.2)])):=by
 refine .lp (R9 ..) ?_
 unfold KZ
 refine .bd (g:=fun (y:(aq×Int))=>(tp [(ag (al y.1)),(iA y.2)])) (by simp only[cP,eu]; exact i d) fun c=>.s (ag (al c.1)) (.s (iA c.2) (.sq (pt 0 0) (.s [bx (al c.1)] (.st (aI ..) (.bg (fun t (y:Bool)=>∃ e f h:A,t=[(bA y),e,f,h]) ?_ ?_)))))
 ·refine .bi ?_ ?_
  ·exact .lg ⟨_,_,_,rfl⟩
  exact .s (pt 0 0) (.s (iA c.1.Kind) (.st (aI ..) (.lg ⟨_,_,_,rfl⟩)))
 rintro _ j ⟨e,f,h,rfl⟩
 refine .u4 (.cd ?_ ?_)
 ·exact .lv s5
 refine .as (AS C n _ _ _ _ c.1 ?_ ?_ _ 0 (([]:List Int)))
 ·intro k o p q w56 w57
  exact .un rfl (.lv s5)
 ·intro a r u v w w63
  exact .un rfl (.cT r8 (.lv (by show bC [w63,aO.row false 1 (a.map (cI .i64))] (tp [(cf 1 0 a.length false),(bA true)])=_; first | (simp only[cP,eu,bC,bO (H:=[w63,aO.row false 1 (a.map (cI .i64))]) (b:=1) (es:=1) (wr:=false) (l:=a) (jG _) rfl]; done) | (simp only[cP,jA,bC,bO (H:=[w63,aO.row false 1 (a.map (cI .i64))]) (b:=1) (es:=1) (wr:=false) (l:=a) (jG _) rfl]; first | done | rfl))))
def Hq (a:(List UInt8)):Option ((List Int)×Bool):=KZ aB a
def Aq (C:OT):Prop:=∀ (a:(List UInt8)),C 47 [(im (a.map c8) false)]=(Hq a).map fun y=>(tp [(im (y.1.map (cI .i64)) false),(bA y.2)])
def KH (n:Nat) (b:(List UInt8)):Option (bw×Bool):=
 (Hq b).bind fun a=>(bif (!a.2) then (some true) else (some (((a.1.length:Int)) != 5))).bind fun c=>(bif c then (some true) else ((bK a.1 0).bind fun d=>some (d != 1))).bind fun e=>bif e then (some (((bw.mk 0 0 0 0),false))) else ((bK a.1 1).bind fun f=>(bK a.1 2).bind fun g=>(bK a.1 3).bind fun h=>(bK a.1 4).bind fun i=>some (((bw.mk f g h i),true)))
theorem Q0 (C:OT) (n:Nat) (r:Aq C) (f:(List UInt8)):TJ C n 17 [(im (f.map c8) false)] (KH n f) (fun y=>(tp [(ag (aE y.1)),(bA y.2)])):=by
 refine .lp (RP ..) ?_
 unfold KH
 refine .s ((pt 0 0),[bx [(iA 0),(iA 0),(iA 0),(iA 0)]]) (.bd (g:=fun (y:((List Int)×Bool))=>(tp [(im (y.1.map (cI .i64)) false),(bA y.2)])) (by simp only[cP,eu]; exact r f) fun h=>.s (im (h.1.map (cI .i64)) false) (.s (bA h.2) (.s (bA (!h.2)) (.bg (fun t (y:Bool)=>∃ i j k:A,t=[(bA y),i,j,k]) ?_ ?_))))
 ·refine .bi ?_ ?_
  ·exact .lg ⟨_,_,_,rfl⟩
  exact .st (dT (e:=3)) (.st (aI ..) (.lg ⟨_,_,_,rfl⟩))
 rintro _ v ⟨i,j,k,rfl⟩
 refine .u4 (.bg (fun t (y:Bool)=>∃ l o p q:A,t=[(bA y),l,o,p,q]) ?_ ?_)
 ·refine .bi ?_ ?_
  ·exact .lg ⟨_,_,_,_,rfl⟩
  exact .bd (eX (e:=3) (es:=1)) fun u=>.s (iA u) (.st (aI ..) (.lg ⟨_,_,_,_,rfl⟩))
 rintro _ w ⟨l,o,p,q,rfl⟩
 refine .u4 (.uc (.cd ?_ ?_))
 ·exact .s (ag [(iA 0),(iA 0),(iA 0),(iA 0)]) (.s [bx [(iA 0),(iA 0),(iA 0),(iA 0)]] (.s (ag [(iA 0),(iA 0),(iA 0),(iA 0)]) (.lv rfl)))
 exact .bd (eX (e:=3) (es:=1)) fun a=>.s (iA a) (.bd (eX (e:=3) (es:=1)) fun b=>.s (iA b) (.bd (eX (e:=3) (es:=1)) fun c=>.s (iA c) (.bd (eX (e:=3) (es:=1)) fun d=>.s (iA d) (.s (ag [(iA a),(iA b),(iA c),(iA d)]) (.s [bx [(iA a),(iA b),(iA c),(iA d)]] (.s (ag [(iA a),(iA b),(iA c),(iA d)]) (.lv rfl)))))))
def HN (a:(List UInt8)):Option (bw×Bool):=KH aB a
def EC (C:OT):Prop:=∀ (a:(List UInt8)),C 17 [(im (a.map c8) false)]=(HN a).map fun y=>(tp [(ag (aE y.1)),(bA y.2)])
def La (n:Nat) (b:(List UInt8)):Option (bz×Bool):=
 (Hq b).bind fun a=>(bif (!a.2) then (some true) else (some (((a.1.length:Int)) != 4))).bind fun c=>(bif c then (some true) else ((bK a.1 0).bind fun d=>some (d != 2))).bind fun e=>bif e then (some (((bz.mk 0 0 0),false))) else ((bK a.1 1).bind fun f=>(bK a.1 2).bind fun g=>(bK a.1 3).bind fun h=>some (((bz.mk f g h),true)))
theorem Rx (C:OT) (n:Nat) (q:Aq C) (d:(List UInt8)):TJ C n 68 [(im (d.map c8) false)] (La n d) (fun y=>(tp [(ag (aA y.1)),(bA y.2)])):=by
 refine .lp (Sm ..) ?_
 unfold La
 refine .s ((pt 0 0),[bx [(iA 0),(iA 0),(iA 0)]]) (.bd (g:=fun (y:((List Int)×Bool))=>(tp [(im (y.1.map (cI .i64)) false),(bA y.2)])) (by simp only[cP,eu]; exact q d) fun f=>.s (im (f.1.map (cI .i64)) false) (.s (bA f.2) (.s (bA (!f.2)) (.bg (fun t (y:Bool)=>∃ h i j:A,t=[(bA y),h,i,j]) ?_ ?_))))
 ·refine .bi ?_ ?_
  ·exact .lg ⟨_,_,_,rfl⟩
  exact .st (dT (e:=3)) (.st (aI ..) (.lg ⟨_,_,_,rfl⟩))
 rintro _ u ⟨h,i,j,rfl⟩
 refine .u4 (.bg (fun t (y:Bool)=>∃ k l o p:A,t=[(bA y),k,l,o,p]) ?_ ?_)
 ·refine .bi ?_ ?_
  ·exact .lg ⟨_,_,_,_,rfl⟩
  exact .bd (eX (e:=3) (es:=1)) fun r=>.s (iA r) (.st (aI ..) (.lg ⟨_,_,_,_,rfl⟩))
 rintro _ v ⟨k,l,o,p,rfl⟩
 refine .u4 (.uc (.cd ?_ ?_))
 ·exact .s (ag [(iA 0),(iA 0),(iA 0)]) (.s [bx [(iA 0),(iA 0),(iA 0)]] (.s (ag [(iA 0),(iA 0),(iA 0)]) (.lv rfl)))
 exact .bd (eX (e:=3) (es:=1)) fun a=>.s (iA a) (.bd (eX (e:=3) (es:=1)) fun b=>.s (iA b) (.bd (eX (e:=3) (es:=1)) fun c=>.s (iA c) (.s (ag [(iA a),(iA b),(iA c)]) (.s [bx [(iA a),(iA b),(iA c)]] (.s (ag [(iA a),(iA b),(iA c)]) (.lv rfl))))))
def Ib (a:(List UInt8)):Option (bz×Bool):=La aB a
def ET (C:OT):Prop:=∀ (a:(List UInt8)),C 68 [(im (a.map c8) false)]=(Ib a).map fun y=>(tp [(ag (aA y.1)),(bA y.2)])
def KX (n:Nat) (c:aw) (b:az):Option Bool:=
 bif (b.From==0) then ((HN b.Data).bind fun d=>(bif d.2 then ((FP d.1 ((c.Ears.length:Int))).bind fun e=>some e) else (some false)).bind fun f=>(bif f then (some (b.To==(wr .i64 (d.1.Role+1)))) else (some false)).bind fun g=>some g) else ((Ib b.Data).bind fun a=>(bif a.2 then (some (b.To==0)) else (some false)).bind fun h=>(bif h then (some (b.From==(wr .i64 (a.1.Role+1)))) else (some false)).bind fun i=>(bif i then ((zT a.1.Role 0 (wr .i64 (((c.Ears.length:Int)) - 1))).bind fun j=>some j) else (some false)).bind fun k=>(bif k then ((zT a.1.Bar 0 (wr .i64 (c.Bar - 1))).bind fun l=>some l) else (some false)).bind fun o=>(bif o then ((bK c.Ears a.1.Role).bind fun p=>(bK p.Did a.1.Bar).bind fun q=>some (q==a.1.Program)) else (some false)).bind fun r=>some r)
theorem Ri (C:OT) (n:Nat) (an:EC C) (ao:uJ C) (h:rX C) (ap:ET C) (b:aw) (a:az):TJ C n 39 [(ag (ak b)),(ag (ar a))] (KX n b a) (fun y=>(bA y)):=by
 refine .lp (R7 ..) ?_
 unfold KX
 refine .s ((pt 0 0),[bx (ak b)]) (.s ((pt 1 0),[bx (ak b),bx (ar a)]) (.s2 (im (b.Ears.map aC) false) (.st (dT (e:=55)) (.s2 (iA a.From) (.st (aX ..) (.cd ?_ ?_))))))
 ·refine .s2 (im (a.Data.map c8) false) (.bd (g:=fun (y:(bw×Bool))=>(tp [(ag (aE y.1)),(bA y.2)])) (by simp only[cP,eu]; exact an a.Data) fun d=>.s (ag (aE d.1)) (.s (bA d.2) (.sq (pt 2 0) (.s [bx (ak b),bx (ar a),bx (aE d.1)] (.bg (fun t (y:Bool)=>∃ i j k:A,t=[(bA y),i,j,k]) ?_ ?_)))))
  ·refine .bi ?_ ?_
   ·exact .s (ag (aE d.1)) (.bd (ao d.1 ((b.Ears.length:Int))) fun y4=>.lg ⟨_,_,_,rfl⟩)
   exact .lg ⟨_,_,_,rfl⟩
  rintro _ y5 ⟨i,j,k,rfl⟩
  refine .u4 (.bg (fun t (y:Bool)=>∃ l o p q r u:A,t=[(bA y),l,o,p,q,r,u]) ?_ ?_)
  ·refine .bi ?_ ?_
   ·exact .s (pt 1 1) (.s (iA a.To) (.s (pt 2 1) (.s (iA d.1.Role) (.st (aH ..) (.st (aX ..) (.lg ⟨_,_,_,_,_,_,rfl⟩))))))
   exact .lg ⟨_,_,_,_,_,_,rfl⟩
  rintro _ ax ⟨l,o,p,q,r,u,rfl⟩
  exact .u4 (.uc (.uc (.uc (.lv rfl))))
 refine .s2 (im (a.Data.map c8) false) (.bd (g:=fun (y:(bz×Bool))=>(tp [(ag (aA y.1)),(bA y.2)])) (by simp only[cP,eu]; exact ap a.Data) fun c=>.s (ag (aA c.1)) (.s (bA c.2) (.sq (pt 2 0) (.s [bx (ak b),bx (ar a),bx (aA c.1)] (.bg (fun t (y:Bool)=>∃ v w x:A,t=[(bA y),v,w,x]) ?_ ?_)))))
 ·refine .bi ?_ ?_
  ·exact .s (pt 1 1) (.s (iA a.To) (.st (aX ..) (.lg ⟨_,_,_,rfl⟩)))
  exact .lg ⟨_,_,_,rfl⟩
 rintro _ ay ⟨v,w,x,rfl⟩
 refine .u4 (.bg (fun t (y:Bool)=>∃ z a2 a3 a4 a5 a6:A,t=[(bA y),z,a2,a3,a4,a5,a6]) ?_ ?_)
 ·refine .bi ?_ ?_
  ·exact .s (pt 1 0) (.s (iA a.From) (.s (pt 2 0) (.s (iA c.1.Role) (.st (aH ..) (.st (aX ..) (.lg ⟨_,_,_,_,_,_,rfl⟩))))))
  exact .lg ⟨_,_,_,_,_,_,rfl⟩
 rintro _ b0 ⟨z,a2,a3,a4,a5,a6,rfl⟩
 refine .u4 (.uc (.uc (.uc (.bg (fun t (y:Bool)=>∃ a7 a8 a9 aa ab:A,t=[(bA y),a7,a8,a9,aa,ab]) ?_ ?_))))
 ·refine .bi ?_ ?_
  ·exact .s (pt 2 0) (.s (iA c.1.Role) (.st (dk ..) (.bd (h c.1.Role 0 (wr .i64 (((b.Ears.length:Int)) - 1))) fun b1=>.lg ⟨_,_,_,_,_,rfl⟩)))
  exact .lg ⟨_,_,_,_,_,rfl⟩
 rintro _ b2 ⟨a7,a8,a9,aa,ab,rfl⟩
 refine .u4 (.uc (.uc (.bg (fun t (y:Bool)=>∃ ad ae af ah ai aj:A,t=[(bA y),ad,ae,af,ah,ai,aj]) ?_ ?_)))
 ·refine .bi ?_ ?_
  ·exact .s (pt 2 1) (.s (iA c.1.Bar) (.s (pt 0 3) (.s (iA b.Bar) (.st (dk ..) (.bd (h c.1.Bar 0 (wr .i64 (b.Bar - 1))) fun b3=>.lg ⟨_,_,_,_,_,_,rfl⟩)))))
  exact .lg ⟨_,_,_,_,_,_,rfl⟩
 rintro _ b4 ⟨ad,ae,af,ah,ai,aj,rfl⟩
 refine .u4 (.uc (.uc (.uc (.Kl (.bg (fun t (y:Bool)=>∃ al:A,t=[(bA y),al]) ?_ ?_)))))
 ·refine .Fb (fun f=>?_) (fun f=>?_)
  ·exact .bb (.s (pt 0 2) (.s (im (b.Ears.map aC) false) (.s (pt 2 0) (.s (iA c.1.Role) (.bd (eX (e:=55) (es:=3)) fun am=>.s (A.ip [(im (am.Did.map (cI .i64)) false)]) (.s (im (am.Did.map (cI .i64)) false) (.s (pt 2 1) (.s (iA c.1.Bar) (.bd (eX (e:=3) (es:=1)) fun aq=>.s (iA aq) (.s (pt 2 2) (.s (iA c.1.Program) (.cr (.u4 (.u4 (.u4 (.uc (.uD f (.st (aX ..) (.lg ⟨_,rfl⟩)))))))))))))))))))
  exact .bb (.cr (.u4 (.u4 (.u4 (.uc (.sm f (.lg ⟨_,rfl⟩)))))))
 rintro _ b5 ⟨al,rfl⟩
 exact .uc (.uc (.lv rfl))
def HW (a:aw) (b:az):Option Bool:=KX aB a b
def Ap (C:OT):Prop:=∀ (a:aw) (b:az),C 39 [(ag (ak a)),(ag (ar b))]=(HW a b).map fun y=>(bA y)
def jY (n:Nat) (a:aw):Nat->Int->Option ((Int)⊕(Unit))
 | 0,_=>none
 | m+1,b=>bif (decide (b<((a.Ears.length:Int)))) then ((HV a b).bind fun c=>bif (!c) then (some ((Sum.inl 490))) else (jY n a m (wr .i64 (b+1)))) else (some ((Sum.inr (()))))
theorem AB (f:Ao C) {w54:A} (a:aw) {K:((Int)⊕(Unit))->Option γ} (h:∀ (d:Int) (i:A) (c:A) (q0:aO),J φ (kr (St.mk [(1,i),(2,(iA d)),(3,c)] [q0])) kL (K (Sum.inl d)) some) (j:∀ (c:A),J φ (kx 0 (St.mk [(1,(pt 0 0)),(2,w54),(3,c)] [bx (ak a)])) kL (K (Sum.inr (()))) some) :
  ∀ (m:Nat) (b:Int),J φ (aK (cx C) (ec C n 8) (ey C n 8) (n+8) 14 0 0 1 kx kg kr kp m (St.mk [(1,(pt 0 0)),(2,w54),(3,(iA b))] [bx (ak a)])) kL (jY n a m b) K:=by
  refine nI (fun _=>.nn) fun m ih b=>.lp (IH ..) ?_
  unfold jY
  refine .s2 (im (a.Ears.map aC) false) (.st (dT (e:=55)) (.st (aY ..) (.cd ?_ ?_)))
  ·refine .s (ag (ak a)) (.bd (g:=fun (y:Bool)=>(bA y)) (by simp only[cP,eu]; exact f a b) fun k=>.s (bA (!k)) (.cd ?_ ?_))
   ·exact .ex (h _ _ _ _)
   refine .st (aH ..) (.s [bx (ak a)] (.cT r8 ?_))
   exact ih _
  exact .ex (j _)
def jZ (n:Nat) (a:aw):Nat->Int->Option ((Int)⊕(Unit))
 | 0,_=>none
 | m+1,b=>bif (decide (b<((a.Net.Queue.length:Int)))) then ((bK a.Net.Queue b).bind fun c=>(HW a c).bind fun d=>bif (!d) then (some ((Sum.inl 490))) else (jZ n a m (wr .i64 (b+1)))) else (some ((Sum.inr (()))))
theorem AD (i:Ap C) {w69:A} (a:aw) {K:((Int)⊕(Unit))->Option γ} (j:∀ (f:Int) (b:A) (c:A) (q0:aO),J φ (kr (St.mk [(1,b),(2,(iA f)),(5,c)] [q0])) kL (K (Sum.inl f)) some) (k:∀ (b:A) (s2:A) (c:A) (q0:aO),J φ (kx 2 (St.mk [(1,b),(2,s2),(5,c)] [q0])) kL (K (Sum.inr (()))) some) :
  ∀ (m:Nat) (d:Int),J φ (aK (cx C) (ec C n 8) (ey C n 8) (n+8) 14 0 1 1 kx kg kr kp m (St.mk [(1,(pt 0 0)),(2,w69),(5,(iA d))] [bx (ak a)])) kL (jZ n a m d) K:=by
  refine nI (fun _=>.nn) fun m ih d=>.lp (II ..) ?_
  unfold jZ
  refine .s (pt 0 0) (.s2 (im (a.Net.Queue.map ar) false) (.st (dT (e:=48)) (.st (aY ..) (.cd ?_ ?_))))
  ·refine .s (ag (ak a)) (.s (pt 0 0) (.s2 (im (a.Net.Queue.map ar) false) (.bd (eX (e:=48) (es:=3)) fun h=>.s (ag (ar h)) (.bd (g:=fun (y:Bool)=>(bA y)) (by simp only[cP,eu]; exact i a h) fun l=>.s (bA (!l)) (.cd ?_ ?_)))))
   ·exact .ex (j _ _ _ _)
   refine .st (aH ..) (.s [bx (ak a)] (.cT r8 ?_))
   exact ih _
  exact .ex (k _ _ _ _)
def KF (n:Nat) (a:aw):Option Int:=
 (bif (decide (((a.Ears.length:Int))<1)) then (some true) else (some (decide (12<((a.Ears.length:Int)))))).bind fun b=>(bif b then (some true) else ((zT a.Bar 0 4096).bind fun c=>some (!c))).bind fun d=>(bif d then (some true) else ((Hp a.Net).bind fun e=>some (e != 0))).bind fun f=>bif f then (some 490) else ((jY n a (n+8) 0).bind fun Lq=>match Lq with | (Sum.inl g)=>some g | (Sum.inr _)=>(jZ n a (n+8) 0).bind fun Lr=>match Lr with | (Sum.inl h)=>some h | (Sum.inr _)=>some 0)
theorem QY (C:OT) (n:Nat) (r:rX C) (u:Am C) (v:Ao C) (w:Ap C) (a:aw):TJ C n 14 [(ag (ak a))] (KF n a) (fun y=>(iA y)):=by
 refine .lp (RN ..) ?_
 unfold KF
 refine .s ((pt 0 0),[bx (ak a)]) (.s2 (im (a.Ears.map aC) false) (.st (dT (e:=55)) (.st (aY ..) (.bg (fun t (y:Bool)=>∃ b c d f:A,t=[(bA y),b,c,d,f]) ?_ ?_))))
 ·refine .bi ?_ ?_
  ·exact .lg ⟨_,_,_,_,rfl⟩
  exact .s (pt 0 2) (.s (im (a.Ears.map aC) false) (.st (dT (e:=55)) (.st (cM ..) (.lg ⟨_,_,_,_,rfl⟩))))
 rintro _ z ⟨b,c,d,f,rfl⟩
 refine .u4 (.uc (.bg (fun t (y:Bool)=>∃ h i j k:A,t=[(bA y),h,i,j,k]) ?_ ?_))
 ·refine .bi ?_ ?_
  ·exact .lg ⟨_,_,_,_,rfl⟩
  exact .s (pt 0 3) (.s (iA a.Bar) (.bd (r a.Bar 0 4096) fun x=>.s (bA (!x)) (.lg ⟨_,_,_,_,rfl⟩)))
 rintro _ y9 ⟨h,i,j,k,rfl⟩
 refine .u4 (.uc (.bg (fun t (y:Bool)=>∃ l o p q:A,t=[(bA y),l,o,p,q]) ?_ ?_))
 ·refine .bi ?_ ?_
  ·exact .lg ⟨_,_,_,_,rfl⟩
  exact .s (pt 0 0) (.s (ag [(im (a.Net.Queue.map ar) false),(im (a.Net.Apart.map au) false)]) (.bd (g:=fun (y:Int)=>(iA y)) (by simp only[cP,eu]; exact u a.Net) fun a2=>.st (aI ..) (.lg ⟨_,_,_,_,rfl⟩)))
 rintro _ a3 ⟨l,o,p,q,rfl⟩
 refine .u4 (.uc (.cd ?_ ?_))
 ·exact .lv rfl
 refine .as (AB C n _ _ _ _ v a ?_ ?_ _ 0)
 ·intro a4 a5 a6 w64
  exact .un rfl (.lv rfl)
 ·intro a7
  refine .un rfl (.cT r8 (.as (AD C n _ _ _ _ w a ?_ ?_ _ 0)))
  ·intro a8 a9 aa w80
   exact .un rfl (.lv rfl)
  ·intro ab ad ae w84
   exact .un rfl (.cT r8 (.lv rfl))
def Hl (a:aw):Option Int:=KF aB a
def Ah (C:OT):Prop:=∀ (a:aw),C 14 [(ag (ak a))]=(Hl a).map fun y=>(iA y)
def Mu (n:Nat) (a:Int):Option aq:=
 some ((aq.mk 1 a gS ([])))
theorem RE (C:OT) (n:Nat) (a:Int):TJ C n 87 [(iA a)] (Mu n a) (fun y=>(ag (al y))):=by
 refine .lp (Sv ..) ?_
 unfold Mu
 exact .sq (pt 0 0) (.s (ag [(iA 1),(iA a),se,Th]) (.s [bx [(iA 1),(iA a),se,Th]] (.s (ag [(iA 1),(iA a),se,Th]) (.lv s5))))
def Li (a:Int):Option aq:=Mu aB a
def Ay (C:OT):Prop:=∀ (a:Int),C 87 [(iA a)]=(Li a).map fun y=>(ag (al y))
def my (a:(List aq)):aO:=bx [(iA 3),(iA 0),se,(cf 2 0 a.length false)]
def kq (n:Nat) (a:(List Int)) (d:Int) (e:Int) (f:ByteArray):Nat->Int->(List aq)->Option ((List aq))
 | 0,_,_=>none
 | m+1,b,c=>bif (decide (b<((a.length:Int)))) then ((bK a b).bind fun g=>(Li g).bind fun h=>(c7 56 c ([h])).bind fun i=>kq n a d e f m (wr .i64 (b+1)) i) else (some c)
theorem AV (r:Ay C) {w50:A} {w51:aO} (p:(List Int)) (c:Int) (d:Int) (h:ByteArray) {K:((List aq))->Option γ} (t:∀ (k:(List aq)) (u:A) (v:A),J φ (kx 0 (St.mk [(0,u),(2,w50),(3,(pt 1 0)),(4,v)] [w51,bx [(iA c),(iA d),(sA h),(cf 2 0 k.length false)],aO.row false 4 (k.map av)])) kL (K k) some) :
  ∀ (m:Nat) (o:Int) (a:(List aq)),J φ (aK (cx C) (ec C n 8) (ey C n 8) (n+8) 61 0 0 3 kx kg kr kp m (St.mk [(0,(im (p.map (cI .i64)) false)),(2,w50),(3,(pt 1 0)),(4,(iA o))] [w51,bx [(iA c),(iA d),(sA h),(cf 2 0 a.length false)],aO.row false 4 (a.map av)])) kL (kq n p c d h m o a) K:=by
  refine nI (fun _ _=>.nn) fun m ih o a=>.lp (I0 ..) ?_
  unfold kq
  refine .st (dT (e:=3)) (.st (aY ..) (.cd ?_ ?_))
  ·refine .s2 (cf 2 0 a.length false) (.bd (eX (e:=3) (es:=1)) fun q=>.s (iA q) (.bd (r q) fun i=>.s (im [[(iA i.Kind),(iA i.N),(sA i.S),(im (i.L.map av) false)]] true) (.bd (g:=fun (y:List aq)=>((cf 2 0 y.length false),[w51,bx [(iA c),(iA d),(sA h),(cf 2 0 a.length false)],aO.row false 4 (y.map av)])) (cw dZ (l:=a) (l2:=[i]) (b:=2) rfl (by decide) (fT (f:=av) (l:=([i]:List aq)) y6)) fun j=>.s (pt 1 3) (.s [w51,bx [(iA c),(iA d),(sA h),(cf 2 0 j.length false)],aO.row false 4 (j.map av)] (.st (aH ..) (.s [w51,bx [(iA c),(iA d),(sA h),(cf 2 0 j.length false)],aO.row false 4 (j.map av)] (.cT r8 ?_)))))))
   exact ih _ _
  exact .ex (t _ _ _)
def K5 (n:Nat) (a:(List Int)):Option aq:=
 (kq n a 3 0 gS (n+8) 0 (([]:List aq))).bind fun b=>match b with | c=>some ((aq.mk 3 0 gS c))
theorem Rs (C:OT) (n:Nat) (d:Ay C) (c:(List Int)):TJ C n 61 [(im (c.map (cI .i64)) false)] (K5 n c) (fun y=>(ag (al y))):=by
 refine .lp (Sf ..) ?_
 unfold K5
 refine .sq (pt 0 0) (.s (ag [(iA 3),(iA 0),se,Th]) (.sq (pt 1 0) (.s [bx [(iA 0),(iA 0),se,Th],bx [(iA 3),(iA 0),se,Th]] (.as (AV C n _ _ _ _ d c 3 0 gS ?_ _ 0 (([]:List aq)))))))
 ·intro a e f
  exact .un rfl (.cT r8 (.s (ag [(iA 3),(iA 0),se,(cf 2 0 a.length false)]) (.s [(my a),(my a),aO.row false 4 (a.map av)] (.s (ag [(iA 3),(iA 0),se,(cf 2 0 a.length false)]) (.lv (by show bC [(my a),(my a),aO.row false 4 (a.map av)] (ag [(iA 3),(iA 0),se,(cf 2 0 a.length false)])=_; first | (simp only[cP,eu,bC,bO (H:=[(my a),(my a),aO.row false 4 (a.map av)]) (b:=2) (es:=4) (wr:=false) (l:=a) cb rfl]; done) | (simp only[cP,jA,bC,bO (H:=[(my a),(my a),aO.row false 4 (a.map av)]) (b:=2) (es:=4) (wr:=false) (l:=a) cb rfl]; first | done | rfl)))))))
def HY (a:(List Int)):Option aq:=K5 aB a
def EP (C:OT):Prop:=∀ (a:(List Int)),C 61 [(im (a.map (cI .i64)) false)]=(HY a).map fun y=>(ag (al y))
def K4 (n:Nat) (a:aq):Option ((List UInt8)×Int):=
 (Hw a).bind fun b=>bif (b != 0) then (some (([],b))) else ((Ih a).bind fun c=>some ((c,0)))
theorem Rq (C:OT) (n:Nat) (b:Aw C) (c:Ax C) (a:aq):TJ C n 60 [(ag (al a))] (K4 n a) (fun y=>(tp [(im (y.1.map c8) false),(iA y.2)])):=by
 refine .lp (Se ..) ?_
 unfold K4
 refine .s ((pt 0 0),[bx (al a)]) (.s (ag (al a)) (.bd (g:=fun (y:Int)=>(iA y)) (by simp only[cP,eu]; exact b a) fun d=>.st (aI ..) (.cd ?_ ?_)))
 ·exact .lv s5
 exact .s (ag (al a)) (.bd (g:=fun (y:(List UInt8))=>(im (y.map c8) false)) (by simp only[cP,eu]; exact c a) fun e=>.lv s5)
def Hu (a:aq):Option ((List UInt8)×Int):=K4 aB a
def EO (C:OT):Prop:=∀ (a:aq),C 60 [(ag (al a))]=(Hu a).map fun y=>(tp [(im (y.1.map c8) false),(iA y.2)])
def KP (n:Nat) (a:bw):Option (List UInt8):=
 (HY ([1,a.No,a.Role,a.Bar,a.Program])).bind fun b=>(Hu b).bind fun c=>some c.1
theorem Q8 (C:OT) (n:Nat) (c:EO C) (d:EP C) (a:bw):TJ C n 29 [(ag (aE a))] (KP n a) (fun y=>(im (y.map c8) false)):=by
 refine .lp (RX ..) ?_
 unfold KP
 exact .s ((pt 0 0),[bx (aE a)]) (.s2 (iA a.No) (.s2 (iA a.Role) (.s2 (iA a.Bar) (.s2 (iA a.Program) (.s (im [[(iA 1)],[(iA a.No)],[(iA a.Role)],[(iA a.Bar)],[(iA a.Program)]] true) (.bd (g:=fun (y:aq)=>(ag (al y))) (by simp only[cP,eu]; exact d ([1,a.No,a.Role,a.Bar,a.Program])) fun e=>.bd (g:=fun (y:((List UInt8)×Int))=>(tp [(im (y.1.map c8) false),(iA y.2)])) (by simp only[cP,eu]; exact c e) fun b=>.s (im (b.1.map c8) false) (.s (iA b.2) (.lv s5))))))))
def HS (a:bw):Option (List UInt8):=KP aB a
def EJ (C:OT):Prop:=∀ (a:bw),C 29 [(ag (aE a))]=(HS a).map fun y=>(im (y.map c8) false)
def KO (n:Nat) (a:bo) (b:az):Option (bo×Int):=
 (Hp a).bind fun c=>(bif (c != 0) then (some true) else ((Ht b).bind fun d=>some (!d))).bind fun e=>bif e then (some (((bo.mk ([]) ([])),60))) else (bif (((a.Queue.length:Int))==4096) then (some (((bo.mk ([]) ([])),2))) else ((c7 40 ([]) a.Queue).bind fun f=>(c7 40 f ([b])).bind fun g=>some (((bo.mk g a.Apart),0))))
theorem Q7 (C:OT) (n:Nat) (k:Am C) (o:xR C) (a:bo) (c:az):TJ C n 28 [(ag [(im (a.Queue.map ar) false),(im (a.Apart.map au) false)]),(ag (ar c))] (KO n a c) (fun y=>(tp [(ag [(im (y.1.Queue.map ar) false),(im (y.1.Apart.map au) false)]),(iA y.2)])):=by
 refine .lp (RW ..) ?_
 unfold KO
 refine .s ((pt 0 0),[(gX a)]) (.s ((pt 1 0),[(gX a),bx (ar c)]) (.s ((pt 2 0),[(gX a),bx (ar c),bx [Th,Th]]) (.s (ag [(im (a.Queue.map ar) false),(im (a.Apart.map au) false)]) (.bd (g:=fun (y:Int)=>(iA y)) (by simp only[cP,eu]; exact k a) fun r=>.st (aI ..) (.bg (fun t (y:Bool)=>∃ h i j:A,t=[(bA y),h,i,j]) ?_ ?_)))))
 ·refine .bi ?_ ?_
  ·exact .lg ⟨_,_,_,rfl⟩
  exact .s (ag (ar c)) (.bd (g:=fun (y:Bool)=>(bA y)) (by simp only[cP,eu]; exact o c) fun p=>.s (bA (!p)) (.lg ⟨_,_,_,rfl⟩))
 rintro _ u ⟨h,i,j,rfl⟩
 refine .u4 (.cd ?_ ?_)
 ·exact .s (ag [Th,Th]) (.s [(gX a),bx (ar c),bx [Th,Th]] (.s (ag [Th,Th]) (.lv s5)))
 refine .s2 (im (a.Queue.map ar) false) (.st (dT (e:=48)) (.st (aX ..) (.cd ?_ ?_)))
 ·exact .s (ag [Th,Th]) (.s [(gX a),bx (ar c),bx [Th,Th]] (.s (ag [Th,Th]) (.lv s5)))
 exact .s Th (.s2 (im (a.Queue.map ar) false) (.bd (g:=fun (y:List az)=>((cf 3 0 y.length false),[(gX a),bx (ar c),bx [Th,Th],aO.row false 3 (y.map ar)])) (kW tA (l:=[]) (l2:=a.Queue) (bN ..)) fun q=>.cT r8 (.s (ag (ar c)) (.cT r8 (.s (im [[(iA c.From),(iA c.To),(im (c.Data.map c8) false)]] true) (.bd (g:=fun (y:List az)=>((cf 3 0 y.length false),[(gX a),bx (ar c),bx [Th,Th],aO.row false 3 (y.map ar)])) (cw tA (l:=q) (l2:=[c]) (b:=3) rfl (by decide) (bN (f:=ar) ([c]:List az) _ _)) fun d=>.s (pt 0 0) (.sh (.s (ag [(cf 3 0 d.length false),(im (a.Apart.map au) false)]) (.s [(fD d a),bx (ar c),(fD d a),aO.row false 3 (d.map ar)] (.s (ag [(cf 3 0 d.length false),(im (a.Apart.map au) false)]) (.lv (by show bC [(fD d a),bx (ar c),(fD d a),aO.row false 3 (d.map ar)] (tp [(ag [(cf 3 0 d.length false),(im (a.Apart.map au) false)]),(iA 0)])=_; first | (simp only[cP,eu,bC,bO (H:=[(fD d a),bx (ar c),(fD d a),aO.row false 3 (d.map ar)]) (b:=3) (es:=3) (wr:=false) (l:=d) cq rfl]; done) | (simp only[cP,jA,bC,bO (H:=[(fD d a),bx (ar c),(fD d a),aO.row false 3 (d.map ar)]) (b:=3) (es:=3) (wr:=false) (l:=d) cq rfl]; first | done | rfl)))))))))))))
def HR (a:bo) (b:az):Option (bo×Int):=KO aB a b
def EI (C:OT):Prop:=∀ (a:bo) (b:az),C 28 [(ag [(im (a.Queue.map ar) false),(im (a.Apart.map au) false)]),(ag (ar b))]=(HR a b).map fun y=>(tp [(ag [(im (y.1.Queue.map ar) false),(im (y.1.Apart.map au) false)]),(iA y.2)])
def ue (a:(bo×Int)) (b:aw):aO:=bx [(im (a.1.Queue.map ar) false),(im (a.1.Apart.map au) false),(im (b.Ears.map aC) false),(iA b.Bar)]
def KB (n:Nat) (a:aw) (b:bw):Option (aw×Int):=
 (Hl a).bind fun d=>bif (d != 0) then (some (((aw.mk ((bo.mk ([]) ([]))) ([]) 0),d))) else ((FP b ((a.Ears.length:Int))).bind fun e=>bif (!e) then (some (((aw.mk ((bo.mk ([]) ([]))) ([]) 0),1))) else ((HS b).bind fun f=>(HR a.Net ((az.mk 0 (wr .i64 (b.Role+1)) f))).bind fun c=>bif (c.2 != 0) then (some (((aw.mk ((bo.mk ([]) ([]))) ([]) 0),c.2))) else (some (((aw.mk c.1 a.Ears a.Bar),0)))))
theorem QU (C:OT) (n:Nat) (f:Ah C) (h:uJ C) (i:EI C) (j:EJ C) (a:aw) (b:bw):TJ C n 10 [(ag (ak a)),(ag (aE b))] (KB n a b) (fun y=>(tp [(ag (ak y.1)),(iA y.2)])):=by
 refine .lp (RJ ..) ?_
 unfold KB
 refine .s ((pt 0 0),[bx (ak a)]) (.sq (pt 1 0) (.s ((pt 2 0),[bx (ak a),bx (aE b),bx [Th,Th,Th,(iA 0)]]) (.s (ag (ak a)) (.bd (g:=fun (y:Int)=>(iA y)) (by simp only[cP,eu]; exact f a) fun l=>.st (aI ..) (.cd ?_ ?_)))))
 ·exact .s lO (.s [bx (ak a),bx (aE b),bx [Th,Th,Th,(iA 0)]] (.s lO (.lv s5)))
 refine .s (ag (aE b)) (.s2 (im (a.Ears.map aC) false) (.st (dT (e:=55)) (.bd (h b ((a.Ears.length:Int))) fun k=>.s (bA (!k)) (.cd ?_ ?_))))
 ·exact .s lO (.s [bx (ak a),bx (aE b),bx [Th,Th,Th,(iA 0)]] (.s lO (.lv s5)))
 refine .s2 (ag [(im (a.Net.Queue.map ar) false),(im (a.Net.Apart.map au) false)]) (.s2 (iA b.Role) (.st (aH ..) (.s (ag (aE b)) (.bd (j b) fun d=>.s (ag [(iA 0),(iA (wr .i64 (b.Role+1))),(im (d.map c8) false)]) (.bd (g:=fun (y:(bo×Int))=>(tp [(ag [(im (y.1.Queue.map ar) false),(im (y.1.Apart.map au) false)]),(iA y.2)])) (by simp only[cP,eu]; exact i a.Net ((az.mk 0 (wr .i64 (b.Role+1)) d))) fun c=>.s (ag [(im (c.1.Queue.map ar) false),(im (c.1.Apart.map au) false)]) (.s (iA c.2) (.s (pt 0 0) (.s [(ue c a),bx (aE b),bx [Th,Th,Th,(iA 0)]] (.st (aI ..) (.cd ?_ ?_))))))))))
 ·exact .s lO (.s [(ue c a),bx (aE b),bx [Th,Th,Th,(iA 0)]] (.s lO (.lv s5)))
 exact .s (ag [(im (c.1.Queue.map ar) false),(im (c.1.Apart.map au) false),(im (a.Ears.map aC) false),(iA a.Bar)]) (.s [(ue c a),bx (aE b),(ue c a)] (.s (ag [(im (c.1.Queue.map ar) false),(im (c.1.Apart.map au) false),(im (a.Ears.map aC) false),(iA a.Bar)]) (.lv s5)))
def HL (a:aw) (b:bw):Option (aw×Int):=KB aB a b
def Ey (C:OT):Prop:=∀ (a:aw) (b:bw),C 10 [(ag (ak a)),(ag (aE b))]=(HL a b).map fun y=>(tp [(ag (ak y.1)),(iA y.2)])
def Ms (n:Nat)  : Option bo:=
 some ((bo.mk ([]) ([])))
theorem Rb (C:OT) (n:Nat):TJ C n 32 [] (Ms n ) (fun y=>(ag [(im (y.Queue.map ar) false),(im (y.Apart.map au) false)])):=by
 refine .lp (R0 ..) ?_
 unfold Ms
 exact .s ((pt 0 0),[bx [Th,Th]]) (.s (ag [Th,Th]) (.s [bx [Th,Th]] (.s (ag [Th,Th]) (.lv s5))))
def Mw  : Option bo:=Ms aB
def EL (C:OT):Prop:=∀ (_:Unit),C 32 []=(Mw ).map fun y=>(ag [(im (y.Queue.map ar) false),(im (y.Apart.map au) false)])
def KD (n:Nat) (a:Int):Option (aw×Int):=
 (bif (decide (a<1)) then (some true) else (some (decide (12<a)))).bind fun b=>bif b then (some (((aw.mk ((bo.mk ([]) ([]))) ([]) 0),1))) else ((Mw ).bind fun c=>(HE 72 a ((bH.mk ([]) ([]) ([])))).bind fun d=>some (((aw.mk c d 0),0)))
theorem QW (C:OT) (n:Nat) (i:EL C) (c:Int):TJ C n 12 [(iA c)] (KD n c) (fun y=>(tp [(ag (ak y.1)),(iA y.2)])):=by
 refine .lp (RL ..) ?_
 unfold KD
 refine .s ((pt 0 0),[bx [Th,Th,Th,(iA 0)]]) (.st (aY ..) (.bg (fun t (y:Bool)=>∃ d h:A,t=[(bA y),d,h]) ?_ ?_))
 ·refine .bi ?_ ?_
  ·exact .lg ⟨_,_,rfl⟩
  exact .st (cM ..) (.lg ⟨_,_,rfl⟩)
 rintro _ j ⟨d,h,rfl⟩
 refine .uc (.uc (.uc (.cd ?_ ?_)))
 ·exact .s (ag [Th,Th,Th,(iA 0)]) (.s [bx [Th,Th,Th,(iA 0)]] (.s (ag [Th,Th,Th,(iA 0)]) (.lv s5)))
 exact .bd (i ()) fun a=>.bd (g:=fun (y:List bH)=>((im (y.map aC) false),[bx [Th,Th,Th,(iA 0)]])) (rC (e:=55) (es:=3) (f:=aC) (z:=(bH.mk ([]) ([]) ([]))) (z':=[Th,Th,Th]) r8 r8 r8 r8 rfl (by decide) (fun _=>rfl)) fun b=>.s (ag [(im (a.Queue.map ar) false),(im (a.Apart.map au) false),(im (b.map aC) false),(iA 0)]) (.s [bx [(im (a.Queue.map ar) false),(im (a.Apart.map au) false),(im (b.map aC) false),(iA 0)]] (.s (ag [(im (a.Queue.map ar) false),(im (a.Apart.map au) false),(im (b.map aC) false),(iA 0)]) (.lv s5)))
def HM (a:Int):Option (aw×Int):=KD aB a
def Ez (C:OT):Prop:=∀ (a:Int),C 12 [(iA a)]=(HM a).map fun y=>(tp [(ag (ak y.1)),(iA y.2)])
end Go.Proofs.Ytebkhfhcipnfgaa
