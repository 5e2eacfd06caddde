/-
 The program's functions as plain functions: by a tool; each follows the interpreter.
-/
import Derived.Test.YtebkhfhcipnfgaaGreatT1
namespace Go.Proofs.YtebkhfhcipnfgaaGreat
open Go.Proofs.Tryz (prog)
set_option linter.unusedVariables false
set_option linter.unusedSimpArgs false
set_option maxHeartbeats 4000000
set_option maxRecDepth 100000
set_option linter.defProp false
variable (C:Nat->List A->Option A) (n:Nat) {ρ γ:Type} {φ:ρ->γ->Prop} {kL:R->Option ρ} (kx kg:Nat->St->Option R) (kr:St->Option R) (kp:A->St->Option R)
def p9 (a:Int) (b:Int) (c:ByteArray) (d:(List au)):aO:=bx [(iA a),(iA b),(sA c),(bW 3 0 d.length false)]
def iU (n:Nat) (c:Int) (b:aU) (e:Int) (f:Int) (g:ByteArray):Nat->Int->(List au)->Option ((List au))
 | 0,_,_=>none
 | m+1,a,d=>bif (decide (a<c)) then (bif decide (a=0) then ((cz 56 d ([(au.mk 1 b.kind jl ([]))])).bind fun h=>iU n c b e f g m (wr .i64 (a+1)) h) else bif decide (a=1) then ((cz 56 d ([(au.mk 1 b.cue.No jl ([]))])).bind fun i=>iU n c b e f g m (wr .i64 (a+1)) i) else bif decide (a=2) then ((cz 56 d ([(au.mk 1 b.cue.Role jl ([]))])).bind fun j=>iU n c b e f g m (wr .i64 (a+1)) j) else bif decide (a=3) then ((cz 56 d ([(au.mk 1 b.cue.Bar jl ([]))])).bind fun k=>iU n c b e f g m (wr .i64 (a+1)) k) else bif decide (a=4) then ((cz 56 d ([(au.mk 1 b.cue.Program jl ([]))])).bind fun l=>iU n c b e f g m (wr .i64 (a+1)) l) else none) else (some d)
theorem CN {w95:A} (k:Int) (a:aU) (d:Int) (e:Int) (h:ByteArray) {K:((List au))->Option γ} (u:∀ (i:(List au)) (s2:A) (w:A) (x:A) (z:A) (q0:aO) (q2:aO),J φ (kx 0 (St.mk [(2,s2),(3,(pt 1 0)),(9,w),(10,x),(11,z)] [q0,bx [(iA d),(iA e),(sA h),(bW 3 0 i.length false)],q2,aO.row false 4 (i.map ax)])) kL (K i) some) :
  ∀ (m:Nat) (j:Int) (c:(List au)),J φ (aN (cx C) (ec C n 8) (ey C n 8) (n+8) 54 0 0 4 kx kg kr kp m (St.mk [(2,w95),(3,(pt 1 0)),(9,(bW 2 0 5 false)),(10,(iA k)),(11,(iA j))] [bx (av a),(p9 d e h c),aO.row true 1 [[(pt 0 0)],[(pt 0 1)],[(pt 0 2)],[(pt 0 3)],[(pt 0 4)],[(pt 0 0)],[(pt 0 5)],[(pt 0 6)],[(pt 0 7)]],aO.row false 4 (c.map ax)])) kL (iU n k a d e h m j c) K:=by
  refine nI (fun _ _=>.nn) fun m ih j c=>.lp (HV ..) ?_
  unfold iU
  refine .st (aY ..) (.bX ?_ ?_)
  ·refine .sp (fun a0=>?_) (fun _=>?_)
   ·refine .st (v:=(A.ep 2 0 0)) (by rw[XY a0]; kernel_rfl) (.s (pt 0 0) (.s2 (bW 3 0 c.length false) (.s (pt 0 0) (.s (iA a.kind) (.s (ag [(iA 1),(iA a.kind),se,XL]) (.s (im [[(iA 1),(iA a.kind),se,(im [] false)]] true) (.bd (g:=fun (y:List au)=>((bW 3 0 y.length false),[bx (av a),(p9 d e h c),aO.row true 1 [[(pt 0 0)],[(pt 0 1)],[(pt 0 2)],[(pt 0 3)],[(pt 0 4)],[(pt 0 0)],[(pt 0 5)],[(pt 0 6)],[(pt 0 7)]],aO.row false 4 (y.map ax)])) (cj eS (l:=c) (l2:=[(au.mk 1 a.kind jl ([]))]) (b:=3) rfl (by decide) (g7 (f:=ax) (l:=([(au.mk 1 a.kind jl ([]))]:List au)) An)) fun o=>.s (pt 1 3) (.sh (.st (aJ ..) (.s [bx (av a),bx [(iA d),(iA e),(sA h),(bW 3 0 o.length false)],aO.row true 1 [[(pt 0 0)],[(pt 0 1)],[(pt 0 2)],[(pt 0 3)],[(pt 0 4)],[(pt 0 0)],[(pt 0 5)],[(pt 0 6)],[(pt 0 7)]],aO.row false 4 (o.map ax)] (.cT r7 ?_)))))))))))
    exact ih _ _
   refine .sp (fun a1=>?_) (fun _=>?_)
   ·refine .st (v:=(A.ep 2 1 0)) (by rw[XY a1]; kernel_rfl) (.s (pt 0 1) (.s2 (bW 3 0 c.length false) (.s (pt 0 1) (.s (iA a.cue.No) (.s (ag [(iA 1),(iA a.cue.No),se,XL]) (.s (im [[(iA 1),(iA a.cue.No),se,(im [] false)]] true) (.bd (g:=fun (y:List au)=>((bW 3 0 y.length false),[bx (av a),(p9 d e h c),aO.row true 1 [[(pt 0 0)],[(pt 0 1)],[(pt 0 2)],[(pt 0 3)],[(pt 0 4)],[(pt 0 0)],[(pt 0 5)],[(pt 0 6)],[(pt 0 7)]],aO.row false 4 (y.map ax)])) (cj eS (l:=c) (l2:=[(au.mk 1 a.cue.No jl ([]))]) (b:=3) rfl (by decide) (g7 (f:=ax) (l:=([(au.mk 1 a.cue.No jl ([]))]:List au)) An)) fun p=>.s (pt 1 3) (.sh (.st (aJ ..) (.s [bx (av a),bx [(iA d),(iA e),(sA h),(bW 3 0 p.length false)],aO.row true 1 [[(pt 0 0)],[(pt 0 1)],[(pt 0 2)],[(pt 0 3)],[(pt 0 4)],[(pt 0 0)],[(pt 0 5)],[(pt 0 6)],[(pt 0 7)]],aO.row false 4 (p.map ax)] (.cT r7 ?_)))))))))))
    exact ih _ _
   refine .sp (fun a2=>?_) (fun _=>?_)
   ·refine .st (v:=(A.ep 2 2 0)) (by rw[XY a2]; kernel_rfl) (.s (pt 0 2) (.s2 (bW 3 0 c.length false) (.s (pt 0 2) (.s (iA a.cue.Role) (.s (ag [(iA 1),(iA a.cue.Role),se,XL]) (.s (im [[(iA 1),(iA a.cue.Role),se,(im [] false)]] true) (.bd (g:=fun (y:List au)=>((bW 3 0 y.length false),[bx (av a),(p9 d e h c),aO.row true 1 [[(pt 0 0)],[(pt 0 1)],[(pt 0 2)],[(pt 0 3)],[(pt 0 4)],[(pt 0 0)],[(pt 0 5)],[(pt 0 6)],[(pt 0 7)]],aO.row false 4 (y.map ax)])) (cj eS (l:=c) (l2:=[(au.mk 1 a.cue.Role jl ([]))]) (b:=3) rfl (by decide) (g7 (f:=ax) (l:=([(au.mk 1 a.cue.Role jl ([]))]:List au)) An)) fun q=>.s (pt 1 3) (.sh (.st (aJ ..) (.s [bx (av a),bx [(iA d),(iA e),(sA h),(bW 3 0 q.length false)],aO.row true 1 [[(pt 0 0)],[(pt 0 1)],[(pt 0 2)],[(pt 0 3)],[(pt 0 4)],[(pt 0 0)],[(pt 0 5)],[(pt 0 6)],[(pt 0 7)]],aO.row false 4 (q.map ax)] (.cT r7 ?_)))))))))))
    exact ih _ _
   refine .sp (fun a3=>?_) (fun _=>?_)
   ·refine .st (v:=(A.ep 2 3 0)) (by rw[XY a3]; kernel_rfl) (.s (pt 0 3) (.s2 (bW 3 0 c.length false) (.s (pt 0 3) (.s (iA a.cue.Bar) (.s (ag [(iA 1),(iA a.cue.Bar),se,XL]) (.s (im [[(iA 1),(iA a.cue.Bar),se,(im [] false)]] true) (.bd (g:=fun (y:List au)=>((bW 3 0 y.length false),[bx (av a),(p9 d e h c),aO.row true 1 [[(pt 0 0)],[(pt 0 1)],[(pt 0 2)],[(pt 0 3)],[(pt 0 4)],[(pt 0 0)],[(pt 0 5)],[(pt 0 6)],[(pt 0 7)]],aO.row false 4 (y.map ax)])) (cj eS (l:=c) (l2:=[(au.mk 1 a.cue.Bar jl ([]))]) (b:=3) rfl (by decide) (g7 (f:=ax) (l:=([(au.mk 1 a.cue.Bar jl ([]))]:List au)) An)) fun r=>.s (pt 1 3) (.sh (.st (aJ ..) (.s [bx (av a),bx [(iA d),(iA e),(sA h),(bW 3 0 r.length false)],aO.row true 1 [[(pt 0 0)],[(pt 0 1)],[(pt 0 2)],[(pt 0 3)],[(pt 0 4)],[(pt 0 0)],[(pt 0 5)],[(pt 0 6)],[(pt 0 7)]],aO.row false 4 (r.map ax)] (.cT r7 ?_)))))))))))
    exact ih _ _
   refine .sp (fun a4=>?_) (fun _=>?_)
   ·refine .st (v:=(A.ep 2 4 0)) (by rw[XY a4]; kernel_rfl) (.s (pt 0 4) (.s2 (bW 3 0 c.length false) (.s (pt 0 4) (.s (iA a.cue.Program) (.s (ag [(iA 1),(iA a.cue.Program),se,XL]) (.s (im [[(iA 1),(iA a.cue.Program),se,(im [] false)]] true) (.bd (g:=fun (y:List au)=>((bW 3 0 y.length false),[bx (av a),(p9 d e h c),aO.row true 1 [[(pt 0 0)],[(pt 0 1)],[(pt 0 2)],[(pt 0 3)],[(pt 0 4)],[(pt 0 0)],[(pt 0 5)],[(pt 0 6)],[(pt 0 7)]],aO.row false 4 (y.map ax)])) (cj eS (l:=c) (l2:=[(au.mk 1 a.cue.Program jl ([]))]) (b:=3) rfl (by decide) (g7 (f:=ax) (l:=([(au.mk 1 a.cue.Program jl ([]))]:List au)) An)) fun t=>.s (pt 1 3) (.sh (.st (aJ ..) (.s [bx (av a),bx [(iA d),(iA e),(sA h),(bW 3 0 t.length false)],aO.row true 1 [[(pt 0 0)],[(pt 0 1)],[(pt 0 2)],[(pt 0 3)],[(pt 0 4)],[(pt 0 0)],[(pt 0 5)],[(pt 0 6)],[(pt 0 7)]],aO.row false 4 (t.map ax)] (.cT r7 ?_)))))))))))
    exact ih _ _
   exact .nn
  exact .ex (u _ _ _ _ _ _ _)
def iw (n:Nat) (c:Int) (b:aU) (e:Int) (f:Int) (g:ByteArray):Nat->Int->(List au)->Option ((List au))
 | 0,_,_=>none
 | m+1,a,d=>bif (decide (a<c)) then (bif decide (a=0) then ((cz 56 d ([(au.mk 1 b.kind jl ([]))])).bind fun h=>iw n c b e f g m (wr .i64 (a+1)) h) else bif decide (a=1) then ((cz 56 d ([(au.mk 1 b.report.Role jl ([]))])).bind fun i=>iw n c b e f g m (wr .i64 (a+1)) i) else bif decide (a=2) then ((cz 56 d ([(au.mk 1 b.report.Bar jl ([]))])).bind fun j=>iw n c b e f g m (wr .i64 (a+1)) j) else bif decide (a=3) then ((cz 56 d ([(au.mk 1 b.report.Program jl ([]))])).bind fun k=>iw n c b e f g m (wr .i64 (a+1)) k) else none) else (some d)
theorem A7 {w213:A} (k:Int) (a:aU) (d:Int) (e:Int) (h:ByteArray) {K:((List au))->Option γ} (t:∀ (i:(List au)) (s2:A) (u:A) (w:A) (x:A) (q0:aO) (q2:aO),J φ (kx 0 (St.mk [(2,s2),(3,(pt 1 0)),(9,u),(10,w),(11,x)] [q0,bx [(iA d),(iA e),(sA h),(bW 3 0 i.length false)],q2,aO.row false 4 (i.map ax)])) kL (K i) some) :
  ∀ (m:Nat) (j:Int) (c:(List au)),J φ (aN (cx C) (ec C n 8) (ey C n 8) (n+8) 54 0 0 4 kx kg kr kp m (St.mk [(2,w213),(3,(pt 1 0)),(9,(bW 2 5 4 true)),(10,(iA k)),(11,(iA j))] [bx (av a),bx [(iA d),(iA e),(sA h),(bW 3 0 c.length false)],aO.row true 1 [[(pt 0 0)],[(pt 0 1)],[(pt 0 2)],[(pt 0 3)],[(pt 0 4)],[(pt 0 0)],[(pt 0 5)],[(pt 0 6)],[(pt 0 7)]],aO.row false 4 (c.map ax)])) kL (iw n k a d e h m j c) K:=by
  refine nI (fun _ _=>.nn) fun m ih j c=>.lp (HV ..) ?_
  unfold iw
  refine .st (aY ..) (.bX ?_ ?_)
  ·refine .sp (fun z=>?_) (fun _=>?_)
   ·refine .st (v:=(A.ep 2 5 0)) (by rw[XY z]; kernel_rfl) (.s (pt 0 0) (.s2 (bW 3 0 c.length false) (.s (pt 0 0) (.s (iA a.kind) (.s (ag [(iA 1),(iA a.kind),se,XL]) (.s (im [[(iA 1),(iA a.kind),se,(im [] false)]] true) (.bd (g:=fun (y:List au)=>((bW 3 0 y.length false),[bx (av a),bx [(iA d),(iA e),(sA h),(bW 3 0 c.length false)],aO.row true 1 [[(pt 0 0)],[(pt 0 1)],[(pt 0 2)],[(pt 0 3)],[(pt 0 4)],[(pt 0 0)],[(pt 0 5)],[(pt 0 6)],[(pt 0 7)]],aO.row false 4 (y.map ax)])) (cj eS (l:=c) (l2:=[(au.mk 1 a.kind jl ([]))]) (b:=3) rfl (by decide) (g7 (f:=ax) (l:=([(au.mk 1 a.kind jl ([]))]:List au)) An)) fun o=>.s (pt 1 3) (.sh (.st (aJ ..) (.s [bx (av a),bx [(iA d),(iA e),(sA h),(bW 3 0 o.length false)],aO.row true 1 [[(pt 0 0)],[(pt 0 1)],[(pt 0 2)],[(pt 0 3)],[(pt 0 4)],[(pt 0 0)],[(pt 0 5)],[(pt 0 6)],[(pt 0 7)]],aO.row false 4 (o.map ax)] (.cT r7 ?_)))))))))))
    exact ih _ _
   refine .sp (fun a0=>?_) (fun _=>?_)
   ·refine .st (v:=(A.ep 2 6 0)) (by rw[XY a0]; kernel_rfl) (.s (pt 0 5) (.s2 (bW 3 0 c.length false) (.s (pt 0 5) (.s (iA a.report.Role) (.s (ag [(iA 1),(iA a.report.Role),se,XL]) (.s (im [[(iA 1),(iA a.report.Role),se,(im [] false)]] true) (.bd (g:=fun (y:List au)=>((bW 3 0 y.length false),[bx (av a),bx [(iA d),(iA e),(sA h),(bW 3 0 c.length false)],aO.row true 1 [[(pt 0 0)],[(pt 0 1)],[(pt 0 2)],[(pt 0 3)],[(pt 0 4)],[(pt 0 0)],[(pt 0 5)],[(pt 0 6)],[(pt 0 7)]],aO.row false 4 (y.map ax)])) (cj eS (l:=c) (l2:=[(au.mk 1 a.report.Role jl ([]))]) (b:=3) rfl (by decide) (g7 (f:=ax) (l:=([(au.mk 1 a.report.Role jl ([]))]:List au)) An)) fun p=>.s (pt 1 3) (.sh (.st (aJ ..) (.s [bx (av a),bx [(iA d),(iA e),(sA h),(bW 3 0 p.length false)],aO.row true 1 [[(pt 0 0)],[(pt 0 1)],[(pt 0 2)],[(pt 0 3)],[(pt 0 4)],[(pt 0 0)],[(pt 0 5)],[(pt 0 6)],[(pt 0 7)]],aO.row false 4 (p.map ax)] (.cT r7 ?_)))))))))))
    exact ih _ _
   refine .sp (fun a1=>?_) (fun _=>?_)
   ·refine .st (v:=(A.ep 2 7 0)) (by rw[XY a1]; kernel_rfl) (.s (pt 0 6) (.s2 (bW 3 0 c.length false) (.s (pt 0 6) (.s (iA a.report.Bar) (.s (ag [(iA 1),(iA a.report.Bar),se,XL]) (.s (im [[(iA 1),(iA a.report.Bar),se,(im [] false)]] true) (.bd (g:=fun (y:List au)=>((bW 3 0 y.length false),[bx (av a),bx [(iA d),(iA e),(sA h),(bW 3 0 c.length false)],aO.row true 1 [[(pt 0 0)],[(pt 0 1)],[(pt 0 2)],[(pt 0 3)],[(pt 0 4)],[(pt 0 0)],[(pt 0 5)],[(pt 0 6)],[(pt 0 7)]],aO.row false 4 (y.map ax)])) (cj eS (l:=c) (l2:=[(au.mk 1 a.report.Bar jl ([]))]) (b:=3) rfl (by decide) (g7 (f:=ax) (l:=([(au.mk 1 a.report.Bar jl ([]))]:List au)) An)) fun q=>.s (pt 1 3) (.sh (.st (aJ ..) (.s [bx (av a),bx [(iA d),(iA e),(sA h),(bW 3 0 q.length false)],aO.row true 1 [[(pt 0 0)],[(pt 0 1)],[(pt 0 2)],[(pt 0 3)],[(pt 0 4)],[(pt 0 0)],[(pt 0 5)],[(pt 0 6)],[(pt 0 7)]],aO.row false 4 (q.map ax)] (.cT r7 ?_)))))))))))
    exact ih _ _
   refine .sp (fun a2=>?_) (fun _=>?_)
   ·refine .st (v:=(A.ep 2 8 0)) (by rw[XY a2]; kernel_rfl) (.s (pt 0 7) (.s2 (bW 3 0 c.length false) (.s (pt 0 7) (.s (iA a.report.Program) (.s (ag [(iA 1),(iA a.report.Program),se,XL]) (.s (im [[(iA 1),(iA a.report.Program),se,(im [] false)]] true) (.bd (g:=fun (y:List au)=>((bW 3 0 y.length false),[bx (av a),bx [(iA d),(iA e),(sA h),(bW 3 0 c.length false)],aO.row true 1 [[(pt 0 0)],[(pt 0 1)],[(pt 0 2)],[(pt 0 3)],[(pt 0 4)],[(pt 0 0)],[(pt 0 5)],[(pt 0 6)],[(pt 0 7)]],aO.row false 4 (y.map ax)])) (cj eS (l:=c) (l2:=[(au.mk 1 a.report.Program jl ([]))]) (b:=3) rfl (by decide) (g7 (f:=ax) (l:=([(au.mk 1 a.report.Program jl ([]))]:List au)) An)) fun r=>.s (pt 1 3) (.sh (.st (aJ ..) (.s [bx (av a),bx [(iA d),(iA e),(sA h),(bW 3 0 r.length false)],aO.row true 1 [[(pt 0 0)],[(pt 0 1)],[(pt 0 2)],[(pt 0 3)],[(pt 0 4)],[(pt 0 0)],[(pt 0 5)],[(pt 0 6)],[(pt 0 7)]],aO.row false 4 (r.map ax)] (.cT r7 ?_)))))))))))
    exact ih _ _
   exact .nn
  exact .ex (t _ _ _ _ _ _ _)
def P6 (n:Nat) (a:aU):Option (List UInt8):=
 bif (a.kind==1) then ((iU n 5 a 3 0 jl (n+8) 0 (([]:List au))).bind fun b=>match b with | c=>(Oy ((au.mk 3 0 jl c))).bind fun d=>some d.1) else ((iw n 4 a 3 0 jl (n+8) 0 (([]:List au))).bind fun e=>match e with | f=>(Oy ((au.mk 3 0 jl f))).bind fun g=>some g.1)
theorem Vu (C:OT) (n:Nat) (e:HM C) (d:aU):TJ C n 54 [(ag (av d))] (P6 n d) (fun y=>(im (y.map c8) false)):=by
 refine .lp (Wu ..) ?_
 unfold P6
 refine .s ((pt 0 0),[bx (av d)]) (.s (ag [(iA 3),(iA 0),se,XL]) (.sq (pt 1 0) (.sh (.cl ((bf It).trans (Te ..)) (.s (pt 0 0) (.s (pt 0 0) (.s (pt 0 0) (.s (pt 0 1) (.s (pt 0 1) (.s (pt 0 0) (.s (pt 0 1) (.s (pt 0 2) (.s (pt 0 0) (.s (pt 0 1) (.s (pt 0 3) (.s (pt 0 0) (.s (pt 0 1) (.s (pt 0 4) (.s (pt 0 0) (.s (pt 0 0) (.s (pt 0 0) (.s (pt 0 5) (.s (pt 0 5) ?_)))))))))))))))))))))))
 refine .s (pt 0 0) (.s (pt 0 5) (.s (pt 0 6) (.s (pt 0 0) (.s (pt 0 5) (.s (pt 0 7) (.s (ag [(pt 0 0),(pt 0 1),(pt 0 2),(pt 0 3),(pt 0 4),(pt 0 0),(pt 0 5),(pt 0 6),(pt 0 7)]) (.cT r7 (.sq (A.ep 2 0 0) (.s [bx (av d),bx [(iA 3),(iA 0),se,XL],aO.row true 1 [[(pt 0 0)],[(pt 0 1)],[(pt 0 2)],[(pt 0 3)],[(pt 0 4)],[(pt 0 0)],[(pt 0 5)],[(pt 0 6)],[(pt 0 7)]]] (.s (pt 0 0) (.s2 (iA d.kind) (.st (bc ..) (.bX ?_ ?_)))))))))))))
 ·refine .s (bW 2 0 5 false) (.cr (.ok (.s (iA 5) (.as (CN C n _ _ _ _ 5 d 3 0 jl ?_ _ 0 (([]:List au)))))))
  ·intro a i j k o w120 w121
   exact .un rfl (.cT r7 (.s (ag [(iA 3),(iA 0),se,(bW 3 0 a.length false)]) (.bd (g:=fun (y:((List UInt8)×Int))=>(tp [(im (y.1.map c8) false),(iA y.2)])) (by show C 81 [snap [w120,bx [(iA 3),(iA 0),se,(bW 3 0 a.length false)],w121,aO.row false 4 (a.map ax)] (ag [(iA 3),(iA 0),se,(bW 3 0 a.length false)])]=_; simp only[bR,cY,nG (H:=[w120,bx [(iA 3),(iA 0),se,(bW 3 0 a.length false)],w121,aO.row false 4 (a.map ax)]) (b:=3) (es:=4) (l:=a) cM rfl]; exact e ((au.mk 3 0 jl a))) fun f=>.s (im (f.1.map c8) false) (.s (iA f.2) (.lv so)))))
 refine .s (bW 2 5 4 true) (.cr (.ok (.s (iA 4) (.as (A7 C n _ _ _ _ 4 d 3 0 jl ?_ _ 0 (([]:List au)))))))
 ·intro c p q r t w236 w237
  exact .un rfl (.cT r7 (.s (ag [(iA 3),(iA 0),se,(bW 3 0 c.length false)]) (.bd (g:=fun (y:((List UInt8)×Int))=>(tp [(im (y.1.map c8) false),(iA y.2)])) (by show C 81 [snap [w236,bx [(iA 3),(iA 0),se,(bW 3 0 c.length false)],w237,aO.row false 4 (c.map ax)] (ag [(iA 3),(iA 0),se,(bW 3 0 c.length false)])]=_; simp only[bR,cY,nG (H:=[w236,bx [(iA 3),(iA 0),se,(bW 3 0 c.length false)],w237,aO.row false 4 (c.map ax)]) (b:=3) (es:=4) (l:=c) cM rfl]; exact e ((au.mk 3 0 jl c))) fun h=>.s (im (h.1.map c8) false) (.s (iA h.2) (.lv so)))))
def Qb (a:aU):Option (List UInt8):=P6 aE a
def HH (C:OT):Prop:=∀ (a:aU),C 54 [(ag (av a))]=(Qb a).map fun y=>(im (y.map c8) false)
def fZ (a:(List aA)) (b:aD):aO:=bx [(bW 3 0 a.length false),(im (b.Apart.map aq) false)]
def cG (a:aD):aO:=bx [(im (a.Queue.map ak) false),(im (a.Apart.map aq) false)]
def N4 (n:Nat) (a:aD) (b:aA):Option (aD×Int):=
 (IL a).bind fun c=>(bif (c != 0) then (some true) else ((Ko b).bind fun d=>some (!d))).bind fun e=>bif e then (some (((aD.mk ([]) ([])),60))) else (bif (((a.Queue.length:Int))==4096) then (some (((aD.mk ([]) ([])),2))) else ((fk a.Queue 0 ((a.Queue.length:Int))).bind fun f=>(cz 40 f ([b])).bind fun g=>some (((aD.mk g a.Apart),0))))
theorem Vt (C:OT) (n:Nat) (o:zZ C) (p:CB C) (c:aD) (d:aA):TJ C n 53 [(ag [(im (c.Queue.map ak) false),(im (c.Apart.map aq) false)]),(ag (ak d))] (N4 n c d) (fun y=>(tp [(ag [(im (y.1.Queue.map ak) false),(im (y.1.Apart.map aq) false)]),(iA y.2)])):=by
 refine .lp (Wt ..) ?_
 unfold N4
 refine .s ((pt 0 0),[(cG c)]) (.s ((pt 1 0),[(cG c),bx (ak d)]) (.s ((pt 2 0),[(cG c),bx (ak d),bx [XL,XL]]) (.s (ag [(im (c.Queue.map ak) false),(im (c.Apart.map aq) false)]) (.bd (g:=fun (y:Int)=>(iA y)) (by simp only[bR,cY]; exact o c) fun u=>.st (aG ..) (.bg (fun t (y:Bool)=>∃ i j k:A,t=[(bA y),i,j,k]) ?_ ?_)))))
 ·refine .bi ?_ ?_
  ·exact .lg ⟨_,_,_,rfl⟩
  exact .s (ag (ak d)) (.bd (g:=fun (y:Bool)=>(bA y)) (by simp only[bR,cY]; exact p d) fun q=>.s (bA (!q)) (.lg ⟨_,_,_,rfl⟩))
 rintro _ v ⟨i,j,k,rfl⟩
 refine .u4 (.bX ?_ ?_)
 ·exact .s (ag [XL,XL]) (.s [(cG c),bx (ak d),bx [XL,XL]] (.s (ag [XL,XL]) (.lv so)))
 refine .s2 (im (c.Queue.map ak) false) (.st (ef (e:=68)) (.st (bc ..) (.bX ?_ ?_)))
 ·exact .s (ag [XL,XL]) (.s [(cG c),bx (ak d),bx [XL,XL]] (.s (ag [XL,XL]) (.lv so)))
 exact .s2 (im (c.Queue.map ak) false) (.s2 (im (c.Queue.map ak) false) (.st (ef (e:=68)) (.s2 (im (c.Queue.map ak) false) (.st (ef (e:=68)) (.bd (mS (e:=68) (es:=3) (f:=ak) (l:=c.Queue) (a:=0) (b:=(c.Queue.length:Int)) r7 r7 (fun _=>rfl) (.inl ⟨rfl,rfl⟩)) fun r=>.s (ag (ak d)) (.s (im [[(iA d.From),(iA d.To),(im (d.Data.map c8) false)]] true) (.bd (g:=fun (y:List aA)=>((bW 3 0 y.length false),[(cG c),bx (ak d),bx [XL,XL],aO.row false 3 (y.map ak)])) (jk nu (l:=r) (l2:=[d]) (bC (f:=ak) ([d]:List aA) _ _)) fun h=>.s (pt 0 0) (.sh (.s (ag [(bW 3 0 h.length false),(im (c.Apart.map aq) false)]) (.s [(fZ h c),bx (ak d),(fZ h c),aO.row false 3 (h.map ak)] (.s (ag [(bW 3 0 h.length false),(im (c.Apart.map aq) false)]) (.lv (by show aS [(fZ h c),bx (ak d),(fZ h c),aO.row false 3 (h.map ak)] (tp [(ag [(bW 3 0 h.length false),(im (c.Apart.map aq) false)]),(iA 0)])=_; first | (simp only[bR,cY,aS,bI (H:=[(fZ h c),bx (ak d),(fZ h c),aO.row false 3 (h.map ak)]) (b:=3) (es:=3) (wr:=false) (l:=h) bZ rfl]; done) | (simp only[bR,e9,aS,bI (H:=[(fZ h c),bx (ak d),(fZ h c),aO.row false 3 (h.map ak)]) (b:=3) (es:=3) (wr:=false) (l:=h) bZ rfl]; first | done | rfl))))))))))))))
def Kl (a:aD) (b:aA):Option (aD×Int):=N4 aE a b
def Cq (C:OT):Prop:=∀ (a:aD) (b:aA),C 53 [(ag [(im (a.Queue.map ak) false),(im (a.Apart.map aq) false)]),(ag (ak b))]=(Kl a b).map fun y=>(tp [(ag [(im (y.1.Queue.map ak) false),(im (y.1.Apart.map aq) false)]),(iA y.2)])
abbrev p8:A:=(ag [XL,XL,XL,(iA 0)])
def P4 (n:Nat) (a:aw) (b:aR):Option (aw×Int):=
 (EV a).bind fun d=>bif (d != 0) then (some (((aw.mk ((aD.mk ([]) ([]))) ([]) 0),d))) else ((IK b ((a.Ears.length:Int))).bind fun e=>bif (!e) then (some (((aw.mk ((aD.mk ([]) ([]))) ([]) 0),1))) else ((Qb ((aU.mk 1 b ((bh.mk 0 0 0))))).bind fun f=>(Kl a.Net ((aA.mk 0 (wr .i64 (b.Role+1)) f))).bind fun c=>bif (c.2 != 0) then (some (((aw.mk ((aD.mk ([]) ([]))) ([]) 0),c.2))) else (some (((aw.mk c.1 a.Ears a.Bar),0)))))
theorem U9 (C:OT) (n:Nat) (f:tU C) (h:tV C) (i:Cq C) (j:HH C) (a:aw) (c:aR):TJ C n 19 [(ag (al a)),(ag (ay c))] (P4 n a c) (fun y=>(tp [(ag (al y.1)),(iA y.2)])):=by
 refine .lp (V8 ..) ?_
 unfold P4
 refine .s ((pt 0 0),[bx (al a)]) (.sq (pt 1 0) (.s ((pt 2 0),[bx (al a),bx (ay c),bx [XL,XL,XL,(iA 0)]]) (.s (ag (al a)) (.bd (g:=fun (y:Int)=>(iA y)) (by simp only[bR,cY]; exact f a) fun l=>.st (aG ..) (.bX ?_ ?_)))))
 ·exact .s p8 (.s [bx (al a),bx (ay c),bx [XL,XL,XL,(iA 0)]] (.s p8 (.lv so)))
 refine .s (ag (ay c)) (.s2 (im (a.Ears.map az) false) (.st (ef (e:=50)) (.bd (h c ((a.Ears.length:Int))) fun k=>.s (bA (!k)) (.bX ?_ ?_))))
 ·exact .s p8 (.s [bx (al a),bx (ay c),bx [XL,XL,XL,(iA 0)]] (.s p8 (.lv so)))
 refine .s (pt 0 0) (.s (ag [(im (a.Net.Queue.map ak) false),(im (a.Net.Apart.map aq) false)]) (.s (pt 1 1) (.s (iA c.Role) (.st (aJ ..) (.s (ag (ay c)) (.s (ag ([(iA 1)]++ay c++[(iA 0),(iA 0),(iA 0)])) (.bd (j ((aU.mk 1 c ((bh.mk 0 0 0))))) fun d=>.s (ag [(iA 0),(iA (wr .i64 (c.Role+1))),(im (d.map c8) false)]) (.bd (g:=fun (y:(aD×Int))=>(tp [(ag [(im (y.1.Queue.map ak) false),(im (y.1.Apart.map aq) false)]),(iA y.2)])) (by simp only[bR,cY]; exact i a.Net ((aA.mk 0 (wr .i64 (c.Role+1)) d))) fun b=>.s (ag [(im (b.1.Queue.map ak) false),(im (b.1.Apart.map aq) false)]) (.s (iA b.2) (.cT r7 (.sq (pt 3 0) (.s [bx (al a),bx (ay c),bx [XL,XL,XL,(iA 0)],bx [(im (b.1.Queue.map ak) false),(im (b.1.Apart.map aq) false)]] (.st (aG ..) (.bX ?_ ?_))))))))))))))
 ·exact .s p8 (.s [bx (al a),bx (ay c),bx [XL,XL,XL,(iA 0)],bx [(im (b.1.Queue.map ak) false),(im (b.1.Apart.map aq) false)]] (.s p8 (.lv so)))
 exact .s (ag [(im (b.1.Queue.map ak) false),(im (b.1.Apart.map aq) false)]) (.s (pt 0 0) (.sh (.s (ag [(im (b.1.Queue.map ak) false),(im (b.1.Apart.map aq) false),(im (a.Ears.map az) false),(iA a.Bar)]) (.s [bx [(im (b.1.Queue.map ak) false),(im (b.1.Apart.map aq) false),(im (a.Ears.map az) false),(iA a.Bar)],bx (ay c),bx [(im (b.1.Queue.map ak) false),(im (b.1.Apart.map aq) false),(im (a.Ears.map az) false),(iA a.Bar)],bx [(im (b.1.Queue.map ak) false),(im (b.1.Apart.map aq) false)]] (.s (ag [(im (b.1.Queue.map ak) false),(im (b.1.Apart.map aq) false),(im (a.Ears.map az) false),(iA a.Bar)]) (.lv so))))))
def Kg (a:aw) (b:aR):Option (aw×Int):=P4 aE a b
def Hw (C:OT):Prop:=∀ (a:aw) (b:aR),C 19 [(ag (al a)),(ag (ay b))]=(Kg a b).map fun y=>(tp [(ag (al y.1)),(iA y.2)])
def Uj:List ((aw×Int)×(aw×Int)):=[((⟨⟨[],[]⟩,[⟨[],[],[]⟩,⟨[],[],[]⟩],0⟩,0),(⟨⟨[],[]⟩,[],0⟩,1)),
 ((⟨⟨[⟨2,0,[3,4,1,4,1,2,1,0,1,0]⟩],[]⟩,[⟨[],[3],[3]⟩,⟨[],[0],[0]⟩],1⟩,0),(⟨⟨[⟨2,0,[3,4,1,4,1,2,1,0,1,0]⟩,⟨1,0,[3,4,1,4,1,0,1,0,1,6]⟩],[]⟩,[⟨[],[3],[3]⟩,⟨[],[0],[0]⟩],1⟩,0))]
def G9 (a:aw) (b:Int):Option (aw×Int):=EK Uj (a,b)
def K8 (C:OT):Prop:=∀ (a:aw) (b:Int),C 9 [(ag (al a)),(iA b)]=(G9 a b).map fun y=>(tp [(ag (al y.1)),(iA y.2)])
def Ui:List ((aw×(List Int)×(List Int))×(aw×Int)):=[((⟨⟨[],[]⟩,[⟨[],[],[]⟩,⟨[],[],[]⟩],0⟩,[],[0,2]),(⟨⟨[],[]⟩,[],0⟩,1)),
 ((⟨⟨[⟨0,2,[3,5,1,2,1,12,1,2,1,0,1,6]⟩],[]⟩,[⟨[⟨5,0,0,3⟩],[],[]⟩,⟨[],[],[]⟩],0⟩,[],[0,1]),(⟨⟨[⟨0,2,[3,5,1,2,1,12,1,2,1,0,1,6]⟩,⟨1,0,[3,4,1,4,1,0,1,0,1,6]⟩,⟨2,0,[3,4,1,4,1,2,1,0,1,0]⟩],[]⟩,[⟨[],[3],[3]⟩,⟨[],[0],[0]⟩],1⟩,0)),
 ((⟨⟨[⟨0,2,[3,5,1,2,1,12,1,2,1,0,1,6]⟩],[]⟩,[⟨[⟨5,0,0,3⟩],[],[]⟩,⟨[],[],[]⟩],0⟩,[],[0,0]),(⟨⟨[⟨0,2,[3,5,1,2,1,12,1,2,1,0,1,6]⟩,⟨1,0,[3,4,1,4,1,0,1,0,1,0]⟩,⟨2,0,[3,4,1,4,1,2,1,0,1,0]⟩],[]⟩,[⟨[],[3],[0]⟩,⟨[],[0],[0]⟩],1⟩,0)),
 ((⟨⟨[⟨0,2,[3,5,1,2,1,12,1,2,1,0,1,6]⟩],[]⟩,[⟨[⟨5,0,0,3⟩],[],[]⟩,⟨[],[],[]⟩],0⟩,[0],[0,1]),(⟨⟨[⟨0,2,[3,5,1,2,1,12,1,2,1,0,1,6]⟩,⟨1,0,[3,4,1,4,1,0,1,0,1,0]⟩,⟨2,0,[3,4,1,4,1,2,1,0,1,0]⟩],[]⟩,[⟨[],[0],[0]⟩,⟨[],[0],[0]⟩],1⟩,0))]
def G7 (a:aw) (b:(List Int)) (a2:(List Int)):Option (aw×Int):=EK Ui (a,b,a2)
def K7 (C:OT):Prop:=∀ (a:aw) (b:(List Int)) (a2:(List Int)),C 7 [(ag (al a)),(im (b.map (cI .i64)) false),(im (a2.map (cI .i64)) false)]=(G7 a b a2).map fun y=>(tp [(ag (al y.1)),(iA y.2)])
def Oe (n:Nat) (a:aD) (b:Int):Option (aA×Int):=
 (IL a).bind fun c=>bif (c != 0) then (some (((aA.mk 0 0 ([])),60))) else ((bif (decide (b<0)) then (some true) else (some (decide (((a.Queue.length:Int))<=b)))).bind fun d=>bif d then (some (((aA.mk 0 0 ([])),1))) else ((bL a.Queue b).bind fun e=>some ((e,0))))
theorem VE (C:OT) (n:Nat) (k:zZ C) (a:aD) (c:Int):TJ C n 68 [(ag [(im (a.Queue.map ak) false),(im (a.Apart.map aq) false)]),(iA c)] (Oe n a c) (fun y=>(tp [(ag (ak y.1)),(iA y.2)])):=by
 refine .lp (WE ..) ?_
 unfold Oe
 refine .s ((pt 0 0),[(cG a)]) (.s ((pt 1 0),[(cG a),bx [(iA 0),(iA 0),XL]]) (.s (ag [(im (a.Queue.map ak) false),(im (a.Apart.map aq) false)]) (.bd (g:=fun (y:Int)=>(iA y)) (by simp only[bR,cY]; exact k a) fun l=>.st (aG ..) (.bX ?_ ?_))))
 ·exact .s (ag [(iA 0),(iA 0),XL]) (.s [(cG a),bx [(iA 0),(iA 0),XL]] (.s (ag [(iA 0),(iA 0),XL]) (.lv so)))
 refine .st (aY ..) (.bg (fun t (y:Bool)=>∃ d f h i j:A,t=[(bA y),d,f,h,i,j]) ?_ ?_)
 ·refine .bi ?_ ?_
  ·exact .lg ⟨_,_,_,_,_,rfl⟩
  exact .s (pt 0 0) (.s (im (a.Queue.map ak) false) (.st (ef (e:=68)) (.st (c9 ..) (.lg ⟨_,_,_,_,_,rfl⟩))))
 rintro _ o ⟨d,f,h,i,j,rfl⟩
 refine .u4 (.uc (.uc (.bX ?_ ?_)))
 ·exact .s (ag [(iA 0),(iA 0),XL]) (.s [(cG a),bx [(iA 0),(iA 0),XL]] (.s (ag [(iA 0),(iA 0),XL]) (.lv so)))
 exact .s2 (im (a.Queue.map ak) false) (.bd (eP (e:=68) (es:=3)) fun b=>.s (ag (ak b)) (.s [(cG a),bx (ak b)] (.s (ag (ak b)) (.lv so))))
def IP (a:aD) (b:Int):Option (aA×Int):=Oe aE a b
def z8 (C:OT):Prop:=∀ (a:aD) (b:Int),C 68 [(ag [(im (a.Queue.map ak) false),(im (a.Apart.map aq) false)]),(iA b)]=(IP a b).map fun y=>(tp [(ag (ak y.1)),(iA y.2)])
def jJ (n:Nat) (b:(List (Int×Int))) (c:Int) (d:Int) (e:Int):Nat->Int->Option ((Int)⊕(Unit))
 | 0,_=>none
 | m+1,a=>bif (decide (a<c)) then ((bL b a).bind fun f=>bif (((d==f.1)&&(e==f.2))) then (some ((Sum.inl a))) else (jJ n b c d e m (wr .i64 (a+1)))) else (some ((Sum.inr (()))))
theorem CZ {w33:A} (j:(List (Int×Int))) (k:Int) (a:Int) (b:Int) {K:((Int)⊕(Unit))->Option γ} (o:∀ (l:Int) (d:A) (f:A) (g:A) (h:A) (q0:aO),J φ (kr (St.mk [(0,d),(3,f),(4,(iA l)),(7,g),(8,h)] [q0])) kL (K (Sum.inl l)) some) (p:∀ (d:A) (f:A) (q:A) (g:A) (h:A) (q0:aO),J φ (kx 0 (St.mk [(0,d),(3,f),(4,q),(7,g),(8,h)] [q0])) kL (K (Sum.inr (()))) some) :
  ∀ (m:Nat) (i:Int),J φ (aN (cx C) (ec C n 8) (ey C n 8) (n+8) 91 0 0 1 kx kg kr kp m (St.mk [(0,(im (j.map aq) false)),(3,(pt 0 0)),(4,w33),(7,(iA k)),(8,(iA i))] [bx [(iA a),(iA b)]])) kL (jJ n j k a b m i) K:=by
  refine nI (fun _=>.nn) fun m ih i=>.lp (LM ..) ?_
  unfold jJ
  refine .st (aY ..) (.bX ?_ ?_)
  ·refine .s (ag [(iA a),(iA b)]) (.bd (eP (e:=99) (es:=2)) fun c=>.s (ag [(iA c.1),(iA c.2)]) (.s (bA (((a==c.1)&&(b==c.2)))) (.bX ?_ ?_)))
   ·exact .ex (o _ _ _ _ _ _)
   refine .st (aJ ..) (.s [bx [(iA a),(iA b)]] (.cT r7 ?_))
   exact ih _
  exact .ex (p _ _ _ _ _ _)
def Ow (n:Nat) (a:(List (Int×Int))) (b:(Int×Int)):Option Int:=
 (jJ n a ((a.length:Int)) b.1 b.2 (n+8) 0).bind fun c=>match c with | (Sum.inl d)=>some d | (Sum.inr _)=>some (-1)
theorem VV (C:OT) (n:Nat) (b:(List (Int×Int))) (a:(Int×Int)):TJ C n 91 [(im (b.map aq) false),(ag [(iA a.1),(iA a.2)])] (Ow n b a) (fun y=>(iA y)):=by
 refine .lp (WY ..) ?_
 unfold Ow
 refine .s ((pt 0 0),[bx [(iA a.1),(iA a.2)]]) (.st (ef (e:=99)) (.as (CZ C n _ _ _ _ b ((b.length:Int)) a.1 a.2 ?_ ?_ _ 0)))
 ·intro c d f g h w48
  exact .un rfl (.lv rfl)
 ·intro i j k l o w54
  exact .un rfl (.cT r7 (.lv rfl))
def Oz (a:(List (Int×Int))) (b:(Int×Int)):Option Int:=Ow aE a b
def HN (C:OT):Prop:=∀ (b:(List (Int×Int))) (a:(Int×Int)),C 91 [(im (b.map aq) false),(ag [(iA a.1),(iA a.2)])]=(Oz b a).map fun y=>(iA y)
def Og (n:Nat) (a:(List (Int×Int))) (b:(Int×Int)):Option Bool:=
 (Oz a b).bind fun c=>some (decide (0<=c))
theorem VF (C:OT) (n:Nat) (c:HN C) (b:(List (Int×Int))) (a:(Int×Int)):TJ C n 69 [(im (b.map aq) false),(ag [(iA a.1),(iA a.2)])] (Og n b a) (fun y=>(bA y)):=by
 refine .lp (WG ..) ?_
 unfold Og
 exact .s ((pt 0 0),[bx [(iA a.1),(iA a.2)]]) (.s (ag [(iA a.1),(iA a.2)]) (.bd (g:=fun (y:Int)=>(iA y)) (by simp only[bR,cY]; exact c b a) fun d=>.st (c9 ..) (.lv rfl)))
def KY (a:(List (Int×Int))) (b:(Int×Int)):Option Bool:=Og aE a b
def HJ (C:OT):Prop:=∀ (b:(List (Int×Int))) (a:(Int×Int)),C 69 [(im (b.map aq) false),(ag [(iA a.1),(iA a.2)])]=(KY b a).map fun y=>(bA y)
def gb (a:(List aA)) (b:aD):aO:=bx [(bW 2 0 a.length false),(im (b.Apart.map aq) false)]
def Oh (n:Nat) (a:aD) (b:Int):Option aD:=
 (fk a.Queue 0 b).bind fun c=>(fk a.Queue (wr .i64 (b+1)) ((a.Queue.length:Int))).bind fun d=>(cz 40 c d).bind fun e=>some ((aD.mk e a.Apart))
theorem VH (C:OT) (n:Nat) (c:aD) (h:Int):TJ C n 71 [(ag [(im (c.Queue.map ak) false),(im (c.Apart.map aq) false)]),(iA h)] (Oh n c h) (fun y=>(ag [(im (y.Queue.map ak) false),(im (y.Apart.map aq) false)])):=by
 refine .lp (WI ..) ?_
 unfold Oh
 exact .sq (pt 0 0) (.s ((pt 1 0),[bx [(im (c.Queue.map ak) false),(im (c.Apart.map aq) false)],bx [XL,XL]]) (.s2 (im (c.Queue.map ak) false) (.bd (mS (e:=68) (es:=3) (f:=ak) (l:=c.Queue) (a:=0) (b:=h) r7 r7 (fun _=>rfl) (.inl ⟨rfl,rfl⟩)) fun i=>.s2 (im (c.Queue.map ak) false) (.st (aJ ..) (.bd (gY (e:=68) (es:=3) (f:=ak) (l:=c.Queue) (a:=wr .i64 (h+1)) (b:=(c.Queue.length:Int)) r7 r7 (fun _=>rfl) (.inr ⟨_,rfl⟩) (.inl ⟨rfl,rfl⟩)) fun j=>.bd (g:=fun (y:List aA)=>((bW 2 0 y.length false),[bx [(im (c.Queue.map ak) false),(im (c.Apart.map aq) false)],bx [XL,XL],aO.row false 3 (y.map ak)])) (jk nu (l:=i) (l2:=j) (bC ..)) fun d=>.s (pt 0 0) (.sh (.s (ag [(bW 2 0 d.length false),(im (c.Apart.map aq) false)]) (.s [(gb d c),(gb d c),aO.row false 3 (d.map ak)] (.s (ag [(bW 2 0 d.length false),(im (c.Apart.map aq) false)]) (.lv (by show aS [(gb d c),(gb d c),aO.row false 3 (d.map ak)] (ag [(bW 2 0 d.length false),(im (c.Apart.map aq) false)])=_; first | (simp only[bR,cY,aS,bI (H:=[(gb d c),(gb d c),aO.row false 3 (d.map ak)]) (b:=2) (es:=3) (wr:=false) (l:=d) bZ rfl]; done) | (simp only[bR,e9,aS,bI (H:=[(gb d c),(gb d c),aO.row false 3 (d.map ak)]) (b:=2) (es:=3) (wr:=false) (l:=d) bZ rfl]; first | done | rfl))))))))))))
def IQ (a:aD) (b:Int):Option aD:=Oh aE a b
def Cy (C:OT):Prop:=∀ (a:aD) (b:Int),C 71 [(ag [(im (a.Queue.map ak) false),(im (a.Apart.map aq) false)]),(iA b)]=(IQ a b).map fun y=>(ag [(im (y.Queue.map ak) false),(im (y.Apart.map aq) false)])
def NS (n:Nat) (b:aD) (c:Int):Option (aA×aD×Int):=
 (IP b c).bind fun a=>bif (a.2 != 0) then (some ((a.1,(aD.mk ([]) ([])),a.2))) else ((KZ a.1.From a.1.To).bind fun d=>(KY b.Apart d).bind fun e=>bif e then ((IQ b c).bind fun f=>some (((aA.mk 0 0 ([])),f,0))) else ((IQ b c).bind fun g=>some ((a.1,g,0))))
theorem Vg (C:OT) (n:Nat) (h:z8 C) (i:HJ C) (j:Cw C) (f:Cy C) (a:aD) (c:Int):TJ C n 36 [(ag [(im (a.Queue.map ak) false),(im (a.Apart.map aq) false)]),(iA c)] (NS n a c) (fun y=>(tp [(ag (ak y.1)),(ag [(im (y.2.1.Queue.map ak) false),(im (y.2.1.Apart.map aq) false)]),(iA y.2.2)])):=by
 refine .lp (Wf ..) ?_
 unfold NS
 refine .s ((pt 0 0),[(cG a)]) (.sq (pt 1 0) (.s ((pt 2 0),[(cG a),bx [(iA 0),(iA 0),XL],bx [XL,XL]]) (.s (ag [(im (a.Queue.map ak) false),(im (a.Apart.map aq) false)]) (.bd (g:=fun (y:(aA×Int))=>(tp [(ag (ak y.1)),(iA y.2)])) (by simp only[bR,cY]; exact h a c) fun b=>.s (ag (ak b.1)) (.s (iA b.2) (.s [(cG a),bx (ak b.1),bx [XL,XL]] (.st (aG ..) (.bX ?_ ?_))))))))
 ·exact .s (ag (ak b.1)) (.s (ag [XL,XL]) (.cT r7 (.sh (.s [(cG a),bx (ak b.1),bx [XL,XL]] (.s (ag (ak b.1)) (.s (ag [XL,XL]) (.lv so)))))))
 refine .s2 (im (a.Apart.map aq) false) (.s2 (iA b.1.From) (.s2 (iA b.1.To) (.bd (j b.1.From b.1.To) fun k=>.bd (g:=fun (y:Bool)=>(bA y)) (by simp only[bR,cY]; exact i a.Apart k) fun l=>.bX ?_ ?_)))
 ·exact .s (ag [(iA 0),(iA 0),XL]) (.s [(cG a),bx [(iA 0),(iA 0),XL],bx [XL,XL]] (.s (ag [(iA 0),(iA 0),XL]) (.s (ag [(im (a.Queue.map ak) false),(im (a.Apart.map aq) false)]) (.bd (g:=fun (y:aD)=>(ag [(im (y.Queue.map ak) false),(im (y.Apart.map aq) false)])) (by simp only[bR,cY]; exact f a c) fun d=>.sh (.s [(cG a),bx [(iA 0),(iA 0),XL],bx [(im (d.Queue.map ak) false),(im (d.Apart.map aq) false)]] (.s (ag [(iA 0),(iA 0),XL]) (.s (ag [(im (d.Queue.map ak) false),(im (d.Apart.map aq) false)]) (.lv so))))))))
 exact .s (ag (ak b.1)) (.s (ag [(im (a.Queue.map ak) false),(im (a.Apart.map aq) false)]) (.bd (g:=fun (y:aD)=>(ag [(im (y.Queue.map ak) false),(im (y.Apart.map aq) false)])) (by simp only[bR,cY]; exact f a c) fun e=>.sh (.s [(cG a),bx (ak b.1),bx [(im (e.Queue.map ak) false),(im (e.Apart.map aq) false)]] (.s (ag (ak b.1)) (.s (ag [(im (e.Queue.map ak) false),(im (e.Apart.map aq) false)]) (.lv so))))))
def KM (a:aD) (b:Int):Option (aA×aD×Int):=NS aE a b
def Hz (C:OT):Prop:=∀ (a:aD) (b:Int),C 36 [(ag [(im (a.Queue.map ak) false),(im (a.Apart.map aq) false)]),(iA b)]=(KM a b).map fun y=>(tp [(ag (ak y.1)),(ag [(im (y.2.1.Queue.map ak) false),(im (y.2.1.Apart.map aq) false)]),(iA y.2.2)])
def NU (n:Nat) (a:aR) (b:Int):Option Int:=
 some (wr .i64 (a.Bar - b))
theorem Vi (C:OT) (n:Nat) (a:aR) (b:Int):TJ C n 39 [(ag (ay a)),(iA b)] (NU n a b) (fun y=>(iA y)):=by
 refine .lp (Wi ..) ?_
 unfold NU
 exact .s ((pt 0 0),[bx (ay a)]) (.s2 (iA a.Bar) (.st (dy ..) (.lv rfl)))
def Ki (a:aR) (b:Int):Option Int:=NU aE a b
def Cm (C:OT):Prop:=∀ (a:aR) (b:Int),C 39 [(ag (ay a)),(iA b)]=(Ki a b).map fun y=>(iA y)
def fC (n:Nat) (c:(List aR)) (d:Int):Nat->Int->Int->Option (Int)
 | 0,_,_=>none
 | m+1,a,b=>bif (decide (a<b)) then ((bL c (wr .i64 (jB .u64 (wr .u64 (wr .i64 (a+b))) 1))).bind fun e=>(Ki e d).bind fun f=>bif (decide (f<0)) then (fC n c d m (wr .i64 ((wr .i64 (jB .u64 (wr .u64 (wr .i64 (a+b))) 1))+1)) b) else (fC n c d m a (wr .i64 (jB .u64 (wr .u64 (wr .i64 (a+b))) 1)))) else (some a)
theorem wL (i:Cm C) {w45 w46 w47:A} (d:(List aR)) (c:Int) {K:(Int)->Option γ} (j:∀ (f:Int) (k:A) (l:A) (o:A),J φ (kx 0 (St.mk [(0,(im (d.map ay) false)),(1,(iA c)),(2,(tz 39 [] [])),(6,k),(7,l),(8,w47),(9,(iA f)),(10,o)] [])) kL (K f) some) :
  ∀ (m:Nat) (a:Int) (b:Int),J φ (aN (cx C) (ec C n 8) (ey C n 8) (n+8) 38 0 0 0 kx kg kr kp m (St.mk [(0,(im (d.map ay) false)),(1,(iA c)),(2,(tz 39 [] [])),(6,w45),(7,w46),(8,w47),(9,(iA a)),(10,(iA b))] [])) kL (fC n d c m a b) K:=by
  refine nI (fun _ _=>.nn) fun m ih a b=>.lp (Ly ..) ?_
  unfold fC
  refine .st (aY ..) (.bX ?_ ?_)
  ·refine .st (aJ ..) (.st (v:=(A.v (.int .u64 (wr .u64 (wr .i64 (a+b)))))) (aQ (hs:=by kernel_rfl) (hd:=by kernel_rfl) ..) (.st (jM (hb:=by decide) ..) (.st (v:=(iA (wr .i64 (jB .u64 (wr .u64 (wr .i64 (a+b))) 1)))) (aQ (hs:=by kernel_rfl) (hd:=by kernel_rfl) ..) (.bd (eP (e:=46) (es:=4)) fun h=>.s (ag (ay h)) (.dO r7 r7 (.bd (g:=fun (y:Int)=>(iA y)) (by simp only[YR,Yz,YN,bR,cY]; exact(i h c)) fun p=>.st (aY ..) (.bX ?_ ?_)))))))
   ·refine .st (aJ ..) (.s [] (.cT r7 ?_))
    exact ih _ _
   refine .s [] (.cT r7 ?_)
   exact ih _ _
  exact .ex (j _ _ _ _)
def uT (n:Nat) (a:(List aR)) (c:Int):Option (Int×Bool):=
 (fC n a c (n+8) 0 ((a.length:Int))).bind fun OL=>match OL with | b=>(bif (decide (b<((a.length:Int)))) then ((bL a b).bind fun d=>(Ki d c).bind fun e=>some (e==0)) else (some false)).bind fun f=>some ((b,f))
theorem IW (C:OT) (n:Nat) (c:Cm C) (a:(List aR)) (b:Int):TJ C n 38 [(im (a.map ay) false),(iA b),(tz 39 [] [])] (uT n a b) (fun y=>(tp [(iA y.1),(bA y.2)])):=by
 refine .lp (Wh ..) ?_
 unfold uT
 refine .st (ef (e:=46)) (.as (wL C n _ _ _ _ c a b ?_ _ 0 ((a.length:Int))))
 ·intro q r u v
  refine .un rfl (.cT r7 (.st (aY ..) (.bg (fun t (y:Bool)=>∃ d f h i j k l o:A,t=[(bA y),d,f,h,i,j,k,l,o]) ?_ ?_)))
  ·refine .bi ?_ ?_
   ·exact .bd (eP (e:=46) (es:=4)) fun p=>.s (ag (ay p)) (.vO r7 r7 (.bd (g:=fun (y:Int)=>(iA y)) (by simp only[YR,Yz,YN,bR,cY]; exact(c p b)) fun w=>.st (bc ..) (.lg ⟨_,_,_,_,_,_,_,_,rfl⟩)))
   exact .lg ⟨_,_,_,_,_,_,_,_,rfl⟩
  rintro _ x ⟨d,f,h,i,j,k,l,o,rfl⟩
  exact .u4 (.u4 (.uc (.lv rfl)))
def qX (a:(List aR)) (b:Int):Option (Int×Bool):=uT aE a b
def wA (C:OT):Prop:=∀ (a:(List aR)) (b:Int),C 38 [(im (a.map ay) false),(iA b),(tz 39 [] [])]=(qX a b).map fun y=>(tp [(iA y.1),(bA y.2)])
def bT (a:(aA×aD×Int)):aO:=bx [(im (a.2.1.Queue.map ak) false),(im (a.2.1.Apart.map aq) false)]
def dI (a:(aA×aD×Int)) (b:aw):aO:=bx [(im (a.2.1.Queue.map ak) false),(im (a.2.1.Apart.map aq) false),(im (b.Ears.map az) false),(iA b.Bar)]
def eV (a:(aA×aD×Int)) (b:(List bj)) (c:aw):aO:=bx [(im (a.2.1.Queue.map ak) false),(im (a.2.1.Apart.map aq) false),(bW 8 0 b.length false),(iA c.Bar)]
def ku (a:(aA×aD×Int)) (b:(List bj)) (c:aw):aO:=bx [(im (a.2.1.Queue.map ak) false),(im (a.2.1.Apart.map aq) false),(bW 7 0 b.length false),(iA c.Bar)]
def NG (n:Nat) (a:aw) (k:Int):Option (aw×bh×Bool×Int):=
 (EV a).bind fun j=>bif (j != 0) then (some (((aw.mk ((aD.mk ([]) ([]))) ([]) 0),(bh.mk 0 0 0),false,j))) else ((KM a.Net k).bind fun c=>bif (c.2.2 != 0) then (some (((aw.mk ((aD.mk ([]) ([]))) ([]) 0),(bh.mk 0 0 0),false,c.2.2))) else ((Kh c.1.Data).bind fun b=>(bif b.2 then (some (b.1.kind==2)) else (some false)).bind fun l=>bif l then (some (((aw.mk c.2.1 a.Ears a.Bar),b.1.report,true,0))) else ((bif b.2 then (some (decide (a.Bar<=b.1.cue.Bar))) else (some false)).bind fun o=>bif o then ((bL a.Ears b.1.cue.Role).bind fun d=>(qX d.Cues b.1.cue.Bar).bind fun e=>bif (!e.2) then ((cz 32 ([]) d.Cues).bind fun p=>(DG p e.1 b.1.cue).bind fun q=>(cz 72 ([]) a.Ears).bind fun f=>(l0 f.length b.1.cue.Role).bind fun k28=>(oz f k28 (fun (y:bj)=>(bj.mk q y.Got y.Did))).bind fun r=>some (((aw.mk c.2.1 ((List.take f.length (List.drop 0 r))) a.Bar),(bh.mk 0 0 0),false,0))) else ((bL d.Cues e.1).bind fun s=>bif (decide (s.No<b.1.cue.No)) then ((cz 32 ([]) d.Cues).bind fun g=>(l0 g.length e.1).bind fun k34=>(oz g k34 (fun (y:aR)=>b.1.cue)).bind fun t=>(cz 72 ([]) a.Ears).bind fun h=>(l0 h.length b.1.cue.Role).bind fun k38=>(oz h k38 (fun (y:bj)=>(bj.mk ((List.take g.length (List.drop 0 t))) y.Got y.Did))).bind fun u=>some (((aw.mk c.2.1 ((List.take h.length (List.drop 0 u))) a.Bar),(bh.mk 0 0 0),false,0))) else ((cz 72 ([]) a.Ears).bind fun i=>(l0 i.length b.1.cue.Role).bind fun k42=>(oz i k42 (fun (y:bj)=>(bj.mk d.Cues y.Got y.Did))).bind fun v=>some (((aw.mk c.2.1 ((List.take i.length (List.drop 0 v))) a.Bar),(bh.mk 0 0 0),false,0))))) else (some (((aw.mk c.2.1 a.Ears a.Bar),(bh.mk 0 0 0),false,0))))))
theorem U2 (C:OT) (n:Nat) (af:tU C) (ah:Hz C) (ai:zY C) (h38_39:wA C) (c:aw) (a1:Int):TJ C n 12 [(ag (al c)),(iA a1)] (NG n c a1) (fun y=>(tp [(ag (al y.1)),(ag (aB y.2.1)),(bA y.2.2.1),(iA y.2.2.2)])):=by
 refine .lp (V1 ..) ?_
 unfold NG
 refine .s ((pt 0 0),[bx (al c)]) (.sq (pt 1 0) (.s ((pt 2 0),[bx (al c),bx [XL,XL,XL,(iA 0)],bx [(iA 0),(iA 0),(iA 0)]]) (.s (ag (al c)) (.bd (g:=fun (y:Int)=>(iA y)) (by simp only[bR,cY]; exact af c) fun y1=>.st (aG ..) (.bX ?_ ?_)))))
 ·exact .s (ag [XL,XL,XL,(iA 0)]) (.s (ag [(iA 0),(iA 0),(iA 0)]) (.cT r7 (.sh (.s [bx (al c),bx [XL,XL,XL,(iA 0)],bx [(iA 0),(iA 0),(iA 0)]] (.s (ag [XL,XL,XL,(iA 0)]) (.s (ag [(iA 0),(iA 0),(iA 0)]) (.lv so)))))))
 refine .s2 (ag [(im (c.Net.Queue.map ak) false),(im (c.Net.Apart.map aq) false)]) (.bd (g:=fun (y:(aA×aD×Int))=>(tp [(ag (ak y.1)),(ag [(im (y.2.1.Queue.map ak) false),(im (y.2.1.Apart.map aq) false)]),(iA y.2.2)])) (by simp only[bR,cY]; exact ah c.Net a1) fun a=>.s (ag (ak a.1)) (.s (ag [(im (a.2.1.Queue.map ak) false),(im (a.2.1.Apart.map aq) false)]) (.s (iA a.2.2) (.sq (pt 3 0) (.sq (pt 4 0) (.sh (.s [bx (al c),bx [XL,XL,XL,(iA 0)],bx [(iA 0),(iA 0),(iA 0)],bx (ak a.1),(bT a)] (.st (aG ..) (.bX ?_ ?_)))))))))
 ·exact .s (ag [XL,XL,XL,(iA 0)]) (.s (ag [(iA 0),(iA 0),(iA 0)]) (.cT r7 (.sh (.s [bx (al c),bx [XL,XL,XL,(iA 0)],bx [(iA 0),(iA 0),(iA 0)],bx (ak a.1),(bT a)] (.s (ag [XL,XL,XL,(iA 0)]) (.s (ag [(iA 0),(iA 0),(iA 0)]) (.lv so)))))))
 refine .s (ag [(im (a.2.1.Queue.map ak) false),(im (a.2.1.Apart.map aq) false)]) (.s (pt 0 0) (.s [(dI a c),bx [XL,XL,XL,(iA 0)],bx [(iA 0),(iA 0),(iA 0)],bx (ak a.1),(bT a)] (.s2 (im (a.1.Data.map c8) false) (.bd (g:=fun (y:(aU×Bool))=>(tp [(ag (av y.1)),(bA y.2)])) (by simp only[bR,cY]; exact ai a.1.Data) fun d=>.s (ag (av d.1)) (.s (bA d.2) (.sq (pt 5 0) (.s [(dI a c),bx [XL,XL,XL,(iA 0)],bx [(iA 0),(iA 0),(iA 0)],bx (ak a.1),(bT a),bx (av d.1)] (.bg (fun t (y:Bool)=>∃ j8 j9 a8:A,t=[(bA y),j8,j9,a8]) ?_ ?_))))))))
 ·refine .bi ?_ ?_
  ·exact .s (pt 5 0) (.s (iA d.1.kind) (.st (bc ..) (.lg ⟨_,_,_,rfl⟩)))
  exact .lg ⟨_,_,_,rfl⟩
 rintro _ y7 ⟨j8,j9,a8,rfl⟩
 refine .u4 (.bX ?_ ?_)
 ·exact .s (ag [(im (a.2.1.Queue.map ak) false),(im (a.2.1.Apart.map aq) false),(im (c.Ears.map az) false),(iA c.Bar)]) (.s (pt 5 5) (.s (ag (aB d.1.report)) (.cT r7 (.sh (.s [(dI a c),(dI a c),bx (aB d.1.report),bx (ak a.1),(bT a),bx (av d.1)] (.s (ag [(im (a.2.1.Queue.map ak) false),(im (a.2.1.Apart.map aq) false),(im (c.Ears.map az) false),(iA c.Bar)]) (.s (ag (aB d.1.report)) (.lv so))))))))
 refine .s2 (ag (ay d.1.cue)) (.sq (pt 6 0) (.s [(dI a c),bx [XL,XL,XL,(iA 0)],bx [(iA 0),(iA 0),(iA 0)],bx (ak a.1),(bT a),bx (av d.1),bx (ay d.1.cue)] (.bg (fun t (y:Bool)=>∃ a9 aa ab ad ae:A,t=[(bA y),a9,aa,ab,ad,ae]) ?_ ?_)))
 ·refine .bi ?_ ?_
  ·exact .s (pt 6 2) (.s (iA d.1.cue.Bar) (.s (pt 0 3) (.s (iA c.Bar) (.st (c9 ..) (.lg ⟨_,_,_,_,_,rfl⟩)))))
  exact .lg ⟨_,_,_,_,_,rfl⟩
 rintro _ ap ⟨a9,aa,ab,ad,ae,rfl⟩
 refine .u4 (.uc (.uc (.bX ?_ ?_)))
 ·refine .s2 (im (c.Ears.map az) false) (.s2 (iA d.1.cue.Role) (.bd (eP (e:=50) (es:=3)) fun k=>.s2 (im (k.Cues.map ay) false) (.s2 (iA d.1.cue.Bar) (.bd (g:=fun (y:(Int×Bool))=>(tp [(iA y.1),(bA y.2)])) (by simp only[bR,cY]; exact h38_39 k.Cues d.1.cue.Bar) fun a4=>.s (iA a4.1) (.s (bA a4.2) (.s (bA (!a4.2)) (.bX ?_ ?_)))))))
  ·refine .s (ag (ay d.1.cue)) (.cT r7 (.s (im [[(iA d.1.cue.No),(iA d.1.cue.Role),(iA d.1.cue.Bar),(iA d.1.cue.Program)]] true) (.cT r7 (.cl ((bf Ir).trans (Td ..)) (.st (v:=(A.nq (k.Cues.map ay))) (sD (e:=46) r7) (.nq (f:=ay) (l:=k.Cues) (fun hn=>by rw[hn]; kernel_rfl) (.s XL (.bd (g:=fun (y:List aR)=>((bW 7 0 y.length false),[(dI a c),bx [XL,XL,XL,(iA 0)],bx [(iA 0),(iA 0),(iA 0)],bx (ak a.1),(bT a),bx (av d.1),bx (ay d.1.cue),aO.row true 4 (y.map ay)])) (lN (e:=46) (es:=4) (by_:=32) (z:=[(iA 0),(iA 0),(iA 0),(iA 0)]) r7 r7 r7 r7 rfl (by decide) (by decide) r7 (f:=ay) (fun _=>rfl) pb (l2:=k.Cues) (bC ..)) fun aj=>.cr (.ok (.is (o:=fun (y:List aR)=>(Out.ret (im (y.map ay) false),[(dI a c),bx [XL,XL,XL,(iA 0)],bx [(iA 0),(iA 0),(iA 0)],bx (ak a.1),(bT a),bx (av d.1),bx (ay d.1.cue),aO.dead])) (Jr (f:=ay) (l:=aj) (x:=d.1.cue) (b:=7) L8 r7 r7 r7 rfl (fun _=>rfl) pb rfl (by decide) rfl) fun a5=>.ok (.st (v:=((im (a5.map ay) false),[(dI a c),bx [XL,XL,XL,(iA 0)],bx [(iA 0),(iA 0),(iA 0)],bx (ak a.1),(bT a),bx (av d.1),bx (ay d.1.cue),aO.dead])) rfl (.s2 (im (c.Ears.map az) false) (.cl ((bf D4).trans (QJ ..)) (.st (v:=(A.nq (c.Ears.map az))) (sD (e:=50) r7) (.nq (f:=az) (l:=c.Ears) (fun hn=>by rw[hn]; kernel_rfl) (.s XL ?_))))))))))))))))
   exact .bd (g:=fun (y:List bj)=>((bW 8 0 y.length false),[(dI a c),bx [XL,XL,XL,(iA 0)],bx [(iA 0),(iA 0),(iA 0)],bx (ak a.1),(bT a),bx (av d.1),bx (ay d.1.cue),aO.dead,aO.row true 3 (y.map az)])) (lN (e:=50) (es:=3) (by_:=72) (z:=[XL,XL,XL]) r7 r7 r7 r7 rfl (by decide) (by decide) r7 (f:=az) (fun _=>rfl) pd (l2:=c.Ears) (bC ..)) fun h=>.cr (.ok (.s (pt 0 2) (.s [(eV a h c),bx [XL,XL,XL,(iA 0)],bx [(iA 0),(iA 0),(iA 0)],bx (ak a.1),(bT a),bx (av d.1),bx (ay d.1.cue),aO.dead,aO.row true 3 (h.map az)] (.s2 (bW 8 0 h.length false) (.s2 (iA d.1.cue.Role) (.bd (g:=fun (y:Nat)=>A.ep 8 y 0) (jF (e:=50) (es:=3) (l:=h) r7 r7 rfl) fun k28=>.s (A.ep 8 k28 0) (.bd (g:=fun (y:List bj)=>[(eV a h c),bx [XL,XL,XL,(iA 0)],bx [(iA 0),(iA 0),(iA 0)],bx (ak a.1),(bT a),bx (av d.1),bx (ay d.1.cue),aO.dead,aO.row true 3 (y.map az)]) ((jW (es:=3) (n:=1) (l:=h) (xs:=[(im (a5.map ay) false)]) (u:=fun (y:bj)=>(bj.mk a5 y.Got y.Did)) r7 r7 (by decide) rfl (fun _=>rfl) (by decide) (by decide) rfl (fun _=>rfl))) fun p=>.s (ag [(im (a.2.1.Queue.map ak) false),(im (a.2.1.Apart.map aq) false),(bW 8 0 h.length false),(iA c.Bar)]) (.s (ag [(iA 0),(iA 0),(iA 0)]) (.cT r7 (.sh (.s [(eV a h c),(eV a h c),bx [(iA 0),(iA 0),(iA 0)],bx (ak a.1),(bT a),bx (av d.1),bx (ay d.1.cue),aO.dead,aO.row true 3 (p.map az)] (.s (ag [(im (a.2.1.Queue.map ak) false),(im (a.2.1.Apart.map aq) false),(bW 8 0 h.length false),(iA c.Bar)]) (.s (ag [(iA 0),(iA 0),(iA 0)]) (.lv (by show aS [(eV a h c),(eV a h c),bx [(iA 0),(iA 0),(iA 0)],bx (ak a.1),(bT a),bx (av d.1),bx (ay d.1.cue),aO.dead,aO.row true 3 (p.map az)] (tp [(ag [(im (a.2.1.Queue.map ak) false),(im (a.2.1.Apart.map aq) false),(bW 8 0 h.length false),(iA c.Bar)]),(ag [(iA 0),(iA 0),(iA 0)]),(bA false),(iA 0)])=_; first | (simp only[bR,cY,aS,fO (H:=[(eV a h c),(eV a h c),bx [(iA 0),(iA 0),(iA 0)],bx (ak a.1),(bT a),bx (av d.1),bx (ay d.1.cue),aO.dead,aO.row true 3 (p.map az)]) (b:=8) (es:=3) (wr:=true) (l:=p) dW rfl]; done) | (simp only[bR,e9,aS,fO (H:=[(eV a h c),(eV a h c),bx [(iA 0),(iA 0),(iA 0)],bx (ak a.1),(bT a),bx (av d.1),bx (ay d.1.cue),aO.dead,aO.row true 3 (p.map az)]) (b:=8) (es:=3) (wr:=true) (l:=p) dW rfl]; first | done | rfl))))))))))))))))
  refine .bd (eP (e:=46) (es:=4)) fun am=>.s2 (iA am.No) (.s2 (iA d.1.cue.No) (.st (aY ..) (.bX ?_ ?_)))
  ·refine .cl ((bf Ir).trans (Td ..)) (.st (v:=(A.nq (k.Cues.map ay))) (sD (e:=46) r7) (.nq (f:=ay) (l:=k.Cues) (fun hn=>by rw[hn]; kernel_rfl) (.s XL (.bd (g:=fun (y:List aR)=>((bW 7 0 y.length false),[(dI a c),bx [XL,XL,XL,(iA 0)],bx [(iA 0),(iA 0),(iA 0)],bx (ak a.1),(bT a),bx (av d.1),bx (ay d.1.cue),aO.row true 4 (y.map ay)])) (lN (e:=46) (es:=4) (by_:=32) (z:=[(iA 0),(iA 0),(iA 0),(iA 0)]) r7 r7 r7 r7 rfl (by decide) (by decide) r7 (f:=ay) (fun _=>rfl) pb (l2:=k.Cues) (bC ..)) fun w=>.cr (.ok (.s (ag (ay d.1.cue)) (.bd (g:=fun (y:Nat)=>A.ep 7 y 0) (jF (e:=46) (es:=4) (l:=w) r7 r7 rfl) fun k34=>.bd (g:=fun (y:List aR)=>[(dI a c),bx [XL,XL,XL,(iA 0)],bx [(iA 0),(iA 0),(iA 0)],bx (ak a.1),(bT a),bx (av d.1),bx (ay d.1.cue),aO.row true 4 (y.map ay)]) ((jW (es:=4) (n:=4) (l:=w) (xs:=[(iA d.1.cue.No),(iA d.1.cue.Role),(iA d.1.cue.Bar),(iA d.1.cue.Program)]) (u:=fun (y:aR)=>d.1.cue) r7 r7 (by decide) rfl (fun _=>rfl) (by decide) (by decide) rfl (fun _=>rfl))) fun a2=>.st (v:=((im (List.map ay ((List.take w.length (List.drop 0 a2)))) false),[(dI a c),bx [XL,XL,XL,(iA 0)],bx [(iA 0),(iA 0),(iA 0)],bx (ak a.1),(bT a),bx (av d.1),bx (ay d.1.cue),aO.dead])) (DJ (es:=4) (l:=a2) dV rfl (by decide)) (.s2 (im (c.Ears.map az) false) (.cl ((bf D4).trans (QJ ..)) (.st (v:=(A.nq (c.Ears.map az))) (sD (e:=50) r7) (.nq (f:=az) (l:=c.Ears) (fun hn=>by rw[hn]; kernel_rfl) (.s XL ?_))))))))))))
   exact .bd (g:=fun (y:List bj)=>((bW 8 0 y.length false),[(dI a c),bx [XL,XL,XL,(iA 0)],bx [(iA 0),(iA 0),(iA 0)],bx (ak a.1),(bT a),bx (av d.1),bx (ay d.1.cue),aO.dead,aO.row true 3 (y.map az)])) (lN (e:=50) (es:=3) (by_:=72) (z:=[XL,XL,XL]) r7 r7 r7 r7 rfl (by decide) (by decide) r7 (f:=az) (fun _=>rfl) pd (l2:=c.Ears) (bC ..)) fun i=>.cr (.ok (.s (pt 0 2) (.s [(eV a i c),bx [XL,XL,XL,(iA 0)],bx [(iA 0),(iA 0),(iA 0)],bx (ak a.1),(bT a),bx (av d.1),bx (ay d.1.cue),aO.dead,aO.row true 3 (i.map az)] (.s2 (bW 8 0 i.length false) (.s2 (iA d.1.cue.Role) (.bd (g:=fun (y:Nat)=>A.ep 8 y 0) (jF (e:=50) (es:=3) (l:=i) r7 r7 rfl) fun k38=>.s (A.ep 8 k38 0) (.bd (g:=fun (y:List bj)=>[(eV a i c),bx [XL,XL,XL,(iA 0)],bx [(iA 0),(iA 0),(iA 0)],bx (ak a.1),(bT a),bx (av d.1),bx (ay d.1.cue),aO.dead,aO.row true 3 (y.map az)]) ((jW (es:=3) (n:=1) (l:=i) (xs:=[(im (List.map ay ((List.take w.length (List.drop 0 a2)))) false)]) (u:=fun (y:bj)=>(bj.mk ((List.take w.length (List.drop 0 a2))) y.Got y.Did)) r7 r7 (by decide) rfl (fun _=>rfl) (by decide) (by decide) rfl (fun _=>rfl))) fun q=>.s (ag [(im (a.2.1.Queue.map ak) false),(im (a.2.1.Apart.map aq) false),(bW 8 0 i.length false),(iA c.Bar)]) (.s (ag [(iA 0),(iA 0),(iA 0)]) (.cT r7 (.sh (.s [(eV a i c),(eV a i c),bx [(iA 0),(iA 0),(iA 0)],bx (ak a.1),(bT a),bx (av d.1),bx (ay d.1.cue),aO.dead,aO.row true 3 (q.map az)] (.s (ag [(im (a.2.1.Queue.map ak) false),(im (a.2.1.Apart.map aq) false),(bW 8 0 i.length false),(iA c.Bar)]) (.s (ag [(iA 0),(iA 0),(iA 0)]) (.lv (by show aS [(eV a i c),(eV a i c),bx [(iA 0),(iA 0),(iA 0)],bx (ak a.1),(bT a),bx (av d.1),bx (ay d.1.cue),aO.dead,aO.row true 3 (q.map az)] (tp [(ag [(im (a.2.1.Queue.map ak) false),(im (a.2.1.Apart.map aq) false),(bW 8 0 i.length false),(iA c.Bar)]),(ag [(iA 0),(iA 0),(iA 0)]),(bA false),(iA 0)])=_; first | (simp only[bR,cY,aS,fO (H:=[(eV a i c),(eV a i c),bx [(iA 0),(iA 0),(iA 0)],bx (ak a.1),(bT a),bx (av d.1),bx (ay d.1.cue),aO.dead,aO.row true 3 (q.map az)]) (b:=8) (es:=3) (wr:=true) (l:=q) dW rfl]; done) | (simp only[bR,e9,aS,fO (H:=[(eV a i c),(eV a i c),bx [(iA 0),(iA 0),(iA 0)],bx (ak a.1),(bT a),bx (av d.1),bx (ay d.1.cue),aO.dead,aO.row true 3 (q.map az)]) (b:=8) (es:=3) (wr:=true) (l:=q) dW rfl]; first | done | rfl))))))))))))))))
  refine .st (v:=((im (k.Cues.map ay) false),[(dI a c),bx [XL,XL,XL,(iA 0)],bx [(iA 0),(iA 0),(iA 0)],bx (ak a.1),(bT a),bx (av d.1),bx (ay d.1.cue)])) rfl (.s2 (im (c.Ears.map az) false) (.cl ((bf D4).trans (QJ ..)) (.st (v:=(A.nq (c.Ears.map az))) (sD (e:=50) r7) (.nq (f:=az) (l:=c.Ears) (fun hn=>by rw[hn]; kernel_rfl) (.s XL (.bd (g:=fun (y:List bj)=>((bW 7 0 y.length false),[(dI a c),bx [XL,XL,XL,(iA 0)],bx [(iA 0),(iA 0),(iA 0)],bx (ak a.1),(bT a),bx (av d.1),bx (ay d.1.cue),aO.row true 3 (y.map az)])) (lN (e:=50) (es:=3) (by_:=72) (z:=[XL,XL,XL]) r7 r7 r7 r7 rfl (by decide) (by decide) r7 (f:=az) (fun _=>rfl) pd (l2:=c.Ears) (bC ..)) fun j=>.cr (.ok (.s (pt 0 2) (.s [(ku a j c),bx [XL,XL,XL,(iA 0)],bx [(iA 0),(iA 0),(iA 0)],bx (ak a.1),(bT a),bx (av d.1),bx (ay d.1.cue),aO.row true 3 (j.map az)] (.s2 (bW 7 0 j.length false) (.s2 (iA d.1.cue.Role) (.bd (g:=fun (y:Nat)=>A.ep 7 y 0) (jF (e:=50) (es:=3) (l:=j) r7 r7 rfl) fun k42=>.s (A.ep 7 k42 0) (.bd (g:=fun (y:List bj)=>[(ku a j c),bx [XL,XL,XL,(iA 0)],bx [(iA 0),(iA 0),(iA 0)],bx (ak a.1),(bT a),bx (av d.1),bx (ay d.1.cue),aO.row true 3 (y.map az)]) ((jW (es:=3) (n:=1) (l:=j) (xs:=[(im (k.Cues.map ay) false)]) (u:=fun (y:bj)=>(bj.mk k.Cues y.Got y.Did)) r7 r7 (by decide) rfl (fun _=>rfl) (by decide) (by decide) rfl (fun _=>rfl))) fun r=>.s (ag [(im (a.2.1.Queue.map ak) false),(im (a.2.1.Apart.map aq) false),(bW 7 0 j.length false),(iA c.Bar)]) (.s (ag [(iA 0),(iA 0),(iA 0)]) (.cT r7 (.sh ?_))))))))))))))))
  exact .s [(ku a j c),(ku a j c),bx [(iA 0),(iA 0),(iA 0)],bx (ak a.1),(bT a),bx (av d.1),bx (ay d.1.cue),aO.row true 3 (r.map az)] (.s (ag [(im (a.2.1.Queue.map ak) false),(im (a.2.1.Apart.map aq) false),(bW 7 0 j.length false),(iA c.Bar)]) (.s (ag [(iA 0),(iA 0),(iA 0)]) (.lv (by show aS [(ku a j c),(ku a j c),bx [(iA 0),(iA 0),(iA 0)],bx (ak a.1),(bT a),bx (av d.1),bx (ay d.1.cue),aO.row true 3 (r.map az)] (tp [(ag [(im (a.2.1.Queue.map ak) false),(im (a.2.1.Apart.map aq) false),(bW 7 0 j.length false),(iA c.Bar)]),(ag [(iA 0),(iA 0),(iA 0)]),(bA false),(iA 0)])=_; first | (simp only[bR,cY,aS,fO (H:=[(ku a j c),(ku a j c),bx [(iA 0),(iA 0),(iA 0)],bx (ak a.1),(bT a),bx (av d.1),bx (ay d.1.cue),aO.row true 3 (r.map az)]) (b:=7) (es:=3) (wr:=true) (l:=r) dW rfl]; done) | (simp only[bR,e9,aS,fO (H:=[(ku a j c),(ku a j c),bx [(iA 0),(iA 0),(iA 0)],bx (ak a.1),(bT a),bx (av d.1),bx (ay d.1.cue),aO.row true 3 (r.map az)]) (b:=7) (es:=3) (wr:=true) (l:=r) dW rfl]; first | done | rfl)))))
 exact .s (ag [(im (a.2.1.Queue.map ak) false),(im (a.2.1.Apart.map aq) false),(im (c.Ears.map az) false),(iA c.Bar)]) (.s (ag [(iA 0),(iA 0),(iA 0)]) (.cT r7 (.sh (.s [(dI a c),(dI a c),bx [(iA 0),(iA 0),(iA 0)],bx (ak a.1),(bT a),bx (av d.1),bx (ay d.1.cue)] (.s (ag [(im (a.2.1.Queue.map ak) false),(im (a.2.1.Apart.map aq) false),(im (c.Ears.map az) false),(iA c.Bar)]) (.s (ag [(iA 0),(iA 0),(iA 0)]) (.lv so)))))))
def EU (a:aw) (b:Int):Option (aw×bh×Bool×Int):=NG aE a b
def Cj (C:OT):Prop:=∀ (a:aw) (b:Int),C 12 [(ag (al a)),(iA b)]=(EU a b).map fun y=>(tp [(ag (al y.1)),(ag (aB y.2.1)),(bA y.2.2.1),(iA y.2.2.2)])
def kV (n:Nat) (b:(List Int)) (c:(List Int)):Nat->Int->Option ((Bool)⊕(Unit))
 | 0,_=>none
 | m+1,a=>bif (decide (a<((b.length:Int)))) then ((bL b a).bind fun d=>(bL c a).bind fun e=>bif (d != e) then (some ((Sum.inl false))) else (kV n b c m (wr .i64 (a+1)))) else (some ((Sum.inr (()))))
theorem CS {w16:A} (f:(List Int)) (g:(List Int)) {K:((Bool)⊕(Unit))->Option γ} (i:∀ (h:Bool) (a:A) (b:A) (c:A),J φ (kr (St.mk [(0,a),(1,b),(4,(bA h)),(5,c)] [])) kL (K (Sum.inl h)) some) (j:∀ (a:A) (b:A) (k:A) (c:A),J φ (kx 0 (St.mk [(0,a),(1,b),(4,k),(5,c)] [])) kL (K (Sum.inr (()))) some) :
  ∀ (m:Nat) (d:Int),J φ (aN (cx C) (ec C n 8) (ey C n 8) (n+8) 57 0 0 0 kx kg kr kp m (St.mk [(0,(im (f.map (cI .i64)) false)),(1,(im (g.map (cI .i64)) false)),(4,w16),(5,(iA d))] [])) kL (kV n f g m d) K:=by
  refine nI (fun _=>.nn) fun m ih d=>.lp (LD ..) ?_
  unfold kV
  refine .st (ef (e:=3)) (.st (aY ..) (.bX ?_ ?_))
  ·refine .bd (eP (e:=3) (es:=1)) fun l=>.s (iA l) (.bd (eP (e:=3) (es:=1)) fun o=>.s (iA o) (.st (aG ..) (.bX ?_ ?_)))
   ·exact .ex (i _ _ _ _)
   refine .st (aJ ..) (.s [] (.cT r7 ?_))
   exact ih _
  exact .ex (j _ _ _ _)
def N7 (n:Nat) (a:(List Int)) (b:(List Int)):Option Bool:=
 bif (((a.length:Int)) != ((b.length:Int))) then (some false) else ((kV n a b (n+8) 0).bind fun c=>match c with | (Sum.inl d)=>some d | (Sum.inr _)=>some true)
theorem Vx (C:OT) (n:Nat) (a:(List Int)) (b:(List Int)):TJ C n 57 [(im (a.map (cI .i64)) false),(im (b.map (cI .i64)) false)] (N7 n a b) (fun y=>(bA y)):=by
 refine .lp (Wx ..) ?_
 unfold N7
 refine .st (ef (e:=3)) (.st (ef (e:=3)) (.st (aG ..) (.bX ?_ ?_)))
 ·exact .lv rfl
 refine .as (CS C n _ _ _ _ a b ?_ ?_ _ 0)
 ·intro c d f g
  exact .un rfl (.lv rfl)
 ·intro h i j k
  exact .un rfl (.cT r7 (.lv rfl))
def Km (a:(List Int)) (b:(List Int)):Option Bool:=N7 aE a b
def Cs (C:OT):Prop:=∀ (a:(List Int)) (b:(List Int)),C 57 [(im (a.map (cI .i64)) false),(im (b.map (cI .i64)) false)]=(Km a b).map fun y=>(bA y)
def kN (n:Nat) (e:(List bj)) (f:(List bj)) (a:Int):Nat->Int->Option ((Bool)⊕(Unit))
 | 0,_=>none
 | m+1,b=>(bL e a).bind fun g=>bif (decide (b<((g.Cues.length:Int)))) then ((bL e a).bind fun h=>(bL h.Cues b).bind fun c=>(bL f a).bind fun i=>(bL i.Cues b).bind fun d=>bif (!((c.No==d.No)&&((c.Role==d.Role)&&((c.Bar==d.Bar)&&(c.Program==d.Program))))) then (some ((Sum.inl false))) else (kN n e f a m (wr .i64 (b+1)))) else (some ((Sum.inr (()))))
theorem CG {w104:A} (c:(List bj)) (d:(List bj)) (f:Int) {K:((Bool)⊕(Unit))->Option γ} (j:∀ (i:Bool) (g:A),J φ (kr (St.mk [(0,(im (c.map az) false)),(1,(im (d.map az) false)),(4,(bA i)),(5,(iA f)),(6,g)] [])) kL (K (Sum.inl i)) some) (k:∀ (g:A),J φ (kx 2 (St.mk [(0,(im (c.map az) false)),(1,(im (d.map az) false)),(4,w104),(5,(iA f)),(6,g)] [])) kL (K (Sum.inr (()))) some) :
  ∀ (m:Nat) (h:Int),J φ (aN (cx C) (ec C n 8) (ey C n 8) (n+8) 21 0 1 0 kx kg kr kp m (St.mk [(0,(im (c.map az) false)),(1,(im (d.map az) false)),(4,w104),(5,(iA f)),(6,(iA h))] [])) kL (kN n c d f m h) K:=by
  refine nI (fun _=>.nn) fun m ih h=>.lp (Lt ..) ?_
  unfold kN
  refine .bd (eP (e:=50) (es:=3)) fun l=>.s2 (im (l.Cues.map ay) false) (.st (ef (e:=46)) (.st (aY ..) (.bX ?_ ?_)))
  ·refine .bd (eP (e:=50) (es:=3)) fun o=>.s2 (im (o.Cues.map ay) false) (.bd (eP (e:=46) (es:=4)) fun a=>.s (ag (ay a)) (.bd (eP (e:=50) (es:=3)) fun p=>.s2 (im (p.Cues.map ay) false) (.bd (eP (e:=46) (es:=4)) fun b=>.s (ag (ay b)) (.s (bA (!((a.No==b.No)&&((a.Role==b.Role)&&((a.Bar==b.Bar)&&(a.Program==b.Program)))))) (.bX ?_ ?_)))))
   ·exact .ex (j _ _)
   refine .st (aJ ..) (.s [] (.cT r7 ?_))
   exact ih _
  exact .ex (k _)
def kM (n:Nat) (b:(List bj)) (c:(List bj)):Nat->Int->Option ((Bool)⊕(Unit))
 | 0,_=>none
 | m+1,a=>bif (decide (a<((b.length:Int)))) then ((bL b a).bind fun d=>(bL c a).bind fun e=>(bif (((d.Cues.length:Int)) != ((e.Cues.length:Int))) then (some true) else ((bL b a).bind fun f=>(bL c a).bind fun g=>(Km f.Got g.Got).bind fun h=>some (!h))).bind fun i=>(bif i then (some true) else ((bL b a).bind fun j=>(bL c a).bind fun k=>(Km j.Did k.Did).bind fun l=>some (!l))).bind fun o=>bif o then (some ((Sum.inl false))) else ((kN n b c a (n+8) 0).bind fun FG=>match FG with | (Sum.inl p)=>some ((Sum.inl p)) | (Sum.inr _)=>kM n b c m (wr .i64 (a+1)))) else (some ((Sum.inr (()))))
theorem CF (p:Cs C) {w16:A} (d:(List bj)) (f:(List bj)) {K:((Bool)⊕(Unit))->Option γ} (q:∀ (r:Bool) (h:A) (i:A) (j:A),J φ (kr (St.mk [(0,h),(1,i),(4,(bA r)),(5,j)] [])) kL (K (Sum.inl r)) some) (x1:∀ (h:A) (i:A) (s4:A) (j:A),J φ (kx 0 (St.mk [(0,h),(1,i),(4,s4),(5,j)] [])) kL (K (Sum.inr (()))) some) :
  ∀ (m:Nat) (a:Int),J φ (aN (cx C) (ec C n 8) (ey C n 8) (n+8) 21 0 0 0 kx kg kr kp m (St.mk [(0,(im (d.map az) false)),(1,(im (f.map az) false)),(4,w16),(5,(iA a))] [])) kL (kM n d f m a) K:=by
  refine nI (fun _=>.nn) fun m ih a=>.lp (Ls ..) ?_
  unfold kM
  refine .st (ef (e:=50)) (.st (aY ..) (.bX ?_ ?_))
  ·refine .bd (eP (e:=50) (es:=3)) fun ab=>.s2 (im (ab.Cues.map ay) false) (.st (ef (e:=46)) (.bd (eP (e:=50) (es:=3)) fun ad=>.s2 (im (ad.Cues.map ay) false) (.st (ef (e:=46)) (.st (aG ..) (.bg (fun t (y:Bool)=>∃ u v w x z a0 a1 a2 a3 a4 a5 a6:A,t=[(bA y),u,v,w,x,z,a0,a1,a2,a3,a4,a5,a6]) ?_ ?_)))))
   ·refine .bi ?_ ?_
    ·exact .lg ⟨_,_,_,_,_,_,_,_,_,_,_,_,rfl⟩
    exact .bd (eP (e:=50) (es:=3)) fun b=>.s (A.ip [(im (b.Got.map (cI .i64)) false),(im (b.Did.map (cI .i64)) false)]) (.s (im (b.Got.map (cI .i64)) false) (.bd (eP (e:=50) (es:=3)) fun c=>.s (A.ip [(im (c.Got.map (cI .i64)) false),(im (c.Did.map (cI .i64)) false)]) (.s (im (c.Got.map (cI .i64)) false) (.bd (g:=fun (y:Bool)=>(bA y)) (by simp only[bR,cY]; exact p b.Got c.Got) fun ae=>.s (bA (!ae)) (.lg ⟨_,_,_,_,_,_,_,_,_,_,_,_,rfl⟩)))))
   rintro _ ag ⟨u,v,w,x,z,a0,a1,a2,a3,a4,a5,a6,rfl⟩
   refine .u4 (.u4 (.u4 (.uc (.SP (.bg (fun t (y:Bool)=>∃ a7 a8:A,t=[(bA y),a7,a8]) ?_ ?_)))))
   ·refine .HY (fun k=>?_) (fun k=>?_)
    ·exact .bb (.bd (eP (e:=50) (es:=3)) fun l=>.s (A.ip [(im (l.Did.map (cI .i64)) false)]) (.s (im (l.Did.map (cI .i64)) false) (.bd (eP (e:=50) (es:=3)) fun o=>.s (A.ip [(im (o.Did.map (cI .i64)) false)]) (.s (im (o.Did.map (cI .i64)) false) (.cr (.u4 (.u4 (.uc (.uc (.tq k (.bd (g:=fun (y:Bool)=>(bA y)) (by simp only[bR,cY]; exact p l.Did o.Did) fun af=>.s (bA (!af)) (.lg ⟨_,_,rfl⟩))))))))))))
    exact .bb (.cr (.u4 (.u4 (.uc (.uc (.ub k (.lg ⟨_,_,rfl⟩)))))))
   rintro _ ah ⟨a7,a8,rfl⟩
   refine .uc (.uc (.uc (.bX ?_ ?_)))
   ·exact .ex (q _ _ _ _)
   refine .as (CG C n _ _ _ _ d f a ?_ ?_ _ 0)
   ·intro ai aj
    exact .un rfl (.ex (q _ _ _ _))
   ·intro ak
    refine .un rfl (.cT r7 (.st (aJ ..) (.s [] (.cT r7 ?_))))
    exact ih _
  exact .ex (x1 _ _ _ _)
def NN (n:Nat) (a:(List bj)) (b:(List bj)):Option Bool:=
 bif (((a.length:Int)) != ((b.length:Int))) then (some false) else ((kM n a b (n+8) 0).bind fun FH=>match FH with | (Sum.inl c)=>some c | (Sum.inr _)=>some true)
theorem Vb (C:OT) (n:Nat) (c:Cs C) (a:(List bj)) (b:(List bj)):TJ C n 21 [(im (a.map az) false),(im (b.map az) false)] (NN n a b) (fun y=>(bA y)):=by
 refine .lp (Wa ..) ?_
 unfold NN
 refine .st (ef (e:=50)) (.st (ef (e:=50)) (.st (aG ..) (.bX ?_ ?_)))
 ·exact .lv rfl
 refine .as (CF C n _ _ _ _ c a b ?_ ?_ _ 0)
 ·intro d f g h
  exact .un rfl (.lv rfl)
 ·intro i j k l
  exact .un rfl (.cT r7 (.lv rfl))
def E7 (a:(List bj)) (b:(List bj)):Option Bool:=NN aE a b
def Cl (C:OT):Prop:=∀ (a:(List bj)) (b:(List bj)),C 21 [(im (a.map az) false),(im (b.map az) false)]=(E7 a b).map fun y=>(bA y)
def F5 (n:Nat)  : Option Bool:=
 (KJ 2).bind fun a=>(KJ 0).bind fun p=>(KJ 13).bind fun q=>(Kg a.1 ((aR.mk 0 0 0 9))).bind fun r=>(G9 a.1 0).bind fun s=>(G7 a.1 ([]) ([0,2])).bind fun t=>(EU a.1 0).bind fun u=>(bif (a.2 != 0) then (some true) else (some (p.2 != 1))).bind fun v=>(bif v then (some true) else (some (q.2 != 1))).bind fun w=>(bif w then (some true) else (some (r.2 != 1))).bind fun x=>(bif x then (some true) else (some (s.2 != 1))).bind fun y=>(bif y then (some true) else (some (t.2 != 1))).bind fun z=>(bif z then (some true) else (some (u.2.2.2 != 1))).bind fun a0=>(bif a0 then (some true) else (some (((a.1.Ears.length:Int)) != 2))).bind fun a1=>(bif a1 then (some true) else ((EV a.1).bind fun a2=>some (a2 != 0))).bind fun a3=>(bif a3 then (some true) else ((EV ((aw.mk ((aD.mk ([]) ([]))) ([]) 0))).bind fun a4=>some (a4 != 490))).bind fun a5=>bif a5 then (some false) else ((Kg a.1 ((aR.mk 4 0 0 2))).bind fun h=>(Kg h.1 ((aR.mk 5 0 0 3))).bind fun i=>(Kg i.1 ((aR.mk 6 1 0 3))).bind fun j=>(EU j.1 1).bind fun f=>(EU f.1 0).bind fun b=>(G7 b.1 ([]) ([0,1])).bind fun c=>(G7 b.1 ([]) ([0,0])).bind fun k=>(G7 b.1 ([0]) ([0,1])).bind fun l=>(bif (h.2 != 0) then (some true) else (some (i.2 != 0))).bind fun a6=>(bif a6 then (some true) else (some (j.2 != 0))).bind fun a7=>(bif a7 then (some true) else (some (f.2.2.2 != 0))).bind fun a8=>(bif a8 then (some true) else (some (b.2.2.2 != 0))).bind fun a9=>(bif a9 then (some true) else (some (c.2 != 0))).bind fun aa=>(bif aa then (some true) else (some (k.2 != 0))).bind fun ab=>(bif ab then (some true) else (some (l.2 != 0))).bind fun ad=>(bif ad then (some true) else (some f.2.2.1)).bind fun ae=>bif ae then (some false) else ((bif (((b.1.Ears.length:Int)) != 2) then (some true) else ((bL b.1.Ears 0).bind fun af=>some (((af.Cues.length:Int)) != 1))).bind fun ag=>(bif ag then (some true) else ((bL b.1.Ears 0).bind fun ah=>(bL ah.Cues 0).bind fun e=>some (!((e.No==5)&&((e.Role==0)&&((e.Bar==0)&&(e.Program==3))))))).bind fun ai=>(bif ai then (some true) else (some (((b.1.Net.Queue.length:Int)) != 1))).bind fun aj=>bif aj then (some false) else ((E7 c.1.Ears ([(bj.mk ([]) ([3]) ([3])),(bj.mk ([]) ([0]) ([0]))])).bind fun ak=>(bif (!ak) then (some true) else ((E7 k.1.Ears ([(bj.mk ([]) ([3]) ([0])),(bj.mk ([]) ([0]) ([0]))])).bind fun al=>some (!al))).bind fun am=>(bif am then (some true) else ((E7 l.1.Ears ([(bj.mk ([]) ([0]) ([0])),(bj.mk ([]) ([0]) ([0]))])).bind fun an=>some (!an))).bind fun ao=>bif ao then (some false) else ((EU c.1 0).bind fun g=>(bif (g.2.2.2 != 0) then (some true) else (some (c.1.Bar != 1))).bind fun ap=>(bif ap then (some true) else (some (((c.1.Net.Queue.length:Int)) != 3))).bind fun aq=>(bif aq then (some true) else ((E7 g.1.Ears c.1.Ears).bind fun ar=>some (!ar))).bind fun au=>bif au then (some false) else ((EU g.1 0).bind fun d=>(G9 d.1 0).bind fun o=>(bif (d.2.2.2==0) then (some (o.2==0)) else (some false)).bind fun av=>(bif av then (some d.2.2.1) else (some false)).bind fun ax=>(bif ax then (some (((d.2.1.Role==0)&&((d.2.1.Bar==0)&&(d.2.1.Program==3))))) else (some false)).bind fun ay=>(bif ay then (some (((o.1.Net.Queue.length:Int))==2)) else (some false)).bind fun az=>some az)))))
theorem T5 (C:OT) (n:Nat) (x:Cj C) (a4:Hv C) (a0:Hw C) (a5:tU C) (a1:Cl C) (h7:K7 C) (h9:K8 C):TJ C n 5 [] (F5 n ) (fun y=>(bA y)):=by
 refine .lp (e5 ..) ?_
 unfold F5
 refine .bd (a4 2) fun a=>.s (ag (al a.1)) (.s (iA a.2) (.sq (pt 0 0) (.s [bx (al a.1)] (.bd (a4 0) fun f=>.s (ag (al f.1)) (.s (iA f.2) (.sq (pt 1 0) (.s [bx (al a.1),bx (al f.1)] (.bd (a4 13) fun h=>.s (ag (al h.1)) (.s (iA h.2) (.sq (pt 2 0) (.s [bx (al a.1),bx (al f.1),bx (al h.1)] (.s (ag (al a.1)) (.s (ag [(iA 0),(iA 0),(iA 0),(iA 9)]) (.bd (g:=fun (y:(aw×Int))=>(tp [(ag (al y.1)),(iA y.2)])) (by simp only[bR,cY]; exact a0 a.1 ((aR.mk 0 0 0 9))) fun i=>.s (ag (al i.1)) (.s (iA i.2) (.sq (pt 3 0) (.s [bx (al a.1),bx (al f.1),bx (al h.1),bx (al i.1)] (.s (ag (al a.1)) (.bd (g:=fun (y:(aw×Int))=>(tp [(ag (al y.1)),(iA y.2)])) (by simp only[bR,cY]; exact h9 a.1 0) fun j=>?_)))))))))))))))))))
 refine .s (ag (al j.1)) (.s (iA j.2) (.sq (pt 4 0) (.s [bx (al a.1),bx (al f.1),bx (al h.1),bx (al i.1),bx (al j.1)] (.s (ag (al a.1)) (.s (im [[(iA 0)],[(iA 2)]] true) (.bd (g:=fun (y:(aw×Int))=>(tp [(ag (al y.1)),(iA y.2)])) (by simp only[bR,cY]; exact h7 a.1 ([]) ([0,2])) fun l=>.s (ag (al l.1)) (.s (iA l.2) (.sq (pt 5 0) (.s [bx (al a.1),bx (al f.1),bx (al h.1),bx (al i.1),bx (al j.1),bx (al l.1)] (.s (ag (al a.1)) (.bd (g:=fun (y:(aw×bh×Bool×Int))=>(tp [(ag (al y.1)),(ag (aB y.2.1)),(bA y.2.2.1),(iA y.2.2.2)])) (by simp only[bR,cY]; exact x a.1 0) fun b=>.s (ag (al b.1)) (.s (ag (aB b.2.1)) (.s (bA b.2.2.1) (.s (iA b.2.2.2) (.sq (pt 6 0) (.sq (pt 7 0) (.sh (.s [bx (al a.1),bx (al f.1),bx (al h.1),bx (al i.1),bx (al j.1),bx (al l.1),bx (al b.1),bx (aB b.2.1)] (.st (aG ..) (.bg (fun t (y:Bool)=>∃ a7 a8:A,t=[(bA y),a7,a8]) ?_ ?_))))))))))))))))))))
 ·refine .bi ?_ ?_
  ·exact .lg ⟨_,_,rfl⟩
  exact .st (aG ..) (.lg ⟨_,_,rfl⟩)
 rintro _ y9 ⟨a7,a8,rfl⟩
 refine .uc (.uc (.uc (.bg (fun t (y:Bool)=>∃ a9 aa:A,t=[(bA y),a9,aa]) ?_ ?_)))
 ·refine .bi ?_ ?_
  ·exact .lg ⟨_,_,rfl⟩
  exact .st (aG ..) (.lg ⟨_,_,rfl⟩)
 rintro _ dt ⟨a9,aa,rfl⟩
 refine .uc (.uc (.uc (.bg (fun t (y:Bool)=>∃ ab ad:A,t=[(bA y),ab,ad]) ?_ ?_)))
 ·refine .bi ?_ ?_
  ·exact .lg ⟨_,_,rfl⟩
  exact .st (aG ..) (.lg ⟨_,_,rfl⟩)
 rintro _ du ⟨ab,ad,rfl⟩
 refine .uc (.uc (.uc (.bg (fun t (y:Bool)=>∃ ae af:A,t=[(bA y),ae,af]) ?_ ?_)))
 ·refine .bi ?_ ?_
  ·exact .lg ⟨_,_,rfl⟩
  exact .st (aG ..) (.lg ⟨_,_,rfl⟩)
 rintro _ dv ⟨ae,af,rfl⟩
 refine .uc (.uc (.uc (.bg (fun t (y:Bool)=>∃ ah ai:A,t=[(bA y),ah,ai]) ?_ ?_)))
 ·refine .bi ?_ ?_
  ·exact .lg ⟨_,_,rfl⟩
  exact .st (aG ..) (.lg ⟨_,_,rfl⟩)
 rintro _ dw ⟨ah,ai,rfl⟩
 refine .uc (.uc (.uc (.bg (fun t (y:Bool)=>∃ aj am:A,t=[(bA y),aj,am]) ?_ ?_)))
 ·refine .bi ?_ ?_
  ·exact .lg ⟨_,_,rfl⟩
  exact .st (aG ..) (.lg ⟨_,_,rfl⟩)
 rintro _ dx ⟨aj,am,rfl⟩
 refine .uc (.uc (.uc (.bg (fun t (y:Bool)=>∃ an ao ap aq:A,t=[(bA y),an,ao,ap,aq]) ?_ ?_)))
 ·refine .bi ?_ ?_
  ·exact .lg ⟨_,_,_,_,rfl⟩
  exact .s (pt 0 2) (.s (im (a.1.Ears.map az) false) (.st (ef (e:=50)) (.st (aG ..) (.lg ⟨_,_,_,_,rfl⟩))))
 rintro _ dy ⟨an,ao,ap,aq,rfl⟩
 refine .u4 (.uc (.bg (fun t (y:Bool)=>∃ ar au av:A,t=[(bA y),ar,au,av]) ?_ ?_))
 ·refine .bi ?_ ?_
  ·exact .lg ⟨_,_,_,rfl⟩
  exact .s (ag (al a.1)) (.bd (g:=fun (y:Int)=>(iA y)) (by simp only[bR,cY]; exact a5 a.1) fun dz=>.st (aG ..) (.lg ⟨_,_,_,rfl⟩))
 rintro _ e0 ⟨ar,au,av,rfl⟩
 refine .u4 (.bg (fun t (y:Bool)=>∃ ax b0 b1:A,t=[(bA y),ax,b0,b1]) ?_ ?_)
 ·refine .bi ?_ ?_
  ·exact .lg ⟨_,_,_,rfl⟩
  exact .s (ag [XL,XL,XL,(iA 0)]) (.bd (g:=fun (y:Int)=>(iA y)) (by simp only[bR,cY]; exact a5 ((aw.mk ((aD.mk ([]) ([]))) ([]) 0))) fun e1=>.st (aG ..) (.lg ⟨_,_,_,rfl⟩))
 rintro _ e2 ⟨ax,b0,b1,rfl⟩
 refine .u4 (.bX ?_ ?_)
 ·exact .lv rfl
 refine .s (ag (al a.1)) (.s (ag [(iA 4),(iA 0),(iA 0),(iA 2)]) (.bd (g:=fun (y:(aw×Int))=>(tp [(ag (al y.1)),(iA y.2)])) (by simp only[bR,cY]; exact a0 a.1 ((aR.mk 4 0 0 2))) fun o=>.s (ag (al o.1)) (.s (iA o.2) (.sq (pt 8 0) (.s [bx (al a.1),bx (al f.1),bx (al h.1),bx (al i.1),bx (al j.1),bx (al l.1),bx (al b.1),bx (aB b.2.1),bx (al o.1)] (.s (ag (al o.1)) (.s (ag [(iA 5),(iA 0),(iA 0),(iA 3)]) (.bd (g:=fun (y:(aw×Int))=>(tp [(ag (al y.1)),(iA y.2)])) (by simp only[bR,cY]; exact a0 o.1 ((aR.mk 5 0 0 3))) fun p=>.s (ag (al p.1)) (.s (iA p.2) (.sq (pt 9 0) (.s [bx (al a.1),bx (al f.1),bx (al h.1),bx (al i.1),bx (al j.1),bx (al l.1),bx (al b.1),bx (aB b.2.1),bx (al o.1),bx (al p.1)] (.s (ag (al p.1)) (.s (ag [(iA 6),(iA 1),(iA 0),(iA 3)]) (.bd (g:=fun (y:(aw×Int))=>(tp [(ag (al y.1)),(iA y.2)])) (by simp only[bR,cY]; exact a0 p.1 ((aR.mk 6 1 0 3))) fun u=>.s (ag (al u.1)) (.s (iA u.2) (.sq (pt 10 0) (.s [bx (al a.1),bx (al f.1),bx (al h.1),bx (al i.1),bx (al j.1),bx (al l.1),bx (al b.1),bx (aB b.2.1),bx (al o.1),bx (al p.1),bx (al u.1)] (.s (ag (al u.1)) (.bd (g:=fun (y:(aw×bh×Bool×Int))=>(tp [(ag (al y.1)),(ag (aB y.2.1)),(bA y.2.2.1),(iA y.2.2.2)])) (by simp only[bR,cY]; exact x u.1 1) fun d=>.s (ag (al d.1)) ?_)))))))))))))))))))
 refine .s (ag (aB d.2.1)) (.s (bA d.2.2.1) (.s (iA d.2.2.2) (.sq (pt 11 0) (.sq (pt 12 0) (.sh (.s [bx (al a.1),bx (al f.1),bx (al h.1),bx (al i.1),bx (al j.1),bx (al l.1),bx (al b.1),bx (aB b.2.1),bx (al o.1),bx (al p.1),bx (al u.1),bx (al d.1),bx (aB d.2.1)] (.s (ag (al d.1)) (.bd (g:=fun (y:(aw×bh×Bool×Int))=>(tp [(ag (al y.1)),(ag (aB y.2.1)),(bA y.2.2.1),(iA y.2.2.2)])) (by simp only[bR,cY]; exact x d.1 0) fun c=>.s (ag (al c.1)) (.s (ag (aB c.2.1)) (.s (bA c.2.2.1) (.s (iA c.2.2.2) (.sq (pt 13 0) (.sq (pt 14 0) (.sh (.s [bx (al a.1),bx (al f.1),bx (al h.1),bx (al i.1),bx (al j.1),bx (al l.1),bx (al b.1),bx (aB b.2.1),bx (al o.1),bx (al p.1),bx (al u.1),bx (al d.1),bx (aB d.2.1),bx (al c.1),bx (aB c.2.1)] (.s (ag (al c.1)) (.s (im [[(iA 0)],[(iA 1)]] true) (.bd (g:=fun (y:(aw×Int))=>(tp [(ag (al y.1)),(iA y.2)])) (by simp only[bR,cY]; exact h7 c.1 ([]) ([0,1])) fun k=>.s (ag (al k.1)) (.s (iA k.2) (.sq (pt 15 0) (.s [bx (al a.1),bx (al f.1),bx (al h.1),bx (al i.1),bx (al j.1),bx (al l.1),bx (al b.1),bx (aB b.2.1),bx (al o.1),bx (al p.1),bx (al u.1),bx (al d.1),bx (aB d.2.1),bx (al c.1),bx (aB c.2.1),bx (al k.1)] ?_)))))))))))))))))))))
 refine .s (ag (al c.1)) (.s (im [[(iA 0)],[(iA 0)]] true) (.bd (g:=fun (y:(aw×Int))=>(tp [(ag (al y.1)),(iA y.2)])) (by simp only[bR,cY]; exact h7 c.1 ([]) ([0,0])) fun v=>.s (ag (al v.1)) (.s (iA v.2) (.sq (pt 16 0) (.s [bx (al a.1),bx (al f.1),bx (al h.1),bx (al i.1),bx (al j.1),bx (al l.1),bx (al b.1),bx (aB b.2.1),bx (al o.1),bx (al p.1),bx (al u.1),bx (al d.1),bx (aB d.2.1),bx (al c.1),bx (aB c.2.1),bx (al k.1),bx (al v.1)] (.s (ag (al c.1)) (.s (im [[(iA 0)]] true) (.s (im [[(iA 0)],[(iA 1)]] true) (.bd (g:=fun (y:(aw×Int))=>(tp [(ag (al y.1)),(iA y.2)])) (by simp only[bR,cY]; exact h7 c.1 ([0]) ([0,1])) fun w=>.s (ag (al w.1)) (.s (iA w.2) (.sq (pt 17 0) (.s [bx (al a.1),bx (al f.1),bx (al h.1),bx (al i.1),bx (al j.1),bx (al l.1),bx (al b.1),bx (aB b.2.1),bx (al o.1),bx (al p.1),bx (al u.1),bx (al d.1),bx (aB d.2.1),bx (al c.1),bx (aB c.2.1),bx (al k.1),bx (al v.1),bx (al w.1)] (.st (aG ..) (.bg (fun t (y:Bool)=>∃ b2 b3:A,t=[(bA y),b2,b3]) ?_ ?_))))))))))))))
 ·refine .bi ?_ ?_
  ·exact .lg ⟨_,_,rfl⟩
  exact .st (aG ..) (.lg ⟨_,_,rfl⟩)
 rintro _ e3 ⟨b2,b3,rfl⟩
 refine .uc (.uc (.uc (.bg (fun t (y:Bool)=>∃ b4 b5:A,t=[(bA y),b4,b5]) ?_ ?_)))
 ·refine .bi ?_ ?_
  ·exact .lg ⟨_,_,rfl⟩
  exact .st (aG ..) (.lg ⟨_,_,rfl⟩)
 rintro _ e4 ⟨b4,b5,rfl⟩
 refine .uc (.uc (.uc (.bg (fun t (y:Bool)=>∃ b6 b7:A,t=[(bA y),b6,b7]) ?_ ?_)))
 ·refine .bi ?_ ?_
  ·exact .lg ⟨_,_,rfl⟩
  exact .st (aG ..) (.lg ⟨_,_,rfl⟩)
 rintro _ e6 ⟨b6,b7,rfl⟩
 refine .uc (.uc (.uc (.bg (fun t (y:Bool)=>∃ b8 b9:A,t=[(bA y),b8,b9]) ?_ ?_)))
 ·refine .bi ?_ ?_
  ·exact .lg ⟨_,_,rfl⟩
  exact .st (aG ..) (.lg ⟨_,_,rfl⟩)
 rintro _ e7 ⟨b8,b9,rfl⟩
 refine .uc (.uc (.uc (.bg (fun t (y:Bool)=>∃ ba bb:A,t=[(bA y),ba,bb]) ?_ ?_)))
 ·refine .bi ?_ ?_
  ·exact .lg ⟨_,_,rfl⟩
  exact .st (aG ..) (.lg ⟨_,_,rfl⟩)
 rintro _ e8 ⟨ba,bb,rfl⟩
 refine .uc (.uc (.uc (.bg (fun t (y:Bool)=>∃ be bf:A,t=[(bA y),be,bf]) ?_ ?_)))
 ·refine .bi ?_ ?_
  ·exact .lg ⟨_,_,rfl⟩
  exact .st (aG ..) (.lg ⟨_,_,rfl⟩)
 rintro _ e9 ⟨be,bf,rfl⟩
 refine .uc (.uc (.uc (.bg (fun t (y:Bool)=>∃ bk bl:A,t=[(bA y),bk,bl]) ?_ ?_)))
 ·refine .bi ?_ ?_
  ·exact .lg ⟨_,_,rfl⟩
  exact .st (aG ..) (.lg ⟨_,_,rfl⟩)
 rintro _ ea ⟨bk,bl,rfl⟩
 refine .uc (.uc (.uc (.bg (fun t (y:Bool)=>∃ bm:A,t=[(bA y),bm]) ?_ ?_)))
 ·refine .bi ?_ ?_
  ·exact .lg ⟨_,rfl⟩
  exact .lg ⟨_,rfl⟩
 rintro _ eb ⟨bm,rfl⟩
 refine .uc (.uc (.bX ?_ ?_))
 ·exact .lv rfl
 refine .s2 (im (c.1.Ears.map az) false) (.st (ef (e:=50)) (.st (aG ..) (.bg (fun t (y:Bool)=>∃ bn bo bp bq br bs bt:A,t=[(bA y),bn,bo,bp,bq,br,bs,bt]) ?_ ?_)))
 ·refine .bi ?_ ?_
  ·exact .lg ⟨_,_,_,_,_,_,_,rfl⟩
  exact .s (pt 13 2) (.s (im (c.1.Ears.map az) false) (.bd (eP (e:=50) (es:=3)) fun bu=>.s (A.ip (az bu)) (.s (im (bu.Cues.map ay) false) (.st (ef (e:=46)) (.st (aG ..) (.lg ⟨_,_,_,_,_,_,_,rfl⟩))))))
 rintro _ ec ⟨bn,bo,bp,bq,br,bs,bt,rfl⟩
 refine .u4 (.u4 (.bg (fun t (y:Bool)=>∃ bv bw bz c0 c1 c2 c3 c4 c5:A,t=[(bA y),bv,bw,bz,c0,c1,c2,c3,c4,c5]) ?_ ?_))
 ·refine .bi ?_ ?_
  ·exact .lg ⟨_,_,_,_,_,_,_,_,_,rfl⟩
  exact .s (pt 13 2) (.s (im (c.1.Ears.map az) false) (.bd (eP (e:=50) (es:=3)) fun c6=>.s (A.ip (az c6)) (.s (im (c6.Cues.map ay) false) (.bd (eP (e:=46) (es:=4)) fun z=>.s (ag (ay z)) (.s (ag [(iA 5),(iA 0),(iA 0),(iA 3)]) (.s (bA (!((z.No==5)&&((z.Role==0)&&((z.Bar==0)&&(z.Program==3)))))) (.lg ⟨_,_,_,_,_,_,_,_,_,rfl⟩)))))))
 rintro _ ed ⟨bv,bw,bz,c0,c1,c2,c3,c4,c5,rfl⟩
 refine .u4 (.u4 (.uc (.uc (.bg (fun t (y:Bool)=>∃ c7 c8 c9 ca cb:A,t=[(bA y),c7,c8,c9,ca,cb]) ?_ ?_))))
 ·refine .bi ?_ ?_
  ·exact .lg ⟨_,_,_,_,_,rfl⟩
  exact .s (pt 13 0) (.s (pt 13 0) (.s (im (c.1.Net.Queue.map ak) false) (.st (ef (e:=68)) (.st (aG ..) (.lg ⟨_,_,_,_,_,rfl⟩)))))
 rintro _ ee ⟨c7,c8,c9,ca,cb,rfl⟩
 refine .u4 (.uc (.uc (.bX ?_ ?_)))
 ·exact .lv rfl
 refine .s2 (im (k.1.Ears.map az) false) (.s (im [[(iA 3)]] true) (.s (im [[(iA 3)]] true) (.s (ag [XL,(im [[(iA 3)]] true),(im [[(iA 3)]] true)]) (.s (im [[(iA 0)]] true) (.s (im [[(iA 0)]] true) (.s (ag [XL,(im [[(iA 0)]] true),(im [[(iA 0)]] true)]) (.s (im [[(im [] false),(im [[(iA 3)]] false),(im [[(iA 3)]] false)],[(im [] false),(im [[(iA 0)]] false),(im [[(iA 0)]] false)]] true) (.bd (g:=fun (y:Bool)=>(bA y)) (by simp only[bR,cY]; exact a1 k.1.Ears ([(bj.mk ([]) ([3]) ([3])),(bj.mk ([]) ([0]) ([0]))])) fun dn=>.s (bA (!dn)) (.bg (fun t (y:Bool)=>∃ cc cd ce cf cg ch ci cj ck cl cm:A,t=[(bA y),cc,cd,ce,cf,cg,ch,ci,cj,ck,cl,cm]) ?_ ?_)))))))))
 ·refine .bi ?_ ?_
  ·exact .lg ⟨_,_,_,_,_,_,_,_,_,_,_,rfl⟩
  exact .s (pt 16 2) (.s (im (v.1.Ears.map az) false) (.s (im [[(iA 3)]] true) (.s (im [[(iA 0)]] true) (.s (ag [XL,(im [[(iA 3)]] true),(im [[(iA 0)]] true)]) (.s (im [[(iA 0)]] true) (.s (im [[(iA 0)]] true) (.s (ag [XL,(im [[(iA 0)]] true),(im [[(iA 0)]] true)]) (.s (im [[(im [] false),(im [[(iA 3)]] false),(im [[(iA 0)]] false)],[(im [] false),(im [[(iA 0)]] false),(im [[(iA 0)]] false)]] true) (.bd (g:=fun (y:Bool)=>(bA y)) (by simp only[bR,cY]; exact a1 v.1.Ears ([(bj.mk ([]) ([3]) ([0])),(bj.mk ([]) ([0]) ([0]))])) fun dp=>.s (bA (!dp)) (.lg ⟨_,_,_,_,_,_,_,_,_,_,_,rfl⟩))))))))))
 rintro _ eg ⟨cc,cd,ce,cf,cg,ch,ci,cj,ck,cl,cm,rfl⟩
 refine .u4 (.u4 (.u4 (.bg (fun t (y:Bool)=>∃ cn co cp cq cr cs ct cu cv cw cx:A,t=[(bA y),cn,co,cp,cq,cr,cs,ct,cu,cv,cw,cx]) ?_ ?_)))
 ·refine .bi ?_ ?_
  ·exact .lg ⟨_,_,_,_,_,_,_,_,_,_,_,rfl⟩
  exact .s (pt 17 2) (.s (im (w.1.Ears.map az) false) (.s (im [[(iA 0)]] true) (.s (im [[(iA 0)]] true) (.s (ag [XL,(im [[(iA 0)]] true),(im [[(iA 0)]] true)]) (.s (im [[(iA 0)]] true) (.s (im [[(iA 0)]] true) (.s (ag [XL,(im [[(iA 0)]] true),(im [[(iA 0)]] true)]) (.s (im [[(im [] false),(im [[(iA 0)]] false),(im [[(iA 0)]] false)],[(im [] false),(im [[(iA 0)]] false),(im [[(iA 0)]] false)]] true) (.bd (g:=fun (y:Bool)=>(bA y)) (by simp only[bR,cY]; exact a1 w.1.Ears ([(bj.mk ([]) ([0]) ([0])),(bj.mk ([]) ([0]) ([0]))])) fun dq=>.s (bA (!dq)) (.lg ⟨_,_,_,_,_,_,_,_,_,_,_,rfl⟩))))))))))
 rintro _ eh ⟨cn,co,cp,cq,cr,cs,ct,cu,cv,cw,cx,rfl⟩
 refine .u4 (.u4 (.u4 (.bX ?_ ?_)))
 ·exact .lv rfl
 refine .s (ag (al k.1)) (.bd (g:=fun (y:(aw×bh×Bool×Int))=>(tp [(ag (al y.1)),(ag (aB y.2.1)),(bA y.2.2.1),(iA y.2.2.2)])) (by simp only[bR,cY]; exact x k.1 0) fun q=>.s (ag (al q.1)) (.s (ag (aB q.2.1)) (.s (bA q.2.2.1) (.s (iA q.2.2.2) (.sq (pt 18 0) (.sq (pt 19 0) (.sh (.s [bx (al a.1),bx (al f.1),bx (al h.1),bx (al i.1),bx (al j.1),bx (al l.1),bx (al b.1),bx (aB b.2.1),bx (al o.1),bx (al p.1),bx (al u.1),bx (al d.1),bx (aB d.2.1),bx (al c.1),bx (aB c.2.1),bx (al k.1),bx (al v.1),bx (al w.1),bx (al q.1),bx (aB q.2.1)] (.st (aG ..) (.bg (fun t (y:Bool)=>∃ cy cz d0:A,t=[(bA y),cy,cz,d0]) ?_ ?_))))))))))
 ·refine .bi ?_ ?_
  ·exact .lg ⟨_,_,_,rfl⟩
  exact .s (pt 15 3) (.s (iA k.1.Bar) (.st (aG ..) (.lg ⟨_,_,_,rfl⟩)))
 rintro _ ei ⟨cy,cz,d0,rfl⟩
 refine .u4 (.bg (fun t (y:Bool)=>∃ d1 d2 d3 d4 d5:A,t=[(bA y),d1,d2,d3,d4,d5]) ?_ ?_)
 ·refine .bi ?_ ?_
  ·exact .lg ⟨_,_,_,_,_,rfl⟩
  exact .s (pt 15 0) (.s (pt 15 0) (.s (im (k.1.Net.Queue.map ak) false) (.st (ef (e:=68)) (.st (aG ..) (.lg ⟨_,_,_,_,_,rfl⟩)))))
 rintro _ ej ⟨d1,d2,d3,d4,d5,rfl⟩
 refine .u4 (.uc (.uc (.bg (fun t (y:Bool)=>∃ d6 d7 d8 d9 da db:A,t=[(bA y),d6,d7,d8,d9,da,db]) ?_ ?_)))
 ·refine .bi ?_ ?_
  ·exact .lg ⟨_,_,_,_,_,_,rfl⟩
  exact .s (pt 18 2) (.s (im (q.1.Ears.map az) false) (.s (pt 15 2) (.s (im (k.1.Ears.map az) false) (.bd (g:=fun (y:Bool)=>(bA y)) (by simp only[bR,cY]; exact a1 q.1.Ears k.1.Ears) fun dr=>.s (bA (!dr)) (.lg ⟨_,_,_,_,_,_,rfl⟩)))))
 rintro _ ek ⟨d6,d7,d8,d9,da,db,rfl⟩
 refine .u4 (.uc (.uc (.uc (.bX ?_ ?_))))
 ·exact .lv rfl
 refine .s (ag (al q.1)) (.bd (g:=fun (y:(aw×bh×Bool×Int))=>(tp [(ag (al y.1)),(ag (aB y.2.1)),(bA y.2.2.1),(iA y.2.2.2)])) (by simp only[bR,cY]; exact x q.1 0) fun r=>.s (ag (al r.1)) (.s (ag (aB r.2.1)) (.s (bA r.2.2.1) (.s (iA r.2.2.2) (.sq (pt 20 0) (.sq (pt 21 0) (.sh (.s [bx (al a.1),bx (al f.1),bx (al h.1),bx (al i.1),bx (al j.1),bx (al l.1),bx (al b.1),bx (aB b.2.1),bx (al o.1),bx (al p.1),bx (al u.1),bx (al d.1),bx (aB d.2.1),bx (al c.1),bx (aB c.2.1),bx (al k.1),bx (al v.1),bx (al w.1),bx (al q.1),bx (aB q.2.1),bx (al r.1),bx (aB r.2.1)] (.s (ag (al r.1)) (.bd (g:=fun (y:(aw×Int))=>(tp [(ag (al y.1)),(iA y.2)])) (by simp only[bR,cY]; exact h9 r.1 0) fun a3=>.s (ag (al a3.1)) (.s (iA a3.2) (.sq (pt 22 0) (.s [bx (al a.1),bx (al f.1),bx (al h.1),bx (al i.1),bx (al j.1),bx (al l.1),bx (al b.1),bx (aB b.2.1),bx (al o.1),bx (al p.1),bx (al u.1),bx (al d.1),bx (aB d.2.1),bx (al c.1),bx (aB c.2.1),bx (al k.1),bx (al v.1),bx (al w.1),bx (al q.1),bx (aB q.2.1),bx (al r.1),bx (aB r.2.1),bx (al a3.1)] (.st (bc ..) (.bg (fun t (y:Bool)=>∃ dc dd:A,t=[(bA y),dc,dd]) ?_ ?_)))))))))))))))
 ·refine .bi ?_ ?_
  ·exact .st (bc ..) (.lg ⟨_,_,rfl⟩)
  exact .lg ⟨_,_,rfl⟩
 rintro _ el ⟨dc,dd,rfl⟩
 refine .uc (.uc (.uc (.bg (fun t (y:Bool)=>∃ de:A,t=[(bA y),de]) ?_ ?_)))
 ·refine .bi ?_ ?_
  ·exact .lg ⟨_,rfl⟩
  exact .lg ⟨_,rfl⟩
 rintro _ em ⟨de,rfl⟩
 refine .uc (.uc (.bg (fun t (y:Bool)=>∃ df dg dh:A,t=[(bA y),df,dg,dh]) ?_ ?_))
 ·refine .bi ?_ ?_
  ·exact .s (ag (aB r.2.1)) (.s (ag [(iA 0),(iA 0),(iA 3)]) (.s (bA (((r.2.1.Role==0)&&((r.2.1.Bar==0)&&(r.2.1.Program==3))))) (.lg ⟨_,_,_,rfl⟩)))
  exact .lg ⟨_,_,_,rfl⟩
 rintro _ en ⟨df,dg,dh,rfl⟩
 refine .u4 (.bg (fun t (y:Bool)=>∃ di dj dk dl dm:A,t=[(bA y),di,dj,dk,dl,dm]) ?_ ?_)
 ·refine .bi ?_ ?_
  ·exact .s (pt 22 0) (.s (pt 22 0) (.s (im (a3.1.Net.Queue.map ak) false) (.st (ef (e:=68)) (.st (bc ..) (.lg ⟨_,_,_,_,_,rfl⟩)))))
  exact .lg ⟨_,_,_,_,_,rfl⟩
 rintro _ eo ⟨di,dj,dk,dl,dm,rfl⟩
 exact .u4 (.uc (.uc (.lv rfl)))
def G5  : Option Bool:=F5 aE
def K5 (C:OT):Prop:=∀ (_:Unit),C 5 []=(G5 ).map fun y=>(bA y)
def NO (n:Nat) (a:aD):Option Bool:=
 (bif (decide (((a.Queue.length:Int))<=40)) then (some (decide (((a.Apart.length:Int))<=40))) else (some false)).bind fun b=>some b
theorem Vc (C:OT) (n:Nat) (a:aD):TJ C n 22 [(ag [(im (a.Queue.map ak) false),(im (a.Apart.map aq) false)])] (NO n a) (fun y=>(bA y)):=by
 refine .lp (Wb ..) ?_
 unfold NO
 refine .s ((pt 0 0),[bx [(im (a.Queue.map ak) false),(im (a.Apart.map aq) false)]]) (.s2 (im (a.Queue.map ak) false) (.st (ef (e:=68)) (.st (en ..) (.bg (fun t (y:Bool)=>∃ b c d f:A,t=[(bA y),b,c,d,f]) ?_ ?_))))
 ·refine .bi ?_ ?_
  ·exact .s (pt 0 1) (.s (im (a.Apart.map aq) false) (.st (ef (e:=99)) (.st (en ..) (.lg ⟨_,_,_,_,rfl⟩))))
  exact .lg ⟨_,_,_,_,rfl⟩
 rintro _ g ⟨b,c,d,f,rfl⟩
 exact .u4 (.uc (.lv rfl))
def KK (a:aD):Option Bool:=NO aE a
def Hx (C:OT):Prop:=∀ (a:aD),C 22 [(ag [(im (a.Queue.map ak) false),(im (a.Apart.map aq) false)])]=(KK a).map fun y=>(bA y)
def nW (n:Nat) (d:Bool) (b:aw):Nat->Int->Option ((Bool)⊕(Unit))
 | 0,_=>none
 | m+1,c=>bif (decide (c<((b.Ears.length:Int)))) then ((bL b.Ears c).bind fun a=>(bif (decide (40<((a.Cues.length:Int)))) then (some true) else ((bif (decide (60<((a.Got.length:Int)))) then (some (decide (((a.Got.length:Int))<4094))) else (some false)).bind fun e=>some e)).bind fun f=>(bif f then (some true) else (some (decide (5000<((a.Got.length:Int)))))).bind fun g=>(bif g then (some true) else (some (decide (5000<((a.Did.length:Int)))))).bind fun h=>bif h then (some ((Sum.inl false))) else (nW n d b m (wr .i64 (c+1)))) else (some ((Sum.inr (()))))
theorem IX (g:Bool) (b:aw) {K:((Bool)⊕(Unit))->Option γ} (x0:∀ (h:Bool) (c:A) (d:A) (q0:aO) (q1:aO),J φ (kr (St.mk [(1,c),(2,(bA h)),(4,d)] [q0,q1])) kL (K (Sum.inl h)) some) (x1:∀ (c:A) (s2:A) (d:A) (q0:aO),J φ (kx 0 (St.mk [(1,c),(2,s2),(4,d)] [q0])) kL (K (Sum.inr (()))) some) :
  ∀ (m:Nat) (f:Int),J φ (aN (cx C) (ec C n 8) (ey C n 8) (n+8) 6 0 0 1 kx kg kr kp m (St.mk [(1,(pt 0 0)),(2,(bA g)),(4,(iA f))] [bx (al b)])) kL (nW n g b m f) K:=by
  refine nI (fun _=>.nn) fun m ih f=>.lp (QK ..) ?_
  unfold nW
  refine .s2 (im (b.Ears.map az) false) (.st (ef (e:=50)) (.st (aY ..) (.bX ?_ ?_)))
  ·refine .s2 (im (b.Ears.map az) false) (.bd (eP (e:=50) (es:=3)) fun a=>.s (ag (az a)) (.sq (pt 1 0) (.s [bx (al b),bx (az a)] (.s2 (im (a.Cues.map ay) false) (.st (ef (e:=46)) (.st (da ..) (.bg (fun t (y:Bool)=>∃ i j k l o p q r u w:A,t=[(bA y),i,j,k,l,o,p,q,r,u,w]) ?_ ?_)))))))
   ·refine .bi ?_ ?_
    ·exact .lg ⟨_,_,_,_,_,_,_,_,_,_,rfl⟩
    refine .s (pt 1 1) (.s (im (a.Got.map (cI .i64)) false) (.st (ef (e:=3)) (.st (da ..) (.bg (fun t (y:Bool)=>∃ x z a0 a1:A,t=[(bA y),x,z,a0,a1]) ?_ ?_))))
    ·refine .bi ?_ ?_
     ·exact .s (pt 1 1) (.s (im (a.Got.map (cI .i64)) false) (.st (ef (e:=3)) (.st (aY ..) (.lg ⟨_,_,_,_,rfl⟩))))
     exact .lg ⟨_,_,_,_,rfl⟩
    rintro _ ad ⟨x,z,a0,a1,rfl⟩
    exact .u4 (.uc (.lg ⟨_,_,_,_,_,_,_,_,_,_,rfl⟩))
   rintro _ ae ⟨i,j,k,l,o,p,q,r,u,w,rfl⟩
   refine .u4 (.u4 (.uc (.uc (.uc (.bg (fun t (y:Bool)=>∃ a2 a3 a4 a5:A,t=[(bA y),a2,a3,a4,a5]) ?_ ?_)))))
   ·refine .bi ?_ ?_
    ·exact .lg ⟨_,_,_,_,rfl⟩
    exact .s (pt 1 1) (.s (im (a.Got.map (cI .i64)) false) (.st (ef (e:=3)) (.st (da ..) (.lg ⟨_,_,_,_,rfl⟩))))
   rintro _ af ⟨a2,a3,a4,a5,rfl⟩
   refine .u4 (.uc (.bg (fun t (y:Bool)=>∃ a6 a7 a8 a9:A,t=[(bA y),a6,a7,a8,a9]) ?_ ?_))
   ·refine .bi ?_ ?_
    ·exact .lg ⟨_,_,_,_,rfl⟩
    exact .s (pt 1 2) (.s (im (a.Did.map (cI .i64)) false) (.st (ef (e:=3)) (.st (da ..) (.lg ⟨_,_,_,_,rfl⟩))))
   rintro _ ah ⟨a6,a7,a8,a9,rfl⟩
   refine .u4 (.uc (.bX ?_ ?_))
   ·exact .ex (x0 _ _ _ _ _)
   refine .st (aJ ..) (.st (v:=[bx (al b)]) (fa r7 u2) (.cT r7 ?_))
   exact ih _
  exact .ex (x1 _ _ _ _)
def F6 (n:Nat) (a:aw):Option Bool:=
 (KK a.Net).bind fun b=>(bif (!b) then (some true) else (some (decide (20<((a.Ears.length:Int)))))).bind fun c=>bif c then (some false) else ((nW n false a (n+8) 0).bind fun OQ=>match OQ with | (Sum.inl d)=>some d | (Sum.inr _)=>some true)
theorem T6 (C:OT) (n:Nat) (h:Hx C) (a:aw):TJ C n 6 [(ag (al a))] (F6 n a) (fun y=>(bA y)):=by
 refine .lp (e6 ..) ?_
 unfold F6
 refine .s ((pt 0 0),[bx (al a)]) (.s2 (ag [(im (a.Net.Queue.map ak) false),(im (a.Net.Apart.map aq) false)]) (.bd (g:=fun (y:Bool)=>(bA y)) (by simp only[bR,cY]; exact h a.Net) fun i=>.s (bA (!i)) (.bg (fun t (y:Bool)=>∃ b c d f:A,t=[(bA y),b,c,d,f]) ?_ ?_)))
 ·refine .bi ?_ ?_
  ·exact .lg ⟨_,_,_,_,rfl⟩
  exact .s (pt 0 2) (.s (im (a.Ears.map az) false) (.st (ef (e:=50)) (.st (da ..) (.lg ⟨_,_,_,_,rfl⟩))))
 rintro _ j ⟨b,c,d,f,rfl⟩
 refine .u4 (.uc (.bX ?_ ?_))
 ·exact .lv rfl
 refine .as (IX C n _ _ _ _ false a ?_ ?_ _ 0)
 ·intro k l o w95 w96
  exact .un rfl (.lv rfl)
 ·intro p q r w100
  exact .un rfl (.cT r7 (.lv rfl))
def G6 (a:aw):Option Bool:=F6 aE a
def K6 (C:OT):Prop:=∀ (a:aw),C 6 [(ag (al a))]=(G6 a).map fun y=>(bA y)
def N8 (n:Nat) (a:Int) (b:Int) (a2:Int):Option Bool:=
 (bif (decide (b<=a)) then (some (decide (a<=a2))) else (some false)).bind fun c=>some c
theorem Vy (C:OT) (n:Nat) (a:Int) (b:Int) (a2:Int):TJ C n 60 [(iA a),(iA b),(iA a2)] (N8 n a b a2) (fun y=>(bA y)):=by
 refine .lp (Wy ..) ?_
 unfold N8
 refine .st (c9 ..) (.bg (fun t (y:Bool)=>∃ c d e:A,t=[(bA y),c,d,e]) ?_ ?_)
 ·refine .bi ?_ ?_
  ·exact .st (en ..) (.lg ⟨_,_,_,rfl⟩)
  exact .lg ⟨_,_,_,rfl⟩
 rintro _ f ⟨c,d,e,rfl⟩
 exact .u4 (.lv rfl)
def BS (a:Int) (b:Int) (a2:Int):Option Bool:=N8 aE a b a2
def tW (C:OT):Prop:=∀ (a:Int) (b:Int) (a2:Int),C 60 [(iA a),(iA b),(iA a2)]=(BS a b a2).map fun y=>(bA y)
def Ou (n:Nat) (a:Int):Option Bool:=
 (bif (decide (0<=a)) then (some (decide (a<24))) else (some false)).bind fun b=>some b
theorem VT (C:OT) (n:Nat) (a:Int):TJ C n 87 [(iA a)] (Ou n a) (fun y=>(bA y)):=by
 refine .lp (WW ..) ?_
 unfold Ou
 refine .st (c9 ..) (.bg (fun t (y:Bool)=>∃ b c:A,t=[(bA y),b,c]) ?_ ?_)
 ·refine .bi ?_ ?_
  ·exact .st (aY ..) (.lg ⟨_,_,rfl⟩)
  exact .lg ⟨_,_,rfl⟩
 rintro _ d ⟨b,c,rfl⟩
 exact .uc (.uc (.uc (.lv rfl)))
def Hm (a:Int):Option Bool:=Ou aE a
def Ac (C:OT):Prop:=∀ (a:Int),C 87 [(iA a)]=(Hm a).map fun y=>(bA y)
def Ot (n:Nat) (a:aA):Option Bool:=
 (Hm a.From).bind fun b=>(bif b then ((Hm a.To).bind fun c=>some c) else (some false)).bind fun d=>(bif d then (some (a.From != a.To)) else (some false)).bind fun e=>(bif e then (some (decide (((a.Data.length:Int))<=1048576))) else (some false)).bind fun f=>some f
theorem VS (C:OT) (n:Nat) (b:Ac C) (a:aA):TJ C n 86 [(ag (ak a))] (Ot n a) (fun y=>(bA y)):=by
 refine .lp (WV ..) ?_
 unfold Ot
 refine .s ((pt 0 0),[bx (ak a)]) (.s2 (iA a.From) (.bd (b a.From) fun r=>.bg (fun t (y:Bool)=>∃ c d f:A,t=[(bA y),c,d,f]) ?_ ?_))
 ·refine .bi ?_ ?_
  ·exact .s (pt 0 1) (.s (iA a.To) (.bd (b a.To) fun u=>.lg ⟨_,_,_,rfl⟩))
  exact .lg ⟨_,_,_,rfl⟩
 rintro _ v ⟨c,d,f,rfl⟩
 refine .u4 (.bg (fun t (y:Bool)=>∃ g h i j k:A,t=[(bA y),g,h,i,j,k]) ?_ ?_)
 ·refine .bi ?_ ?_
  ·exact .s (pt 0 0) (.s (iA a.From) (.s (pt 0 1) (.s (iA a.To) (.st (aG ..) (.lg ⟨_,_,_,_,_,rfl⟩)))))
  exact .lg ⟨_,_,_,_,_,rfl⟩
 rintro _ w ⟨g,h,i,j,k,rfl⟩
 refine .u4 (.uc (.uc (.bg (fun t (y:Bool)=>∃ l o p q:A,t=[(bA y),l,o,p,q]) ?_ ?_)))
 ·refine .bi ?_ ?_
  ·exact .s (pt 0 2) (.s (im (a.Data.map c8) false) (.st (ef (e:=5)) (.st (en ..) (.lg ⟨_,_,_,_,rfl⟩))))
  exact .lg ⟨_,_,_,_,rfl⟩
 rintro _ x ⟨l,o,p,q,rfl⟩
 exact .u4 (.uc (.lv rfl))
def Kq (a:aA):Option Bool:=Ot aE a
def Ab (C:OT):Prop:=∀ (a:aA),C 86 [(ag (ak a))]=(Kq a).map fun y=>(bA y)
def kW (n:Nat) (a:(List aA)) (c:(List (Int×Int))):Nat->Int->Option ((Int)⊕(Unit))
 | 0,_=>none
 | m+1,b=>bif (decide (b<((a.length:Int)))) then ((bL a b).bind fun d=>(Kq d).bind fun e=>bif (!e) then (some ((Sum.inl 60))) else (kW n a c m (wr .i64 (b+1)))) else (some ((Sum.inr (()))))
theorem CT (i:Ab C) {w37:A} (a:(List aA)) (b:(List (Int×Int))) {K:((Int)⊕(Unit))->Option γ} (j:∀ (f:Int) (k:A) (c:A) (q0:aO),J φ (kr (St.mk [(1,k),(2,(iA f)),(3,c)] [q0])) kL (K (Sum.inl f)) some) (l:∀ (c:A),J φ (kx 0 (St.mk [(1,(pt 0 0)),(2,w37),(3,c)] [bx [(im (a.map ak) false),(im (b.map aq) false)]])) kL (K (Sum.inr (()))) some) :
  ∀ (m:Nat) (d:Int),J φ (aN (cx C) (ec C n 8) (ey C n 8) (n+8) 61 0 0 1 kx kg kr kp m (St.mk [(1,(pt 0 0)),(2,w37),(3,(iA d))] [bx [(im (a.map ak) false),(im (b.map aq) false)]])) kL (kW n a b m d) K:=by
  refine nI (fun _=>.nn) fun m ih d=>.lp (LF ..) ?_
  unfold kW
  refine .s2 (im (a.map ak) false) (.st (ef (e:=68)) (.st (aY ..) (.bX ?_ ?_)))
  ·refine .s2 (im (a.map ak) false) (.bd (eP (e:=68) (es:=3)) fun h=>.s (ag (ak h)) (.bd (g:=fun (y:Bool)=>(bA y)) (by simp only[bR,cY]; exact i h) fun o=>.s (bA (!o)) (.bX ?_ ?_)))
   ·exact .ex (j _ _ _ _)
   refine .st (aJ ..) (.s [bx [(im (a.map ak) false),(im (b.map aq) false)]] (.cT r7 ?_))
   exact ih _
  exact .ex (l _)
def iV (n:Nat) (d:Int) (e:(List aA)) (c:(List (Int×Int))):Nat->Int->Option ((Int)⊕(Unit))
 | 0,_=>none
 | m+1,a=>bif (decide (a<((c.length:Int)))) then ((bL c a).bind fun b=>(Hm b.1).bind fun f=>(bif (!f) then (some true) else ((Hm b.2).bind fun g=>some (!g))).bind fun h=>(bif h then (some true) else (some (decide (b.2<=b.1)))).bind fun i=>bif i then (some ((Sum.inl 60))) else ((bif (decide (0<a)) then ((bL c (wr .i64 (a - 1))).bind fun j=>bif (decide (b.1<j.1)) then ((some (())).bind fun t=>(some (())).bind fun u=>(some (())).bind fun v=>some true) else ((bL c (wr .i64 (a - 1))).bind fun k=>bif (b.1==k.1) then ((bL c (wr .i64 (a - 1))).bind fun l=>(some (decide (b.2<=l.2))).bind fun o=>((some o).bind fun p=>some p).bind fun q=>(some q).bind fun r=>some r) else ((some (())).bind fun w=>((some (())).bind fun x=>some (())).bind fun y=>(some (())).bind fun z=>some false))) else ((some (())).bind fun a0=>(some (())).bind fun a1=>some false)).bind fun s=>bif s then (some ((Sum.inl 60))) else (iV n d e c m (wr .i64 (a+1))))) else (some ((Sum.inr (()))))
theorem CU (o:Ac C) (p:Int) (g:(List aA)) (b:(List (Int×Int))) {K:((Int)⊕(Unit))->Option γ} (q:∀ (r:Int) (h:A) (i:A) (q0:aO) (q1:aO),J φ (kr (St.mk [(1,h),(2,(iA r)),(4,i)] [q0,q1])) kL (K (Sum.inl r)) some) (x1:∀ (h:A) (s2:A) (i:A) (q0:aO),J φ (kx 2 (St.mk [(1,h),(2,s2),(4,i)] [q0])) kL (K (Sum.inr (()))) some) :
  ∀ (m:Nat) (j:Int),J φ (aN (cx C) (ec C n 8) (ey C n 8) (n+8) 61 0 1 1 kx kg kr kp m (St.mk [(1,(pt 0 0)),(2,(iA p)),(4,(iA j))] [bx [(im (g.map ak) false),(im (b.map aq) false)]])) kL (iV n p g b m j) K:=by
  refine nI (fun _=>.nn) fun m ih j=>.lp (LG ..) ?_
  unfold iV
  refine .s2 (im (b.map aq) false) (.st (ef (e:=99)) (.st (aY ..) (.bX ?_ ?_)))
  ·refine .s2 (im (b.map aq) false) (.bd (eP (e:=99) (es:=2)) fun a=>.s (ag [(iA a.1),(iA a.2)]) (.sq (pt 1 0) (.s [bx [(im (g.map ak) false),(im (b.map aq) false)],bx [(iA a.1),(iA a.2)]] (.s (pt 1 0) (.s (iA a.1) (.bd (o a.1) fun a8=>.s (bA (!a8)) (.bg (fun t (y:Bool)=>∃ u w x z:A,t=[(bA y),u,w,x,z]) ?_ ?_)))))))
   ·refine .bi ?_ ?_
    ·exact .lg ⟨_,_,_,_,rfl⟩
    exact .s (pt 1 1) (.s (iA a.2) (.bd (o a.2) fun a9=>.s (bA (!a9)) (.lg ⟨_,_,_,_,rfl⟩)))
   rintro _ aa ⟨u,w,x,z,rfl⟩
   refine .u4 (.uc (.bg (fun t (y:Bool)=>∃ a0 a1 a2 a3 a4:A,t=[(bA y),a0,a1,a2,a3,a4]) ?_ ?_))
   ·refine .bi ?_ ?_
    ·exact .lg ⟨_,_,_,_,_,rfl⟩
    exact .s (pt 1 0) (.s (iA a.1) (.s (pt 1 1) (.s (iA a.2) (.st (c9 ..) (.lg ⟨_,_,_,_,_,rfl⟩)))))
   rintro _ ab ⟨a0,a1,a2,a3,a4,rfl⟩
   refine .u4 (.uc (.uc (.bX ?_ ?_)))
   ·exact .ex (q _ _ _ _ _)
   refine .st (da ..) (.Ew (.bg (fun t (y:Bool)=>∃ a5:A,t=[(bA y),a5]) ?_ ?_))
   ·refine .EW (fun d=>?_) (fun d=>?_)
    ·refine .bb (.s (pt 1 0) (.s (iA a.1) (.s (pt 0 1) (.s (im (b.map aq) false) (.st (dy ..) (.bd (eP (e:=99) (es:=2)) fun k=>.s (A.ip [(iA k.1),(iA k.2)]) (.s (iA k.1) (.st (aY ..) (.HY (fun c=>?_) (fun c=>?_))))))))))
     ·refine .bb (.s (pt 1 0) (.s (iA a.1) (.s (pt 0 1) (.s (im (b.map aq) false) (.st (dy ..) (.bd (eP (e:=99) (es:=2)) fun l=>.s (A.ip [(iA l.1),(iA l.2)]) (.s (iA l.1) (.st (bc ..) (.EW (fun f=>?_) (fun f=>?_))))))))))
      ·refine .bb (.s (pt 1 1) (.s (iA a.2) (.s (pt 0 1) (.s (im (b.map aq) false) (.st (dy ..) (.bd (eP (e:=99) (es:=2)) fun a6=>.s (A.ip [(iA a6.2)]) (.s (iA a6.2) (.cr (.u4 (.u4 (.uc (.cr (.u4 (.u4 (.u4 (.u4 (.u4 (.cr (.u4 (.u4 (.u4 (.u4 (.u4 (.u4 (.u4 (.uc (.uc (.uc (.bg (fun t (y:Bool) =>  t=[(bA y)]) ?_ ?_)))))))))))))))))))))))))))))
       ·exact .lp (de f) (.st (en ..) (.lg rfl))
       rintro _ ad rfl
       refine .uc (.bg (fun t (y:Bool) =>  t=[(bA y)]) ?_ ?_)
       ·refine .lp (qu c) (.bg (fun t (y:Bool) =>  t=(bA y)) ?_ ?_)
        ·exact .ub f (.lg rfl)
        rintro _ ae rfl
        exact .lg rfl
       rintro _ af rfl
       refine .uc (.ub d (.bg (fun t (y:Bool) =>  t=(bA y)) ?_ ?_))
       ·exact .tq c (.lg rfl)
       rintro _ ah rfl
       exact .lg ⟨_,rfl⟩
      refine .bb (.cr (.u4 (.u4 (.uc (.cr (.u4 (.u4 (.u4 (.u4 (.u4 (.cr (.u4 (.u4 (.u4 (.u4 (.u4 (.u4 (.u4 (.uc (.uc (.uc (.bg (fun t (y:Unit) =>  t=[(A.v undef)]) ?_ ?_))))))))))))))))))))))
      ·exact .lp (db f) (.lg rfl)
      rintro _ ai rfl
      refine .uc (.bg (fun t (y:Unit) =>  t=[(bA false)]) ?_ ?_)
      ·refine .lp (qu c) (.bg (fun t (y:Unit) =>  t=(bA false)) ?_ ?_)
       ·exact .tq f (.lg rfl)
       rintro _ aj rfl
       exact .lg rfl
      rintro _ al rfl
      refine .uc (.ub d (.bg (fun t (y:Unit) =>  t=(bA false)) ?_ ?_))
      ·exact .tq c (.lg rfl)
      rintro _ am rfl
      exact .lg ⟨_,rfl⟩
     refine .bb (.cr (.u4 (.u4 (.u4 (.u4 (.u4 (.cr (.u4 (.u4 (.u4 (.u4 (.u4 (.u4 (.u4 (.uc (.uc (.uc (.bg (fun t (y:Unit) =>  t=[(A.v undef)]) ?_ ?_))))))))))))))))))
     ·exact .gU (.lg rfl)
     rintro _ an rfl
     refine .uc (.bg (fun t (y:Unit) =>  t=[(A.v undef)]) ?_ ?_)
     ·exact .lp (xz c) (.lg rfl)
     rintro _ ao rfl
     refine .uc (.ub d (.bg (fun t (y:Unit) =>  t=(bA true)) ?_ ?_))
     ·exact .ub c (.lg rfl)
     rintro _ ap rfl
     exact .lg ⟨_,rfl⟩
    refine .bb (.cr (.u4 (.u4 (.u4 (.u4 (.u4 (.u4 (.u4 (.uc (.uc (.uc (.bg (fun t (y:Unit) =>  t=[(A.v undef)]) ?_ ?_))))))))))))
    ·exact .gU (.lg rfl)
    rintro _ ar rfl
    refine .uc (.bg (fun t (y:Unit) =>  t=[(A.v undef)]) ?_ ?_)
    ·exact .gU (.lg rfl)
    rintro _ au rfl
    exact .uc (.tq d (.lg ⟨_,rfl⟩))
   rintro _ av ⟨a5,rfl⟩
   refine .uc (.uc (.bX ?_ ?_))
   ·exact .ex (q _ _ _ _ _)
   refine .st (aJ ..) (.st (v:=[bx [(im (g.map ak) false),(im (b.map aq) false)]]) (fa r7 u2) (.cT r7 ?_))
   exact ih _
  exact .ex (x1 _ _ _ _)
def N9 (n:Nat) (a:aD):Option Int:=
 bif (decide (4096<((a.Queue.length:Int)))) then (some 60) else ((kW n a.Queue a.Apart (n+8) 0).bind fun OG=>match OG with | (Sum.inl b)=>some b | (Sum.inr _)=>(iV n 0 a.Queue a.Apart (n+8) 0).bind fun c=>match c with | (Sum.inl d)=>some d | (Sum.inr _)=>some 0)
theorem Vz (C:OT) (n:Nat) (b:Ab C) (c:Ac C) (a:aD):TJ C n 61 [(ag [(im (a.Queue.map ak) false),(im (a.Apart.map aq) false)])] (N9 n a) (fun y=>(iA y)):=by
 refine .lp (Wz ..) ?_
 unfold N9
 refine .s ((pt 0 0),[bx [(im (a.Queue.map ak) false),(im (a.Apart.map aq) false)]]) (.s2 (im (a.Queue.map ak) false) (.st (ef (e:=68)) (.st (da ..) (.bX ?_ ?_))))
 ·exact .lv rfl
 refine .as (CT C n _ _ _ _ b a.Queue a.Apart ?_ ?_ _ 0)
 ·intro d f g w49
  exact .un rfl (.lv rfl)
 ·intro h
  refine .un rfl (.cT r7 (.as (CU C n _ _ _ _ c 0 a.Queue a.Apart ?_ ?_ _ 0)))
  ·intro i j k w525 w526
   exact .un rfl (.lv rfl)
  ·intro l o p w530
   exact .un rfl (.cT r7 (.lv rfl))
def IM (a:aD):Option Int:=N9 aE a
def z7 (C:OT):Prop:=∀ (a:aD),C 61 [(ag [(im (a.Queue.map ak) false),(im (a.Apart.map aq) false)])]=(IM a).map fun y=>(iA y)
def Ov (n:Nat) (a:aR) (b:Int):Option Bool:=
 (BS a.No 0 1048576).bind fun c=>(bif c then ((BS a.Role 0 (wr .i64 (b - 1))).bind fun d=>some d) else (some false)).bind fun e=>(bif e then ((BS a.Bar 0 4095).bind fun f=>some f) else (some false)).bind fun g=>(bif g then ((BS a.Program 1 8).bind fun h=>some h) else (some false)).bind fun i=>some i
theorem VU (C:OT) (n:Nat) (b:tW C) (a:aR) (c:Int):TJ C n 88 [(ag (ay a)),(iA c)] (Ov n a c) (fun y=>(bA y)):=by
 refine .lp (WX ..) ?_
 unfold Ov
 refine .s ((pt 0 0),[bx (ay a)]) (.s2 (iA a.No) (.bd (b a.No 0 1048576) fun q=>.bg (fun t (y:Bool)=>∃ d e f g h:A,t=[(bA y),d,e,f,g,h]) ?_ ?_))
 ·refine .bi ?_ ?_
  ·exact .s (pt 0 1) (.s (iA a.Role) (.st (dy ..) (.bd (b a.Role 0 (wr .i64 (c - 1))) fun r=>.lg ⟨_,_,_,_,_,rfl⟩)))
  exact .lg ⟨_,_,_,_,_,rfl⟩
 rintro _ u ⟨d,e,f,g,h,rfl⟩
 refine .u4 (.uc (.uc (.bg (fun t (y:Bool)=>∃ i j k:A,t=[(bA y),i,j,k]) ?_ ?_)))
 ·refine .bi ?_ ?_
  ·exact .s (pt 0 2) (.s (iA a.Bar) (.bd (b a.Bar 0 4095) fun v=>.lg ⟨_,_,_,rfl⟩))
  exact .lg ⟨_,_,_,rfl⟩
 rintro _ w ⟨i,j,k,rfl⟩
 refine .u4 (.bg (fun t (y:Bool)=>∃ l o p:A,t=[(bA y),l,o,p]) ?_ ?_)
 ·refine .bi ?_ ?_
  ·exact .s (pt 0 3) (.s (iA a.Program) (.bd (b a.Program 1 8) fun x=>.lg ⟨_,_,_,rfl⟩))
  exact .lg ⟨_,_,_,rfl⟩
 rintro _ z ⟨l,o,p,rfl⟩
 exact .u4 (.lv rfl)
def Kr (a:aR) (b:Int):Option Bool:=Ov aE a b
def Ad (C:OT):Prop:=∀ (a:aR) (b:Int),C 88 [(ag (ay a)),(iA b)]=(Kr a b).map fun y=>(bA y)
def kX (n:Nat) (c:aw) (b:bj):Nat->Int->Option ((Bool)⊕(Unit))
 | 0,_=>none
 | m+1,a=>bif (decide (a<c.Bar)) then ((bL b.Got a).bind fun d=>(BS d 0 8).bind fun e=>(bif (!e) then ((some (())).bind fun l=>some true) else ((bL b.Did a).bind fun f=>bif (f != 0) then ((bL b.Did a).bind fun g=>(bL b.Got a).bind fun h=>(some (g != h)).bind fun i=>(some i).bind fun j=>some j) else ((some (())).bind fun o=>(some (())).bind fun p=>some false))).bind fun k=>bif k then (some ((Sum.inl false))) else (kX n c b m (wr .i64 (a+1)))) else (some ((Sum.inr (()))))
theorem CV (k:tW C) {w319 w320:A} (b:aw) (a:bj) {K:((Bool)⊕(Unit))->Option γ} (l:∀ (h:Bool) (o:A) (s2:A) (p:A) (f:A) (q0:aO) (q1:aO),J φ (kr (St.mk [(1,o),(2,s2),(4,(bA h)),(5,p),(6,f)] [q0,q1])) kL (K (Sum.inl h)) some) (q:∀ (f:A),J φ (kx 0 (St.mk [(1,w319),(2,(pt 0 0)),(4,w320),(5,(pt 1 0)),(6,f)] [bx (al b),bx (az a)])) kL (K (Sum.inr (()))) some) :
  ∀ (m:Nat) (g:Int),J φ (aN (cx C) (ec C n 8) (ey C n 8) (n+8) 62 0 0 2 kx kg kr kp m (St.mk [(1,w319),(2,(pt 0 0)),(4,w320),(5,(pt 1 0)),(6,(iA g))] [bx (al b),bx (az a)])) kL (kX n b a m g) K:=by
  refine nI (fun _=>.nn) fun m ih g=>.lp (LH ..) ?_
  unfold kX
  refine .s2 (iA b.Bar) (.st (aY ..) (.bX ?_ ?_))
  ·refine .s2 (im (a.Got.map (cI .i64)) false) (.bd (eP (e:=3) (es:=1)) fun i=>.s (iA i) (.bd (k i 0 8) fun r=>.s (bA (!r)) (.J8 (.bg (fun t (y:Bool)=>∃ j:A,t=[(bA y),j]) ?_ ?_))))
   ·refine .HY (fun d=>?_) (fun d=>?_)
    ·refine .bb (.s (pt 1 2) (.s (im (a.Did.map (cI .i64)) false) (.bd (eP (e:=3) (es:=1)) fun u=>.s (iA u) (.st (aG ..) (.EW (fun c=>?_) (fun c=>?_))))))
     ·refine .bb (.s (pt 1 2) (.s (im (a.Did.map (cI .i64)) false) (.bd (eP (e:=3) (es:=1)) fun w=>.s (iA w) (.s (pt 1 1) (.s (im (a.Got.map (cI .i64)) false) (.bd (eP (e:=3) (es:=1)) fun x=>.s (iA x) (.cr (.u4 (.u4 (.uc (.uc (.cr (.u4 (.u4 (.u4 (.u4 (.uc (.bg (fun t (y:Bool) =>  t=[(bA y)]) ?_ ?_))))))))))))))))))
      ·exact .lp (de c) (.st (aG ..) (.lg rfl))
      rintro _ z rfl
      refine .uc (.tq d (.bg (fun t (y:Bool) =>  t=(bA y)) ?_ ?_))
      ·exact .ub c (.lg rfl)
      rintro _ a0 rfl
      exact .lg ⟨_,rfl⟩
     refine .bb (.cr (.u4 (.u4 (.uc (.uc (.cr (.u4 (.u4 (.u4 (.u4 (.uc (.bg (fun t (y:Unit) =>  t=[(A.v undef)]) ?_ ?_))))))))))))
     ·exact .lp (db c) (.lg rfl)
     rintro _ a1 rfl
     refine .uc (.tq d (.bg (fun t (y:Unit) =>  t=(bA false)) ?_ ?_))
     ·exact .tq c (.lg rfl)
     rintro _ a2 rfl
     exact .lg ⟨_,rfl⟩
    refine .bb (.cr (.u4 (.u4 (.u4 (.u4 (.uc (.bg (fun t (y:Unit) =>  t=[(A.v undef)]) ?_ ?_)))))))
    ·exact .gU (.lg rfl)
    rintro _ a3 rfl
    exact .uc (.ub d (.lg ⟨_,rfl⟩))
   rintro _ a4 ⟨j,rfl⟩
   refine .uc (.uc (.bX ?_ ?_))
   ·exact .ex (l _ _ _ _ _ _ _)
   refine .st (aJ ..) (.s [bx (al b),bx (az a)] (.cT r7 ?_))
   exact ih _
  exact .ex (q _)
def kY (n:Nat) (e:Int) (f:Bool) (d:aw) (b:bj):Nat->Int->Option ((Bool)⊕(Unit))
 | 0,_=>none
 | m+1,a=>bif (decide (a<((b.Cues.length:Int)))) then ((bL b.Cues a).bind fun c=>(Kr c ((d.Ears.length:Int))).bind fun g=>(bif (!g) then (some true) else (some (c.Role != e))).bind fun h=>(bif h then (some true) else (some (decide (c.Bar<d.Bar)))).bind fun i=>(bif i then ((some (())).bind fun p=>some true) else (bif (decide (0<a)) then ((bL b.Cues (wr .i64 (a - 1))).bind fun j=>(some (decide (c.Bar<=j.Bar))).bind fun k=>(some k).bind fun l=>some l) else ((some (())).bind fun q=>(some (())).bind fun r=>some false))).bind fun o=>bif o then (some ((Sum.inl false))) else (kY n e f d b m (wr .i64 (a+1)))) else (some ((Sum.inr (()))))
theorem CW (a4:Ad C) (l:Int) (o:Bool) (a:aw) (b:bj) {K:((Bool)⊕(Unit))->Option γ} (x0:∀ (p:Bool) (g:A) (s2:A) (h:A) (i:A) (q0:aO) (q1:aO) (q2:aO),J φ (kr (St.mk [(1,g),(2,s2),(4,(bA p)),(5,h),(7,i)] [q0,q1,q2])) kL (K (Sum.inl p)) some) (x1:∀ (g:A) (s2:A) (s4:A) (h:A) (i:A) (q0:aO) (q1:aO),J φ (kx 2 (St.mk [(1,g),(2,s2),(4,s4),(5,h),(7,i)] [q0,q1])) kL (K (Sum.inr (()))) some) :
  ∀ (m:Nat) (j:Int),J φ (aN (cx C) (ec C n 8) (ey C n 8) (n+8) 62 0 1 2 kx kg kr kp m (St.mk [(1,(iA l)),(2,(pt 0 0)),(4,(bA o)),(5,(pt 1 0)),(7,(iA j))] [bx (al a),bx (az b)])) kL (kY n l o a b m j) K:=by
  refine nI (fun _=>.nn) fun m ih j=>.lp (LI ..) ?_
  unfold kY
  refine .s2 (im (b.Cues.map ay) false) (.st (ef (e:=46)) (.st (aY ..) (.bX ?_ ?_)))
  ·refine .s2 (im (b.Cues.map ay) false) (.bd (eP (e:=46) (es:=4)) fun c=>.s (ag (ay c)) (.sq (pt 2 0) (.s [bx (al a),bx (az b),bx (ay c)] (.s (ag (ay c)) (.s2 (im (a.Ears.map az) false) (.st (ef (e:=50)) (.bd (a4 c ((a.Ears.length:Int))) fun a8=>.s (bA (!a8)) (.bg (fun t (y:Bool)=>∃ q r u w:A,t=[(bA y),q,r,u,w]) ?_ ?_))))))))
   ·refine .bi ?_ ?_
    ·exact .lg ⟨_,_,_,_,rfl⟩
    exact .s (pt 2 1) (.s (iA c.Role) (.st (aG ..) (.lg ⟨_,_,_,_,rfl⟩)))
   rintro _ a9 ⟨q,r,u,w,rfl⟩
   refine .u4 (.uc (.bg (fun t (y:Bool)=>∃ x z a0 a1 a2:A,t=[(bA y),x,z,a0,a1,a2]) ?_ ?_))
   ·refine .bi ?_ ?_
    ·exact .lg ⟨_,_,_,_,_,rfl⟩
    exact .s (pt 2 2) (.s (iA c.Bar) (.s (pt 0 3) (.s (iA a.Bar) (.st (aY ..) (.lg ⟨_,_,_,_,_,rfl⟩)))))
   rintro _ aa ⟨x,z,a0,a1,a2,rfl⟩
   refine .u4 (.uc (.uc (.J7 (.bg (fun t (y:Bool)=>∃ a3:A,t=[(bA y),a3]) ?_ ?_))))
   ·refine .HY (fun f=>?_) (fun f=>?_)
    ·refine .bb (.st (da ..) (.EW (fun d=>?_) (fun d=>?_)))
     ·refine .bb (.s (pt 2 2) (.s (iA c.Bar) (.s (pt 1 0) (.s (im (b.Cues.map ay) false) (.st (dy ..) (.bd (eP (e:=46) (es:=4)) fun k=>.s (A.ip [(iA k.Bar),(iA k.Program)]) (.s (iA k.Bar) (.cr (.u4 (.u4 (.uc (.cr (.u4 (.u4 (.u4 (.bg (fun t (y:Bool) =>  t=[(bA y)]) ?_ ?_))))))))))))))))
      ·exact .lp (de d) (.st (en ..) (.lg rfl))
      rintro _ ab rfl
      refine .uc (.tq f (.bg (fun t (y:Bool) =>  t=(bA y)) ?_ ?_))
      ·exact .ub d (.lg rfl)
      rintro _ ad rfl
      exact .lg ⟨_,rfl⟩
     refine .bb (.cr (.u4 (.u4 (.uc (.cr (.u4 (.u4 (.u4 (.bg (fun t (y:Unit) =>  t=[(A.v undef)]) ?_ ?_)))))))))
     ·exact .lp (db d) (.lg rfl)
     rintro _ ae rfl
     refine .uc (.tq f (.bg (fun t (y:Unit) =>  t=(bA false)) ?_ ?_))
     ·exact .tq d (.lg rfl)
     rintro _ af rfl
     exact .lg ⟨_,rfl⟩
    refine .bb (.cr (.u4 (.u4 (.u4 (.bg (fun t (y:Unit) =>  t=[(A.v undef)]) ?_ ?_)))))
    ·exact .gU (.lg rfl)
    rintro _ ah rfl
    exact .uc (.ub f (.lg ⟨_,rfl⟩))
   rintro _ ai ⟨a3,rfl⟩
   refine .uc (.uc (.bX ?_ ?_))
   ·exact .ex (x0 _ _ _ _ _ _ _ _)
   refine .st (aJ ..) (.st (v:=[bx (al a),bx (az b)]) (fa r7 u2) (.cT r7 ?_))
   exact ih _
  exact .ex (x1 _ _ _ _ _ _ _)
def Oa (n:Nat) (a:aw) (c:Int):Option Bool:=
 (bL a.Ears c).bind fun b=>(bif (((b.Got.length:Int)) != a.Bar) then (some true) else (some (((b.Did.length:Int)) != a.Bar))).bind fun d=>bif d then (some false) else ((kX n a b (n+8) 0).bind fun e=>match e with | (Sum.inl f)=>some f | (Sum.inr _)=>(kY n c false a b (n+8) 0).bind fun g=>match g with | (Sum.inl h)=>some h | (Sum.inr _)=>some true)
theorem VA (C:OT) (n:Nat) (k:tW C) (l:Ad C) (a:aw) (c:Int):TJ C n 62 [(ag (al a)),(iA c)] (Oa n a c) (fun y=>(bA y)):=by
 refine .lp (WA ..) ?_
 unfold Oa
 refine .s ((pt 0 0),[bx (al a)]) (.s2 (im (a.Ears.map az) false) (.bd (eP (e:=50) (es:=3)) fun b=>.s (ag (az b)) (.sq (pt 1 0) (.s [bx (al a),bx (az b)] (.s2 (im (b.Got.map (cI .i64)) false) (.st (ef (e:=3)) (.s2 (iA a.Bar) (.st (aG ..) (.bg (fun t (y:Bool)=>∃ d f g h i j:A,t=[(bA y),d,f,g,h,i,j]) ?_ ?_)))))))))
 ·refine .bi ?_ ?_
  ·exact .lg ⟨_,_,_,_,_,_,rfl⟩
  exact .s (pt 1 2) (.s (im (b.Did.map (cI .i64)) false) (.st (ef (e:=3)) (.s (pt 0 3) (.s (iA a.Bar) (.st (aG ..) (.lg ⟨_,_,_,_,_,_,rfl⟩))))))
 rintro _ o ⟨d,f,g,h,i,j,rfl⟩
 refine .u4 (.uc (.uc (.uc (.bX ?_ ?_))))
 ·exact .lv rfl
 refine .as (CV C n _ _ _ _ k a b ?_ ?_ _ 0)
 ·intro p q r u v w430 w431
  exact .un rfl (.lv rfl)
 ·intro w
  refine .un rfl (.cT r7 (.as (CW C n _ _ _ _ l c false a b ?_ ?_ _ 0)))
  ·intro x z a2 a3 a4 w644 w645 w646
   exact .un rfl (.lv rfl)
  ·intro a5 a6 a7 a8 a9 w652 w653
   exact .un rfl (.cT r7 (.lv rfl))
def KU (a:aw) (b:Int):Option Bool:=Oa aE a b
def Ct (C:OT):Prop:=∀ (a:aw) (b:Int),C 62 [(ag (al a)),(iA b)]=(KU a b).map fun y=>(bA y)
def lu (a:(List au)):aO:=bx [(iA 3),(iA 0),se,(bW 4 0 a.length false)]
abbrev lz:A:=(ag [(iA 0),(iA 0),se,(im [] false)])
def Ca (C:OT) (N:Nat) (self:(List UInt8)->Int->Bool->Int->Option (au×Int×Bool)):Prop:=∀ (a:(List UInt8)) (a2:Int) (b:Bool) (c:Int) (X:aC),J (fun (o:R) (y:(au×Int×Bool))=>o=(Out.ret (ag [(iA y.1.Kind),(iA y.1.N),(sA y.1.S),(im (y.1.L.map ax) false)]),[aM,bx [(im (a.map c8) false),(iA y.2.1),(bA y.2.2)]]++X)) (dZ (cx C) N 109 [(pt 1 0),(iA c)] ([aM,bx [(im (a.map c8) false),(iA a2),(bA b)]]++X) 0) some (self a a2 b c) some
def eH (n:Nat) (d:(List UInt8)):Nat->Int->Int->Int->Bool->Option ((Int×Int×Bool)⊕(Int×Bool))
 | 0,_,_,_,_=>none
 | m+1,f,b,c,e=>bif (!e) then ((bif (decide (((d.length:Int))<=c)) then (some ((0,c,true))) else ((bL d (wr .i64 ((wr .i64 (c+1)) - 1))).bind fun g=>some (((g.toNat:Int),wr .i64 (c+1),e)))).bind fun a=>(bif (b==9) then (some (decide (1<a.1))) else (some false)).bind fun h=>(bif h then (some true) else ((bif (decide (0<b)) then (some (a.1==0)) else (some false)).bind fun i=>some i)).bind fun j=>bif j then (some ((Sum.inl ((0,a.2.1,true))))) else (bif decide (0<=(wr .i64 (7*b))) then (bif (decide (a.1<128)) then (some ((Sum.inl ((wr .u64 (f+(oK .u64 (wr .u64 (Int.tmod a.1 128)) (wr .i64 (7*b)))),a.2.1,a.2.2))))) else (eH n d m (wr .u64 (f+(oK .u64 (wr .u64 (Int.tmod a.1 128)) (wr .i64 (7*b))))) (wr .i64 (b+1)) a.2.1 a.2.2)) else none)) else (some ((Sum.inr ((c,e)))))
theorem mM {w338:A} {w339:aO} (a:(List UInt8)) {K:((Int×Int×Bool)⊕(Int×Bool))->Option γ} (o:∀ (d:Int) (f:Int) (p:Bool) (h:A) (i:A) (j:A),J φ (kr (St.mk [(0,h),(2,(A.v (.int .u64 d))),(3,i),(4,j)] [aM,bx [(im (a.map c8) false),(iA f),(bA p)],w339])) kL (K (Sum.inl ((d,f,p)))) some) (x1:∀ (d:Int) (f:Bool) (h:A) (s2:A) (i:A) (j:A),J φ (kx 0 (St.mk [(0,h),(2,s2),(3,i),(4,j)] [aM,bx [(im (a.map c8) false),(iA d),(bA f)],w339])) kL (K (Sum.inr ((d,f)))) some) :
  ∀ (m:Nat) (k:Int) (l:Int) (b:Int) (c:Bool),J φ (aN (cx C) (ec C n 7) (ey C n 7) (n+7) 122 0 0 3 kx kg kr kp m (St.mk [(0,(pt 1 0)),(2,w338),(3,(A.v (.int .u64 k))),(4,(iA l))] [aM,bx [(im (a.map c8) false),(iA b),(bA c)],w339])) kL (eH n a m k l b c) K:=by
  refine nI (fun _ _ _ _=>.nn) fun m ih k l b c=>.lp (Jl ..) ?_
  unfold eH
  refine .s (pt 1 0) (.s2 (bA c) (.s (bA (!c)) (.bX ?_ ?_)))
  ·refine .bg (fun (t:Out×aC) (y:Int×Int×Bool)=>t=(Out.ret (uA y.1),[aM,bx [(im (a.map c8) false),(iA y.2.1),(bA y.2.2)],w339])) ?_ ?_
   ·refine .lp ((bf D3).trans (Lp ..)) (.s (pt 1 0) (.s2 (iA b) (.s (pt 1 0) (.s2 (im (a.map c8) false) (.st (ef (e:=5)) (.st (c9 ..) (.bX ?_ ?_)))))))
    ·exact .s (pt 1 0) (.s (pt 1 2) (.s [aM,bx [(im (a.map c8) false),(iA b),(bA true)],w339] (.lg rfl)))
    exact .s (pt 1 0) (.s2 (iA b) (.st (aJ ..) (.s (pt 1 0) (.s (pt 1 1) (.s [aM,bx [(im (a.map c8) false),(iA (wr .i64 (b+1))),(bA c)],w339] (.s (pt 1 0) (.s2 (im (a.map c8) false) (.s (pt 1 0) (.s2 (iA (wr .i64 (b+1))) (.st (dy ..) (.bd (eP (e:=5) (es:=1)) fun a5=>.s (uA ((a5.toNat:Int))) (.lg rfl))))))))))))
   rintro _ g rfl
   refine .ok (.st (bc ..) (.bg (fun t (y:Bool)=>∃ q r:A,t=[(bA y),q,r]) ?_ ?_))
   ·refine .bi ?_ ?_
    ·exact .st (da ..) (.lg ⟨_,_,rfl⟩)
    exact .lg ⟨_,_,rfl⟩
   rintro _ a6 ⟨q,r,rfl⟩
   refine .uc (.uc (.uc (.bg (fun t (y:Bool)=>∃ u w x z a0 a1:A,t=[(bA y),u,w,x,z,a0,a1]) ?_ ?_)))
   ·refine .bi ?_ ?_
    ·exact .lg ⟨_,_,_,_,_,_,rfl⟩
    refine .st (da ..) (.bg (fun t (y:Bool)=>∃ a2 a3:A,t=[(bA y),a2,a3]) ?_ ?_)
    ·refine .bi ?_ ?_
     ·exact .st (bc ..) (.lg ⟨_,_,rfl⟩)
     exact .lg ⟨_,_,rfl⟩
    rintro _ a7 ⟨a2,a3,rfl⟩
    exact .uc (.uc (.uc (.lg ⟨_,_,_,_,_,_,rfl⟩)))
   rintro _ a8 ⟨u,w,x,z,a0,a1,rfl⟩
   refine .u4 (.uc (.uc (.uc (.bX ?_ ?_))))
   ·exact .s (pt 1 0) (.s (pt 1 2) (.s [aM,bx [(im (a.map c8) false),(iA g.2.1),(bA true)],w339] (.ex (o _ _ _ _ _ _))))
   refine .st (rf (hb:=by decide) ..) (.st (v:=(A.v (.int .u64 (wr .u64 (Int.tmod g.1 128))))) (aQ (hs:=by kernel_rfl) (hd:=by kernel_rfl) ..) (.st (oS ..) (.gd fun hg=>.st (rh (hb:=XY hg) ..) (.st (aJ ..) (.st (aY ..) (.bX ?_ ?_))))))
   ·exact .ex (o _ _ _ _ _ _)
   refine .st (aJ ..) (.s [aM,bx [(im (a.map c8) false),(iA g.2.1),(bA g.2.2)],w339] (.cT r7 ?_))
   exact ih _ _ _ _
  exact .ex (x1 _ _ _ _ _ _)
def eG (self:(List UInt8)->Int->Bool->Int->Option (au×Int×Bool)) (n:Nat) (c:Int) (d:Int) (e:(List UInt8)) (i:Int) (j:Int) (k:ByteArray):Nat->Int->Int->Bool->(List au)->Option (Int×Bool×(List au))
 | 0,_,_,_,_=>none
 | m+1,f,g,a,h=>(bif (decide (f<d)) then (some (!a)) else (some false)).bind fun l=>bif l then ((self e g a (wr .i64 (c+1))).bind fun b=>(cz 56 h ([b.1])).bind fun o=>eG self n c d e i j k m (wr .u64 (f+1)) b.2.1 b.2.2 o) else (some ((g,a,h)))
theorem wI (self:(List UInt8)->Int->Bool->Int->Option (au×Int×Bool)) (hS:Ca C (n+8) self) {w1142:A} {w1143:aO} (o:Int) (r:Int) (d:(List UInt8)) (e:Int) (h:Int) (i:ByteArray) {K:(Int×Bool×(List au))->Option γ} (x0:∀ (u:Int) (w:Bool) (p:(List au)) (s1:A) (s7:A) (s9:A),J φ (kx 1 (St.mk [(0,(pt 1 0)),(1,s1),(4,w1142),(7,s7),(8,(pt 3 0)),(9,s9)] [aM,bx [(im (d.map c8) false),(iA u),(bA w)],w1143,bx [(iA e),(iA h),(sA i),(bW 4 0 p.length false)],aO.row false 4 (p.map ax)])) kL (K (u,w,p)) some) :
  ∀ (m:Nat) (q:Int) (k:Int) (j:Bool) (a:(List au)),J φ (aN (cx C) (ec C n 8) (ey C n 8) (n+8) 109 0 0 5 kx kg kr kp m (St.mk [(0,(pt 1 0)),(1,(iA o)),(4,w1142),(7,(A.v (.int .u64 r))),(8,(pt 3 0)),(9,(A.v (.int .u64 q)))] [aM,bx [(im (d.map c8) false),(iA k),(bA j)],w1143,bx [(iA e),(iA h),(sA i),(bW 4 0 a.length false)],aO.row false 4 (a.map ax)])) kL (eG self n o r d e h i m q k j a) K:=by
  refine nI (fun _ _ _ _=>.nn) fun m ih q k j a=>.lp (Je ..) ?_
  unfold eG
  refine .st (aY ..) (.bg (fun t (y:Bool)=>∃ x z a0 a1 a2:A,t=[(bA y),x,z,a0,a1,a2]) ?_ ?_)
  ·refine .bi ?_ ?_
   ·exact .s (pt 1 0) (.s (pt 1 2) (.s (bA j) (.s (bA (!j)) (.lg ⟨_,_,_,_,_,rfl⟩))))
   exact .lg ⟨_,_,_,_,_,rfl⟩
  rintro _ a8 ⟨x,z,a0,a1,a2,rfl⟩
  refine .u4 (.uc (.uc (.bX ?_ ?_)))
  ·refine .s (pt 3 3) (.s (bW 4 0 a.length false) (.st (aJ ..) (.cT r7 (.bg (fun (t:R) (y:(au×Int×Bool))=>t=(Out.ret (ag [(iA y.1.Kind),(iA y.1.N),(sA y.1.S),(im (y.1.L.map ax) false)]),[aM,bx [(im (d.map c8) false),(iA y.2.1),(bA y.2.2)],w1143,bx [(iA e),(iA h),(sA i),(bW 4 0 a.length false)],aO.row false 4 (a.map ax)])) (hS d k j (wr .i64 (o+1)) [w1143,bx [(iA e),(iA h),(sA i),(bW 4 0 a.length false)],aO.row false 4 (a.map ax)]) ?_))))
   rintro _ c rfl
   refine .ok (.s (im [[(iA c.1.Kind),(iA c.1.N),(sA c.1.S),(im (c.1.L.map ax) false)]] true) (.bd (g:=fun (y:List au)=>((bW 4 0 y.length false),[aM,bx [(im (d.map c8) false),(iA c.2.1),(bA c.2.2)],w1143,bx [(iA e),(iA h),(sA i),(bW 4 0 a.length false)],aO.row false 4 (y.map ax)])) (cj eS (l:=a) (l2:=[c.1]) (b:=4) rfl (by decide) (g7 (f:=ax) (l:=([c.1]:List au)) An)) fun a3=>.s (pt 3 3) (.sh (.st (aJ ..) (.s [aM,bx [(im (d.map c8) false),(iA c.2.1),(bA c.2.2)],w1143,bx [(iA e),(iA h),(sA i),(bW 4 0 a3.length false)],aO.row false 4 (a3.map ax)] (.cT r7 ?_))))))
   exact ih _ _ _ _
  exact .ex (x0 _ _ _ _ _ _)
def qm (self:(List UInt8)->Int->Bool->Int->Option (au×Int×Bool)) (n:Nat) (c:(List UInt8)) (a2:Int) (g:Bool) (f:Int):Option (au×Int×Bool):=
 (bif (decide (((c.length:Int))<=a2)) then (some ((0,a2,true))) else ((bL c (wr .i64 ((wr .i64 (a2+1)) - 1))).bind fun h=>some (((h.toNat:Int),wr .i64 (a2+1),g)))).bind fun b=>bif (b.1==1) then (((eH n c (n+7) 0 0 b.2.1 b.2.2).bind fun i=>match i with | (Sum.inl ((j,k,l)))=>some ((j,k,l)) | (Sum.inr ((o,p)))=>some ((0,o,p))).bind fun d=>bif ((Int.tmod d.1 2)==1) then (some (((au.mk 1 (wr .i64 ((wr .i64 (0 - (wr .i64 (wr .u64 (Int.tdiv d.1 2))))) - 1)) jl ([])),d.2.1,d.2.2))) else (some (((au.mk 1 (wr .i64 (wr .u64 (Int.tdiv d.1 2))) jl ([])),d.2.1,d.2.2)))) else (bif (b.1==2) then (((eH n c (n+7) 0 0 b.2.1 b.2.2).bind fun q=>match q with | (Sum.inl ((r,s,t)))=>some ((r,s,t)) | (Sum.inr ((u,v)))=>some ((0,u,v))).bind fun a=>(bif a.2.2 then (some true) else (some (decide ((wr .u64 (wr .i64 (((c.length:Int)) - a.2.1)))<a.1)))).bind fun w=>bif w then (some (((au.mk 0 0 jl ([])),a.2.1,true))) else ((fk c (wr .i64 ((wr .i64 (a.2.1+(wr .i64 (a.1)))) - (wr .i64 (a.1)))) (wr .i64 (a.2.1+(wr .i64 (a.1))))).bind fun x=>some (((au.mk 2 0 (gn x) ([])),wr .i64 (a.2.1+(wr .i64 (a.1))),a.2.2)))) else (bif (b.1==3) then (((eH n c (n+7) 0 0 b.2.1 b.2.2).bind fun y=>match y with | (Sum.inl ((z,a0,a5)))=>some ((z,a0,a5)) | (Sum.inr ((a6,a7)))=>some ((0,a6,a7))).bind fun e=>(bif e.2.2 then (some true) else (some (decide ((wr .u64 (wr .i64 (((c.length:Int)) - e.2.1)))<e.1)))).bind fun a8=>(bif a8 then (some true) else (some (f==16))).bind fun a9=>bif a9 then (some (((au.mk 0 0 jl ([])),e.2.1,true))) else ((eG self n f e.1 c 3 0 jl (n+8) 0 e.2.1 e.2.2 (([]:List au))).bind fun aa=>match aa with | (ab,ad,ae)=>some (((au.mk 3 0 jl ae),ab,ad)))) else (some (((au.mk 0 0 jl ([])),b.2.1,true)))))
theorem Lb (C:OT) (n:Nat) (self:(List UInt8)->Int->Bool->Int->Option (au×Int×Bool)) (hS:Ca C (n+8) self) (c:(List UInt8)) (a2:Int) (q:Bool) (r:Int):J (fun (o:R) (y:(au×Int×Bool))=>∃ Z,o=(Out.ret (ag [(iA y.1.Kind),(iA y.1.N),(sA y.1.S),(im (y.1.L.map ax) false)]),[aM,bx [(im (c.map c8) false),(iA y.2.1),(bA y.2.2)]]++Z)) (aF (cx C) (ec C n 8) (ey C n 8) (n+8) 109 [(pt 1 0),(iA r)] [aM,bx [(im (c.map c8) false),(iA a2),(bA q)]] 0) some (qm self n c a2 q r) some:=by
 refine .lp (QB ..) ?_
 unfold qm
 refine .s ((pt 2 0),[aM,bx [(im (c.map c8) false),(iA a2),(bA q)],aM]) (.bg (fun (t:Out×aC) (y:Int×Int×Bool)=>t=(Out.ret (uA y.1),[aM,bx [(im (c.map c8) false),(iA y.2.1),(bA y.2.2)],aM])) ?_ ?_)
 ·refine .lp ((bf D3).trans (Lp ..)) (.s (pt 1 0) (.s2 (iA a2) (.s (pt 1 0) (.s2 (im (c.map c8) false) (.st (ef (e:=5)) (.st (c9 ..) (.bX ?_ ?_)))))))
  ·exact .s (pt 1 0) (.s (pt 1 2) (.s [aM,bx [(im (c.map c8) false),(iA a2),(bA true)],aM] (.lg rfl)))
  exact .s (pt 1 0) (.s2 (iA a2) (.st (aJ ..) (.s (pt 1 0) (.s (pt 1 1) (.s [aM,bx [(im (c.map c8) false),(iA (wr .i64 (a2+1))),(bA q)],aM] (.s (pt 1 0) (.s2 (im (c.map c8) false) (.s (pt 1 0) (.s2 (iA (wr .i64 (a2+1))) (.st (dy ..) (.bd (eP (e:=5) (es:=1)) fun a9=>.s (uA ((a9.toNat:Int))) (.lg rfl))))))))))))
 rintro _ j rfl
 refine .ok (.st (bc ..) (.bX ?_ ?_))
 ·refine .bg (fun (t:Out×aC) (y:Int×Int×Bool)=>t=(Out.ret (A.v (.int .u64 y.1)),[aM,bx [(im (c.map c8) false),(iA y.2.1),(bA y.2.2)],aM])) ?_ ?_
  ·refine .lp ((bf zt).trans (Jk ..)) (.as (mM C n _ _ _ _ c ?_ ?_ _ 0 0 j.2.1 j.2.2))
   ·intro aa ab ad ae af ah
    exact .un rfl (.lg rfl)
   ·intro ai aj ak al am an
    exact .un rfl (.cT r7 (.lg rfl))
  rintro _ g rfl
  refine .ok (.st (rf (hb:=by decide) ..) (.st (bc ..) (.bX ?_ ?_)))
  ·exact .st (re (hb:=by decide) ..) (.st (v:=(iA (wr .i64 (wr .u64 (Int.tdiv g.1 2))))) (aQ (hs:=by kernel_rfl) (hd:=by kernel_rfl) ..) (.s (iA (wr .i64 (0 - (wr .i64 (wr .u64 (Int.tdiv g.1 2)))))) (.st (dy ..) (.s (ag [(iA 1),(iA (wr .i64 ((wr .i64 (0 - (wr .i64 (wr .u64 (Int.tdiv g.1 2))))) - 1))),se,XL]) (.s [aM,bx [(im (c.map c8) false),(iA g.2.1),(bA g.2.2)],bx [(iA 1),(iA (wr .i64 ((wr .i64 (0 - (wr .i64 (wr .u64 (Int.tdiv g.1 2))))) - 1))),se,XL]] (.s (ag [(iA 1),(iA (wr .i64 ((wr .i64 (0 - (wr .i64 (wr .u64 (Int.tdiv g.1 2))))) - 1))),se,(im [] false)]) (.lf rfl rfl (gm (o:=Out.ret (ag [(iA 1),(iA (wr .i64 ((wr .i64 (0 - (wr .i64 (wr .u64 (Int.tdiv g.1 2))))) - 1))),se,(im [] false)])) (lo:=0) (off:=3) (b:=2) (p:=0) (H2:=[aM,bx [(im (c.map c8) false),(iA g.2.1),(bA g.2.2)]]) (X:=[bx [(iA 1),(iA (wr .i64 ((wr .i64 (0 - (wr .i64 (wr .u64 (Int.tdiv g.1 2))))) - 1))),se,XL]]) (Yp rfl)))))))))
  exact .st (re (hb:=by decide) ..) (.st (v:=(iA (wr .i64 (wr .u64 (Int.tdiv g.1 2))))) (aQ (hs:=by kernel_rfl) (hd:=by kernel_rfl) ..) (.s (ag [(iA 1),(iA (wr .i64 (wr .u64 (Int.tdiv g.1 2)))),se,XL]) (.s [aM,bx [(im (c.map c8) false),(iA g.2.1),(bA g.2.2)],bx [(iA 1),(iA (wr .i64 (wr .u64 (Int.tdiv g.1 2)))),se,XL]] (.s (ag [(iA 1),(iA (wr .i64 (wr .u64 (Int.tdiv g.1 2)))),se,(im [] false)]) (.lf rfl rfl (gm (o:=Out.ret (ag [(iA 1),(iA (wr .i64 (wr .u64 (Int.tdiv g.1 2)))),se,(im [] false)])) (lo:=0) (off:=3) (b:=2) (p:=0) (H2:=[aM,bx [(im (c.map c8) false),(iA g.2.1),(bA g.2.2)]]) (X:=[bx [(iA 1),(iA (wr .i64 (wr .u64 (Int.tdiv g.1 2)))),se,XL]]) (Yp rfl)))))))
 refine .st (bc ..) (.bX ?_ ?_)
 ·refine .bg (fun (t:Out×aC) (y:Int×Int×Bool)=>t=(Out.ret (A.v (.int .u64 y.1)),[aM,bx [(im (c.map c8) false),(iA y.2.1),(bA y.2.2)],aM])) ?_ ?_
  ·refine .lp ((bf zt).trans (Jk ..)) (.as (mM C n _ _ _ _ c ?_ ?_ _ 0 0 j.2.1 j.2.2))
   ·intro ao ap aq ar av aw
    exact .un rfl (.lg rfl)
   ·intro ay az b0 b1 b2 b3
    exact .un rfl (.cT r7 (.lg rfl))
  rintro _ d rfl
  refine .ok (.s (pt 1 0) (.s2 (bA d.2.2) (.Nb (.bg (fun t (y:Bool)=>∃ a5:A,t=[(bA y),a5]) ?_ ?_))))
  ·refine .HY (fun u=>?_) (fun u=>?_)
   ·exact .bb (.s (pt 1 0) (.s (pt 1 0) (.s (im (c.map c8) false) (.st (ef (e:=5)) (.s (pt 1 0) (.s (pt 1 1) (.s (iA d.2.1) (.st (dy ..) (.st (v:=(A.v (.int .u64 (wr .u64 (wr .i64 (((c.length:Int)) - d.2.1)))))) (aQ (hs:=by kernel_rfl) (hd:=by kernel_rfl) ..) (.cr (.u4 (.u4 (.u4 (.tq u (.st (da ..) (.lg ⟨_,rfl⟩))))))))))))))))
   exact .bb (.cr (.u4 (.u4 (.u4 (.ub u (.lg ⟨_,rfl⟩))))))
  rintro _ b4 ⟨a5,rfl⟩
  refine .uc (.uc (.bX ?_ ?_))
  ·exact .s (pt 1 0) (.s (pt 1 2) (.sh (.s (ag [(iA 0),(iA 0),se,XL]) (.s [aM,bx [(im (c.map c8) false),(iA d.2.1),(bA true)],aM] (.s lz (.lf rfl rfl (gm (o:=Out.ret lz) (lo:=0) (off:=3) (b:=2) (p:=0) (H2:=[aM,bx [(im (c.map c8) false),(iA d.2.1),(bA true)]]) (X:=[aM]) (Yp rfl))))))))
  exact .s (pt 1 0) (.s2 (iA d.2.1) (.st (v:=(iA (wr .i64 (d.1)))) (aQ (hs:=by kernel_rfl) (hd:=by kernel_rfl) ..) (.st (aJ ..) (.s (pt 1 0) (.s (pt 1 1) (.s [aM,bx [(im (c.map c8) false),(iA (wr .i64 (d.2.1+(wr .i64 (d.1))))),(bA d.2.2)],aM] (.s (pt 1 0) (.s2 (im (c.map c8) false) (.s (pt 1 0) (.s2 (iA (wr .i64 (d.2.1+(wr .i64 (d.1))))) (.st (v:=(iA (wr .i64 (d.1)))) (aQ (hs:=by kernel_rfl) (hd:=by kernel_rfl) ..) (.st (dy ..) (.s (pt 1 0) (.s2 (iA (wr .i64 (d.2.1+(wr .i64 (d.1))))) (.bd (gY (e:=5) (es:=1) (f:=c8) (l:=c) (a:=wr .i64 ((wr .i64 (d.2.1+(wr .i64 (d.1)))) - (wr .i64 (d.1)))) (b:=wr .i64 (d.2.1+(wr .i64 (d.1)))) r7 r7 (fun _=>rfl) (.inr ⟨_,rfl⟩) (.inr ⟨_,rfl⟩)) fun k=>.st (v:=(A.v (Value.string (gn k)))) (nw (e:=5) (l:=k) r7 r7 r7 r7 (bC ..) rfl) (.s (ag [(iA 2),(iA 0),(A.v (Value.string (gn k))),XL]) (.s [aM,bx [(im (c.map c8) false),(iA (wr .i64 (d.2.1+(wr .i64 (d.1))))),(bA d.2.2)],bx [(iA 2),(iA 0),(A.v (Value.string (gn k))),XL]] (.s (ag [(iA 2),(iA 0),(A.v (Value.string (gn k))),(im [] false)]) (.lf rfl rfl (gm (o:=Out.ret (ag [(iA 2),(iA 0),(A.v (Value.string (gn k))),(im [] false)])) (lo:=0) (off:=3) (b:=2) (p:=0) (H2:=[aM,bx [(im (c.map c8) false),(iA (wr .i64 (d.2.1+(wr .i64 (d.1))))),(bA d.2.2)]]) (X:=[bx [(iA 2),(iA 0),(A.v (Value.string (gn k))),XL]]) (Yp rfl)))))))))))))))))))))
 refine .st (bc ..) (.bX ?_ ?_)
 ·refine .bg (fun (t:Out×aC) (y:Int×Int×Bool)=>t=(Out.ret (A.v (.int .u64 y.1)),[aM,bx [(im (c.map c8) false),(iA y.2.1),(bA y.2.2)],aM])) ?_ ?_
  ·refine .lp ((bf zt).trans (Jk ..)) (.as (mM C n _ _ _ _ c ?_ ?_ _ 0 0 j.2.1 j.2.2))
   ·intro b5 b6 b7 b8 b9 ba
    exact .un rfl (.lg rfl)
   ·intro be bh bj bk bl bm
    exact .un rfl (.cT r7 (.lg rfl))
  rintro _ i rfl
  refine .ok (.s (pt 1 0) (.s2 (bA i.2.2) (.Nb (.bg (fun t (y:Bool)=>∃ a6:A,t=[(bA y),a6]) ?_ ?_))))
  ·refine .HY (fun w=>?_) (fun w=>?_)
   ·exact .bb (.s (pt 1 0) (.s (pt 1 0) (.s (im (c.map c8) false) (.st (ef (e:=5)) (.s (pt 1 0) (.s (pt 1 1) (.s (iA i.2.1) (.st (dy ..) (.st (v:=(A.v (.int .u64 (wr .u64 (wr .i64 (((c.length:Int)) - i.2.1)))))) (aQ (hs:=by kernel_rfl) (hd:=by kernel_rfl) ..) (.cr (.u4 (.u4 (.u4 (.tq w (.st (da ..) (.lg ⟨_,rfl⟩))))))))))))))))
   exact .bb (.cr (.u4 (.u4 (.u4 (.ub w (.lg ⟨_,rfl⟩))))))
  rintro _ bn ⟨a6,rfl⟩
  refine .uc (.uc (.bg (fun t (y:Bool)=>∃ a7 a8:A,t=[(bA y),a7,a8]) ?_ ?_))
  ·refine .bi ?_ ?_
   ·exact .lg ⟨_,_,rfl⟩
   exact .st (bc ..) (.lg ⟨_,_,rfl⟩)
  rintro _ bo ⟨a7,a8,rfl⟩
  refine .uc (.uc (.uc (.bX ?_ ?_)))
  ·exact .s (pt 1 0) (.s (pt 1 2) (.sh (.s (ag [(iA 0),(iA 0),se,XL]) (.s [aM,bx [(im (c.map c8) false),(iA i.2.1),(bA true)],aM] (.s lz (.lf rfl rfl (gm (o:=Out.ret lz) (lo:=0) (off:=3) (b:=2) (p:=0) (H2:=[aM,bx [(im (c.map c8) false),(iA i.2.1),(bA true)]]) (X:=[aM]) (Yp rfl))))))))
  refine .s (ag [(iA 3),(iA 0),se,XL]) (.sq (pt 3 0) (.s [aM,bx [(im (c.map c8) false),(iA i.2.1),(bA i.2.2)],aM,bx [(iA 3),(iA 0),se,XL]] (.as (wI C n _ _ _ _ self hS r i.1 c 3 0 jl ?_ _ 0 i.2.1 i.2.2 (([]:List au))))))
  ·intro x a0 h bp bq br
   exact .un rfl (.cT r7 (.s (ag [(iA 3),(iA 0),se,(bW 4 0 h.length false)]) (.s [aM,bx [(im (c.map c8) false),(iA x),(bA a0)],(lu h),(lu h),aO.row false 4 (h.map ax)] (.st (v:=(ag [(iA 3),(iA 0),se,(im (h.map ax) false)])) ((YF (fun z=>lh prog 108 (pt 2 0) z) (wT (H:=[aM,bx [(im (c.map c8) false),(iA x),(bA a0)],(lu h),(lu h),aO.row false 4 (h.map ax)]) (lo:=0) (off:=3) (b:=2) (o:=0) (b':=4) (es:=4) (l:=h) cM rfl rfl rfl (Yp rfl))).trans r7) (.lf rfl rfl (gm (o:=Out.ret (ag [(iA 3),(iA 0),se,(im (h.map ax) false)])) (lo:=0) (off:=3) (b:=2) (p:=0) (H2:=[aM,bx [(im (c.map c8) false),(iA x),(bA a0)]]) (X:=[(lu h),(lu h),aO.row false 4 (h.map ax)]) (Yp rfl)))))))
 exact .s (pt 1 0) (.s (pt 1 2) (.sh (.s (ag [(iA 0),(iA 0),se,XL]) (.s [aM,bx [(im (c.map c8) false),(iA j.2.1),(bA true)],aM] (.s lz (.lf rfl rfl (gm (o:=Out.ret lz) (lo:=0) (off:=3) (b:=2) (p:=0) (H2:=[aM,bx [(im (c.map c8) false),(iA j.2.1),(bA true)]]) (X:=[aM]) (Yp rfl))))))))
def ra:Nat->(List UInt8)->Int->Bool->Int->Option (au×Int×Bool)
 | 0=>fun _ _ _ _=>none
 | N+1=>fun a1 a2 a3 a4=>bif Nat.ble 8 N then qm (ra N) (N - 8) a1 a2 a3 a4 else none
theorem Hn (C:OT):∀ N,Ca C N (ra N)
 | 0=>fun _ _ _ _ X r h=>by cases h
 | N+1=>fun a a2 b c X=>by
  show J _ _ _ (bif Nat.ble 8 N then qm (ra N) (N - 8) a a2 b c else none) _
  cases h:Nat.ble 8 N with
  | false=>exact fun r h=>by cases h
  | true=>
   obtain ⟨n,rfl⟩:∃ n,N=n+8:=⟨N - 8,by have:=Yp h; omega⟩
   rw[qao]
   exact Dm (m:=2) r7 r7 (by decide) rfl r7 ((by kernel_rfl:_=((((bk 2 (a.map c8))&&true))&&true)).trans s0) (fun _=>rfl) (fun y=>((by kernel_rfl:_=((bk 2 (y.1.L.map ax))&&true)).trans s0)) (fun y=>((by kernel_rfl:_=((((bk 2 (a.map c8))&&true))&&true)).trans s0)) (Lb C n  (ra (n+8)) (Hn C  (n+8)) a a2 b c)
def u1 (C:OT) (self:au->Option Bool):Prop:=∀ (a:au),C 117 [(ag (ar a))]=(self a).map fun y=>(bA y)
def gC (self:au->Option Bool) (n:Nat) (a:au):Nat->Int->Option ((Bool)⊕(Unit))
 | 0,_=>none
 | m+1,b=>bif (decide (b<((a.L.length:Int)))) then ((bL a.L b).bind fun c=>(self c).bind fun d=>bif (!d) then (some ((Sum.inl false))) else (gC self n a m (wr .i64 (b+1)))) else (some ((Sum.inr (()))))
theorem yy (self:au->Option Bool) (hS:u1 C self) {Nv:A} (a:au) {K:((Bool)⊕(Unit))->Option γ} (h:∀ (f:Bool) (i:A) (b:A) (q0:aO),J φ (kr (St.mk [(1,i),(2,(bA f)),(3,b)] [q0])) kL (K (Sum.inl f)) some) (j:∀ (s2:A) (b:A),J φ (kx 1 (St.mk [(1,(pt 0 0)),(2,s2),(3,b)] [bx (ar a)])) kL (K (Sum.inr (()))) some) :
  ∀ (m:Nat) (c:Int),J φ (aN (cx C) (ec C n 8) (ey C n 8) (n+8) 117 0 0 1 kx kg kr kp m (St.mk [(1,(pt 0 0)),(2,Nv),(3,(iA c))] [bx (ar a)])) kL (gC self n a m c) K:=by
  refine nI (fun _=>.nn) fun m ih c=>.lp (Ji ..) ?_
  unfold gC
  refine .s2 (im (a.L.map ax) false) (.st (ef (e:=108)) (.st (aY ..) (.bX ?_ ?_)))
  ·refine .s2 (im (a.L.map ax) false) (.bd ((eP (e:=108) (es:=4)).trans (er _)) fun d=>.s (ag (ar d)) (.bd (g:=fun (y:Bool)=>(bA y)) (by show C 117 [snap _ (ag (ar d))]=_; simp only[bR,cY]; exact hS d) fun k=>.s (bA (!k)) (.bX ?_ ?_)))
   ·exact .ex (h _ _ _ _)
   refine .st (aJ ..) (.s [bx (ar a)] (.cT r7 ?_))
   exact ih _
  exact .ex (j _ _)
def B4 (self:au->Option Bool) (n:Nat) (a:au):Option Bool:=
 bif (a.Kind==1) then ((bif (jf a.S ((ByteArray.mk #[]))) then (some (((a.L.length:Int))==0)) else (some false)).bind fun b=>some b) else (bif (a.Kind==2) then ((bif (a.N==0) then (some (((a.L.length:Int))==0)) else (some false)).bind fun c=>some c) else (bif (a.Kind==3) then ((gC self n a (n+8) 0).bind fun OI=>match OI with | (Sum.inl d)=>some d | (Sum.inr _)=>(bif (a.N==0) then (some (jf a.S ((ByteArray.mk #[])))) else (some false)).bind fun e=>some e) else (some false)))
theorem Qk (C:OT) (n:Nat) (self:au->Option Bool) (hS:u1 C self) (a:au):TJ C n 117 [(ag (ar a))] (B4 self n a) (fun y=>(bA y)):=by
 refine .lp (QF ..) ?_
 unfold B4
 refine .s ((pt 0 0),[bx (ar a)]) (.s2 (iA a.Kind) (.st (bc ..) (.bX ?_ ?_)))
 ·refine .s2 (sA a.S) (.st (jL ..) (.bg (fun t (y:Bool)=>∃ b c d f:A,t=[(bA y),b,c,d,f]) ?_ ?_))
  ·refine .bi ?_ ?_
   ·exact .s (pt 0 3) (.s (im (a.L.map ax) false) (.st (ef (e:=108)) (.st (bc ..) (.lg ⟨_,_,_,_,rfl⟩))))
   exact .lg ⟨_,_,_,_,rfl⟩
  rintro _ p ⟨b,c,d,f,rfl⟩
  exact .u4 (.uc (.lv rfl))
 refine .st (bc ..) (.bX ?_ ?_)
 ·refine .s2 (iA a.N) (.st (bc ..) (.bg (fun t (y:Bool)=>∃ g h i j:A,t=[(bA y),g,h,i,j]) ?_ ?_))
  ·refine .bi ?_ ?_
   ·exact .s (pt 0 3) (.s (im (a.L.map ax) false) (.st (ef (e:=108)) (.st (bc ..) (.lg ⟨_,_,_,_,rfl⟩))))
   exact .lg ⟨_,_,_,_,rfl⟩
  rintro _ q ⟨g,h,i,j,rfl⟩
  exact .u4 (.uc (.lv rfl))
 refine .st (bc ..) (.bX ?_ ?_)
 ·refine .as (yy C n _ _ _ _ self hS a ?_ ?_ _ 0)
  ·intro r u v w52
   exact .un rfl (.lv rfl)
  ·intro w x
   refine .un rfl (.cT r7 (.s2 (iA a.N) (.st (bc ..) (.bg (fun t (y:Bool)=>∃ k l o:A,t=[(bA y),k,l,o]) ?_ ?_))))
   ·refine .bi ?_ ?_
    ·exact .s (pt 0 2) (.s (sA a.S) (.st (jL ..) (.lg ⟨_,_,_,rfl⟩)))
    exact .lg ⟨_,_,_,rfl⟩
   rintro _ z ⟨k,l,o,rfl⟩
   exact .u4 (.lv rfl)
 exact .lv rfl
def wF:Nat->au->Option Bool
 | 0=>fun _=>none
 | q+1=>fun a0=>B4 (wF q) aE a0
def E5 (a:au):Option Bool:=wF aE a
def Cg (C:OT):Prop:=∀ (a:au),C 117 [(ag (ar a))]=(E5 a).map fun y=>(bA y)
def va (C:OT) (self:au->Option Int):Prop:=∀ (a:au),C 118 [(ag (ar a))]=(self a).map fun y=>(iA y)
def gD (self:au->Option Int) (n:Nat) (a:au):Nat->Int->Int->Option (Int)
 | 0,_,_=>none
 | m+1,b,c=>bif (decide (c<((a.L.length:Int)))) then ((bL a.L c).bind fun e=>(self e).bind fun d=>gD self n a m ((if b<d then d else b)) (wr .i64 (c+1))) else (some b)
theorem yz (self:au->Option Int) (hS:va C self) {w22:A} (a:au) {K:(Int)->Option γ} (i:∀ (f:Int) (j:A) (s2:A) (k:A) (q0:aO),J φ (kx 0 (St.mk [(1,j),(2,s2),(3,(iA f)),(4,k)] [q0])) kL (K f) some) :
  ∀ (m:Nat) (b:Int) (c:Int),J φ (aN (cx C) (ec C n 8) (ey C n 8) (n+8) 118 0 0 1 kx kg kr kp m (St.mk [(1,(pt 0 0)),(2,w22),(3,(iA b)),(4,(iA c))] [bx (ar a)])) kL (gD self n a m b c) K:=by
  refine nI (fun _ _=>.nn) fun m ih b c=>.lp (Jj ..) ?_
  unfold gD
  refine .s2 (im (a.L.map ax) false) (.st (ef (e:=108)) (.st (aY ..) (.bX ?_ ?_)))
  ·refine .s2 (im (a.L.map ax) false) (.bd ((eP (e:=108) (es:=4)).trans (er _)) fun d=>.s (ag (ar d)) (.bd (g:=fun (y:Int)=>(iA y)) (by show C 118 [snap _ (ag (ar d))]=_; simp only[bR,cY]; exact hS d) fun h=>.s (iA ((if b<h then h else b))) (.st (aJ ..) (.s [bx (ar a)] (.cT r7 ?_)))))
   exact ih _ _
  exact .ex (i _ _ _ _ _)
def B5 (self:au->Option Int) (n:Nat) (a:au):Option Int:=
 bif (a.Kind != 3) then (some 0) else ((gD self n a (n+8) 0 0).bind fun b=>match b with | c=>some (wr .i64 (c+1)))
theorem Ql (C:OT) (n:Nat) (self:au->Option Int) (hS:va C self) (a:au):TJ C n 118 [(ag (ar a))] (B5 self n a) (fun y=>(iA y)):=by
 refine .lp (QG ..) ?_
 unfold B5
 refine .s ((pt 0 0),[bx (ar a)]) (.s2 (iA a.Kind) (.st (aG ..) (.bX ?_ ?_)))
 ·exact .lv rfl
 refine .as (yz C n _ _ _ _ self hS a ?_ _ 0 0)
 ·intro b c d e Nu
  exact .un rfl (.cT r7 (.st (aJ ..) (.lv rfl)))
def wG:Nat->au->Option Int
 | 0=>fun _=>none
 | q+1=>fun a0=>B5 (wG q) aE a0
def E6 (a:au):Option Int:=wG aE a
def Ch (C:OT):Prop:=∀ (a:au),C 118 [(ag (ar a))]=(E6 a).map fun y=>(iA y)
def EZ (n:Nat) (a:au):Option Int:=
 (E5 a).bind fun b=>bif (!b) then (some 1) else ((E6 a).bind fun c=>bif (decide (16<c)) then (some 2) else (some 0))
theorem Qe (C:OT) (n:Nat) (b:Cg C) (c:Ch C) (a:au):TJ C n 101 [(ag (ar a))] (EZ n a) (fun y=>(iA y)):=by
 refine .lp (Qy ..) ?_
 unfold EZ
 refine .s ((pt 0 0),[bx (ar a)]) (.s (ag (ar a)) (.bd (g:=fun (y:Bool)=>(bA y)) (by simp only[bR,cY]; exact b a) fun d=>.s (bA (!d)) (.bX ?_ ?_)))
 ·exact .lv rfl
 refine .s (ag (ar a)) (.bd (g:=fun (y:Int)=>(iA y)) (by simp only[bR,cY]; exact c a) fun e=>.st (da ..) (.bX ?_ ?_))
 ·exact .lv rfl
 exact .lv rfl
def B7 (a:au):Option Int:=EZ aE a
def Cd (C:OT):Prop:=∀ (a:au),C 101 [(ag (ar a))]=(B7 a).map fun y=>(iA y)
def E3 (n:Nat) (a:Int):Option Int:=
 bif (decide (0<=a)) then (some (wr .u64 (2*(wr .u64 (a))))) else (some (wr .u64 ((wr .u64 (2*(wr .u64 (wr .i64 (0 - (wr .i64 (a+1)))))))+1)))
theorem Qn (C:OT) (n:Nat) (a:Int):TJ C n 120 [(iA a)] (E3 n a) (fun y=>(A.v (.int .u64 y))):=by
 refine .lp (QI ..) ?_
 unfold E3
 refine .st (c9 ..) (.bX ?_ ?_)
 ·exact .st (v:=(A.v (.int .u64 (wr .u64 (a))))) (aQ (hs:=by kernel_rfl) (hd:=by kernel_rfl) ..) (.st (oS ..) (.lv rfl))
 exact .st (aJ ..) (.s (iA (wr .i64 (0 - (wr .i64 (a+1))))) (.st (v:=(A.v (.int .u64 (wr .u64 (wr .i64 (0 - (wr .i64 (a+1)))))))) (aQ (hs:=by kernel_rfl) (hd:=by kernel_rfl) ..) (.st (oS ..) (.st (aJ ..) (.lv rfl)))))
def B9 (a:Int):Option Int:=E3 aE a
def Ck (C:OT):Prop:=∀ (a:Int),C 120 [(iA a)]=(B9 a).map fun y=>(A.v (.int .u64 y))
def Ae (C:OT) (self:Int->Option (List UInt8)):Prop:=∀ (a:Int),C 119 [(A.v (.int .u64 a))]=(self a).map fun y=>(im (y.map c8) false)
def yt (self:Int->Option (List UInt8)) (n:Nat) (a:Int):Option (List UInt8):=
 bif (decide (a<128)) then (bif (decide (0<=(wr .u8 (a)))&&decide ((wr .u8 (a))<256)) then (some ([(UInt8.ofNat (Int.toNat (wr .u8 (a))))])) else none) else (bif (decide (0<=(wr .u8 (wr .u64 ((Int.tmod a 128)+128))))&&decide ((wr .u8 (wr .u64 ((Int.tmod a 128)+128)))<256)) then ((self (wr .u64 (Int.tdiv a 128))).bind fun b=>(cz 1 ([(UInt8.ofNat (Int.toNat (wr .u8 (wr .u64 ((Int.tmod a 128)+128)))))]) b).bind fun c=>some c) else none)
theorem Qm (C:OT) (n:Nat) (self:Int->Option (List UInt8)) (hS:Ae C self) (a:Int):TJ C n 119 [(A.v (.int .u64 a))] (yt self n a) (fun y=>(im (y.map c8) false)):=by
 refine .lp (QH ..) ?_
 unfold yt
 refine .st (aY ..) (.bX ?_ ?_)
 ·exact .st (v:=(uA (wr .u8 (a)))) (aQ (hs:=by kernel_rfl) (hd:=by kernel_rfl) ..) (.gd fun hg=>.st (v:=(im [[(uA (((UInt8.ofNat (Int.toNat (wr .u8 (a)))).toNat:Int)))]] true)) (by rw[fA hg]; kernel_rfl) (.lv so))
 exact .st (rf (hb:=by decide) ..) (.st (aJ ..) (.st (v:=(uA (wr .u8 (wr .u64 ((Int.tmod a 128)+128))))) (aQ (hs:=by kernel_rfl) (hd:=by kernel_rfl) ..) (.gd fun hg=>.st (v:=(im [[(uA (((UInt8.ofNat (Int.toNat (wr .u8 (wr .u64 ((Int.tmod a 128)+128))))).toNat:Int)))]] true)) (by rw[fA hg]; kernel_rfl) (.st (re (hb:=by decide) ..) (.bd (g:=fun (y:(List UInt8))=>(im (y.map c8) false)) (hS (wr .u64 (Int.tdiv a 128))) fun d=>.bd (g:=fun (y:List UInt8)=>((bW 0 0 y.length false),[aO.row false 1 (y.map c8)])) (jk cX (l:=[(UInt8.ofNat (Int.toNat (wr .u8 (wr .u64 ((Int.tmod a 128)+128)))))]) (l2:=d) (bC ..)) fun c=>.lv (by show aS [aO.row false 1 (c.map c8)] (bW 0 0 c.length false)=_; first | (simp only[bR,cY,aS,bI (H:=[aO.row false 1 (c.map c8)]) (b:=0) (es:=1) (wr:=false) (l:=c) eU rfl]; done) | (simp only[bR,e9,aS,bI (H:=[aO.row false 1 (c.map c8)]) (b:=0) (es:=1) (wr:=false) (l:=c) eU rfl]; first | done | rfl)))))))
def wH:Nat->Int->Option (List UInt8)
 | 0=>fun _=>none
 | q+1=>fun a0=>yt (wH q) aE a0
def A5 (a:Int):Option (List UInt8):=wH aE a
def Ci (C:OT):Prop:=∀ (a:Int),C 119 [(A.v (.int .u64 a))]=(A5 a).map fun y=>(im (y.map c8) false)
def uZ (C:OT) (self:au->Option (List UInt8)):Prop:=∀ (a:au),C 102 [(ag (ar a))]=(self a).map fun y=>(im (y.map c8) false)
def gA (self:au->Option (List UInt8)) (n:Nat) (a:au):Nat->Int->(List UInt8)->Option ((List UInt8))
 | 0,_,_=>none
 | m+1,b,c=>bif (decide (b<((a.L.length:Int)))) then ((bL a.L b).bind fun d=>(self d).bind fun e=>(cz 1 c e).bind fun f=>gA self n a m (wr .i64 (b+1)) f) else (some c)
theorem yw (self:au->Option (List UInt8)) (hS:uZ C self) {w38:A} (a:au) {K:((List UInt8))->Option γ} (i:∀ (d:(List UInt8)) (j:A) (s2:A) (k:A) (q0:aO),J φ (kx 1 (St.mk [(1,j),(2,s2),(3,(bW 1 0 d.length false)),(4,k)] [q0,aO.row false 1 (d.map c8)])) kL (K d) some) :
  ∀ (m:Nat) (f:Int) (c:(List UInt8)),J φ (aN (cx C) (ec C n 8) (ey C n 8) (n+8) 102 0 0 2 kx kg kr kp m (St.mk [(1,(pt 0 0)),(2,w38),(3,(bW 1 0 c.length false)),(4,(iA f))] [bx (ar a),aO.row false 1 (c.map c8)])) kL (gA self n a m f c) K:=by
  refine nI (fun _ _=>.nn) fun m ih f c=>.lp (Ja ..) ?_
  unfold gA
  refine .s2 (im (a.L.map ax) false) (.st (ef (e:=108)) (.st (aY ..) (.bX ?_ ?_)))
  ·refine .s2 (im (a.L.map ax) false) (.bd ((eP (e:=108) (es:=4)).trans (er _)) fun h=>.s (ag (ar h)) (.bd (g:=fun (y:(List UInt8))=>(im (y.map c8) false)) (by show C 102 [snap _ (ag (ar h))]=_; simp only[bR,cY,nG (H:=[bx (ar a),aO.row false 1 (c.map c8)]) (b:=1) (es:=1) (l:=c) eU rfl]; exact hS h) fun o=>.bd (g:=fun (y:List UInt8)=>((bW 1 0 y.length false),[bx (ar a),aO.row false 1 (y.map c8)])) (cj cX (l:=c) (l2:=o) (b:=1) rfl (by decide) (bC ..)) fun p=>.st (aJ ..) (.s [bx (ar a),aO.row false 1 (p.map c8)] (.cT r7 ?_))))
   exact ih _ _
  exact .ex (i _ _ _ _ _)
def BZ (self:au->Option (List UInt8)) (n:Nat) (a:au):Option (List UInt8):=
 bif (a.Kind==1) then ((B9 a.N).bind fun b=>(A5 b).bind fun c=>(cz 1 ([(1:UInt8)]) c).bind fun d=>some d) else (bif (a.Kind==2) then ((A5 (wr .u64 ((a.S.size:Int)))).bind fun e=>(cz 1 ([(2:UInt8)]) e).bind fun f=>(cz 1 f (ln a.S)).bind fun g=>some g) else ((A5 (wr .u64 ((a.L.length:Int)))).bind fun h=>(cz 1 ([(3:UInt8)]) h).bind fun i=>(gA self n a (n+8) 0 i).bind fun OH=>match OH with | j=>some j))
theorem Qf (C:OT) (n:Nat) (h:Ci C) (i:Ck C) (self:au->Option (List UInt8)) (hS:uZ C self) (a:au):TJ C n 102 [(ag (ar a))] (BZ self n a) (fun y=>(im (y.map c8) false)):=by
 refine .lp (Qz ..) ?_
 unfold BZ
 refine .s ((pt 0 0),[bx (ar a)]) (.s2 (iA a.Kind) (.st (bc ..) (.bX ?_ ?_)))
 ·exact .s (im [[(uA 1)]] true) (.s2 (iA a.N) (.bd (i a.N) fun j=>.bd (h j) fun k=>.bd (g:=fun (y:List UInt8)=>((bW 1 0 y.length false),[bx (ar a),aO.row false 1 (y.map c8)])) (jk cX (l:=[(1:UInt8)]) (l2:=k) (bC ..)) fun c=>.lv (by show aS [bx (ar a),aO.row false 1 (c.map c8)] (bW 1 0 c.length false)=_; first | (simp only[bR,cY,aS,bI (H:=[bx (ar a),aO.row false 1 (c.map c8)]) (b:=1) (es:=1) (wr:=false) (l:=c) eU rfl]; done) | (simp only[bR,e9,aS,bI (H:=[bx (ar a),aO.row false 1 (c.map c8)]) (b:=1) (es:=1) (wr:=false) (l:=c) eU rfl]; first | done | rfl))))
 refine .st (bc ..) (.bX ?_ ?_)
 ·exact .s (im [[(uA 2)]] true) (.s2 (sA a.S) (.s (iA ((a.S.size:Int))) (.st (v:=(A.v (.int .u64 (wr .u64 ((a.S.size:Int)))))) (aQ (hs:=by kernel_rfl) (hd:=by kernel_rfl) ..) (.bd (h (wr .u64 ((a.S.size:Int)))) fun o=>.bd (g:=fun (y:List UInt8)=>((bW 1 0 y.length false),[bx (ar a),aO.row false 1 (y.map c8)])) (jk cX (l:=[(2:UInt8)]) (l2:=o) (bC ..)) fun p=>.cT r7 (.s (pt 0 2) (.cT r7 (.s (sA a.S) (.bd (g:=fun (y:List UInt8)=>((bW 1 0 y.length false),[bx (ar a),aO.row false 1 (y.map c8)])) (cj vl (l:=p) (l2:=ln a.S) (b:=1) rfl (by decide) (qQ ..)) fun d=>.lv (by show aS [bx (ar a),aO.row false 1 (d.map c8)] (bW 1 0 d.length false)=_; first | (simp only[bR,cY,aS,bI (H:=[bx (ar a),aO.row false 1 (d.map c8)]) (b:=1) (es:=1) (wr:=false) (l:=d) eU rfl]; done) | (simp only[bR,e9,aS,bI (H:=[bx (ar a),aO.row false 1 (d.map c8)]) (b:=1) (es:=1) (wr:=false) (l:=d) eU rfl]; first | done | rfl))))))))))
 refine .s (im [[(uA 3)]] true) (.s2 (im (a.L.map ax) false) (.st (ef (e:=108)) (.st (v:=(A.v (.int .u64 (wr .u64 ((a.L.length:Int)))))) (aQ (hs:=by kernel_rfl) (hd:=by kernel_rfl) ..) (.bd (h (wr .u64 ((a.L.length:Int)))) fun q=>.bd (g:=fun (y:List UInt8)=>((bW 1 0 y.length false),[bx (ar a),aO.row false 1 (y.map c8)])) (jk cX (l:=[(3:UInt8)]) (l2:=q) (bC ..)) fun r=>.as (yw C n _ _ _ _ self hS a ?_ _ 0 r)))))
 ·intro f t u w w51
  exact .un rfl (.cT r7 (.lv (by show aS [w51,aO.row false 1 (f.map c8)] (bW 1 0 f.length false)=_; first | (simp only[bR,cY,aS,bI (H:=[w51,aO.row false 1 (f.map c8)]) (b:=1) (es:=1) (wr:=false) (l:=f) eU rfl]; done) | (simp only[bR,e9,aS,bI (H:=[w51,aO.row false 1 (f.map c8)]) (b:=1) (es:=1) (wr:=false) (l:=f) eU rfl]; first | done | rfl))))
def wD:Nat->au->Option (List UInt8)
 | 0=>fun _=>none
 | q+1=>fun a0=>BZ (wD q) aE a0
def E4 (a:au):Option (List UInt8):=wD aE a
def Ce (C:OT):Prop:=∀ (a:au),C 102 [(ag (ar a))]=(E4 a).map fun y=>(im (y.map c8) false)
def Ox (n:Nat) (b:(List UInt8)):Option (au×Int):=
 (ra (n+8) b 0 false 0).bind fun a=>(bif a.2.2 then (some true) else (some (a.2.1 != ((b.length:Int))))).bind fun c=>(bif c then (some true) else ((B7 a.1).bind fun d=>some (d != 0))).bind fun e=>(bif e then (some true) else ((E4 a.1).bind fun f=>some (!jf (gn f) (gn b)))).bind fun g=>bif g then (some (((au.mk 0 0 jl ([])),10))) else (some ((a.1,0)))
theorem VW (C:OT) (n:Nat) (x:Cd C) (z:Ce C) (b:(List UInt8)):TJ C n 96 [(im (b.map c8) false)] (Ox n b) (fun y=>(tp [(ag (ar y.1)),(iA y.2)])):=by
 refine .lp (W0 ..) ?_
 unfold Ox
 refine .s ((pt 0 0),[aM]) (.s (ag [(im (b.map c8) false),(iA 0),(bA false)]) (.s ((pt 1 0),[aM,bx [(im (b.map c8) false),(iA 0),(bA false)]]) (.bg (fun (t:R) (y:(au×Int×Bool))=>t=(Out.ret (ag [(iA y.1.Kind),(iA y.1.N),(sA y.1.S),(im (y.1.L.map ax) false)]),[aM,bx [(im (b.map c8) false),(iA y.2.1),(bA y.2.2)]])) (Hn C (n+8) b 0 false 0 []) ?_)))
 rintro _ a rfl
 refine .ok (.sq (pt 2 0) (.s [aM,bx [(im (b.map c8) false),(iA a.2.1),(bA a.2.2)],bx (ar a.1)] (.s (pt 1 0) (.s2 (bA a.2.2) (.bg (fun t (y:Bool)=>∃ d f h i j k o:A,t=[(bA y),d,f,h,i,j,k,o]) ?_ ?_)))))
 ·refine .bi ?_ ?_
  ·exact .lg ⟨_,_,_,_,_,_,_,rfl⟩
  exact .s (pt 1 0) (.s (pt 1 1) (.s (iA a.2.1) (.st (ef (e:=5)) (.st (aG ..) (.lg ⟨_,_,_,_,_,_,_,rfl⟩)))))
 rintro _ y3 ⟨d,f,h,i,j,k,o,rfl⟩
 refine .u4 (.u4 (.bg (fun t (y:Bool)=>∃ p q r:A,t=[(bA y),p,q,r]) ?_ ?_))
 ·refine .bi ?_ ?_
  ·exact .lg ⟨_,_,_,rfl⟩
  exact .s (ag (ar a.1)) (.bd (g:=fun (y:Int)=>(iA y)) (by simp only[bR,cY]; exact x a.1) fun a2=>.st (aG ..) (.lg ⟨_,_,_,rfl⟩))
 rintro _ a3 ⟨p,q,r,rfl⟩
 refine .u4 (.Xx (.bg (fun t (y:Bool)=>∃ u:A,t=[(bA y),u]) ?_ ?_))
 ·refine .HY (fun c=>?_) (fun c=>?_)
  ·exact .bb (.s (ag (ar a.1)) (.bd (g:=fun (y:(List UInt8))=>(im (y.map c8) false)) (by simp only[bR,cY]; exact z a.1) fun w=>.st (v:=(A.v (Value.string (gn w)))) (nw (e:=5) (l:=w) r7 r7 r7 r7 (bC ..) rfl) (.st (v:=(A.v (Value.string (gn b)))) (nw (e:=5) (l:=b) r7 r7 r7 r7 (bC ..) rfl) (.cr (.u4 (.uc (.tq c (.st (yA ..) (.lg ⟨_,rfl⟩)))))))))
  exact .bb (.cr (.u4 (.uc (.ub c (.lg ⟨_,rfl⟩)))))
 rintro _ a4 ⟨u,rfl⟩
 refine .uc (.uc (.bX ?_ ?_))
 ·exact .s (ag [(iA 0),(iA 0),se,XL]) (.s [aM,bx [(im (b.map c8) false),(iA a.2.1),(bA a.2.2)],bx (ar a.1)] (.s (ag [(iA 0),(iA 0),se,XL]) (.lv so)))
 exact .s (ag (ar a.1)) (.s [bx (ar a.1),bx [(im (b.map c8) false),(iA a.2.1),(bA a.2.2)],bx (ar a.1)] (.s (ag (ar a.1)) (.lv so)))
def K3 (a:(List UInt8)):Option (au×Int):=Ox aE a
def HO (C:OT):Prop:=∀ (a:(List UInt8)),C 96 [(im (a.map c8) false)]=(K3 a).map fun y=>(tp [(ag (ar y.1)),(iA y.2)])
end Go.Proofs.YtebkhfhcipnfgaaGreat
