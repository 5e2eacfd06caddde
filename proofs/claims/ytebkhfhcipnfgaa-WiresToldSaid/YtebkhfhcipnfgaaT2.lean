/-
 The program's functions as plain functions: by a tool; each follows the interpreter.
-/
import Derived.Test.YtebkhfhcipnfgaaT1
namespace Go.Proofs.Ytebkhfhcipnfgaa
open Go.Proofs.Try (prog)
set_option linter.unusedVariables false
set_option linter.unusedSimpArgs false
set_option maxHeartbeats 4000000
set_option maxRecDepth 100000
set_option linter.defProp false
variable (C:Nat->List A->Option A) (n:Nat) {ρ γ:Type} {φ:ρ->γ->Prop} {kL:R->Option ρ} (kx kg:Nat->St->Option R) (kr:St->Option R) (kp:A->St->Option R)
def sQ (a:Int) (b:Int) (c:ByteArray) (d:(List aw)):aA:=bx [(iA a),(iA b),(sA c),(bD 3 0 d.length false)]
def eY (n:Nat) (c:Int) (b:aQ) (e:Int) (f:Int) (g:ByteArray):Nat->Int->(List aw)->Option ((List aw))
 | 0,_,_=>none
 | m+1,a,d=>bif (decide (a<c)) then (bif decide (a=0) then ((cU 56 d ([(aw.mk 1 b.kind jR ([]))])).bind λh=>eY n c b e f g m (wr .i64 (a+1)) h) else bif decide (a=1) then ((cU 56 d ([(aw.mk 1 b.cue.No jR ([]))])).bind λi=>eY n c b e f g m (wr .i64 (a+1)) i) else bif decide (a=2) then ((cU 56 d ([(aw.mk 1 b.cue.Role jR ([]))])).bind λj=>eY n c b e f g m (wr .i64 (a+1)) j) else bif decide (a=3) then ((cU 56 d ([(aw.mk 1 b.cue.Bar jR ([]))])).bind λk=>eY n c b e f g m (wr .i64 (a+1)) k) else bif decide (a=4) then ((cU 56 d ([(aw.mk 1 b.cue.Program jR ([]))])).bind λl=>eY n c b e f g m (wr .i64 (a+1)) l) else none) else (some d)
theorem Gj {u:A} (k:Int) (a:aQ) (d:Int) (e:Int) (h:ByteArray) {K:((List aw))->Option γ} (w:∀ (i:(List aw)) (s2:A) (x:A) (z:A) (a0:A) (q0:aA) (q2:aA),J φ (kx 0 (St.mk [(2,s2),(3,(pt 1 0)),(9,x),(10,z),(11,a0)] [q0,bx [(iA d),(iA e),(sA h),(bD 3 0 i.length false)],q2,aA.row false 4 (i.map az)])) kL (K i) some) :
  ∀ (m:Nat) (j:Int) (c:(List aw)),J φ (aI (cx C) (ec C n 8) (ey C n 8) (n+8) 26 0 0 4 kx kg kr kp m (St.mk [(2,u),(3,(pt 1 0)),(9,(bD 2 0 5 false)),(10,(iA k)),(11,(iA j))] [bx (ax a),(sQ d e h c),aA.row true 1 [[(pt 0 0)],[(pt 0 1)],[(pt 0 2)],[(pt 0 3)],[(pt 0 4)],[(pt 0 0)],[(pt 0 5)],[(pt 0 6)],[(pt 0 7)]],aA.row false 4 (c.map az)])) kL (eY n k a d e h m j c) K:=by
  refine nI (λ_ _=>.nn) λm ih j c=>.lp (LG ..) ?_;unfold eY;refine .st (aZ ..) (.cu ?_ ?_)
  ·refine .sp (λa2=>?_) (λ_=>?_)
   ·refine .st (v:=(A.ep 2 0 0)) (by rw[qai a2]; kernel_rfl) (.s (pt 0 0) (.s2 (bD 3 0 c.length false) (.s (pt 0 0) (.s (iA a.kind) (.s (ag [(iA 1),(iA a.kind),se,Z5]) (.s (im [[(iA 1),(iA a.kind),se,(im [] false)]] true) (.bd (g:=λ(y:List aw)=>((bD 3 0 y.length false),[bx (ax a),(sQ d e h c),aA.row true 1 [[(pt 0 0)],[(pt 0 1)],[(pt 0 2)],[(pt 0 3)],[(pt 0 4)],[(pt 0 0)],[(pt 0 5)],[(pt 0 6)],[(pt 0 7)]],aA.row false 4 (y.map az)])) (cC fB (l:=c) (l2:=[(aw.mk 1 a.kind jR ([]))]) (b:=3) rfl (by decide) (iX (f:=az) (l:=([(aw.mk 1 a.kind jR ([]))]:List aw)) H7)) λo=>.s (pt 1 3) (.sh (.st (aF ..) (.s [bx (ax a),bx [(iA d),(iA e),(sA h),(bD 3 0 o.length false)],aA.row true 1 [[(pt 0 0)],[(pt 0 1)],[(pt 0 2)],[(pt 0 3)],[(pt 0 4)],[(pt 0 0)],[(pt 0 5)],[(pt 0 6)],[(pt 0 7)]],aA.row false 4 (o.map az)] (.cT r7 ?_)))))))))));exact ih _ _
   refine .sp (λa3=>?_) (λ_=>?_)
   ·refine .st (v:=(A.ep 2 1 0)) (by rw[qai a3]; kernel_rfl) (.s (pt 0 1) (.s2 (bD 3 0 c.length false) (.s (pt 0 1) (.s (iA a.cue.No) (.s (ag [(iA 1),(iA a.cue.No),se,Z5]) (.s (im [[(iA 1),(iA a.cue.No),se,(im [] false)]] true) (.bd (g:=λ(y:List aw)=>((bD 3 0 y.length false),[bx (ax a),(sQ d e h c),aA.row true 1 [[(pt 0 0)],[(pt 0 1)],[(pt 0 2)],[(pt 0 3)],[(pt 0 4)],[(pt 0 0)],[(pt 0 5)],[(pt 0 6)],[(pt 0 7)]],aA.row false 4 (y.map az)])) (cC fB (l:=c) (l2:=[(aw.mk 1 a.cue.No jR ([]))]) (b:=3) rfl (by decide) (iX (f:=az) (l:=([(aw.mk 1 a.cue.No jR ([]))]:List aw)) H7)) λp=>.s (pt 1 3) (.sh (.st (aF ..) (.s [bx (ax a),bx [(iA d),(iA e),(sA h),(bD 3 0 p.length false)],aA.row true 1 [[(pt 0 0)],[(pt 0 1)],[(pt 0 2)],[(pt 0 3)],[(pt 0 4)],[(pt 0 0)],[(pt 0 5)],[(pt 0 6)],[(pt 0 7)]],aA.row false 4 (p.map az)] (.cT r7 ?_)))))))))));exact ih _ _
   refine .sp (λa4=>?_) (λ_=>?_)
   ·refine .st (v:=(A.ep 2 2 0)) (by rw[qai a4]; kernel_rfl) (.s (pt 0 2) (.s2 (bD 3 0 c.length false) (.s (pt 0 2) (.s (iA a.cue.Role) (.s (ag [(iA 1),(iA a.cue.Role),se,Z5]) (.s (im [[(iA 1),(iA a.cue.Role),se,(im [] false)]] true) (.bd (g:=λ(y:List aw)=>((bD 3 0 y.length false),[bx (ax a),(sQ d e h c),aA.row true 1 [[(pt 0 0)],[(pt 0 1)],[(pt 0 2)],[(pt 0 3)],[(pt 0 4)],[(pt 0 0)],[(pt 0 5)],[(pt 0 6)],[(pt 0 7)]],aA.row false 4 (y.map az)])) (cC fB (l:=c) (l2:=[(aw.mk 1 a.cue.Role jR ([]))]) (b:=3) rfl (by decide) (iX (f:=az) (l:=([(aw.mk 1 a.cue.Role jR ([]))]:List aw)) H7)) λq=>.s (pt 1 3) (.sh (.st (aF ..) (.s [bx (ax a),bx [(iA d),(iA e),(sA h),(bD 3 0 q.length false)],aA.row true 1 [[(pt 0 0)],[(pt 0 1)],[(pt 0 2)],[(pt 0 3)],[(pt 0 4)],[(pt 0 0)],[(pt 0 5)],[(pt 0 6)],[(pt 0 7)]],aA.row false 4 (q.map az)] (.cT r7 ?_)))))))))));exact ih _ _
   refine .sp (λa5=>?_) (λ_=>?_)
   ·refine .st (v:=(A.ep 2 3 0)) (by rw[qai a5]; kernel_rfl) (.s (pt 0 3) (.s2 (bD 3 0 c.length false) (.s (pt 0 3) (.s (iA a.cue.Bar) (.s (ag [(iA 1),(iA a.cue.Bar),se,Z5]) (.s (im [[(iA 1),(iA a.cue.Bar),se,(im [] false)]] true) (.bd (g:=λ(y:List aw)=>((bD 3 0 y.length false),[bx (ax a),(sQ d e h c),aA.row true 1 [[(pt 0 0)],[(pt 0 1)],[(pt 0 2)],[(pt 0 3)],[(pt 0 4)],[(pt 0 0)],[(pt 0 5)],[(pt 0 6)],[(pt 0 7)]],aA.row false 4 (y.map az)])) (cC fB (l:=c) (l2:=[(aw.mk 1 a.cue.Bar jR ([]))]) (b:=3) rfl (by decide) (iX (f:=az) (l:=([(aw.mk 1 a.cue.Bar jR ([]))]:List aw)) H7)) λr=>.s (pt 1 3) (.sh (.st (aF ..) (.s [bx (ax a),bx [(iA d),(iA e),(sA h),(bD 3 0 r.length false)],aA.row true 1 [[(pt 0 0)],[(pt 0 1)],[(pt 0 2)],[(pt 0 3)],[(pt 0 4)],[(pt 0 0)],[(pt 0 5)],[(pt 0 6)],[(pt 0 7)]],aA.row false 4 (r.map az)] (.cT r7 ?_)))))))))));exact ih _ _
   refine .sp (λa6=>?_) (λ_=>?_)
   ·refine .st (v:=(A.ep 2 4 0)) (by rw[qai a6]; kernel_rfl) (.s (pt 0 4) (.s2 (bD 3 0 c.length false) (.s (pt 0 4) (.s (iA a.cue.Program) (.s (ag [(iA 1),(iA a.cue.Program),se,Z5]) (.s (im [[(iA 1),(iA a.cue.Program),se,(im [] false)]] true) (.bd (g:=λ(y:List aw)=>((bD 3 0 y.length false),[bx (ax a),(sQ d e h c),aA.row true 1 [[(pt 0 0)],[(pt 0 1)],[(pt 0 2)],[(pt 0 3)],[(pt 0 4)],[(pt 0 0)],[(pt 0 5)],[(pt 0 6)],[(pt 0 7)]],aA.row false 4 (y.map az)])) (cC fB (l:=c) (l2:=[(aw.mk 1 a.cue.Program jR ([]))]) (b:=3) rfl (by decide) (iX (f:=az) (l:=([(aw.mk 1 a.cue.Program jR ([]))]:List aw)) H7)) λt=>.s (pt 1 3) (.sh (.st (aF ..) (.s [bx (ax a),bx [(iA d),(iA e),(sA h),(bD 3 0 t.length false)],aA.row true 1 [[(pt 0 0)],[(pt 0 1)],[(pt 0 2)],[(pt 0 3)],[(pt 0 4)],[(pt 0 0)],[(pt 0 5)],[(pt 0 6)],[(pt 0 7)]],aA.row false 4 (t.map az)] (.cT r7 ?_)))))))))));exact ih _ _
   exact .nn
  exact .ex (w _ _ _ _ _ _ _)
def eQ (n:Nat) (c:Int) (b:aQ) (e:Int) (f:Int) (g:ByteArray):Nat->Int->(List aw)->Option ((List aw))
 | 0,_,_=>none
 | m+1,a,d=>bif (decide (a<c)) then (bif decide (a=0) then ((cU 56 d ([(aw.mk 1 b.kind jR ([]))])).bind λh=>eQ n c b e f g m (wr .i64 (a+1)) h) else bif decide (a=1) then ((cU 56 d ([(aw.mk 1 b.report.Role jR ([]))])).bind λi=>eQ n c b e f g m (wr .i64 (a+1)) i) else bif decide (a=2) then ((cU 56 d ([(aw.mk 1 b.report.Bar jR ([]))])).bind λj=>eQ n c b e f g m (wr .i64 (a+1)) j) else bif decide (a=3) then ((cU 56 d ([(aw.mk 1 b.report.Program jR ([]))])).bind λk=>eQ n c b e f g m (wr .i64 (a+1)) k) else none) else (some d)
theorem Et {t:A} (k:Int) (a:aQ) (d:Int) (e:Int) (h:ByteArray) {K:((List aw))->Option γ} (u:∀ (i:(List aw)) (s2:A) (w:A) (x:A) (z:A) (q0:aA) (q2:aA),J φ (kx 0 (St.mk [(2,s2),(3,(pt 1 0)),(9,w),(10,x),(11,z)] [q0,bx [(iA d),(iA e),(sA h),(bD 3 0 i.length false)],q2,aA.row false 4 (i.map az)])) kL (K i) some) :
  ∀ (m:Nat) (j:Int) (c:(List aw)),J φ (aI (cx C) (ec C n 8) (ey C n 8) (n+8) 26 0 0 4 kx kg kr kp m (St.mk [(2,t),(3,(pt 1 0)),(9,(bD 2 5 4 true)),(10,(iA k)),(11,(iA j))] [bx (ax a),bx [(iA d),(iA e),(sA h),(bD 3 0 c.length false)],aA.row true 1 [[(pt 0 0)],[(pt 0 1)],[(pt 0 2)],[(pt 0 3)],[(pt 0 4)],[(pt 0 0)],[(pt 0 5)],[(pt 0 6)],[(pt 0 7)]],aA.row false 4 (c.map az)])) kL (eQ n k a d e h m j c) K:=by
  refine nI (λ_ _=>.nn) λm ih j c=>.lp (LG ..) ?_;unfold eQ;refine .st (aZ ..) (.cu ?_ ?_)
  ·refine .sp (λa1=>?_) (λ_=>?_)
   ·refine .st (v:=(A.ep 2 5 0)) (by rw[qai a1]; kernel_rfl) (.s (pt 0 0) (.s2 (bD 3 0 c.length false) (.s (pt 0 0) (.s (iA a.kind) (.s (ag [(iA 1),(iA a.kind),se,Z5]) (.s (im [[(iA 1),(iA a.kind),se,(im [] false)]] true) (.bd (g:=λ(y:List aw)=>((bD 3 0 y.length false),[bx (ax a),bx [(iA d),(iA e),(sA h),(bD 3 0 c.length false)],aA.row true 1 [[(pt 0 0)],[(pt 0 1)],[(pt 0 2)],[(pt 0 3)],[(pt 0 4)],[(pt 0 0)],[(pt 0 5)],[(pt 0 6)],[(pt 0 7)]],aA.row false 4 (y.map az)])) (cC fB (l:=c) (l2:=[(aw.mk 1 a.kind jR ([]))]) (b:=3) rfl (by decide) (iX (f:=az) (l:=([(aw.mk 1 a.kind jR ([]))]:List aw)) H7)) λo=>.s (pt 1 3) (.sh (.st (aF ..) (.s [bx (ax a),bx [(iA d),(iA e),(sA h),(bD 3 0 o.length false)],aA.row true 1 [[(pt 0 0)],[(pt 0 1)],[(pt 0 2)],[(pt 0 3)],[(pt 0 4)],[(pt 0 0)],[(pt 0 5)],[(pt 0 6)],[(pt 0 7)]],aA.row false 4 (o.map az)] (.cT r7 ?_)))))))))));exact ih _ _
   refine .sp (λa2=>?_) (λ_=>?_)
   ·refine .st (v:=(A.ep 2 6 0)) (by rw[qai a2]; kernel_rfl) (.s (pt 0 5) (.s2 (bD 3 0 c.length false) (.s (pt 0 5) (.s (iA a.report.Role) (.s (ag [(iA 1),(iA a.report.Role),se,Z5]) (.s (im [[(iA 1),(iA a.report.Role),se,(im [] false)]] true) (.bd (g:=λ(y:List aw)=>((bD 3 0 y.length false),[bx (ax a),bx [(iA d),(iA e),(sA h),(bD 3 0 c.length false)],aA.row true 1 [[(pt 0 0)],[(pt 0 1)],[(pt 0 2)],[(pt 0 3)],[(pt 0 4)],[(pt 0 0)],[(pt 0 5)],[(pt 0 6)],[(pt 0 7)]],aA.row false 4 (y.map az)])) (cC fB (l:=c) (l2:=[(aw.mk 1 a.report.Role jR ([]))]) (b:=3) rfl (by decide) (iX (f:=az) (l:=([(aw.mk 1 a.report.Role jR ([]))]:List aw)) H7)) λp=>.s (pt 1 3) (.sh (.st (aF ..) (.s [bx (ax a),bx [(iA d),(iA e),(sA h),(bD 3 0 p.length false)],aA.row true 1 [[(pt 0 0)],[(pt 0 1)],[(pt 0 2)],[(pt 0 3)],[(pt 0 4)],[(pt 0 0)],[(pt 0 5)],[(pt 0 6)],[(pt 0 7)]],aA.row false 4 (p.map az)] (.cT r7 ?_)))))))))));exact ih _ _
   refine .sp (λa3=>?_) (λ_=>?_)
   ·refine .st (v:=(A.ep 2 7 0)) (by rw[qai a3]; kernel_rfl) (.s (pt 0 6) (.s2 (bD 3 0 c.length false) (.s (pt 0 6) (.s (iA a.report.Bar) (.s (ag [(iA 1),(iA a.report.Bar),se,Z5]) (.s (im [[(iA 1),(iA a.report.Bar),se,(im [] false)]] true) (.bd (g:=λ(y:List aw)=>((bD 3 0 y.length false),[bx (ax a),bx [(iA d),(iA e),(sA h),(bD 3 0 c.length false)],aA.row true 1 [[(pt 0 0)],[(pt 0 1)],[(pt 0 2)],[(pt 0 3)],[(pt 0 4)],[(pt 0 0)],[(pt 0 5)],[(pt 0 6)],[(pt 0 7)]],aA.row false 4 (y.map az)])) (cC fB (l:=c) (l2:=[(aw.mk 1 a.report.Bar jR ([]))]) (b:=3) rfl (by decide) (iX (f:=az) (l:=([(aw.mk 1 a.report.Bar jR ([]))]:List aw)) H7)) λq=>.s (pt 1 3) (.sh (.st (aF ..) (.s [bx (ax a),bx [(iA d),(iA e),(sA h),(bD 3 0 q.length false)],aA.row true 1 [[(pt 0 0)],[(pt 0 1)],[(pt 0 2)],[(pt 0 3)],[(pt 0 4)],[(pt 0 0)],[(pt 0 5)],[(pt 0 6)],[(pt 0 7)]],aA.row false 4 (q.map az)] (.cT r7 ?_)))))))))));exact ih _ _
   refine .sp (λa4=>?_) (λ_=>?_)
   ·refine .st (v:=(A.ep 2 8 0)) (by rw[qai a4]; kernel_rfl) (.s (pt 0 7) (.s2 (bD 3 0 c.length false) (.s (pt 0 7) (.s (iA a.report.Program) (.s (ag [(iA 1),(iA a.report.Program),se,Z5]) (.s (im [[(iA 1),(iA a.report.Program),se,(im [] false)]] true) (.bd (g:=λ(y:List aw)=>((bD 3 0 y.length false),[bx (ax a),bx [(iA d),(iA e),(sA h),(bD 3 0 c.length false)],aA.row true 1 [[(pt 0 0)],[(pt 0 1)],[(pt 0 2)],[(pt 0 3)],[(pt 0 4)],[(pt 0 0)],[(pt 0 5)],[(pt 0 6)],[(pt 0 7)]],aA.row false 4 (y.map az)])) (cC fB (l:=c) (l2:=[(aw.mk 1 a.report.Program jR ([]))]) (b:=3) rfl (by decide) (iX (f:=az) (l:=([(aw.mk 1 a.report.Program jR ([]))]:List aw)) H7)) λr=>.s (pt 1 3) (.sh (.st (aF ..) (.s [bx (ax a),bx [(iA d),(iA e),(sA h),(bD 3 0 r.length false)],aA.row true 1 [[(pt 0 0)],[(pt 0 1)],[(pt 0 2)],[(pt 0 3)],[(pt 0 4)],[(pt 0 0)],[(pt 0 5)],[(pt 0 6)],[(pt 0 7)]],aA.row false 4 (r.map az)] (.cT r7 ?_)))))))))));exact ih _ _
   exact .nn
  exact .ex (u _ _ _ _ _ _ _)
def Oh (n:Nat) (a0:aQ):Option (List UInt8):=
 bif (a0.kind==1) then ((eY n 5 a0 3 0 jR (n+8) 0 (([]:List aw))).bind λa=>match a with | b=>(Mn ((aw.mk 3 0 jR b))).bind λc=>some c.1) else ((eQ n 4 a0 3 0 jR (n+8) 0 (([]:List aw))).bind λd=>match d with | e=>(Mn ((aw.mk 3 0 jR e))).bind λf=>some f.1)
theorem XE (C:OT) (n:Nat) (d:Lk C) (a0:aQ):TJ C n 26 [(ag (ax a0))] (Oh n a0) (λy=>(im (y.map c8) false)):=by
 refine .lp (Yt ..) ?_;unfold Oh;refine .s ((pt 0 0),[bx (ax a0)]) (.s (ag [(iA 3),(iA 0),se,Z5]) (.sq (pt 1 0) (.sh (.cl ((bk L5).trans (V4 ..)) (.s (pt 0 0) (.s (pt 0 0) (.s (pt 0 0) (.s (pt 0 1) (.s (pt 0 1) (.s (pt 0 0) (.s (pt 0 1) (.s (pt 0 2) (.s (pt 0 0) (.s (pt 0 1) (.s (pt 0 3) (.s (pt 0 0) (.s (pt 0 1) (.s (pt 0 4) (.s (pt 0 0) (.s (pt 0 0) (.s (pt 0 0) (.s (pt 0 5) (.s (pt 0 5) ?_)))))))))))))))))))))));refine .s (pt 0 0) (.s (pt 0 5) (.s (pt 0 6) (.s (pt 0 0) (.s (pt 0 5) (.s (pt 0 7) (.s (ag [(pt 0 0),(pt 0 1),(pt 0 2),(pt 0 3),(pt 0 4),(pt 0 0),(pt 0 5),(pt 0 6),(pt 0 7)]) (.cT r7 (.sq (A.ep 2 0 0) (.s [bx (ax a0),bx [(iA 3),(iA 0),se,Z5],aA.row true 1 [[(pt 0 0)],[(pt 0 1)],[(pt 0 2)],[(pt 0 3)],[(pt 0 4)],[(pt 0 0)],[(pt 0 5)],[(pt 0 6)],[(pt 0 7)]]] (.s (pt 0 0) (.s2 (iA a0.kind) (.st (aX ..) (.cu ?_ ?_)))))))))))))
 ·refine .s (bD 2 0 5 false) (.cr (.ok (.s (iA 5) (.as (Gj C n _ _ _ _  5 a0 3 0 jR ?_ _ 0 (([]:List aw)))))))
  ·intro a o p q r e f;exact .un rfl (.cT r7 (.s (ag [(iA 3),(iA 0),se,(bD 3 0 a.length false)]) (.bd (g:=λ(y:((List UInt8)×Int))=>(tp [(im (y.1.map c8) false),(iA y.2)])) (by show C 58 [snap [e,bx [(iA 3),(iA 0),se,(bD 3 0 a.length false)],f,aA.row false 4 (a.map az)] (ag [(iA 3),(iA 0),se,(bD 3 0 a.length false)])]=_; simp only[cP,fo,gC (H:=[e,bx [(iA 3),(iA 0),se,(bD 3 0 a.length false)],f,aA.row false 4 (a.map az)]) (b:=3) (es:=4) (l:=a) cH rfl]; exact d ((aw.mk 3 0 jR a))) λh=>.s (im (h.1.map c8) false) (.s (iA h.2) (.lv so)))))
 refine .s (bD 2 5 4 true) (.cr (.ok (.s (iA 4) (.as (Et C n _ _ _ _  4 a0 3 0 jR ?_ _ 0 (([]:List aw)))))))
 ·intro c t u v w i j;exact .un rfl (.cT r7 (.s (ag [(iA 3),(iA 0),se,(bD 3 0 c.length false)]) (.bd (g:=λ(y:((List UInt8)×Int))=>(tp [(im (y.1.map c8) false),(iA y.2)])) (by show C 58 [snap [i,bx [(iA 3),(iA 0),se,(bD 3 0 c.length false)],j,aA.row false 4 (c.map az)] (ag [(iA 3),(iA 0),se,(bD 3 0 c.length false)])]=_; simp only[cP,fo,gC (H:=[i,bx [(iA 3),(iA 0),se,(bD 3 0 c.length false)],j,aA.row false 4 (c.map az)]) (b:=3) (es:=4) (l:=c) cH rfl]; exact d ((aw.mk 3 0 jR c))) λk=>.s (im (k.1.map c8) false) (.s (iA k.2) (.lv so)))))
def Jj (a0:aQ):Option (List UInt8):=Oh aD a0
def tj (C:OT):Prop:=∀ (a0:aQ),C 26 [(ag (ax a0))]=(Jj a0).map λy=>(im (y.map c8) false)
def pz (a:(List aC)) (a0:aP):aA:=bx [(bD 3 0 a.length false),(im (a0.Apart.map au) false)]
def fh (a0:aP):aA:=bx [(im (a0.Queue.map al) false),(im (a0.Apart.map au) false)]
def Og (n:Nat) (a0:aP) (a1:aC):Option (aP×Int):=
 (Mm a0).bind λa=>(bif (a != 0) then (some true) else ((NW a1).bind λb=>some (!b))).bind λc=>bif c then (some (((aP.mk ([]) ([])),60))) else (bif (((a0.Queue.length:Int))==4096) then (some (((aP.mk ([]) ([])),2))) else ((gv a0.Queue 0 ((a0.Queue.length:Int))).bind λd=>(cU 40 d ([a1])).bind λe=>some (((aP.mk e a0.Apart),0))))
theorem XD (C:OT) (n:Nat) (j:Db C) (k:FV C) (a0:aP) (a1:aC):TJ C n 25 [(ag [(im (a0.Queue.map al) false),(im (a0.Apart.map au) false)]),(ag (al a1))] (Og n a0 a1) (λy=>(tp [(ag [(im (y.1.Queue.map al) false),(im (y.1.Apart.map au) false)]),(iA y.2)])):=by
 refine .lp (Ys ..) ?_;unfold Og;refine .s ((pt 0 0),[(fh a0)]) (.s ((pt 1 0),[(fh a0),bx (al a1)]) (.s ((pt 2 0),[(fh a0),bx (al a1),bx [Z5,Z5]]) (.s (ag [(im (a0.Queue.map al) false),(im (a0.Apart.map au) false)]) (.bd (g:=λ(y:Int)=>(iA y)) (by simp only[cP,fo]; exact j a0) λq=>.st (aO ..) (.bg (λt (y:Bool)=>∃ d h i:A,t=[(bA y),d,h,i]) ?_ ?_)))))
 ·refine .bi ?_ ?_
  ·exact .lg ⟨_,_,_,rfl⟩
  exact .s (ag (al a1)) (.bd (g:=λ(y:Bool)=>(bA y)) (by simp only[cP,fo]; exact k a1) λo=>.s (bA (!o)) (.lg ⟨_,_,_,rfl⟩))
 rintro _ r ⟨d,h,i,rfl⟩
 refine .u4 (.cu ?_ ?_)
 ·exact .s (ag [Z5,Z5]) (.s [(fh a0),bx (al a1),bx [Z5,Z5]] (.s (ag [Z5,Z5]) (.lv so)))
 refine .s2 (im (a0.Queue.map al) false) (.st (eS (e:=48)) (.st (aX ..) (.cu ?_ ?_)))
 ·exact .s (ag [Z5,Z5]) (.s [(fh a0),bx (al a1),bx [Z5,Z5]] (.s (ag [Z5,Z5]) (.lv so)))
 exact .s2 (im (a0.Queue.map al) false) (.s2 (im (a0.Queue.map al) false) (.st (eS (e:=48)) (.s2 (im (a0.Queue.map al) false) (.st (eS (e:=48)) (.bd (oY (e:=48) (es:=3) (f:=al) (l:=a0.Queue) (a:=0) (b:=(a0.Queue.length:Int)) r7 r7 (λ_=>rfl) (.inl ⟨rfl,rfl⟩)) λp=>.s (ag (al a1)) (.s (im [[(iA a1.From),(iA a1.To),(im (a1.Data.map c8) false)]] true) (.bd (g:=λ(y:List aC)=>((bD 3 0 y.length false),[(fh a0),bx (al a1),bx [Z5,Z5],aA.row false 3 (y.map al)])) (nR Dm (l:=p) (l2:=[a1]) (bM (f:=al) ([a1]:List aC) _ _)) λc=>.s (pt 0 0) (.sh (.s (ag [(bD 3 0 c.length false),(im (a0.Apart.map au) false)]) (.s [(pz c a0),bx (al a1),(pz c a0),aA.row false 3 (c.map al)] (.s (ag [(bD 3 0 c.length false),(im (a0.Apart.map au) false)]) (.lv (by show bp [(pz c a0),bx (al a1),(pz c a0),aA.row false 3 (c.map al)] (tp [(ag [(bD 3 0 c.length false),(im (a0.Apart.map au) false)]),(iA 0)])=_; first | (simp only[cP,fo,bp,cq (H:=[(pz c a0),bx (al a1),(pz c a0),aA.row false 3 (c.map al)]) (b:=3) (es:=3) (wr:=false) (l:=c) cV rfl]; done) | (simp only[cP,gR,bp,cq (H:=[(pz c a0),bx (al a1),(pz c a0),aA.row false 3 (c.map al)]) (b:=3) (es:=3) (wr:=false) (l:=c) cV rfl]; first | done | rfl))))))))))))))
def I6 (a0:aP) (a1:aC):Option (aP×Int):=Og aD a0 a1
def rk (C:OT):Prop:=∀ (a0:aP) (a1:aC),C 25 [(ag [(im (a0.Queue.map al) false),(im (a0.Apart.map au) false)]),(ag (al a1))]=(I6 a0 a1).map λy=>(tp [(ag [(im (y.1.Queue.map al) false),(im (y.1.Apart.map au) false)]),(iA y.2)])
abbrev dX:A:=(ag [Z5,Z5,Z5,(iA 0)])
def F9 (n:Nat) (a0:ay) (a1:aE):Option (ay×Int):=
 (Fv a0).bind λb=>bif (b != 0) then (some (((ay.mk ((aP.mk ([]) ([]))) ([]) 0),b))) else ((Ml a1 ((a0.Ears.length:Int))).bind λc=>bif (!c) then (some (((ay.mk ((aP.mk ([]) ([]))) ([]) 0),1))) else ((Jj ((aQ.mk 1 a1 ((bH.mk 0 0 0))))).bind λd=>(I6 a0.Net ((aC.mk 0 (wr .i64 (a1.Role+1)) d))).bind λa=>bif (a.2 != 0) then (some (((ay.mk ((aP.mk ([]) ([]))) ([]) 0),a.2))) else (some (((ay.mk a.1 a0.Ears a0.Bar),0)))))
theorem T9 (C:OT) (n:Nat) (c:ri C) (d:w5 C) (f:rk C) (h:tj C) (a0:ay) (a1:aE):TJ C n 9 [(ag (aq a0)),(ag (av a1))] (F9 n a0 a1) (λy=>(tp [(ag (aq y.1)),(iA y.2)])):=by
 refine .lp (e9 ..) ?_;unfold F9;refine .s ((pt 0 0),[bx (aq a0)]) (.sq (pt 1 0) (.s ((pt 2 0),[bx (aq a0),bx (av a1),bx [Z5,Z5,Z5,(iA 0)]]) (.s (ag (aq a0)) (.bd (g:=λ(y:Int)=>(iA y)) (by simp only[cP,fo]; exact c a0) λj=>.st (aO ..) (.cu ?_ ?_)))))
 ·exact .s dX (.s [bx (aq a0),bx (av a1),bx [Z5,Z5,Z5,(iA 0)]] (.s dX (.lv so)))
 refine .s (ag (av a1)) (.s2 (im (a0.Ears.map aB) false) (.st (eS (e:=55)) (.bd (d a1 ((a0.Ears.length:Int))) λi=>.s (bA (!i)) (.cu ?_ ?_))))
 ·exact .s dX (.s [bx (aq a0),bx (av a1),bx [Z5,Z5,Z5,(iA 0)]] (.s dX (.lv so)))
 refine .s (pt 0 0) (.s (ag [(im (a0.Net.Queue.map al) false),(im (a0.Net.Apart.map au) false)]) (.s (pt 1 1) (.s (iA a1.Role) (.st (aF ..) (.s (ag (av a1)) (.s (ag ([(iA 1)]++av a1++[(iA 0),(iA 0),(iA 0)])) (.bd (h ((aQ.mk 1 a1 ((bH.mk 0 0 0))))) λb=>.s (ag [(iA 0),(iA (wr .i64 (a1.Role+1))),(im (b.map c8) false)]) (.bd (g:=λ(y:(aP×Int))=>(tp [(ag [(im (y.1.Queue.map al) false),(im (y.1.Apart.map au) false)]),(iA y.2)])) (by simp only[cP,fo]; exact f a0.Net ((aC.mk 0 (wr .i64 (a1.Role+1)) b))) λa=>.s (ag [(im (a.1.Queue.map al) false),(im (a.1.Apart.map au) false)]) (.s (iA a.2) (.cT r7 (.sq (pt 3 0) (.s [bx (aq a0),bx (av a1),bx [Z5,Z5,Z5,(iA 0)],bx [(im (a.1.Queue.map al) false),(im (a.1.Apart.map au) false)]] (.st (aO ..) (.cu ?_ ?_))))))))))))))
 ·exact .s dX (.s [bx (aq a0),bx (av a1),bx [Z5,Z5,Z5,(iA 0)],bx [(im (a.1.Queue.map al) false),(im (a.1.Apart.map au) false)]] (.s dX (.lv so)))
 exact .s (ag [(im (a.1.Queue.map al) false),(im (a.1.Apart.map au) false)]) (.s (pt 0 0) (.sh (.s (ag [(im (a.1.Queue.map al) false),(im (a.1.Apart.map au) false),(im (a0.Ears.map aB) false),(iA a0.Bar)]) (.s [bx [(im (a.1.Queue.map al) false),(im (a.1.Apart.map au) false),(im (a0.Ears.map aB) false),(iA a0.Bar)],bx (av a1),bx [(im (a.1.Queue.map al) false),(im (a.1.Apart.map au) false),(im (a0.Ears.map aB) false),(iA a0.Bar)],bx [(im (a.1.Queue.map al) false),(im (a.1.Apart.map au) false)]] (.s (ag [(im (a.1.Queue.map al) false),(im (a.1.Apart.map au) false),(im (a0.Ears.map aB) false),(iA a0.Bar)]) (.lv so))))))
def G9 (a0:ay) (a1:aE):Option (ay×Int):=F9 aD a0 a1
def Mt (C:OT):Prop:=∀ (a0:ay) (a1:aE),C 9 [(ag (aq a0)),(ag (av a1))]=(G9 a0 a1).map λy=>(tp [(ag (aq y.1)),(iA y.2)])
def S4 (n:Nat) (a0:Int):Option aw:=
 some ((aw.mk 1 a0 jR ([])))
theorem Ye (C:OT) (n:Nat) (a0:Int):TJ C n 87 [(iA a0)] (S4 n a0) (λy=>(ag (ar y))):=by
 refine .lp (Y8 ..) ?_;unfold S4;exact .sq (pt 0 0) (.s (ag [(iA 1),(iA a0),se,Z5]) (.s [bx [(iA 1),(iA a0),se,Z5]] (.s (ag [(iA 1),(iA a0),se,Z5]) (.lv so))))
def RM (a0:Int):Option aw:=S4 aD a0
def F4 (C:OT):Prop:=∀ (a0:Int),C 87 [(iA a0)]=(RM a0).map λy=>(ag (ar y))
def pA (a:(List aw)):aA:=bx [(iA 3),(iA 0),se,(bD 2 0 a.length false)]
def nk (n:Nat) (a:(List Int)) (d:Int) (e:Int) (f:ByteArray):Nat->Int->(List aw)->Option ((List aw))
 | 0,_,_=>none
 | m+1,b,c=>bif (decide (b<((a.length:Int)))) then ((bG a b).bind λg=>(RM g).bind λh=>(cU 56 c ([h])).bind λi=>nk n a d e f m (wr .i64 (b+1)) i) else (some c)
theorem Gs (u:F4 C) {q:A} {j:aA} (r:(List Int)) (c:Int) (d:Int) (h:ByteArray) {K:((List aw))->Option γ} (v:∀ (o:(List aw)) (w:A) (x:A),J φ (kx 0 (St.mk [(0,w),(2,q),(3,(pt 1 0)),(4,x)] [j,bx [(iA c),(iA d),(sA h),(bD 2 0 o.length false)],aA.row false 4 (o.map az)])) kL (K o) some) :
  ∀ (m:Nat) (p:Int) (a:(List aw)),J φ (aI (cx C) (ec C n 8) (ey C n 8) (n+8) 61 0 0 3 kx kg kr kp m (St.mk [(0,(im (r.map (cI .i64)) false)),(2,q),(3,(pt 1 0)),(4,(iA p))] [j,bx [(iA c),(iA d),(sA h),(bD 2 0 a.length false)],aA.row false 4 (a.map az)])) kL (nk n r c d h m p a) K:=by
  refine nI (λ_ _=>.nn) λm ih p a=>.lp (Pw ..) ?_;unfold nk;refine .st (eS (e:=3)) (.st (aZ ..) (.cu ?_ ?_))
  ·refine .s2 (bD 2 0 a.length false) (.bd (fx (e:=3) (es:=1)) λt=>.s (iA t) (.bd (u t) λi=>.s (im [[(iA i.Kind),(iA i.N),(sA i.S),(im (i.L.map az) false)]] true) (.bd (g:=λ(y:List aw)=>((bD 2 0 y.length false),[j,bx [(iA c),(iA d),(sA h),(bD 2 0 a.length false)],aA.row false 4 (y.map az)])) (cC fB (l:=a) (l2:=[i]) (b:=2) rfl (by decide) (iX (f:=az) (l:=([i]:List aw)) H7)) λk=>.s (pt 1 3) (.s [j,bx [(iA c),(iA d),(sA h),(bD 2 0 k.length false)],aA.row false 4 (k.map az)] (.st (aF ..) (.s [j,bx [(iA c),(iA d),(sA h),(bD 2 0 k.length false)],aA.row false 4 (k.map az)] (.cT r7 ?_)))))));exact ih _ _
  exact .ex (v _ _ _)
def Ru (n:Nat) (a0:(List Int)):Option aw:=
 (nk n a0 3 0 jR (n+8) 0 (([]:List aw))).bind λRY=>match RY with | a=>some ((aw.mk 3 0 jR a))
theorem XX (C:OT) (n:Nat) (c:F4 C) (a0:(List Int)):TJ C n 61 [(im (a0.map (cI .i64)) false)] (Ru n a0) (λy=>(ag (ar y))):=by
 refine .lp (YO ..) ?_;unfold Ru;refine .sq (pt 0 0) (.s (ag [(iA 3),(iA 0),se,Z5]) (.sq (pt 1 0) (.s [bx [(iA 0),(iA 0),se,Z5],bx [(iA 3),(iA 0),se,Z5]] (.as (Gs C n _ _ _ _ c  a0 3 0 jR ?_ _ 0 (([]:List aw)))))))
 ·intro a d e;exact .un rfl (.cT r7 (.s (ag [(iA 3),(iA 0),se,(bD 2 0 a.length false)]) (.s [(pA a),(pA a),aA.row false 4 (a.map az)] (.s (ag [(iA 3),(iA 0),se,(bD 2 0 a.length false)]) (.lv (by show bp [(pA a),(pA a),aA.row false 4 (a.map az)] (ag [(iA 3),(iA 0),se,(bD 2 0 a.length false)])=_; first | (simp only[cP,fo,bp,cq (H:=[(pA a),(pA a),aA.row false 4 (a.map az)]) (b:=2) (es:=4) (wr:=false) (l:=a) cH rfl]; done) | (simp only[cP,gR,bp,cq (H:=[(pA a),(pA a),aA.row false 4 (a.map az)]) (b:=2) (es:=4) (wr:=false) (l:=a) cH rfl]; first | done | rfl)))))))
def OA (a0:(List Int)):Option aw:=Ru aD a0
def Lm (C:OT):Prop:=∀ (a0:(List Int)),C 61 [(im (a0.map (cI .i64)) false)]=(OA a0).map λy=>(ag (ar y))
def yc (C:OT) (self:aw->Option Bool):Prop:=∀ (a0:aw),C 102 [(ag (ar a0))]=(self a0).map λy=>(bA y)
def iZ (self:aw->Option Bool) (n:Nat) (a:aw):Nat->Int->Option ((Bool)⊕(Unit))
 | 0,_=>none
 | m+1,b=>bif (decide (b<((a.L.length:Int)))) then ((bG a.L b).bind λc=>(self c).bind λd=>bif (!d) then (some ((Sum.inl false))) else (iZ self n a m (wr .i64 (b+1)))) else (some ((Sum.inr (()))))
theorem BM (self:aw->Option Bool) (hS:yc C self) {R4:A} (a:aw) {K:((Bool)⊕(Unit))->Option γ} (h:∀ (f:Bool) (i:A) (b:A) (j:aA),J φ (kr (St.mk [(1,i),(2,(bA f)),(3,b)] [j])) kL (K (Sum.inl f)) some) (k:∀ (s2:A) (b:A),J φ (kx 1 (St.mk [(1,(pt 0 0)),(2,s2),(3,b)] [bx (ar a)])) kL (K (Sum.inr (()))) some) :
  ∀ (m:Nat) (c:Int),J φ (aI (cx C) (ec C n 8) (ey C n 8) (n+8) 102 0 0 1 kx kg kr kp m (St.mk [(1,(pt 0 0)),(2,R4),(3,(iA c))] [bx (ar a)])) kL (iZ self n a m c) K:=by
  refine nI (λ_=>.nn) λm ih c=>.lp (MQ ..) ?_;unfold iZ;refine .s2 (im (a.L.map az) false) (.st (eS (e:=107)) (.st (aZ ..) (.cu ?_ ?_)))
  ·refine .s2 (im (a.L.map az) false) (.bd ((fx (e:=107) (es:=4)).trans (fc _)) λd=>.s (ag (ar d)) (.bd (g:=λ(y:Bool)=>(bA y)) (by show C 102 [snap _ (ag (ar d))]=_; simp only[cP,fo]; exact hS d) λl=>.s (bA (!l)) (.cu ?_ ?_)))
   ·exact .ex (h _ _ _ _)
   refine .st (aF ..) (.s [bx (ar a)] (.cT r7 ?_));exact ih _
  exact .ex (k _ _)
def Fy (self:aw->Option Bool) (n:Nat) (a0:aw):Option Bool:=
 bif (a0.Kind==1) then ((bif (kR a0.S ((ByteArray.mk #[]))) then (some (((a0.L.length:Int))==0)) else (some false)).bind λa=>some a) else (bif (a0.Kind==2) then ((bif (a0.N==0) then (some (((a0.L.length:Int))==0)) else (some false)).bind λb=>some b) else (bif (a0.Kind==3) then ((iZ self n a0 (n+8) 0).bind λRV=>match RV with | (Sum.inl c)=>some c | (Sum.inr _)=>(bif (a0.N==0) then (some (kR a0.S ((ByteArray.mk #[])))) else (some false)).bind λd=>some d) else (some false)))
theorem S7 (C:OT) (n:Nat) (self:aw->Option Bool) (hS:yc C self) (a0:aw):TJ C n 102 [(ag (ar a0))] (Fy self n a0) (λy=>(bA y)):=by
 refine .lp (Tp ..) ?_;unfold Fy;refine .s ((pt 0 0),[bx (ar a0)]) (.s2 (iA a0.Kind) (.st (aX ..) (.cu ?_ ?_)))
 ·refine .s2 (sA a0.S) (.st (nP ..) (.bg (λt (y:Bool)=>∃ a b c d:A,t=[(bA y),a,b,c,d]) ?_ ?_))
  ·refine .bi ?_ ?_
   ·exact .s (pt 0 3) (.s (im (a0.L.map az) false) (.st (eS (e:=107)) (.st (aX ..) (.lg ⟨_,_,_,_,rfl⟩))))
   exact .lg ⟨_,_,_,_,rfl⟩
  rintro _ o ⟨a,b,c,d,rfl⟩
  exact .u4 (.uc (.lv rfl))
 refine .st (aX ..) (.cu ?_ ?_)
 ·refine .s2 (iA a0.N) (.st (aX ..) (.bg (λt (y:Bool)=>∃ f g h i:A,t=[(bA y),f,g,h,i]) ?_ ?_))
  ·refine .bi ?_ ?_
   ·exact .s (pt 0 3) (.s (im (a0.L.map az) false) (.st (eS (e:=107)) (.st (aX ..) (.lg ⟨_,_,_,_,rfl⟩))))
   exact .lg ⟨_,_,_,_,rfl⟩
  rintro _ p ⟨f,g,h,i,rfl⟩
  exact .u4 (.uc (.lv rfl))
 refine .st (aX ..) (.cu ?_ ?_)
 ·refine .as (BM C n _ _ _ _ self hS  a0 ?_ ?_ _ 0)
  ·intro q r u v;exact .un rfl (.lv rfl)
  ·intro w x;refine .un rfl (.cT r7 (.s2 (iA a0.N) (.st (aX ..) (.bg (λt (y:Bool)=>∃ j k l:A,t=[(bA y),j,k,l]) ?_ ?_))))
   ·refine .bi ?_ ?_
    ·exact .s (pt 0 2) (.s (sA a0.S) (.st (nP ..) (.lg ⟨_,_,_,rfl⟩)))
    exact .lg ⟨_,_,_,rfl⟩
   rintro _ z ⟨j,k,l,rfl⟩
   exact .u4 (.lv rfl)
 exact .lv rfl
def zM:Nat->aw->Option Bool
 | 0=>λ_=>none
 | q+1=>λa0=>Fy (zM q) aD a0
def Jh (a0:aw):Option Bool:=zM aD a0
def FE (C:OT):Prop:=∀ (a0:aw),C 102 [(ag (ar a0))]=(Jh a0).map λy=>(bA y)
def yd (C:OT) (self:aw->Option Int):Prop:=∀ (a0:aw),C 103 [(ag (ar a0))]=(self a0).map λy=>(iA y)
def ja (self:aw->Option Int) (n:Nat) (a:aw):Nat->Int->Int->Option (Int)
 | 0,_,_=>none
 | m+1,b,c=>bif (decide (c<((a.L.length:Int)))) then ((bG a.L c).bind λe=>(self e).bind λd=>ja self n a m ((if b<d then d else b)) (wr .i64 (c+1))) else (some b)
theorem BN (self:aw->Option Int) (hS:yd C self) {i:A} (a:aw) {K:(Int)->Option γ} (j:∀ (f:Int) (k:A) (s2:A) (l:A) (o:aA),J φ (kx 0 (St.mk [(1,k),(2,s2),(3,(iA f)),(4,l)] [o])) kL (K f) some) :
  ∀ (m:Nat) (b:Int) (c:Int),J φ (aI (cx C) (ec C n 8) (ey C n 8) (n+8) 103 0 0 1 kx kg kr kp m (St.mk [(1,(pt 0 0)),(2,i),(3,(iA b)),(4,(iA c))] [bx (ar a)])) kL (ja self n a m b c) K:=by
  refine nI (λ_ _=>.nn) λm ih b c=>.lp (MR ..) ?_;unfold ja;refine .s2 (im (a.L.map az) false) (.st (eS (e:=107)) (.st (aZ ..) (.cu ?_ ?_)))
  ·refine .s2 (im (a.L.map az) false) (.bd ((fx (e:=107) (es:=4)).trans (fc _)) λd=>.s (ag (ar d)) (.bd (g:=λ(y:Int)=>(iA y)) (by show C 103 [snap _ (ag (ar d))]=_; simp only[cP,fo]; exact hS d) λh=>.s (iA ((if b<h then h else b))) (.st (aF ..) (.s [bx (ar a)] (.cT r7 ?_)))));exact ih _ _
  exact .ex (j _ _ _ _ _)
def Fz (self:aw->Option Int) (n:Nat) (a0:aw):Option Int:=
 bif (a0.Kind != 3) then (some 0) else ((ja self n a0 (n+8) 0 0).bind λRU=>match RU with | a=>some (wr .i64 (a+1)))
theorem S8 (C:OT) (n:Nat) (self:aw->Option Int) (hS:yd C self) (a0:aw):TJ C n 103 [(ag (ar a0))] (Fz self n a0) (λy=>(iA y)):=by
 refine .lp (Tq ..) ?_;unfold Fz;refine .s ((pt 0 0),[bx (ar a0)]) (.s2 (iA a0.Kind) (.st (aO ..) (.cu ?_ ?_)))
 ·exact .lv rfl
 refine .as (BN C n _ _ _ _ self hS  a0 ?_ _ 0 0)
 ·intro a b c d VX;exact .un rfl (.cT r7 (.st (aF ..) (.lv rfl)))
def zO:Nat->aw->Option Int
 | 0=>λ_=>none
 | q+1=>λa0=>Fz (zO q) aD a0
def Ji (a0:aw):Option Int:=zO aD a0
def FF (C:OT):Prop:=∀ (a0:aw),C 103 [(ag (ar a0))]=(Ji a0).map λy=>(iA y)
def RI (n:Nat) (a0:aw):Option Int:=
 (Jh a0).bind λa=>bif (!a) then (some 1) else ((Ji a0).bind λb=>bif (decide (16<b)) then (some 2) else (some 0))
theorem Yc (C:OT) (n:Nat) (a:FE C) (b:FF C) (a0:aw):TJ C n 85 [(ag (ar a0))] (RI n a0) (λy=>(iA y)):=by
 refine .lp (Y6 ..) ?_;unfold RI;refine .s ((pt 0 0),[bx (ar a0)]) (.s (ag (ar a0)) (.bd (g:=λ(y:Bool)=>(bA y)) (by simp only[cP,fo]; exact a a0) λc=>.s (bA (!c)) (.cu ?_ ?_)))
 ·exact .lv rfl
 refine .s (ag (ar a0)) (.bd (g:=λ(y:Int)=>(iA y)) (by simp only[cP,fo]; exact b a0) λd=>.st (eZ ..) (.cu ?_ ?_))
 ·exact .lv rfl
 exact .lv rfl
def NZ (a0:aw):Option Int:=RI aD a0
def F0 (C:OT):Prop:=∀ (a0:aw),C 85 [(ag (ar a0))]=(NZ a0).map λy=>(iA y)
def Jd (n:Nat) (a0:Int):Option Int:=
 bif (decide (0<=a0)) then (some (wr .u64 (2*(wr .u64 (a0))))) else (some (wr .u64 ((wr .u64 (2*(wr .u64 (wr .i64 (0 - (wr .i64 (a0+1)))))))+1)))
theorem Ta (C:OT) (n:Nat) (a0:Int):TJ C n 105 [(iA a0)] (Jd n a0) (λy=>(A.v (.int .u64 y))):=by
 refine .lp (Tu ..) ?_;unfold Jd;refine .st (dD ..) (.cu ?_ ?_)
 ·exact .st (v:=(A.v (.int .u64 (wr .u64 (a0))))) (aM (hs:=by kernel_rfl) (hd:=by kernel_rfl) ..) (.st (rm ..) (.lv rfl))
 exact .st (aF ..) (.s (iA (wr .i64 (0 - (wr .i64 (a0+1))))) (.st (v:=(A.v (.int .u64 (wr .u64 (wr .i64 (0 - (wr .i64 (a0+1)))))))) (aM (hs:=by kernel_rfl) (hd:=by kernel_rfl) ..) (.st (rm ..) (.st (aF ..) (.lv rfl)))))
def FA (a0:Int):Option Int:=Jd aD a0
def FH (C:OT):Prop:=∀ (a0:Int),C 105 [(iA a0)]=(FA a0).map λy=>(A.v (.int .u64 y))
def Dg (C:OT) (self:Int->Option (List UInt8)):Prop:=∀ (a0:Int),C 104 [(A.v (.int .u64 a0))]=(self a0).map λy=>(im (y.map c8) false)
def BH (self:Int->Option (List UInt8)) (n:Nat) (a0:Int):Option (List UInt8):=
 bif (decide (a0<128)) then (bif (decide (0<=(wr .u8 (a0)))&&decide ((wr .u8 (a0))<256)) then (some ([(UInt8.ofNat (Int.toNat (wr .u8 (a0))))])) else none) else (bif (decide (0<=(wr .u8 (wr .u64 ((Int.tmod a0 128)+128))))&&decide ((wr .u8 (wr .u64 ((Int.tmod a0 128)+128)))<256)) then ((self (wr .u64 (Int.tdiv a0 128))).bind λa=>(cU 1 ([(UInt8.ofNat (Int.toNat (wr .u8 (wr .u64 ((Int.tmod a0 128)+128)))))]) a).bind λb=>some b) else none)
theorem S9 (C:OT) (n:Nat) (self:Int->Option (List UInt8)) (hS:Dg C self) (a0:Int):TJ C n 104 [(A.v (.int .u64 a0))] (BH self n a0) (λy=>(im (y.map c8) false)):=by
 refine .lp (Tt ..) ?_;unfold BH;refine .st (aZ ..) (.cu ?_ ?_)
 ·exact .st (v:=(uA (wr .u8 (a0)))) (aM (hs:=by kernel_rfl) (hd:=by kernel_rfl) ..) (.gd λhg=>.st (v:=(im [[(uA (((UInt8.ofNat (Int.toNat (wr .u8 (a0)))).toNat:Int)))]] true)) (by rw[gM hg]; kernel_rfl) (.lv so))
 exact .st (gn (hb:=by decide) ..) (.st (aF ..) (.st (v:=(uA (wr .u8 (wr .u64 ((Int.tmod a0 128)+128))))) (aM (hs:=by kernel_rfl) (hd:=by kernel_rfl) ..) (.gd λhg=>.st (v:=(im [[(uA (((UInt8.ofNat (Int.toNat (wr .u8 (wr .u64 ((Int.tmod a0 128)+128))))).toNat:Int)))]] true)) (by rw[gM hg]; kernel_rfl) (.st (uw (hb:=by decide) ..) (.bd (g:=λ(y:(List UInt8))=>(im (y.map c8) false)) (hS (wr .u64 (Int.tdiv a0 128))) λc=>.bd (g:=λ(y:List UInt8)=>((bD 0 0 y.length false),[aA.row false 1 (y.map c8)])) (nR dE (l:=[(UInt8.ofNat (Int.toNat (wr .u8 (wr .u64 ((Int.tmod a0 128)+128)))))]) (l2:=c) (bM ..)) λa=>.lv (by show bp [aA.row false 1 (a.map c8)] (bD 0 0 a.length false)=_; first | (simp only[cP,fo,bp,cq (H:=[aA.row false 1 (a.map c8)]) (b:=0) (es:=1) (wr:=false) (l:=a) fN rfl]; done) | (simp only[cP,gR,bp,cq (H:=[aA.row false 1 (a.map c8)]) (b:=0) (es:=1) (wr:=false) (l:=a) fN rfl]; first | done | rfl)))))))
def zP:Nat->Int->Option (List UInt8)
 | 0=>λ_=>none
 | q+1=>λa0=>BH (zP q) aD a0
def Es (a0:Int):Option (List UInt8):=zP aD a0
def FG (C:OT):Prop:=∀ (a0:Int),C 104 [(A.v (.int .u64 a0))]=(Es a0).map λy=>(im (y.map c8) false)
def BI (C:OT) (self:aw->Option (List UInt8)):Prop:=∀ (a0:aw),C 86 [(ag (ar a0))]=(self a0).map λy=>(im (y.map c8) false)
def lH (self:aw->Option (List UInt8)) (n:Nat) (a:aw):Nat->Int->(List UInt8)->Option ((List UInt8))
 | 0,_,_=>none
 | m+1,b,c=>bif (decide (b<((a.L.length:Int)))) then ((bG a.L b).bind λd=>(self d).bind λe=>(cU 1 c e).bind λf=>lH self n a m (wr .i64 (b+1)) f) else (some c)
theorem Gw (self:aw->Option (List UInt8)) (hS:BI C self) {i:A} (a:aw) {K:((List UInt8))->Option γ} (j:∀ (d:(List UInt8)) (k:A) (s2:A) (o:A) (p:aA),J φ (kx 1 (St.mk [(1,k),(2,s2),(3,(bD 1 0 d.length false)),(4,o)] [p,aA.row false 1 (d.map c8)])) kL (K d) some) :
  ∀ (m:Nat) (f:Int) (c:(List UInt8)),J φ (aI (cx C) (ec C n 8) (ey C n 8) (n+8) 86 0 0 2 kx kg kr kp m (St.mk [(1,(pt 0 0)),(2,i),(3,(bD 1 0 c.length false)),(4,(iA f))] [bx (ar a),aA.row false 1 (c.map c8)])) kL (lH self n a m f c) K:=by
  refine nI (λ_ _=>.nn) λm ih f c=>.lp (PB ..) ?_;unfold lH;refine .s2 (im (a.L.map az) false) (.st (eS (e:=107)) (.st (aZ ..) (.cu ?_ ?_)))
  ·refine .s2 (im (a.L.map az) false) (.bd ((fx (e:=107) (es:=4)).trans (fc _)) λh=>.s (ag (ar h)) (.bd (g:=λ(y:(List UInt8))=>(im (y.map c8) false)) (by show C 86 [snap _ (ag (ar h))]=_; simp only[cP,fo]; exact hS h) λq=>.bd (g:=λ(y:List UInt8)=>((bD 1 0 y.length false),[bx (ar a),aA.row false 1 (y.map c8)])) (cC dE (l:=c) (l2:=q) (b:=1) rfl (by decide) (bM ..)) λr=>.st (aF ..) (.s [bx (ar a),aA.row false 1 (r.map c8)] (.cT r7 ?_))));exact ih _ _
  exact .ex (j _ _ _ _ _)
def Oi (self:aw->Option (List UInt8)) (n:Nat) (a0:aw):Option (List UInt8):=
 bif (a0.Kind==1) then ((FA a0.N).bind λa=>(Es a).bind λb=>(cU 1 ([(1:UInt8)]) b).bind λc=>some c) else (bif (a0.Kind==2) then ((Es (wr .u64 ((a0.S.size:Int)))).bind λd=>(cU 1 ([(2:UInt8)]) d).bind λe=>(cU 1 e (ky a0.S)).bind λf=>some f) else ((Es (wr .u64 ((a0.L.length:Int)))).bind λg=>(cU 1 ([(3:UInt8)]) g).bind λh=>(lH self n a0 (n+8) 0 h).bind λRW=>match RW with | i=>some i))
theorem Yd (C:OT) (n:Nat) (f:FG C) (i:FH C) (self:aw->Option (List UInt8)) (hS:BI C self) (a0:aw):TJ C n 86 [(ag (ar a0))] (Oi self n a0) (λy=>(im (y.map c8) false)):=by
 refine .lp (Y7 ..) ?_;unfold Oi;refine .s ((pt 0 0),[bx (ar a0)]) (.s2 (iA a0.Kind) (.st (aX ..) (.cu ?_ ?_)))
 ·exact .s (im [[(uA 1)]] true) (.s2 (iA a0.N) (.bd (i a0.N) λj=>.bd (f j) λk=>.bd (g:=λ(y:List UInt8)=>((bD 1 0 y.length false),[bx (ar a0),aA.row false 1 (y.map c8)])) (nR dE (l:=[(1:UInt8)]) (l2:=k) (bM ..)) λa=>.lv (by show bp [bx (ar a0),aA.row false 1 (a.map c8)] (bD 1 0 a.length false)=_; first | (simp only[cP,fo,bp,cq (H:=[bx (ar a0),aA.row false 1 (a.map c8)]) (b:=1) (es:=1) (wr:=false) (l:=a) fN rfl]; done) | (simp only[cP,gR,bp,cq (H:=[bx (ar a0),aA.row false 1 (a.map c8)]) (b:=1) (es:=1) (wr:=false) (l:=a) fN rfl]; first | done | rfl))))
 refine .st (aX ..) (.cu ?_ ?_)
 ·exact .s (im [[(uA 2)]] true) (.s2 (sA a0.S) (.s (iA ((a0.S.size:Int))) (.st (v:=(A.v (.int .u64 (wr .u64 ((a0.S.size:Int)))))) (aM (hs:=by kernel_rfl) (hd:=by kernel_rfl) ..) (.bd (f (wr .u64 ((a0.S.size:Int)))) λo=>.bd (g:=λ(y:List UInt8)=>((bD 1 0 y.length false),[bx (ar a0),aA.row false 1 (y.map c8)])) (nR dE (l:=[(2:UInt8)]) (l2:=o) (bM ..)) λp=>.cT r7 (.s (pt 0 2) (.cT r7 (.s (sA a0.S) (.bd (g:=λ(y:List UInt8)=>((bD 1 0 y.length false),[bx (ar a0),aA.row false 1 (y.map c8)])) (cC yo (l:=p) (l2:=ky a0.S) (b:=1) rfl (by decide) (tY ..)) λc=>.lv (by show bp [bx (ar a0),aA.row false 1 (c.map c8)] (bD 1 0 c.length false)=_; first | (simp only[cP,fo,bp,cq (H:=[bx (ar a0),aA.row false 1 (c.map c8)]) (b:=1) (es:=1) (wr:=false) (l:=c) fN rfl]; done) | (simp only[cP,gR,bp,cq (H:=[bx (ar a0),aA.row false 1 (c.map c8)]) (b:=1) (es:=1) (wr:=false) (l:=c) fN rfl]; first | done | rfl))))))))))
 refine .s (im [[(uA 3)]] true) (.s2 (im (a0.L.map az) false) (.st (eS (e:=107)) (.st (v:=(A.v (.int .u64 (wr .u64 ((a0.L.length:Int)))))) (aM (hs:=by kernel_rfl) (hd:=by kernel_rfl) ..) (.bd (f (wr .u64 ((a0.L.length:Int)))) λq=>.bd (g:=λ(y:List UInt8)=>((bD 1 0 y.length false),[bx (ar a0),aA.row false 1 (y.map c8)])) (nR dE (l:=[(3:UInt8)]) (l2:=q) (bM ..)) λr=>.as (Gw C n _ _ _ _ self hS  a0 ?_ _ 0 r)))))
 ·intro d t u w h;exact .un rfl (.cT r7 (.lv (by show bp [h,aA.row false 1 (d.map c8)] (bD 1 0 d.length false)=_; first | (simp only[cP,fo,bp,cq (H:=[h,aA.row false 1 (d.map c8)]) (b:=1) (es:=1) (wr:=false) (l:=d) fN rfl]; done) | (simp only[cP,gR,bp,cq (H:=[h,aA.row false 1 (d.map c8)]) (b:=1) (es:=1) (wr:=false) (l:=d) fN rfl]; first | done | rfl))))
def Lx:Nat->aw->Option (List UInt8)
 | 0=>λ_=>none
 | q+1=>λa0=>Oi (Lx q) aD a0
def OM (a0:aw):Option (List UInt8):=Lx aD a0
def F3 (C:OT):Prop:=∀ (a0:aw),C 86 [(ag (ar a0))]=(OM a0).map λy=>(im (y.map c8) false)
def Rt (n:Nat) (a0:aw):Option ((List UInt8)×Int):=
 (NZ a0).bind λa=>bif (a != 0) then (some (([],a))) else ((OM a0).bind λb=>some ((b,0)))
theorem XW (C:OT) (n:Nat) (a:F0 C) (b:F3 C) (a0:aw):TJ C n 60 [(ag (ar a0))] (Rt n a0) (λy=>(tp [(im (y.1.map c8) false),(iA y.2)])):=by
 refine .lp (YN ..) ?_;unfold Rt;refine .s ((pt 0 0),[bx (ar a0)]) (.s (ag (ar a0)) (.bd (g:=λ(y:Int)=>(iA y)) (by simp only[cP,fo]; exact a a0) λc=>.st (aO ..) (.cu ?_ ?_)))
 ·exact .lv so
 exact .s (ag (ar a0)) (.bd (g:=λ(y:(List UInt8))=>(im (y.map c8) false)) (by simp only[cP,fo]; exact b a0) λd=>.lv so)
def NX (a0:aw):Option ((List UInt8)×Int):=Rt aD a0
def Ll (C:OT):Prop:=∀ (a0:aw),C 60 [(ag (ar a0))]=(NX a0).map λy=>(tp [(im (y.1.map c8) false),(iA y.2)])
def Rc (n:Nat) (a0:aE):Option (List UInt8):=
 (OA ([1,a0.No,a0.Role,a0.Bar,a0.Program])).bind λa=>(NX a).bind λb=>some b.1
theorem XF (C:OT) (n:Nat) (b:Ll C) (c:Lm C) (a0:aE):TJ C n 29 [(ag (av a0))] (Rc n a0) (λy=>(im (y.map c8) false)):=by
 refine .lp (Yu ..) ?_;unfold Rc;exact .s ((pt 0 0),[bx (av a0)]) (.s2 (iA a0.No) (.s2 (iA a0.Role) (.s2 (iA a0.Bar) (.s2 (iA a0.Program) (.s (im [[(iA 1)],[(iA a0.No)],[(iA a0.Role)],[(iA a0.Bar)],[(iA a0.Program)]] true) (.bd (g:=λ(y:aw)=>(ag (ar y))) (by simp only[cP,fo]; exact c ([1,a0.No,a0.Role,a0.Bar,a0.Program])) λd=>.bd (g:=λ(y:((List UInt8)×Int))=>(tp [(im (y.1.map c8) false),(iA y.2)])) (by simp only[cP,fo]; exact b d) λa=>.s (im (a.1.map c8) false) (.s (iA a.2) (.lv so))))))))
def Ot (a0:aE):Option (List UInt8):=Rc aD a0
def FM (C:OT):Prop:=∀ (a0:aE),C 29 [(ag (av a0))]=(Ot a0).map λy=>(im (y.map c8) false)
def Ry (n:Nat) (a0:aP) (a1:Int):Option (aC×Int):=
 (Mm a0).bind λa=>bif (a != 0) then (some (((aC.mk 0 0 ([])),60))) else ((bif (decide (a1<0)) then (some true) else (some (decide (((a0.Queue.length:Int))<=a1)))).bind λb=>bif b then (some (((aC.mk 0 0 ([])),1))) else ((bG a0.Queue a1).bind λc=>some ((c,0))))
theorem X1 (C:OT) (n:Nat) (i:Db C) (a0:aP) (a1:Int):TJ C n 70 [(ag [(im (a0.Queue.map al) false),(im (a0.Apart.map au) false)]),(iA a1)] (Ry n a0 a1) (λy=>(tp [(ag (al y.1)),(iA y.2)])):=by
 refine .lp (YU ..) ?_;unfold Ry;refine .s ((pt 0 0),[(fh a0)]) (.s ((pt 1 0),[(fh a0),bx [(iA 0),(iA 0),Z5]]) (.s (ag [(im (a0.Queue.map al) false),(im (a0.Apart.map au) false)]) (.bd (g:=λ(y:Int)=>(iA y)) (by simp only[cP,fo]; exact i a0) λj=>.st (aO ..) (.cu ?_ ?_))))
 ·exact .s (ag [(iA 0),(iA 0),Z5]) (.s [(fh a0),bx [(iA 0),(iA 0),Z5]] (.s (ag [(iA 0),(iA 0),Z5]) (.lv so)))
 refine .st (aZ ..) (.bg (λt (y:Bool)=>∃ b c d f h:A,t=[(bA y),b,c,d,f,h]) ?_ ?_)
 ·refine .bi ?_ ?_
  ·exact .lg ⟨_,_,_,_,_,rfl⟩
  exact .s (pt 0 0) (.s (im (a0.Queue.map al) false) (.st (eS (e:=48)) (.st (dD ..) (.lg ⟨_,_,_,_,_,rfl⟩))))
 rintro _ k ⟨b,c,d,f,h,rfl⟩
 refine .u4 (.uc (.uc (.cu ?_ ?_)))
 ·exact .s (ag [(iA 0),(iA 0),Z5]) (.s [(fh a0),bx [(iA 0),(iA 0),Z5]] (.s (ag [(iA 0),(iA 0),Z5]) (.lv so)))
 exact .s2 (im (a0.Queue.map al) false) (.bd (fx (e:=48) (es:=3)) λa=>.s (ag (al a)) (.s [(fh a0),bx (al a)] (.s (ag (al a)) (.lv so))))
def Mo (a0:aP) (a1:Int):Option (aC×Int):=Ry aD a0 a1
def De (C:OT):Prop:=∀ (a0:aP) (a1:Int),C 70 [(ag [(im (a0.Queue.map al) false),(im (a0.Apart.map au) false)]),(iA a1)]=(Mo a0 a1).map λy=>(tp [(ag (al y.1)),(iA y.2)])
def lI (n:Nat) (b:(List (Int×Int))) (c:Int) (d:Int) (e:Int):Nat->Int->Option ((Int)⊕(Unit))
 | 0,_=>none
 | m+1,a=>bif (decide (a<c)) then ((bG b a).bind λf=>bif (((d==f.1)&&(e==f.2))) then (some ((Sum.inl a))) else (lI n b c d e m (wr .i64 (a+1)))) else (some ((Sum.inr (()))))
theorem Gx {p:A} (k:(List (Int×Int))) (l:Int) (a:Int) (b:Int) {K:((Int)⊕(Unit))->Option γ} (q:∀ (o:Int) (d:A) (f:A) (g:A) (h:A) (i:aA),J φ (kr (St.mk [(0,d),(3,f),(4,(iA o)),(7,g),(8,h)] [i])) kL (K (Sum.inl o)) some) (r:∀ (d:A) (f:A) (t:A) (g:A) (h:A) (i:aA),J φ (kx 0 (St.mk [(0,d),(3,f),(4,t),(7,g),(8,h)] [i])) kL (K (Sum.inr (()))) some) :
  ∀ (m:Nat) (j:Int),J φ (aI (cx C) (ec C n 8) (ey C n 8) (n+8) 93 0 0 1 kx kg kr kp m (St.mk [(0,(im (k.map au) false)),(3,(pt 0 0)),(4,p),(7,(iA l)),(8,(iA j))] [bx [(iA a),(iA b)]])) kL (lI n k l a b m j) K:=by
  refine nI (λ_=>.nn) λm ih j=>.lp (PE ..) ?_;unfold lI;refine .st (aZ ..) (.cu ?_ ?_)
  ·refine .s (ag [(iA a),(iA b)]) (.bd (fx (e:=115) (es:=2)) λc=>.s (ag [(iA c.1),(iA c.2)]) (.s (bA (((a==c.1)&&(b==c.2)))) (.cu ?_ ?_)))
   ·exact .ex (q _ _ _ _ _ _)
   refine .st (aF ..) (.s [bx [(iA a),(iA b)]] (.cT r7 ?_));exact ih _
  exact .ex (r _ _ _ _ _ _)
def RJ (n:Nat) (a0:(List (Int×Int))) (a1:(Int×Int)):Option Int:=
 (lI n a0 ((a0.length:Int)) a1.1 a1.2 (n+8) 0).bind λa=>match a with | (Sum.inl b)=>some b | (Sum.inr _)=>some (-1)
theorem Yf (C:OT) (n:Nat) (a0:(List (Int×Int))) (a1:(Int×Int)):TJ C n 93 [(im (a0.map au) false),(ag [(iA a1.1),(iA a1.2)])] (RJ n a0 a1) (λy=>(iA y)):=by
 refine .lp (Zb ..) ?_;unfold RJ;refine .s ((pt 0 0),[bx [(iA a1.1),(iA a1.2)]]) (.st (eS (e:=115)) (.as (Gx C n _ _ _ _  a0 ((a0.length:Int)) a1.1 a1.2 ?_ ?_ _ 0)))
 ·intro a b c d f g;exact .un rfl (.lv rfl)
 ·intro h i j k l o;exact .un rfl (.cT r7 (.lv rfl))
def RN (a0:(List (Int×Int))) (a1:(Int×Int)):Option Int:=RJ aD a0 a1
def Lu (C:OT):Prop:=∀ (a0:(List (Int×Int))) (a1:(Int×Int)),C 93 [(im (a0.map au) false),(ag [(iA a1.1),(iA a1.2)])]=(RN a0 a1).map λy=>(iA y)
def Rz (n:Nat) (a0:(List (Int×Int))) (a1:(Int×Int)):Option Bool:=
 (RN a0 a1).bind λa=>some (decide (0<=a))
theorem X2 (C:OT) (n:Nat) (a:Lu C) (a0:(List (Int×Int))) (a1:(Int×Int)):TJ C n 71 [(im (a0.map au) false),(ag [(iA a1.1),(iA a1.2)])] (Rz n a0 a1) (λy=>(bA y)):=by
 refine .lp (YV ..) ?_;unfold Rz;exact .s ((pt 0 0),[bx [(iA a1.1),(iA a1.2)]]) (.s (ag [(iA a1.1),(iA a1.2)]) (.bd (g:=λ(y:Int)=>(iA y)) (by simp only[cP,fo]; exact a a0 a1) λb=>.st (dD ..) (.lv rfl)))
def OD (a0:(List (Int×Int))) (a1:(Int×Int)):Option Bool:=Rz aD a0 a1
def Lo (C:OT):Prop:=∀ (a0:(List (Int×Int))) (a1:(Int×Int)),C 71 [(im (a0.map au) false),(ag [(iA a1.1),(iA a1.2)])]=(OD a0 a1).map λy=>(bA y)
def pB (a:(List aC)) (a0:aP):aA:=bx [(bD 2 0 a.length false),(im (a0.Apart.map au) false)]
def RA (n:Nat) (a0:aP) (a1:Int):Option aP:=
 (gv a0.Queue 0 a1).bind λa=>(gv a0.Queue (wr .i64 (a1+1)) ((a0.Queue.length:Int))).bind λb=>(cU 40 a b).bind λc=>some ((aP.mk c a0.Apart))
theorem X4 (C:OT) (n:Nat) (a0:aP) (a1:Int):TJ C n 73 [(ag [(im (a0.Queue.map al) false),(im (a0.Apart.map au) false)]),(iA a1)] (RA n a0 a1) (λy=>(ag [(im (y.Queue.map al) false),(im (y.Apart.map au) false)])):=by
 refine .lp (YX ..) ?_;unfold RA;exact .sq (pt 0 0) (.s ((pt 1 0),[bx [(im (a0.Queue.map al) false),(im (a0.Apart.map au) false)],bx [Z5,Z5]]) (.s2 (im (a0.Queue.map al) false) (.bd (oY (e:=48) (es:=3) (f:=al) (l:=a0.Queue) (a:=0) (b:=a1) r7 r7 (λ_=>rfl) (.inl ⟨rfl,rfl⟩)) λd=>.s2 (im (a0.Queue.map al) false) (.st (aF ..) (.bd (mw (e:=48) (es:=3) (f:=al) (l:=a0.Queue) (a:=wr .i64 (a1+1)) (b:=(a0.Queue.length:Int)) r7 r7 (λ_=>rfl) (.inr ⟨_,rfl⟩) (.inl ⟨rfl,rfl⟩)) λh=>.bd (g:=λ(y:List aC)=>((bD 2 0 y.length false),[bx [(im (a0.Queue.map al) false),(im (a0.Apart.map au) false)],bx [Z5,Z5],aA.row false 3 (y.map al)])) (nR Dm (l:=d) (l2:=h) (bM ..)) λc=>.s (pt 0 0) (.sh (.s (ag [(bD 2 0 c.length false),(im (a0.Apart.map au) false)]) (.s [(pB c a0),(pB c a0),aA.row false 3 (c.map al)] (.s (ag [(bD 2 0 c.length false),(im (a0.Apart.map au) false)]) (.lv (by show bp [(pB c a0),(pB c a0),aA.row false 3 (c.map al)] (ag [(bD 2 0 c.length false),(im (a0.Apart.map au) false)])=_; first | (simp only[cP,fo,bp,cq (H:=[(pB c a0),(pB c a0),aA.row false 3 (c.map al)]) (b:=2) (es:=3) (wr:=false) (l:=c) cV rfl]; done) | (simp only[cP,gR,bp,cq (H:=[(pB c a0),(pB c a0),aA.row false 3 (c.map al)]) (b:=2) (es:=3) (wr:=false) (l:=c) cV rfl]; first | done | rfl))))))))))))
def Mp (a0:aP) (a1:Int):Option aP:=RA aD a0 a1
def FY (C:OT):Prop:=∀ (a0:aP) (a1:Int),C 73 [(ag [(im (a0.Queue.map al) false),(im (a0.Apart.map au) false)]),(iA a1)]=(Mp a0 a1).map λy=>(ag [(im (y.Queue.map al) false),(im (y.Apart.map au) false)])
def Rh (n:Nat) (a0:aP) (a1:Int):Option (aC×aP×Int):=
 (Mo a0 a1).bind λa=>bif (a.2 != 0) then (some ((a.1,(aP.mk ([]) ([])),a.2))) else ((OE a.1.From a.1.To).bind λb=>(OD a0.Apart b).bind λc=>bif c then ((Mp a0 a1).bind λd=>some (((aC.mk 0 0 ([])),d,0))) else ((Mp a0 a1).bind λe=>some ((a.1,e,0))))
theorem XL (C:OT) (n:Nat) (e:De C) (f:Lo C) (h:FX C) (d:FY C) (a0:aP) (a1:Int):TJ C n 41 [(ag [(im (a0.Queue.map al) false),(im (a0.Apart.map au) false)]),(iA a1)] (Rh n a0 a1) (λy=>(tp [(ag (al y.1)),(ag [(im (y.2.1.Queue.map al) false),(im (y.2.1.Apart.map au) false)]),(iA y.2.2)])):=by
 refine .lp (YA ..) ?_;unfold Rh;refine .s ((pt 0 0),[(fh a0)]) (.sq (pt 1 0) (.s ((pt 2 0),[(fh a0),bx [(iA 0),(iA 0),Z5],bx [Z5,Z5]]) (.s (ag [(im (a0.Queue.map al) false),(im (a0.Apart.map au) false)]) (.bd (g:=λ(y:(aC×Int))=>(tp [(ag (al y.1)),(iA y.2)])) (by simp only[cP,fo]; exact e a0 a1) λa=>.s (ag (al a.1)) (.s (iA a.2) (.s [(fh a0),bx (al a.1),bx [Z5,Z5]] (.st (aO ..) (.cu ?_ ?_))))))))
 ·exact .s (ag (al a.1)) (.s (ag [Z5,Z5]) (.cT r7 (.sh (.s [(fh a0),bx (al a.1),bx [Z5,Z5]] (.s (ag (al a.1)) (.s (ag [Z5,Z5]) (.lv so)))))))
 refine .s2 (im (a0.Apart.map au) false) (.s2 (iA a.1.From) (.s2 (iA a.1.To) (.bd (h a.1.From a.1.To) λi=>.bd (g:=λ(y:Bool)=>(bA y)) (by simp only[cP,fo]; exact f a0.Apart i) λj=>.cu ?_ ?_)))
 ·exact .s (ag [(iA 0),(iA 0),Z5]) (.s [(fh a0),bx [(iA 0),(iA 0),Z5],bx [Z5,Z5]] (.s (ag [(iA 0),(iA 0),Z5]) (.s (ag [(im (a0.Queue.map al) false),(im (a0.Apart.map au) false)]) (.bd (g:=λ(y:aP)=>(ag [(im (y.Queue.map al) false),(im (y.Apart.map au) false)])) (by simp only[cP,fo]; exact d a0 a1) λb=>.sh (.s [(fh a0),bx [(iA 0),(iA 0),Z5],bx [(im (b.Queue.map al) false),(im (b.Apart.map au) false)]] (.s (ag [(iA 0),(iA 0),Z5]) (.s (ag [(im (b.Queue.map al) false),(im (b.Apart.map au) false)]) (.lv so))))))))
 exact .s (ag (al a.1)) (.s (ag [(im (a0.Queue.map al) false),(im (a0.Apart.map au) false)]) (.bd (g:=λ(y:aP)=>(ag [(im (y.Queue.map al) false),(im (y.Apart.map au) false)])) (by simp only[cP,fo]; exact d a0 a1) λc=>.sh (.s [(fh a0),bx (al a.1),bx [(im (c.Queue.map al) false),(im (c.Apart.map au) false)]] (.s (ag (al a.1)) (.s (ag [(im (c.Queue.map al) false),(im (c.Apart.map au) false)]) (.lv so))))))
def Ov (a0:aP) (a1:Int):Option (aC×aP×Int):=Rh aD a0 a1
def Li (C:OT):Prop:=∀ (a0:aP) (a1:Int),C 41 [(ag [(im (a0.Queue.map al) false),(im (a0.Apart.map au) false)]),(iA a1)]=(Ov a0 a1).map λy=>(tp [(ag (al y.1)),(ag [(im (y.2.1.Queue.map al) false),(im (y.2.1.Apart.map au) false)]),(iA y.2.2)])
def Ri (n:Nat) (a0:aE) (a1:Int):Option Int:=
 some (wr .i64 (a0.Bar - a1))
theorem XM (C:OT) (n:Nat) (a0:aE) (a1:Int):TJ C n 43 [(ag (av a0)),(iA a1)] (Ri n a0 a1) (λy=>(iA y)):=by
 refine .lp (YC ..) ?_;unfold Ri;exact .s ((pt 0 0),[bx (av a0)]) (.s2 (iA a0.Bar) (.st (fF ..) (.lv rfl)))
def NU (a0:aE) (a1:Int):Option Int:=Ri aD a0 a1
def FO (C:OT):Prop:=∀ (a0:aE) (a1:Int),C 43 [(ag (av a0)),(iA a1)]=(NU a0 a1).map λy=>(iA y)
def gT (n:Nat) (c:(List aE)) (d:Int):Nat->Int->Int->Option (Int)
 | 0,_,_=>none
 | m+1,a,b=>bif (decide (a<b)) then ((bG c (wr .i64 (jJ .u64 (wr .u64 (wr .i64 (a+b))) 1))).bind λe=>(NU e d).bind λf=>bif (decide (f<0)) then (gT n c d m (wr .i64 ((wr .i64 (jJ .u64 (wr .u64 (wr .i64 (a+b))) 1))+1)) b) else (gT n c d m a (wr .i64 (jJ .u64 (wr .u64 (wr .i64 (a+b))) 1)))) else (some a)
theorem zT (j:FO C) {k l f:A} (d:(List aE)) (c:Int) {K:(Int)->Option γ} (o:∀ (h:Int) (p:A) (q:A) (r:A),J φ (kx 0 (St.mk [(0,(im (d.map av) false)),(1,(iA c)),(2,(tz 43 [] [])),(6,p),(7,q),(8,f),(9,(iA h)),(10,r)] [])) kL (K h) some) :
  ∀ (m:Nat) (a:Int) (b:Int),J φ (aI (cx C) (ec C n 8) (ey C n 8) (n+8) 42 0 0 0 kx kg kr kp m (St.mk [(0,(im (d.map av) false)),(1,(iA c)),(2,(tz 43 [] [])),(6,k),(7,l),(8,f),(9,(iA a)),(10,(iA b))] [])) kL (gT n d c m a b) K:=by
  refine nI (λ_ _=>.nn) λm ih a b=>.lp (Pp ..) ?_;unfold gT;refine .st (aZ ..) (.cu ?_ ?_)
  ·refine .st (aF ..) (.st (v:=(A.v (.int .u64 (wr .u64 (wr .i64 (a+b)))))) (aM (hs:=by kernel_rfl) (hd:=by kernel_rfl) ..) (.st (jx (hb:=by decide) ..) (.st (v:=(iA (wr .i64 (jJ .u64 (wr .u64 (wr .i64 (a+b))) 1)))) (aM (hs:=by kernel_rfl) (hd:=by kernel_rfl) ..) (.bd (fx (e:=30) (es:=4)) λi=>.s (ag (av i)) (.dO r7 r7 (.bd (g:=λ(y:Int)=>(iA y)) (by simp only[qbd,qaS,qaW,cP,fo]; exact(j i c)) λt=>.st (aZ ..) (.cu ?_ ?_)))))))
   ·refine .st (aF ..) (.s [] (.cT r7 ?_));exact ih _ _
   refine .s [] (.cT r7 ?_);exact ih _ _
  exact .ex (o _ _ _ _)
def xW (n:Nat) (a0:(List aE)) (a1:Int):Option (Int×Bool):=
 (gT n a0 a1 (n+8) 0 ((a0.length:Int))).bind λN8=>match N8 with | a=>(bif (decide (a<((a0.length:Int)))) then ((bG a0 a).bind λb=>(NU b a1).bind λc=>some (c==0)) else (some false)).bind λd=>some ((a,d))
theorem Mu (C:OT) (n:Nat) (a:FO C) (a0:(List aE)) (a1:Int):TJ C n 42 [(im (a0.map av) false),(iA a1),(tz 43 [] [])] (xW n a0 a1) (λy=>(tp [(iA y.1),(bA y.2)])):=by
 refine .lp (YB ..) ?_;unfold xW;refine .st (eS (e:=30)) (.as (zT C n _ _ _ _ a  a0 a1 ?_ _ 0 ((a0.length:Int))))
 ·intro o p q r;refine .un rfl (.cT r7 (.st (aZ ..) (.bg (λt (y:Bool)=>∃ b c d f h i j k:A,t=[(bA y),b,c,d,f,h,i,j,k]) ?_ ?_)))
  ·refine .bi ?_ ?_
   ·exact .bd (fx (e:=30) (es:=4)) λl=>.s (ag (av l)) (.vO r7 r7 (.bd (g:=λ(y:Int)=>(iA y)) (by simp only[qbd,qaS,qaW,cP,fo]; exact(a l a1)) λu=>.st (aX ..) (.lg ⟨_,_,_,_,_,_,_,_,rfl⟩)))
   exact .lg ⟨_,_,_,_,_,_,_,_,rfl⟩
  rintro _ v ⟨b,c,d,f,h,i,j,k,rfl⟩
  exact .u4 (.u4 (.uc (.lv rfl)))
def uk (a0:(List aE)) (a1:Int):Option (Int×Bool):=xW aD a0 a1
def zI (C:OT):Prop:=∀ (a0:(List aE)) (a1:Int),C 42 [(im (a0.map av) false),(iA a1),(tz 43 [] [])]=(uk a0 a1).map λy=>(tp [(iA y.1),(bA y.2)])
def dm (a:(aC×aP×Int)):aA:=bx [(im (a.2.1.Queue.map al) false),(im (a.2.1.Apart.map au) false)]
def hX (a:(aC×aP×Int)) (a0:ay):aA:=bx [(im (a.2.1.Queue.map al) false),(im (a.2.1.Apart.map au) false),(im (a0.Ears.map aB) false),(iA a0.Bar)]
def fT (a:(aC×aP×Int)) (b:(List aR)) (a0:ay):aA:=bx [(im (a.2.1.Queue.map al) false),(im (a.2.1.Apart.map au) false),(bD 8 0 b.length false),(iA a0.Bar)]
def mQ (a:(aC×aP×Int)) (b:(List aR)) (a0:ay):aA:=bx [(im (a.2.1.Queue.map al) false),(im (a.2.1.Apart.map au) false),(bD 7 0 b.length false),(iA a0.Bar)]
def Q7 (n:Nat) (a0:ay) (a1:Int):Option (ay×bH×Bool×Int):=
 (Fv a0).bind λi=>bif (i != 0) then (some (((ay.mk ((aP.mk ([]) ([]))) ([]) 0),(bH.mk 0 0 0),false,i))) else ((Ov a0.Net a1).bind λb=>bif (b.2.2 != 0) then (some (((ay.mk ((aP.mk ([]) ([]))) ([]) 0),(bH.mk 0 0 0),false,b.2.2))) else ((NT b.1.Data).bind λa=>(bif a.2 then (some (a.1.kind==2)) else (some false)).bind λj=>bif j then (some (((ay.mk b.2.1 a0.Ears a0.Bar),a.1.report,true,0))) else ((bif a.2 then (some (decide (a0.Bar<=a.1.cue.Bar))) else (some false)).bind λk=>bif k then ((bG a0.Ears a.1.cue.Role).bind λc=>(uk c.Cues a.1.cue.Bar).bind λd=>bif (!d.2) then ((cU 32 ([]) c.Cues).bind λl=>(Hw l d.1 a.1.cue).bind λo=>(cU 72 ([]) a0.Ears).bind λe=>(gO e.length a.1.cue.Role).bind λp=>(lY e p (λ(y:aR)=>(aR.mk o y.Got y.Did))).bind λq=>some (((ay.mk b.2.1 ((List.take e.length (List.drop 0 q))) a0.Bar),(bH.mk 0 0 0),false,0))) else ((bG c.Cues d.1).bind λr=>bif (decide (r.No<a.1.cue.No)) then ((cU 32 ([]) c.Cues).bind λf=>(gO f.length d.1).bind λs=>(lY f s (λ(y:aE)=>a.1.cue)).bind λt=>(cU 72 ([]) a0.Ears).bind λg=>(gO g.length a.1.cue.Role).bind λu=>(lY g u (λ(y:aR)=>(aR.mk ((List.take f.length (List.drop 0 t))) y.Got y.Did))).bind λv=>some (((ay.mk b.2.1 ((List.take g.length (List.drop 0 v))) a0.Bar),(bH.mk 0 0 0),false,0))) else ((cU 72 ([]) a0.Ears).bind λh=>(gO h.length a.1.cue.Role).bind λw=>(lY h w (λ(y:aR)=>(aR.mk c.Cues y.Got y.Did))).bind λx=>some (((ay.mk b.2.1 ((List.take h.length (List.drop 0 x))) a0.Bar),(bH.mk 0 0 0),false,0))))) else (some (((ay.mk b.2.1 a0.Ears a0.Bar),(bH.mk 0 0 0),false,0))))))
theorem Xy (C:OT) (n:Nat) (ab:ri C) (ad:Dc C) (ae:Li C) (af:zI C) (a0:ay) (a1:Int):TJ C n 16 [(ag (aq a0)),(iA a1)] (Q7 n a0 a1) (λy=>(tp [(ag (aq y.1)),(ag (bF y.2.1)),(bA y.2.2.1),(iA y.2.2.2)])):=by
 refine .lp (Ym ..) ?_;unfold Q7;refine .s ((pt 0 0),[bx (aq a0)]) (.sq (pt 1 0) (.s ((pt 2 0),[bx (aq a0),bx [Z5,Z5,Z5,(iA 0)],bx [(iA 0),(iA 0),(iA 0)]]) (.s (ag (aq a0)) (.bd (g:=λ(y:Int)=>(iA y)) (by simp only[cP,fo]; exact ab a0) λy1=>.st (aO ..) (.cu ?_ ?_)))))
 ·exact .s (ag [Z5,Z5,Z5,(iA 0)]) (.s (ag [(iA 0),(iA 0),(iA 0)]) (.cT r7 (.sh (.s [bx (aq a0),bx [Z5,Z5,Z5,(iA 0)],bx [(iA 0),(iA 0),(iA 0)]] (.s (ag [Z5,Z5,Z5,(iA 0)]) (.s (ag [(iA 0),(iA 0),(iA 0)]) (.lv so)))))))
 refine .s2 (ag [(im (a0.Net.Queue.map al) false),(im (a0.Net.Apart.map au) false)]) (.bd (g:=λ(y:(aC×aP×Int))=>(tp [(ag (al y.1)),(ag [(im (y.2.1.Queue.map al) false),(im (y.2.1.Apart.map au) false)]),(iA y.2.2)])) (by simp only[cP,fo]; exact ae a0.Net a1) λa=>.s (ag (al a.1)) (.s (ag [(im (a.2.1.Queue.map al) false),(im (a.2.1.Apart.map au) false)]) (.s (iA a.2.2) (.sq (pt 3 0) (.sq (pt 4 0) (.sh (.s [bx (aq a0),bx [Z5,Z5,Z5,(iA 0)],bx [(iA 0),(iA 0),(iA 0)],bx (al a.1),(dm a)] (.st (aO ..) (.cu ?_ ?_)))))))))
 ·exact .s (ag [Z5,Z5,Z5,(iA 0)]) (.s (ag [(iA 0),(iA 0),(iA 0)]) (.cT r7 (.sh (.s [bx (aq a0),bx [Z5,Z5,Z5,(iA 0)],bx [(iA 0),(iA 0),(iA 0)],bx (al a.1),(dm a)] (.s (ag [Z5,Z5,Z5,(iA 0)]) (.s (ag [(iA 0),(iA 0),(iA 0)]) (.lv so)))))))
 refine .s (ag [(im (a.2.1.Queue.map al) false),(im (a.2.1.Apart.map au) false)]) (.s (pt 0 0) (.s [(hX a a0),bx [Z5,Z5,Z5,(iA 0)],bx [(iA 0),(iA 0),(iA 0)],bx (al a.1),(dm a)] (.s2 (im (a.1.Data.map c8) false) (.bd (g:=λ(y:(aQ×Bool))=>(tp [(ag (ax y.1)),(bA y.2)])) (by simp only[cP,fo]; exact ad a.1.Data) λc=>.s (ag (ax c.1)) (.s (bA c.2) (.sq (pt 5 0) (.s [(hX a a0),bx [Z5,Z5,Z5,(iA 0)],bx [(iA 0),(iA 0),(iA 0)],bx (al a.1),(dm a),bx (ax c.1)] (.bg (λt (y:Bool)=>∃ j8 j9 tC:A,t=[(bA y),j8,j9,tC]) ?_ ?_))))))))
 ·refine .bi ?_ ?_
  ·exact .s (pt 5 0) (.s (iA c.1.kind) (.st (aX ..) (.lg ⟨_,_,_,rfl⟩)))
  exact .lg ⟨_,_,_,rfl⟩
 rintro _ y7 ⟨j8,j9,tC,rfl⟩
 refine .u4 (.cu ?_ ?_)
 ·exact .s (ag [(im (a.2.1.Queue.map al) false),(im (a.2.1.Apart.map au) false),(im (a0.Ears.map aB) false),(iA a0.Bar)]) (.s (pt 5 5) (.s (ag (bF c.1.report)) (.cT r7 (.sh (.s [(hX a a0),(hX a a0),bx (bF c.1.report),bx (al a.1),(dm a),bx (ax c.1)] (.s (ag [(im (a.2.1.Queue.map al) false),(im (a.2.1.Apart.map au) false),(im (a0.Ears.map aB) false),(iA a0.Bar)]) (.s (ag (bF c.1.report)) (.lv so))))))))
 refine .s2 (ag (av c.1.cue)) (.sq (pt 6 0) (.s [(hX a a0),bx [Z5,Z5,Z5,(iA 0)],bx [(iA 0),(iA 0),(iA 0)],bx (al a.1),(dm a),bx (ax c.1),bx (av c.1.cue)] (.bg (λt (y:Bool)=>∃ a6 a7 a8 a9 aa:A,t=[(bA y),a6,a7,a8,a9,aa]) ?_ ?_)))
 ·refine .bi ?_ ?_
  ·exact .s (pt 6 2) (.s (iA c.1.cue.Bar) (.s (pt 0 3) (.s (iA a0.Bar) (.st (dD ..) (.lg ⟨_,_,_,_,_,rfl⟩)))))
  exact .lg ⟨_,_,_,_,_,rfl⟩
 rintro _ ap ⟨a6,a7,a8,a9,aa,rfl⟩
 refine .u4 (.uc (.uc (.cu ?_ ?_)))
 ·refine .s2 (im (a0.Ears.map aB) false) (.s2 (iA c.1.cue.Role) (.bd (fx (e:=55) (es:=3)) λj=>.s2 (im (j.Cues.map av) false) (.s2 (iA c.1.cue.Bar) (.bd (g:=λ(y:(Int×Bool))=>(tp [(iA y.1),(bA y.2)])) (by simp only[cP,fo]; exact af j.Cues c.1.cue.Bar) λa2=>.s (iA a2.1) (.s (bA a2.2) (.s (bA (!a2.2)) (.cu ?_ ?_)))))))
  ·refine .s (ag (av c.1.cue)) (.cT r7 (.s (im [[(iA c.1.cue.No),(iA c.1.cue.Role),(iA c.1.cue.Bar),(iA c.1.cue.Program)]] true) (.cT r7 (.cl ((bk L3).trans (V2 ..)) (.st (v:=(A.nq (j.Cues.map av))) (vK (e:=30) r7) (.nq (f:=av) (l:=j.Cues) (λhn=>by rw[hn]; kernel_rfl) (.s Z5 (.bd (g:=λ(y:List aE)=>((bD 7 0 y.length false),[(hX a a0),bx [Z5,Z5,Z5,(iA 0)],bx [(iA 0),(iA 0),(iA 0)],bx (al a.1),(dm a),bx (ax c.1),bx (av c.1.cue),aA.row true 4 (y.map av)])) (pQ (e:=30) (es:=4) (by_:=32) (z:=[(iA 0),(iA 0),(iA 0),(iA 0)]) r7 r7 r7 r7 rfl (by decide) (by decide) r7 (f:=av) (λ_=>rfl) rC (l2:=j.Cues) (bM ..)) λah=>.cr (.ok (.is (o:=λ(y:List aE)=>(Out.ret (im (y.map av) false),[(hX a a0),bx [Z5,Z5,Z5,(iA 0)],bx [(iA 0),(iA 0),(iA 0)],bx (al a.1),(dm a),bx (ax c.1),bx (av c.1.cue),aA.dead])) (M1 (f:=av) (l:=ah) (x:=c.1.cue) (b:=7) P3 r7 r7 r7 rfl (λ_=>rfl) rC rfl (by decide) rfl) λa3=>.ok (.st (v:=((im (a3.map av) false),[(hX a a0),bx [Z5,Z5,Z5,(iA 0)],bx [(iA 0),(iA 0),(iA 0)],bx (al a.1),(dm a),bx (ax c.1),bx (av c.1.cue),aA.dead])) rfl (.s2 (im (a0.Ears.map aB) false) (.cl ((bk HZ).trans (Tx ..)) (.st (v:=(A.nq (a0.Ears.map aB))) (vK (e:=55) r7) (.nq (f:=aB) (l:=a0.Ears) (λhn=>by rw[hn]; kernel_rfl) (.s Z5 ?_))))))))))))))));exact .bd (g:=λ(y:List aR)=>((bD 8 0 y.length false),[(hX a a0),bx [Z5,Z5,Z5,(iA 0)],bx [(iA 0),(iA 0),(iA 0)],bx (al a.1),(dm a),bx (ax c.1),bx (av c.1.cue),aA.dead,aA.row true 3 (y.map aB)])) (pQ (e:=55) (es:=3) (by_:=72) (z:=[Z5,Z5,Z5]) r7 r7 r7 r7 rfl (by decide) (by decide) r7 (f:=aB) (λ_=>rfl) rD (l2:=a0.Ears) (bM ..)) λd=>.cr (.ok (.s (pt 0 2) (.s [(fT a d a0),bx [Z5,Z5,Z5,(iA 0)],bx [(iA 0),(iA 0),(iA 0)],bx (al a.1),(dm a),bx (ax c.1),bx (av c.1.cue),aA.dead,aA.row true 3 (d.map aB)] (.s2 (bD 8 0 d.length false) (.s2 (iA c.1.cue.Role) (.bd (g:=λ(y:Nat)=>A.ep 8 y 0) (dU (e:=55) (es:=3) (l:=d) r7 r7 rfl) λai=>.s (A.ep 8 ai 0) (.bd (g:=λ(y:List aR)=>[(fT a d a0),bx [Z5,Z5,Z5,(iA 0)],bx [(iA 0),(iA 0),(iA 0)],bx (al a.1),(dm a),bx (ax c.1),bx (av c.1.cue),aA.dead,aA.row true 3 (y.map aB)]) ((gm (es:=3) (n:=1) (l:=d) (xs:=[(im (a3.map av) false)]) (u:=λ(y:aR)=>(aR.mk a3 y.Got y.Did)) r7 r7 (by decide) rfl (λ_=>rfl) (by decide) (by decide) rfl (λ_=>rfl))) λk=>.s (ag [(im (a.2.1.Queue.map al) false),(im (a.2.1.Apart.map au) false),(bD 8 0 d.length false),(iA a0.Bar)]) (.s (ag [(iA 0),(iA 0),(iA 0)]) (.cT r7 (.sh (.s [(fT a d a0),(fT a d a0),bx [(iA 0),(iA 0),(iA 0)],bx (al a.1),(dm a),bx (ax c.1),bx (av c.1.cue),aA.dead,aA.row true 3 (k.map aB)] (.s (ag [(im (a.2.1.Queue.map al) false),(im (a.2.1.Apart.map au) false),(bD 8 0 d.length false),(iA a0.Bar)]) (.s (ag [(iA 0),(iA 0),(iA 0)]) (.lv (by show bp [(fT a d a0),(fT a d a0),bx [(iA 0),(iA 0),(iA 0)],bx (al a.1),(dm a),bx (ax c.1),bx (av c.1.cue),aA.dead,aA.row true 3 (k.map aB)] (tp [(ag [(im (a.2.1.Queue.map al) false),(im (a.2.1.Apart.map au) false),(bD 8 0 d.length false),(iA a0.Bar)]),(ag [(iA 0),(iA 0),(iA 0)]),(bA false),(iA 0)])=_; first | (simp only[cP,fo,bp,fL (H:=[(fT a d a0),(fT a d a0),bx [(iA 0),(iA 0),(iA 0)],bx (al a.1),(dm a),bx (ax c.1),bx (av c.1.cue),aA.dead,aA.row true 3 (k.map aB)]) (b:=8) (es:=3) (wr:=true) (l:=k) eh rfl]; done) | (simp only[cP,gR,bp,fL (H:=[(fT a d a0),(fT a d a0),bx [(iA 0),(iA 0),(iA 0)],bx (al a.1),(dm a),bx (ax c.1),bx (av c.1.cue),aA.dead,aA.row true 3 (k.map aB)]) (b:=8) (es:=3) (wr:=true) (l:=k) eh rfl]; first | done | rfl))))))))))))))))
  refine .bd (fx (e:=30) (es:=4)) λaj=>.s2 (iA aj.No) (.s2 (iA c.1.cue.No) (.st (aZ ..) (.cu ?_ ?_)))
  ·refine .cl ((bk L3).trans (V2 ..)) (.st (v:=(A.nq (j.Cues.map av))) (vK (e:=30) r7) (.nq (f:=av) (l:=j.Cues) (λhn=>by rw[hn]; kernel_rfl) (.s Z5 (.bd (g:=λ(y:List aE)=>((bD 7 0 y.length false),[(hX a a0),bx [Z5,Z5,Z5,(iA 0)],bx [(iA 0),(iA 0),(iA 0)],bx (al a.1),(dm a),bx (ax c.1),bx (av c.1.cue),aA.row true 4 (y.map av)])) (pQ (e:=30) (es:=4) (by_:=32) (z:=[(iA 0),(iA 0),(iA 0),(iA 0)]) r7 r7 r7 r7 rfl (by decide) (by decide) r7 (f:=av) (λ_=>rfl) rC (l2:=j.Cues) (bM ..)) λr=>.cr (.ok (.s (ag (av c.1.cue)) (.bd (g:=λ(y:Nat)=>A.ep 7 y 0) (dU (e:=30) (es:=4) (l:=r) r7 r7 rfl) λar=>.bd (g:=λ(y:List aE)=>[(hX a a0),bx [Z5,Z5,Z5,(iA 0)],bx [(iA 0),(iA 0),(iA 0)],bx (al a.1),(dm a),bx (ax c.1),bx (av c.1.cue),aA.row true 4 (y.map av)]) ((gm (es:=4) (n:=4) (l:=r) (xs:=[(iA c.1.cue.No),(iA c.1.cue.Role),(iA c.1.cue.Bar),(iA c.1.cue.Program)]) (u:=λ(y:aE)=>c.1.cue) r7 r7 (by decide) rfl (λ_=>rfl) (by decide) (by decide) rfl (λ_=>rfl))) λw=>.st (v:=((im (List.map av ((List.take r.length (List.drop 0 w)))) false),[(hX a a0),bx [Z5,Z5,Z5,(iA 0)],bx [(iA 0),(iA 0),(iA 0)],bx (al a.1),(dm a),bx (ax c.1),bx (av c.1.cue),aA.dead])) (HA (es:=4) (l:=w) gq rfl (by decide)) (.s2 (im (a0.Ears.map aB) false) (.cl ((bk HZ).trans (Tx ..)) (.st (v:=(A.nq (a0.Ears.map aB))) (vK (e:=55) r7) (.nq (f:=aB) (l:=a0.Ears) (λhn=>by rw[hn]; kernel_rfl) (.s Z5 ?_))))))))))));exact .bd (g:=λ(y:List aR)=>((bD 8 0 y.length false),[(hX a a0),bx [Z5,Z5,Z5,(iA 0)],bx [(iA 0),(iA 0),(iA 0)],bx (al a.1),(dm a),bx (ax c.1),bx (av c.1.cue),aA.dead,aA.row true 3 (y.map aB)])) (pQ (e:=55) (es:=3) (by_:=72) (z:=[Z5,Z5,Z5]) r7 r7 r7 r7 rfl (by decide) (by decide) r7 (f:=aB) (λ_=>rfl) rD (l2:=a0.Ears) (bM ..)) λh=>.cr (.ok (.s (pt 0 2) (.s [(fT a h a0),bx [Z5,Z5,Z5,(iA 0)],bx [(iA 0),(iA 0),(iA 0)],bx (al a.1),(dm a),bx (ax c.1),bx (av c.1.cue),aA.dead,aA.row true 3 (h.map aB)] (.s2 (bD 8 0 h.length false) (.s2 (iA c.1.cue.Role) (.bd (g:=λ(y:Nat)=>A.ep 8 y 0) (dU (e:=55) (es:=3) (l:=h) r7 r7 rfl) λak=>.s (A.ep 8 ak 0) (.bd (g:=λ(y:List aR)=>[(fT a h a0),bx [Z5,Z5,Z5,(iA 0)],bx [(iA 0),(iA 0),(iA 0)],bx (al a.1),(dm a),bx (ax c.1),bx (av c.1.cue),aA.dead,aA.row true 3 (y.map aB)]) ((gm (es:=3) (n:=1) (l:=h) (xs:=[(im (List.map av ((List.take r.length (List.drop 0 w)))) false)]) (u:=λ(y:aR)=>(aR.mk ((List.take r.length (List.drop 0 w))) y.Got y.Did)) r7 r7 (by decide) rfl (λ_=>rfl) (by decide) (by decide) rfl (λ_=>rfl))) λp=>.s (ag [(im (a.2.1.Queue.map al) false),(im (a.2.1.Apart.map au) false),(bD 8 0 h.length false),(iA a0.Bar)]) (.s (ag [(iA 0),(iA 0),(iA 0)]) (.cT r7 (.sh (.s [(fT a h a0),(fT a h a0),bx [(iA 0),(iA 0),(iA 0)],bx (al a.1),(dm a),bx (ax c.1),bx (av c.1.cue),aA.dead,aA.row true 3 (p.map aB)] (.s (ag [(im (a.2.1.Queue.map al) false),(im (a.2.1.Apart.map au) false),(bD 8 0 h.length false),(iA a0.Bar)]) (.s (ag [(iA 0),(iA 0),(iA 0)]) (.lv (by show bp [(fT a h a0),(fT a h a0),bx [(iA 0),(iA 0),(iA 0)],bx (al a.1),(dm a),bx (ax c.1),bx (av c.1.cue),aA.dead,aA.row true 3 (p.map aB)] (tp [(ag [(im (a.2.1.Queue.map al) false),(im (a.2.1.Apart.map au) false),(bD 8 0 h.length false),(iA a0.Bar)]),(ag [(iA 0),(iA 0),(iA 0)]),(bA false),(iA 0)])=_; first | (simp only[cP,fo,bp,fL (H:=[(fT a h a0),(fT a h a0),bx [(iA 0),(iA 0),(iA 0)],bx (al a.1),(dm a),bx (ax c.1),bx (av c.1.cue),aA.dead,aA.row true 3 (p.map aB)]) (b:=8) (es:=3) (wr:=true) (l:=p) eh rfl]; done) | (simp only[cP,gR,bp,fL (H:=[(fT a h a0),(fT a h a0),bx [(iA 0),(iA 0),(iA 0)],bx (al a.1),(dm a),bx (ax c.1),bx (av c.1.cue),aA.dead,aA.row true 3 (p.map aB)]) (b:=8) (es:=3) (wr:=true) (l:=p) eh rfl]; first | done | rfl))))))))))))))))
  refine .st (v:=((im (j.Cues.map av) false),[(hX a a0),bx [Z5,Z5,Z5,(iA 0)],bx [(iA 0),(iA 0),(iA 0)],bx (al a.1),(dm a),bx (ax c.1),bx (av c.1.cue)])) rfl (.s2 (im (a0.Ears.map aB) false) (.cl ((bk HZ).trans (Tx ..)) (.st (v:=(A.nq (a0.Ears.map aB))) (vK (e:=55) r7) (.nq (f:=aB) (l:=a0.Ears) (λhn=>by rw[hn]; kernel_rfl) (.s Z5 (.bd (g:=λ(y:List aR)=>((bD 7 0 y.length false),[(hX a a0),bx [Z5,Z5,Z5,(iA 0)],bx [(iA 0),(iA 0),(iA 0)],bx (al a.1),(dm a),bx (ax c.1),bx (av c.1.cue),aA.row true 3 (y.map aB)])) (pQ (e:=55) (es:=3) (by_:=72) (z:=[Z5,Z5,Z5]) r7 r7 r7 r7 rfl (by decide) (by decide) r7 (f:=aB) (λ_=>rfl) rD (l2:=a0.Ears) (bM ..)) λi=>.cr (.ok (.s (pt 0 2) (.s [(mQ a i a0),bx [Z5,Z5,Z5,(iA 0)],bx [(iA 0),(iA 0),(iA 0)],bx (al a.1),(dm a),bx (ax c.1),bx (av c.1.cue),aA.row true 3 (i.map aB)] (.s2 (bD 7 0 i.length false) (.s2 (iA c.1.cue.Role) (.bd (g:=λ(y:Nat)=>A.ep 7 y 0) (dU (e:=55) (es:=3) (l:=i) r7 r7 rfl) λam=>.s (A.ep 7 am 0) (.bd (g:=λ(y:List aR)=>[(mQ a i a0),bx [Z5,Z5,Z5,(iA 0)],bx [(iA 0),(iA 0),(iA 0)],bx (al a.1),(dm a),bx (ax c.1),bx (av c.1.cue),aA.row true 3 (y.map aB)]) ((gm (es:=3) (n:=1) (l:=i) (xs:=[(im (j.Cues.map av) false)]) (u:=λ(y:aR)=>(aR.mk j.Cues y.Got y.Did)) r7 r7 (by decide) rfl (λ_=>rfl) (by decide) (by decide) rfl (λ_=>rfl))) λq=>.s (ag [(im (a.2.1.Queue.map al) false),(im (a.2.1.Apart.map au) false),(bD 7 0 i.length false),(iA a0.Bar)]) (.s (ag [(iA 0),(iA 0),(iA 0)]) (.cT r7 (.sh ?_))))))))))))))));exact .s [(mQ a i a0),(mQ a i a0),bx [(iA 0),(iA 0),(iA 0)],bx (al a.1),(dm a),bx (ax c.1),bx (av c.1.cue),aA.row true 3 (q.map aB)] (.s (ag [(im (a.2.1.Queue.map al) false),(im (a.2.1.Apart.map au) false),(bD 7 0 i.length false),(iA a0.Bar)]) (.s (ag [(iA 0),(iA 0),(iA 0)]) (.lv (by show bp [(mQ a i a0),(mQ a i a0),bx [(iA 0),(iA 0),(iA 0)],bx (al a.1),(dm a),bx (ax c.1),bx (av c.1.cue),aA.row true 3 (q.map aB)] (tp [(ag [(im (a.2.1.Queue.map al) false),(im (a.2.1.Apart.map au) false),(bD 7 0 i.length false),(iA a0.Bar)]),(ag [(iA 0),(iA 0),(iA 0)]),(bA false),(iA 0)])=_; first | (simp only[cP,fo,bp,fL (H:=[(mQ a i a0),(mQ a i a0),bx [(iA 0),(iA 0),(iA 0)],bx (al a.1),(dm a),bx (ax c.1),bx (av c.1.cue),aA.row true 3 (q.map aB)]) (b:=7) (es:=3) (wr:=true) (l:=q) eh rfl]; done) | (simp only[cP,gR,bp,fL (H:=[(mQ a i a0),(mQ a i a0),bx [(iA 0),(iA 0),(iA 0)],bx (al a.1),(dm a),bx (ax c.1),bx (av c.1.cue),aA.row true 3 (q.map aB)]) (b:=7) (es:=3) (wr:=true) (l:=q) eh rfl]; first | done | rfl)))))
 exact .s (ag [(im (a.2.1.Queue.map al) false),(im (a.2.1.Apart.map au) false),(im (a0.Ears.map aB) false),(iA a0.Bar)]) (.s (ag [(iA 0),(iA 0),(iA 0)]) (.cT r7 (.sh (.s [(hX a a0),(hX a a0),bx [(iA 0),(iA 0),(iA 0)],bx (al a.1),(dm a),bx (ax c.1),bx (av c.1.cue)] (.s (ag [(im (a.2.1.Queue.map al) false),(im (a.2.1.Apart.map au) false),(im (a0.Ears.map aB) false),(iA a0.Bar)]) (.s (ag [(iA 0),(iA 0),(iA 0)]) (.lv so)))))))
def Om (a0:ay) (a1:Int):Option (ay×bH×Bool×Int):=Q7 aD a0 a1
def FI (C:OT):Prop:=∀ (a0:ay) (a1:Int),C 16 [(ag (aq a0)),(iA a1)]=(Om a0 a1).map λy=>(tp [(ag (aq y.1)),(ag (bF y.2.1)),(bA y.2.2.1),(iA y.2.2.2)])
def p0 (a:(List aw)):aA:=bx [(iA 3),(iA 0),se,(bD 4 0 a.length false)]
abbrev p7:A:=(ag [(iA 0),(iA 0),se,(im [] false)])
def Ms (C:OT) (N:Nat) (self:(List UInt8)->Int->Bool->Int->Option (aw×Int×Bool)):Prop:=∀ (a1:(List UInt8)) (a2:Int) (a3:Bool) (a:Int) (X:Heap),J (λ(o:R) (y:(aw×Int×Bool))=>o=(Out.ret (ag [(iA y.1.Kind),(iA y.1.N),(sA y.1.S),(im (y.1.L.map az) false)]),[aN,bx [(im (a1.map c8) false),(iA y.2.1),(bA y.2.2)]]++X)) (dH (cx C) N 95 [(pt 1 0),(iA a)] ([aN,bx [(im (a1.map c8) false),(iA a2),(bA a3)]]++X) 0) some (self a1 a2 a3 a) some
def fY (n:Nat) (d:(List UInt8)):Nat->Int->Int->Int->Bool->Option ((Int×Int×Bool)⊕(Int×Bool))
 | 0,_,_,_,_=>none
 | m+1,f,b,c,e=>bif (!e) then ((bif (decide (((d.length:Int))<=c)) then (some ((0,c,true))) else ((bG d (wr .i64 ((wr .i64 (c+1)) - 1))).bind λg=>some (((g.toNat:Int),wr .i64 (c+1),e)))).bind λa=>(bif (b==9) then (some (decide (1<a.1))) else (some false)).bind λh=>(bif h then (some true) else ((bif (decide (0<b)) then (some (a.1==0)) else (some false)).bind λi=>some i)).bind λj=>bif j then (some ((Sum.inl ((0,a.2.1,true))))) else (bif decide (0<=(wr .i64 (7*b))) then (bif (decide (a.1<128)) then (some ((Sum.inl ((wr .u64 (f+(rf .u64 (wr .u64 (Int.tmod a.1 128)) (wr .i64 (7*b)))),a.2.1,a.2.2))))) else (fY n d m (wr .u64 (f+(rf .u64 (wr .u64 (Int.tmod a.1 128)) (wr .i64 (7*b))))) (wr .i64 (b+1)) a.2.1 a.2.2)) else none)) else (some ((Sum.inr ((c,e)))))
theorem qC {a5:A} {b:aA} (a:(List UInt8)) {K:((Int×Int×Bool)⊕(Int×Bool))->Option γ} (p:∀ (f:Int) (g:Int) (q:Bool) (i:A) (j:A) (k:A),J φ (kr (St.mk [(0,i),(2,(A.v (.int .u64 f))),(3,j),(4,k)] [aN,bx [(im (a.map c8) false),(iA g),(bA q)],b])) kL (K (Sum.inl ((f,g,q)))) some) (x1:∀ (f:Int) (g:Bool) (i:A) (s2:A) (j:A) (k:A),J φ (kx 0 (St.mk [(0,i),(2,s2),(3,j),(4,k)] [aN,bx [(im (a.map c8) false),(iA f),(bA g)],b])) kL (K (Sum.inr ((f,g)))) some) :
  ∀ (m:Nat) (l:Int) (o:Int) (c:Int) (d:Bool),J φ (aI (cx C) (ec C n 7) (ey C n 7) (n+7) 113 0 0 3 kx kg kr kp m (St.mk [(0,(pt 1 0)),(2,a5),(3,(A.v (.int .u64 l))),(4,(iA o))] [aN,bx [(im (a.map c8) false),(iA c),(bA d)],b])) kL (fY n a m l o c d) K:=by
  refine nI (λ_ _ _ _=>.nn) λm ih l o c d=>.lp (MW ..) ?_;unfold fY;refine .s (pt 1 0) (.s2 (bA d) (.s (bA (!d)) (.cu ?_ ?_)))
  ·refine .bg (λ(t:Out×Heap) (y:Int×Int×Bool)=>t=(Out.ret (uA y.1),[aN,bx [(im (a.map c8) false),(iA y.2.1),(bA y.2.2)],b])) ?_ ?_
   ·refine .lp ((bk HY).trans (Pc ..)) (.s (pt 1 0) (.s2 (iA c) (.s (pt 1 0) (.s2 (im (a.map c8) false) (.st (eS (e:=5)) (.st (dD ..) (.cu ?_ ?_)))))))
    ·exact .s (pt 1 0) (.s (pt 1 2) (.s [aN,bx [(im (a.map c8) false),(iA c),(bA true)],b] (.lg rfl)))
    exact .s (pt 1 0) (.s2 (iA c) (.st (aF ..) (.s (pt 1 0) (.s (pt 1 1) (.s [aN,bx [(im (a.map c8) false),(iA (wr .i64 (c+1))),(bA d)],b] (.s (pt 1 0) (.s2 (im (a.map c8) false) (.s (pt 1 0) (.s2 (iA (wr .i64 (c+1))) (.st (fF ..) (.bd (fx (e:=5) (es:=1)) λa7=>.s (uA ((a7.toNat:Int))) (.lg rfl))))))))))))
   rintro _ h rfl
   refine .ok (.st (aX ..) (.bg (λt (y:Bool)=>∃ r u:A,t=[(bA y),r,u]) ?_ ?_))
   ·refine .bi ?_ ?_
    ·exact .st (eZ ..) (.lg ⟨_,_,rfl⟩)
    exact .lg ⟨_,_,rfl⟩
   rintro _ a8 ⟨r,u,rfl⟩
   refine .uc (.uc (.uc (.bg (λt (y:Bool)=>∃ w x z a0 a1 a2:A,t=[(bA y),w,x,z,a0,a1,a2]) ?_ ?_)))
   ·refine .bi ?_ ?_
    ·exact .lg ⟨_,_,_,_,_,_,rfl⟩
    refine .st (eZ ..) (.bg (λt (y:Bool)=>∃ a3 a4:A,t=[(bA y),a3,a4]) ?_ ?_)
    ·refine .bi ?_ ?_
     ·exact .st (aX ..) (.lg ⟨_,_,rfl⟩)
     exact .lg ⟨_,_,rfl⟩
    rintro _ a9 ⟨a3,a4,rfl⟩
    exact .uc (.uc (.uc (.lg ⟨_,_,_,_,_,_,rfl⟩)))
   rintro _ aa ⟨w,x,z,a0,a1,a2,rfl⟩
   refine .u4 (.uc (.uc (.uc (.cu ?_ ?_))))
   ·exact .s (pt 1 0) (.s (pt 1 2) (.s [aN,bx [(im (a.map c8) false),(iA h.2.1),(bA true)],b] (.ex (p _ _ _ _ _ _))))
   refine .st (gn (hb:=by decide) ..) (.st (v:=(A.v (.int .u64 (wr .u64 (Int.tmod h.1 128))))) (aM (hs:=by kernel_rfl) (hd:=by kernel_rfl) ..) (.st (rm ..) (.gd λhg=>.st (ux (hb:=qai hg) ..) (.st (aF ..) (.st (aZ ..) (.cu ?_ ?_))))))
   ·exact .ex (p _ _ _ _ _ _)
   refine .st (aF ..) (.s [aN,bx [(im (a.map c8) false),(iA h.2.1),(bA h.2.2)],b] (.cT r7 ?_));exact ih _ _ _ _
  exact .ex (x1 _ _ _ _ _ _)
def ir (self:(List UInt8)->Int->Bool->Int->Option (aw×Int×Bool)) (n:Nat) (c:Int) (d:Int) (e:(List UInt8)) (i:Int) (j:Int) (k:ByteArray):Nat->Int->Int->Bool->(List aw)->Option (Int×Bool×(List aw))
 | 0,_,_,_,_=>none
 | m+1,f,g,a,h=>(bif (decide (f<d)) then (some (!a)) else (some false)).bind λl=>bif l then ((self e g a (wr .i64 (c+1))).bind λb=>(cU 56 h ([b.1])).bind λo=>ir self n c d e i j k m (wr .u64 (f+1)) b.2.1 b.2.2 o) else (some ((g,a,h)))
theorem Ex (self:(List UInt8)->Int->Bool->Int->Option (aw×Int×Bool)) (hS:Ms C (n+8) self) {u:A} {j:aA} (p:Int) (w:Int) (d:(List UInt8)) (e:Int) (h:Int) (i:ByteArray) {K:(Int×Bool×(List aw))->Option γ} (x0:∀ (x:Int) (z:Bool) (q:(List aw)) (s1:A) (s7:A) (s9:A),J φ (kx 1 (St.mk [(0,(pt 1 0)),(1,s1),(4,u),(7,s7),(8,(pt 3 0)),(9,s9)] [aN,bx [(im (d.map c8) false),(iA x),(bA z)],j,bx [(iA e),(iA h),(sA i),(bD 4 0 q.length false)],aA.row false 4 (q.map az)])) kL (K (x,z,q)) some) :
  ∀ (m:Nat) (r:Int) (o:Int) (k:Bool) (a:(List aw)),J φ (aI (cx C) (ec C n 8) (ey C n 8) (n+8) 95 0 0 5 kx kg kr kp m (St.mk [(0,(pt 1 0)),(1,(iA p)),(4,u),(7,(A.v (.int .u64 w))),(8,(pt 3 0)),(9,(A.v (.int .u64 r)))] [aN,bx [(im (d.map c8) false),(iA o),(bA k)],j,bx [(iA e),(iA h),(sA i),(bD 4 0 a.length false)],aA.row false 4 (a.map az)])) kL (ir self n p w d e h i m r o k a) K:=by
  refine nI (λ_ _ _ _=>.nn) λm ih r o k a=>.lp (PF ..) ?_;unfold ir;refine .st (aZ ..) (.bg (λt (y:Bool)=>∃ a0 a1 a2 a3 a4:A,t=[(bA y),a0,a1,a2,a3,a4]) ?_ ?_)
  ·refine .bi ?_ ?_
   ·exact .s (pt 1 0) (.s (pt 1 2) (.s (bA k) (.s (bA (!k)) (.lg ⟨_,_,_,_,_,rfl⟩))))
   exact .lg ⟨_,_,_,_,_,rfl⟩
  rintro _ aa ⟨a0,a1,a2,a3,a4,rfl⟩
  refine .u4 (.uc (.uc (.cu ?_ ?_)))
  ·refine .s (pt 3 3) (.s (bD 4 0 a.length false) (.st (aF ..) (.cT r7 (.bg (λ(t:R) (y:(aw×Int×Bool))=>t=(Out.ret (ag [(iA y.1.Kind),(iA y.1.N),(sA y.1.S),(im (y.1.L.map az) false)]),[aN,bx [(im (d.map c8) false),(iA y.2.1),(bA y.2.2)],j,bx [(iA e),(iA h),(sA i),(bD 4 0 a.length false)],aA.row false 4 (a.map az)])) (hS d o k (wr .i64 (p+1)) [j,bx [(iA e),(iA h),(sA i),(bD 4 0 a.length false)],aA.row false 4 (a.map az)]) ?_))))
   rintro _ c rfl
   refine .ok (.s (im [[(iA c.1.Kind),(iA c.1.N),(sA c.1.S),(im (c.1.L.map az) false)]] true) (.bd (g:=λ(y:List aw)=>((bD 4 0 y.length false),[aN,bx [(im (d.map c8) false),(iA c.2.1),(bA c.2.2)],j,bx [(iA e),(iA h),(sA i),(bD 4 0 a.length false)],aA.row false 4 (y.map az)])) (cC fB (l:=a) (l2:=[c.1]) (b:=4) rfl (by decide) (iX (f:=az) (l:=([c.1]:List aw)) H7)) λa5=>.s (pt 3 3) (.sh (.st (aF ..) (.s [aN,bx [(im (d.map c8) false),(iA c.2.1),(bA c.2.2)],j,bx [(iA e),(iA h),(sA i),(bD 4 0 a5.length false)],aA.row false 4 (a5.map az)] (.cT r7 ?_))))));exact ih _ _ _ _
  exact .ex (x0 _ _ _ _ _ _)
def zF (self:(List UInt8)->Int->Bool->Int->Option (aw×Int×Bool)) (n:Nat) (a1:(List UInt8)) (a2:Int) (a3:Bool) (e:Int):Option (aw×Int×Bool):=
 (bif (decide (((a1.length:Int))<=a2)) then (some ((0,a2,true))) else ((bG a1 (wr .i64 ((wr .i64 (a2+1)) - 1))).bind λf=>some (((f.toNat:Int),wr .i64 (a2+1),a3)))).bind λb=>bif (b.1==1) then (((fY n a1 (n+7) 0 0 b.2.1 b.2.2).bind λg=>match g with | (Sum.inl ((h,i,j)))=>some ((h,i,j)) | (Sum.inr ((k,l)))=>some ((0,k,l))).bind λc=>bif ((Int.tmod c.1 2)==1) then (some (((aw.mk 1 (wr .i64 ((wr .i64 (0 - (wr .i64 (wr .u64 (Int.tdiv c.1 2))))) - 1)) jR ([])),c.2.1,c.2.2))) else (some (((aw.mk 1 (wr .i64 (wr .u64 (Int.tdiv c.1 2))) jR ([])),c.2.1,c.2.2)))) else (bif (b.1==2) then (((fY n a1 (n+7) 0 0 b.2.1 b.2.2).bind λo=>match o with | (Sum.inl ((p,q,r)))=>some ((p,q,r)) | (Sum.inr ((s,t)))=>some ((0,s,t))).bind λa=>(bif a.2.2 then (some true) else (some (decide ((wr .u64 (wr .i64 (((a1.length:Int)) - a.2.1)))<a.1)))).bind λu=>bif u then (some (((aw.mk 0 0 jR ([])),a.2.1,true))) else ((gv a1 (wr .i64 ((wr .i64 (a.2.1+(wr .i64 (a.1)))) - (wr .i64 (a.1)))) (wr .i64 (a.2.1+(wr .i64 (a.1))))).bind λv=>some (((aw.mk 2 0 (iv v) ([])),wr .i64 (a.2.1+(wr .i64 (a.1))),a.2.2)))) else (bif (b.1==3) then (((fY n a1 (n+7) 0 0 b.2.1 b.2.2).bind λw=>match w with | (Sum.inl ((x,y,z)))=>some ((x,y,z)) | (Sum.inr ((a0,a5)))=>some ((0,a0,a5))).bind λd=>(bif d.2.2 then (some true) else (some (decide ((wr .u64 (wr .i64 (((a1.length:Int)) - d.2.1)))<d.1)))).bind λa6=>(bif a6 then (some true) else (some (e==16))).bind λa7=>bif a7 then (some (((aw.mk 0 0 jR ([])),d.2.1,true))) else ((ir self n e d.1 a1 3 0 jR (n+8) 0 d.2.1 d.2.2 (([]:List aw))).bind λa8=>match a8 with | (a9,aa,ab)=>some (((aw.mk 3 0 jR ab),a9,aa)))) else (some (((aw.mk 0 0 jR ([])),b.2.1,true)))))
theorem Te (C:OT) (n:Nat) (self:(List UInt8)->Int->Bool->Int->Option (aw×Int×Bool)) (hS:Ms C (n+8) self) (a1:(List UInt8)) (a2:Int) (a3:Bool) (k:Int):J (λ(o:R) (y:(aw×Int×Bool))=>∃ Z,o=(Out.ret (ag [(iA y.1.Kind),(iA y.1.N),(sA y.1.S),(im (y.1.L.map az) false)]),[aN,bx [(im (a1.map c8) false),(iA y.2.1),(bA y.2.2)]]++Z)) (aK (cx C) (ec C n 8) (ey C n 8) (n+8) 95 [(pt 1 0),(iA k)] [aN,bx [(im (a1.map c8) false),(iA a2),(bA a3)]] 0) some (zF self n a1 a2 a3 k) some:=by
 refine .lp (Zc ..) ?_;unfold zF;refine .s ((pt 2 0),[aN,bx [(im (a1.map c8) false),(iA a2),(bA a3)],aN]) (.bg (λ(t:Out×Heap) (y:Int×Int×Bool)=>t=(Out.ret (uA y.1),[aN,bx [(im (a1.map c8) false),(iA y.2.1),(bA y.2.2)],aN])) ?_ ?_)
 ·refine .lp ((bk HY).trans (Pc ..)) (.s (pt 1 0) (.s2 (iA a2) (.s (pt 1 0) (.s2 (im (a1.map c8) false) (.st (eS (e:=5)) (.st (dD ..) (.cu ?_ ?_)))))))
  ·exact .s (pt 1 0) (.s (pt 1 2) (.s [aN,bx [(im (a1.map c8) false),(iA a2),(bA true)],aN] (.lg rfl)))
  exact .s (pt 1 0) (.s2 (iA a2) (.st (aF ..) (.s (pt 1 0) (.s (pt 1 1) (.s [aN,bx [(im (a1.map c8) false),(iA (wr .i64 (a2+1))),(bA a3)],aN] (.s (pt 1 0) (.s2 (im (a1.map c8) false) (.s (pt 1 0) (.s2 (iA (wr .i64 (a2+1))) (.st (fF ..) (.bd (fx (e:=5) (es:=1)) λa7=>.s (uA ((a7.toNat:Int))) (.lg rfl))))))))))))
 rintro _ i rfl
 refine .ok (.st (aX ..) (.cu ?_ ?_))
 ·refine .bg (λ(t:Out×Heap) (y:Int×Int×Bool)=>t=(Out.ret (A.v (.int .u64 y.1)),[aN,bx [(im (a1.map c8) false),(iA y.2.1),(bA y.2.2)],aN])) ?_ ?_
  ·refine .lp ((bk Cz).trans (MV ..)) (.as (qC C n _ _ _ _  a1 ?_ ?_ _ 0 0 i.2.1 i.2.2))
   ·intro a8 a9 aa ab ad ae;exact .un rfl (.lg rfl)
   ·intro af ah ai aj ak al;exact .un rfl (.cT r7 (.lg rfl))
  rintro _ d rfl
  refine .ok (.st (gn (hb:=by decide) ..) (.st (aX ..) (.cu ?_ ?_)))
  ·exact .st (uw (hb:=by decide) ..) (.st (v:=(iA (wr .i64 (wr .u64 (Int.tdiv d.1 2))))) (aM (hs:=by kernel_rfl) (hd:=by kernel_rfl) ..) (.s (iA (wr .i64 (0 - (wr .i64 (wr .u64 (Int.tdiv d.1 2)))))) (.st (fF ..) (.s (ag [(iA 1),(iA (wr .i64 ((wr .i64 (0 - (wr .i64 (wr .u64 (Int.tdiv d.1 2))))) - 1))),se,Z5]) (.s [aN,bx [(im (a1.map c8) false),(iA d.2.1),(bA d.2.2)],bx [(iA 1),(iA (wr .i64 ((wr .i64 (0 - (wr .i64 (wr .u64 (Int.tdiv d.1 2))))) - 1))),se,Z5]] (.s (ag [(iA 1),(iA (wr .i64 ((wr .i64 (0 - (wr .i64 (wr .u64 (Int.tdiv d.1 2))))) - 1))),se,(im [] false)]) (.lf rfl rfl (iM (o:=Out.ret (ag [(iA 1),(iA (wr .i64 ((wr .i64 (0 - (wr .i64 (wr .u64 (Int.tdiv d.1 2))))) - 1))),se,(im [] false)])) (lo:=0) (off:=3) (b:=2) (p:=0) (H2:=[aN,bx [(im (a1.map c8) false),(iA d.2.1),(bA d.2.2)]]) (X:=[bx [(iA 1),(iA (wr .i64 ((wr .i64 (0 - (wr .i64 (wr .u64 (Int.tdiv d.1 2))))) - 1))),se,Z5]]) (qax rfl)))))))))
  exact .st (uw (hb:=by decide) ..) (.st (v:=(iA (wr .i64 (wr .u64 (Int.tdiv d.1 2))))) (aM (hs:=by kernel_rfl) (hd:=by kernel_rfl) ..) (.s (ag [(iA 1),(iA (wr .i64 (wr .u64 (Int.tdiv d.1 2)))),se,Z5]) (.s [aN,bx [(im (a1.map c8) false),(iA d.2.1),(bA d.2.2)],bx [(iA 1),(iA (wr .i64 (wr .u64 (Int.tdiv d.1 2)))),se,Z5]] (.s (ag [(iA 1),(iA (wr .i64 (wr .u64 (Int.tdiv d.1 2)))),se,(im [] false)]) (.lf rfl rfl (iM (o:=Out.ret (ag [(iA 1),(iA (wr .i64 (wr .u64 (Int.tdiv d.1 2)))),se,(im [] false)])) (lo:=0) (off:=3) (b:=2) (p:=0) (H2:=[aN,bx [(im (a1.map c8) false),(iA d.2.1),(bA d.2.2)]]) (X:=[bx [(iA 1),(iA (wr .i64 (wr .u64 (Int.tdiv d.1 2)))),se,Z5]]) (qax rfl)))))))
 refine .st (aX ..) (.cu ?_ ?_)
 ·refine .bg (λ(t:Out×Heap) (y:Int×Int×Bool)=>t=(Out.ret (A.v (.int .u64 y.1)),[aN,bx [(im (a1.map c8) false),(iA y.2.1),(bA y.2.2)],aN])) ?_ ?_
  ·refine .lp ((bk Cz).trans (MV ..)) (.as (qC C n _ _ _ _  a1 ?_ ?_ _ 0 0 i.2.1 i.2.2))
   ·intro am an ao ap aq ar;exact .un rfl (.lg rfl)
   ·intro au av ax ay b0 b1;exact .un rfl (.cT r7 (.lg rfl))
  rintro _ c rfl
  refine .ok (.s (pt 1 0) (.s2 (bA c.2.2) (.QN (.bg (λt (y:Bool)=>∃ x:A,t=[(bA y),x]) ?_ ?_))))
  ·refine .Fx (λq=>?_) (λq=>?_)
   ·exact .bb (.s (pt 1 0) (.s (pt 1 0) (.s (im (a1.map c8) false) (.st (eS (e:=5)) (.s (pt 1 0) (.s (pt 1 1) (.s (iA c.2.1) (.st (fF ..) (.st (v:=(A.v (.int .u64 (wr .u64 (wr .i64 (((a1.length:Int)) - c.2.1)))))) (aM (hs:=by kernel_rfl) (hd:=by kernel_rfl) ..) (.cr (.u4 (.u4 (.u4 (.tK q (.st (eZ ..) (.lg ⟨_,rfl⟩))))))))))))))))
   exact .bb (.cr (.u4 (.u4 (.u4 (.sj q (.lg ⟨_,rfl⟩))))))
  rintro _ b2 ⟨x,rfl⟩
  refine .uc (.uc (.cu ?_ ?_))
  ·exact .s (pt 1 0) (.s (pt 1 2) (.sh (.s (ag [(iA 0),(iA 0),se,Z5]) (.s [aN,bx [(im (a1.map c8) false),(iA c.2.1),(bA true)],aN] (.s p7 (.lf rfl rfl (iM (o:=Out.ret p7) (lo:=0) (off:=3) (b:=2) (p:=0) (H2:=[aN,bx [(im (a1.map c8) false),(iA c.2.1),(bA true)]]) (X:=[aN]) (qax rfl))))))))
  exact .s (pt 1 0) (.s2 (iA c.2.1) (.st (v:=(iA (wr .i64 (c.1)))) (aM (hs:=by kernel_rfl) (hd:=by kernel_rfl) ..) (.st (aF ..) (.s (pt 1 0) (.s (pt 1 1) (.s [aN,bx [(im (a1.map c8) false),(iA (wr .i64 (c.2.1+(wr .i64 (c.1))))),(bA c.2.2)],aN] (.s (pt 1 0) (.s2 (im (a1.map c8) false) (.s (pt 1 0) (.s2 (iA (wr .i64 (c.2.1+(wr .i64 (c.1))))) (.st (v:=(iA (wr .i64 (c.1)))) (aM (hs:=by kernel_rfl) (hd:=by kernel_rfl) ..) (.st (fF ..) (.s (pt 1 0) (.s2 (iA (wr .i64 (c.2.1+(wr .i64 (c.1))))) (.bd (mw (e:=5) (es:=1) (f:=c8) (l:=a1) (a:=wr .i64 ((wr .i64 (c.2.1+(wr .i64 (c.1)))) - (wr .i64 (c.1)))) (b:=wr .i64 (c.2.1+(wr .i64 (c.1)))) r7 r7 (λ_=>rfl) (.inr ⟨_,rfl⟩) (.inr ⟨_,rfl⟩)) λj=>.st (v:=(A.v (Value.string (iv j)))) (pY (e:=5) (l:=j) r7 r7 r7 r7 (bM ..) rfl) (.s (ag [(iA 2),(iA 0),(A.v (Value.string (iv j))),Z5]) (.s [aN,bx [(im (a1.map c8) false),(iA (wr .i64 (c.2.1+(wr .i64 (c.1))))),(bA c.2.2)],bx [(iA 2),(iA 0),(A.v (Value.string (iv j))),Z5]] (.s (ag [(iA 2),(iA 0),(A.v (Value.string (iv j))),(im [] false)]) (.lf rfl rfl (iM (o:=Out.ret (ag [(iA 2),(iA 0),(A.v (Value.string (iv j))),(im [] false)])) (lo:=0) (off:=3) (b:=2) (p:=0) (H2:=[aN,bx [(im (a1.map c8) false),(iA (wr .i64 (c.2.1+(wr .i64 (c.1))))),(bA c.2.2)]]) (X:=[bx [(iA 2),(iA 0),(A.v (Value.string (iv j))),Z5]]) (qax rfl)))))))))))))))))))))
 refine .st (aX ..) (.cu ?_ ?_)
 ·refine .bg (λ(t:Out×Heap) (y:Int×Int×Bool)=>t=(Out.ret (A.v (.int .u64 y.1)),[aN,bx [(im (a1.map c8) false),(iA y.2.1),(bA y.2.2)],aN])) ?_ ?_
  ·refine .lp ((bk Cz).trans (MV ..)) (.as (qC C n _ _ _ _  a1 ?_ ?_ _ 0 0 i.2.1 i.2.2))
   ·intro b3 b4 b5 b6 b7 b8;exact .un rfl (.lg rfl)
   ·intro b9 ba bc be bf bh;exact .un rfl (.cT r7 (.lg rfl))
  rintro _ h rfl
  refine .ok (.s (pt 1 0) (.s2 (bA h.2.2) (.QN (.bg (λt (y:Bool)=>∃ a0:A,t=[(bA y),a0]) ?_ ?_))))
  ·refine .Fx (λr=>?_) (λr=>?_)
   ·exact .bb (.s (pt 1 0) (.s (pt 1 0) (.s (im (a1.map c8) false) (.st (eS (e:=5)) (.s (pt 1 0) (.s (pt 1 1) (.s (iA h.2.1) (.st (fF ..) (.st (v:=(A.v (.int .u64 (wr .u64 (wr .i64 (((a1.length:Int)) - h.2.1)))))) (aM (hs:=by kernel_rfl) (hd:=by kernel_rfl) ..) (.cr (.u4 (.u4 (.u4 (.tK r (.st (eZ ..) (.lg ⟨_,rfl⟩))))))))))))))))
   exact .bb (.cr (.u4 (.u4 (.u4 (.sj r (.lg ⟨_,rfl⟩))))))
  rintro _ bj ⟨a0,rfl⟩
  refine .uc (.uc (.bg (λt (y:Bool)=>∃ a5 a6:A,t=[(bA y),a5,a6]) ?_ ?_))
  ·refine .bi ?_ ?_
   ·exact .lg ⟨_,_,rfl⟩
   exact .st (aX ..) (.lg ⟨_,_,rfl⟩)
  rintro _ bl ⟨a5,a6,rfl⟩
  refine .uc (.uc (.uc (.cu ?_ ?_)))
  ·exact .s (pt 1 0) (.s (pt 1 2) (.sh (.s (ag [(iA 0),(iA 0),se,Z5]) (.s [aN,bx [(im (a1.map c8) false),(iA h.2.1),(bA true)],aN] (.s p7 (.lf rfl rfl (iM (o:=Out.ret p7) (lo:=0) (off:=3) (b:=2) (p:=0) (H2:=[aN,bx [(im (a1.map c8) false),(iA h.2.1),(bA true)]]) (X:=[aN]) (qax rfl))))))))
  refine .s (ag [(iA 3),(iA 0),se,Z5]) (.sq (pt 3 0) (.s [aN,bx [(im (a1.map c8) false),(iA h.2.1),(bA h.2.2)],aN,bx [(iA 3),(iA 0),se,Z5]] (.as (Ex C n _ _ _ _ self hS  k h.1 a1 3 0 jR ?_ _ 0 h.2.1 h.2.2 (([]:List aw))))))
  ·intro u w g bm bn bo;exact .un rfl (.cT r7 (.s (ag [(iA 3),(iA 0),se,(bD 4 0 g.length false)]) (.s [aN,bx [(im (a1.map c8) false),(iA u),(bA w)],(p0 g),(p0 g),aA.row false 4 (g.map az)] (.st (v:=(ag [(iA 3),(iA 0),se,(im (g.map az) false)])) ((qa7 (λz=>lL prog 107 (pt 2 0) z) (z8 (H:=[aN,bx [(im (a1.map c8) false),(iA u),(bA w)],(p0 g),(p0 g),aA.row false 4 (g.map az)]) (lo:=0) (off:=3) (b:=2) (o:=0) (b':=4) (es:=4) (l:=g) cH rfl rfl rfl (qax rfl))).trans r7) (.lf rfl rfl (iM (o:=Out.ret (ag [(iA 3),(iA 0),se,(im (g.map az) false)])) (lo:=0) (off:=3) (b:=2) (p:=0) (H2:=[aN,bx [(im (a1.map c8) false),(iA u),(bA w)]]) (X:=[(p0 g),(p0 g),aA.row false 4 (g.map az)]) (qax rfl)))))))
 exact .s (pt 1 0) (.s (pt 1 2) (.sh (.s (ag [(iA 0),(iA 0),se,Z5]) (.s [aN,bx [(im (a1.map c8) false),(iA i.2.1),(bA true)],aN] (.s p7 (.lf rfl rfl (iM (o:=Out.ret p7) (lo:=0) (off:=3) (b:=2) (p:=0) (H2:=[aN,bx [(im (a1.map c8) false),(iA i.2.1),(bA true)]]) (X:=[aN]) (qax rfl))))))))
def Gz:Nat->(List UInt8)->Int->Bool->Int->Option (aw×Int×Bool)
 | 0=>λ_ _ _ _=>none
 | N+1=>λa1 a2 a3 a4=>bif Nat.ble 8 N then zF (Gz N) (N - 8) a1 a2 a3 a4 else none
theorem OO (C:OT):∀ N,Ms C N (Gz N)
 | 0=>λ_ _ _ _ X r h=>by cases h
 | N+1=>λa1 a2 a3 a X=>by
  show J _ _ _ (bif Nat.ble 8 N then zF (Gz N) (N - 8) a1 a2 a3 a else none) _;cases h:Nat.ble 8 N with
  | false=>exact λr h=>by cases h
  | true=>
   obtain ⟨n,rfl⟩:∃ n,N=n+8:=⟨N - 8,by have:=qax h; omega⟩
   rw[qdw];exact GQ (m:=2) r7 r7 (by decide) rfl r7 ((by kernel_rfl:_=((((aH 2 (a1.map c8))&&true))&&true)).trans u2) (λ_=>rfl) (λy=>((by kernel_rfl:_=((aH 2 (y.1.L.map az))&&true)).trans u2)) (λy=>((by kernel_rfl:_=((((aH 2 (a1.map c8))&&true))&&true)).trans u2)) (Te C n  (Gz (n+8)) (OO C  (n+8)) a1 a2 a3 a)
def RB (n:Nat) (a0:(List UInt8)):Option (aw×Int):=
 (Gz (n+8) a0 0 false 0).bind λa=>(bif a.2.2 then (some true) else (some (a.2.1 != ((a0.length:Int))))).bind λb=>(bif b then (some true) else ((NZ a.1).bind λc=>some (c != 0))).bind λd=>(bif d then (some true) else ((OM a.1).bind λe=>some (!kR (iv e) (iv a0)))).bind λf=>bif f then (some (((aw.mk 0 0 jR ([])),10))) else (some ((a.1,0)))
theorem X5 (C:OT) (n:Nat) (u:F0 C) (w:F3 C) (a0:(List UInt8)):TJ C n 76 [(im (a0.map c8) false)] (RB n a0) (λy=>(tp [(ag (ar y.1)),(iA y.2)])):=by
 refine .lp (YY ..) ?_;unfold RB;refine .s ((pt 0 0),[aN]) (.s (ag [(im (a0.map c8) false),(iA 0),(bA false)]) (.s ((pt 1 0),[aN,bx [(im (a0.map c8) false),(iA 0),(bA false)]]) (.bg (λ(t:R) (y:(aw×Int×Bool))=>t=(Out.ret (ag [(iA y.1.Kind),(iA y.1.N),(sA y.1.S),(im (y.1.L.map az) false)]),[aN,bx [(im (a0.map c8) false),(iA y.2.1),(bA y.2.2)]])) (OO C (n+8) a0 0 false 0 []) ?_)))
 rintro _ a rfl
 refine .ok (.sq (pt 2 0) (.s [aN,bx [(im (a0.map c8) false),(iA a.2.1),(bA a.2.2)],bx (ar a.1)] (.s (pt 1 0) (.s2 (bA a.2.2) (.bg (λt (y:Bool)=>∃ c d f h i j tC:A,t=[(bA y),c,d,f,h,i,j,tC]) ?_ ?_)))))
 ·refine .bi ?_ ?_
  ·exact .lg ⟨_,_,_,_,_,_,_,rfl⟩
  exact .s (pt 1 0) (.s (pt 1 1) (.s (iA a.2.1) (.st (eS (e:=5)) (.st (aO ..) (.lg ⟨_,_,_,_,_,_,_,rfl⟩)))))
 rintro _ x ⟨c,d,f,h,i,j,tC,rfl⟩
 refine .u4 (.u4 (.bg (λt (y:Bool)=>∃ k o p:A,t=[(bA y),k,o,p]) ?_ ?_))
 ·refine .bi ?_ ?_
  ·exact .lg ⟨_,_,_,rfl⟩
  exact .s (ag (ar a.1)) (.bd (g:=λ(y:Int)=>(iA y)) (by simp only[cP,fo]; exact u a.1) λz=>.st (aO ..) (.lg ⟨_,_,_,rfl⟩))
 rintro _ a1 ⟨k,o,p,rfl⟩
 refine .u4 (.ZD (.bg (λt (y:Bool)=>∃ q:A,t=[(bA y),q]) ?_ ?_))
 ·refine .Fx (λb=>?_) (λb=>?_)
  ·exact .bb (.s (ag (ar a.1)) (.bd (g:=λ(y:(List UInt8))=>(im (y.map c8) false)) (by simp only[cP,fo]; exact w a.1) λr=>.st (v:=(A.v (Value.string (iv r)))) (pY (e:=5) (l:=r) r7 r7 r7 r7 (bM ..) rfl) (.st (v:=(A.v (Value.string (iv a0)))) (pY (e:=5) (l:=a0) r7 r7 r7 r7 (bM ..) rfl) (.cr (.u4 (.uc (.tK b (.st (uv ..) (.lg ⟨_,rfl⟩)))))))))
  exact .bb (.cr (.u4 (.uc (.sj b (.lg ⟨_,rfl⟩)))))
 rintro _ a2 ⟨q,rfl⟩
 refine .uc (.uc (.cu ?_ ?_))
 ·exact .s (ag [(iA 0),(iA 0),se,Z5]) (.s [aN,bx [(im (a0.map c8) false),(iA a.2.1),(bA a.2.2)],bx (ar a.1)] (.s (ag [(iA 0),(iA 0),se,Z5]) (.lv so)))
 exact .s (ag (ar a.1)) (.s [bx (ar a.1),bx [(im (a0.map c8) false),(iA a.2.1),(bA a.2.2)],bx (ar a.1)] (.s (ag (ar a.1)) (.lv so)))
def OG (a0:(List UInt8)):Option (aw×Int):=RB aD a0
def Lp (C:OT):Prop:=∀ (a0:(List UInt8)),C 76 [(im (a0.map c8) false)]=(OG a0).map λy=>(tp [(ag (ar y.1)),(iA y.2)])
def nh (n:Nat) (a:aw):Nat->Int->(List Int)->Option ((Bool)⊕((List Int)))
 | 0,_,_=>none
 | m+1,b,c=>bif (decide (b<((a.L.length:Int)))) then ((bG a.L b).bind λd=>bif (d.Kind != 1) then (some ((Sum.inl false))) else ((bG a.L b).bind λe=>(cU 8 c ([e.N])).bind λf=>nh n a m (wr .i64 (b+1)) f)) else (some ((Sum.inr c)))
theorem Gq {p q:A} (a:aw) {K:((Bool)⊕((List Int)))->Option γ} (r:∀ (c:Bool) (i:A) (t:A) (j:A) (k:aA) (q1:aA),J φ (kr (St.mk [(2,Z5),(3,(bA c)),(4,i),(6,t),(7,j)] [k,q1])) kL (K (Sum.inl c)) some) (u:∀ (c:(List Int)) (s2:A) (v:A) (i:A) (j:A) (k:aA),J φ (kx 0 (St.mk [(2,s2),(3,v),(4,i),(6,(bD 1 0 c.length false)),(7,j)] [k,aA.row false 1 (c.map (cI .i64))])) kL (K (Sum.inr c)) some) :
  ∀ (m:Nat) (o:Int) (d:(List Int)),J φ (aI (cx C) (ec C n 8) (ey C n 8) (n+8) 47 0 0 2 kx kg kr kp m (St.mk [(2,p),(3,q),(4,(pt 0 0)),(6,(bD 1 0 d.length false)),(7,(iA o))] [bx (ar a),aA.row false 1 (d.map (cI .i64))])) kL (nh n a m o d) K:=by
  refine nI (λ_ _=>.nn) λm ih o d=>.lp (Pq ..) ?_;unfold nh;refine .s2 (im (a.L.map az) false) (.st (eS (e:=107)) (.st (aZ ..) (.cu ?_ ?_)))
  ·refine .s2 (im (a.L.map az) false) (.bd ((fx (e:=107) (es:=4)).trans (fc _)) λw=>.s2 (iA w.Kind) (.st (aO ..) (.cu ?_ ?_)))
   ·exact .ex (r _ _ _ _ _ _)
   refine .s2 (im (a.L.map az) false) (.bd ((fx (e:=107) (es:=4)).trans (fc _)) λh=>.s2 (iA h.N) (.s (im [[(iA h.N)]] true) (.bd (g:=λ(y:List Int)=>((bD 1 0 y.length false),[bx (ar a),aA.row false 1 (y.map (cI .i64))])) (cC pW (l:=d) (l2:=[h.N]) (b:=1) rfl (by decide) (bM (f:=(cI .i64)) ([h.N]:List Int) _ _)) λx=>.st (aF ..) (.s [bx (ar a),aA.row false 1 (x.map (cI .i64))] (.cT r7 ?_)))));exact ih _ _
  exact .ex (u _ _ _ _ _ _)
def Rj (n:Nat) (a0:(List UInt8)):Option ((List Int)×Bool):=
 (OG a0).bind λa=>(bif (a.2 != 0) then (some true) else (some (a.1.Kind != 3))).bind λb=>bif b then (some (([],false))) else ((nh n a.1 (n+8) 0 (([]:List Int))).bind λRX=>match RX with | (Sum.inl c)=>some (([],c)) | (Sum.inr d)=>some ((d,true)))
theorem XN (C:OT) (n:Nat) (i:Lp C) (a0:(List UInt8)):TJ C n 47 [(im (a0.map c8) false)] (Rj n a0) (λy=>(tp [(im (y.1.map (cI .i64)) false),(bA y.2)])):=by
 refine .lp (YD ..) ?_;unfold Rj;refine .bd (g:=λ(y:(aw×Int))=>(tp [(ag (ar y.1)),(iA y.2)])) (by simp only[cP,fo]; exact i a0) λc=>.s (ag (ar c.1)) (.s (iA c.2) (.sq (pt 0 0) (.s [bx (ar c.1)] (.st (aO ..) (.bg (λt (y:Bool)=>∃ e f h:A,t=[(bA y),e,f,h]) ?_ ?_)))))
 ·refine .bi ?_ ?_
  ·exact .lg ⟨_,_,_,rfl⟩
  exact .s (pt 0 0) (.s (iA c.1.Kind) (.st (aO ..) (.lg ⟨_,_,_,rfl⟩)))
 rintro _ j ⟨e,f,h,rfl⟩
 refine .u4 (.cu ?_ ?_)
 ·exact .lv so
 refine .as (Gq C n _ _ _ _  c.1 ?_ ?_ _ 0 (([]:List Int)))
 ·intro k o p q r u;exact .un rfl (.lv so)
 ·intro a v w x z d;exact .un rfl (.cT r7 (.lv (by show bp [d,aA.row false 1 (a.map (cI .i64))] (tp [(bD 1 0 a.length false),(bA true)])=_; first | (simp only[cP,fo,bp,cq (H:=[d,aA.row false 1 (a.map (cI .i64))]) (b:=1) (es:=1) (wr:=false) (l:=a) (gI _) rfl]; done) | (simp only[cP,gR,bp,cq (H:=[d,aA.row false 1 (a.map (cI .i64))]) (b:=1) (es:=1) (wr:=false) (l:=a) (gI _) rfl]; first | done | rfl))))
def Ow (a0:(List UInt8)):Option ((List Int)×Bool):=Rj aD a0
def Lj (C:OT):Prop:=∀ (a0:(List UInt8)),C 47 [(im (a0.map c8) false)]=(Ow a0).map λy=>(tp [(im (y.1.map (cI .i64)) false),(bA y.2)])
def Q8 (n:Nat) (a0:(List UInt8)):Option (aE×Bool):=
 (Ow a0).bind λa=>(bif (!a.2) then (some true) else (some (((a.1.length:Int)) != 5))).bind λb=>(bif b then (some true) else ((bG a.1 0).bind λc=>some (c != 1))).bind λd=>bif d then (some (((aE.mk 0 0 0 0),false))) else ((bG a.1 1).bind λe=>(bG a.1 2).bind λf=>(bG a.1 3).bind λg=>(bG a.1 4).bind λh=>some (((aE.mk e f g h),true)))
theorem Xz (C:OT) (n:Nat) (p:Lj C) (a0:(List UInt8)):TJ C n 17 [(im (a0.map c8) false)] (Q8 n a0) (λy=>(tp [(ag (av y.1)),(bA y.2)])):=by
 refine .lp (Yn ..) ?_;unfold Q8;refine .s ((pt 0 0),[bx [(iA 0),(iA 0),(iA 0),(iA 0)]]) (.bd (g:=λ(y:((List Int)×Bool))=>(tp [(im (y.1.map (cI .i64)) false),(bA y.2)])) (by simp only[cP,fo]; exact p a0) λf=>.s (im (f.1.map (cI .i64)) false) (.s (bA f.2) (.s (bA (!f.2)) (.bg (λt (y:Bool)=>∃ h i j:A,t=[(bA y),h,i,j]) ?_ ?_))))
 ·refine .bi ?_ ?_
  ·exact .lg ⟨_,_,_,rfl⟩
  exact .st (eS (e:=3)) (.st (aO ..) (.lg ⟨_,_,_,rfl⟩))
 rintro _ r ⟨h,i,j,rfl⟩
 refine .u4 (.bg (λt (y:Bool)=>∃ tC k l o:A,t=[(bA y),tC,k,l,o]) ?_ ?_)
 ·refine .bi ?_ ?_
  ·exact .lg ⟨_,_,_,_,rfl⟩
  exact .bd (fx (e:=3) (es:=1)) λq=>.s (iA q) (.st (aO ..) (.lg ⟨_,_,_,_,rfl⟩))
 rintro _ u ⟨tC,k,l,o,rfl⟩
 refine .u4 (.uc (.cu ?_ ?_))
 ·exact .s (ag [(iA 0),(iA 0),(iA 0),(iA 0)]) (.s [bx [(iA 0),(iA 0),(iA 0),(iA 0)]] (.s (ag [(iA 0),(iA 0),(iA 0),(iA 0)]) (.lv rfl)))
 exact .bd (fx (e:=3) (es:=1)) λa=>.s (iA a) (.bd (fx (e:=3) (es:=1)) λb=>.s (iA b) (.bd (fx (e:=3) (es:=1)) λc=>.s (iA c) (.bd (fx (e:=3) (es:=1)) λd=>.s (iA d) (.s (ag [(iA a),(iA b),(iA c),(iA d)]) (.s [bx [(iA a),(iA b),(iA c),(iA d)]] (.s (ag [(iA a),(iA b),(iA c),(iA d)]) (.lv rfl)))))))
def On (a0:(List UInt8)):Option (aE×Bool):=Q8 aD a0
def FJ (C:OT):Prop:=∀ (a0:(List UInt8)),C 17 [(im (a0.map c8) false)]=(On a0).map λy=>(tp [(ag (av y.1)),(bA y.2)])
def RD (n:Nat) (a0:aP) (a1:Int):Option (aP×Int):=
 (Mo a0 a1).bind λa=>bif (a.2 != 0) then (some (((aP.mk ([]) ([])),a.2))) else ((Mp a0 a1).bind λb=>some ((b,0)))
theorem X7 (C:OT) (n:Nat) (c:De C) (d:FY C) (a0:aP) (a1:Int):TJ C n 79 [(ag [(im (a0.Queue.map al) false),(im (a0.Apart.map au) false)]),(iA a1)] (RD n a0 a1) (λy=>(tp [(ag [(im (y.1.Queue.map al) false),(im (y.1.Apart.map au) false)]),(iA y.2)])):=by
 refine .lp (Y0 ..) ?_;unfold RD;refine .sq (pt 0 0) (.s ((pt 1 0),[bx [(im (a0.Queue.map al) false),(im (a0.Apart.map au) false)],bx [Z5,Z5]]) (.s (ag [(im (a0.Queue.map al) false),(im (a0.Apart.map au) false)]) (.bd (g:=λ(y:(aC×Int))=>(tp [(ag (al y.1)),(iA y.2)])) (by simp only[cP,fo]; exact c a0 a1) λb=>.s (ag (al b.1)) (.s (iA b.2) (.st (aO ..) (.cu ?_ ?_))))))
 ·exact .s (ag [Z5,Z5]) (.s [bx [(im (a0.Queue.map al) false),(im (a0.Apart.map au) false)],bx [Z5,Z5]] (.s (ag [Z5,Z5]) (.lv so)))
 exact .s (ag [(im (a0.Queue.map al) false),(im (a0.Apart.map au) false)]) (.bd (g:=λ(y:aP)=>(ag [(im (y.Queue.map al) false),(im (y.Apart.map au) false)])) (by simp only[cP,fo]; exact d a0 a1) λa=>.s [bx [(im (a0.Queue.map al) false),(im (a0.Apart.map au) false)],bx [(im (a.Queue.map al) false),(im (a.Apart.map au) false)]] (.s (ag [(im (a.Queue.map al) false),(im (a.Apart.map au) false)]) (.lv so)))
def OH (a0:aP) (a1:Int):Option (aP×Int):=RD aD a0 a1
def Lr (C:OT):Prop:=∀ (a0:aP) (a1:Int),C 79 [(ag [(im (a0.Queue.map al) false),(im (a0.Apart.map au) false)]),(iA a1)]=(OH a0 a1).map λy=>(tp [(ag [(im (y.1.Queue.map al) false),(im (y.1.Apart.map au) false)]),(iA y.2)])
def Rm (n:Nat) (a0:ay) (a1:Int):Option (ay×Int):=
 (Fv a0).bind λb=>bif (b != 0) then (some (((ay.mk ((aP.mk ([]) ([]))) ([]) 0),b))) else ((OH a0.Net a1).bind λa=>bif (a.2 != 0) then (some (((ay.mk ((aP.mk ([]) ([]))) ([]) 0),a.2))) else (some (((ay.mk a.1 a0.Ears a0.Bar),0))))
theorem XR (C:OT) (n:Nat) (b:ri C) (c:Lr C) (a0:ay) (a1:Int):TJ C n 52 [(ag (aq a0)),(iA a1)] (Rm n a0 a1) (λy=>(tp [(ag (aq y.1)),(iA y.2)])):=by
 refine .lp (YH ..) ?_;unfold Rm;refine .s ((pt 0 0),[bx (aq a0)]) (.s ((pt 1 0),[bx (aq a0),bx [Z5,Z5,Z5,(iA 0)]]) (.s (ag (aq a0)) (.bd (g:=λ(y:Int)=>(iA y)) (by simp only[cP,fo]; exact b a0) λd=>.st (aO ..) (.cu ?_ ?_))))
 ·exact .s (ag [Z5,Z5,Z5,(iA 0)]) (.s [bx (aq a0),bx [Z5,Z5,Z5,(iA 0)]] (.s (ag [Z5,Z5,Z5,(iA 0)]) (.lv so)))
 refine .s2 (ag [(im (a0.Net.Queue.map al) false),(im (a0.Net.Apart.map au) false)]) (.bd (g:=λ(y:(aP×Int))=>(tp [(ag [(im (y.1.Queue.map al) false),(im (y.1.Apart.map au) false)]),(iA y.2)])) (by simp only[cP,fo]; exact c a0.Net a1) λa=>.s (ag [(im (a.1.Queue.map al) false),(im (a.1.Apart.map au) false)]) (.s (iA a.2) (.sq (pt 2 0) (.s [bx (aq a0),bx [Z5,Z5,Z5,(iA 0)],bx [(im (a.1.Queue.map al) false),(im (a.1.Apart.map au) false)]] (.st (aO ..) (.cu ?_ ?_))))))
 ·exact .s (ag [Z5,Z5,Z5,(iA 0)]) (.s [bx (aq a0),bx [Z5,Z5,Z5,(iA 0)],bx [(im (a.1.Queue.map al) false),(im (a.1.Apart.map au) false)]] (.s (ag [Z5,Z5,Z5,(iA 0)]) (.lv so)))
 exact .s (ag [(im (a.1.Queue.map al) false),(im (a.1.Apart.map au) false)]) (.s (pt 0 0) (.sh (.s (ag [(im (a.1.Queue.map al) false),(im (a.1.Apart.map au) false),(im (a0.Ears.map aB) false),(iA a0.Bar)]) (.s [bx [(im (a.1.Queue.map al) false),(im (a.1.Apart.map au) false),(im (a0.Ears.map aB) false),(iA a0.Bar)],bx [(im (a.1.Queue.map al) false),(im (a.1.Apart.map au) false),(im (a0.Ears.map aB) false),(iA a0.Bar)],bx [(im (a.1.Queue.map al) false),(im (a.1.Apart.map au) false)]] (.s (ag [(im (a.1.Queue.map al) false),(im (a.1.Apart.map au) false),(im (a0.Ears.map aB) false),(iA a0.Bar)]) (.lv so))))))
def Oy (a0:ay) (a1:Int):Option (ay×Int):=Rm aD a0 a1
def FT (C:OT):Prop:=∀ (a0:ay) (a1:Int),C 52 [(ag (aq a0)),(iA a1)]=(Oy a0 a1).map λy=>(tp [(ag (aq y.1)),(iA y.2)])
def RE (n:Nat) (a0:aP) (a1:Int):Option (aP×Int):=
 (Mo a0 a1).bind λa=>bif (a.2 != 0) then (some (((aP.mk ([]) ([])),a.2))) else ((I6 a0 a.1).bind λb=>some ((b.1,b.2)))
theorem X8 (C:OT) (n:Nat) (c:rk C) (d:De C) (a0:aP) (a1:Int):TJ C n 80 [(ag [(im (a0.Queue.map al) false),(im (a0.Apart.map au) false)]),(iA a1)] (RE n a0 a1) (λy=>(tp [(ag [(im (y.1.Queue.map al) false),(im (y.1.Apart.map au) false)]),(iA y.2)])):=by
 refine .lp (Y1 ..) ?_;unfold RE;refine .s ((pt 0 0),[(fh a0)]) (.s ((pt 1 0),[(fh a0),bx [Z5,Z5]]) (.s (ag [(im (a0.Queue.map al) false),(im (a0.Apart.map au) false)]) (.bd (g:=λ(y:(aC×Int))=>(tp [(ag (al y.1)),(iA y.2)])) (by simp only[cP,fo]; exact d a0 a1) λa=>.s (ag (al a.1)) (.s (iA a.2) (.sq (pt 2 0) (.s [(fh a0),bx [Z5,Z5],bx (al a.1)] (.st (aO ..) (.cu ?_ ?_))))))))
 ·exact .s (ag [Z5,Z5]) (.s [(fh a0),bx [Z5,Z5],bx (al a.1)] (.s (ag [Z5,Z5]) (.lv so)))
 exact .s (ag [(im (a0.Queue.map al) false),(im (a0.Apart.map au) false)]) (.s (ag (al a.1)) (.bd (g:=λ(y:(aP×Int))=>(tp [(ag [(im (y.1.Queue.map al) false),(im (y.1.Apart.map au) false)]),(iA y.2)])) (by simp only[cP,fo]; exact c a0 a.1) λb=>.s (ag [(im (b.1.Queue.map al) false),(im (b.1.Apart.map au) false)]) (.s (iA b.2) (.s [(fh a0),bx [(im (b.1.Queue.map al) false),(im (b.1.Apart.map au) false)],bx (al a.1)] (.s (ag [(im (b.1.Queue.map al) false),(im (b.1.Apart.map au) false)]) (.lv so))))))
def OI (a0:aP) (a1:Int):Option (aP×Int):=RE aD a0 a1
def Ls (C:OT):Prop:=∀ (a0:aP) (a1:Int),C 80 [(ag [(im (a0.Queue.map al) false),(im (a0.Apart.map au) false)]),(iA a1)]=(OI a0 a1).map λy=>(tp [(ag [(im (y.1.Queue.map al) false),(im (y.1.Apart.map au) false)]),(iA y.2)])
def Rn (n:Nat) (a0:ay) (a1:Int):Option (ay×Int):=
 (Fv a0).bind λb=>bif (b != 0) then (some (((ay.mk ((aP.mk ([]) ([]))) ([]) 0),b))) else ((OI a0.Net a1).bind λa=>bif (a.2 != 0) then (some (((ay.mk ((aP.mk ([]) ([]))) ([]) 0),a.2))) else (some (((ay.mk a.1 a0.Ears a0.Bar),0))))
theorem XS (C:OT) (n:Nat) (b:ri C) (c:Ls C) (a0:ay) (a1:Int):TJ C n 53 [(ag (aq a0)),(iA a1)] (Rn n a0 a1) (λy=>(tp [(ag (aq y.1)),(iA y.2)])):=by
 refine .lp (YI ..) ?_;unfold Rn;refine .s ((pt 0 0),[bx (aq a0)]) (.s ((pt 1 0),[bx (aq a0),bx [Z5,Z5,Z5,(iA 0)]]) (.s (ag (aq a0)) (.bd (g:=λ(y:Int)=>(iA y)) (by simp only[cP,fo]; exact b a0) λd=>.st (aO ..) (.cu ?_ ?_))))
 ·exact .s (ag [Z5,Z5,Z5,(iA 0)]) (.s [bx (aq a0),bx [Z5,Z5,Z5,(iA 0)]] (.s (ag [Z5,Z5,Z5,(iA 0)]) (.lv so)))
 refine .s2 (ag [(im (a0.Net.Queue.map al) false),(im (a0.Net.Apart.map au) false)]) (.bd (g:=λ(y:(aP×Int))=>(tp [(ag [(im (y.1.Queue.map al) false),(im (y.1.Apart.map au) false)]),(iA y.2)])) (by simp only[cP,fo]; exact c a0.Net a1) λa=>.s (ag [(im (a.1.Queue.map al) false),(im (a.1.Apart.map au) false)]) (.s (iA a.2) (.sq (pt 2 0) (.s [bx (aq a0),bx [Z5,Z5,Z5,(iA 0)],bx [(im (a.1.Queue.map al) false),(im (a.1.Apart.map au) false)]] (.st (aO ..) (.cu ?_ ?_))))))
 ·exact .s (ag [Z5,Z5,Z5,(iA 0)]) (.s [bx (aq a0),bx [Z5,Z5,Z5,(iA 0)],bx [(im (a.1.Queue.map al) false),(im (a.1.Apart.map au) false)]] (.s (ag [Z5,Z5,Z5,(iA 0)]) (.lv so)))
 exact .s (ag [(im (a.1.Queue.map al) false),(im (a.1.Apart.map au) false)]) (.s (pt 0 0) (.sh (.s (ag [(im (a.1.Queue.map al) false),(im (a.1.Apart.map au) false),(im (a0.Ears.map aB) false),(iA a0.Bar)]) (.s [bx [(im (a.1.Queue.map al) false),(im (a.1.Apart.map au) false),(im (a0.Ears.map aB) false),(iA a0.Bar)],bx [(im (a.1.Queue.map al) false),(im (a.1.Apart.map au) false),(im (a0.Ears.map aB) false),(iA a0.Bar)],bx [(im (a.1.Queue.map al) false),(im (a.1.Apart.map au) false)]] (.s (ag [(im (a.1.Queue.map al) false),(im (a.1.Apart.map au) false),(im (a0.Ears.map aB) false),(iA a0.Bar)]) (.lv so))))))
def Oz (a0:ay) (a1:Int):Option (ay×Int):=Rn aD a0 a1
def FU (C:OT):Prop:=∀ (a0:ay) (a1:Int),C 53 [(ag (aq a0)),(iA a1)]=(Oz a0 a1).map λy=>(tp [(ag (aq y.1)),(iA y.2)])
def ju (n:Nat) (c:(List UInt8)) (b:Nat) (d:Int):Nat->Int->(List Int)->Option ((List Int))
 | 0,_,_=>none
 | m+1,a,f=>bif (decide (a<d)) then ((gO b a).bind λh=>(lY f h (λ(y:Int)=>a)).bind λe=>bif (decide (a<((c.length:Int)))) then ((bG c a).bind λi=>bif decide ((wr .i64 (a+1))≠0) then ((gO b (Int.tmod (wr .i64 ((i.toNat:Int))) (wr .i64 (a+1)))).bind λj=>(e[j]?).bind λk=>(gO b a).bind λl=>(lY e l (λ(y:Int)=>k)).bind λg=>(bG c a).bind λo=>bif decide ((wr .i64 (a+1))≠0) then (bif ((Int.tmod (wr .i64 ((o.toNat:Int))) (wr .i64 (a+1)))==a) then ((gO b a).bind λp=>(lY g p (λ(y:Int)=>a)).bind λq=>ju n c b d m (wr .i64 (a+1)) q) else (ju n c b d m (wr .i64 (a+1)) g)) else none) else none) else (ju n c b d m (wr .i64 (a+1)) e)) else (some f)
theorem Gu {q:A} (h:(List UInt8)) (d:Nat) (i:Int) {K:((List Int))->Option γ} (r:∀ (j:(List Int)) (t:A) (w:A) (x:A) (z:A),J φ (kx 0 (St.mk [(0,t),(4,w),(5,(bD 0 0 d false)),(10,x),(11,z)] [aA.row true 1 (j.map (cI .i64))])) kL (K j) some) :
  ∀ (m:Nat) (a:Int) (b:(List Int)),J φ (aI (cx C) (ec C n 8) (ey C n 8) (n+8) 81 0 0 1 kx kg kr kp m (St.mk [(0,(im (h.map c8) false)),(4,q),(5,(bD 0 0 d false)),(10,(iA i)),(11,(iA a))] [aA.row true 1 (b.map (cI .i64))])) kL (ju n h d i m a b) K:=by
  refine nI (λ_ _=>.nn) λm ih a b=>.lp (Pz ..) ?_;unfold ju;refine .st (aZ ..) (.cu ?_ ?_)
  ·refine .bd (g:=λ(y:Nat)=>A.ep 0 y 0) (dU (e:=3) (es:=1) (l:=b) r7 r7 rfl) λa1=>.bd (g:=λ(y:List Int)=>[aA.row true 1 (y.map (cI .i64))]) ((gm (es:=1) (n:=1) (l:=b) (xs:=[(iA a)]) (u:=λ(y:Int)=>a) r7 r7 (by decide) rfl (λ_=>rfl) (by decide) (by decide) rfl (λ_=>rfl))) λc=>.st (eS (e:=5)) (.st (aZ ..) (.cu ?_ ?_))
   ·refine .bd (fx (e:=5) (es:=1)) λk=>.s (uA ((k.toNat:Int))) (.st (v:=(iA (wr .i64 ((k.toNat:Int))))) (aM (hs:=by kernel_rfl) (hd:=by kernel_rfl) ..) (.st (aF ..) (.gd λhg=>.st (gn (hb:=qai hg) ..) (.bd (g:=λ(y:Nat)=>A.ep 0 y 0) (dU (e:=3) (es:=1) (l:=c) r7 r7 rfl) λa2=>.bd (g:=λ(y:Int)=>(iA y)) (jZ (es:=1) (n:=1) (l:=c) r7 (by decide) (λ_=>rfl) (by decide) rfl (λ_=>r7)) λo=>.bd (g:=λ(y:Nat)=>A.ep 0 y 0) (dU (e:=3) (es:=1) (l:=c) r7 r7 rfl) λa3=>.bd (g:=λ(y:List Int)=>[aA.row true 1 (y.map (cI .i64))]) ((gm (es:=1) (n:=1) (l:=c) (xs:=[(iA o)]) (u:=λ(y:Int)=>o) r7 r7 (by decide) rfl (λ_=>rfl) (by decide) (by decide) rfl (λ_=>rfl))) λf=>.bd (fx (e:=5) (es:=1)) λp=>.s (uA ((p.toNat:Int))) (.st (v:=(iA (wr .i64 ((p.toNat:Int))))) (aM (hs:=by kernel_rfl) (hd:=by kernel_rfl) ..) (.st (aF ..) (.gd λhg=>.st (gn (hb:=qai hg) ..) (.st (aX ..) (.cu ?_ ?_)))))))))
    ·refine .bd (g:=λ(y:Nat)=>A.ep 0 y 0) (dU (e:=3) (es:=1) (l:=f) r7 r7 rfl) λa4=>.bd (g:=λ(y:List Int)=>[aA.row true 1 (y.map (cI .i64))]) ((gm (es:=1) (n:=1) (l:=f) (xs:=[(iA a)]) (u:=λ(y:Int)=>a) r7 r7 (by decide) rfl (λ_=>rfl) (by decide) (by decide) rfl (λ_=>rfl))) λa0=>.st (aF ..) (.s [aA.row true 1 (a0.map (cI .i64))] (.cT r7 ?_));exact ih _ _
    refine .st (aF ..) (.s [aA.row true 1 (f.map (cI .i64))] (.cT r7 ?_));exact ih _ _
   refine .st (aF ..) (.s [aA.row true 1 (c.map (cI .i64))] (.cT r7 ?_));exact ih _ _
  exact .ex (r _ _ _ _ _)
def RF (n:Nat) (a0:(List UInt8)) (a1:Int):Option (List Int):=
 (BE 8 a1 0).bind λa=>(ju n a0 a.length ((a.length:Int)) (n+8) 0 a).bind λN8=>match N8 with | b=>some ((List.take a.length (List.drop 0 b)))
theorem X9 (C:OT) (n:Nat) (a0:(List UInt8)) (a1:Int):TJ C n 81 [(im (a0.map c8) false),(iA a1)] (RF n a0 a1) (λy=>(im (y.map (cI .i64)) false)):=by
 refine .lp (Y2 ..) ?_;unfold RF;refine .bd (g:=λ(y:List Int)=>((bD 0 0 y.length false),[aA.row true 1 (y.map (cI .i64))])) (ti (e:=3) (es:=1) (f:=(cI .i64)) (z:=0) (z':=[(iA 0)]) r7 r7 r7 r7 rfl (by decide) (λ_=>rfl)) λc=>.st (KR (e:=3) r7 rfl rfl) (.as (Gu C n _ _ _ _  a0 c.length ((c.length:Int)) ?_ _ 0 c))
 ·intro a d h i j;exact .un rfl (.cT r7 (.lv (by show bp [aA.row true 1 (a.map (cI .i64))] (bD 0 0 c.length false)=_; first | (simp only[cP,fo,bp,fL (H:=[aA.row true 1 (a.map (cI .i64))]) (b:=0) (es:=1) (wr:=true) (l:=a) (gI _) rfl]; done) | (simp only[cP,gR,bp,fL (H:=[aA.row true 1 (a.map (cI .i64))]) (b:=0) (es:=1) (wr:=true) (l:=a) (gI _) rfl]; first | done | rfl))))
def OJ (a0:(List UInt8)) (a1:Int):Option (List Int):=RF aD a0 a1
def FZ (C:OT):Prop:=∀ (a0:(List UInt8)) (a1:Int),C 81 [(im (a0.map c8) false),(iA a1)]=(OJ a0 a1).map λy=>(im (y.map (cI .i64)) false)
def lG (n:Nat) (b:(List Int)) (c:Int) (d:Int):Nat->Int->Option ((Int)⊕(Unit))
 | 0,_=>none
 | m+1,a=>bif (decide (a<d)) then ((bG b a).bind λe=>bif (c==e) then (some ((Sum.inl a))) else (lG n b c d m (wr .i64 (a+1)))) else (some ((Sum.inr (()))))
theorem Gt {k:A} (g:(List Int)) (h:Int) (i:Int) {K:((Int)⊕(Unit))->Option γ} (l:∀ (j:Int) (a:A) (b:A) (c:A) (d:A),J φ (kr (St.mk [(0,a),(1,b),(4,(iA j)),(7,c),(8,d)] [])) kL (K (Sum.inl j)) some) (o:∀ (a:A) (b:A) (p:A) (c:A) (d:A),J φ (kx 0 (St.mk [(0,a),(1,b),(4,p),(7,c),(8,d)] [])) kL (K (Sum.inr (()))) some) :
  ∀ (m:Nat) (f:Int),J φ (aI (cx C) (ec C n 8) (ey C n 8) (n+8) 77 0 0 0 kx kg kr kp m (St.mk [(0,(im (g.map (cI .i64)) false)),(1,(iA h)),(4,k),(7,(iA i)),(8,(iA f))] [])) kL (lG n g h i m f) K:=by
  refine nI (λ_=>.nn) λm ih f=>.lp (Py ..) ?_;unfold lG;refine .st (aZ ..) (.cu ?_ ?_)
  ·refine .bd (fx (e:=3) (es:=1)) λq=>.s (iA q) (.st (aX ..) (.cu ?_ ?_))
   ·exact .ex (l _ _ _ _ _)
   refine .st (aF ..) (.s [] (.cT r7 ?_));exact ih _
  exact .ex (o _ _ _ _ _)
def RC (n:Nat) (a0:(List Int)) (a1:Int):Option Int:=
 (lG n a0 a1 ((a0.length:Int)) (n+8) 0).bind λa=>match a with | (Sum.inl b)=>some b | (Sum.inr _)=>some (-1)
theorem X6 (C:OT) (n:Nat) (a0:(List Int)) (a1:Int):TJ C n 77 [(im (a0.map (cI .i64)) false),(iA a1)] (RC n a0 a1) (λy=>(iA y)):=by
 refine .lp (YZ ..) ?_;unfold RC;refine .st (eS (e:=3)) (.as (Gt C n _ _ _ _  a0 a1 ((a0.length:Int)) ?_ ?_ _ 0))
 ·intro a b c d f;exact .un rfl (.lv rfl)
 ·intro g h i j k;exact .un rfl (.cT r7 (.lv rfl))
def RL (a0:(List Int)) (a1:Int):Option Int:=RC aD a0 a1
def Lq (C:OT):Prop:=∀ (a0:(List Int)) (a1:Int),C 77 [(im (a0.map (cI .i64)) false),(iA a1)]=(RL a0 a1).map λy=>(iA y)
def Rk (n:Nat) (a0:(List Int)) (a1:Int):Option Bool:=
 (RL a0 a1).bind λa=>some (decide (0<=a))
theorem XO (C:OT) (n:Nat) (a:Lq C) (a0:(List Int)) (a1:Int):TJ C n 48 [(im (a0.map (cI .i64)) false),(iA a1)] (Rk n a0 a1) (λy=>(bA y)):=by
 refine .lp (YE ..) ?_;unfold Rk;exact .bd (g:=λ(y:Int)=>(iA y)) (by simp only[cP,fo]; exact a a0 a1) λb=>.st (dD ..) (.lv rfl)
def Ox (a0:(List Int)) (a1:Int):Option Bool:=Rk aD a0 a1
def FP (C:OT):Prop:=∀ (a0:(List Int)) (a1:Int),C 48 [(im (a0.map (cI .i64)) false),(iA a1)]=(Ox a0 a1).map λy=>(bA y)
def Rl (n:Nat) (a0:(List Int)) (a1:Int):Option (List Int):=
 (BE 8 (wr .i64 (((a0.length:Int))+1)) 0).bind λa=>(gO a.length ((a0.length:Int))).bind λb=>(lY ((tt a 0 a.length a0)) b (λ(y:Int)=>a1)).bind λc=>some ((List.take a.length (List.drop 0 c)))
theorem XP (C:OT) (n:Nat) (a0:(List Int)) (a1:Int):TJ C n 49 [(im (a0.map (cI .i64)) false),(iA a1)] (Rl n a0 a1) (λy=>(im (y.map (cI .i64)) false)):=by
 refine .lp (YF ..) ?_;unfold Rl;exact .st (eS (e:=3)) (.st (aF ..) (.bd (g:=λ(y:List Int)=>((bD 0 0 y.length false),[aA.row true 1 (y.map (cI .i64))])) (ti (e:=3) (es:=1) (f:=(cI .i64)) (z:=0) (z':=[(iA 0)]) r7 r7 r7 r7 rfl (by decide) (λ_=>rfl)) λa=>.st (v:=((iA (((min a0.length a.length:Nat):Int))),[aA.row true 1 (List.map (cI .i64) ((tt a 0 a.length a0)))])) (Fq (e:=3) (es:=1) (f:=(cI .i64)) (l:=a) (l2:=a0) r7 r7 (by decide) (λ_=>rfl) (LC _) (by decide) rfl (bM ..)) (.st (eS (e:=3)) (.bd (g:=λ(y:Nat)=>A.ep 0 y 0) (dU (e:=3) (es:=1) (l:=(tt a 0 a.length a0)) r7 r7 rfl) λd=>.bd (g:=λ(y:List Int)=>[aA.row true 1 (y.map (cI .i64))]) ((gm (es:=1) (n:=1) (l:=(tt a 0 a.length a0)) (xs:=[(iA a1)]) (u:=λ(y:Int)=>a1) r7 r7 (by decide) rfl (λ_=>rfl) (by decide) (by decide) rfl (λ_=>rfl))) λc=>.lv (by show bp [aA.row true 1 (c.map (cI .i64))] (bD 0 0 a.length false)=_; first | (simp only[cP,fo,bp,fL (H:=[aA.row true 1 (c.map (cI .i64))]) (b:=0) (es:=1) (wr:=true) (l:=c) (gI _) rfl]; done) | (simp only[cP,gR,bp,fL (H:=[aA.row true 1 (c.map (cI .i64))]) (b:=0) (es:=1) (wr:=true) (l:=c) (gI _) rfl]; first | done | rfl))))))
def Lb (a0:(List Int)) (a1:Int):Option (List Int):=Rl aD a0 a1
def FQ (C:OT):Prop:=∀ (a0:(List Int)) (a1:Int),C 49 [(im (a0.map (cI .i64)) false),(iA a1)]=(Lb a0 a1).map λy=>(im (y.map (cI .i64)) false)
def S2 (n:Nat) (a0:ay) (a1:Int) (a2:(List Int)):Option ((List Int)×ay×Int):=
 some ((a2,a0,a1))
theorem XQ (C:OT) (n:Nat) (a0:ay) (a1:Int) (a2:(List Int)):TJ C n 51 [(ag (aq a0)),(iA a1),(im (a2.map (cI .i64)) false)] (S2 n a0 a1 a2) (λy=>(tz 78 [] [(A.ip [(im (y.1.map (cI .i64)) false)]),(A.ip (aq y.2.1)),(A.ip [(iA y.2.2)])])):=by
 refine .lp (YG ..) ?_;unfold S2;exact .s ((pt 0 0),[bx (aq a0)]) (.s ((pt 1 0),[bx (aq a0),bx [(iA a1)]]) (.s ((pt 2 0),[bx (aq a0),bx [(iA a1)],bx [(im (a2.map (cI .i64)) false)]]) (.lv (qa7 (tz 78 []) (GS (sZ (f:=(cL (cI .i64))) (lP (gI _)) (λ_=>rfl) (a2:(List Int)) rfl rfl) (GS (sZ (f:=aq) gi (λ_=>rfl) (a0:ay) rfl rfl) (GS (sZ (f:=(cI .i64)) (gI _) (λ_=>rfl) (a1:Int) rfl rfl) rfl)))))))
def NV (a0:ay) (a1:Int) (a2:(List Int)):Option ((List Int)×ay×Int):=S2 aD a0 a1 a2
def FR (C:OT):Prop:=∀ (a0:ay) (a1:Int) (a2:(List Int)),C 51 [(ag (aq a0)),(iA a1),(im (a2.map (cI .i64)) false)]=(NV a0 a1 a2).map λy=>(tz 78 [] [(A.ip [(im (y.1.map (cI .i64)) false)]),(A.ip (aq y.2.1)),(A.ip [(iA y.2.2)])])
end Go.Proofs.Ytebkhfhcipnfgaa
