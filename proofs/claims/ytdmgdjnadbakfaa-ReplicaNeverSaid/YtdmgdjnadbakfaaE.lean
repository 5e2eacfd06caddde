/-
 What the interpreter does with the program's functions: equations, by a tool; the kernel checks each.
-/
import Derived.Test.YtdmgdjnadbakfaaEvTyped
import Derived.Test.YtdmgdjnadbakfaaRows
import Derived.KernelRfl
namespace Go.Proofs.Ytdmgdjnadbakfaa
open Go.Proofs.Try (prog)
set_option linter.unusedVariables false
set_option linter.unusedSimpArgs false
set_option maxHeartbeats 4000000
set_option maxRecDepth 100000
def Ek:List ((Nat×Nat)×List Nat):=[((3,6),[1,2,3,6,27,28,29]),((4,18),[6,7,11,30,31,32,72]),((4,9),[6,7,30,31,32]),((6,8),[1,2,4,5,6,23,24,25]),((9,1000006),[2]),((11,3),[4,5,12,13,14]),((12,3),[1,4,5,6,7]),((13,4),[0,1,4,5]),((14,4),[2,3,4,5]),((15,2),[0,1,4,5,7]),((16,2),[2,3,4,5]),((18,32),[1,2,11,13,14,78,84,85,86,98,104,105,106]),((18,29),[1,2,11,13,78,84,85,86,98]),((18,24),[1,2,11,78,84,85,86]),((18,21),[1,2,78]),((18,15),[1,2,3,4,59,60,61]),((18,8),[1,2,3,4,6,38,39,40,45,46,47]),((18,5),[1,2,3,4,38,39,40]),((19,4),[0,1,4,5]),((20,1000006),[2,3,4]),((21,4),[0,1,4,5]),((23,3),[0,3,4,8,9,10]),((27,2),[2,4,5,10,11,12]),((29,3),[2,3,9,10,11]),((31,5),[1,2,3,4,5,6]),((32,6),[2,3,6,23,24,25]),((34,6),[2,3,5,6]),((35,11),[1,2,5]),((35,5),[1,2,3,4]),((38,15),[0,69,70,71]),((38,9),[0,4,42,51,52,53]),((38,6),[0,42]),((38,1),[0,13,14]),((48,2),[0,3,4,5]),((49,2),[3,4,7,8,9]),((55,2),[0,3,4,13,14,15]),((57,3),[0,2,3,4]),((65,3),[0,2,3,4]),((67,2),[0,1,4,5]),((68,3),[0,1,2,6,7,8]),((69,1000004),[3,4,5,6]),((80,8),[1,2,3,4]),((82,11),[0,1,4,36,37]),((84,21),[0,1,4,7,8,9]),((89,2),[0,1,4,7,8]),((91,7),[2,3,55,56,57]),((93,1),[0,1,4]),((96,3),[0,2,5,17,18,19]),((97,8),[1,2,3]),((98,5),[1,2,3,4]),((103,3),[0,2,3]),((106,3),[0,2,3,4]),((107,2),[0,3,4,7,8])]
def IM (f r:Nat):List Nat:=vv f r Ek
def Gc:List ((Nat×Nat)×List (Nat×Nat×Nat)):=[((82,11),[(4,4,5)]),((82,3000000),[(4,4,0)]),((84,21),[(8,4,5)]),((84,3000000),[(4,4,0)]),((95,2000001),[(3,0,0)]),((29,3),[(3,4,5)]),((15,2),[(4,2,0),(4,3,0),(4,4,0),(4,6,0),(4,7,0),(4,8,0)]),((57,3),[(3,4,5)]),((34,6),[(5,0,2)]),((32,6),[(6,0,2)]),((20,1000006),[(3,2,0),(3,3,0),(3,4,0)]),((31,5),[(3,0,2)]),((11,3),[(4,2,0),(4,3,0),(4,4,0)]),((12,3),[(6,2,4),(6,3,3),(6,4,2)]),((9,1000006),[(2,1,2)]),((4,9),[(7,2,0),(7,3,0),(7,4,0),(7,6,0),(7,7,0),(7,8,0),(7,11,0),(7,12,0),(7,13,0)])]
def KY (f r:Nat):List (Nat×Nat×Nat):=Ce f r Gc
def Gf:List (Nat×Nat):=[]
def K2 (f t:Nat):Bool:=w5 f t Gf
def JJ:List (Nat×Nat):=[]
def Pe (f t:Nat):Bool:=w5 f t JJ
def Em:List (Nat×Nat):=[]
def IP (f t:Nat):Bool:=w5 f t Em
def Ej:List ((Nat×Nat)×List Nat):=[]
def IL (f r:Nat):List Nat:=vv f r Ej
def Gj:List (Nat×Nat):=[(82,3),(84,2),(96,5),(93,1000)]
def K5 (k:Nat):Nat:=Fu k Gj
def Gu:List (Nat×Nat):=[(77,0),(60,0),(61,0),(62,0),(70,0),(71,0)]
def Ld (k:Nat):Bool:=w5 k 0 Gu
noncomputable def cx (C:Nat->List A->Option A):Cx:={ P:=prog,glob:=fun _=>none,isOrc:=fun k=>Db k [23,28,36,37,38,39,40,41,42,43,44,45,46,52,53,54,55,60,61,62,69,70,71,72,77,81,82,83,84,85,86,87,89,90,92,93,95,96,101,103,104,105,106],isOrcV:=fun k=>Db k [23,28,36,37,38,39,40,41,42,43,44,45,46,52,53,54,55,60,61,62,69,70,71,72,77,81,82,83,84,85,86,87,89,90,92,93,95,96,101,103,104,105,106],C:=C,keep:=IM,wrAt:=Pe,acts:=KY,loud:=IP,arr:=K2,join:=IL,cut:=K5,fre:=Ld,deep:=fun k=>iX k [69] }
theorem O9 (C:Nat->List A->Option A):Array.size (Program.funcs (Cx.P (cx C)))=124:=by kernel_rfl
theorem yq {C:Nat->List A->Option A} {m b:Nat} {base:aS} {args:List A} {H:ay} {lo:Nat}:aA (cx C) m base (Array.size (Program.funcs (Cx.P (cx C)))+b) args H lo=base (124+b) args H lo:=AS.trans (congrArg (fun q=>base (q+b) args H lo) (O9 C))
theorem zX:Nat.ble prog.funcs.size 28=false:=by kernel_rfl
theorem dj:Nat.ble prog.funcs.size 37=false:=by kernel_rfl
theorem IQ:Nat.ble prog.funcs.size 38=false:=by kernel_rfl
theorem IT:Nat.ble prog.funcs.size 39=false:=by kernel_rfl
theorem IU:Nat.ble prog.funcs.size 40=false:=by kernel_rfl
theorem IV:Nat.ble prog.funcs.size 41=false:=by kernel_rfl
theorem IW:Nat.ble prog.funcs.size 42=false:=by kernel_rfl
theorem IX:Nat.ble prog.funcs.size 43=false:=by kernel_rfl
theorem IY:Nat.ble prog.funcs.size 44=false:=by kernel_rfl
theorem IZ:Nat.ble prog.funcs.size 45=false:=by kernel_rfl
theorem eN:Nat.ble prog.funcs.size 46=false:=by kernel_rfl
theorem iK:Nat.ble prog.funcs.size 53=false:=by kernel_rfl
theorem zY:Nat.ble prog.funcs.size 55=false:=by kernel_rfl
theorem FG:Nat.ble prog.funcs.size 60=false:=by kernel_rfl
theorem FH:Nat.ble prog.funcs.size 61=false:=by kernel_rfl
theorem FI:Nat.ble prog.funcs.size 62=false:=by kernel_rfl
theorem xf:Nat.ble prog.funcs.size 69=false:=by kernel_rfl
theorem FJ:Nat.ble prog.funcs.size 70=false:=by kernel_rfl
theorem CU:Nat.ble prog.funcs.size 71=false:=by kernel_rfl
theorem zZ:Nat.ble prog.funcs.size 72=false:=by kernel_rfl
theorem I0:Nat.ble prog.funcs.size 77=false:=by kernel_rfl
theorem pn:Nat.ble prog.funcs.size 83=false:=by kernel_rfl
theorem FK:Nat.ble prog.funcs.size 85=false:=by kernel_rfl
theorem FL:Nat.ble prog.funcs.size 86=false:=by kernel_rfl
theorem I1:Nat.ble prog.funcs.size 89=false:=by kernel_rfl
theorem I2:Nat.ble prog.funcs.size 90=false:=by kernel_rfl
theorem CV:Nat.ble prog.funcs.size 92=false:=by kernel_rfl
theorem qq:Nat.ble prog.funcs.size 93=false:=by kernel_rfl
theorem CW:Nat.ble prog.funcs.size 95=false:=by kernel_rfl
theorem I3:Nat.ble prog.funcs.size 96=false:=by kernel_rfl
theorem yJ:Nat.ble prog.funcs.size 101=false:=by kernel_rfl
theorem yK:Nat.ble prog.funcs.size 103=false:=by kernel_rfl
theorem CT:Nat.ble prog.funcs.size 104=false:=by kernel_rfl
variable (C:Nat->List A->Option A) (call:aS) (rg:aS->aS)
variable (n lo L:Nat) (kx kg:Nat->St->Option R) (kr:St->Option R) (kp:A->St->Option R) (m:Nat) (H:ay)
noncomputable abbrev jk {β:Type} (l:List A) (k:A->A->List A->Option β):Option β:=jR l fun a l=>jR l fun b l=>k a b l
noncomputable abbrev kb {β:Type} (l:List A) (k:A->A->A->A->List A->Option β):Option β:=jk l fun a b l=>jk l fun c d l=>k a b c d l
noncomputable abbrev vP {β:Type} (l:List A) (k:A->A->A->A->A->A->A->A->List A->Option β):Option β:=kb l fun a b c d l=>kb l fun e f g h l=>k a b c d e f g h l
noncomputable abbrev ld:=nQ prog
noncomputable abbrev bl:=fy prog
noncomputable abbrev cu:=kf prog
noncomputable abbrev bin:=lL prog
noncomputable abbrev fI:=lJ prog
abbrev lk (s:St) (i:Nat):A:=look (St.fr s) i
abbrev ud:A:=A.v undef
theorem e4 (y x1 q:A):aB (cx C) call rg n 4 [y,x1,q] H lo =
 (C 7 []).bind fun t0 =>
 (jS prog UnOp.not t0).bind fun t1=>bD t1 (some (Out.ret (A.v (.bool false)),H)) ((bM prog 39 q H).bind fun t2 =>
 (bin .gtr 3 false true t2 (A.v (.int .i64 60))).bind fun t3=>bD t3 (some (Out.ret (A.v (.bool true)),H)) ((C 15 [snap H y,snap H x1]).bind fun t4 =>
 (aI t4 0).bind fun t5 =>
 (aI t4 1).bind fun t6 =>
 (fI 44 H).bind fun d =>
 (cu 44 d.1 (b9 d.1 d.2 t5) d.2 lo).bind fun p =>
 (bin .neq 31 false true t6 (A.v (.int .i64 0))).bind fun t9=>bD t9 ((ld 44 d.1 p).bind fun t10 =>
 (bE prog 44 []).bind fun t11 =>
 (C 16 [snap p t10,snap p t11]).bind fun t12=>some (Out.ret t12,p)) ((bM prog 39 q p).bind fun t10=>aK (cx C) call rg n 4 lo 0 (List.length (aX lo 12 0 d.1 (aX lo 11 0 d.1 (aX lo 10 0 d.1 (aX lo 7 0 d.1 (aX lo 6 0 d.1 (aX lo 5 0 d.1 (aX lo 3 0 d.1 (aX lo 2 0 d.1 (aX lo 1 0 d.1 p)))))))))) (fun i11 u=>bif Nat.beq i11 0 then some (Out.ret (A.v (.bool true)),St.H u) else none) (fun i11 u=>none) (fun ad=>some (Out.ret (lk ad 6),St.H ad)) (fun i11 u=>some (Out.pan i11,St.H u)) n (St.mk [(6,A.v (.bool false)),(7,d.1),(30,q),(31,t10),(32,A.v (.int .i64 0))] (aX lo 12 0 d.1 (aX lo 11 0 d.1 (aX lo 10 0 d.1 (aX lo 7 0 d.1 (aX lo 6 0 d.1 (aX lo 5 0 d.1 (aX lo 3 0 d.1 (aX lo 2 0 d.1 (aX lo 1 0 d.1 p))))))))))))):=by kernel_rfl
theorem e7:aB (cx C) call rg n 7 [] H lo =
 (C 25 [snap H (A.v (.int .i64 0)),snap H (A.v (.int .i64 0)),snap H (A.v (.int .i64 10))]).bind fun t0 =>
 (aI t0 0).bind fun t1 =>
 (aI t0 1).bind fun t2 =>
 (fI 26 H).bind fun r3 =>
 (cu 26 r3.1 (b9 r3.1 r3.2 t1) r3.2 lo).bind fun H4 =>
 (C 25 [snap H4 (A.v (.int .i64 2)),snap H4 (A.v (.int .i64 0)),snap H4 (A.v (.int .i64 5))]).bind fun t5 =>
 (aI t5 0).bind fun t6 =>
 (aI t5 1).bind fun t7 =>
 (fI 26 H4).bind fun r8 =>
 (cu 26 r8.1 (b9 r8.1 r8.2 t6) r8.2 lo).bind fun H9 =>
 (C 25 [snap H9 (A.v (.int .i64 0)),snap H9 (A.v (.int .i64 0)),snap H9 (A.v (.int .i64 0))]).bind fun t10 =>
 (aI t10 0).bind fun t11 =>
 (aI t10 1).bind fun t12 =>
 (fI 26 H9).bind fun cv =>
 (cu 26 cv.1 (b9 cv.1 cv.2 t11) cv.2 lo).bind fun cy =>
 (C 25 [snap cy (A.v (.int .i64 0)),snap cy (A.v (.int .i64 1)),snap cy (A.v (.int .i64 5))]).bind fun t15 =>
 (aI t15 0).bind fun t16 =>
 (aI t15 1).bind fun t17 =>
 (fI 26 cy).bind fun ao =>
 (cu 26 ao.1 (b9 ao.1 ao.2 t16) ao.2 lo).bind fun bm =>
 (ld 26 ao.1 bm).bind fun t20 =>
 (C 26 [snap bm t20,snap bm (A.v (.int .i64 0)),snap bm (A.v (.int .i64 9))]).bind fun t21 =>
 (aI t21 0).bind fun t22 =>
 (aI t21 1).bind fun t23 =>
 (fI 26 bm).bind fun dd =>
 (cu 26 dd.1 (b9 dd.1 dd.2 t22) dd.2 lo).bind fun bs =>
 (ld 26 r3.1 bs).bind fun t26 =>
 (C 24 [snap bs t26,snap bs (A.v (.int .i64 10)),snap bs (A.v (.int .i64 1))]).bind fun t27 =>
 (aI t27 0).bind fun t28 =>
 (aI t27 1).bind fun t29 =>
 (fI 26 bs).bind fun ea =>
 (cu 26 ea.1 (b9 ea.1 ea.2 t28) ea.2 lo).bind fun hg =>
 (C 11 [snap hg (A.v (.int .i64 0)),snap hg (A.imm [] true)]).bind fun t32 =>
 (aI t32 0).bind fun t33 =>
 (aI t32 1).bind fun t34 =>
 (fI 26 hg).bind fun eg =>
 (cu 26 eg.1 (b9 eg.1 eg.2 t33) eg.2 lo).bind fun hh =>
 (C 15 [snap hh (A.v (.int .i64 0)),snap hh (A.v (.int .i64 10))]).bind fun t37 =>
 (aI t37 0).bind fun t38 =>
 (aI t37 1).bind fun t39 =>
 (fI 44 hh).bind fun ad =>
 (cu 44 ad.1 (b9 ad.1 ad.2 t38) ad.2 lo).bind fun ej =>
 (ld 44 ad.1 ej).bind fun t42 =>
 (bE prog 49 []).bind fun t43 =>
 (C 17 [snap ej t42,snap ej t43]).bind fun t44 =>
 (aI t44 0).bind fun t45 =>
 (aI t44 1).bind fun t46 =>
 (fI 44 ej).bind fun en =>
 (cu 44 en.1 (b9 en.1 en.2 t45) en.2 lo).bind fun q =>
 (bin .neq 31 false true t2 (A.v (.int .i64 0))).bind fun t49 =>
 (ew t49 (some [A.v (.bool true),ud,ud]) ((bin .neq 31 false true t7 (A.v (.int .i64 1))).bind fun t50=>some [t50,t50,t7])).bind fun nf=>jk nf fun ni u52 ns=>jR ns fun u53 l53 =>
 (ew ni (some [A.v (.bool true),ud,ud]) ((bin .neq 31 false true t12 (A.v (.int .i64 1))).bind fun t54=>some [t54,t54,t12])).bind fun nt=>jk nt fun oc u56 oi=>jR oi fun u57 l57 =>
 (ew oc (some [A.v (.bool true),ud,ud]) ((bin .neq 31 false true t17 (A.v (.int .i64 0))).bind fun t58=>some [t58,t58,t17])).bind fun oj=>jk oj fun oo u60 oq=>jR oq fun u61 l61 =>
 (ew oo (some [A.v (.bool true),ud,ud]) ((bin .neq 31 false true t23 (A.v (.int .i64 530))).bind fun t62=>some [t62,t62,t23])).bind fun pc=>jk pc fun ps u64 qi=>jR qi fun u65 l65 =>
 (ew ps (some [A.v (.bool true),ud,ud]) ((bin .neq 31 false true t29 (A.v (.int .i64 530))).bind fun t66=>some [t66,t66,t29])).bind fun qv=>jk qv fun si u68 sk=>jR sk fun DG l69 =>
 (ew si (some [A.v (.bool true),ud,ud]) ((bin .neq 31 false true t34 (A.v (.int .i64 530))).bind fun t70=>some [t70,t70,t34])).bind fun so=>jk so fun tb u72 tk=>jR tk fun u73 l73 =>
 (ew tb (some [A.v (.bool true),ud,ud]) ((bin .neq 31 false true t39 (A.v (.int .i64 0))).bind fun t74=>some [t74,t74,t39])).bind fun tm=>jk tm fun ts u76 tw=>jR tw fun u77 l77 =>
 (ew ts (some [A.v (.bool true),ud,ud]) ((bin .neq 31 false true t46 (A.v (.int .i64 530))).bind fun t78=>some [t78,t78,t46])).bind fun vr=>jk vr fun vt u80 xc=>jR xc fun u81 l81 =>
 (ew vt (some [A.v (.bool true),ud,ud,ud]) ((ld 26 r3.1 q).bind fun t82 =>
 (C 20 [snap q t82]).bind fun t83 =>
 (bin .neq 31 false true t83 (A.v (.int .i64 0))).bind fun t84=>some [t84,t84,t83,t82])).bind fun xl=>kb xl fun xt u84 u85 u86 l86 =>
 (ew xt (some [A.v (.bool true),ud,ud,ud]) ((bE prog 26 []).bind fun t87 =>
 (C 20 [snap q t87]).bind fun t88 =>
 (bin .neq 31 false true t88 (A.v (.int .i64 530))).bind fun t89=>some [t89,t89,t88,t87])).bind fun ys=>kb ys fun zc u89 u90 u91 l91=>bD zc (some (Out.ret (A.v (.bool false)),q)) ((ld 44 ad.1 q).bind fun t92 =>
 (bE prog 49 [(0,A.v (.int .i64 3)),(2,A.v (.int .i64 3)),(3,A.v (.int .i64 2))]).bind fun t93 =>
 (bE prog 49 [(0,A.v (.int .i64 3)),(2,A.v (.int .i64 5)),(3,A.v (.int .i64 1))]).bind fun t94 =>
 (bE prog 49 [(0,A.v (.int .i64 1)),(2,A.v (.int .i64 1)),(3,A.v (.int .i64 20))]).bind fun t95 =>
 (bE prog 49 [(0,A.v (.int .i64 4))]).bind fun t96 =>
 (bE prog 49 [(0,A.v (.int .i64 5)),(2,A.v (.int .i64 1))]).bind fun t97 =>
 (bE prog 49 [(0,A.v (.int .i64 6)),(2,A.v (.int .i64 1))]).bind fun t98 =>
 (ba prog 39 6 [(0,dz q t93),(1,dz q t94),(2,dz q t95),(3,dz q t96),(4,dz q t97),(5,dz q t98)]).bind fun t99 =>
 (C 27 [snap q t92,snap q t99]).bind fun t100 =>
 (aI t100 0).bind fun t101 =>
 (aI t100 1).bind fun t102 =>
 (fI 44 q).bind fun y =>
 (cu 44 y.1 (b9 y.1 y.2 t101) y.2 lo).bind fun fs =>
 (ld 44 y.1 fs).bind fun t105 =>
 (bE prog 49 [(0,A.v (.int .i64 3)),(1,A.v (.int .i64 1)),(2,A.v (.int .i64 12)),(3,A.v (.int .i64 1))]).bind fun t106 =>
 (C 17 [snap fs t105,snap fs t106]).bind fun t107 =>
 (aI t107 0).bind fun t108 =>
 (aI t107 1).bind fun t109 =>
 (fI 44 fs).bind fun fv =>
 (cu 44 fv.1 (b9 fv.1 fv.2 t108) fv.2 lo).bind fun an =>
 (ld 44 y.1 an).bind fun t112 =>
 (bE prog 49 [(0,A.v (.int .i64 2)),(1,A.v (.int .i64 1))]).bind fun t113 =>
 (bE prog 49 [(0,A.v (.int .i64 3)),(1,A.v (.int .i64 1)),(2,A.v (.int .i64 12)),(3,A.v (.int .i64 4))]).bind fun t114 =>
 (ba prog 39 2 [(0,dz an t113),(1,dz an t114)]).bind fun t115 =>
 (C 27 [snap an t112,snap an t115]).bind fun t116 =>
 (aI t116 0).bind fun t117 =>
 (aI t116 1).bind fun t118 =>
 (fI 44 an).bind fun u =>
 (cu 44 u.1 (b9 u.1 u.2 t117) u.2 lo).bind fun ha =>
 (ld 44 u.1 ha).bind fun t121 =>
 (bE prog 49 [(0,A.v (.int .i64 6)),(1,A.v (.int .i64 1))]).bind fun t122 =>
 (C 17 [snap ha t121,snap ha t122]).bind fun t123 =>
 (aI t123 0).bind fun t124 =>
 (aI t123 1).bind fun t125 =>
 (fI 44 ha).bind fun hf =>
 (cu 44 hf.1 (b9 hf.1 hf.2 t124) hf.2 lo).bind fun ca =>
 (ld 44 u.1 ca).bind fun t128 =>
 (bE prog 49 [(0,A.v (.int .i64 7)),(1,A.v (.int .i64 1)),(2,A.v (.int .i64 2))]).bind fun t129 =>
 (ba prog 39 1 [(0,dz ca t129)]).bind fun t130 =>
 (C 27 [snap ca t128,snap ca t130]).bind fun t131 =>
 (aI t131 0).bind fun t132 =>
 (aI t131 1).bind fun t133 =>
 (fI 44 ca).bind fun cc =>
 (cu 44 cc.1 (b9 cc.1 cc.2 t132) cc.2 lo).bind fun d =>
 (jS prog UnOp.not t102).bind fun t136 =>
 (ew t136 (some [A.v (.bool true),ud,ud]) ((bin .neq 31 false true t109 (A.v (.int .i64 530))).bind fun t137=>some [t137,t137,t109])).bind fun zm=>jk zm fun zn u139 zz=>jR zz fun u140 l140 =>
 (ew zn (some [A.v (.bool true),ud,ud]) ((jS prog UnOp.not t118).bind fun t141=>some [t141,t141,t118])).bind fun l141=>jk l141 fun u142 u143 l143=>jR l143 fun u144 l144 =>
 (ew u142 (some [A.v (.bool true),ud,ud]) ((bin .neq 31 false true t125 (A.v (.int .i64 530))).bind fun t145=>some [t145,t145,t125])).bind fun l145=>jk l145 fun u146 u147 l147=>jR l147 fun u148 l148 =>
 (ew u146 (some [A.v (.bool true),ud,ud]) ((jS prog UnOp.not t133).bind fun t149=>some [t149,t149,t133])).bind fun l149=>jk l149 fun u150 u151 l151=>jR l151 fun u152 l152=>bD u150 (some (Out.ret (A.v (.bool false)),d)) ((bE prog 59 [(2,A.v (.int .i64 10))]).bind fun t153 =>
 (bE prog 59 [(0,A.v (.int .i64 1)),(1,A.v (.int .i64 1)),(2,A.v (.int .i64 20))]).bind fun t154 =>
 (ba prog 22 2 [(0,dz d t153),(1,dz d t154)]).bind fun t155 =>
 (bl 44 y.1 2 d).bind fun t156 =>
 (ld 22 t156 d).bind fun t157 =>
 (ef prog 22 t155 (some (A.v (.int .i64 1))) none none d).bind fun t158 =>
 (C 19 [snap d t157,snap d t158]).bind fun t159 =>
 (jS prog UnOp.not t159).bind fun t160 =>
 (ew t160 (some [A.v (.bool true),ud,ud,ud,ud,ud,ud,ud]) ((bl 44 y.1 3 d).bind fun t161 =>
 (ax prog 42 t161 (A.v (.int .i64 0)) d).bind fun t162 =>
 (ld 23 t162 d).bind fun t163 =>
 (bE prog 62 [(0,A.v (.int .i64 5)),(1,A.v (.int .i64 1))]).bind fun t164 =>
 (ba prog 23 1 [(0,dz d t164)]).bind fun t165 =>
 (C 21 [snap d t163,snap d t165]).bind fun t166 =>
 (jS prog UnOp.not t166).bind fun t167=>some [t167,t167,t166,t165,t164,t163,t162,t161])).bind fun l161=>vP l161 fun hj u163 u164 u165 u166 u167 u168 u169 l169 =>
 (ky hj false ((bl 44 u.1 0 d).bind fun hk =>
 (ax prog 40 hk (A.v (.int .i64 1)) d).bind fun ho =>
 (ld 26 ho d).bind fun t172 =>
 (bE prog 62 [(0,A.v (.int .i64 12)),(1,A.v (.int .i64 4))]).bind fun hp =>
 (ba prog 23 1 [(0,dz d hp)]).bind fun hq =>
 (ba prog 24 3 [(0,dz d (A.v (.bool true))),(1,dz d (A.v (.bool true))),(2,dz d (A.v (.bool false)))]).bind fun hr =>
 (bE prog 26 [(0,A.v (.int .i64 1)),(1,t155),(2,hq),(3,hr)]).bind fun t176=>some [t176,hr,hq,hp,t155,t172,ho,hk]) (some [ud,ud,ud,ud,ud,ud,ud,ud])).bind fun l170=>vP l170 fun u171 u172 u173 u174 u175 u176 u177 u178 l178 =>
 (ew hj (some [A.v (.bool true),ud,ud]) ((C 14 [snap d u176,snap d u171]).bind fun hs =>
 (jS prog UnOp.not hs).bind fun ht=>some [ht,ht,hs])).bind fun l179=>jk l179 fun u180 u181 l181=>jR l181 fun u182 l182=>bD u180 (some (Out.ret (A.v (.bool false)),d)) ((bl 44 u.1 0 d).bind fun t183 =>
 (ax prog 40 t183 (A.v (.int .i64 1)) d).bind fun t184 =>
 (ld 26 t184 d).bind fun t185 =>
 (C 9 [snap d t185]).bind fun hv =>
 (aI hv 0).bind fun hi =>
 (aI hv 1).bind fun t188 =>
 (C 11 [snap d (A.v (.int .i64 1)),snap d hi]).bind fun hx =>
 (aI hx 0).bind fun t190 =>
 (aI hx 1).bind fun hy =>
 (fI 26 d).bind fun ch =>
 (cu 26 ch.1 (b9 ch.1 ch.2 t190) ch.2 lo).bind fun p =>
 (bin .eql 31 false true t188 (A.v (.int .i64 0))).bind fun t194 =>
 (ew t194 ((bin .eql 31 false true hy (A.v (.int .i64 0))).bind fun ie=>some [ie,ie,hy]) (some [A.v (.bool false),ud,ud])).bind fun l195=>jk l195 fun u196 u197 l197=>jR l197 fun u198 l198 =>
 (ew u196 ((bM prog 27 hi p).bind fun ih =>
 (bin .eql 3 false true ih (A.v (.int .i64 3))).bind fun ik=>some [ik,ik,ih,hi]) (some [A.v (.bool false),ud,ud,ud])).bind fun l199=>kb l199 fun u200 u201 u202 u203 l203 =>
 (ew u200 ((ld 26 ch.1 p).bind fun js =>
 (bl 44 u.1 0 p).bind fun kc =>
 (ax prog 40 kc (A.v (.int .i64 1)) p).bind fun kk =>
 (ld 26 kk p).bind fun kn =>
 (C 14 [snap p js,snap p kn]).bind fun ko=>some [ko,ko,kn,kk,kc,js]) (some [A.v (.bool false),ud,ud,ud,ud,ud])).bind fun l204=>kb l204 fun u205 u206 u207 u208 l208=>jk l208 fun u209 u210 l210 =>
 (ew u205 ((bl 44 cc.1 0 p).bind fun kt =>
 (ax prog 40 kt (A.v (.int .i64 1)) p).bind fun lx =>
 (ld 26 lx p).bind fun ly =>
 (ba prog 24 2 [(0,dz p (A.v (.bool true))),(1,dz p (A.v (.bool true)))]).bind fun mn =>
 (bE prog 26 [(0,A.v (.int .i64 1)),(1,t155),(3,mn)]).bind fun mx =>
 (C 14 [snap p ly,snap p mx]).bind fun nb=>some [nb,nb,mx,mn,t155,ly,lx,kt]) (some [A.v (.bool false),ud,ud,ud,ud,ud,ud,ud])).bind fun l211=>vP l211 fun u212 u213 u214 u215 u216 u217 u218 u219 l219=>some (Out.ret u212,p)))):=by kernel_rfl
theorem e9 (x0:A):aB (cx C) call rg n 9 [x0] H lo =
 (dq x0 H).bind fun y =>
 (fI 27 y.2).bind fun d =>
 (ld 26 y.1 d.2).bind fun t2 =>
 (C 20 [snap d.2 t2]).bind fun t3 =>
 (bin .neq 31 false true t3 (A.v (.int .i64 0))).bind fun t4=>bD t4 ((cu 27 d.1 (b9 d.1 d.2 (A.imm [] true)) d.2 lo).bind fun H5 =>
 (ld 27 d.1 H5).bind fun t6=>some (Out.ret (A.tup [t6,t3]),H5)) ((ld 26 y.1 d.2).bind fun t5 =>
 (call 28 [t5] d.2 lo).bind fun q=>bJ q.1 (fun a7 =>
 (AW prog a7).bind fun r8=>bif Nat.ble lo (List.length (aX lo 0 2 d.1 q.2)) then
 (rg (nM 124 call (List.length (aX lo 0 2 d.1 q.2)) (gK (cx C) call rg n 9 lo 0 (List.length (aX lo 0 2 d.1 q.2)) [(2,d.1)])) r8.1 (A.yld (List.length (aX lo 0 2 d.1 q.2)) :: r8.2) (aX lo 0 2 d.1 q.2++[aD.rng cp.ready]) lo).bind fun H9=>bJ H9.1 (fun bs=>mg (List.length (aX lo 0 2 d.1 q.2)) H9.2 (fun p =>
 (ld 27 d.1 p).bind fun t12 =>
 (cu 27 d.1 (b9 d.1 p t12) p lo).bind fun u =>
 (ld 27 d.1 u).bind fun t14=>some (Out.ret (A.tup [t14,A.v (.int .i64 0)]),u)) (fun i11 p=>bif Nat.beq i11 0 then
 (ld 27 d.1 p).bind fun t12 =>
 (cu 27 d.1 (b9 d.1 p t12) p lo).bind fun u =>
 (ld 27 d.1 u).bind fun t14=>some (Out.ret (A.tup [t14,A.v (.int .i64 0)]),u) else none) (fun i11 p=>none) fun p =>
 (ld 27 d.1 p).bind fun t12=>some (Out.ret (A.tup [t12,t3]),p)) fun bs=>none else none) fun a7=>some (Out.pan a7,q.2)):=by kernel_rfl
theorem Oc (x0 u:A):aB (cx C) call rg n 11 [x0,u] H lo =
 (fI 26 H).bind fun p =>
 (bl 26 p.1 0 p.2).bind fun t1 =>
 (cu 3 t1 (b9 t1 p.2 x0) p.2 lo).bind fun y =>
 (bM prog 27 u y).bind fun t3=>aK (cx C) call rg n 11 lo 0 (List.length (aX lo 3 0 p.1 (aX lo 2 0 p.1 (aX lo 1 0 p.1 y)))) (fun i4 d=>bif Nat.beq i4 0 then
 (ld 26 (lk d 4) (St.H d)).bind fun t5 =>
 (C 20 [snap (St.H d) t5]).bind fun t6 =>
 (bin .neq 31 false true t6 (A.v (.int .i64 0))).bind fun t7=>bD t7 ((bE prog 26 []).bind fun t8 =>
 (cu 26 (lk d 4) (b9 (lk d 4) (St.H d) t8) (St.H d) lo).bind fun q =>
 (ld 26 (lk d 4) q).bind fun t10=>some (Out.ret (A.tup [t10,t6]),q)) ((ld 26 (lk d 4) (St.H d)).bind fun t8 =>
 (cu 26 (lk d 4) (b9 (lk d 4) (St.H d) t8) (St.H d) lo).bind fun q =>
 (ld 26 (lk d 4) q).bind fun t10=>some (Out.ret (A.tup [t10,A.v (.int .i64 0)]),q)) else none) (fun i4 d=>none) (fun a4 =>
 (ld 26 (lk a4 4) (St.H a4)).bind fun t5=>some (Out.ret (A.tup [t5,lk a4 5]),St.H a4)) (fun i4 d=>some (Out.pan i4,St.H d)) n (St.mk [(4,p.1),(5,A.v (.int .i64 0)),(12,u),(13,t3),(14,A.v (.int .i64 0))] (aX lo 3 0 p.1 (aX lo 2 0 p.1 (aX lo 1 0 p.1 y)))):=by kernel_rfl
theorem Od (u y:A):aB (cx C) call rg n 14 [u,y] H lo =
 (dq u H).bind fun p =>
 (dq y p.2).bind fun d =>
 (bl 26 p.1 0 d.2).bind fun t2 =>
 (ld 3 t2 d.2).bind fun t3 =>
 (bl 26 d.1 0 d.2).bind fun t4 =>
 (ld 3 t4 d.2).bind fun t5 =>
 (bin .neq 3 false false t3 t5).bind fun t6 =>
 (ew t6 (some [A.v (.bool true),ud,ud,ud,ud,ud,ud]) ((bl 26 p.1 1 d.2).bind fun t7 =>
 (ld 22 t7 d.2).bind fun t8 =>
 (bl 26 d.1 1 d.2).bind fun t9 =>
 (ld 22 t9 d.2).bind fun t10 =>
 (C 19 [snap d.2 t8,snap d.2 t10]).bind fun t11 =>
 (jS prog UnOp.not t11).bind fun t12=>some [t12,t12,t11,t10,t9,t8,t7])).bind fun l7=>kb l7 fun u8 u9 cm cn an=>jk an fun cv cy ao=>jR ao fun dd ea =>
 (ew u8 (some [A.v (.bool true),ud,ud,ud,ud,ud,ud]) ((bl 26 p.1 2 d.2).bind fun t15 =>
 (ld 23 t15 d.2).bind fun t16 =>
 (bl 26 d.1 2 d.2).bind fun t17 =>
 (ld 23 t17 d.2).bind fun t18 =>
 (C 21 [snap d.2 t16,snap d.2 t18]).bind fun t19 =>
 (jS prog UnOp.not t19).bind fun t20=>some [t20,t20,t19,t18,t17,t16,t15])).bind fun bm=>kb bm fun u16 eg ej en bs=>jk bs fun fs fv ca=>jR ca fun ha hf =>
 (ew u16 (some [A.v (.bool true),ud,ud,ud,ud,ud,ud,ud]) ((bl 26 p.1 3 d.2).bind fun t23 =>
 (ld 24 t23 d.2).bind fun t24 =>
 (bM prog 24 t24 d.2).bind fun t25 =>
 (bl 26 d.1 3 d.2).bind fun t26 =>
 (ld 24 t26 d.2).bind fun t27 =>
 (bM prog 24 t27 d.2).bind fun t28 =>
 (bin .neq 3 false false t25 t28).bind fun t29=>some [t29,t29,t28,t27,t26,t25,t24,t23])).bind fun cc=>vP cc fun ch hg hh hi hj hk ho hp hq=>bD ch (some (Out.ret (A.v (.bool false)),d.2)) (aK (cx C) call rg n 14 lo 0 (List.length d.2) (fun i32 q=>bif Nat.beq i32 0 then some (Out.ret (A.v (.bool true)),St.H q) else none) (fun i32 q=>none) (fun ab=>some (Out.ret (lk ab 4),St.H ab)) (fun i32 q=>some (Out.pan i32,St.H q)) n (St.mk [(2,p.1),(3,d.1),(4,A.v (.bool false)),(5,A.v (.int .i64 0))] d.2)):=by kernel_rfl
theorem Oe (p q:A):aB (cx C) call rg n 15 [p,q] H lo =
 (fI 44 H).bind fun d=>aK (cx C) call rg n 15 lo 0 (List.length (aX lo 7 0 d.1 (aX lo 6 0 d.1 (aX lo 5 0 d.1 (aX lo 3 0 d.1 (aX lo 2 0 d.1 (aX lo 1 0 d.1 d.2))))))) (fun i1 s1=>bif Nat.beq i1 0 then
 (ld 44 (lk s1 4) (St.H s1)).bind fun t2 =>
 (cu 44 (lk s1 4) (b9 (lk s1 4) (St.H s1) t2) (St.H s1) lo).bind fun u =>
 (ld 44 (lk s1 4) u).bind fun t4=>some (Out.ret (A.tup [t4,A.v (.int .i64 0)]),u) else none) (fun i1 s1=>none) (fun a1 =>
 (ld 44 (lk a1 4) (St.H a1)).bind fun t2=>some (Out.ret (A.tup [t2,lk a1 5]),St.H a1)) (fun i1 s1=>some (Out.pan i1,St.H s1)) n (St.mk [(0,p),(1,q),(4,d.1),(5,A.v (.int .i64 0)),(7,A.v (.int .i64 0))] (aX lo 7 0 d.1 (aX lo 6 0 d.1 (aX lo 5 0 d.1 (aX lo 3 0 d.1 (aX lo 2 0 d.1 (aX lo 1 0 d.1 d.2))))))):=by kernel_rfl
theorem Og (p q:A):aB (cx C) call rg n 16 [p,q] H lo =
 (dq p H).bind fun u =>
 (dq q u.2).bind fun d=>aK (cx C) call rg n 16 lo 0 (List.length d.2) (fun i2 s2=>bif Nat.beq i2 0 then
 (bl 44 (lk s2 2) 2 (St.H s2)).bind fun t3 =>
 (ld 22 t3 (St.H s2)).bind fun t4 =>
 (bl 44 (lk s2 3) 2 (St.H s2)).bind fun t5 =>
 (ld 22 t5 (St.H s2)).bind fun t6 =>
 (C 19 [snap (St.H s2) t4,snap (St.H s2) t6]).bind fun t7=>some (Out.ret t7,St.H s2) else none) (fun i2 s2=>none) (fun a2=>some (Out.ret (lk a2 4),St.H a2)) (fun i2 s2=>some (Out.pan i2,St.H s2)) n (St.mk [(2,u.1),(3,d.1),(4,A.v (.bool false)),(5,A.v (.int .i64 0))] d.2):=by kernel_rfl
theorem Oh (x0 x1:A):aB (cx C) call rg n 17 [x0,x1] H lo =
 (dq x0 H).bind fun r0 =>
 (dq x1 r0.2).bind fun r1 =>
 (fI 44 r1.2).bind fun p =>
 (fI 31 p.2).bind fun d =>
 (ld 44 r0.1 d.2).bind fun t4 =>
 (bl 49 r1.1 1 d.2).bind fun t5 =>
 (ld 3 t5 d.2).bind fun t6 =>
 (bE prog 83 [(0,t4),(1,t6)]).bind fun t7 =>
 (dq t7 d.2).bind fun r8 =>
 (call 38 [r8.1] r8.2 lo).bind fun H9=>bJ H9.1 (fun fv =>
 (oK prog 87 H9.2).bind fun u =>
 (gF prog 87 u.1 (A.v (.int .i64 1)) (A.fn (Fn.func 39) [] []) u.2 lo).bind fun hh =>
 (gF prog 87 u.1 (A.v (.int .i64 2)) (A.fn (Fn.func 40) [] []) hh lo).bind fun hi =>
 (gF prog 87 u.1 (A.v (.int .i64 3)) (A.fn (Fn.func 41) [] []) hi lo).bind fun hj =>
 (gF prog 87 u.1 (A.v (.int .i64 4)) (A.fn (Fn.func 42) [] []) hj lo).bind fun ch =>
 (gF prog 87 u.1 (A.v (.int .i64 5)) (A.fn (Fn.func 43) [] []) ch lo).bind fun ca =>
 (gF prog 87 u.1 (A.v (.int .i64 6)) (A.fn (Fn.func 44) [] []) ca lo).bind fun hk =>
 (gF prog 87 u.1 (A.v (.int .i64 7)) (A.fn (Fn.func 45) [] []) hk lo).bind fun y =>
 (bl 49 r1.1 0 y).bind fun t19 =>
 (ld 3 t19 y).bind fun t20 =>
 (fY prog 87 u.1 t20 true y).bind fun t21 =>
 (aI t21 0).bind fun t22 =>
 (aI t21 1).bind fun t23 =>
 (ew t23 ((bl 49 r1.1 1 y).bind fun t24 =>
 (ld 3 t24 y).bind fun t25 =>
 (C 47 [snap y t25,snap y (A.v (.int .i64 0)),snap y (A.v (.int .i64 1))]).bind fun t26=>some [t26,t26,t25,t24]) (some [A.v (.bool false),ud,ud,ud])).bind fun ho=>kb ho fun hp hq hr hs ht =>
 (call 46 [hp,A.v (.int .i64 530)] y lo).bind fun ck=>bJ ck.1 (fun ha =>
 (ld 49 r1.1 ck.2).bind fun t31=>dA (cx C) call t22 [r8.1,t31] ck.2 lo (fun i32 ab =>
 (dF r8.1 ab).bind fun t33 =>
 (bl 83 t33 0 ab).bind fun t34 =>
 (ld 44 t34 ab).bind fun t35 =>
 (cu 44 p.1 (b9 p.1 ab t35) ab lo).bind fun ad =>
 (cu 31 d.1 (b9 d.1 ad (A.v (.int .i64 0))) ad lo).bind fun cm =>
 (call 37 [A.v Value.nilIface] cm lo).bind fun q=>bJ q.1 (fun cv =>
 (bin .neq 31 false true cv (A.v (.int .i64 0))).bind fun t40=>bD t40 ((bE prog 44 []).bind fun t41 =>
 (cu 44 p.1 (b9 p.1 q.2 t41) q.2 lo).bind fun hf =>
 (cu 31 d.1 (b9 d.1 hf cv) hf lo).bind fun cy =>
 (ld 44 p.1 cy).bind fun t44 =>
 (ld 31 d.1 cy).bind fun t45=>some (Out.ret (A.tup [t44,t45]),cy)) ((ld 44 p.1 q.2).bind fun t41 =>
 (ld 31 d.1 q.2).bind fun t42=>some (Out.ret (A.tup [t41,t42]),q.2))) fun cv=>none) fun i32 ab =>
 (call 37 [i32] ab lo).bind fun an=>bJ an.1 (fun dd =>
 (bin .neq 31 false true dd (A.v (.int .i64 0))).bind fun t35=>bD t35 ((bE prog 44 []).bind fun t36 =>
 (cu 44 p.1 (b9 p.1 an.2 t36) an.2 lo).bind fun cm =>
 (cu 31 d.1 (b9 d.1 cm dd) cm lo).bind fun q =>
 (ld 44 p.1 q).bind fun t39 =>
 (ld 31 d.1 q).bind fun t40=>some (Out.ret (A.tup [t39,t40]),q)) ((ld 44 p.1 an.2).bind fun t36 =>
 (ld 31 d.1 an.2).bind fun t37=>some (Out.ret (A.tup [t36,t37]),an.2))) fun dd=>none) fun ha =>
 (call 37 [ha] ck.2 lo).bind fun ao=>bJ ao.1 (fun ea =>
 (bin .neq 31 false true ea (A.v (.int .i64 0))).bind fun t33=>bD t33 ((bE prog 44 []).bind fun t34 =>
 (cu 44 p.1 (b9 p.1 ao.2 t34) ao.2 lo).bind fun hg =>
 (cu 31 d.1 (b9 d.1 hg ea) hg lo).bind fun ad =>
 (ld 44 p.1 ad).bind fun t37 =>
 (ld 31 d.1 ad).bind fun t38=>some (Out.ret (A.tup [t37,t38]),ad)) ((ld 44 p.1 ao.2).bind fun t34 =>
 (ld 31 d.1 ao.2).bind fun t35=>some (Out.ret (A.tup [t34,t35]),ao.2))) fun ea=>none) fun fv =>
 (call 37 [fv] H9.2 lo).bind fun bm=>bJ bm.1 (fun eg =>
 (bin .neq 31 false true eg (A.v (.int .i64 0))).bind fun t13=>bD t13 ((bE prog 44 []).bind fun t14 =>
 (cu 44 p.1 (b9 p.1 bm.2 t14) bm.2 lo).bind fun ch =>
 (cu 31 d.1 (b9 d.1 ch eg) ch lo).bind fun ca =>
 (ld 44 p.1 ca).bind fun t17 =>
 (ld 31 d.1 ca).bind fun t18=>some (Out.ret (A.tup [t17,t18]),ca)) ((ld 44 p.1 bm.2).bind fun t14 =>
 (ld 31 d.1 bm.2).bind fun t15=>some (Out.ret (A.tup [t14,t15]),bm.2))) fun eg=>none:=by kernel_rfl
theorem Oi (x0:A):aB (cx C) call rg n 18 [x0] H lo =
 (dq x0 H).bind fun r0 =>
 (fI 26 r0.2).bind fun u =>
 (fI 26 u.2).bind fun p =>
 (bl 44 r0.1 0 p.2).bind fun t3 =>
 (ax prog 40 t3 (A.v (.int .i64 0)) p.2).bind fun t4 =>
 (ld 26 t4 p.2).bind fun t5 =>
 (bl 44 r0.1 0 p.2).bind fun t6 =>
 (ax prog 40 t6 (A.v (.int .i64 1)) p.2).bind fun t7 =>
 (ld 26 t7 p.2).bind fun t8=>bif bif apart t7 u.1 then bif apart t6 u.1 then bif apart r0.1 u.1 then true else false else false else false then
 (cu 26 u.1 (b9 u.1 p.2 t5) p.2 lo).bind fun H9 =>
 (cu 26 p.1 (b9 p.1 H9 t8) H9 lo).bind fun d =>
 (bl 26 u.1 1 d).bind fun t11 =>
 (ld 22 t11 d).bind fun t12 =>
 (bl 26 p.1 1 d).bind fun t13 =>
 (ld 22 t13 d).bind fun t14 =>
 (C 22 [snap d t12,snap d t14]).bind fun t15 =>
 (jS prog UnOp.not t15).bind fun t16 =>
 (ew t16 ((bl 26 p.1 1 d).bind fun t17 =>
 (ld 22 t17 d).bind fun t18 =>
 (bl 26 u.1 1 d).bind fun t19 =>
 (ld 22 t19 d).bind fun t20 =>
 (C 22 [snap d t18,snap d t20]).bind fun t21 =>
 (jS prog UnOp.not t21).bind fun t22=>some [t22,t22,t21,t20,t19,t18,t17]) (some [A.v (.bool false),ud,ud,ud,ud,ud,ud])).bind fun cc=>kb cc fun ch cn cv cy ck=>jk ck fun dd ea cm=>jR cm fun eg ej=>bD ch (some (Out.ret (A.v (.bool false)),d)) ((bl 26 u.1 2 d).bind fun t25 =>
 (ld 23 t25 d).bind fun t26 =>
 (bM prog 23 t26 d).bind fun t27=>aK (cx C) call rg n 18 lo 0 (List.length d) (fun i28 q=>bif Nat.beq i28 0 then
 (bl 44 (lk q 1) 2 (St.H q)).bind fun t29 =>
 (ld 22 t29 (St.H q)).bind fun t30 =>
 (bM prog 22 t30 (St.H q)).bind fun t31=>aK (cx C) call rg n 18 lo 2 (List.length (St.H q)) (fun i32 y=>bif Nat.beq i32 4 then aK (cx C) call rg n 18 lo 3 (List.length (St.H y)) (fun i33 ad=>bif Nat.beq i33 6 then some (Out.ret (A.v (.bool true)),St.H ad) else none) (fun i33 ad=>none) (fun bm=>some (Out.ret (lk bm 2),St.H bm)) (fun i33 ad=>some (Out.pan i33,St.H ad)) n (St.mk [(1,lk y 1),(2,lk y 2),(78,A.v (.int .i64 0))] (St.H y)) else none) (fun i32 y=>none) (fun bs=>some (Out.ret (lk bs 2),St.H bs)) (fun i32 y=>some (Out.pan i32,St.H y)) n (St.mk [(1,lk q 1),(2,lk q 2),(3,lk q 3),(4,lk q 4),(59,t30),(60,t31),(61,A.v (.int .i64 0))] (St.H q)) else none) (fun i28 q=>none) (fun ca=>some (Out.ret (lk ca 2),St.H ca)) (fun i28 q=>some (Out.pan i28,St.H q)) n (St.mk [(1,r0.1),(2,A.v (.bool false)),(3,u.1),(4,p.1),(38,t26),(39,t27),(40,A.v (.int .i64 0))] d)) else none:=by kernel_rfl
theorem Oj (p q:A):aB (cx C) call rg n 19 [p,q] H lo =
 (bM prog 22 p H).bind fun t0 =>
 (bM prog 22 q H).bind fun t1 =>
 (bin .neq 3 false false t0 t1).bind fun t2=>bD t2 (some (Out.ret (A.v (.bool false)),H)) (aK (cx C) call rg n 19 lo 0 (List.length H) (fun i3 d=>bif Nat.beq i3 0 then some (Out.ret (A.v (.bool true)),St.H d) else none) (fun i3 d=>none) (fun a3=>some (Out.ret (lk a3 4),St.H a3)) (fun i3 d=>some (Out.pan i3,St.H d)) n (St.mk [(0,p),(1,q),(4,A.v (.bool false)),(5,A.v (.int .i64 0))] H)):=by kernel_rfl
theorem Gp (x0:A):aB (cx C) call rg n 20 [x0] H lo =
 (dq x0 H).bind fun u =>
 (fI 31 u.2).bind fun d =>
 (bl 26 u.1 0 d.2).bind fun t2 =>
 (ld 3 t2 d.2).bind fun t3 =>
 (C 47 [snap d.2 t3,snap d.2 (A.v (.int .i64 0)),snap d.2 (A.v (.int .i64 1))]).bind fun t4 =>
 (jS prog UnOp.not t4).bind fun t5 =>
 (ew t5 (some [A.v (.bool true),ud,ud,ud,ud]) ((bl 26 u.1 3 d.2).bind fun t6 =>
 (ld 24 t6 d.2).bind fun t7 =>
 (bM prog 24 t7 d.2).bind fun t8 =>
 (bin .eql 3 false true t8 (A.v (.int .i64 0))).bind fun t9=>some [t9,t9,t8,t7,t6])).bind fun l6=>kb l6 fun u7 u8 u9 hp dd=>jR dd fun hq hr =>
 (ew u7 (some [A.v (.bool true),ud,ud,ud,ud,ud,ud,ud,ud,ud,ud,ud]) ((bl 26 u.1 3 d.2).bind fun t12 =>
 (ld 24 t12 d.2).bind fun t13 =>
 (bM prog 24 t13 d.2).bind fun t14 =>
 (bl 26 u.1 1 d.2).bind fun t15 =>
 (ld 22 t15 d.2).bind fun t16 =>
 (bM prog 22 t16 d.2).bind fun t17 =>
 (bl 26 u.1 2 d.2).bind fun t18 =>
 (ld 23 t18 d.2).bind fun t19 =>
 (bM prog 23 t19 d.2).bind fun t20 =>
 (bin .add 3 false false t17 t20).bind fun t21 =>
 (bin .neq 3 false false t14 t21).bind fun t22=>some [t22,t22,t21,t20,t19,t18,t17,t16,t15,t14,t13,t12])).bind fun ea=>vP ea fun eg hs ht u16 hv hx hy ie ej=>kb ej fun ih ik js kc kk =>
 (ew eg (some [A.v (.bool true),ud,ud,ud,ud]) ((bl 26 u.1 1 d.2).bind fun t25 =>
 (ld 22 t25 d.2).bind fun t26 =>
 (bM prog 22 t26 d.2).bind fun t27 =>
 (bin .gtr 3 false true t27 (A.v (.int .i64 256))).bind fun t28=>some [t28,t28,t27,t26,t25])).bind fun en=>kb en fun fs kn ko kt fv=>jR fv fun lx ly=>bD fs ((cu 31 d.1 (b9 d.1 d.2 (A.v (.int .i64 530))) d.2 lo).bind fun cc =>
 (ld 31 d.1 cc).bind fun t32=>some (Out.ret t32,cc)) ((bl 26 u.1 0 d.2).bind fun t31 =>
 (ld 3 t31 d.2).bind fun t32 =>
 (bE prog 26 [(0,t32)]).bind fun t33 =>
 (fI 26 d.2).bind fun q =>
 (fI 3 q.2).bind fun ad =>
 (cu 26 q.1 (b9 q.1 ad.2 t33) ad.2 lo).bind fun ch =>
 (cu 3 ad.1 (b9 ad.1 ch (A.v (.int .i64 0))) ch lo).bind fun ck =>
 (ld 26 u.1 ck).bind fun t38 =>
 (call 28 [t38] ck lo).bind fun ab=>bJ ab.1 (fun an =>
 (AW prog an).bind fun cm=>bif Nat.ble lo (List.length (aX lo 3 0 q.1 (aX lo 2 0 q.1 (aX lo 1 0 q.1 ab.2)))) then
 (rg (nM 124 call (List.length (aX lo 3 0 q.1 (aX lo 2 0 q.1 (aX lo 1 0 q.1 ab.2)))) (gK (cx C) call rg n 20 lo 0 (List.length (aX lo 3 0 q.1 (aX lo 2 0 q.1 (aX lo 1 0 q.1 ab.2)))) [(2,d.1),(3,q.1),(4,ad.1)])) cm.1 (A.yld (List.length (aX lo 3 0 q.1 (aX lo 2 0 q.1 (aX lo 1 0 q.1 ab.2)))) :: cm.2) (aX lo 3 0 q.1 (aX lo 2 0 q.1 (aX lo 1 0 q.1 ab.2))++[aD.rng cp.ready]) lo).bind fun cn=>bJ cn.1 (fun ha=>mg (List.length (aX lo 3 0 q.1 (aX lo 2 0 q.1 (aX lo 1 0 q.1 ab.2)))) cn.2 (fun p =>
 (ld 3 ad.1 p).bind fun t45 =>
 (bl 26 u.1 3 p).bind fun t46 =>
 (ld 24 t46 p).bind fun t47 =>
 (bM prog 24 t47 p).bind fun t48 =>
 (bin .neq 3 false false t45 t48).bind fun t49 =>
 (ew t49 (some [A.v (.bool true),ud,ud,ud,ud,ud]) ((bl 26 u.1 3 p).bind fun t50 =>
 (ld 24 t50 p).bind fun t51 =>
 (ax prog 24 t51 (A.v (.int .i64 0)) p).bind fun t52 =>
 (ld 4 t52 p).bind fun t53 =>
 (jS prog UnOp.not t53).bind fun t54=>some [t54,t54,t53,t52,t51,t50])).bind fun ao=>kb ao fun bm hf hg hh bs=>jk bs fun hi hj hk=>bD bm ((cu 31 d.1 (b9 d.1 p (A.v (.int .i64 530))) p lo).bind fun y =>
 (ld 31 d.1 y).bind fun t58=>some (Out.ret t58,y)) ((cu 31 d.1 (b9 d.1 p (A.v (.int .i64 0))) p lo).bind fun y =>
 (ld 31 d.1 y).bind fun t58=>some (Out.ret t58,y))) (fun i44 p=>bif Nat.beq i44 0 then
 (ld 3 ad.1 p).bind fun t45 =>
 (bl 26 u.1 3 p).bind fun t46 =>
 (ld 24 t46 p).bind fun t47 =>
 (bM prog 24 t47 p).bind fun t48 =>
 (bin .neq 3 false false t45 t48).bind fun t49 =>
 (ew t49 (some [A.v (.bool true),ud,ud,ud,ud,ud]) ((bl 26 u.1 3 p).bind fun t50 =>
 (ld 24 t50 p).bind fun t51 =>
 (ax prog 24 t51 (A.v (.int .i64 0)) p).bind fun t52 =>
 (ld 4 t52 p).bind fun t53 =>
 (jS prog UnOp.not t53).bind fun t54=>some [t54,t54,t53,t52,t51,t50])).bind fun ao=>kb ao fun bm hf hg hh bs=>jk bs fun hi hj hk=>bD bm ((cu 31 d.1 (b9 d.1 p (A.v (.int .i64 530))) p lo).bind fun y =>
 (ld 31 d.1 y).bind fun t58=>some (Out.ret t58,y)) ((cu 31 d.1 (b9 d.1 p (A.v (.int .i64 0))) p lo).bind fun y =>
 (ld 31 d.1 y).bind fun t58=>some (Out.ret t58,y)) else none) (fun i44 p=>none) fun p =>
 (ld 31 d.1 p).bind fun t45=>some (Out.ret t45,p)) fun ha=>none else none) fun an=>some (Out.pan an,ab.2)):=by kernel_rfl
theorem Ok (p q:A):aB (cx C) call rg n 21 [p,q] H lo =
 (bM prog 23 p H).bind fun t0 =>
 (bM prog 23 q H).bind fun t1 =>
 (bin .neq 3 false false t0 t1).bind fun t2=>bD t2 (some (Out.ret (A.v (.bool false)),H)) (aK (cx C) call rg n 21 lo 0 (List.length H) (fun i3 d=>bif Nat.beq i3 0 then some (Out.ret (A.v (.bool true)),St.H d) else none) (fun i3 d=>none) (fun a3=>some (Out.ret (lk a3 4),St.H a3)) (fun i3 d=>some (Out.pan i3,St.H d)) n (St.mk [(0,p),(1,q),(4,A.v (.bool false)),(5,A.v (.int .i64 0))] H)):=by kernel_rfl
theorem Ol (d p:A):aB (cx C) call rg n 22 [d,p] H lo =
 (bM prog 22 d H).bind fun t0 =>
 (bM prog 22 p H).bind fun t1 =>
 (bin .leq 3 false false t0 t1).bind fun t2 =>
 (ew t2 ((bM prog 22 d H).bind fun t3 =>
 (ef prog 22 p none (some t3) none H).bind fun t4 =>
 (C 19 [snap H d,snap H t4]).bind fun t5=>some [t5,t5,t4,t3,d,p,d]) (some [A.v (.bool false),ud,ud,ud,ud,ud,ud])).bind fun q=>kb q fun u4 u5 u6 u7 u=>jk u fun u8 u9 y=>jR y fun bm bs=>some (Out.ret u4,H):=by kernel_rfl
theorem Om (x0 x1 x2:A):aB (cx C) call rg n 24 [x0,x1,x2] H lo =
 (dq x0 H).bind fun r0 =>
 (fI 26 r0.2).bind fun p =>
 (fI 31 p.2).bind fun u =>
 (bE prog 62 [(0,x1),(1,x2)]).bind fun t3 =>
 (fI 62 u.2).bind fun r4 =>
 (cu 62 r4.1 (b9 r4.1 r4.2 t3) r4.2 lo).bind fun y =>
 (ld 26 r0.1 y).bind fun t6 =>
 (C 20 [snap y t6]).bind fun t7 =>
 (bin .eql 31 false true t7 (A.v (.int .i64 0))).bind fun t8 =>
 (ew t8 ((ld 26 r0.1 y).bind fun t9 =>
 (ld 62 r4.1 y).bind fun t10 =>
 (C 51 [snap y t9,snap y t10]).bind fun t11=>some [t11,t11,t10,t9]) (some [A.v (.bool false),ud,ud,ud])).bind fun l9=>kb l9 fun cm cy dd ea eg =>
 (call 46 [cm,A.v (.int .i64 530)] y lo).bind fun d=>bJ d.1 (fun cc =>
 (ld 26 r0.1 d.2).bind fun t16 =>
 (ld 62 r4.1 d.2).bind fun t17 =>
 (bE prog 72 [(2,t17)]).bind fun t18 =>
 (C 33 [snap d.2 t16,snap d.2 t18]).bind fun t19 =>
 (cu 26 p.1 (b9 p.1 d.2 t19) d.2 lo).bind fun ad =>
 (cu 31 u.1 (b9 u.1 ad (A.v (.int .i64 0))) ad lo).bind fun q =>
 (ld 26 p.1 q).bind fun t22 =>
 ((call 53 [t22,A.v Value.nilIface] q (List.length q)).bind fun cn=>nd (List.length q) cn).bind fun t23 =>
 (aI t23 0).bind fun t24 =>
 (aI t23 1).bind fun t25 =>
 (cu 26 p.1 (b9 p.1 q t24) q lo).bind fun ch =>
 (cu 31 u.1 (b9 u.1 ch t25) ch lo).bind fun ao =>
 (ld 26 p.1 ao).bind fun t28 =>
 (ld 31 u.1 ao).bind fun t29=>some (Out.ret (A.tup [t28,t29]),ao)) fun cc =>
 (ld 26 p.1 d.2).bind fun t16 =>
 ((call 53 [t16,cc] d.2 (List.length d.2)).bind fun cv=>nd (List.length d.2) cv).bind fun t17 =>
 (aI t17 0).bind fun t18 =>
 (aI t17 1).bind fun t19 =>
 (cu 26 p.1 (b9 p.1 d.2 t18) d.2 lo).bind fun ad =>
 (cu 31 u.1 (b9 u.1 ad t19) ad lo).bind fun q =>
 (ld 26 p.1 q).bind fun t22 =>
 (ld 31 u.1 q).bind fun t23=>some (Out.ret (A.tup [t22,t23]),q):=by kernel_rfl
theorem On (u p q:A):aB (cx C) call rg n 25 [u,p,q] H lo =
 (fI 26 H).bind fun d =>
 (C 47 [snap d.2 u,snap d.2 (A.v (.int .i64 0)),snap d.2 (A.v (.int .i64 1))]).bind fun t1 =>
 (jS prog UnOp.not t1).bind fun t2 =>
 (ew t2 (some [A.v (.bool true),ud,ud,ud]) ((C 47 [snap d.2 p,snap d.2 (A.v (.int .i64 0)),snap d.2 (A.v (.int .i64 1))]).bind fun t3 =>
 (jS prog UnOp.not t3).bind fun t4=>some [t4,t4,t3,p])).bind fun l3=>kb l3 fun u4 u5 u6 u7 l7 =>
 (ew u4 (some [A.v (.bool true),ud,ud,ud]) ((C 47 [snap d.2 q,snap d.2 (A.v (.int .i64 1)),snap d.2 (A.v (.int .i64 4096))]).bind fun t8 =>
 (jS prog UnOp.not t8).bind fun t9=>some [t9,t9,t8,q])).bind fun l8=>kb l8 fun u9 ch ck cm cn=>bD u9 ((ld 26 d.1 d.2).bind fun t13 =>
 (cu 26 d.1 (b9 d.1 d.2 t13) d.2 lo).bind fun y =>
 (ld 26 d.1 y).bind fun t15=>some (Out.ret (A.tup [t15,A.v (.int .i64 1)]),y)) ((bE prog 59 [(1,p),(2,q)]).bind fun t13 =>
 (ba prog 22 1 [(0,dz d.2 t13)]).bind fun t14 =>
 (ba prog 24 1 [(0,dz d.2 (A.v (.bool true)))]).bind fun t15 =>
 (bE prog 26 [(0,u),(1,t14),(3,t15)]).bind fun t16 =>
 (cu 26 d.1 (b9 d.1 d.2 t16) d.2 lo).bind fun ab =>
 (ld 26 d.1 ab).bind fun t18=>some (Out.ret (A.tup [t18,A.v (.int .i64 0)]),ab)):=by kernel_rfl
theorem Oo (x0 x1 x2:A):aB (cx C) call rg n 26 [x0,x1,x2] H lo =
 (dq x0 H).bind fun r0 =>
 (fI 26 r0.2).bind fun d =>
 (fI 31 d.2).bind fun q =>
 (ld 26 r0.1 q.2).bind fun t3 =>
 (C 20 [snap q.2 t3]).bind fun t4 =>
 (bin .eql 31 false true t4 (A.v (.int .i64 0))).bind fun t5 =>
 (call 46 [t5,A.v (.int .i64 530)] q.2 lo).bind fun y=>bJ y.1 (fun a7 =>
 (bl 26 r0.1 1 y.2).bind fun t8 =>
 (ld 22 t8 y.2).bind fun t9 =>
 (bM prog 22 t9 y.2).bind fun t10 =>
 (bE prog 59 [(0,t10),(1,x1),(2,x2)]).bind fun t11 =>
 (fI 59 y.2).bind fun ao =>
 (cu 59 ao.1 (b9 ao.1 ao.2 t11) ao.2 lo).bind fun p =>
 (bl 26 r0.1 1 p).bind fun t14 =>
 (ld 22 t14 p).bind fun t15 =>
 (bl 26 r0.1 1 p).bind fun t16 =>
 (ld 22 t16 p).bind fun t17 =>
 (bM prog 22 t17 p).bind fun t18 =>
 (bin .sub 3 false true t18 (A.v (.int .i64 1))).bind fun t19 =>
 (ax prog 22 t15 t19 p).bind fun t20 =>
 (bl 59 t20 1 p).bind fun t21 =>
 (ld 3 t21 p).bind fun t22 =>
 (bl 26 r0.1 0 p).bind fun t23 =>
 (ld 3 t23 p).bind fun t24 =>
 (bin .eql 3 false false t22 t24).bind fun t25 =>
 (ky t25 true ((ld 26 r0.1 p).bind fun t26 =>
 (ld 59 ao.1 p).bind fun t27=>some [t27,t26]) (some [ud,ud])).bind fun ea=>jk ea fun eg ej hh =>
 (ew t25 ((C 50 [snap p ej,snap p eg]).bind fun t29=>some [t29,t29]) (some [A.v (.bool false),ud])).bind fun en=>jk en fun fs hi hj =>
 (call 46 [fs,A.v (.int .i64 530)] p lo).bind fun ab=>bJ ab.1 (fun cn =>
 (bl 26 r0.1 1 ab.2).bind fun t34 =>
 (ld 22 t34 ab.2).bind fun t35 =>
 (bM prog 22 t35 ab.2).bind fun t36 =>
 (bin .lss 3 false true t36 (A.v (.int .i64 256))).bind fun t37 =>
 (call 46 [t37,A.v (.int .i64 2)] ab.2 lo).bind fun u=>bJ u.1 (fun cv =>
 (ld 26 r0.1 u.2).bind fun t40 =>
 (ld 59 ao.1 u.2).bind fun t41 =>
 (bE prog 72 [(0,A.v (.bool true)),(1,t41)]).bind fun t42 =>
 (C 33 [snap u.2 t40,snap u.2 t42]).bind fun t43 =>
 (cu 26 d.1 (b9 d.1 u.2 t43) u.2 lo).bind fun bm =>
 (cu 31 q.1 (b9 q.1 bm (A.v (.int .i64 0))) bm lo).bind fun ad =>
 (ld 26 d.1 ad).bind fun t46 =>
 ((call 53 [t46,A.v Value.nilIface] ad (List.length ad)).bind fun fv=>nd (List.length ad) fv).bind fun t47 =>
 (aI t47 0).bind fun t48 =>
 (aI t47 1).bind fun t49 =>
 (cu 26 d.1 (b9 d.1 ad t48) ad lo).bind fun cy =>
 (cu 31 q.1 (b9 q.1 cy t49) cy lo).bind fun bs =>
 (ld 26 d.1 bs).bind fun t52 =>
 (ld 31 q.1 bs).bind fun t53=>some (Out.ret (A.tup [t52,t53]),bs)) fun cv =>
 (ld 26 d.1 u.2).bind fun t40 =>
 ((call 53 [t40,cv] u.2 (List.length u.2)).bind fun ha=>nd (List.length u.2) ha).bind fun t41 =>
 (aI t41 0).bind fun t42 =>
 (aI t41 1).bind fun t43 =>
 (cu 26 d.1 (b9 d.1 u.2 t42) u.2 lo).bind fun bm =>
 (cu 31 q.1 (b9 q.1 bm t43) bm lo).bind fun ad =>
 (ld 26 d.1 ad).bind fun t46 =>
 (ld 31 q.1 ad).bind fun t47=>some (Out.ret (A.tup [t46,t47]),ad)) fun cn =>
 (ld 26 d.1 ab.2).bind fun t34 =>
 ((call 53 [t34,cn] ab.2 (List.length ab.2)).bind fun hf=>nd (List.length ab.2) hf).bind fun t35 =>
 (aI t35 0).bind fun t36 =>
 (aI t35 1).bind fun t37 =>
 (cu 26 d.1 (b9 d.1 ab.2 t36) ab.2 lo).bind fun u =>
 (cu 31 q.1 (b9 q.1 u t37) u lo).bind fun ca =>
 (ld 26 d.1 ca).bind fun t40 =>
 (ld 31 q.1 ca).bind fun t41=>some (Out.ret (A.tup [t40,t41]),ca)) fun a7 =>
 (ld 26 d.1 y.2).bind fun t8 =>
 ((call 53 [t8,a7] y.2 (List.length y.2)).bind fun H9=>nd (List.length y.2) H9).bind fun t9 =>
 (aI t9 0).bind fun t10 =>
 (aI t9 1).bind fun t11 =>
 (cu 26 d.1 (b9 d.1 y.2 t10) y.2 lo).bind fun dd =>
 (cu 31 q.1 (b9 q.1 dd t11) dd lo).bind fun p =>
 (ld 26 d.1 p).bind fun t14 =>
 (ld 31 q.1 p).bind fun t15=>some (Out.ret (A.tup [t14,t15]),p):=by kernel_rfl
theorem Oq (u q:A):aB (cx C) call rg n 27 [u,q] H lo =
 (dq u H).bind fun y =>
 (fI 44 y.2).bind fun p =>
 (bM prog 39 q p.2).bind fun t2=>aK (cx C) call rg n 27 lo 0 (List.length p.2) (fun i3 d=>bif Nat.beq i3 0 then
 (ld 44 (lk d 2) (St.H d)).bind fun t4 =>
 (cu 44 (lk d 4) (b9 (lk d 4) (St.H d) t4) (St.H d) lo).bind fun H5 =>
 (ld 44 (lk d 4) H5).bind fun t6=>some (Out.ret (A.tup [t6,A.v (.bool true)]),H5) else none) (fun i3 d=>none) (fun a3 =>
 (ld 44 (lk a3 4) (St.H a3)).bind fun t4=>some (Out.ret (A.tup [t4,lk a3 5]),St.H a3)) (fun i3 d=>some (Out.pan i3,St.H d)) n (St.mk [(2,y.1),(4,p.1),(5,A.v (.bool false)),(10,q),(11,t2),(12,A.v (.int .i64 0))] p.2):=by kernel_rfl
theorem Ke (d:A):aB (cx C) call rg n 28 [d] H lo =
 (dq d H).bind fun p=>some (Out.ret (A.fn (Fn.func 55) [] [p.1]),p.2):=by kernel_rfl
theorem Kf (q:A):aB (cx C) call rg n 29 [q] H lo =
 (bE prog 98 [(0,A.v (.int .i64 3))]).bind fun t0 =>
 (fI 98 H).bind fun d =>
 (cu 98 d.1 (b9 d.1 d.2 t0) d.2 lo).bind fun u =>
 (bM prog 78 q u).bind fun t3=>aK (cx C) call rg n 29 lo 0 (List.length (aX lo 3 5 d.1 u)) (fun i4 p=>bif Nat.beq i4 0 then
 (ld 98 (lk p 3) (St.H p)).bind fun t5 =>
 (C 56 [snap (St.H p) t5]).bind fun t6 =>
 (aI t6 0).bind fun t7 =>
 (aI t6 1).bind fun t8=>some (Out.ret t7,St.H p) else none) (fun i4 p=>none) (fun a4=>some (Out.ret (lk a4 2),St.H a4)) (fun i4 p=>some (Out.pan i4,St.H p)) n (St.mk [(2,A.imm [] true),(3,d.1),(9,q),(10,t3),(11,A.v (.int .i64 0))] (aX lo 3 5 d.1 u)):=by kernel_rfl
theorem Ot (x0:A):aB (cx C) call rg n 32 [x0] H lo =
 (fI 72 H).bind fun q =>
 (C 59 [snap q.2 x0]).bind fun t1 =>
 (aI t1 0).bind fun t2 =>
 (aI t1 1).bind fun t3 =>
 (fI 98 q.2).bind fun u =>
 (cu 98 u.1 (b9 u.1 u.2 t2) u.2 lo).bind fun p =>
 (bin .neq 31 false true t3 (A.v (.int .i64 0))).bind fun t6 =>
 (ew t6 (some [A.v (.bool true),ud,ud,ud]) ((bl 98 u.1 0 p).bind fun t7 =>
 (ld 3 t7 p).bind fun t8 =>
 (bin .neq 3 false true t8 (A.v (.int .i64 3))).bind fun t9=>some [t9,t9,t8,t7])).bind fun l7=>kb l7 fun u8 u9 cy dd ea=>bD u8 ((ld 72 q.1 p).bind fun t12 =>
 (cu 72 q.1 (b9 q.1 p t12) p lo).bind fun ad =>
 (ld 72 q.1 ad).bind fun t14=>some (Out.ret (A.tup [t14,A.v (.bool false)]),ad)) ((bl 98 u.1 3 p).bind fun t12 =>
 (ld 96 t12 p).bind fun t13 =>
 (bM prog 96 t13 p).bind fun t14=>aK (cx C) call rg n 32 lo 0 (List.length (fb 1 (St.H (St.mk [(2,q.1),(3,A.v (.bool false)),(6,A.imm [] true),(23,t13),(24,t14),(25,A.v (.int .i64 0))] p)) (look (St.fr (St.mk [(2,q.1),(3,A.v (.bool false)),(6,A.imm [] true),(23,t13),(24,t14),(25,A.v (.int .i64 0))] p)) (Prod.fst (6,0,2)))).2) (fun i15 d=>bif Nat.beq i15 0 then
 (bM prog 78 (lk d 6) (St.H d)).bind fun t16 =>
 (bin .eql 3 false true t16 (A.v (.int .i64 4))).bind fun t17 =>
 (ew t17 ((ax prog 78 (lk d 6) (A.v (.int .i64 0)) (St.H d)).bind fun t18 =>
 (ld 3 t18 (St.H d)).bind fun t19 =>
 (bin .eql 3 false true t19 (A.v (.int .i64 1))).bind fun t20=>some [t20,t20,t19,t18,lk d 6]) (some [A.v (.bool false),ud,ud,ud,ud])).bind fun ca=>kb ca fun cc eg ej en ch=>jR ch fun fs fv=>bD cc ((ax prog 78 (lk d 6) (A.v (.int .i64 1)) (St.H d)).bind fun t24 =>
 (ld 3 t24 (St.H d)).bind fun t25 =>
 (ax prog 78 (lk d 6) (A.v (.int .i64 2)) (St.H d)).bind fun t26 =>
 (ld 3 t26 (St.H d)).bind fun t27 =>
 (ax prog 78 (lk d 6) (A.v (.int .i64 3)) (St.H d)).bind fun t28 =>
 (ld 3 t28 (St.H d)).bind fun t29 =>
 (bE prog 59 [(0,t25),(1,t27),(2,t29)]).bind fun t30 =>
 (bE prog 72 [(0,A.v (.bool true)),(1,t30)]).bind fun t31 =>
 (cu 72 (lk d 2) (b9 (lk d 2) (St.H d) t31) (St.H d) lo).bind fun an =>
 (ld 72 (lk d 2) an).bind fun t33=>some (Out.ret (A.tup [t33,A.v (.bool true)]),an)) ((bM prog 78 (lk d 6) (St.H d)).bind fun t24 =>
 (bin .eql 3 false true t24 (A.v (.int .i64 3))).bind fun t25 =>
 (ew t25 ((ax prog 78 (lk d 6) (A.v (.int .i64 0)) (St.H d)).bind fun t26 =>
 (ld 3 t26 (St.H d)).bind fun t27 =>
 (bin .eql 3 false true t27 (A.v (.int .i64 2))).bind fun t28=>some [t28,t28,t27,t26,lk d 6]) (some [A.v (.bool false),ud,ud,ud,ud])).bind fun ck=>kb ck fun cm ha hf hg cn=>jR cn fun hh hi=>bD cm ((ax prog 78 (lk d 6) (A.v (.int .i64 1)) (St.H d)).bind fun t32 =>
 (ld 3 t32 (St.H d)).bind fun t33 =>
 (ax prog 78 (lk d 6) (A.v (.int .i64 2)) (St.H d)).bind fun t34 =>
 (ld 3 t34 (St.H d)).bind fun t35 =>
 (bE prog 62 [(0,t33),(1,t35)]).bind fun t36 =>
 (bE prog 72 [(2,t36)]).bind fun t37 =>
 (cu 72 (lk d 2) (b9 (lk d 2) (St.H d) t37) (St.H d) lo).bind fun ao =>
 (ld 72 (lk d 2) ao).bind fun t39=>some (Out.ret (A.tup [t39,A.v (.bool true)]),ao)) ((ld 72 (lk d 2) (St.H d)).bind fun t32 =>
 (cu 72 (lk d 2) (b9 (lk d 2) (St.H d) t32) (St.H d) lo).bind fun bm =>
 (ld 72 (lk d 2) bm).bind fun t34=>some (Out.ret (A.tup [t34,A.v (.bool false)]),bm))) else none) (fun i15 d=>none) (fun y =>
 (ld 72 (lk y 2) (St.H y)).bind fun t16=>some (Out.ret (A.tup [t16,lk y 3]),St.H y)) (fun i15 d=>some (Out.pan i15,St.H d)) n (St.mk [(2,q.1),(3,A.v (.bool false)),(6,(fb 1 (St.H (St.mk [(2,q.1),(3,A.v (.bool false)),(6,A.imm [] true),(23,t13),(24,t14),(25,A.v (.int .i64 0))] p)) (look (St.fr (St.mk [(2,q.1),(3,A.v (.bool false)),(6,A.imm [] true),(23,t13),(24,t14),(25,A.v (.int .i64 0))] p)) (Prod.fst (6,0,2)))).1),(23,t13),(24,t14),(25,A.v (.int .i64 0))] (fb 1 (St.H (St.mk [(2,q.1),(3,A.v (.bool false)),(6,A.imm [] true),(23,t13),(24,t14),(25,A.v (.int .i64 0))] p)) (look (St.fr (St.mk [(2,q.1),(3,A.v (.bool false)),(6,A.imm [] true),(23,t13),(24,t14),(25,A.v (.int .i64 0))] p)) (Prod.fst (6,0,2)))).2)):=by kernel_rfl
theorem Ou (x0 x1:A):aB (cx C) call rg n 33 [x0,x1] H lo =
 (dq x0 H).bind fun q =>
 (dq x1 q.2).bind fun u =>
 (fI 26 u.2).bind fun d =>
 (bl 72 u.1 0 d.2).bind fun t3 =>
 (ld 4 t3 d.2).bind fun t4=>bD t4 ((bl 26 q.1 1 d.2).bind fun t5 =>
 (ld 22 t5 d.2).bind fun t6 =>
 (bl 72 u.1 1 d.2).bind fun t7 =>
 (ld 59 t7 d.2).bind fun t8=>bif bif mA t8 then true else false then
 (ba prog 22 1 [(0,dz d.2 t8)]).bind fun t9=>bif bif cJ 0 t7 then bif cJ 0 u.1 then true else false else false then
 (call 60 [t6] d.2 (List.length d.2)).bind fun ad=>bJ ad.1 (fun an =>
 (cK prog 22 22 false an t9 ad.2 lo).bind fun y =>
 (bl 26 q.1 1 y.2).bind fun t13 =>
 (cu 22 t13 (b9 t13 y.2 y.1) y.2 lo).bind fun p =>
 (bl 26 q.1 3 p).bind fun t15 =>
 (ld 24 t15 p).bind fun t16 =>
 (bl 72 u.1 0 p).bind fun t17 =>
 (ld 4 t17 p).bind fun t18=>bif bif mA t18 then true else false then
 (ba prog 24 1 [(0,dz p t18)]).bind fun t19=>bif bif cJ 0 t17 then bif cJ 0 u.1 then true else false else false then
 (call 62 [t16] p (List.length p)).bind fun ao=>bJ ao.1 (fun bm =>
 (cK prog 24 24 false bm t19 ao.2 lo).bind fun ab =>
 (bl 26 q.1 3 ab.2).bind fun t23 =>
 (cu 24 t23 (b9 t23 ab.2 ab.1) ab.2 lo).bind fun bs =>
 (ld 26 q.1 bs).bind fun t25 =>
 (cu 26 d.1 (b9 d.1 bs t25) bs lo).bind fun ca =>
 (ld 26 d.1 ca).bind fun t27=>some (Out.ret t27,ca)) fun bm=>some (Out.pan bm,ao.2) else none else none) fun an=>some (Out.pan an,ad.2) else none else none) ((bl 26 q.1 2 d.2).bind fun t5 =>
 (ld 23 t5 d.2).bind fun t6 =>
 (bl 72 u.1 2 d.2).bind fun t7 =>
 (ld 62 t7 d.2).bind fun t8=>bif bif mA t8 then true else false then
 (ba prog 23 1 [(0,dz d.2 t8)]).bind fun t9=>bif bif cJ 0 t7 then bif cJ 0 u.1 then true else false else false then
 (call 61 [t6] d.2 (List.length d.2)).bind fun ad=>bJ ad.1 (fun an =>
 (cK prog 23 23 false an t9 ad.2 lo).bind fun y =>
 (bl 26 q.1 2 y.2).bind fun t13 =>
 (cu 23 t13 (b9 t13 y.2 y.1) y.2 lo).bind fun p =>
 (bl 26 q.1 3 p).bind fun t15 =>
 (ld 24 t15 p).bind fun t16 =>
 (bl 72 u.1 0 p).bind fun t17 =>
 (ld 4 t17 p).bind fun t18=>bif bif mA t18 then true else false then
 (ba prog 24 1 [(0,dz p t18)]).bind fun t19=>bif bif cJ 0 t17 then bif cJ 0 u.1 then true else false else false then
 (call 62 [t16] p (List.length p)).bind fun ao=>bJ ao.1 (fun bm =>
 (cK prog 24 24 false bm t19 ao.2 lo).bind fun ab =>
 (bl 26 q.1 3 ab.2).bind fun t23 =>
 (cu 24 t23 (b9 t23 ab.2 ab.1) ab.2 lo).bind fun bs =>
 (ld 26 q.1 bs).bind fun t25 =>
 (cu 26 d.1 (b9 d.1 bs t25) bs lo).bind fun ca =>
 (ld 26 d.1 ca).bind fun t27=>some (Out.ret t27,ca)) fun bm=>some (Out.pan bm,ao.2) else none else none) fun an=>some (Out.pan an,ad.2) else none else none):=by kernel_rfl
theorem kK (d:A):aB (cx C) call rg n 37 [d] H lo =
 (bin .eql 20 false true d (A.v Value.nilIface)).bind fun t0=>bD t0 (some (Out.ret (A.v (.int .i64 0)),H)) ((lK prog d 31 true).bind fun t1 =>
 (aI t1 1).bind fun t2 =>
 (aI t1 0).bind fun t3=>bD t2 (some (Out.ret t3,H)) (Ba d fun a4=>some (Out.pan a4,H))):=by kernel_rfl
theorem Ov (u:A):aB (cx C) call rg n 38 [u] H lo =
 (dF u H).bind fun t0 =>
 (bl 83 t0 0 H).bind fun t1 =>
 (bl 44 t1 0 H).bind fun t2 =>
 (ld 40 t2 H).bind fun t3=>aK (cx C) call rg n 38 lo 0 (List.length H) (fun i4 p=>bif Nat.beq i4 0 then aK (cx C) call rg n 38 lo 1 (List.length (St.H p)) (fun i5 d=>bif Nat.beq i5 2 then
 (dF (lk d 0) (St.H d)).bind fun t6 =>
 (bl 83 t6 0 (St.H d)).bind fun t7 =>
 (bl 44 t7 2 (St.H d)).bind fun t8 =>
 (ld 22 t8 (St.H d)).bind fun t9 =>
 (bM prog 22 t9 (St.H d)).bind fun t10=>aK (cx C) call rg n 38 lo 3 (List.length (St.H d)) (fun i11 q=>bif Nat.beq i11 6 then some (Out.ret (A.tup []),St.H q) else none) (fun i11 q=>none) (fun y=>some (Out.ret (A.tup []),St.H y)) (fun i11 q=>some (Out.pan i11,St.H q)) n (St.mk [(0,lk d 0),(69,t9),(70,t10),(71,A.v (.int .i64 0))] (St.H d)) else none) (fun i5 d=>none) (fun a5=>some (Out.ret (A.tup []),St.H a5)) (fun i5 d=>some (Out.pan i5,St.H d)) n (St.mk [(0,lk p 0),(42,A.v (.int .i64 0))] (St.H p)) else none) (fun i4 p=>none) (fun a4=>some (Out.ret (A.tup []),St.H a4)) (fun i4 p=>some (Out.pan i4,St.H p)) n (St.mk [(0,u),(13,t3),(14,A.v (.int .i64 0))] H):=by kernel_rfl
theorem Ow (p u:A):aB (cx C) call rg n 39 [p,u] H lo =
 (dq u H).bind fun d =>
 (dF p d.2).bind fun t1 =>
 (bl 83 t1 1 d.2).bind fun t2 =>
 (ld 3 t2 d.2).bind fun t3 =>
 (dF p d.2).bind fun t4 =>
 (bl 83 t4 0 d.2).bind fun t5 =>
 (bl 44 t5 0 d.2).bind fun t6 =>
 (ax prog 40 t6 t3 d.2).bind fun t7 =>
 (ld 26 t7 d.2).bind fun t8 =>
 (bl 49 d.1 2 d.2).bind fun t9 =>
 (ld 3 t9 d.2).bind fun t10 =>
 (bl 49 d.1 3 d.2).bind fun t11 =>
 (ld 3 t11 d.2).bind fun t12 =>
 (C 26 [snap d.2 t8,snap d.2 t10,snap d.2 t12]).bind fun t13 =>
 (aI t13 0).bind fun t14 =>
 (aI t13 1).bind fun t15 =>
 (call 72 [p,t14,t15] d.2 lo).bind fun q=>bJ q.1 (fun y=>some (Out.ret (A.tup []),q.2)) fun y=>some (Out.pan y,q.2):=by kernel_rfl
theorem Ox (q y:A):aB (cx C) call rg n 40 [q,y] H lo =
 (dq y H).bind fun p =>
 (bl 49 p.1 2 p.2).bind fun t1 =>
 (ld 3 t1 p.2).bind fun t2 =>
 (dF q p.2).bind fun t3 =>
 (bl 83 t3 0 p.2).bind fun t4 =>
 (bl 44 t4 2 p.2).bind fun t5 =>
 (ld 22 t5 p.2).bind fun t6 =>
 (bM prog 22 t6 p.2).bind fun t7 =>
 (bin .sub 3 false true t7 (A.v (.int .i64 1))).bind fun t8 =>
 (C 47 [snap p.2 t2,snap p.2 (A.v (.int .i64 0)),snap p.2 t8]).bind fun t9 =>
 (call 46 [t9,A.v (.int .i64 530)] p.2 lo).bind fun d=>bJ d.1 (fun ab =>
 (dF q d.2).bind fun t12 =>
 (bl 83 t12 1 d.2).bind fun t13 =>
 (ld 3 t13 d.2).bind fun t14 =>
 (dF q d.2).bind fun t15 =>
 (bl 83 t15 0 d.2).bind fun t16 =>
 (bl 44 t16 0 d.2).bind fun t17 =>
 (ax prog 40 t17 t14 d.2).bind fun t18 =>
 (ld 26 t18 d.2).bind fun t19 =>
 (dF q d.2).bind fun t20 =>
 (bl 83 t20 0 d.2).bind fun t21 =>
 (bl 44 t21 2 d.2).bind fun t22 =>
 (ld 22 t22 d.2).bind fun t23 =>
 (bl 49 p.1 2 d.2).bind fun t24 =>
 (ld 3 t24 d.2).bind fun t25 =>
 (ax prog 22 t23 t25 d.2).bind fun t26 =>
 (ld 59 t26 d.2).bind fun t27 =>
 (C 73 [snap d.2 t19,snap d.2 t27]).bind fun t28 =>
 (aI t28 0).bind fun t29 =>
 (aI t28 1).bind fun t30 =>
 (call 72 [q,t29,t30] d.2 lo).bind fun u=>bJ u.1 (fun ad=>some (Out.ret (A.tup []),u.2)) fun ad=>some (Out.pan ad,u.2)) fun ab=>some (Out.pan ab,d.2):=by kernel_rfl
theorem Oy (p u:A):aB (cx C) call rg n 41 [p,u] H lo =
 (dq u H).bind fun d =>
 (dF p d.2).bind fun t1 =>
 (bl 83 t1 1 d.2).bind fun t2 =>
 (ld 3 t2 d.2).bind fun t3 =>
 (dF p d.2).bind fun t4 =>
 (bl 83 t4 0 d.2).bind fun t5 =>
 (bl 44 t5 0 d.2).bind fun t6 =>
 (ax prog 40 t6 t3 d.2).bind fun t7 =>
 (ld 26 t7 d.2).bind fun t8 =>
 (bl 49 d.1 2 d.2).bind fun t9 =>
 (ld 3 t9 d.2).bind fun t10 =>
 (bl 49 d.1 3 d.2).bind fun t11 =>
 (ld 3 t11 d.2).bind fun t12 =>
 (C 24 [snap d.2 t8,snap d.2 t10,snap d.2 t12]).bind fun t13 =>
 (aI t13 0).bind fun t14 =>
 (aI t13 1).bind fun t15 =>
 (call 72 [p,t14,t15] d.2 lo).bind fun q=>bJ q.1 (fun y=>some (Out.ret (A.tup []),q.2)) fun y=>some (Out.pan y,q.2):=by kernel_rfl
theorem Oz (p q:A):aB (cx C) call rg n 42 [p,q] H lo =
 (dq q H).bind fun d =>
 (dF p d.2).bind fun t1 =>
 (bl 83 t1 1 d.2).bind fun t2 =>
 (ld 3 t2 d.2).bind fun t3 =>
 (dF p d.2).bind fun t4 =>
 (bl 83 t4 1 d.2).bind fun t5 =>
 (ld 3 t5 d.2).bind fun t6 =>
 (dF p d.2).bind fun t7 =>
 (bl 83 t7 0 d.2).bind fun t8 =>
 (bl 44 t8 0 d.2).bind fun t9 =>
 (ax prog 40 t9 t6 d.2).bind fun t10 =>
 (bl 26 t10 3 d.2).bind fun t11 =>
 (ld 24 t11 d.2).bind fun t12 =>
 (bM prog 24 t12 d.2).bind fun t13 =>
 (dF p d.2).bind fun t14 =>
 (bl 83 t14 0 d.2).bind fun t15 =>
 (bl 44 t15 1 d.2).bind fun t16 =>
 (ax prog 41 t16 t3 d.2).bind fun t17 =>
 (cu 3 t17 (b9 t17 d.2 t13) d.2 lo).bind fun u=>some (Out.ret (A.tup []),u):=by kernel_rfl
theorem OA (u x1:A):aB (cx C) call rg n 43 [u,x1] H lo =
 (dq x1 H).bind fun d =>
 (dF u d.2).bind fun t1 =>
 (bl 83 t1 1 d.2).bind fun t2 =>
 (ld 3 t2 d.2).bind fun t3 =>
 (dF u d.2).bind fun t4 =>
 (bl 83 t4 0 d.2).bind fun t5 =>
 (bl 44 t5 0 d.2).bind fun t6 =>
 (ax prog 40 t6 t3 d.2).bind fun t7 =>
 (bl 26 t7 1 d.2).bind fun t8 =>
 (ld 22 t8 d.2).bind fun t9 =>
 (bl 49 d.1 2 d.2).bind fun t10 =>
 (ld 3 t10 d.2).bind fun t11 =>
 (bM prog 22 t9 d.2).bind fun t12 =>
 (bin .sub 3 false true t12 (A.v (.int .i64 1))).bind fun t13 =>
 (C 47 [snap d.2 t11,snap d.2 (A.v (.int .i64 0)),snap d.2 t13]).bind fun t14 =>
 (call 46 [t14,A.v (.int .i64 530)] d.2 lo).bind fun q=>bJ q.1 (fun cc =>
 (dF u q.2).bind fun t17 =>
 (bl 83 t17 1 q.2).bind fun t18 =>
 (ld 3 t18 q.2).bind fun t19 =>
 (bl 49 d.1 2 q.2).bind fun t20 =>
 (ld 3 t20 q.2).bind fun t21 =>
 (ax prog 22 t9 t21 q.2).bind fun t22 =>
 (ld 59 t22 q.2).bind fun t23=>bif bif cJ 0 t18 then bif cJ 0 t17 then bif cJ 0 u then true else false else false else false then
 (call 71 [t23] q.2 (List.length q.2)).bind fun ab=>bJ ab.1 (fun ad =>
 (call 69 [u,t19,ad] ab.2 lo).bind fun an=>bJ an.1 (fun ao =>
 (call 46 [ao,A.v (.int .i64 530)] an.2 lo).bind fun p=>bJ p.1 (fun ch =>
 (dF u p.2).bind fun t30 =>
 (bl 83 t30 0 p.2).bind fun t31 =>
 (bl 44 t31 2 p.2).bind fun t32 =>
 (ld 22 t32 p.2).bind fun t33 =>
 (bl 49 d.1 2 p.2).bind fun t34 =>
 (ld 3 t34 p.2).bind fun t35 =>
 (ax prog 22 t9 t35 p.2).bind fun t36 =>
 (ld 59 t36 p.2).bind fun t37=>bif bif mA t37 then true else false then
 (ba prog 22 1 [(0,dz p.2 t37)]).bind fun t38=>bif bif cJ 0 t36 then bif cJ 0 t9 then bif cJ 0 t34 then bif cJ 0 d.1 then true else false else false else false else false then
 (call 60 [t33] p.2 (List.length p.2)).bind fun bm=>bJ bm.1 (fun bs =>
 (cK prog 22 22 false bs t38 bm.2 lo).bind fun y =>
 (dF u y.2).bind fun t42 =>
 (bl 83 t42 0 y.2).bind fun t43 =>
 (bl 44 t43 2 y.2).bind fun t44 =>
 (cu 22 t44 (b9 t44 y.2 y.1) y.2 lo).bind fun ck=>some (Out.ret (A.tup []),ck)) fun bs=>some (Out.pan bs,bm.2) else none else none) fun ch=>some (Out.pan ch,p.2)) fun ao=>some (Out.pan ao,an.2)) fun ad=>some (Out.pan ad,ab.2) else none) fun cc=>some (Out.pan cc,q.2):=by kernel_rfl
theorem OB (q x1:A):aB (cx C) call rg n 44 [q,x1] H lo =
 (dq x1 H).bind fun p =>
 (dF q p.2).bind fun t1 =>
 (bl 83 t1 1 p.2).bind fun t2 =>
 (ld 3 t2 p.2).bind fun t3 =>
 (dF q p.2).bind fun t4 =>
 (bl 83 t4 0 p.2).bind fun t5 =>
 (bl 44 t5 0 p.2).bind fun t6 =>
 (ax prog 40 t6 t3 p.2).bind fun t7 =>
 (bl 26 t7 2 p.2).bind fun t8 =>
 (ld 23 t8 p.2).bind fun t9 =>
 (bl 49 p.1 2 p.2).bind fun t10 =>
 (ld 3 t10 p.2).bind fun t11 =>
 (bM prog 23 t9 p.2).bind fun t12 =>
 (bin .sub 3 false true t12 (A.v (.int .i64 1))).bind fun t13 =>
 (C 47 [snap p.2 t11,snap p.2 (A.v (.int .i64 0)),snap p.2 t13]).bind fun t14 =>
 (call 46 [t14,A.v (.int .i64 530)] p.2 lo).bind fun u=>bJ u.1 (fun cc =>
 (dF q u.2).bind fun t17 =>
 (bl 83 t17 1 u.2).bind fun t18 =>
 (ld 3 t18 u.2).bind fun t19 =>
 (bl 49 p.1 2 u.2).bind fun t20 =>
 (ld 3 t20 u.2).bind fun t21 =>
 (ax prog 23 t9 t21 u.2).bind fun t22 =>
 (ld 62 t22 u.2).bind fun t23=>bif bif cJ 0 t18 then bif cJ 0 t17 then bif cJ 0 q then true else false else false else false then
 (call 70 [t23] u.2 (List.length u.2)).bind fun ad=>bJ ad.1 (fun an =>
 (call 69 [q,t19,an] ad.2 lo).bind fun ao=>bJ ao.1 (fun bm =>
 (call 46 [bm,A.v (.int .i64 530)] ao.2 lo).bind fun d=>bJ d.1 (fun ch =>
 (dF q d.2).bind fun t30 =>
 (bl 83 t30 1 d.2).bind fun t31 =>
 (ld 3 t31 d.2).bind fun t32 =>
 (dF q d.2).bind fun t33 =>
 (bl 83 t33 1 d.2).bind fun t34 =>
 (ld 3 t34 d.2).bind fun t35 =>
 (dF q d.2).bind fun t36 =>
 (bl 83 t36 0 d.2).bind fun t37 =>
 (bl 44 t37 3 d.2).bind fun t38 =>
 (ax prog 42 t38 t35 d.2).bind fun t39 =>
 (ld 23 t39 d.2).bind fun t40 =>
 (bl 49 p.1 2 d.2).bind fun t41 =>
 (ld 3 t41 d.2).bind fun t42 =>
 (ax prog 23 t9 t42 d.2).bind fun t43 =>
 (ld 62 t43 d.2).bind fun t44=>bif bif mA t44 then true else false then
 (ba prog 23 1 [(0,dz d.2 t44)]).bind fun t45 =>
 (dF q d.2).bind fun t46 =>
 (bl 83 t46 0 d.2).bind fun t47 =>
 (bl 44 t47 3 d.2).bind fun t48=>bif bif cJ 0 t47 then bif cJ 0 t46 then bif cJ 0 q then bif cJ 0 t43 then bif cJ 0 t9 then bif cJ 0 t41 then bif cJ 0 p.1 then bif cJ 0 t31 then bif cJ 0 t30 then bif cJ 0 q then true else false else false else false else false else false else false else false else false else false else false then
 (call 61 [t40] d.2 (List.length d.2)).bind fun bs=>bJ bs.1 (fun y=>bif bif apart t47 y then bif apart t46 y then bif apart q y then bif apart t31 y then bif apart t30 y then bif apart q y then true else false else false else false else false else false else false then
 (cK prog 23 23 false y t45 bs.2 lo).bind fun ab =>
 (ax prog 42 t48 t32 ab.2).bind fun t52 =>
 (cu 23 t52 (b9 t52 ab.2 ab.1) ab.2 lo).bind fun ck=>some (Out.ret (A.tup []),ck) else none) fun y=>some (Out.pan y,bs.2) else none else none) fun ch=>some (Out.pan ch,d.2)) fun bm=>some (Out.pan bm,ao.2)) fun an=>some (Out.pan an,ad.2) else none) fun cc=>some (Out.pan cc,u.2):=by kernel_rfl
theorem OC (u x1:A):aB (cx C) call rg n 45 [u,x1] H lo =
 (dq x1 H).bind fun p =>
 (dF u p.2).bind fun t1 =>
 (bl 83 t1 1 p.2).bind fun t2 =>
 (ld 3 t2 p.2).bind fun t3 =>
 (dF u p.2).bind fun t4 =>
 (bl 83 t4 0 p.2).bind fun t5 =>
 (bl 44 t5 0 p.2).bind fun t6 =>
 (ax prog 40 t6 t3 p.2).bind fun t7 =>
 (ld 26 t7 p.2).bind fun t8=>bif bif apart t7 A.any then bif apart t6 A.any then bif apart t5 A.any then bif apart t4 A.any then bif apart u A.any then bif apart t2 A.any then bif apart t1 A.any then bif apart u A.any then true else false else false else false else false else false else false else false else false then
 (fI 26 p.2).bind fun y =>
 (cu 26 y.1 (b9 y.1 y.2 t8) y.2 lo).bind fun d =>
 (bl 49 p.1 2 d).bind fun t11 =>
 (ld 3 t11 d).bind fun t12 =>
 (dF u d).bind fun t13 =>
 (bl 83 t13 1 d).bind fun t14 =>
 (ld 3 t14 d).bind fun t15 =>
 (dF u d).bind fun t16 =>
 (bl 83 t16 0 d).bind fun t17 =>
 (bl 44 t17 1 d).bind fun t18 =>
 (ax prog 41 t18 t15 d).bind fun t19 =>
 (ld 3 t19 d).bind fun t20 =>
 (bl 26 y.1 3 d).bind fun t21 =>
 (ld 24 t21 d).bind fun t22 =>
 (bM prog 24 t22 d).bind fun t23 =>
 (C 47 [snap d t12,snap d t20,snap d t23]).bind fun t24 =>
 (call 46 [t24,A.v (.int .i64 530)] d lo).bind fun ab=>bJ ab.1 (fun ao =>
 (ld 26 y.1 ab.2).bind fun t27 =>
 (C 9 [snap ab.2 t27]).bind fun t28 =>
 (aI t28 0).bind fun t29 =>
 (aI t28 1).bind fun t30 =>
 (bin .eql 31 false true t30 (A.v (.int .i64 0))).bind fun t31 =>
 (call 46 [t31,t30] ab.2 lo).bind fun q=>bJ q.1 (fun bm =>
 (dF u q.2).bind fun t34 =>
 (bl 83 t34 1 q.2).bind fun t35 =>
 (ld 3 t35 q.2).bind fun t36 =>
 (bl 49 p.1 2 q.2).bind fun t37 =>
 (ld 3 t37 q.2).bind fun t38 =>
 (ef prog 27 t29 none (some t38) none q.2).bind fun t39 =>
 (C 11 [snap q.2 t36,snap q.2 t39]).bind fun t40 =>
 (aI t40 0).bind fun t41 =>
 (aI t40 1).bind fun t42 =>
 (call 72 [u,t41,t42] q.2 lo).bind fun ad=>bJ ad.1 (fun bs=>some (Out.ret (A.tup []),ad.2)) fun bs=>some (Out.pan bs,ad.2)) fun bm=>some (Out.pan bm,q.2)) fun ao=>some (Out.pan ao,ab.2) else none:=by kernel_rfl
theorem pE (d p:A):aB (cx C) call rg n 46 [d,p] H lo =
 (jS prog UnOp.not d).bind fun t0=>bD t0 ((B9 prog 31 p).bind fun t1=>Ba t1 fun a2=>some (Out.pan a2,H)) (some (Out.ret (A.tup []),H)):=by kernel_rfl
theorem OD (d q p:A):aB (cx C) call rg n 47 [d,q,p] H lo =
 (bin .leq 3 false false q d).bind fun t0 =>
 (ew t0 ((bin .leq 3 false false d p).bind fun t1=>some [t1,t1,p,d]) (some [A.v (.bool false),ud,ud,ud])).bind fun u=>kb u fun y u3 u4 u5 l5=>some (Out.ret y,H):=by kernel_rfl
theorem OE (p q:A):aB (cx C) call rg n 48 [p,q] H lo =
 (dq q H).bind fun d=>aK (cx C) call rg n 48 lo 0 (List.length d.2) (fun i1 s1=>bif Nat.beq i1 0 then some (Out.ret (A.v (.bool false)),St.H s1) else none) (fun i1 s1=>none) (fun a1=>some (Out.ret (lk a1 4),St.H a1)) (fun i1 s1=>some (Out.pan i1,St.H s1)) n (St.mk [(0,p),(3,d.1),(4,A.v (.bool false)),(5,A.v (.int .i64 0))] d.2):=by kernel_rfl
theorem OG (p q:A):aB (cx C) call rg n 49 [p,q] H lo =
 (dq q H).bind fun d =>
 (bM prog 23 p d.2).bind fun t1=>aK (cx C) call rg n 49 lo 0 (List.length d.2) (fun i2 s2=>bif Nat.beq i2 0 then some (Out.ret (A.v (.bool false)),St.H s2) else none) (fun i2 s2=>none) (fun a2=>some (Out.ret (lk a2 4),St.H a2)) (fun i2 s2=>some (Out.pan i2,St.H s2)) n (St.mk [(3,d.1),(4,A.v (.bool false)),(7,p),(8,t1),(9,A.v (.int .i64 0))] d.2):=by kernel_rfl
theorem OH (q u:A):aB (cx C) call rg n 50 [q,u] H lo =
 (dq q H).bind fun p =>
 (dq u p.2).bind fun d =>
 (bl 59 d.1 0 d.2).bind fun t2 =>
 (ld 3 t2 d.2).bind fun t3 =>
 (bl 26 p.1 1 d.2).bind fun t4 =>
 (ld 22 t4 d.2).bind fun t5 =>
 (bM prog 22 t5 d.2).bind fun t6 =>
 (bin .eql 3 false false t3 t6).bind fun t7 =>
 (ew t7 ((bl 59 d.1 1 d.2).bind fun t8 =>
 (ld 3 t8 d.2).bind fun t9 =>
 (C 47 [snap d.2 t9,snap d.2 (A.v (.int .i64 0)),snap d.2 (A.v (.int .i64 1))]).bind fun t10=>some [t10,t10,t9,t8]) (some [A.v (.bool false),ud,ud,ud])).bind fun l8=>kb l8 fun y cc ch ck cm =>
 (ky y true ((bl 59 d.1 2 d.2).bind fun t13 =>
 (ld 3 t13 d.2).bind fun t14 =>
 (ld 26 p.1 d.2).bind fun t15 =>
 (C 74 [snap d.2 t15]).bind fun t16=>some [t16,t15,t14,t13]) (some [ud,ud,ud,ud])).bind fun ad=>kb ad fun an cn u16 cv cy =>
 (ew y ((bin .gtr 3 false false u16 an).bind fun t18=>some [t18,t18]) (some [A.v (.bool false),ud])).bind fun ao=>jk ao fun bm dd ea =>
 (ew bm ((bl 59 d.1 2 d.2).bind fun t21 =>
 (ld 3 t21 d.2).bind fun t22 =>
 (bin .leq 3 false true t22 (A.v (.int .i64 4096))).bind fun t23=>some [t23,t23,t22,t21]) (some [A.v (.bool false),ud,ud,ud])).bind fun bs=>kb bs fun ca eg ej en fs=>some (Out.ret ca,d.2):=by kernel_rfl
theorem OI (y x1:A):aB (cx C) call rg n 51 [y,x1] H lo =
 (dq y H).bind fun p =>
 (dq x1 p.2).bind fun d =>
 (bl 26 p.1 2 d.2).bind fun t2 =>
 (ld 23 t2 d.2).bind fun t3 =>
 (bM prog 23 t3 d.2).bind fun t4 =>
 (ld 26 p.1 d.2).bind fun t5 =>
 (bl 62 d.1 0 d.2).bind fun t6 =>
 (ld 3 t6 d.2).bind fun t7 =>
 (C 75 [snap d.2 t5,snap d.2 t7]).bind fun t8 =>
 (ky t8 true ((bin .eql 3 false true t4 (A.v (.int .i64 0))).bind fun t9 =>
 (ky t9 false ((bl 62 d.1 0 d.2).bind fun t10 =>
 (ld 3 t10 d.2).bind fun t11 =>
 (bl 26 p.1 2 d.2).bind fun t12 =>
 (ld 23 t12 d.2).bind fun t13 =>
 (bin .sub 3 false true t4 (A.v (.int .i64 1))).bind fun t14 =>
 (ax prog 23 t13 t14 d.2).bind fun t15 =>
 (bl 62 t15 0 d.2).bind fun t16 =>
 (ld 3 t16 d.2).bind fun t17=>some [t17,t16,t15,t14,t4,t13,t12,t11,t10]) (some [ud,ud,ud,ud,ud,ud,ud,ud,ud])).bind fun cc=>vP cc fun ad an ao bm bs u16 u ca ch=>jR ch fun q en=>some [ad,an,ao,bm,bs,u16,u,ca,q,t9,t9,t4]) (some [ud,ud,ud,ud,ud,ud,ud,ud,ud,ud,ud,ud])).bind fun l9=>vP l9 fun cm ad an ao bm bs u16 u cn=>kb cn fun ca q fs fv ha =>
 (ky q false ((bin .gtr 3 false false u cm).bind fun t22=>some [t22]) (some [ud])).bind fun cv=>jR cv fun cy hf =>
 (ew t8 ((ew q (some (A.v (.bool true))) (some cy)).bind fun t24=>some [t24,t24]) (some [A.v (.bool false),ud])).bind fun dd=>jk dd fun ea hg hh =>
 (ew ea ((bl 62 d.1 1 d.2).bind fun t27 =>
 (ld 3 t27 d.2).bind fun t28 =>
 (C 47 [snap d.2 t28,snap d.2 (A.v (.int .i64 1)),snap d.2 (A.v (.int .i64 8))]).bind fun t29=>some [t29,t29,t28,t27]) (some [A.v (.bool false),ud,ud,ud])).bind fun eg=>kb eg fun ej hi hj hk ho=>some (Out.ret ej,d.2):=by kernel_rfl
theorem wy (u y:A):aB (cx C) call rg n 53 [u,y] H lo =
 (dq u H).bind fun r0 =>
 (fI 26 r0.2).bind fun d =>
 (call 37 [y] d.2 lo).bind fun p=>bJ p.1 (fun a3 =>
 (bin .neq 31 false true a3 (A.v (.int .i64 0))).bind fun t4=>bD t4 ((bE prog 26 []).bind fun t5 =>
 (cu 26 d.1 (b9 d.1 p.2 t5) p.2 lo).bind fun q =>
 (ld 26 d.1 q).bind fun t7=>some (Out.ret (A.tup [t7,a3]),q)) ((ld 26 r0.1 p.2).bind fun t5 =>
 (cu 26 d.1 (b9 d.1 p.2 t5) p.2 lo).bind fun q =>
 (ld 26 d.1 q).bind fun t7=>some (Out.ret (A.tup [t7,A.v (.int .i64 0)]),q))) fun a3=>some (Out.pan a3,p.2):=by kernel_rfl
theorem Kg (q d:A):aB (cx C) call rg n 55 [q,d] H lo =
 (bl 26 d 1 H).bind fun t0 =>
 (ld 22 t0 H).bind fun t1 =>
 (bl 26 d 2 H).bind fun t2 =>
 (ld 23 t2 H).bind fun t3 =>
 (bl 26 d 3 H).bind fun t4 =>
 (ld 24 t4 H).bind fun t5 =>
 (bM prog 24 t5 H).bind fun t6=>aK (cx C) call rg n 55 lo 0 (List.length H) (fun i7 p=>bif Nat.beq i7 0 then some (Out.ret (A.tup []),St.H p) else none) (fun i7 p=>none) (fun u=>some (Out.ret (A.tup []),St.H u)) (fun i7 p=>some (Out.pan i7,St.H p)) n (St.mk [(0,q),(3,t1),(4,t3),(13,t5),(14,t6),(15,A.v (.int .i64 0))] H):=by kernel_rfl
theorem OJ (y:A):aB (cx C) call rg n 56 [y] H lo =
 (dq y H).bind fun d =>
 (ld 98 d.1 d.2).bind fun t1 =>
 (C 76 [snap d.2 t1]).bind fun t2 =>
 (bin .neq 31 false true t2 (A.v (.int .i64 0))).bind fun t3=>bD t3 (some (Out.ret (A.tup [A.imm [] true,t2]),d.2)) ((bl 98 d.1 0 d.2).bind fun t4 =>
 (ld 3 t4 d.2).bind fun t5 =>
 (ld 98 d.1 d.2).bind fun t6=>bif bif cJ 0 d.1 then bif cJ 0 t4 then bif cJ 0 d.1 then true else false else false else false then
 (call 77 [] d.2 (List.length d.2)).bind fun p=>bJ p.1 (fun q =>
 (dF q p.2).bind fun t9 =>
 (ax prog 138 t9 t5 p.2).bind fun t10 =>
 (bl 121 t10 0 p.2).bind fun t11 =>
 (ld 119 t11 p.2).bind fun t12=>dA (cx C) call t12 [A.imm [] true,t6] p.2 lo (fun i13 u=>some (Out.ret (A.tup [i13,A.v (.int .i64 0)]),u)) fun i13 u=>some (Out.pan i13,u)) fun q=>some (Out.pan q,p.2) else none):=by kernel_rfl
theorem OK (x0:A):aB (cx C) call rg n 59 [x0] H lo =
 (fI 98 H).bind fun d =>
 (fI 31 d.2).bind fun p =>
 (bE prog 128 [(0,x0)]).bind fun t2 =>
 (dq t2 p.2).bind fun r3 =>
 (call 82 [r3.1,A.v (.int .i64 0)] r3.2 lo).bind fun u=>bJ u.1 (fun a5 =>
 (cu 98 d.1 (b9 d.1 u.2 a5) u.2 lo).bind fun y =>
 (dF r3.1 y).bind fun t7 =>
 (bl 128 t7 0 y).bind fun t8 =>
 (ld 30 t8 y).bind fun t9 =>
 (bM prog 30 t9 y).bind fun t10 =>
 (bin .eql 3 false true t10 (A.v (.int .i64 0))).bind fun t11 =>
 (call 83 [r3.1,t11] y lo).bind fun q=>bJ q.1 (fun an =>
 (ld 98 d.1 q.2).bind fun t14 =>
 (cu 98 d.1 (b9 d.1 q.2 t14) q.2 lo).bind fun cc =>
 (cu 31 p.1 (b9 p.1 cc (A.v (.int .i64 0))) cc lo).bind fun ab =>
 (bin .neq 20 false true (A.v Value.nilIface) (A.v Value.nilIface)).bind fun t17=>bD t17 ((bE prog 98 []).bind fun t18 =>
 (lK prog (A.v Value.nilIface) 31 false).bind fun t19 =>
 (cu 98 d.1 (b9 d.1 ab t18) ab lo).bind fun ch =>
 (cu 31 p.1 (b9 p.1 ch t19) ch lo).bind fun ao =>
 (ld 98 d.1 ao).bind fun t22 =>
 (ld 31 p.1 ao).bind fun t23=>some (Out.ret (A.tup [t22,t23]),ao)) ((ld 98 d.1 ab).bind fun t18 =>
 (ld 31 p.1 ab).bind fun t19=>some (Out.ret (A.tup [t18,t19]),ab))) fun an =>
 (bin .neq 20 false true an (A.v Value.nilIface)).bind fun t14=>bD t14 ((bE prog 98 []).bind fun t15 =>
 (lK prog an 31 false).bind fun t16 =>
 (cu 98 d.1 (b9 d.1 q.2 t15) q.2 lo).bind fun ck =>
 (cu 31 p.1 (b9 p.1 ck t16) ck lo).bind fun bm =>
 (ld 98 d.1 bm).bind fun t19 =>
 (ld 31 p.1 bm).bind fun t20=>some (Out.ret (A.tup [t19,t20]),bm)) ((ld 98 d.1 q.2).bind fun t15 =>
 (ld 31 p.1 q.2).bind fun t16=>some (Out.ret (A.tup [t15,t16]),q.2))) fun a5 =>
 (bin .neq 20 false true a5 (A.v Value.nilIface)).bind fun t6=>bD t6 ((bE prog 98 []).bind fun t7 =>
 (lK prog a5 31 false).bind fun t8 =>
 (cu 98 d.1 (b9 d.1 u.2 t7) u.2 lo).bind fun H9 =>
 (cu 31 p.1 (b9 p.1 H9 t8) H9 lo).bind fun bs =>
 (ld 98 d.1 bs).bind fun t11 =>
 (ld 31 p.1 bs).bind fun t12=>some (Out.ret (A.tup [t11,t12]),bs)) ((ld 98 d.1 u.2).bind fun t7 =>
 (ld 31 p.1 u.2).bind fun t8=>some (Out.ret (A.tup [t7,t8]),u.2)):=by kernel_rfl
theorem MQ (d:A):aB (cx C) call rg n 60 [d] H lo =
 (bM prog 22 d H).bind fun t0 =>
 (bM prog 22 d H).bind fun t1 =>
 (ef prog 22 d none (some t0) (some t1) H).bind fun t2=>some (Out.ret t2,H):=by kernel_rfl
theorem MR (d:A):aB (cx C) call rg n 61 [d] H lo =
 (bM prog 23 d H).bind fun t0 =>
 (bM prog 23 d H).bind fun t1 =>
 (ef prog 23 d none (some t0) (some t1) H).bind fun t2=>some (Out.ret t2,H):=by kernel_rfl
theorem MS (d:A):aB (cx C) call rg n 62 [d] H lo =
 (bM prog 24 d H).bind fun t0 =>
 (bM prog 24 d H).bind fun t1 =>
 (ef prog 24 d none (some t0) (some t1) H).bind fun t2=>some (Out.ret t2,H):=by kernel_rfl
theorem MT (x0 x1 x2:A):aB (cx C) call rg n 69 [x0,x1,x2] H lo =
 (dq x0 H).bind fun y =>
 (dq x1 y.2).bind fun r1 =>
 (dq x2 r1.2).bind fun r2 =>
 (fI 4 r2.2).bind fun d =>
 (ld 81 y.1 d.2).bind fun t4 =>
 (ld 3 r1.1 d.2).bind fun t5 =>
 (dF t4 d.2).bind fun t6 =>
 (bl 83 t6 0 d.2).bind fun t7 =>
 (bl 44 t7 0 d.2).bind fun t8 =>
 (ax prog 40 t8 t5 d.2).bind fun t9 =>
 (ld 26 t9 d.2).bind fun t10 =>
 (call 28 [t10] d.2 lo).bind fun q=>bJ q.1 (fun ad =>
 (AW prog ad).bind fun ca=>bif Nat.ble lo (List.length q.2) then
 (rg (nM 124 call (List.length q.2) (gK (cx C) call rg n 69 lo 0 (List.length q.2) [(3,y.1),(4,r1.1),(5,r2.1),(6,d.1)])) ca.1 (A.yld (List.length q.2) :: ca.2) (q.2++[aD.rng cp.ready]) lo).bind fun cc=>bJ cc.1 (fun ch=>mg (List.length q.2) cc.2 (fun p =>
 (cu 4 d.1 (b9 d.1 p (A.v (.bool false))) p lo).bind fun u =>
 (ld 4 d.1 u).bind fun t18=>some (Out.ret t18,u)) (fun i16 p=>bif Nat.beq i16 0 then
 (cu 4 d.1 (b9 d.1 p (A.v (.bool false))) p lo).bind fun u =>
 (ld 4 d.1 u).bind fun t18=>some (Out.ret t18,u) else none) (fun i16 p=>none) fun p =>
 (ld 4 d.1 p).bind fun t17=>some (Out.ret t17,p)) fun ch=>none else none) fun ad=>some (Out.pan ad,q.2):=by kernel_rfl
theorem MU (d:A):aB (cx C) call rg n 70 [d] H lo =
 (dq d H).bind fun p=>some (Out.ret (A.fn (Fn.func 85) [] [p.1]),p.2):=by kernel_rfl
theorem La (d:A):aB (cx C) call rg n 71 [d] H lo =
 (dq d H).bind fun p=>some (Out.ret (A.fn (Fn.func 86) [] [p.1]),p.2):=by kernel_rfl
theorem Kh (p u q:A):aB (cx C) call rg n 72 [p,u,q] H lo =
 (dq u H).bind fun y =>
 (bin .eql 31 false true q (A.v (.int .i64 0))).bind fun t1 =>
 (call 46 [t1,q] y.2 lo).bind fun d=>bJ d.1 (fun a3 =>
 (dF p d.2).bind fun t4 =>
 (bl 83 t4 1 d.2).bind fun t5 =>
 (ld 3 t5 d.2).bind fun t6 =>
 (ld 26 y.1 d.2).bind fun t7 =>
 (dF p d.2).bind fun t8 =>
 (bl 83 t8 0 d.2).bind fun t9 =>
 (bl 44 t9 0 d.2).bind fun t10 =>
 (ax prog 40 t10 t6 d.2).bind fun t11 =>
 (cu 26 t11 (b9 t11 d.2 t7) d.2 lo).bind fun ab=>some (Out.ret (A.tup []),ab)) fun a3=>some (Out.pan a3,d.2):=by kernel_rfl
theorem OL (x0 x1:A):aB (cx C) call rg n 73 [x0,x1] H lo =
 (dq x0 H).bind fun r0 =>
 (dq x1 r0.2).bind fun r1 =>
 (fI 26 r1.2).bind fun p =>
 (fI 31 p.2).bind fun q =>
 (ld 26 r0.1 q.2).bind fun t4 =>
 (C 20 [snap q.2 t4]).bind fun t5 =>
 (bin .eql 31 false true t5 (A.v (.int .i64 0))).bind fun t6 =>
 (call 46 [t6,A.v (.int .i64 530)] q.2 lo).bind fun d=>bJ d.1 (fun a8 =>
 (bl 26 r0.1 1 d.2).bind fun t9 =>
 (ld 22 t9 d.2).bind fun t10 =>
 (ld 59 r1.1 d.2).bind fun t11 =>
 (C 88 [snap d.2 t10,snap d.2 t11]).bind fun t12=>bD t12 ((ld 26 r0.1 d.2).bind fun t13 =>
 (cu 26 p.1 (b9 p.1 d.2 t13) d.2 lo).bind fun an =>
 (cu 31 q.1 (b9 q.1 an (A.v (.int .i64 0))) an lo).bind fun ao =>
 (ld 26 p.1 ao).bind fun t16 =>
 ((call 53 [t16,A.v Value.nilIface] ao (List.length ao)).bind fun ej=>nd (List.length ao) ej).bind fun t17 =>
 (aI t17 0).bind fun t18 =>
 (aI t17 1).bind fun t19 =>
 (cu 26 p.1 (b9 p.1 ao t18) ao lo).bind fun cv =>
 (cu 31 q.1 (b9 q.1 cv t19) cv lo).bind fun ca =>
 (ld 26 p.1 ca).bind fun t22 =>
 (ld 31 q.1 ca).bind fun t23=>some (Out.ret (A.tup [t22,t23]),ca)) ((bl 26 r0.1 1 d.2).bind fun t13 =>
 (ld 22 t13 d.2).bind fun t14 =>
 (bl 26 r0.1 1 d.2).bind fun t15 =>
 (ld 22 t15 d.2).bind fun t16 =>
 (bM prog 22 t16 d.2).bind fun t17 =>
 (bin .sub 3 false true t17 (A.v (.int .i64 1))).bind fun t18 =>
 (ax prog 22 t14 t18 d.2).bind fun t19 =>
 (bl 59 t19 1 d.2).bind fun t20 =>
 (ld 3 t20 d.2).bind fun t21 =>
 (bl 26 r0.1 0 d.2).bind fun t22 =>
 (ld 3 t22 d.2).bind fun t23 =>
 (bin .neq 3 false false t21 t23).bind fun t24 =>
 (ky t24 true ((ld 26 r0.1 d.2).bind fun t25 =>
 (ld 59 r1.1 d.2).bind fun t26=>some [t26,t25]) (some [ud,ud])).bind fun en=>jk en fun fs fv hk =>
 (ew t24 ((C 50 [snap d.2 fv,snap d.2 fs]).bind fun t28=>some [t28,t28]) (some [A.v (.bool false),ud])).bind fun ha=>jk ha fun hf ho hp =>
 (call 46 [hf,A.v (.int .i64 530)] d.2 lo).bind fun y=>bJ y.1 (fun cy =>
 (bl 26 r0.1 1 y.2).bind fun t33 =>
 (ld 22 t33 y.2).bind fun t34 =>
 (bM prog 22 t34 y.2).bind fun t35 =>
 (bin .lss 3 false true t35 (A.v (.int .i64 256))).bind fun t36 =>
 (call 46 [t36,A.v (.int .i64 2)] y.2 lo).bind fun u=>bJ u.1 (fun dd =>
 (ld 26 r0.1 u.2).bind fun t39 =>
 (ld 59 r1.1 u.2).bind fun t40 =>
 (bE prog 72 [(0,A.v (.bool true)),(1,t40)]).bind fun t41 =>
 (C 33 [snap u.2 t39,snap u.2 t41]).bind fun t42 =>
 (cu 26 p.1 (b9 p.1 u.2 t42) u.2 lo).bind fun bm =>
 (cu 31 q.1 (b9 q.1 bm (A.v (.int .i64 0))) bm lo).bind fun ad =>
 (ld 26 p.1 ad).bind fun t45 =>
 ((call 53 [t45,A.v Value.nilIface] ad (List.length ad)).bind fun hg=>nd (List.length ad) hg).bind fun t46 =>
 (aI t46 0).bind fun t47 =>
 (aI t46 1).bind fun t48 =>
 (cu 26 p.1 (b9 p.1 ad t47) ad lo).bind fun ea =>
 (cu 31 q.1 (b9 q.1 ea t48) ea lo).bind fun cc =>
 (ld 26 p.1 cc).bind fun t51 =>
 (ld 31 q.1 cc).bind fun t52=>some (Out.ret (A.tup [t51,t52]),cc)) fun dd =>
 (ld 26 p.1 u.2).bind fun t39 =>
 ((call 53 [t39,dd] u.2 (List.length u.2)).bind fun hh=>nd (List.length u.2) hh).bind fun t40 =>
 (aI t40 0).bind fun t41 =>
 (aI t40 1).bind fun t42 =>
 (cu 26 p.1 (b9 p.1 u.2 t41) u.2 lo).bind fun bm =>
 (cu 31 q.1 (b9 q.1 bm t42) bm lo).bind fun ad =>
 (ld 26 p.1 ad).bind fun t45 =>
 (ld 31 q.1 ad).bind fun t46=>some (Out.ret (A.tup [t45,t46]),ad)) fun cy =>
 (ld 26 p.1 y.2).bind fun t33 =>
 ((call 53 [t33,cy] y.2 (List.length y.2)).bind fun hi=>nd (List.length y.2) hi).bind fun t34 =>
 (aI t34 0).bind fun t35 =>
 (aI t34 1).bind fun t36 =>
 (cu 26 p.1 (b9 p.1 y.2 t35) y.2 lo).bind fun u =>
 (cu 31 q.1 (b9 q.1 u t36) u lo).bind fun ch =>
 (ld 26 p.1 ch).bind fun t39 =>
 (ld 31 q.1 ch).bind fun t40=>some (Out.ret (A.tup [t39,t40]),ch))) fun a8 =>
 (ld 26 p.1 d.2).bind fun t9 =>
 ((call 53 [t9,a8] d.2 (List.length d.2)).bind fun hj=>nd (List.length d.2) hj).bind fun t10 =>
 (aI t10 0).bind fun t11 =>
 (aI t10 1).bind fun t12 =>
 (cu 26 p.1 (b9 p.1 d.2 t11) d.2 lo).bind fun eg =>
 (cu 31 q.1 (b9 q.1 eg t12) eg lo).bind fun an =>
 (ld 26 p.1 an).bind fun t15 =>
 (ld 31 q.1 an).bind fun t16=>some (Out.ret (A.tup [t15,t16]),an):=by kernel_rfl
theorem OM (p:A):aB (cx C) call rg n 74 [p] H lo =
 (dq p H).bind fun d =>
 (bl 26 d.1 1 d.2).bind fun t1 =>
 (ld 22 t1 d.2).bind fun t2 =>
 (bM prog 22 t2 d.2).bind fun t3 =>
 (bin .gtr 3 false true t3 (A.v (.int .i64 0))).bind fun t4=>bD t4 ((bl 26 d.1 1 d.2).bind fun t5 =>
 (ld 22 t5 d.2).bind fun t6 =>
 (bin .sub 3 false true t3 (A.v (.int .i64 1))).bind fun t7 =>
 (ax prog 22 t6 t7 d.2).bind fun t8 =>
 (bl 59 t8 2 d.2).bind fun t9 =>
 (ld 3 t9 d.2).bind fun t10=>some (Out.ret t10,d.2)) (some (Out.ret (A.v (.int .i64 0)),d.2)):=by kernel_rfl
theorem ON (u y:A):aB (cx C) call rg n 75 [u,y] H lo =
 (dq u H).bind fun q =>
 (dq y q.2).bind fun p =>
 (bl 26 q.1 1 p.2).bind fun t2 =>
 (ld 22 t2 p.2).bind fun t3 =>
 (call 89 [t3,A.fn (Fn.func 90) [] [p.1]] p.2 lo).bind fun d=>bJ d.1 (fun a5 =>
 (ld 3 p.1 d.2).bind fun t6 =>
 (bin .geq 3 false true t6 (A.v (.int .i64 0))).bind fun t7 =>
 (ew t7 ((bin .geq 3 false true a5 (A.v (.int .i64 0))).bind fun t8=>some [t8,t8,a5]) (some [A.v (.bool false),ud,ud])).bind fun l8=>jk l8 fun u9 ch an=>jR an fun ck cm =>
 (ky u9 true ((bl 26 q.1 1 d.2).bind fun t12 =>
 (ld 22 t12 d.2).bind fun t13 =>
 (ax prog 22 t13 a5 d.2).bind fun t14 =>
 (bl 59 t14 1 d.2).bind fun t15 =>
 (ld 3 t15 d.2).bind fun t16 =>
 (bl 26 q.1 0 d.2).bind fun t17 =>
 (ld 3 t17 d.2).bind fun t18=>some [t18,t17,t16,t15,t14,a5,t13,t12]) (some [ud,ud,ud,ud,ud,ud,ud,ud])).bind fun ao=>vP ao fun bm cn bs u16 cv cy dd ea eg =>
 (ew u9 ((bin .eql 3 false false bs bm).bind fun t21=>some [t21,t21]) (some [A.v (.bool false),ud])).bind fun ca=>jk ca fun cc ej en=>some (Out.ret cc,d.2)) fun a5=>some (Out.pan a5,d.2):=by kernel_rfl
theorem OO (p:A):aB (cx C) call rg n 76 [p] H lo =
 (dq p H).bind fun d =>
 (ld 98 d.1 d.2).bind fun t1 =>
 (C 91 [snap d.2 t1]).bind fun t2 =>
 (aI t2 0).bind fun t3 =>
 (aI t2 1).bind fun t4 =>
 (jS prog UnOp.not t4).bind fun t5=>bD t5 (some (Out.ret (A.v (.int .i64 1)),d.2)) ((bin .gtr 3 false true t3 (A.v (.int .i64 16))).bind fun t6=>bD t6 (some (Out.ret (A.v (.int .i64 2)),d.2)) (some (Out.ret (A.v (.int .i64 0)),d.2))):=by kernel_rfl
theorem OP:aB (cx C) call rg n 77 [] H lo =
 (bE prog 138 []).bind fun t0 =>
 (dq t0 H).bind fun y =>
 (fI 122 y.2).bind fun d =>
 (cu 122 d.1 (b9 d.1 d.2 y.1) d.2 lo).bind fun p =>
 (ld 122 d.1 p).bind fun t4 =>
 (dF t4 p).bind fun t5 =>
 (ax prog 138 t5 (A.v (.int .i64 1)) p).bind fun t6 =>
 (bl 121 t6 0 p).bind fun t7 =>
 (cu 119 t7 (b9 t7 p (A.fn (Fn.func 92) [] [])) p lo).bind fun q =>
 (ld 122 d.1 q).bind fun t9 =>
 (dF t9 q).bind fun t10 =>
 (ax prog 138 t10 (A.v (.int .i64 2)) q).bind fun t11 =>
 (bl 121 t11 0 q).bind fun t12 =>
 (cu 119 t12 (b9 t12 q (A.fn (Fn.func 95) [] [])) q lo).bind fun u =>
 (ld 122 d.1 u).bind fun t14 =>
 (dF t14 u).bind fun t15 =>
 (ax prog 138 t15 (A.v (.int .i64 3)) u).bind fun t16 =>
 (bl 121 t16 0 u).bind fun t17 =>
 (cu 119 t17 (b9 t17 u (A.fn (Fn.func 96) [] [d.1])) u lo).bind fun ab =>
 (ld 122 d.1 ab).bind fun t19=>some (Out.ret t19,ab):=by kernel_rfl
theorem OQ (u x1:A):aB (cx C) call rg n 82 [u,x1] H lo =
 (fI 98 H).bind fun d =>
 (call 101 [u,A.v (.int .i64 1)] d.2 lo).bind fun H1=>bJ H1.1 (fun a2 =>
 (ax prog 30 a2 (A.v (.int .i64 0)) H1.2).bind fun t3 =>
 (ld 5 t3 H1.2).bind fun t4 =>
 (cd prog 5 3 t4 H1.2).bind fun t5 =>
 (bl 98 d.1 0 H1.2).bind fun t6 =>
 (cu 3 t6 (b9 t6 H1.2 t5) H1.2 lo).bind fun H7 =>
 (bl 98 d.1 0 H7).bind fun t8 =>
 (ld 3 t8 H7).bind fun t9 =>
 (bin .eql 3 false true t9 (A.v (.int .i64 1))).bind fun t10=>bD t10 ((call 103 [u] H7 lo).bind fun an=>bJ an.1 (fun cc =>
 (C 102 [snap an.2 cc]).bind fun t13 =>
 (bl 98 d.1 1 an.2).bind fun t14 =>
 (cu 3 t14 (b9 t14 an.2 t13) an.2 lo).bind fun ch =>
 (ld 98 d.1 ch).bind fun t16 =>
 (cu 98 d.1 (b9 d.1 ch t16) ch lo).bind fun cy =>
 (ld 98 d.1 (aX lo 3 0 d.1 cy)).bind fun t18=>some (Out.ret t18,aX lo 3 0 d.1 cy)) fun cc=>some (Out.pan cc,an.2)) ((bin .eql 3 false true t9 (A.v (.int .i64 2))).bind fun t11=>bD t11 ((call 104 [u] H7 lo).bind fun ck=>bJ ck.1 (fun cm =>
 (call 101 [u,cm] ck.2 lo).bind fun q=>bJ q.1 (fun ao =>
 (cd prog 30 9 ao q.2).bind fun t16 =>
 (bl 98 d.1 2 q.2).bind fun t17 =>
 (cu 9 t17 (b9 t17 q.2 t16) q.2 lo).bind fun cn =>
 (ld 98 d.1 cn).bind fun t19 =>
 (cu 98 d.1 (b9 d.1 cn t19) cn lo).bind fun y =>
 (ld 98 d.1 (aX lo 3 0 d.1 y)).bind fun t21=>some (Out.ret t21,aX lo 3 0 d.1 y)) fun ao=>some (Out.pan ao,q.2)) fun cm=>some (Out.pan cm,ck.2)) ((bin .eql 3 false true t9 (A.v (.int .i64 3))).bind fun t12=>bD t12 ((bin .lss 3 false true x1 (A.v (.int .i64 16))).bind fun t13 =>
 (call 83 [u,t13] H7 lo).bind fun q=>bJ q.1 (fun ao =>
 (call 104 [u] q.2 lo).bind fun ab=>bJ ab.1 (fun cv=>aK (cx C) call rg n 82 lo 0 (List.length (aX lo 3 5 d.1 ab.2)) (fun i18 p=>bif Nat.beq i18 1 then
 (ld 98 (lk p 4) (St.H p)).bind fun t19 =>
 (cu 98 (lk p 4) (b9 (lk p 4) (St.H p) t19) (St.H p) lo).bind fun y =>
 (ld 98 (lk p 4) (aX lo 3 0 (lk p 4) y)).bind fun t21=>some (Out.ret t21,aX lo 3 0 (lk p 4) y) else bif Nat.beq i18 0 then
 (ld 98 (lk p 4) (St.H p)).bind fun t19 =>
 (cu 98 (lk p 4) (b9 (lk p 4) (St.H p) t19) (St.H p) lo).bind fun y =>
 (ld 98 (lk p 4) (aX lo 3 0 (lk p 4) y)).bind fun t21=>some (Out.ret t21,aX lo 3 0 (lk p 4) y) else none) (fun i18 p=>none) (fun bm =>
 (ld 98 (lk bm 4) (aX lo 3 0 (lk bm 4) (St.H bm))).bind fun t19=>some (Out.ret t19,aX lo 3 0 (lk bm 4) (St.H bm))) (fun i18 p=>some (Out.pan i18,St.H p)) n (St.mk [(0,u),(1,x1),(4,d.1),(36,cv),(37,A.v (.int .i64 0))] (aX lo 3 5 d.1 ab.2))) fun cv=>some (Out.pan cv,ab.2)) fun ao=>some (Out.pan ao,q.2)) ((call 83 [u,A.v (.bool false)] H7 lo).bind fun bs=>bJ bs.1 (fun dd =>
 (ld 98 d.1 bs.2).bind fun t15 =>
 (cu 98 d.1 (b9 d.1 bs.2 t15) bs.2 lo).bind fun ab =>
 (ld 98 d.1 (aX lo 3 0 d.1 ab)).bind fun t17=>some (Out.ret t17,aX lo 3 0 d.1 ab)) fun dd=>some (Out.pan dd,bs.2))))) fun a2=>some (Out.pan a2,H1.2):=by kernel_rfl
theorem D7 (p d:A):aB (cx C) call rg n 83 [p,d] H lo =
 (jS prog UnOp.not d).bind fun t0=>bD t0 ((B9 prog 31 (A.v (.int .i64 10))).bind fun t1=>Ba t1 fun a2=>some (Out.pan a2,H)) (some (Out.ret (A.tup []),H)):=by kernel_rfl
theorem MV (p q:A):aB (cx C) call rg n 85 [p,q] H lo =
 (dq p H).bind fun d =>
 (bl 72 d.1 0 d.2).bind fun t1 =>
 (ld 4 t1 d.2).bind fun t2 =>
 (jS prog UnOp.not t2).bind fun t3 =>
 (ew t3 ((bl 72 d.1 2 d.2).bind fun t4 =>
 (ld 62 t4 d.2).bind fun t5 =>
 (ld 62 q d.2).bind fun t6 =>
 (bin .eql 62 false false t5 t6).bind fun t7=>some [t7,t7,t6,t5,t4]) (some [A.v (.bool false),ud,ud,ud,ud])).bind fun u=>kb u fun y u6 u7 u8 l8=>jR l8 fun u9 l9=>some (Out.ret y,d.2):=by kernel_rfl
theorem MW (p q:A):aB (cx C) call rg n 86 [p,q] H lo =
 (dq p H).bind fun d =>
 (bl 72 d.1 0 d.2).bind fun t1 =>
 (ld 4 t1 d.2).bind fun t2 =>
 (ew t2 ((bl 72 d.1 1 d.2).bind fun t3 =>
 (ld 59 t3 d.2).bind fun t4 =>
 (ld 59 q d.2).bind fun t5 =>
 (bin .eql 59 false false t4 t5).bind fun t6=>some [t6,t6,t5,t4,t3]) (some [A.v (.bool false),ud,ud,ud,ud])).bind fun u=>kb u fun u4 u5 u6 u7 y=>jR y fun u8 l8=>some (Out.ret u4,d.2):=by kernel_rfl
theorem OS (p q:A):aB (cx C) call rg n 88 [p,q] H lo =
 (dq q H).bind fun d =>
 (ld 59 d.1 d.2).bind fun t1 =>
 (C 107 [snap d.2 p,snap d.2 t1]).bind fun t2 =>
 (bin .geq 3 false true t2 (A.v (.int .i64 0))).bind fun t3=>some (Out.ret t3,d.2):=by kernel_rfl
theorem OU (d p:A):aB (cx C) call rg n 89 [d,p] H lo =
 (bM prog 22 d H).bind fun t0=>aK (cx C) call rg n 89 lo 0 (List.length H) (fun i1 s1=>bif Nat.beq i1 0 then some (Out.ret (A.v (.int .i64 (-1))),St.H s1) else none) (fun i1 s1=>none) (fun a1=>some (Out.ret (lk a1 4),St.H a1)) (fun i1 s1=>some (Out.pan i1,St.H s1)) n (St.mk [(0,d),(1,p),(4,A.v (.int .i64 0)),(7,t0),(8,A.v (.int .i64 0))] H):=by kernel_rfl
theorem OV (p q:A):aB (cx C) call rg n 90 [p,q] H lo =
 (dq p H).bind fun d =>
 (ld 3 q d.2).bind fun t1 =>
 (bl 59 d.1 2 d.2).bind fun t2 =>
 (ld 3 t2 d.2).bind fun t3 =>
 (bin .lss 3 false false t1 t3).bind fun t4=>some (Out.ret t4,d.2):=by kernel_rfl
theorem OW (y:A):aB (cx C) call rg n 91 [y] H lo =
 (dq y H).bind fun d =>
 (bl 98 d.1 2 d.2).bind fun t1 =>
 (ld 9 t1 d.2).bind fun t2 =>
 (bin .eql 9 false true t2 (A.v (Value.string (ByteArray.mk #[])))).bind fun t3 =>
 (ew t3 ((bl 98 d.1 3 d.2).bind fun t4 =>
 (ld 96 t4 d.2).bind fun t5 =>
 (bM prog 96 t5 d.2).bind fun t6 =>
 (bin .eql 3 false true t6 (A.v (.int .i64 0))).bind fun t7=>some [t7,t7,t6,t5,t4]) (some [A.v (.bool false),ud,ud,ud,ud])).bind fun l4=>kb l4 fun u5 u6 u7 u8 l8=>jR l8 fun u9 l9 =>
 (bl 98 d.1 1 d.2).bind fun t10 =>
 (ld 3 t10 d.2).bind fun t11 =>
 (bin .eql 3 false true t11 (A.v (.int .i64 0))).bind fun t12 =>
 (ew t12 ((bl 98 d.1 3 d.2).bind fun t13 =>
 (ld 96 t13 d.2).bind fun t14 =>
 (bM prog 96 t14 d.2).bind fun t15 =>
 (bin .eql 3 false true t15 (A.v (.int .i64 0))).bind fun t16=>some [t16,t16,t15,t14,t13]) (some [A.v (.bool false),ud,ud,ud,ud])).bind fun ao=>kb ao fun bm ej u16 en bs=>jR bs fun fs fv =>
 (bl 98 d.1 1 d.2).bind fun t19 =>
 (ld 3 t19 d.2).bind fun t20 =>
 (bin .eql 3 false true t20 (A.v (.int .i64 0))).bind fun t21 =>
 (ew t21 ((bl 98 d.1 2 d.2).bind fun t22 =>
 (ld 9 t22 d.2).bind fun t23 =>
 (bin .eql 9 false true t23 (A.v (Value.string (ByteArray.mk #[])))).bind fun t24=>some [t24,t24,t23,t22]) (some [A.v (.bool false),ud,ud,ud])).bind fun ca=>kb ca fun cc ha hf hg hh =>
 (bE prog 151 [(1,u5),(2,bm),(3,cc)]).bind fun t27 =>
 (fI 151 d.2).bind fun FR =>
 (cu 151 FR.1 (b9 FR.1 FR.2 t27) FR.2 lo).bind fun p =>
 (bl 98 d.1 0 p).bind fun t30 =>
 (ld 3 t30 p).bind fun t31 =>
 (bin .lss 3 false true t31 (A.v (.int .i64 1))).bind fun t32 =>
 (ew t32 (some [A.v (.bool true),ud,ud,ud]) ((bl 98 d.1 0 p).bind fun t33 =>
 (ld 3 t33 p).bind fun t34 =>
 (bin .gtr 3 false true t34 (A.v (.int .i64 3))).bind fun t35=>some [t35,t35,t34,t33])).bind fun ch=>kb ch fun ck hi hj hk ho =>
 (ew ck (some [A.v (.bool true),ud,ud,ud,ud,ud]) ((bl 98 d.1 0 p).bind fun t38 =>
 (ld 3 t38 p).bind fun t39 =>
 (ax prog 151 FR.1 t39 p).bind fun t40 =>
 (ld 4 t40 p).bind fun t41 =>
 (jS prog UnOp.not t41).bind fun t42=>some [t42,t42,t41,t40,t39,t38])).bind fun cm=>kb cm fun cn hp hq hr cv=>jk cv fun hs ht hv=>bD cn (some (Out.ret (A.tup [A.v (.int .i64 0),A.v (.bool false)]),p)) ((bl 98 d.1 0 p).bind fun t45 =>
 (ld 3 t45 p).bind fun t46 =>
 (bin .lss 3 false true t46 (A.v (.int .i64 3))).bind fun t47=>bD t47 (some (Out.ret (A.tup [A.v (.int .i64 0),A.v (.bool true)]),p)) ((bl 98 d.1 3 p).bind fun t48 =>
 (ld 96 t48 p).bind fun t49 =>
 (bM prog 96 t49 p).bind fun t50=>aK (cx C) call rg n 91 lo 0 (List.length p) (fun i51 q=>bif Nat.beq i51 0 then
 (bin .add 3 false true (lk q 2) (A.v (.int .i64 1))).bind fun t52=>some (Out.ret (A.tup [t52,A.v (.bool true)]),St.H q) else none) (fun i51 q=>none) (fun u=>some (Out.ret (A.tup [lk u 2,lk u 3]),St.H u)) (fun i51 q=>some (Out.pan i51,St.H q)) n (St.mk [(2,A.v (.int .i64 0)),(3,A.v (.bool false)),(55,t49),(56,t50),(57,A.v (.int .i64 0))] p))):=by kernel_rfl
theorem Lb (p x1:A):aB (cx C) call rg n 92 [p,x1] H lo =
 (dq x1 H).bind fun q =>
 (ba prog 30 1 [(0,dz q.2 (A.v (.int .u8 1)))]).bind fun t1 =>
 (cK prog 30 30 false p t1 q.2 lo).bind fun d=>bif bif apart q.1 p then true else false then
 (bl 98 q.1 1 d.2).bind fun t3=>bif bif apart t3 p then true else false then
 (ld 3 t3 d.2).bind fun t4 =>
 (C 94 [snap d.2 t4]).bind fun t5 =>
 (call 93 [d.1,t5] d.2 lo).bind fun u=>bJ u.1 (fun y=>some (Out.ret y,u.2)) fun y=>some (Out.pan y,u.2) else none else none:=by kernel_rfl
theorem Fy (p q:A):aB (cx C) call rg n 93 [p,q] H lo=aK (cx C) call rg n 93 lo 0 (List.length H) (fun i0 d=>bif Nat.beq i0 0 then
 (cd prog 140 5 (lk d 1) (St.H d)).bind fun t1 =>
 (ba prog 30 1 [(0,dz (St.H d) t1)]).bind fun t2 =>
 (cK prog 30 30 false (lk d 0) t2 (St.H d) lo).bind fun u=>some (Out.ret u.1,u.2) else none) (fun i0 d=>none) (fun a0=>some (Out.ret (lk a0 4),St.H a0)) (fun i0 d=>some (Out.pan i0,St.H d)) n (St.mk [(0,p),(1,q),(4,A.imm [] true)] H):=by kernel_rfl
theorem OX (d:A):aB (cx C) call rg n 94 [d] H lo =
 (cd prog 3 140 d H).bind fun t0 =>
 (bin .shl 140 false true t0 (A.v (.int .u64 1))).bind fun t1 =>
 (bin .shr 3 false true d (A.v (.int .u64 63))).bind fun t2 =>
 (cd prog 3 140 t2 H).bind fun t3 =>
 (bin .xor 140 false false t1 t3).bind fun t4=>some (Out.ret t4,H):=by kernel_rfl
theorem Lc (p y:A):aB (cx C) call rg n 95 [p,y] H lo =
 (dq y H).bind fun r0 =>
 (tE lo r0.1 r0.2).bind fun d=>bif bif mA (A.v (.int .u8 2)) then true else false then
 (ba prog 30 1 [(0,dz d.2 (A.v (.int .u8 2)))]).bind fun t2 =>
 (bl 98 d.1 2 d.2).bind fun t3 =>
 (ld 9 t3 d.2).bind fun t4 =>
 (bM prog 9 t4 d.2).bind fun t5 =>
 (cd prog 3 140 t5 d.2).bind fun t6 =>
 (bl 98 d.1 2 d.2).bind fun t7 =>
 (ld 9 t7 d.2).bind fun t8=>bif bif apart t7 p then bif apart d.1 p then bif apart t5 p then bif apart t4 p then bif apart t3 p then bif apart d.1 p then true else false else false else false else false else false else false then
 (cK prog 30 30 false p t2 d.2 lo).bind fun r9=>bif bif cJ 1000 t7 then bif cJ 1000 d.1 then true else false else false then
 (call 93 [r9.1,t6] r9.2 lo).bind fun q=>bJ q.1 (fun u =>
 (cK prog 30 9 false u t8 q.2 lo).bind fun an=>some (Out.ret an.1,an.2)) fun u=>some (Out.pan u,q.2) else none else none else none:=by kernel_rfl
theorem MX (p x1 x2:A):aB (cx C) call rg n 96 [p,x1,x2] H lo =
 (dq x1 H).bind fun u =>
 (ba prog 30 1 [(0,dz u.2 (A.v (.int .u8 3)))]).bind fun t1 =>
 (cK prog 30 30 false p t1 u.2 lo).bind fun q=>bif bif apart u.1 p then true else false then
 (bl 98 u.1 3 q.2).bind fun t3=>bif bif apart t3 p then true else false then
 (ld 96 t3 q.2).bind fun t4=>bif bif apart t4 p then true else false then
 (bM prog 96 t4 q.2).bind fun t5=>bif bif apart t5 p then true else false then
 (cd prog 3 140 t5 q.2).bind fun t6 =>
 (call 93 [q.1,t6] q.2 lo).bind fun d=>bJ d.1 (fun a8 =>
 (bl 98 u.1 3 d.2).bind fun t9 =>
 (ld 96 t9 d.2).bind fun t10 =>
 (bM prog 96 t10 d.2).bind fun t11=>aK (cx C) call rg n 96 lo 0 (List.length d.2) (fun i12 y=>bif Nat.beq i12 0 then some (Out.ret (lk y 0),St.H y) else none) (fun i12 y=>none) (fun ao=>some (Out.ret (lk ao 5),St.H ao)) (fun i12 y=>some (Out.pan i12,St.H y)) n (St.mk [(0,a8),(2,x2),(5,A.imm [] true),(17,t10),(18,t11),(19,A.v (.int .i64 0))] d.2)) fun a8=>some (Out.pan a8,d.2) else none else none else none else none:=by kernel_rfl
theorem Gk (p q:A):aB (cx C) call rg n 101 [p,q] H lo =
 (dF p H).bind fun t0 =>
 (bl 128 t0 0 H).bind fun t1 =>
 (ld 30 t1 H).bind fun t2 =>
 (bM prog 30 t2 H).bind fun t3 =>
 (bin .leq 3 false false q t3).bind fun t4 =>
 (call 83 [p,t4] H lo).bind fun d=>bJ d.1 (fun a6 =>
 (dF p d.2).bind fun t7 =>
 (bl 128 t7 0 d.2).bind fun t8 =>
 (ld 30 t8 d.2).bind fun t9 =>
 (ef prog 30 t9 none (some q) (some q) d.2).bind fun t10 =>
 (dF p d.2).bind fun t11 =>
 (bl 128 t11 0 d.2).bind fun t12 =>
 (ld 30 t12 d.2).bind fun t13 =>
 (ef prog 30 t13 (some q) none none d.2).bind fun t14 =>
 (dF p d.2).bind fun t15 =>
 (bl 128 t15 0 d.2).bind fun t16 =>
 (cu 30 t16 (b9 t16 d.2 t14) d.2 lo).bind fun u=>some (Out.ret t10,u)) fun a6=>some (Out.pan a6,d.2):=by kernel_rfl
theorem K6 (d:A):aB (cx C) call rg n 102 [d] H lo =
 (bin .shr 140 false true d (A.v (.int .u64 1))).bind fun t0 =>
 (cd prog 140 3 t0 H).bind fun t1 =>
 (bin .and 140 false true d (A.v (.int .u64 1))).bind fun t2 =>
 (cd prog 140 3 t2 H).bind fun t3 =>
 (jS prog UnOp.neg t3).bind fun t4 =>
 (bin .xor 3 false false t1 t4).bind fun t5=>some (Out.ret t5,H):=by kernel_rfl
theorem Gl (p:A):aB (cx C) call rg n 103 [p] H lo=aK (cx C) call rg n 103 lo 0 (List.length H) (fun i0 d=>bif Nat.beq i0 0 then some (Out.ret (lk d 2),St.H d) else none) (fun i0 d=>none) (fun a0=>some (Out.ret (lk a0 2),St.H a0)) (fun i0 d=>some (Out.pan i0,St.H d)) n (St.mk [(0,p),(2,A.v (.int .u64 0)),(3,A.v (.int .i64 0))] H):=by kernel_rfl
theorem HU (d:A):aB (cx C) call rg n 104 [d] H lo =
 (call 103 [d] H lo).bind fun H0=>bJ H0.1 (fun a1 =>
 (dF d H0.2).bind fun t2 =>
 (bl 128 t2 0 H0.2).bind fun t3 =>
 (ld 30 t3 H0.2).bind fun t4 =>
 (bM prog 30 t4 H0.2).bind fun t5 =>
 (cd prog 3 140 t5 H0.2).bind fun t6 =>
 (bin .leq 140 false false a1 t6).bind fun t7 =>
 (call 83 [d,t7] H0.2 lo).bind fun p=>bJ p.1 (fun q =>
 (cd prog 140 3 a1 p.2).bind fun t10=>some (Out.ret t10,p.2)) fun q=>some (Out.pan q,p.2)) fun a1=>some (Out.pan a1,H0.2):=by kernel_rfl
theorem K7 (p q:A):aB (cx C) call rg n 107 [p,q] H lo =
 (dq q H).bind fun d =>
 (bM prog 22 p d.2).bind fun t1=>aK (cx C) call rg n 107 lo 0 (List.length d.2) (fun i2 s2=>bif Nat.beq i2 0 then some (Out.ret (A.v (.int .i64 (-1))),St.H s2) else none) (fun i2 s2=>none) (fun a2=>some (Out.ret (lk a2 4),St.H a2)) (fun i2 s2=>some (Out.pan i2,St.H s2)) n (St.mk [(0,p),(3,d.1),(4,A.v (.int .i64 0)),(7,t1),(8,A.v (.int .i64 0))] d.2):=by kernel_rfl
theorem K8 (x6 x7 u y vT:A):aK (cx C) call rg n 4 lo 0 L kx kg kr kp (m+1) (St.mk [(6,x6),(7,x7),(30,u),(31,y),(32,vT)] H) =
 (bin .lss 3 false false vT y).bind fun t0=>bD t0 ((ax prog 39 u vT H).bind fun t1 =>
 (ld 49 t1 H).bind fun t2 =>
 (fI 49 H).bind fun r3 =>
 (cu 49 r3.1 (b9 r3.1 r3.2 t2) r3.2 lo).bind fun H4 =>
 (ld 44 x7 H4).bind fun t5 =>
 (ld 49 r3.1 H4).bind fun t6 =>
 (C 17 [snap H4 t5,snap H4 t6]).bind fun t7 =>
 (aI t7 0).bind fun t8 =>
 (aI t7 1).bind fun t9 =>
 (fI 44 H4).bind fun q =>
 (cu 44 q.1 (b9 q.1 q.2 t8) q.2 lo).bind fun p =>
 (bin .neq 31 false true t9 (A.v (.int .i64 0))).bind fun t12=>bD t12 ((ld 44 q.1 p).bind fun t13 =>
 (bE prog 44 []).bind fun t14 =>
 (C 16 [snap p t13,snap p t14]).bind fun t15 =>
 (jS prog UnOp.not t15).bind fun t16=>bD t16 (kr (St.mk [(6,A.v (.bool false)),(7,x7),(30,u),(31,y),(32,vT)] p)) ((bin .add 3 false true vT (A.v (.int .i64 1))).bind fun t17 =>
 (trim L (aX lo 12 0 x7 (aX lo 11 0 x7 (aX lo 10 0 x7 (aX lo 7 0 x7 (aX lo 6 0 x7 (aX lo 5 0 x7 (aX lo 3 0 x7 (aX lo 2 0 x7 (aX lo 1 0 x7 p)))))))))).bind fun ca=>bif bif Nat.beq (List.length (aX lo 12 0 x7 (aX lo 11 0 x7 (aX lo 10 0 x7 (aX lo 7 0 x7 (aX lo 6 0 x7 (aX lo 5 0 x7 (aX lo 3 0 x7 (aX lo 2 0 x7 (aX lo 1 0 x7 p)))))))))) L then true else aL L [(32,t17),(6,x6),(7,x7),(30,u),(31,y)] [6,7,30,31,32] then aK (cx C) call rg n 4 lo 0 L kx kg kr kp m (St.mk [(6,x6),(7,x7),(30,u),(31,y),(32,t17)] ca) else none)) ((ld 44 q.1 p).bind fun t13 =>
 (C 18 [snap p t13]).bind fun t14 =>
 (jS prog UnOp.not t14).bind fun t15 =>
 (ew t15 (some [A.v (.bool true),ud,ud,ud,ud,ud,ud,ud]) ((bl 44 q.1 2 p).bind fun t16 =>
 (ld 22 t16 p).bind fun t17 =>
 (bM prog 22 t17 p).bind fun t18 =>
 (bl 44 x7 2 p).bind fun t19 =>
 (ld 22 t19 p).bind fun t20 =>
 (bM prog 22 t20 p).bind fun t21 =>
 (bin .lss 3 false false t18 t21).bind fun t22=>some [t22,t22,t21,t20,t19,t18,t17,t16])).bind fun cc=>vP cc fun bs ea eg ej en fs fv ha hf =>
 (ky bs false ((bl 44 q.1 2 p).bind fun t25 =>
 (ld 22 t25 p).bind fun t26 =>
 (bl 44 x7 2 p).bind fun t27 =>
 (ld 22 t27 p).bind fun t28 =>
 (bM prog 22 t28 p).bind fun t29 =>
 (ef prog 22 t26 none (some t29) none p).bind fun t30 =>
 (bl 44 x7 2 p).bind fun t31 =>
 (ld 22 t31 p).bind fun t32=>some [t32,t31,t30,t29,t28,t27,t26,t25]) (some [ud,ud,ud,ud,ud,ud,ud,ud])).bind fun ch=>vP ch fun ck hg cm hh hi hj u32 hk ho =>
 (ew bs (some [A.v (.bool true),ud,ud]) ((C 19 [snap p cm,snap p ck]).bind fun t34 =>
 (jS prog UnOp.not t34).bind fun t35=>some [t35,t35,t34])).bind fun cn=>jk cn fun cv hp cy=>jR cy fun hq hr=>bD cv (kr (St.mk [(6,A.v (.bool false)),(7,x7),(30,u),(31,y),(32,vT)] p)) (aK (cx C) call rg n 4 lo 1 (List.length p) (fun i38 d=>bif Nat.beq i38 2 then
 (ld 44 (lk d 11) (St.H d)).bind fun t39 =>
 (cu 44 (lk d 7) (b9 (lk d 7) (St.H d) t39) (St.H d) lo).bind fun bm =>
 (bin .add 3 false true (lk d 32) (A.v (.int .i64 1))).bind fun t41 =>
 (trim L (aX lo 12 0 (lk d 7) (aX lo 11 0 (lk d 7) (aX lo 10 0 (lk d 7) (aX lo 7 0 (lk d 7) (aX lo 6 0 (lk d 7) (aX lo 5 0 (lk d 7) (aX lo 3 0 (lk d 7) (aX lo 2 0 (lk d 7) (aX lo 1 0 (lk d 7) bm)))))))))).bind fun dd=>bif bif Nat.beq (List.length (aX lo 12 0 (lk d 7) (aX lo 11 0 (lk d 7) (aX lo 10 0 (lk d 7) (aX lo 7 0 (lk d 7) (aX lo 6 0 (lk d 7) (aX lo 5 0 (lk d 7) (aX lo 3 0 (lk d 7) (aX lo 2 0 (lk d 7) (aX lo 1 0 (lk d 7) bm)))))))))) L then true else aL L ((32,t41) :: (125,t41) :: (124,t39) :: St.fr d) [6,7,30,31,32] then aK (cx C) call rg n 4 lo 0 L kx kg kr kp m (St.mk [(6,lk d 6),(7,lk d 7),(30,lk d 30),(31,lk d 31),(32,t41)] dd) else none else bif Nat.beq i38 1 then
 (bin .add 3 false true (lk d 32) (A.v (.int .i64 1))).bind fun t39 =>
 (trim L (aX lo 12 0 (lk d 7) (aX lo 11 0 (lk d 7) (aX lo 10 0 (lk d 7) (aX lo 7 0 (lk d 7) (aX lo 6 0 (lk d 7) (aX lo 5 0 (lk d 7) (aX lo 3 0 (lk d 7) (aX lo 2 0 (lk d 7) (aX lo 1 0 (lk d 7) (St.H d))))))))))).bind fun bm=>bif bif Nat.beq (List.length (aX lo 12 0 (lk d 7) (aX lo 11 0 (lk d 7) (aX lo 10 0 (lk d 7) (aX lo 7 0 (lk d 7) (aX lo 6 0 (lk d 7) (aX lo 5 0 (lk d 7) (aX lo 3 0 (lk d 7) (aX lo 2 0 (lk d 7) (aX lo 1 0 (lk d 7) (St.H d))))))))))) L then true else aL L ((32,t39) :: (125,t39) :: St.fr d) [6,7,30,31,32] then aK (cx C) call rg n 4 lo 0 L kx kg kr kp m (St.mk [(6,lk d 6),(7,lk d 7),(30,lk d 30),(31,lk d 31),(32,t39)] bm) else none else kx i38 (St.mk [(6,lk d 6),(7,lk d 7),(30,lk d 30),(31,lk d 31),(32,lk d 32)] (St.H d))) (fun i38 d=>kg i38 (St.mk [(6,lk d 6),(7,lk d 7),(30,lk d 30),(31,lk d 31),(32,lk d 32)] (St.H d))) (fun ab=>kr (St.mk [(6,lk ab 6),(7,lk ab 7),(30,lk ab 30),(31,lk ab 31),(32,lk ab 32)] (St.H ab))) (fun i38 d=>kp i38 (St.mk [(6,lk d 6),(7,lk d 7),(30,lk d 30),(31,lk d 31),(32,lk d 32)] (St.H d))) n (St.mk [(6,x6),(7,x7),(11,q.1),(30,u),(31,y),(32,vT),(72,A.v (.int .i64 0))] p)))) (kx 0 (St.mk [(6,x6),(7,x7),(30,u),(31,y),(32,vT)] H)):=by kernel_rfl
theorem K9 (u x7 kd p q vT d:A):aK (cx C) call rg n 4 lo 1 L kx kg kr kp (m+1) (St.mk [(6,u),(7,x7),(11,kd),(30,p),(31,q),(32,vT),(72,d)] H) =
 (bin .lss 3 false true d (A.v (.int .i64 2))).bind fun t0=>bD t0 ((bl 44 kd 0 H).bind fun t1 =>
 (ax prog 40 t1 d H).bind fun t2 =>
 (ld 26 t2 H).bind fun t3 =>
 (C 20 [snap H t3]).bind fun t4 =>
 (bin .neq 31 false true t4 (A.v (.int .i64 0))).bind fun t5 =>
 (ew t5 (some [A.v (.bool true),ud,ud,ud,ud,ud,ud,ud,ud,ud,ud,ud]) ((bl 44 kd 3 H).bind fun t6 =>
 (ax prog 42 t6 d H).bind fun t7 =>
 (ld 23 t7 H).bind fun t8 =>
 (bM prog 23 t8 H).bind fun t9 =>
 (bl 44 x7 3 H).bind fun t10 =>
 (ax prog 42 t10 d H).bind fun t11 =>
 (ld 23 t11 H).bind fun t12 =>
 (bM prog 23 t12 H).bind fun t13 =>
 (bin .lss 3 false false t9 t13).bind fun t14=>some [t14,t14,t13,t12,t11,t10,d,t9,t8,t7,t6,d])).bind fun l6=>vP l6 fun u7 u8 u9 cy dd ea eg ej an=>kb an fun en u16 fs fv ha =>
 (ew u7 (some [A.v (.bool true),ud,ud,ud,ud,ud,ud,ud,ud,ud,ud,ud,ud,ud,ud,ud,ud]) ((bl 44 kd 3 H).bind fun t19 =>
 (ax prog 42 t19 d H).bind fun t20 =>
 (ld 23 t20 H).bind fun t21 =>
 (bl 44 x7 3 H).bind fun t22 =>
 (ax prog 42 t22 d H).bind fun t23 =>
 (ld 23 t23 H).bind fun t24 =>
 (bM prog 23 t24 H).bind fun t25 =>
 (ef prog 23 t21 none (some t25) none H).bind fun t26 =>
 (bl 44 x7 3 H).bind fun t27 =>
 (ax prog 42 t27 d H).bind fun t28 =>
 (ld 23 t28 H).bind fun t29 =>
 (C 21 [snap H t26,snap H t29]).bind fun t30 =>
 (jS prog UnOp.not t30).bind fun t31=>some [t31,t31,t30,t29,t28,t27,d,t26,t25,t24,t23,t22,d,t21,t20,t19,d])).bind fun ao=>vP ao fun y hf hg hh hi hj hk ho bm=>vP bm fun hp hq hr hs u32 ht hv hx bs=>jR bs fun hy ie =>
 (ky y false ((bl 44 kd 1 H).bind fun t37 =>
 (ax prog 41 t37 d H).bind fun t38 =>
 (ld 3 t38 H).bind fun t39 =>
 (bl 44 x7 1 H).bind fun t40 =>
 (ax prog 41 t40 d H).bind fun t41 =>
 (ld 3 t41 H).bind fun t42=>some [t42,t41,t40,d,t39,t38,t37,d]) (some [ud,ud,ud,ud,ud,ud,ud,ud])).bind fun ca=>vP ca fun cc ih ik js ch kc kk kn ko =>
 (ew y (some [A.v (.bool true),ud]) ((bin .lss 3 false false ch cc).bind fun t46=>some [t46,t46])).bind fun ck=>jk ck fun cm kt lx=>bD cm (kr (St.mk [(6,A.v (.bool false)),(7,x7),(11,kd),(30,p),(31,q),(32,vT),(72,d)] H)) ((bin .add 3 false true d (A.v (.int .i64 1))).bind fun t49 =>
 (trim L H).bind fun cn=>bif bif Nat.beq (List.length H) L then true else aL L [(72,t49),(6,u),(7,x7),(11,kd),(30,p),(31,q),(32,vT)] [6,7,11,30,31,32,72] then aK (cx C) call rg n 4 lo 1 L kx kg kr kp m (St.mk [(6,u),(7,x7),(11,kd),(30,p),(31,q),(32,vT),(72,t49)] cn) else none)) (kx 2 (St.mk [(6,u),(7,x7),(11,kd),(30,p),(31,q),(32,vT),(72,d)] H)):=by kernel_rfl
theorem HV (x4 y p q kz:A):aK (cx C) call rg n 11 lo 0 L kx kg kr kp (m+1) (St.mk [(4,x4),(5,y),(12,p),(13,q),(14,kz)] H) =
 (bin .lss 3 false false kz q).bind fun t0=>bD t0 ((ax prog 27 p kz H).bind fun t1 =>
 (ld 30 t1 H).bind fun t2 =>
 (C 32 [snap H t2]).bind fun t3 =>
 (aI t3 0).bind fun t4 =>
 (aI t3 1).bind fun t5 =>
 (fI 72 H).bind fun u =>
 (cu 72 u.1 (b9 u.1 u.2 t4) u.2 lo).bind fun d =>
 (jS prog UnOp.not t5).bind fun t8=>bD t8 ((bE prog 26 []).bind fun t9 =>
 (cu 26 x4 (b9 x4 d t9) d lo).bind fun ad=>kr (St.mk [(4,x4),(5,A.v (.int .i64 530)),(12,p),(13,q),(14,kz)] ad)) ((ld 26 x4 d).bind fun t9 =>
 (ld 72 u.1 d).bind fun t10 =>
 (C 33 [snap d t9,snap d t10]).bind fun t11 =>
 (cu 26 x4 (b9 x4 d t11) d lo).bind fun ab =>
 (bin .add 3 false true kz (A.v (.int .i64 1))).bind fun t13 =>
 (trim L (aX lo 3 0 x4 (aX lo 2 0 x4 (aX lo 1 0 x4 ab)))).bind fun an=>bif bif Nat.beq (List.length (aX lo 3 0 x4 (aX lo 2 0 x4 (aX lo 1 0 x4 ab)))) L then true else aL L [(14,t13),(4,x4),(5,y),(12,p),(13,q)] [4,5,12,13,14] then aK (cx C) call rg n 11 lo 0 L kx kg kr kp m (St.mk [(4,x4),(5,y),(12,p),(13,q),(14,t13)] an) else none)) (kx 0 (St.mk [(4,x4),(5,y),(12,p),(13,q),(14,kz)] H)):=by kernel_rfl
theorem HW (d q x4 p:A):aK (cx C) call rg n 14 lo 0 L kx kg kr kp (m+1) (St.mk [(2,d),(3,q),(4,x4),(5,p)] H) =
 (bl 26 d 3 H).bind fun t0 =>
 (ld 24 t0 H).bind fun t1 =>
 (bM prog 24 t1 H).bind fun t2 =>
 (bin .lss 3 false false p t2).bind fun t3=>bD t3 ((bl 26 d 3 H).bind fun t4 =>
 (ld 24 t4 H).bind fun t5 =>
 (ax prog 24 t5 p H).bind fun t6 =>
 (ld 4 t6 H).bind fun t7 =>
 (bl 26 q 3 H).bind fun t8 =>
 (ld 24 t8 H).bind fun t9 =>
 (ax prog 24 t9 p H).bind fun t10 =>
 (ld 4 t10 H).bind fun t11 =>
 (bin .neq 4 false false t7 t11).bind fun t12=>bD t12 (kr (St.mk [(2,d),(3,q),(4,A.v (.bool false)),(5,p)] H)) ((bin .add 3 false true p (A.v (.int .i64 1))).bind fun t13 =>
 (trim L H).bind fun u=>bif bif Nat.beq (List.length H) L then true else aL L [(5,t13),(2,d),(3,q),(4,x4)] [2,3,4,5] then aK (cx C) call rg n 14 lo 0 L kx kg kr kp m (St.mk [(2,d),(3,q),(4,x4),(5,t13)] u) else none)) (kx 0 (St.mk [(2,d),(3,q),(4,x4),(5,p)] H)):=by kernel_rfl
theorem HX (d p x4 u x7:A):aK (cx C) call rg n 15 lo 0 L kx kg kr kp (m+1) (St.mk [(0,d),(1,p),(4,x4),(5,u),(7,x7)] H) =
 (bin .lss 3 false true x7 (A.v (.int .i64 2))).bind fun t0=>bD t0 ((C 25 [snap H x7,snap H d,snap H p]).bind fun t1 =>
 (aI t1 0).bind fun t2 =>
 (aI t1 1).bind fun t3 =>
 (bl 44 x4 0 H).bind fun t4 =>
 (ax prog 40 t4 x7 H).bind fun t5 =>
 (cu 26 t5 (b9 t5 H t2) H lo).bind fun q =>
 (bin .neq 31 false true t3 (A.v (.int .i64 0))).bind fun t7=>bD t7 ((bE prog 44 []).bind fun t8 =>
 (cu 44 x4 (b9 x4 q t8) q lo).bind fun H9=>kr (St.mk [(0,d),(1,p),(4,x4),(5,t3),(7,x7)] H9)) ((bl 44 x4 1 q).bind fun t8 =>
 (ax prog 41 t8 x7 q).bind fun t9 =>
 (cu 3 t9 (b9 t9 q (A.v (.int .i64 1))) q lo).bind fun y =>
 (bin .add 3 false true x7 (A.v (.int .i64 1))).bind fun t11 =>
 (trim L (aX lo 7 0 x4 (aX lo 6 0 x4 (aX lo 5 0 x4 (aX lo 3 0 x4 (aX lo 2 0 x4 (aX lo 1 0 x4 y))))))).bind fun ad=>bif bif Nat.beq (List.length (aX lo 7 0 x4 (aX lo 6 0 x4 (aX lo 5 0 x4 (aX lo 3 0 x4 (aX lo 2 0 x4 (aX lo 1 0 x4 y))))))) L then true else aL L [(7,t11),(5,t3),(0,d),(1,p),(4,x4)] [0,1,4,5,7] then aK (cx C) call rg n 15 lo 0 L kx kg kr kp m (St.mk [(0,d),(1,p),(4,x4),(5,t3),(7,t11)] ad) else none)) (kx 0 (St.mk [(0,d),(1,p),(4,x4),(5,u),(7,x7)] H)):=by kernel_rfl
theorem HY (p q x4 d:A):aK (cx C) call rg n 16 lo 0 L kx kg kr kp (m+1) (St.mk [(2,p),(3,q),(4,x4),(5,d)] H) =
 (bin .lss 3 false true d (A.v (.int .i64 2))).bind fun t0=>bD t0 ((bl 44 p 0 H).bind fun t1 =>
 (ax prog 40 t1 d H).bind fun t2 =>
 (ld 26 t2 H).bind fun t3 =>
 (bl 44 q 0 H).bind fun t4 =>
 (ax prog 40 t4 d H).bind fun t5 =>
 (ld 26 t5 H).bind fun t6 =>
 (C 14 [snap H t3,snap H t6]).bind fun t7 =>
 (jS prog UnOp.not t7).bind fun t8 =>
 (ew t8 (some [A.v (.bool true),ud,ud,ud,ud,ud,ud,ud,ud,ud]) ((bl 44 p 1 H).bind fun t9 =>
 (ax prog 41 t9 d H).bind fun t10 =>
 (ld 3 t10 H).bind fun t11 =>
 (bl 44 q 1 H).bind fun t12 =>
 (ax prog 41 t12 d H).bind fun t13 =>
 (ld 3 t13 H).bind fun t14 =>
 (bin .neq 3 false false t11 t14).bind fun t15=>some [t15,t15,t14,t13,t12,d,t11,t10,t9,d])).bind fun y=>vP y fun u ch ck cm cn cv u16 cy ab=>jk ab fun dd ea eg =>
 (ky u false ((bl 44 p 3 H).bind fun t20 =>
 (ax prog 42 t20 d H).bind fun t21 =>
 (ld 23 t21 H).bind fun t22 =>
 (bl 44 q 3 H).bind fun t23 =>
 (ax prog 42 t23 d H).bind fun t24 =>
 (ld 23 t24 H).bind fun t25=>some [t25,t24,t23,d,t22,t21,t20,d]) (some [ud,ud,ud,ud,ud,ud,ud,ud])).bind fun ad=>vP ad fun an ej en fs ao fv ha hf hg =>
 (ew u (some [A.v (.bool true),ud,ud]) ((C 21 [snap H ao,snap H an]).bind fun t29 =>
 (jS prog UnOp.not t29).bind fun t30=>some [t30,t30,t29])).bind fun bm=>jk bm fun bs hh ca=>jR ca fun u32 hi=>bD bs (kr (St.mk [(2,p),(3,q),(4,A.v (.bool false)),(5,d)] H)) ((bin .add 3 false true d (A.v (.int .i64 1))).bind fun t33 =>
 (trim L H).bind fun cc=>bif bif Nat.beq (List.length H) L then true else aL L [(5,t33),(2,p),(3,q),(4,x4)] [2,3,4,5] then aK (cx C) call rg n 16 lo 0 L kx kg kr kp m (St.mk [(2,p),(3,q),(4,x4),(5,t33)] cc) else none)) (kx 0 (St.mk [(2,p),(3,q),(4,x4),(5,d)] H)):=by kernel_rfl
theorem HZ (x1 x2 x3 x4 ab ad q:A):aK (cx C) call rg n 18 lo 0 L kx kg kr kp (m+1) (St.mk [(1,x1),(2,x2),(3,x3),(4,x4),(38,ab),(39,ad),(40,q)] H) =
 (bin .lss 3 false false q ad).bind fun t0=>bD t0 ((ax prog 23 ab q H).bind fun t1 =>
 (ld 62 t1 H).bind fun t2 =>
 (fI 62 H).bind fun u =>
 (cu 62 u.1 (b9 u.1 u.2 t2) u.2 lo).bind fun y =>
 (bl 26 x4 2 y).bind fun t5 =>
 (ld 23 t5 y).bind fun t6 =>
 (bM prog 23 t6 y).bind fun t7=>aK (cx C) call rg n 18 lo 1 (List.length y) (fun i8 d=>bif Nat.beq i8 2 then
 (bin .add 3 false true (lk d 40) (A.v (.int .i64 1))).bind fun t9 =>
 (trim L (St.H d)).bind fun bs=>bif bif Nat.beq (List.length (St.H d)) L then true else aL L ((40,t9) :: (57,t9) :: St.fr d) [1,2,3,4,38,39,40] then aK (cx C) call rg n 18 lo 0 L kx kg kr kp m (St.mk [(1,lk d 1),(2,lk d 2),(3,lk d 3),(4,lk d 4),(38,lk d 38),(39,lk d 39),(40,t9)] bs) else none else bif Nat.beq i8 1 then
 (bin .add 3 false true (lk d 40) (A.v (.int .i64 1))).bind fun t9 =>
 (trim L (St.H d)).bind fun bs=>bif bif Nat.beq (List.length (St.H d)) L then true else aL L ((40,t9) :: (57,t9) :: St.fr d) [1,2,3,4,38,39,40] then aK (cx C) call rg n 18 lo 0 L kx kg kr kp m (St.mk [(1,lk d 1),(2,lk d 2),(3,lk d 3),(4,lk d 4),(38,lk d 38),(39,lk d 39),(40,t9)] bs) else none else kx i8 (St.mk [(1,lk d 1),(2,lk d 2),(3,lk d 3),(4,lk d 4),(38,lk d 38),(39,lk d 39),(40,lk d 40)] (St.H d))) (fun i8 d=>kg i8 (St.mk [(1,lk d 1),(2,lk d 2),(3,lk d 3),(4,lk d 4),(38,lk d 38),(39,lk d 39),(40,lk d 40)] (St.H d))) (fun p=>kr (St.mk [(1,lk p 1),(2,lk p 2),(3,lk p 3),(4,lk p 4),(38,lk p 38),(39,lk p 39),(40,lk p 40)] (St.H p))) (fun i8 d=>kp i8 (St.mk [(1,lk d 1),(2,lk d 2),(3,lk d 3),(4,lk d 4),(38,lk d 38),(39,lk d 39),(40,lk d 40)] (St.H d))) n (St.mk [(1,x1),(2,x2),(3,x3),(4,x4),(6,u.1),(38,ab),(39,ad),(40,q),(45,t6),(46,t7),(47,A.v (.int .i64 0))] y)) (kx 0 (St.mk [(1,x1),(2,x2),(3,x3),(4,x4),(38,ab),(39,ad),(40,q)] H)):=by kernel_rfl
theorem Ia (y x2 x3 x4 p ad an ao q u DM:A):aK (cx C) call rg n 18 lo 1 L kx kg kr kp (m+1) (St.mk [(1,y),(2,x2),(3,x3),(4,x4),(6,p),(38,ad),(39,an),(40,ao),(45,q),(46,u),(47,DM)] H) =
 (bin .lss 3 false false DM u).bind fun t0=>bD t0 ((ax prog 23 q DM H).bind fun t1 =>
 (ld 62 t1 H).bind fun t2 =>
 (fI 62 H).bind fun r3 =>
 (cu 62 r3.1 (b9 r3.1 r3.2 t2) r3.2 lo).bind fun d =>
 (bl 62 p 0 d).bind fun t5 =>
 (ld 3 t5 d).bind fun t6 =>
 (bl 62 r3.1 0 d).bind fun t7 =>
 (ld 3 t7 d).bind fun t8 =>
 (bin .eql 3 false false t6 t8).bind fun t9=>bD t9 (kr (St.mk [(1,y),(2,A.v (.bool false)),(3,x3),(4,x4),(6,p),(38,ad),(39,an),(40,ao),(45,q),(46,u),(47,DM)] d)) ((bin .add 3 false true DM (A.v (.int .i64 1))).bind fun t10 =>
 (trim L d).bind fun ca=>bif bif Nat.beq (List.length d) L then true else aL L [(47,t10),(1,y),(2,x2),(3,x3),(4,x4),(6,p),(38,ad),(39,an),(40,ao),(45,q),(46,u)] [1,2,3,4,6,38,39,40,45,46,47] then aK (cx C) call rg n 18 lo 1 L kx kg kr kp m (St.mk [(1,y),(2,x2),(3,x3),(4,x4),(6,p),(38,ad),(39,an),(40,ao),(45,q),(46,u),(47,t10)] ca) else none)) (kx 2 (St.mk [(1,y),(2,x2),(3,x3),(4,x4),(6,p),(38,ad),(39,an),(40,ao),(45,q),(46,u),(47,DM)] H)):=by kernel_rfl
theorem Ib (x1 x2 p x4 DP q u:A):aK (cx C) call rg n 18 lo 2 L kx kg kr kp (m+1) (St.mk [(1,x1),(2,x2),(3,p),(4,x4),(59,DP),(60,q),(61,u)] H) =
 (bin .lss 3 false false u q).bind fun t0=>bD t0 ((ax prog 22 DP u H).bind fun t1 =>
 (ld 59 t1 H).bind fun t2 =>
 (fI 59 H).bind fun y =>
 (cu 59 y.1 (b9 y.1 y.2 t2) y.2 lo).bind fun d =>
 (bl 26 p 1 d).bind fun t5 =>
 (ld 22 t5 d).bind fun t6 =>
 (ld 59 y.1 d).bind fun t7 =>
 (C 48 [snap d t6,snap d t7]).bind fun t8 =>
 (jS prog UnOp.not t8).bind fun t9 =>
 (ew t9 ((bl 26 x4 1 d).bind fun t10 =>
 (ld 22 t10 d).bind fun t11 =>
 (ld 59 y.1 d).bind fun t12 =>
 (C 48 [snap d t11,snap d t12]).bind fun t13 =>
 (jS prog UnOp.not t13).bind fun t14=>some [t14,t14,t13,t12,t11,t10]) (some [A.v (.bool false),ud,ud,ud,ud,ud])).bind fun an=>kb an fun ao ca cc ch bm=>jk bm fun ck u16 cm=>bD ao (kr (St.mk [(1,x1),(2,A.v (.bool false)),(3,p),(4,x4),(59,DP),(60,q),(61,u)] d)) ((bin .add 3 false true u (A.v (.int .i64 1))).bind fun t17 =>
 (trim L d).bind fun bs=>bif bif Nat.beq (List.length d) L then true else aL L [(61,t17),(1,x1),(2,x2),(3,p),(4,x4),(59,DP),(60,q)] [1,2,3,4,59,60,61] then aK (cx C) call rg n 18 lo 2 L kx kg kr kp m (St.mk [(1,x1),(2,x2),(3,p),(4,x4),(59,DP),(60,q),(61,t17)] bs) else none)) (kx 4 (St.mk [(1,x1),(2,x2),(3,p),(4,x4),(59,DP),(60,q),(61,u)] H)):=by kernel_rfl
theorem Ic (q u p:A):aK (cx C) call rg n 18 lo 3 L kx kg kr kp (m+1) (St.mk [(1,q),(2,u),(78,p)] H) =
 (bin .lss 3 false true p (A.v (.int .i64 2))).bind fun t0=>bD t0 ((bl 44 q 3 H).bind fun t1 =>
 (ax prog 42 t1 p H).bind fun t2 =>
 (ld 23 t2 H).bind fun t3 =>
 (bM prog 23 t3 H).bind fun t4=>aK (cx C) call rg n 18 lo 4 (List.length H) (fun i5 d=>bif Nat.beq i5 8 then
 (bin .add 3 false true (lk d 78) (A.v (.int .i64 1))).bind fun t6 =>
 (trim L (St.H d)).bind fun y=>bif bif Nat.beq (List.length (St.H d)) L then true else aL L ((78,t6) :: (130,t6) :: St.fr d) [1,2,78] then aK (cx C) call rg n 18 lo 3 L kx kg kr kp m (St.mk [(1,lk d 1),(2,lk d 2),(78,t6)] y) else none else bif Nat.beq i5 7 then
 (bin .add 3 false true (lk d 78) (A.v (.int .i64 1))).bind fun t6 =>
 (trim L (St.H d)).bind fun y=>bif bif Nat.beq (List.length (St.H d)) L then true else aL L ((78,t6) :: (130,t6) :: St.fr d) [1,2,78] then aK (cx C) call rg n 18 lo 3 L kx kg kr kp m (St.mk [(1,lk d 1),(2,lk d 2),(78,t6)] y) else none else kx i5 (St.mk [(1,lk d 1),(2,lk d 2),(78,lk d 78)] (St.H d))) (fun i5 d=>kg i5 (St.mk [(1,lk d 1),(2,lk d 2),(78,lk d 78)] (St.H d))) (fun a5=>kr (St.mk [(1,lk a5 1),(2,lk a5 2),(78,lk a5 78)] (St.H a5))) (fun i5 d=>kp i5 (St.mk [(1,lk d 1),(2,lk d 2),(78,lk d 78)] (St.H d))) n (St.mk [(1,q),(2,u),(11,p),(78,p),(84,t3),(85,t4),(86,A.v (.int .i64 0))] H)) (kx 6 (St.mk [(1,q),(2,u),(78,p)] H)):=by kernel_rfl
theorem Ie (x1 x2 kd ao ad an u:A):aK (cx C) call rg n 18 lo 4 L kx kg kr kp (m+1) (St.mk [(1,x1),(2,x2),(11,kd),(78,ao),(84,ad),(85,an),(86,u)] H) =
 (bin .lss 3 false false u an).bind fun t0=>bD t0 ((ax prog 23 ad u H).bind fun t1 =>
 (ld 62 t1 H).bind fun t2 =>
 (fI 62 H).bind fun y =>
 (cu 62 y.1 (b9 y.1 y.2 t2) y.2 lo).bind fun p =>
 (bl 44 x1 0 p).bind fun t5 =>
 (ax prog 40 t5 kd p).bind fun t6 =>
 (bl 26 t6 2 p).bind fun t7 =>
 (ld 23 t7 p).bind fun t8 =>
 (ld 62 y.1 p).bind fun t9 =>
 (C 49 [snap p t8,snap p t9]).bind fun t10 =>
 (jS prog UnOp.not t10).bind fun t11=>bD t11 (kr (St.mk [(1,x1),(2,A.v (.bool false)),(11,kd),(78,ao),(84,ad),(85,an),(86,u)] p)) (aK (cx C) call rg n 18 lo 5 (List.length p) (fun i12 d=>bif Nat.beq i12 10 then
 (bin .add 3 false true (lk d 86) (A.v (.int .i64 1))).bind fun t13 =>
 (trim L (St.H d)).bind fun bs=>bif bif Nat.beq (List.length (St.H d)) L then true else aL L ((86,t13) :: (129,t13) :: St.fr d) [1,2,11,78,84,85,86] then aK (cx C) call rg n 18 lo 4 L kx kg kr kp m (St.mk [(1,lk d 1),(2,lk d 2),(11,lk d 11),(78,lk d 78),(84,lk d 84),(85,lk d 85),(86,t13)] bs) else none else bif Nat.beq i12 9 then
 (bin .add 3 false true (lk d 86) (A.v (.int .i64 1))).bind fun t13 =>
 (trim L (St.H d)).bind fun bs=>bif bif Nat.beq (List.length (St.H d)) L then true else aL L ((86,t13) :: (129,t13) :: St.fr d) [1,2,11,78,84,85,86] then aK (cx C) call rg n 18 lo 4 L kx kg kr kp m (St.mk [(1,lk d 1),(2,lk d 2),(11,lk d 11),(78,lk d 78),(84,lk d 84),(85,lk d 85),(86,t13)] bs) else none else kx i12 (St.mk [(1,lk d 1),(2,lk d 2),(11,lk d 11),(78,lk d 78),(84,lk d 84),(85,lk d 85),(86,lk d 86)] (St.H d))) (fun i12 d=>kg i12 (St.mk [(1,lk d 1),(2,lk d 2),(11,lk d 11),(78,lk d 78),(84,lk d 84),(85,lk d 85),(86,lk d 86)] (St.H d))) (fun q=>kr (St.mk [(1,lk q 1),(2,lk q 2),(11,lk q 11),(78,lk q 78),(84,lk q 84),(85,lk q 85),(86,lk q 86)] (St.H q))) (fun i12 d=>kp i12 (St.mk [(1,lk d 1),(2,lk d 2),(11,lk d 11),(78,lk d 78),(84,lk d 84),(85,lk d 85),(86,lk d 86)] (St.H d))) n (St.mk [(1,x1),(2,x2),(11,kd),(13,y.1),(78,ao),(84,ad),(85,an),(86,u),(98,A.v (.int .i64 0))] p))) (kx 8 (St.mk [(1,x1),(2,x2),(11,kd),(78,ao),(84,ad),(85,an),(86,u)] H)):=by kernel_rfl
theorem Ig (q u kd y ab ad an ao p:A):aK (cx C) call rg n 18 lo 5 L kx kg kr kp (m+1) (St.mk [(1,q),(2,u),(11,kd),(13,y),(78,ab),(84,ad),(85,an),(86,ao),(98,p)] H) =
 (bin .lss 3 false true p (A.v (.int .i64 2))).bind fun t0=>bD t0 ((bl 44 q 3 H).bind fun t1 =>
 (ax prog 42 t1 p H).bind fun t2 =>
 (ld 23 t2 H).bind fun t3 =>
 (bM prog 23 t3 H).bind fun t4=>aK (cx C) call rg n 18 lo 6 (List.length H) (fun i5 d=>bif Nat.beq i5 12 then
 (bin .add 3 false true (lk d 98) (A.v (.int .i64 1))).bind fun t6 =>
 (trim L (St.H d)).bind fun H7=>bif bif Nat.beq (List.length (St.H d)) L then true else aL L ((98,t6) :: (128,t6) :: St.fr d) [1,2,11,13,78,84,85,86,98] then aK (cx C) call rg n 18 lo 5 L kx kg kr kp m (St.mk [(1,lk d 1),(2,lk d 2),(11,lk d 11),(13,lk d 13),(78,lk d 78),(84,lk d 84),(85,lk d 85),(86,lk d 86),(98,t6)] H7) else none else bif Nat.beq i5 11 then
 (bin .add 3 false true (lk d 98) (A.v (.int .i64 1))).bind fun t6 =>
 (trim L (St.H d)).bind fun H7=>bif bif Nat.beq (List.length (St.H d)) L then true else aL L ((98,t6) :: (128,t6) :: St.fr d) [1,2,11,13,78,84,85,86,98] then aK (cx C) call rg n 18 lo 5 L kx kg kr kp m (St.mk [(1,lk d 1),(2,lk d 2),(11,lk d 11),(13,lk d 13),(78,lk d 78),(84,lk d 84),(85,lk d 85),(86,lk d 86),(98,t6)] H7) else none else kx i5 (St.mk [(1,lk d 1),(2,lk d 2),(11,lk d 11),(13,lk d 13),(78,lk d 78),(84,lk d 84),(85,lk d 85),(86,lk d 86),(98,lk d 98)] (St.H d))) (fun i5 d=>kg i5 (St.mk [(1,lk d 1),(2,lk d 2),(11,lk d 11),(13,lk d 13),(78,lk d 78),(84,lk d 84),(85,lk d 85),(86,lk d 86),(98,lk d 98)] (St.H d))) (fun a5=>kr (St.mk [(1,lk a5 1),(2,lk a5 2),(11,lk a5 11),(13,lk a5 13),(78,lk a5 78),(84,lk a5 84),(85,lk a5 85),(86,lk a5 86),(98,lk a5 98)] (St.H a5))) (fun i5 d=>kp i5 (St.mk [(1,lk d 1),(2,lk d 2),(11,lk d 11),(13,lk d 13),(78,lk d 78),(84,lk d 84),(85,lk d 85),(86,lk d 86),(98,lk d 98)] (St.H d))) n (St.mk [(1,q),(2,u),(11,kd),(13,y),(14,p),(78,ab),(84,ad),(85,an),(86,ao),(98,p),(104,t3),(105,t4),(106,A.v (.int .i64 0))] H)) (kx 10 (St.mk [(1,q),(2,u),(11,kd),(13,y),(78,ab),(84,ad),(85,an),(86,ao),(98,p)] H)):=by kernel_rfl
theorem Ih (x1 x2 kd p kz an ao bm bs ca q u y:A):aK (cx C) call rg n 18 lo 6 L kx kg kr kp (m+1) (St.mk [(1,x1),(2,x2),(11,kd),(13,p),(14,kz),(78,an),(84,ao),(85,bm),(86,bs),(98,ca),(104,q),(105,u),(106,y)] H) =
 (bin .lss 3 false false y u).bind fun t0=>bD t0 ((ax prog 23 q y H).bind fun t1 =>
 (ld 62 t1 H).bind fun t2 =>
 (fI 62 H).bind fun r3 =>
 (cu 62 r3.1 (b9 r3.1 r3.2 t2) r3.2 lo).bind fun d =>
 (bl 62 p 0 d).bind fun t5 =>
 (ld 3 t5 d).bind fun t6 =>
 (bl 62 r3.1 0 d).bind fun t7 =>
 (ld 3 t7 d).bind fun t8 =>
 (bin .eql 3 false false t6 t8).bind fun t9 =>
 (ew t9 ((bin .neq 3 false false kd kz).bind fun t10 =>
 (ew t10 (some [A.v (.bool true),ud,ud,ud,ud,ud]) ((bl 62 p 1 d).bind fun t11 =>
 (ld 3 t11 d).bind fun t12 =>
 (bl 62 r3.1 1 d).bind fun t13 =>
 (ld 3 t13 d).bind fun t14 =>
 (bin .neq 3 false false t12 t14).bind fun t15=>some [t15,t15,t14,t13,t12,t11])).bind fun cy=>kb cy fun ch ck cm cn dd=>jk dd fun u16 cv fv=>some [ch,ch,ck,cm,cn,u16,cv,t10,t10,kz,kd]) (some [A.v (.bool false),ud,ud,ud,ud,ud,ud,ud,ud,ud,ud])).bind fun ea=>vP ea fun eg ch ck cm cn u16 cv ha ej=>jk ej fun hf hg en=>jR en fun hh hi=>bD eg (kr (St.mk [(1,x1),(2,A.v (.bool false)),(11,kd),(13,p),(14,kz),(78,an),(84,ao),(85,bm),(86,bs),(98,ca),(104,q),(105,u),(106,y)] d)) ((bin .add 3 false true y (A.v (.int .i64 1))).bind fun t22 =>
 (trim L d).bind fun fs=>bif bif Nat.beq (List.length d) L then true else aL L [(106,t22),(1,x1),(2,x2),(11,kd),(13,p),(14,kz),(78,an),(84,ao),(85,bm),(86,bs),(98,ca),(104,q),(105,u)] [1,2,11,13,14,78,84,85,86,98,104,105,106] then aK (cx C) call rg n 18 lo 6 L kx kg kr kp m (St.mk [(1,x1),(2,x2),(11,kd),(13,p),(14,kz),(78,an),(84,ao),(85,bm),(86,bs),(98,ca),(104,q),(105,u),(106,t22)] fs) else none)) (kx 12 (St.mk [(1,x1),(2,x2),(11,kd),(13,p),(14,kz),(78,an),(84,ao),(85,bm),(86,bs),(98,ca),(104,q),(105,u),(106,y)] H)):=by kernel_rfl
theorem Ii (d q x4 p:A):aK (cx C) call rg n 19 lo 0 L kx kg kr kp (m+1) (St.mk [(0,d),(1,q),(4,x4),(5,p)] H) =
 (bM prog 22 d H).bind fun t0 =>
 (bin .lss 3 false false p t0).bind fun t1=>bD t1 ((ax prog 22 d p H).bind fun t2 =>
 (ld 59 t2 H).bind fun t3 =>
 (ax prog 22 q p H).bind fun t4 =>
 (ld 59 t4 H).bind fun t5 =>
 (bin .neq 59 false false t3 t5).bind fun t6=>bD t6 (kr (St.mk [(0,d),(1,q),(4,A.v (.bool false)),(5,p)] H)) ((bin .add 3 false true p (A.v (.int .i64 1))).bind fun t7 =>
 (trim L H).bind fun u=>bif bif Nat.beq (List.length H) L then true else aL L [(5,t7),(0,d),(1,q),(4,x4)] [0,1,4,5] then aK (cx C) call rg n 19 lo 0 L kx kg kr kp m (St.mk [(0,d),(1,q),(4,x4),(5,t7)] u) else none)) (kx 0 (St.mk [(0,d),(1,q),(4,x4),(5,p)] H)):=by kernel_rfl
theorem Ij (d q x4 p:A):aK (cx C) call rg n 21 lo 0 L kx kg kr kp (m+1) (St.mk [(0,d),(1,q),(4,x4),(5,p)] H) =
 (bM prog 23 d H).bind fun t0 =>
 (bin .lss 3 false false p t0).bind fun t1=>bD t1 ((ax prog 23 d p H).bind fun t2 =>
 (ld 62 t2 H).bind fun t3 =>
 (ax prog 23 q p H).bind fun t4 =>
 (ld 62 t4 H).bind fun t5 =>
 (bin .neq 62 false false t3 t5).bind fun t6=>bD t6 (kr (St.mk [(0,d),(1,q),(4,A.v (.bool false)),(5,p)] H)) ((bin .add 3 false true p (A.v (.int .i64 1))).bind fun t7 =>
 (trim L H).bind fun u=>bif bif Nat.beq (List.length H) L then true else aL L [(5,t7),(0,d),(1,q),(4,x4)] [0,1,4,5] then aK (cx C) call rg n 21 lo 0 L kx kg kr kp m (St.mk [(0,d),(1,q),(4,x4),(5,t7)] u) else none)) (kx 0 (St.mk [(0,d),(1,q),(4,x4),(5,p)] H)):=by kernel_rfl
theorem Ik (d x4 x5 p kd q:A):aK (cx C) call rg n 27 lo 0 L kx kg kr kp (m+1) (St.mk [(2,d),(4,x4),(5,x5),(10,p),(11,kd),(12,q)] H) =
 (bin .lss 3 false false q kd).bind fun t0=>bD t0 ((ax prog 39 p q H).bind fun t1 =>
 (ld 49 t1 H).bind fun t2 =>
 (fI 49 H).bind fun y =>
 (cu 49 y.1 (b9 y.1 y.2 t2) y.2 lo).bind fun H4 =>
 (ld 44 d H4).bind fun t5 =>
 (ld 49 y.1 H4).bind fun t6 =>
 (C 17 [snap H4 t5,snap H4 t6]).bind fun t7 =>
 (aI t7 0).bind fun t8 =>
 (aI t7 1).bind fun t9 =>
 (fI 44 H4).bind fun ad =>
 (cu 44 ad.1 (b9 ad.1 ad.2 t8) ad.2 lo).bind fun u =>
 (bin .neq 31 false true t9 (A.v (.int .i64 0))).bind fun t12=>bD t12 ((ld 44 d u).bind fun t13 =>
 (cu 44 x4 (b9 x4 u t13) u lo).bind fun ao=>kr (St.mk [(2,d),(4,x4),(5,A.v (.bool false)),(10,p),(11,kd),(12,q)] ao)) ((ld 44 ad.1 u).bind fun t13 =>
 (cu 44 d (b9 d u t13) u lo).bind fun ao =>
 (bin .add 3 false true q (A.v (.int .i64 1))).bind fun t15 =>
 (trim L ao).bind fun bm=>bif bif Nat.beq (List.length ao) L then true else aL L [(12,t15),(2,d),(4,x4),(5,x5),(10,p),(11,kd)] [2,4,5,10,11,12] then aK (cx C) call rg n 27 lo 0 L kx kg kr kp m (St.mk [(2,d),(4,x4),(5,x5),(10,p),(11,kd),(12,t15)] bm) else none)) (kx 0 (St.mk [(2,d),(4,x4),(5,x5),(10,p),(11,kd),(12,q)] H)):=by kernel_rfl
theorem Il (q d x9 p kd:A):aK (cx C) call rg n 29 lo 0 L kx kg kr kp (m+1) (St.mk [(2,q),(3,d),(9,x9),(10,p),(11,kd)] H) =
 (bin .lss 3 false false kd p).bind fun t0=>bD t0 ((ax prog 78 x9 kd H).bind fun t1 =>
 (ld 3 t1 H).bind fun t2 =>
 (bl 98 d 3 H).bind fun t3 =>
 (ld 96 t3 H).bind fun t4 =>
 (bE prog 98 [(0,A.v (.int .i64 1)),(1,t2)]).bind fun t5 =>
 (ba prog 96 1 [(0,dz H t5)]).bind fun t6 =>
 (cK prog 96 96 false t4 t6 H lo).bind fun u =>
 (bl 98 d 3 u.2).bind fun t8 =>
 (cu 96 t8 (b9 t8 u.2 u.1) u.2 lo).bind fun y =>
 (bin .add 3 false true kd (A.v (.int .i64 1))).bind fun t10 =>
 (trim L y).bind fun ab=>bif bif Nat.beq (List.length y) L then true else aL L [(11,t10),(2,q),(3,d),(9,x9),(10,p)] [2,3,9,10,11] then aK (cx C) call rg n 29 lo 0 L kx kg kr kp m (St.mk [(2,q),(3,d),(9,x9),(10,p),(11,t10)] ab) else none) (kx 0 (St.mk [(2,q),(3,d),(9,x9),(10,p),(11,kd)] H)):=by kernel_rfl
theorem Im (p y x6 q DK DL:A):aK (cx C) call rg n 32 lo 0 L kx kg kr kp (m+1) (St.mk [(2,p),(3,y),(6,x6),(23,q),(24,DK),(25,DL)] H) =
 (bin .lss 3 false false DL DK).bind fun t0=>bD t0 ((ax prog 96 q DL H).bind fun t1 =>
 (ld 98 t1 H).bind fun t2 =>
 (fI 98 H).bind fun u =>
 (cu 98 u.1 (b9 u.1 u.2 t2) u.2 lo).bind fun d =>
 (bl 98 u.1 0 d).bind fun t5 =>
 (ld 3 t5 d).bind fun t6 =>
 (bin .neq 3 false true t6 (A.v (.int .i64 1))).bind fun t7=>bD t7 ((ld 72 p d).bind fun t8 =>
 (cu 72 p (b9 p d t8) d lo).bind fun H9=>kr (St.mk [(2,p),(3,A.v (.bool false)),(6,x6),(23,q),(24,DK),(25,DL)] H9)) ((bl 98 u.1 1 d).bind fun t8 =>
 (ld 3 t8 d).bind fun t9 =>
 (ba prog 78 1 [(0,dz d t9)]).bind fun t10 =>
 (cK prog 78 78 false x6 t10 d lo).bind fun ad =>
 (bin .add 3 false true DL (A.v (.int .i64 1))).bind fun t12 =>
 (trim L ad.2).bind fun ao=>bif bif Nat.beq (List.length ad.2) L then true else aL L [(25,t12),(6,ad.1),(2,p),(3,y),(23,q),(24,DK)] [2,3,6,23,24,25] then aK (cx C) call rg n 32 lo 0 L kx kg kr kp m (St.mk [(2,p),(3,y),(6,ad.1),(23,q),(24,DK),(25,t12)] ao) else none)) (kx 0 (St.mk [(2,p),(3,y),(6,x6),(23,q),(24,DK),(25,DL)] H)):=by kernel_rfl
theorem Ip (p u kz:A):aK (cx C) call rg n 38 lo 0 L kx kg kr kp (m+1) (St.mk [(0,p),(13,u),(14,kz)] H) =
 (bin .lss 3 false true kz (A.v (.int .i64 2))).bind fun t0=>bD t0 ((uM prog 40 u kz).bind fun t1 =>
 (fI 26 H).bind fun q =>
 (cu 26 q.1 (b9 q.1 q.2 t1) q.2 lo).bind fun d =>
 (ld 26 q.1 d).bind fun t4 =>
 (C 20 [snap d t4]).bind fun t5 =>
 (bin .eql 31 false true t5 (A.v (.int .i64 0))).bind fun t6 =>
 (ew t6 ((bl 26 q.1 0 d).bind fun t7 =>
 (ld 3 t7 d).bind fun t8 =>
 (bin .eql 3 false false t8 kz).bind fun t9=>some [t9,t9,kz,t8,t7]) (some [A.v (.bool false),ud,ud,ud,ud])).bind fun l7=>kb l7 fun u8 u9 cn cv an=>jR an fun cy dd =>
 (ky u8 true ((dF p d).bind fun t13 =>
 (bl 83 t13 0 d).bind fun t14 =>
 (bl 44 t14 1 d).bind fun t15 =>
 (ax prog 41 t15 kz d).bind fun t16 =>
 (ld 3 t16 d).bind fun t17 =>
 (bl 26 q.1 3 d).bind fun t18 =>
 (ld 24 t18 d).bind fun t19 =>
 (bM prog 24 t19 d).bind fun t20=>some [t20,t19,t18,t17,t16,t15,t14,t13,kz,p]) (some [ud,ud,ud,ud,ud,ud,ud,ud,ud,ud])).bind fun ao=>vP ao fun bm ea u16 bs eg ej en fs ca=>jk ca fun fv ha hf =>
 (ew u8 ((C 47 [snap d bs,snap d (A.v (.int .i64 1)),snap d bm]).bind fun t24=>some [t24,t24]) (some [A.v (.bool false),ud])).bind fun cc=>jk cc fun ch hg hh =>
 (call 46 [ch,A.v (.int .i64 530)] d lo).bind fun y=>bJ y.1 (fun ab =>
 (bin .add 3 false true kz (A.v (.int .i64 1))).bind fun t29 =>
 (trim L y.2).bind fun ck=>bif bif Nat.beq (List.length y.2) L then true else aL L [(14,t29),(0,p),(13,u)] [0,13,14] then aK (cx C) call rg n 38 lo 0 L kx kg kr kp m (St.mk [(0,p),(13,u),(14,t29)] ck) else none) fun ab=>kp ab (St.mk [(0,p),(13,u),(14,kz)] y.2)) (kx 0 (St.mk [(0,p),(13,u),(14,kz)] H)):=by kernel_rfl
theorem Iq (q p:A):aK (cx C) call rg n 38 lo 1 L kx kg kr kp (m+1) (St.mk [(0,q),(42,p)] H) =
 (bin .lss 3 false true p (A.v (.int .i64 2))).bind fun t0=>bD t0 ((dF q H).bind fun t1 =>
 (bl 83 t1 0 H).bind fun t2 =>
 (bl 44 t2 3 H).bind fun t3 =>
 (ax prog 42 t3 p H).bind fun t4 =>
 (ld 23 t4 H).bind fun t5 =>
 (bM prog 23 t5 H).bind fun t6=>aK (cx C) call rg n 38 lo 2 (List.length H) (fun i7 d=>bif Nat.beq i7 4 then
 (bin .add 3 false true (lk d 42) (A.v (.int .i64 1))).bind fun t8 =>
 (trim L (St.H d)).bind fun u=>bif bif Nat.beq (List.length (St.H d)) L then true else aL L ((42,t8) :: (64,t8) :: St.fr d) [0,42] then aK (cx C) call rg n 38 lo 1 L kx kg kr kp m (St.mk [(0,lk d 0),(42,t8)] u) else none else bif Nat.beq i7 3 then
 (bin .add 3 false true (lk d 42) (A.v (.int .i64 1))).bind fun t8 =>
 (trim L (St.H d)).bind fun u=>bif bif Nat.beq (List.length (St.H d)) L then true else aL L ((42,t8) :: (64,t8) :: St.fr d) [0,42] then aK (cx C) call rg n 38 lo 1 L kx kg kr kp m (St.mk [(0,lk d 0),(42,t8)] u) else none else kx i7 (St.mk [(0,lk d 0),(42,lk d 42)] (St.H d))) (fun i7 d=>kg i7 (St.mk [(0,lk d 0),(42,lk d 42)] (St.H d))) (fun y=>kr (St.mk [(0,lk y 0),(42,lk y 42)] (St.H y))) (fun i7 d=>kp i7 (St.mk [(0,lk d 0),(42,lk d 42)] (St.H d))) n (St.mk [(0,q),(4,p),(42,p),(51,t5),(52,t6),(53,A.v (.int .i64 0))] H)) (kx 2 (St.mk [(0,q),(42,p)] H)):=by kernel_rfl
theorem Ir (d x4 u Bn p q:A):aK (cx C) call rg n 38 lo 2 L kx kg kr kp (m+1) (St.mk [(0,d),(4,x4),(42,u),(51,Bn),(52,p),(53,q)] H) =
 (bin .lss 3 false false q p).bind fun t0=>bD t0 ((ax prog 23 Bn q H).bind fun t1 =>
 (ld 62 t1 H).bind fun t2 =>
 (fI 62 H).bind fun y =>
 (cu 62 y.1 (b9 y.1 y.2 t2) y.2 lo).bind fun H4 =>
 (ld 62 y.1 H4).bind fun t5 =>
 (call 70 [t5] H4 lo).bind fun H6=>bJ H6.1 (fun a7 =>
 (call 69 [d,x4,a7] H6.2 lo).bind fun H8=>bJ H8.1 (fun a9 =>
 (call 46 [a9,A.v (.int .i64 530)] H8.2 lo).bind fun ab=>bJ ab.1 (fun ca =>
 (bin .add 3 false true q (A.v (.int .i64 1))).bind fun t12 =>
 (trim L ab.2).bind fun cc=>bif bif Nat.beq (List.length ab.2) L then true else aL L [(53,t12),(0,d),(4,x4),(42,u),(51,Bn),(52,p)] [0,4,42,51,52,53] then aK (cx C) call rg n 38 lo 2 L kx kg kr kp m (St.mk [(0,d),(4,x4),(42,u),(51,Bn),(52,p),(53,t12)] cc) else none) fun ca=>kp ca (St.mk [(0,d),(4,x4),(42,u),(51,Bn),(52,p),(53,q)] ab.2)) fun a9=>kp a9 (St.mk [(0,d),(4,x4),(42,u),(51,Bn),(52,p),(53,q)] H8.2)) fun a7=>kp a7 (St.mk [(0,d),(4,x4),(42,u),(51,Bn),(52,p),(53,q)] H6.2)) (kx 4 (St.mk [(0,d),(4,x4),(42,u),(51,Bn),(52,p),(53,q)] H)):=by kernel_rfl
theorem It (d p q u:A):aK (cx C) call rg n 38 lo 3 L kx kg kr kp (m+1) (St.mk [(0,d),(69,p),(70,q),(71,u)] H) =
 (bin .lss 3 false false u q).bind fun t0=>bD t0 ((ax prog 22 p u H).bind fun t1 =>
 (ld 59 t1 H).bind fun t2 =>
 (fI 59 H).bind fun r3 =>
 (cu 59 r3.1 (b9 r3.1 r3.2 t2) r3.2 lo).bind fun H4 =>
 (ld 59 r3.1 H4).bind fun t5 =>
 (call 71 [t5] H4 lo).bind fun H6=>bJ H6.1 (fun a7 =>
 (call 69 [d,A.v (.int .i64 0),a7] H6.2 lo).bind fun H8=>bJ H8.1 (fun y =>
 (ky y false (some d) (some (ud))).bind fun t10 =>
 (ky y false ((ld 59 r3.1 H8.2).bind fun t11=>some t11) (some (ud))).bind fun t11=>ky y false ((call 71 [t11] H8.2 lo).bind fun ad=>bJ ad.1 (fun an=>ky y false ((call 69 [t10,A.v (.int .i64 1),an] ad.2 lo).bind fun cm=>bJ cm.1 (fun cn =>
 (ew y (some (A.v (.bool true))) (some cn)).bind fun t16 =>
 (call 46 [t16,A.v (.int .i64 530)] cm.2 lo).bind fun ca=>bJ ca.1 (fun dd =>
 (bin .add 3 false true u (A.v (.int .i64 1))).bind fun t19 =>
 (trim L ca.2).bind fun eg=>bif bif Nat.beq (List.length ca.2) L then true else aL L [(71,t19),(0,d),(69,p),(70,q)] [0,69,70,71] then aK (cx C) call rg n 38 lo 3 L kx kg kr kp m (St.mk [(0,d),(69,p),(70,q),(71,t19)] eg) else none) fun dd=>kp dd (St.mk [(0,d),(69,p),(70,q),(71,u)] ca.2)) fun cn=>kp cn (St.mk [(0,d),(69,p),(70,q),(71,u)] cm.2)) ((ew y (some (A.v (.bool true))) (some (ud))).bind fun t14 =>
 (call 46 [t14,A.v (.int .i64 530)] ad.2 lo).bind fun ab=>bJ ab.1 (fun bs =>
 (bin .add 3 false true u (A.v (.int .i64 1))).bind fun t17 =>
 (trim L ab.2).bind fun cv=>bif bif Nat.beq (List.length ab.2) L then true else aL L [(71,t17),(0,d),(69,p),(70,q)] [0,69,70,71] then aK (cx C) call rg n 38 lo 3 L kx kg kr kp m (St.mk [(0,d),(69,p),(70,q),(71,t17)] cv) else none) fun bs=>kp bs (St.mk [(0,d),(69,p),(70,q),(71,u)] ab.2))) fun an=>kp an (St.mk [(0,d),(69,p),(70,q),(71,u)] ad.2)) (ky y false ((call 69 [t10,A.v (.int .i64 1),ud] H8.2 lo).bind fun ad=>bJ ad.1 (fun an =>
 (ew y (some (A.v (.bool true))) (some an)).bind fun t14 =>
 (call 46 [t14,A.v (.int .i64 530)] ad.2 lo).bind fun ab=>bJ ab.1 (fun bs =>
 (bin .add 3 false true u (A.v (.int .i64 1))).bind fun t17 =>
 (trim L ab.2).bind fun cv=>bif bif Nat.beq (List.length ab.2) L then true else aL L [(71,t17),(0,d),(69,p),(70,q)] [0,69,70,71] then aK (cx C) call rg n 38 lo 3 L kx kg kr kp m (St.mk [(0,d),(69,p),(70,q),(71,t17)] cv) else none) fun bs=>kp bs (St.mk [(0,d),(69,p),(70,q),(71,u)] ab.2)) fun an=>kp an (St.mk [(0,d),(69,p),(70,q),(71,u)] ad.2)) ((ew y (some (A.v (.bool true))) (some (ud))).bind fun t12 =>
 (call 46 [t12,A.v (.int .i64 530)] H8.2 lo).bind fun cc=>bJ cc.1 (fun ea =>
 (bin .add 3 false true u (A.v (.int .i64 1))).bind fun t15 =>
 (trim L cc.2).bind fun ej=>bif bif Nat.beq (List.length cc.2) L then true else aL L [(71,t15),(0,d),(69,p),(70,q)] [0,69,70,71] then aK (cx C) call rg n 38 lo 3 L kx kg kr kp m (St.mk [(0,d),(69,p),(70,q),(71,t15)] ej) else none) fun ea=>kp ea (St.mk [(0,d),(69,p),(70,q),(71,u)] cc.2)))) fun y=>kp y (St.mk [(0,d),(69,p),(70,q),(71,u)] H8.2)) fun a7=>kp a7 (St.mk [(0,d),(69,p),(70,q),(71,u)] H6.2)) (kx 6 (St.mk [(0,d),(69,p),(70,q),(71,u)] H)):=by kernel_rfl
theorem Iu (d p x4 q:A):aK (cx C) call rg n 48 lo 0 L kx kg kr kp (m+1) (St.mk [(0,d),(3,p),(4,x4),(5,q)] H) =
 (bM prog 22 d H).bind fun t0 =>
 (bin .lss 3 false false q t0).bind fun t1=>bD t1 ((ax prog 22 d q H).bind fun t2 =>
 (ld 59 t2 H).bind fun t3 =>
 (ld 59 p H).bind fun t4 =>
 (bin .eql 59 false false t3 t4).bind fun t5=>bD t5 (kr (St.mk [(0,d),(3,p),(4,A.v (.bool true)),(5,q)] H)) ((bin .add 3 false true q (A.v (.int .i64 1))).bind fun t6 =>
 (trim L H).bind fun u=>bif bif Nat.beq (List.length H) L then true else aL L [(5,t6),(0,d),(3,p),(4,x4)] [0,3,4,5] then aK (cx C) call rg n 48 lo 0 L kx kg kr kp m (St.mk [(0,d),(3,p),(4,x4),(5,t6)] u) else none)) (kx 0 (St.mk [(0,d),(3,p),(4,x4),(5,q)] H)):=by kernel_rfl
theorem Iw (d x4 x7 p x9:A):aK (cx C) call rg n 49 lo 0 L kx kg kr kp (m+1) (St.mk [(3,d),(4,x4),(7,x7),(8,p),(9,x9)] H) =
 (bin .lss 3 false false x9 p).bind fun t0=>bD t0 ((ax prog 23 x7 x9 H).bind fun t1 =>
 (ld 62 t1 H).bind fun t2 =>
 (fI 62 H).bind fun q =>
 (cu 62 q.1 (b9 q.1 q.2 t2) q.2 lo).bind fun u =>
 (ld 62 q.1 u).bind fun t5 =>
 (ld 62 d u).bind fun t6 =>
 (bin .eql 62 false false t5 t6).bind fun t7=>bD t7 (kr (St.mk [(3,d),(4,A.v (.bool true)),(7,x7),(8,p),(9,x9)] u)) ((bin .add 3 false true x9 (A.v (.int .i64 1))).bind fun t8 =>
 (trim L u).bind fun y=>bif bif Nat.beq (List.length u) L then true else aL L [(9,t8),(3,d),(4,x4),(7,x7),(8,p)] [3,4,7,8,9] then aK (cx C) call rg n 49 lo 0 L kx kg kr kp m (St.mk [(3,d),(4,x4),(7,x7),(8,p),(9,t8)] y) else none)) (kx 0 (St.mk [(3,d),(4,x4),(7,x7),(8,p),(9,x9)] H)):=by kernel_rfl
theorem zG (p q x4 u kz xJ:A):aK (cx C) call rg n 55 lo 0 L kx kg kr kp (m+1) (St.mk [(0,p),(3,q),(4,x4),(13,u),(14,kz),(15,xJ)] H) =
 (bin .lss 3 false false xJ kz).bind fun t0=>bD t0 ((ax prog 24 u xJ H).bind fun t1 =>
 (ld 4 t1 H).bind fun t2 =>
 (bE prog 72 [(0,t2)]).bind fun t3 =>
 (fI 72 H).bind fun y =>
 (cu 72 y.1 (b9 y.1 y.2 t3) y.2 lo).bind fun d =>
 (ew t2 ((bM prog 22 q d).bind fun t6 =>
 (bin .gtr 3 false true t6 (A.v (.int .i64 0))).bind fun t7=>some [t7,t7,t6,q]) (some [A.v (.bool false),ud,ud,ud])).bind fun l6=>kb l6 fun u7 u8 u9 cn cv=>bD u7 ((ax prog 22 q (A.v (.int .i64 0)) d).bind fun t11 =>
 (ld 59 t11 d).bind fun t12 =>
 (ef prog 22 q (some (A.v (.int .i64 1))) none none d).bind fun t13 =>
 (bl 72 y.1 1 d).bind fun t14=>bif bif apart q t14 then true else false then
 (cu 59 t14 (b9 t14 d t12) d lo).bind fun an =>
 (ld 72 y.1 an).bind fun t16=>dA (cx C) call p [xJ,t16] an lo (fun i17 ab =>
 (jS prog UnOp.not i17).bind fun t18=>bD t18 (kr (St.mk [(0,p),(3,t13),(4,x4),(13,u),(14,kz),(15,xJ)] ab)) ((bin .add 3 false true xJ (A.v (.int .i64 1))).bind fun t19 =>
 (trim L ab).bind fun ca=>bif bif Nat.beq (List.length ab) L then true else aL L [(15,t19),(3,t13),(0,p),(4,x4),(13,u),(14,kz)] [0,3,4,13,14,15] then aK (cx C) call rg n 55 lo 0 L kx kg kr kp m (St.mk [(0,p),(3,t13),(4,x4),(13,u),(14,kz),(15,t19)] ca) else none)) fun i17 ab=>kp i17 (St.mk [(0,p),(3,t13),(4,x4),(13,u),(14,kz),(15,xJ)] ab) else none) ((jS prog UnOp.not t2).bind fun t11 =>
 (ew t11 ((bM prog 23 x4 d).bind fun t12 =>
 (bin .gtr 3 false true t12 (A.v (.int .i64 0))).bind fun t13=>some [t13,t13,t12,x4]) (some [A.v (.bool false),ud,ud,ud])).bind fun cc=>kb cc fun ch cy dd u16 ea=>bD ch ((ax prog 23 x4 (A.v (.int .i64 0)) d).bind fun t17 =>
 (ld 62 t17 d).bind fun t18 =>
 (ef prog 23 x4 (some (A.v (.int .i64 1))) none none d).bind fun t19 =>
 (bl 72 y.1 2 d).bind fun t20=>bif bif apart x4 t20 then true else false then
 (cu 62 t20 (b9 t20 d t18) d lo).bind fun ao =>
 (ld 72 y.1 ao).bind fun t22=>dA (cx C) call p [xJ,t22] ao lo (fun i23 ad =>
 (jS prog UnOp.not i23).bind fun t24=>bD t24 (kr (St.mk [(0,p),(3,q),(4,t19),(13,u),(14,kz),(15,xJ)] ad)) ((bin .add 3 false true xJ (A.v (.int .i64 1))).bind fun t25 =>
 (trim L ad).bind fun ck=>bif bif Nat.beq (List.length ad) L then true else aL L [(15,t25),(4,t19),(0,p),(3,q),(13,u),(14,kz)] [0,3,4,13,14,15] then aK (cx C) call rg n 55 lo 0 L kx kg kr kp m (St.mk [(0,p),(3,q),(4,t19),(13,u),(14,kz),(15,t25)] ck) else none)) fun i23 ad=>kp i23 (St.mk [(0,p),(3,q),(4,t19),(13,u),(14,kz),(15,xJ)] ad) else none) (kr (St.mk [(0,p),(3,q),(4,x4),(13,u),(14,kz),(15,xJ)] d)))) (kx 0 (St.mk [(0,p),(3,q),(4,x4),(13,u),(14,kz),(15,xJ)] H)):=by kernel_rfl
theorem Ix (d p x4 q u:A):aK (cx C) call rg n 82 lo 0 L kx kg kr kp (m+1) (St.mk [(0,d),(1,p),(4,x4),(36,q),(37,u)] H) =
 (bin .lss 3 false false u q).bind fun t0=>bD t0 ((bl 98 x4 3 H).bind fun t1 =>
 (ld 96 t1 H).bind fun t2 =>
 (bin .add 3 false true p (A.v (.int .i64 1))).bind fun t3=>bif bif cJ 3 t1 then bif cJ 3 x4 then true else false else false then
 (call 82 [d,t3] H lo).bind fun y=>bJ y.1 (fun a5 =>
 (ba prog 96 1 [(0,dz y.2 a5)]).bind fun t6 =>
 (cK prog 96 96 false t2 t6 y.2 lo).bind fun r7 =>
 (bl 98 x4 3 r7.2).bind fun t8 =>
 (cu 96 t8 (b9 t8 r7.2 r7.1) r7.2 lo).bind fun H9 =>
 (bin .add 3 false true u (A.v (.int .i64 1))).bind fun t10 =>
 (trim L H9).bind fun an=>bif bif Nat.beq (List.length H9) L then true else aL L [(37,t10),(0,d),(1,p),(4,x4),(36,q)] [0,1,4,36,37] then aK (cx C) call rg n 82 lo 0 L kx kg kr kp m (St.mk [(0,d),(1,p),(4,x4),(36,q),(37,t10)] an) else none) fun a5=>kp a5 (St.mk [(0,A.any),(1,A.any),(4,A.any),(36,A.any),(37,A.any)] y.2) else none) (kx 1 (St.mk [(0,d),(1,p),(4,x4),(36,q),(37,u)] H)):=by kernel_rfl
theorem Iy (p q x4 x7 d:A):aK (cx C) call rg n 89 lo 0 L kx kg kr kp (m+1) (St.mk [(0,p),(1,q),(4,x4),(7,x7),(8,d)] H) =
 (bin .lss 3 false false d x7).bind fun t0=>bD t0 ((ax prog 22 p d H).bind fun t1 =>
 (ld 59 t1 H).bind fun t2=>dA (cx C) call q [t2] H lo (fun i3 h3=>bD i3 (kr (St.mk [(0,p),(1,q),(4,d),(7,x7),(8,d)] h3)) ((bin .add 3 false true d (A.v (.int .i64 1))).bind fun t4 =>
 (trim L h3).bind fun u=>bif bif Nat.beq (List.length h3) L then true else aL L [(8,t4),(0,p),(1,q),(4,x4),(7,x7)] [0,1,4,7,8] then aK (cx C) call rg n 89 lo 0 L kx kg kr kp m (St.mk [(0,p),(1,q),(4,x4),(7,x7),(8,t4)] u) else none)) fun i3 h3=>kp i3 (St.mk [(0,p),(1,q),(4,x4),(7,x7),(8,d)] h3)) (kx 0 (St.mk [(0,p),(1,q),(4,x4),(7,x7),(8,d)] H)):=by kernel_rfl
theorem Iz (x2 y d DN p:A):aK (cx C) call rg n 91 lo 0 L kx kg kr kp (m+1) (St.mk [(2,x2),(3,y),(55,d),(56,DN),(57,p)] H) =
 (bin .lss 3 false false p DN).bind fun t0=>bD t0 ((ax prog 96 d p H).bind fun t1 =>
 (ld 98 t1 H).bind fun t2 =>
 (fI 98 H).bind fun q =>
 (cu 98 q.1 (b9 q.1 q.2 t2) q.2 lo).bind fun u =>
 (ld 98 q.1 u).bind fun t5 =>
 (C 91 [snap u t5]).bind fun t6 =>
 (aI t6 0).bind fun t7 =>
 (aI t6 1).bind fun t8 =>
 (jS prog UnOp.not t8).bind fun t9=>bD t9 (kr (St.mk [(2,A.v (.int .i64 0)),(3,A.v (.bool false)),(55,d),(56,DN),(57,p)] u)) ((Gb false x2 [t7]).bind fun t10 =>
 (bin .add 3 false true p (A.v (.int .i64 1))).bind fun t11 =>
 (trim L u).bind fun ad=>bif bif Nat.beq (List.length u) L then true else aL L [(57,t11),(2,t10),(3,y),(55,d),(56,DN)] [2,3,55,56,57] then aK (cx C) call rg n 91 lo 0 L kx kg kr kp m (St.mk [(2,t10),(3,y),(55,d),(56,DN),(57,t11)] ad) else none)) (kx 0 (St.mk [(2,x2),(3,y),(55,d),(56,DN),(57,p)] H)):=by kernel_rfl
theorem zH (q d x4:A):aK (cx C) call rg n 93 lo 0 L kx kg kr kp (m+1) (St.mk [(0,q),(1,d),(4,x4)] H) =
 (bin .geq 140 false true d (A.v (.int .u64 128))).bind fun t0=>bD t0 ((cd prog 140 5 d H).bind fun t1 =>
 (bin .or 5 false true t1 (A.v (.int .u8 128))).bind fun t2 =>
 (ba prog 30 1 [(0,dz H t2)]).bind fun t3 =>
 (cK prog 30 30 false q t3 H lo).bind fun p =>
 (bin .shr 140 false true d (A.v (.int .u64 7))).bind fun t5 =>
 (trim L p.2).bind fun u=>bif bif Nat.beq (List.length p.2) L then true else aL L [(1,t5),(0,p.1),(4,x4)] [0,1,4] then aK (cx C) call rg n 93 lo 0 L kx kg kr kp m (St.mk [(0,p.1),(1,t5),(4,x4)] u) else none) (kx 0 (St.mk [(0,q),(1,d),(4,x4)] H)):=by kernel_rfl
theorem Fz (y p u DH DI DJ:A):aK (cx C) call rg n 96 lo 0 L kx kg kr kp (m+1) (St.mk [(0,y),(2,p),(5,u),(17,DH),(18,DI),(19,DJ)] H) =
 (bin .lss 3 false false DJ DI).bind fun t0=>bD t0 ((ax prog 96 DH DJ H).bind fun t1 =>
 (ld 98 t1 H).bind fun t2 =>
 (fI 98 H).bind fun q =>
 (cu 98 q.1 (b9 q.1 q.2 t2) q.2 lo).bind fun d =>
 (ld 122 p d).bind fun t5 =>
 (bl 98 q.1 0 d).bind fun t6 =>
 (ld 3 t6 d).bind fun t7 =>
 (dF t5 d).bind fun t8 =>
 (ax prog 138 t8 t7 d).bind fun t9 =>
 (bl 121 t9 0 d).bind fun t10 =>
 (ld 119 t10 d).bind fun t11 =>
 (ld 98 q.1 d).bind fun t12=>dA (cx C) call t11 [y,t12] d lo (fun i13 ab =>
 (bin .add 3 false true DJ (A.v (.int .i64 1))).bind fun t14 =>
 (trim L ab).bind fun ad=>bif bif Nat.beq (List.length ab) L then true else aL L [(19,t14),(0,i13),(2,p),(5,u),(17,DH),(18,DI)] [0,2,5,17,18,19] then aK (cx C) call rg n 96 lo 0 L kx kg kr kp m (St.mk [(0,i13),(2,p),(5,u),(17,DH),(18,DI),(19,t14)] ad) else none) fun i13 ab=>kp i13 (St.mk [(0,y),(2,p),(5,u),(17,DH),(18,DI),(19,DJ)] ab)) (kx 0 (St.mk [(0,y),(2,p),(5,u),(17,DH),(18,DI),(19,DJ)] H)):=by kernel_rfl
theorem Gm (p u d:A):aK (cx C) call rg n 103 lo 0 L kx kg kr kp (m+1) (St.mk [(0,p),(2,u),(3,d)] H) =
 (call 101 [p,A.v (.int .i64 1)] H lo).bind fun H0=>bJ H0.1 (fun a1 =>
 (ax prog 30 a1 (A.v (.int .i64 0)) H0.2).bind fun t2 =>
 (ld 5 t2 H0.2).bind fun t3 =>
 (bin .eql 3 false true d (A.v (.int .i64 0))).bind fun t4 =>
 (ew t4 (some [A.v (.bool true),ud,ud]) ((bin .neq 5 false true t3 (A.v (.int .u8 0))).bind fun t5=>some [t5,t5,t3])).bind fun l5=>jk l5 fun u6 u7 l7=>jR l7 fun u8 l8 =>
 (ew u6 ((bin .lss 3 false true d (A.v (.int .i64 9))).bind fun t9 =>
 (ew t9 (some [A.v (.bool true),ud,ud]) ((bin .leq 5 false true t3 (A.v (.int .u8 1))).bind fun t10=>some [t10,t10,t3])).bind fun cc=>jk cc fun y ab ch=>jR ch fun ad an=>some [y,y,ab,ad,t9,t9,d]) (some [A.v (.bool false),ud,ud,ud,ud,ud,ud])).bind fun l9=>kb l9 fun cm y ab ad an=>jk an fun ea eg cn=>jR cn fun u16 ej =>
 (call 83 [p,cm] H0.2 lo).bind fun q=>bJ q.1 (fun ao =>
 (bin .and 5 false true t3 (A.v (.int .u8 127))).bind fun t19 =>
 (cd prog 5 140 t19 q.2).bind fun t20 =>
 (bin .mul 3 true false (A.v (.int .i64 7)) d).bind fun t21 =>
 (bin .shl 140 false false t20 t21).bind fun t22 =>
 (bin .or 140 false false u t22).bind fun t23 =>
 (bin .lss 5 false true t3 (A.v (.int .u8 128))).bind fun t24=>bD t24 (kr (St.mk [(0,p),(2,t23),(3,d)] q.2)) ((bin .add 3 false true d (A.v (.int .i64 1))).bind fun t25 =>
 (trim L q.2).bind fun cv=>bif bif Nat.beq (List.length q.2) L then true else aL L [(3,t25),(2,t23),(0,p)] [0,2,3] then aK (cx C) call rg n 103 lo 0 L kx kg kr kp m (St.mk [(0,p),(2,t23),(3,t25)] cv) else none)) fun ao=>kp ao (St.mk [(0,p),(2,u),(3,d)] q.2)) fun a1=>kp a1 (St.mk [(0,p),(2,u),(3,d)] H0.2):=by kernel_rfl
theorem Gn (p q x4 x7 d:A):aK (cx C) call rg n 107 lo 0 L kx kg kr kp (m+1) (St.mk [(0,p),(3,q),(4,x4),(7,x7),(8,d)] H) =
 (bin .lss 3 false false d x7).bind fun t0=>bD t0 ((ld 59 q H).bind fun t1 =>
 (ax prog 22 p d H).bind fun t2 =>
 (ld 59 t2 H).bind fun t3 =>
 (bin .eql 59 false false t1 t3).bind fun t4=>bD t4 (kr (St.mk [(0,p),(3,q),(4,d),(7,x7),(8,d)] H)) ((bin .add 3 false true d (A.v (.int .i64 1))).bind fun t5 =>
 (trim L H).bind fun u=>bif bif Nat.beq (List.length H) L then true else aL L [(8,t5),(0,p),(3,q),(4,x4),(7,x7)] [0,3,4,7,8] then aK (cx C) call rg n 107 lo 0 L kx kg kr kp m (St.mk [(0,p),(3,q),(4,x4),(7,x7),(8,t5)] u) else none)) (kx 0 (St.mk [(0,p),(3,q),(4,x4),(7,x7),(8,d)] H)):=by kernel_rfl
theorem FA (n lo b lo':Nat) (p y0 y:A) (H:ay):gK (cx C) call rg n 9 lo 0 b [(2,p)] [y0,y] H lo'=bif Nat.ble lo' lo then Bm H b ((fI 72 H).bind fun d =>
 (cu 72 d.1 (b9 d.1 d.2 y) d.2 lo).bind fun H1=>Bm H1 b ((bl 72 d.1 0 (List.set H1 b (aD.rng cp.busy))).bind fun t2 =>
 (ld 4 t2 (List.set H1 b (aD.rng cp.busy))).bind fun t3=>bD t3 ((ld 27 p (List.set H1 b (aD.rng cp.busy))).bind fun t4 =>
 (bl 72 d.1 1 (List.set H1 b (aD.rng cp.busy))).bind fun t5 =>
 (bl 59 t5 0 (List.set H1 b (aD.rng cp.busy))).bind fun t6 =>
 (ld 3 t6 (List.set H1 b (aD.rng cp.busy))).bind fun t7 =>
 (bl 72 d.1 1 (List.set H1 b (aD.rng cp.busy))).bind fun t8 =>
 (bl 59 t8 1 (List.set H1 b (aD.rng cp.busy))).bind fun t9 =>
 (ld 3 t9 (List.set H1 b (aD.rng cp.busy))).bind fun t10 =>
 (bl 72 d.1 1 (List.set H1 b (aD.rng cp.busy))).bind fun t11 =>
 (bl 59 t11 2 (List.set H1 b (aD.rng cp.busy))).bind fun t12 =>
 (ld 3 t12 (List.set H1 b (aD.rng cp.busy))).bind fun t13 =>
 (ba prog 78 4 [(0,dz (List.set H1 b (aD.rng cp.busy)) (A.v (.int .i64 1))),(1,dz (List.set H1 b (aD.rng cp.busy)) t7),(2,dz (List.set H1 b (aD.rng cp.busy)) t10),(3,dz (List.set H1 b (aD.rng cp.busy)) t13)]).bind fun t14 =>
 (C 29 [snap (List.set H1 b (aD.rng cp.busy)) t14]).bind fun t15 =>
 (ba prog 27 1 [(0,dz (List.set H1 b (aD.rng cp.busy)) t15)]).bind fun t16 =>
 (cK prog 27 27 false t4 t16 (List.set H1 b (aD.rng cp.busy)) lo).bind fun q =>
 (cu 27 p (b9 p q.2 q.1) q.2 lo).bind fun ab=>zA ab b (some (Out.ret (A.v (.bool true)),List.set ab b (aD.rng cp.ready)))) ((ld 27 p (List.set H1 b (aD.rng cp.busy))).bind fun t4 =>
 (bl 72 d.1 2 (List.set H1 b (aD.rng cp.busy))).bind fun t5 =>
 (bl 62 t5 0 (List.set H1 b (aD.rng cp.busy))).bind fun t6 =>
 (ld 3 t6 (List.set H1 b (aD.rng cp.busy))).bind fun t7 =>
 (bl 72 d.1 2 (List.set H1 b (aD.rng cp.busy))).bind fun t8 =>
 (bl 62 t8 1 (List.set H1 b (aD.rng cp.busy))).bind fun t9 =>
 (ld 3 t9 (List.set H1 b (aD.rng cp.busy))).bind fun t10 =>
 (ba prog 78 3 [(0,dz (List.set H1 b (aD.rng cp.busy)) (A.v (.int .i64 2))),(1,dz (List.set H1 b (aD.rng cp.busy)) t7),(2,dz (List.set H1 b (aD.rng cp.busy)) t10)]).bind fun t11 =>
 (C 29 [snap (List.set H1 b (aD.rng cp.busy)) t11]).bind fun t12 =>
 (ba prog 27 1 [(0,dz (List.set H1 b (aD.rng cp.busy)) t12)]).bind fun t13 =>
 (cK prog 27 27 false t4 t13 (List.set H1 b (aD.rng cp.busy)) lo).bind fun u =>
 (cu 27 p (b9 p u.2 u.1) u.2 lo).bind fun ad=>zA ad b (some (Out.ret (A.v (.bool true)),List.set ad b (aD.rng cp.ready)))))) else none:=by kernel_rfl
theorem Cm (n lo b lo':Nat) (q p x4 y0 y1:A) (H:ay):gK (cx C) call rg n 20 lo 0 b [(2,q),(3,p),(4,x4)] [y0,y1] H lo'=bif Nat.ble lo' lo then Bm H b ((fI 72 H).bind fun d =>
 (cu 72 d.1 (b9 d.1 d.2 y1) d.2 lo).bind fun H1=>Bm H1 b ((bl 72 d.1 0 (List.set H1 b (aD.rng cp.busy))).bind fun t2 =>
 (ld 4 t2 (List.set H1 b (aD.rng cp.busy))).bind fun t3 =>
 (ew t3 ((ld 26 p (List.set H1 b (aD.rng cp.busy))).bind fun t4 =>
 (bl 72 d.1 1 (List.set H1 b (aD.rng cp.busy))).bind fun t5 =>
 (ld 59 t5 (List.set H1 b (aD.rng cp.busy))).bind fun t6 =>
 (C 50 [snap (List.set H1 b (aD.rng cp.busy)) t4,snap (List.set H1 b (aD.rng cp.busy)) t6]).bind fun t7 =>
 (jS prog UnOp.not t7).bind fun t8=>some [t8,t8,t7,t6,t5,t4]) (some [A.v (.bool false),ud,ud,ud,ud,ud])).bind fun l4=>kb l4 fun u5 u6 u7 u8 l8=>jk l8 fun u9 fv ha =>
 (ew u5 (some [A.v (.bool true),ud,ud,ud,ud,ud,ud,ud,ud,ud,ud]) ((bl 72 d.1 0 (List.set H1 b (aD.rng cp.busy))).bind fun t11 =>
 (ld 4 t11 (List.set H1 b (aD.rng cp.busy))).bind fun t12 =>
 (jS prog UnOp.not t12).bind fun t13 =>
 (ew t13 ((ld 26 p (List.set H1 b (aD.rng cp.busy))).bind fun t14 =>
 (bl 72 d.1 2 (List.set H1 b (aD.rng cp.busy))).bind fun t15 =>
 (ld 62 t15 (List.set H1 b (aD.rng cp.busy))).bind fun t16 =>
 (C 51 [snap (List.set H1 b (aD.rng cp.busy)) t14,snap (List.set H1 b (aD.rng cp.busy)) t16]).bind fun t17 =>
 (jS prog UnOp.not t17).bind fun t18=>some [t18,t18,t17,t16,t15,t14]) (some [A.v (.bool false),ud,ud,ud,ud,ud])).bind fun cn=>kb cn fun u u16 ad an cv=>jk cv fun ao bm hf=>some [u,u,u16,ad,an,ao,bm,t13,t13,t12,t11])).bind fun cy=>vP cy fun dd hg hh u u16 ad an ao ea=>jk ea fun bm hi eg=>jR eg fun hj hk=>bD dd ((cu 31 q (b9 q (List.set H1 b (aD.rng cp.busy)) (A.v (.int .i64 530))) (List.set H1 b (aD.rng cp.busy)) lo).bind fun bs=>zA bs b (some (Out.ret (A.v (.bool false)),List.set bs b (aD.rng (cp.done Fb.ret))))) ((ld 26 p (List.set H1 b (aD.rng cp.busy))).bind fun t23 =>
 (ld 72 d.1 (List.set H1 b (aD.rng cp.busy))).bind fun t24 =>
 (C 33 [snap (List.set H1 b (aD.rng cp.busy)) t23,snap (List.set H1 b (aD.rng cp.busy)) t24]).bind fun t25 =>
 (cu 26 p (b9 p (List.set H1 b (aD.rng cp.busy)) t25) (List.set H1 b (aD.rng cp.busy)) lo).bind fun y =>
 (ld 3 x4 y).bind fun t27 =>
 (bin .add 3 false true t27 (A.v (.int .i64 1))).bind fun t28 =>
 (cu 3 x4 (b9 x4 y t28) y lo).bind fun ca=>zA ca b (some (Out.ret (A.v (.bool true)),List.set ca b (aD.rng cp.ready)))))) else none:=by kernel_rfl
theorem uY (n lo b lo':Nat) (q x4 u p y y1:A) (H:ay):gK (cx C) call rg n 69 lo 0 b [(3,q),(4,x4),(5,u),(6,p)] [y,y1] H lo'=bif Nat.ble lo' lo then Bm H b ((fI 72 H).bind fun d =>
 (cu 72 d.1 (b9 d.1 d.2 y1) d.2 lo).bind fun H1=>Bm H1 b ((ld 81 q (List.set H1 b (aD.rng cp.busy))).bind fun t2 =>
 (ld 3 x4 (List.set H1 b (aD.rng cp.busy))).bind fun t3 =>
 (dF t2 (List.set H1 b (aD.rng cp.busy))).bind fun t4 =>
 (bl 83 t4 0 (List.set H1 b (aD.rng cp.busy))).bind fun t5 =>
 (bl 44 t5 1 (List.set H1 b (aD.rng cp.busy))).bind fun t6 =>
 (ax prog 41 t6 t3 (List.set H1 b (aD.rng cp.busy))).bind fun t7 =>
 (ld 3 t7 (List.set H1 b (aD.rng cp.busy))).bind fun t8 =>
 (bin .lss 3 false false y t8).bind fun t9 =>
 (ky t9 true ((ld 112 u (List.set H1 b (aD.rng cp.busy))).bind fun t10 =>
 (ld 72 d.1 (List.set H1 b (aD.rng cp.busy))).bind fun t11=>some [t11,t10]) (some [ud,ud])).bind fun ao=>jk ao fun bm bs ch =>
 (ew t9 (qA (cx C) call bs [bm] (List.set H1 b (aD.rng cp.busy)) fun ad=>some [ad,ad]) (some [A.v (.bool false),ud])).bind fun ca=>jk ca fun cc ck cm=>bD cc ((cu 4 p (b9 p (List.set H1 b (aD.rng cp.busy)) (A.v (.bool true))) (List.set H1 b (aD.rng cp.busy)) lo).bind fun an=>zA an b (some (Out.ret (A.v (.bool false)),List.set an b (aD.rng (cp.done Fb.ret))))) (zA (List.set H1 b (aD.rng cp.busy)) b (some (Out.ret (A.v (.bool true)),List.set (List.set H1 b (aD.rng cp.busy)) b (aD.rng cp.ready)))))) else none:=by kernel_rfl
end Go.Proofs.Ytdmgdjnadbakfaa
