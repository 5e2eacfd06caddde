/-
 What the interpreter does with the program's functions: equations, by a tool; the kernel checks each.
-/
import Derived.Test.YtdmgdjnadbakfaaEvTyped
import Derived.Test.YtdmgdjnadbakfaaRows
import Derived.KernelRfl
namespace Go.Proofs.Ytdmgdjnadbakfaa
open Go.Proofs.Try (prog)
set_option linter.unusedVariables false
set_option linter.unusedSimpArgs false
set_option maxHeartbeats 4000000
set_option maxRecDepth 100000
def EU:List ((Nat×Nat)×List Nat):=[((3,6),[1,2,3,6,27,28,29]),((4,18),[6,7,11,30,31,32,72]),((4,9),[6,7,30,31,32]),((6,8),[1,2,4,5,6,23,24,25]),((9,1000006),[2]),((11,3),[4,5,12,13,14]),((12,3),[1,4,5,6,7]),((13,4),[0,1,4,5]),((14,4),[2,3,4,5]),((15,2),[0,1,4,5,7]),((16,2),[2,3,4,5]),((18,32),[1,2,11,13,14,78,84,85,86,98,104,105,106]),((18,29),[1,2,11,13,78,84,85,86,98]),((18,24),[1,2,11,78,84,85,86]),((18,21),[1,2,78]),((18,15),[1,2,3,4,59,60,61]),((18,8),[1,2,3,4,6,38,39,40,45,46,47]),((18,5),[1,2,3,4,38,39,40]),((19,4),[0,1,4,5]),((20,1000006),[2,3,4]),((21,4),[0,1,4,5]),((23,3),[0,3,4,8,9,10]),((27,2),[2,4,5,10,11,12]),((29,3),[2,3,9,10,11]),((31,5),[1,2,3,4,5,6]),((32,6),[2,3,6,23,24,25]),((34,6),[2,3,5,6]),((35,11),[1,2,5]),((35,5),[1,2,3,4]),((38,15),[0,69,70,71]),((38,9),[0,4,42,51,52,53]),((38,6),[0,42]),((38,1),[0,13,14]),((48,2),[0,3,4,5]),((49,2),[3,4,7,8,9]),((55,2),[0,3,4,13,14,15]),((57,3),[0,2,3,4]),((65,3),[0,2,3,4]),((67,2),[0,1,4,5]),((68,3),[0,1,2,6,7,8]),((69,1000004),[3,4,5,6]),((80,8),[1,2,3,4]),((82,11),[0,1,4,36,37]),((84,21),[0,1,4,7,8,9]),((89,2),[0,1,4,7,8]),((91,7),[2,3,55,56,57]),((93,1),[0,1,4]),((96,3),[0,2,5,17,18,19]),((97,8),[1,2,3]),((98,5),[1,2,3,4]),((103,3),[0,2,3]),((106,3),[0,2,3,4]),((107,2),[0,3,4,7,8])]
def J8 (f r:Nat):List Nat:=vw f r EU
def Hf:List ((Nat×Nat)×List (Nat×Nat×Nat)):=[((82,11),[(4,4,5)]),((82,3000000),[(4,4,0)]),((84,21),[(8,4,5)]),((84,3000000),[(4,4,0)]),((95,2000001),[(3,0,0)]),((29,3),[(3,4,5)]),((15,2),[(4,2,0),(4,3,0),(4,4,0),(4,6,0),(4,7,0),(4,8,0)]),((57,3),[(3,4,5)]),((34,6),[(5,0,2)]),((32,6),[(6,0,2)]),((20,1000006),[(3,2,0),(3,3,0),(3,4,0)]),((31,5),[(3,0,2)]),((11,3),[(4,2,0),(4,3,0),(4,4,0)]),((12,3),[(6,2,4),(6,3,3),(6,4,2)]),((9,1000006),[(2,1,2)]),((4,9),[(7,2,0),(7,3,0),(7,4,0),(7,6,0),(7,7,0),(7,8,0),(7,11,0),(7,12,0),(7,13,0)])]
def MV (f r:Nat):List (Nat×Nat×Nat):=CN f r Hf
def Hi:List (Nat×Nat):=[]
def MX (f t:Nat):Bool:=w6 f t Hi
def K4:List (Nat×Nat):=[]
def Sf (f t:Nat):Bool:=w6 f t K4
def EW:List (Nat×Nat):=[]
def J9 (f t:Nat):Bool:=w6 f t EW
def ET:List ((Nat×Nat)×List Nat):=[]
def J7 (f r:Nat):List Nat:=vw f r ET
def Hl:List (Nat×Nat):=[(82,3),(84,2),(96,5),(93,1000)]
def M1 (k:Nat):Nat:=Gm k Hl
def Ht:List (Nat×Nat):=[(77,0),(60,0),(61,0),(62,0),(70,0),(71,0)]
def M8 (k:Nat):Bool:=w6 k 0 Ht
noncomputable def cx (C:Nat->List A->Option A):Cx:={ P:=prog,glob:=fun _=>none,isOrc:=fun k=>DK k [23,28,36,37,38,39,40,41,42,43,44,45,46,52,53,54,55,60,61,62,69,70,71,72,77,81,82,83,84,85,86,87,89,90,92,93,95,96,101,103,104,105,106],isOrcV:=fun k=>DK k [23,28,36,37,38,39,40,41,42,43,44,45,46,52,53,54,55,60,61,62,69,70,71,72,77,81,82,83,84,85,86,87,89,90,92,93,95,96,101,103,104,105,106],C:=C,keep:=J8,wrAt:=Sf,acts:=MV,loud:=J9,arr:=MX,join:=J7,cut:=M1,fre:=M8,deep:=fun k=>iI k [69] }
theorem R6 (C:Nat->List A->Option A):Array.size (Program.funcs (Cx.P (cx C)))=124:=by kernel_rfl
theorem yq {C:Nat->List A->Option A} {m b:Nat} {base:aW} {args:List A} {H:ay} {lo:Nat}:aI (cx C) m base (Array.size (Program.funcs (Cx.P (cx C)))+b) args H lo=base (124+b) args H lo:=Bn.trans (congrArg (fun q=>base (q+b) args H lo) (R6 C))
theorem GB:Nat.ble prog.funcs.size 28=false:=by kernel_rfl
theorem GC:Nat.ble prog.funcs.size 37=false:=by kernel_rfl
theorem Kb:Nat.ble prog.funcs.size 46=false:=by kernel_rfl
theorem GD:Nat.ble prog.funcs.size 53=false:=by kernel_rfl
theorem GF:Nat.ble prog.funcs.size 55=false:=by kernel_rfl
theorem Kc:Nat.ble prog.funcs.size 60=false:=by kernel_rfl
theorem Kd:Nat.ble prog.funcs.size 61=false:=by kernel_rfl
theorem GG:Nat.ble prog.funcs.size 62=false:=by kernel_rfl
theorem Ke:Nat.ble prog.funcs.size 77=false:=by kernel_rfl
theorem k9:Nat.ble prog.funcs.size 83=false:=by kernel_rfl
theorem Kf:Nat.ble prog.funcs.size 89=false:=by kernel_rfl
theorem Kg:Nat.ble prog.funcs.size 90=false:=by kernel_rfl
theorem DF:Nat.ble prog.funcs.size 92=false:=by kernel_rfl
theorem qD:Nat.ble prog.funcs.size 93=false:=by kernel_rfl
theorem DG:Nat.ble prog.funcs.size 95=false:=by kernel_rfl
theorem Kh:Nat.ble prog.funcs.size 96=false:=by kernel_rfl
theorem su:Nat.ble prog.funcs.size 101=false:=by kernel_rfl
theorem zg:Nat.ble prog.funcs.size 103=false:=by kernel_rfl
theorem DE:Nat.ble prog.funcs.size 104=false:=by kernel_rfl
theorem vB:Nat.ble prog.funcs.size 105=false:=by kernel_rfl
theorem zh:Nat.ble prog.funcs.size 106=false:=by kernel_rfl
variable (C:Nat->List A->Option A) (call:aW) (rg:aW->aW)
variable (n lo L:Nat) (kx kg:Nat->St->Option R) (kr:St->Option R) (kp:A->St->Option R) (m:Nat) (H:ay)
noncomputable abbrev jh {β:Type} (l:List A) (k:A->A->List A->Option β):Option β:=g9 l fun a l=>g9 l fun b l=>k a b l
noncomputable abbrev fR {β:Type} (l:List A) (k:A->A->A->A->List A->Option β):Option β:=jh l fun a b l=>jh l fun c d l=>k a b c d l
noncomputable abbrev AX {β:Type} (l:List A) (k:A->A->A->A->A->A->A->A->List A->Option β):Option β:=fR l fun a b c d l=>fR l fun e f g h l=>k a b c d e f g h l
noncomputable abbrev ld:=iJ prog
noncomputable abbrev bB:=fh prog
noncomputable abbrev cP:=jX prog
noncomputable abbrev bin:=jN prog
noncomputable abbrev fY:=lK prog
abbrev lk (s:St) (i:Nat):A:=look (St.fr s) i
abbrev ud:A:=A.v undef
theorem e3 (x0 x1 q:A):av (cx C) call rg n 3 [x0,x1,q] H lo =
 (ef x0 H).bind fun h =>
 (C 7 []).bind fun t1 =>
 (jz prog UnOp.not t1).bind fun t2=>bj t2 (some (Out.ret (A.v (.bool false)),h.2)) ((ld 26 h.1 h.2).bind fun t3 =>
 (C 8 [snap h.2 t3]).bind fun t4 =>
 (jz prog UnOp.not t4).bind fun t5 =>
 (dI t5 (some [A.v (.bool true),ud,ud,ud]) ((bU prog 27 q h.2).bind fun t6 =>
 (bin .gtr 3 false true t6 (A.v (.int .i64 100))).bind fun t7=>some [t7,t7,t6,q])).bind fun l6=>fR l6 fun u7 u8 u9 cv cy=>bj u7 (some (Out.ret (A.v (.bool true)),h.2)) ((bU prog 27 q h.2).bind fun t11=>aH (cx C) call rg n 3 lo 0 (List.length h.2) (fun i12 d=>bif Nat.beq i12 0 then
 (ld 26 (lk d 3) (St.H d)).bind fun t13 =>
 (C 9 [snap (St.H d) t13]).bind fun t14 =>
 (aL t14 0).bind fun t15 =>
 (aL t14 1).bind fun t16 =>
 (ld 26 (lk d 3) (St.H d)).bind fun t17 =>
 (C 10 [snap (St.H d) t17]).bind fun t18 =>
 (aL t18 0).bind fun t19 =>
 (aL t18 1).bind fun t20 =>
 (C 11 [snap (St.H d) (lk d 1),snap (St.H d) (lk d 2)]).bind fun t21 =>
 (aL t21 0).bind fun t22 =>
 (aL t21 1).bind fun t23 =>
 (fY 26 (St.H d)).bind fun u =>
 (cP 26 u.1 (cH u.1 u.2 t22) u.2 lo).bind fun y =>
 (C 12 [snap y (lk d 1),snap y (lk d 2)]).bind fun t26 =>
 (aL t26 0).bind fun t27 =>
 (aL t26 1).bind fun t28 =>
 (fY 26 y).bind fun vO =>
 (cP 26 vO.1 (cH vO.1 vO.2 t27) vO.2 lo).bind fun p =>
 (C 13 [snap p t15,snap p t19]).bind fun t31 =>
 (dI t31 ((bin .eql 31 false false t16 t20).bind fun t32=>some [t32,t32,t20,t16]) (some [A.v (.bool false),ud,ud,ud])).bind fun bs=>fR bs fun ca dd ds ea eg =>
 (dI ca ((ld 26 u.1 p).bind fun t37 =>
 (ld 26 vO.1 p).bind fun t38 =>
 (C 14 [snap p t37,snap p t38]).bind fun t39=>some [t39,t39,t38,t37]) (some [A.v (.bool false),ud,ud,ud])).bind fun cb=>fR cb fun cc ei ej fs fv =>
 (dI cc ((bin .eql 31 false false t23 t28).bind fun t42=>some [t42,t42,t28,t23]) (some [A.v (.bool false),ud,ud,ud])).bind fun ch=>fR ch fun ck gf ha hd hf=>some (Out.ret ck,p) else none) (fun i12 d=>none) (fun an=>some (Out.ret (lk an 6),St.H an)) (fun i12 d=>some (Out.pan i12,St.H d)) n (St.mk [(1,x1),(2,q),(3,h.1),(6,A.v (.bool false)),(27,q),(28,t11),(29,A.v (.int .i64 0))] h.2))):=by kernel_rfl
theorem e7:av (cx C) call rg n 7 [] H lo =
 (C 25 [snap H (A.v (.int .i64 0)),snap H (A.v (.int .i64 0)),snap H (A.v (.int .i64 10))]).bind fun t0 =>
 (aL t0 0).bind fun t1 =>
 (aL t0 1).bind fun t2 =>
 (fY 26 H).bind fun y =>
 (cP 26 y.1 (cH y.1 y.2 t1) y.2 lo).bind fun H4 =>
 (C 25 [snap H4 (A.v (.int .i64 2)),snap H4 (A.v (.int .i64 0)),snap H4 (A.v (.int .i64 5))]).bind fun t5 =>
 (aL t5 0).bind fun t6 =>
 (aL t5 1).bind fun t7 =>
 (fY 26 H4).bind fun r8 =>
 (cP 26 r8.1 (cH r8.1 r8.2 t6) r8.2 lo).bind fun H9 =>
 (C 25 [snap H9 (A.v (.int .i64 0)),snap H9 (A.v (.int .i64 0)),snap H9 (A.v (.int .i64 0))]).bind fun t10 =>
 (aL t10 0).bind fun t11 =>
 (aL t10 1).bind fun t12 =>
 (fY 26 H9).bind fun cm =>
 (cP 26 cm.1 (cH cm.1 cm.2 t11) cm.2 lo).bind fun cv =>
 (C 25 [snap cv (A.v (.int .i64 0)),snap cv (A.v (.int .i64 1)),snap cv (A.v (.int .i64 5))]).bind fun t15 =>
 (aL t15 0).bind fun t16 =>
 (aL t15 1).bind fun t17 =>
 (fY 26 cv).bind fun an =>
 (cP 26 an.1 (cH an.1 an.2 t16) an.2 lo).bind fun ao =>
 (ld 26 an.1 ao).bind fun t20 =>
 (C 26 [snap ao t20,snap ao (A.v (.int .i64 0)),snap ao (A.v (.int .i64 9))]).bind fun t21 =>
 (aL t21 0).bind fun t22 =>
 (aL t21 1).bind fun t23 =>
 (fY 26 ao).bind fun cy =>
 (cP 26 cy.1 (cH cy.1 cy.2 t22) cy.2 lo).bind fun bm =>
 (ld 26 y.1 bm).bind fun t26 =>
 (C 24 [snap bm t26,snap bm (A.v (.int .i64 10)),snap bm (A.v (.int .i64 1))]).bind fun t27 =>
 (aL t27 0).bind fun t28 =>
 (aL t27 1).bind fun t29 =>
 (fY 26 bm).bind fun BU =>
 (cP 26 BU.1 (cH BU.1 BU.2 t28) BU.2 lo).bind fun fv =>
 (C 11 [snap fv (A.v (.int .i64 0)),snap fv (A.imm [] true)]).bind fun t32 =>
 (aL t32 0).bind fun t33 =>
 (aL t32 1).bind fun t34 =>
 (fY 26 fv).bind fun dd =>
 (cP 26 dd.1 (cH dd.1 dd.2 t33) dd.2 lo).bind fun gf =>
 (C 15 [snap gf (A.v (.int .i64 0)),snap gf (A.v (.int .i64 10))]).bind fun t37 =>
 (aL t37 0).bind fun t38 =>
 (aL t37 1).bind fun t39 =>
 (fY 44 gf).bind fun ab =>
 (cP 44 ab.1 (cH ab.1 ab.2 t38) ab.2 lo).bind fun ds =>
 (ld 44 ab.1 ds).bind fun t42 =>
 (bo prog 49 []).bind fun t43 =>
 (C 17 [snap ds t42,snap ds t43]).bind fun t44 =>
 (aL t44 0).bind fun t45 =>
 (aL t44 1).bind fun t46 =>
 (fY 44 ds).bind fun ea =>
 (cP 44 ea.1 (cH ea.1 ea.2 t45) ea.2 lo).bind fun p =>
 (bin .neq 31 false true t2 (A.v (.int .i64 0))).bind fun t49 =>
 (dI t49 (some [A.v (.bool true),ud,ud]) ((bin .neq 31 false true t7 (A.v (.int .i64 1))).bind fun t50=>some [t50,t50,t7])).bind fun la=>jh la fun lb u52 lx=>g9 lx fun u53 l53 =>
 (dI lb (some [A.v (.bool true),ud,ud]) ((bin .neq 31 false true t12 (A.v (.int .i64 1))).bind fun t54=>some [t54,t54,t12])).bind fun ly=>jh ly fun mn u56 mx=>g9 mx fun u57 l57 =>
 (dI mn (some [A.v (.bool true),ud,ud]) ((bin .neq 31 false true t17 (A.v (.int .i64 0))).bind fun t58=>some [t58,t58,t17])).bind fun nb=>jh nb fun nf u60 ni=>g9 ni fun u61 l61 =>
 (dI nf (some [A.v (.bool true),ud,ud]) ((bin .neq 31 false true t23 (A.v (.int .i64 530))).bind fun t62=>some [t62,t62,t23])).bind fun ns=>jh ns fun nt u64 oa=>g9 oa fun u65 l65 =>
 (dI nt (some [A.v (.bool true),ud,ud]) ((bin .neq 31 false true t29 (A.v (.int .i64 530))).bind fun t66=>some [t66,t66,t29])).bind fun oc=>jh oc fun oi u68 oj=>g9 oj fun u69 l69 =>
 (dI oi (some [A.v (.bool true),ud,ud]) ((bin .neq 31 false true t34 (A.v (.int .i64 530))).bind fun t70=>some [t70,t70,t34])).bind fun oo=>jh oo fun oq u72 pc=>g9 pc fun u73 l73 =>
 (dI oq (some [A.v (.bool true),ud,ud]) ((bin .neq 31 false true t39 (A.v (.int .i64 0))).bind fun t74=>some [t74,t74,t39])).bind fun ps=>jh ps fun qi u76 qv=>g9 qv fun u77 l77 =>
 (dI qi (some [A.v (.bool true),ud,ud]) ((bin .neq 31 false true t46 (A.v (.int .i64 530))).bind fun t78=>some [t78,t78,t46])).bind fun sa=>jh sa fun sb u80 si=>g9 si fun u81 l81 =>
 (dI sb (some [A.v (.bool true),ud,ud,ud]) ((ld 26 y.1 p).bind fun t82 =>
 (C 20 [snap p t82]).bind fun t83 =>
 (bin .neq 31 false true t83 (A.v (.int .i64 0))).bind fun t84=>some [t84,t84,t83,t82])).bind fun sk=>fR sk fun so u84 u85 u86 l86 =>
 (dI so (some [A.v (.bool true),ud,ud,ud]) ((bo prog 26 []).bind fun t87 =>
 (C 20 [snap p t87]).bind fun t88 =>
 (bin .neq 31 false true t88 (A.v (.int .i64 530))).bind fun t89=>some [t89,t89,t88,t87])).bind fun tb=>fR tb fun tk u89 u90 u91 l91=>bj tk (some (Out.ret (A.v (.bool false)),p)) ((ld 44 ab.1 p).bind fun t92 =>
 (bo prog 49 [(0,A.v (.int .i64 3)),(2,A.v (.int .i64 3)),(3,A.v (.int .i64 2))]).bind fun t93 =>
 (bo prog 49 [(0,A.v (.int .i64 3)),(2,A.v (.int .i64 5)),(3,A.v (.int .i64 1))]).bind fun t94 =>
 (bo prog 49 [(0,A.v (.int .i64 1)),(2,A.v (.int .i64 1)),(3,A.v (.int .i64 20))]).bind fun t95 =>
 (bo prog 49 [(0,A.v (.int .i64 4))]).bind fun t96 =>
 (bo prog 49 [(0,A.v (.int .i64 5)),(2,A.v (.int .i64 1))]).bind fun t97 =>
 (bo prog 49 [(0,A.v (.int .i64 6)),(2,A.v (.int .i64 1))]).bind fun t98 =>
 (aJ prog 39 6 [(0,cE p t93),(1,cE p t94),(2,cE p t95),(3,cE p t96),(4,cE p t97),(5,cE p t98)]).bind fun t99 =>
 (C 27 [snap p t92,snap p t99]).bind fun t100 =>
 (aL t100 0).bind fun t101 =>
 (aL t100 1).bind fun t102 =>
 (fY 44 p).bind fun u =>
 (cP 44 u.1 (cH u.1 u.2 t101) u.2 lo).bind fun eg =>
 (ld 44 u.1 eg).bind fun t105 =>
 (bo prog 49 [(0,A.v (.int .i64 3)),(1,A.v (.int .i64 1)),(2,A.v (.int .i64 12)),(3,A.v (.int .i64 1))]).bind fun t106 =>
 (C 17 [snap eg t105,snap eg t106]).bind fun t107 =>
 (aL t107 0).bind fun t108 =>
 (aL t107 1).bind fun t109 =>
 (fY 44 eg).bind fun ei =>
 (cP 44 ei.1 (cH ei.1 ei.2 t108) ei.2 lo).bind fun ad =>
 (ld 44 u.1 ad).bind fun t112 =>
 (bo prog 49 [(0,A.v (.int .i64 2)),(1,A.v (.int .i64 1))]).bind fun t113 =>
 (bo prog 49 [(0,A.v (.int .i64 3)),(1,A.v (.int .i64 1)),(2,A.v (.int .i64 12)),(3,A.v (.int .i64 4))]).bind fun t114 =>
 (aJ prog 39 2 [(0,cE ad t113),(1,cE ad t114)]).bind fun t115 =>
 (C 27 [snap ad t112,snap ad t115]).bind fun t116 =>
 (aL t116 0).bind fun t117 =>
 (aL t116 1).bind fun t118 =>
 (fY 44 ad).bind fun q =>
 (cP 44 q.1 (cH q.1 q.2 t117) q.2 lo).bind fun ej =>
 (ld 44 q.1 ej).bind fun t121 =>
 (bo prog 49 [(0,A.v (.int .i64 6)),(1,A.v (.int .i64 1))]).bind fun t122 =>
 (C 17 [snap ej t121,snap ej t122]).bind fun t123 =>
 (aL t123 0).bind fun t124 =>
 (aL t123 1).bind fun t125 =>
 (fY 44 ej).bind fun fs =>
 (cP 44 fs.1 (cH fs.1 fs.2 t124) fs.2 lo).bind fun bs =>
 (ld 44 q.1 bs).bind fun t128 =>
 (bo prog 49 [(0,A.v (.int .i64 7)),(1,A.v (.int .i64 1)),(2,A.v (.int .i64 2))]).bind fun t129 =>
 (aJ prog 39 1 [(0,cE bs t129)]).bind fun t130 =>
 (C 27 [snap bs t128,snap bs t130]).bind fun t131 =>
 (aL t131 0).bind fun t132 =>
 (aL t131 1).bind fun t133 =>
 (fY 44 bs).bind fun ca =>
 (cP 44 ca.1 (cH ca.1 ca.2 t132) ca.2 lo).bind fun d =>
 (jz prog UnOp.not t102).bind fun t136 =>
 (dI t136 (some [A.v (.bool true),ud,ud]) ((bin .neq 31 false true t109 (A.v (.int .i64 530))).bind fun t137=>some [t137,t137,t109])).bind fun tm=>jh tm fun ts u139 tw=>g9 tw fun u140 l140 =>
 (dI ts (some [A.v (.bool true),ud,ud]) ((jz prog UnOp.not t118).bind fun t141=>some [t141,t141,t118])).bind fun vr=>jh vr fun vt u143 wu=>g9 wu fun u144 l144 =>
 (dI vt (some [A.v (.bool true),ud,ud]) ((bin .neq 31 false true t125 (A.v (.int .i64 530))).bind fun t145=>some [t145,t145,t125])).bind fun xt=>jh xt fun ys u147 zc=>g9 zc fun u148 l148 =>
 (dI ys (some [A.v (.bool true),ud,ud]) ((jz prog UnOp.not t133).bind fun t149=>some [t149,t149,t133])).bind fun zm=>jh zm fun zn u151 zz=>g9 zz fun u152 l152=>bj zn (some (Out.ret (A.v (.bool false)),d)) ((bo prog 59 [(2,A.v (.int .i64 10))]).bind fun t153 =>
 (bo prog 59 [(0,A.v (.int .i64 1)),(1,A.v (.int .i64 1)),(2,A.v (.int .i64 20))]).bind fun t154 =>
 (aJ prog 22 2 [(0,cE d t153),(1,cE d t154)]).bind fun t155 =>
 (bB 44 u.1 2 d).bind fun t156 =>
 (ld 22 t156 d).bind fun t157 =>
 (eK prog 22 t155 (some (A.v (.int .i64 1))) none none d).bind fun t158 =>
 (C 19 [snap d t157,snap d t158]).bind fun t159 =>
 (jz prog UnOp.not t159).bind fun t160 =>
 (dI t160 (some [A.v (.bool true),ud,ud,ud,ud,ud,ud,ud]) ((bB 44 u.1 3 d).bind fun t161 =>
 (ax prog 42 t161 (A.v (.int .i64 0)) d).bind fun t162 =>
 (ld 23 t162 d).bind fun t163 =>
 (bo prog 62 [(0,A.v (.int .i64 5)),(1,A.v (.int .i64 1))]).bind fun t164 =>
 (aJ prog 23 1 [(0,cE d t164)]).bind fun t165 =>
 (C 21 [snap d t163,snap d t165]).bind fun t166 =>
 (jz prog UnOp.not t166).bind fun t167=>some [t167,t167,t166,t165,t164,t163,t162,t161])).bind fun l161=>AX l161 fun hd u163 u164 u165 u166 u167 u168 u169 l169 =>
 (m8 hd false ((bB 44 q.1 0 d).bind fun hf =>
 (ax prog 40 hf (A.v (.int .i64 1)) d).bind fun hg =>
 (ld 26 hg d).bind fun t172 =>
 (bo prog 62 [(0,A.v (.int .i64 12)),(1,A.v (.int .i64 4))]).bind fun hh =>
 (aJ prog 23 1 [(0,cE d hh)]).bind fun hi =>
 (aJ prog 24 3 [(0,cE d (A.v (.bool true))),(1,cE d (A.v (.bool true))),(2,cE d (A.v (.bool false)))]).bind fun hj =>
 (bo prog 26 [(0,A.v (.int .i64 1)),(1,t155),(2,hi),(3,hj)]).bind fun t176=>some [t176,hj,hi,hh,t155,t172,hg,hf]) (some [ud,ud,ud,ud,ud,ud,ud,ud])).bind fun l170=>AX l170 fun u171 u172 u173 u174 u175 u176 u177 u178 l178 =>
 (dI hd (some [A.v (.bool true),ud,ud]) ((C 14 [snap d u176,snap d u171]).bind fun hk =>
 (jz prog UnOp.not hk).bind fun ho=>some [ho,ho,hk])).bind fun l179=>jh l179 fun u180 u181 l181=>g9 l181 fun u182 l182=>bj u180 (some (Out.ret (A.v (.bool false)),d)) ((bB 44 q.1 0 d).bind fun t183 =>
 (ax prog 40 t183 (A.v (.int .i64 1)) d).bind fun t184 =>
 (ld 26 t184 d).bind fun t185 =>
 (C 9 [snap d t185]).bind fun hp =>
 (aL hp 0).bind fun ha =>
 (aL hp 1).bind fun t188 =>
 (C 11 [snap d (A.v (.int .i64 1)),snap d ha]).bind fun hq =>
 (aL hq 0).bind fun t190 =>
 (aL hq 1).bind fun hr =>
 (fY 26 d).bind fun cb =>
 (cP 26 cb.1 (cH cb.1 cb.2 t190) cb.2 lo).bind fun h =>
 (bin .eql 31 false true t188 (A.v (.int .i64 0))).bind fun t194 =>
 (dI t194 ((bin .eql 31 false true hr (A.v (.int .i64 0))).bind fun hs=>some [hs,hs,hr]) (some [A.v (.bool false),ud,ud])).bind fun l195=>jh l195 fun u196 u197 l197=>g9 l197 fun u198 l198 =>
 (dI u196 ((bU prog 27 ha h).bind fun ht =>
 (bin .eql 3 false true ht (A.v (.int .i64 3))).bind fun hv=>some [hv,hv,ht,ha]) (some [A.v (.bool false),ud,ud,ud])).bind fun l199=>fR l199 fun u200 u201 u202 u203 l203 =>
 (dI u200 ((ld 26 cb.1 h).bind fun hx =>
 (bB 44 q.1 0 h).bind fun hy =>
 (ax prog 40 hy (A.v (.int .i64 1)) h).bind fun ie =>
 (ld 26 ie h).bind fun ih =>
 (C 14 [snap h hx,snap h ih]).bind fun ik=>some [ik,ik,ih,ie,hy,hx]) (some [A.v (.bool false),ud,ud,ud,ud,ud])).bind fun l204=>fR l204 fun u205 u206 u207 u208 l208=>jh l208 fun u209 u210 l210 =>
 (dI u205 ((bB 44 ca.1 0 h).bind fun js =>
 (ax prog 40 js (A.v (.int .i64 1)) h).bind fun kc =>
 (ld 26 kc h).bind fun kk =>
 (aJ prog 24 2 [(0,cE h (A.v (.bool true))),(1,cE h (A.v (.bool true)))]).bind fun kn =>
 (bo prog 26 [(0,A.v (.int .i64 1)),(1,t155),(3,kn)]).bind fun ko =>
 (C 14 [snap h kk,snap h ko]).bind fun kt=>some [kt,kt,ko,kn,t155,kk,kc,js]) (some [A.v (.bool false),ud,ud,ud,ud,ud,ud,ud])).bind fun l211=>AX l211 fun u212 u213 u214 u215 u216 u217 u218 u219 l219=>some (Out.ret u212,h)))):=by kernel_rfl
theorem e8 (h:A):av (cx C) call rg n 8 [h] H lo =
 (ef h H).bind fun d =>
 (bB 26 d.1 1 d.2).bind fun t1 =>
 (ld 22 t1 d.2).bind fun t2 =>
 (bU prog 22 t2 d.2).bind fun t3 =>
 (bin .leq 3 false true t3 (A.v (.int .i64 300))).bind fun t4 =>
 (dI t4 ((bB 26 d.1 2 d.2).bind fun t5 =>
 (ld 23 t5 d.2).bind fun t6 =>
 (bU prog 23 t6 d.2).bind fun t7 =>
 (bin .leq 3 false true t7 (A.v (.int .i64 60))).bind fun t8=>some [t8,t8,t7,t6,t5]) (some [A.v (.bool false),ud,ud,ud,ud])).bind fun p=>fR p fun q u7 u8 u9 u=>g9 u fun bm bs =>
 (dI q ((bB 26 d.1 3 d.2).bind fun t11 =>
 (ld 24 t11 d.2).bind fun t12 =>
 (bU prog 24 t12 d.2).bind fun t13 =>
 (bin .leq 3 false true t13 (A.v (.int .i64 360))).bind fun t14=>some [t14,t14,t13,t12,t11]) (some [A.v (.bool false),ud,ud,ud,ud])).bind fun y=>fR y fun ab ca cb cc ad=>g9 ad fun u16 ch=>some (Out.ret ab,d.2):=by kernel_rfl
theorem e9 (x0:A):av (cx C) call rg n 9 [x0] H lo =
 (ef x0 H).bind fun u =>
 (fY 27 u.2).bind fun d =>
 (ld 26 u.1 d.2).bind fun t2 =>
 (C 20 [snap d.2 t2]).bind fun t3 =>
 (bin .neq 31 false true t3 (A.v (.int .i64 0))).bind fun t4=>bj t4 ((cP 27 d.1 (cH d.1 d.2 (A.imm [] true)) d.2 lo).bind fun H5 =>
 (ld 27 d.1 H5).bind fun t6=>some (Out.ret (A.tup [t6,t3]),H5)) ((ld 26 u.1 d.2).bind fun t5 =>
 (call 28 [t5] d.2 lo).bind fun p=>dA p.1 (fun y =>
 (Df prog y).bind fun r8=>bif Nat.ble lo (List.length (bD lo 0 2 d.1 p.2)) then
 (rg (sZ 124 call (List.length (bD lo 0 2 d.1 p.2)) (nw (cx C) call rg n 9 lo 0 (List.length (bD lo 0 2 d.1 p.2)) [(2,d.1)])) r8.1 (A.yld (List.length (bD lo 0 2 d.1 p.2)) :: r8.2) (bD lo 0 2 d.1 p.2++[aA.rng dv.ready]) lo).bind fun H9=>dA H9.1 (fun bm=>nv (List.length (bD lo 0 2 d.1 p.2)) H9.2 (fun h =>
 (ld 27 d.1 h).bind fun t12 =>
 (cP 27 d.1 (cH d.1 h t12) h lo).bind fun q =>
 (ld 27 d.1 q).bind fun t14=>some (Out.ret (A.tup [t14,A.v (.int .i64 0)]),q)) (fun i11 h=>bif Nat.beq i11 0 then
 (ld 27 d.1 h).bind fun t12 =>
 (cP 27 d.1 (cH d.1 h t12) h lo).bind fun q =>
 (ld 27 d.1 q).bind fun t14=>some (Out.ret (A.tup [t14,A.v (.int .i64 0)]),q) else none) (fun i11 h=>none) fun h =>
 (ld 27 d.1 h).bind fun t12=>some (Out.ret (A.tup [t12,t3]),h)) fun bm=>none else none) fun y=>some (Out.pan y,p.2)):=by kernel_rfl
theorem Q1 (h:A):av (cx C) call rg n 10 [h] H lo =
 (ef h H).bind fun d =>
 (ld 26 d.1 d.2).bind fun t1 =>
 (C 30 [snap d.2 t1]).bind fun t2 =>
 (bin .neq 31 false true t2 (A.v (.int .i64 0))).bind fun t3=>bj t3 (some (Out.ret (A.tup [A.imm [] true,t2]),d.2)) ((ld 26 d.1 d.2).bind fun t4 =>
 (C 31 [snap d.2 t4]).bind fun t5=>some (Out.ret (A.tup [t5,A.v (.int .i64 0)]),d.2)):=by kernel_rfl
theorem Q2 (x0 u:A):av (cx C) call rg n 11 [x0,u] H lo =
 (fY 26 H).bind fun h =>
 (bB 26 h.1 0 h.2).bind fun t1 =>
 (cP 3 t1 (cH t1 h.2 x0) h.2 lo).bind fun y =>
 (bU prog 27 u y).bind fun t3=>aH (cx C) call rg n 11 lo 0 (List.length (bD lo 3 0 h.1 (bD lo 2 0 h.1 (bD lo 1 0 h.1 y)))) (fun i4 d=>bif Nat.beq i4 0 then
 (ld 26 (lk d 4) (St.H d)).bind fun t5 =>
 (C 20 [snap (St.H d) t5]).bind fun t6 =>
 (bin .neq 31 false true t6 (A.v (.int .i64 0))).bind fun t7=>bj t7 ((bo prog 26 []).bind fun t8 =>
 (cP 26 (lk d 4) (cH (lk d 4) (St.H d) t8) (St.H d) lo).bind fun p =>
 (ld 26 (lk d 4) p).bind fun t10=>some (Out.ret (A.tup [t10,t6]),p)) ((ld 26 (lk d 4) (St.H d)).bind fun t8 =>
 (cP 26 (lk d 4) (cH (lk d 4) (St.H d) t8) (St.H d) lo).bind fun p =>
 (ld 26 (lk d 4) p).bind fun t10=>some (Out.ret (A.tup [t10,A.v (.int .i64 0)]),p)) else none) (fun i4 d=>none) (fun q =>
 (ld 26 (lk q 4) (St.H q)).bind fun t5=>some (Out.ret (A.tup [t5,lk q 5]),St.H q)) (fun i4 d=>some (Out.pan i4,St.H d)) n (St.mk [(4,h.1),(5,A.v (.int .i64 0)),(12,u),(13,t3),(14,A.v (.int .i64 0))] (bD lo 3 0 h.1 (bD lo 2 0 h.1 (bD lo 1 0 h.1 y)))):=by kernel_rfl
theorem Q3 (u y:A):av (cx C) call rg n 12 [u,y] H lo =
 (fY 26 H).bind fun r0 =>
 (bo prog 26 [(0,u)]).bind fun t1 =>
 (fY 26 r0.2).bind fun h =>
 (cP 26 h.1 (cH h.1 h.2 t1) h.2 lo).bind fun H3=>aH (cx C) call rg n 12 lo 0 (List.length (bD lo 3 2 h.1 (bD lo 2 3 h.1 (bD lo 1 4 h.1 H3)))) (fun i4 d=>bif Nat.beq i4 0 then
 (ld 26 (lk d 6) (St.H d)).bind fun t5 =>
 (C 35 [snap (St.H d) t5]).bind fun t6 =>
 (jz prog UnOp.not t6).bind fun t7=>bj t7 ((bo prog 26 []).bind fun t8 =>
 (cP 26 (lk d 4) (cH (lk d 4) (St.H d) t8) (St.H d) lo).bind fun p =>
 (ld 26 (lk d 4) p).bind fun t10=>some (Out.ret (A.tup [t10,A.v (.int .i64 530)]),p)) ((ld 26 (lk d 6) (St.H d)).bind fun t8 =>
 (cP 26 (lk d 4) (cH (lk d 4) (St.H d) t8) (St.H d) lo).bind fun p =>
 (ld 26 (lk d 4) p).bind fun t10=>some (Out.ret (A.tup [t10,A.v (.int .i64 0)]),p)) else none) (fun i4 d=>none) (fun q =>
 (ld 26 (lk q 4) (St.H q)).bind fun t5=>some (Out.ret (A.tup [t5,lk q 5]),St.H q)) (fun i4 d=>some (Out.pan i4,St.H d)) n (St.mk [(1,y),(4,r0.1),(5,A.v (.int .i64 0)),(6,h.1),(7,A.v (.int .i64 0))] (bD lo 3 2 h.1 (bD lo 2 3 h.1 (bD lo 1 4 h.1 H3)))):=by kernel_rfl
theorem Q4 (h p:A):av (cx C) call rg n 13 [h,p] H lo =
 (bU prog 27 h H).bind fun t0 =>
 (bU prog 27 p H).bind fun t1 =>
 (bin .neq 3 false false t0 t1).bind fun t2=>bj t2 (some (Out.ret (A.v (.bool false)),H)) (aH (cx C) call rg n 13 lo 0 (List.length H) (fun i3 d=>bif Nat.beq i3 0 then some (Out.ret (A.v (.bool true)),St.H d) else none) (fun i3 d=>none) (fun q=>some (Out.ret (lk q 4),St.H q)) (fun i3 d=>some (Out.pan i3,St.H d)) n (St.mk [(0,h),(1,p),(4,A.v (.bool false)),(5,A.v (.int .i64 0))] H)):=by kernel_rfl
theorem Q5 (q u:A):av (cx C) call rg n 14 [q,u] H lo =
 (ef q H).bind fun h =>
 (ef u h.2).bind fun d =>
 (bB 26 h.1 0 d.2).bind fun t2 =>
 (ld 3 t2 d.2).bind fun t3 =>
 (bB 26 d.1 0 d.2).bind fun t4 =>
 (ld 3 t4 d.2).bind fun t5 =>
 (bin .neq 3 false false t3 t5).bind fun t6 =>
 (dI t6 (some [A.v (.bool true),ud,ud,ud,ud,ud,ud]) ((bB 26 h.1 1 d.2).bind fun t7 =>
 (ld 22 t7 d.2).bind fun t8 =>
 (bB 26 d.1 1 d.2).bind fun t9 =>
 (ld 22 t9 d.2).bind fun t10 =>
 (C 19 [snap d.2 t8,snap d.2 t10]).bind fun t11 =>
 (jz prog UnOp.not t11).bind fun t12=>some [t12,t12,t11,t10,t9,t8,t7])).bind fun l7=>fR l7 fun u8 u9 ch ck ad=>jh ad fun cm cv an=>g9 an fun cy dd =>
 (dI u8 (some [A.v (.bool true),ud,ud,ud,ud,ud,ud]) ((bB 26 h.1 2 d.2).bind fun t15 =>
 (ld 23 t15 d.2).bind fun t16 =>
 (bB 26 d.1 2 d.2).bind fun t17 =>
 (ld 23 t17 d.2).bind fun t18 =>
 (C 21 [snap d.2 t16,snap d.2 t18]).bind fun t19 =>
 (jz prog UnOp.not t19).bind fun t20=>some [t20,t20,t19,t18,t17,t16,t15])).bind fun ao=>fR ao fun u16 ds ea eg bm=>jh bm fun ei ej bs=>g9 bs fun fs fv =>
 (dI u16 (some [A.v (.bool true),ud,ud,ud,ud,ud,ud,ud]) ((bB 26 h.1 3 d.2).bind fun t23 =>
 (ld 24 t23 d.2).bind fun t24 =>
 (bU prog 24 t24 d.2).bind fun t25 =>
 (bB 26 d.1 3 d.2).bind fun t26 =>
 (ld 24 t26 d.2).bind fun t27 =>
 (bU prog 24 t27 d.2).bind fun t28 =>
 (bin .neq 3 false false t25 t28).bind fun t29=>some [t29,t29,t28,t27,t26,t25,t24,t23])).bind fun ca=>AX ca fun cb gf ha hd hf hg hh hi hj=>bj cb (some (Out.ret (A.v (.bool false)),d.2)) (aH (cx C) call rg n 14 lo 0 (List.length d.2) (fun i32 p=>bif Nat.beq i32 0 then some (Out.ret (A.v (.bool true)),St.H p) else none) (fun i32 p=>none) (fun y=>some (Out.ret (lk y 4),St.H y)) (fun i32 p=>some (Out.pan i32,St.H p)) n (St.mk [(2,h.1),(3,d.1),(4,A.v (.bool false)),(5,A.v (.int .i64 0))] d.2)):=by kernel_rfl
theorem Q6 (p q:A):av (cx C) call rg n 15 [p,q] H lo =
 (fY 44 H).bind fun d=>aH (cx C) call rg n 15 lo 0 (List.length (bD lo 7 0 d.1 (bD lo 6 0 d.1 (bD lo 5 0 d.1 (bD lo 3 0 d.1 (bD lo 2 0 d.1 (bD lo 1 0 d.1 d.2))))))) (fun i1 s1=>bif Nat.beq i1 0 then
 (ld 44 (lk s1 4) (St.H s1)).bind fun t2 =>
 (cP 44 (lk s1 4) (cH (lk s1 4) (St.H s1) t2) (St.H s1) lo).bind fun u =>
 (ld 44 (lk s1 4) u).bind fun t4=>some (Out.ret (A.tup [t4,A.v (.int .i64 0)]),u) else none) (fun i1 s1=>none) (fun h =>
 (ld 44 (lk h 4) (St.H h)).bind fun t2=>some (Out.ret (A.tup [t2,lk h 5]),St.H h)) (fun i1 s1=>some (Out.pan i1,St.H s1)) n (St.mk [(0,p),(1,q),(4,d.1),(5,A.v (.int .i64 0)),(7,A.v (.int .i64 0))] (bD lo 7 0 d.1 (bD lo 6 0 d.1 (bD lo 5 0 d.1 (bD lo 3 0 d.1 (bD lo 2 0 d.1 (bD lo 1 0 d.1 d.2))))))):=by kernel_rfl
theorem Q7 (h p:A):av (cx C) call rg n 19 [h,p] H lo =
 (bU prog 22 h H).bind fun t0 =>
 (bU prog 22 p H).bind fun t1 =>
 (bin .neq 3 false false t0 t1).bind fun t2=>bj t2 (some (Out.ret (A.v (.bool false)),H)) (aH (cx C) call rg n 19 lo 0 (List.length H) (fun i3 d=>bif Nat.beq i3 0 then some (Out.ret (A.v (.bool true)),St.H d) else none) (fun i3 d=>none) (fun q=>some (Out.ret (lk q 4),St.H q)) (fun i3 d=>some (Out.pan i3,St.H d)) n (St.mk [(0,h),(1,p),(4,A.v (.bool false)),(5,A.v (.int .i64 0))] H)):=by kernel_rfl
theorem Q8 (x0:A):av (cx C) call rg n 20 [x0] H lo =
 (ef x0 H).bind fun q =>
 (fY 31 q.2).bind fun d =>
 (bB 26 q.1 0 d.2).bind fun t2 =>
 (ld 3 t2 d.2).bind fun t3 =>
 (C 47 [snap d.2 t3,snap d.2 (A.v (.int .i64 0)),snap d.2 (A.v (.int .i64 1))]).bind fun t4 =>
 (jz prog UnOp.not t4).bind fun t5 =>
 (dI t5 (some [A.v (.bool true),ud,ud,ud,ud]) ((bB 26 q.1 3 d.2).bind fun t6 =>
 (ld 24 t6 d.2).bind fun t7 =>
 (bU prog 24 t7 d.2).bind fun t8 =>
 (bin .eql 3 false true t8 (A.v (.int .i64 0))).bind fun t9=>some [t9,t9,t8,t7,t6])).bind fun l6=>fR l6 fun u7 u8 u9 hi cy=>g9 cy fun hj hk =>
 (dI u7 (some [A.v (.bool true),ud,ud,ud,ud,ud,ud,ud,ud,ud,ud,ud]) ((bB 26 q.1 3 d.2).bind fun t12 =>
 (ld 24 t12 d.2).bind fun t13 =>
 (bU prog 24 t13 d.2).bind fun t14 =>
 (bB 26 q.1 1 d.2).bind fun t15 =>
 (ld 22 t15 d.2).bind fun t16 =>
 (bU prog 22 t16 d.2).bind fun t17 =>
 (bB 26 q.1 2 d.2).bind fun t18 =>
 (ld 23 t18 d.2).bind fun t19 =>
 (bU prog 23 t19 d.2).bind fun t20 =>
 (bin .add 3 false false t17 t20).bind fun t21 =>
 (bin .neq 3 false false t14 t21).bind fun t22=>some [t22,t22,t21,t20,t19,t18,t17,t16,t15,t14,t13,t12])).bind fun dd=>AX dd fun ds ho hp u16 hq hr hs ht ea=>fR ea fun hv hx hy ie ih =>
 (dI ds (some [A.v (.bool true),ud,ud,ud,ud]) ((bB 26 q.1 1 d.2).bind fun t25 =>
 (ld 22 t25 d.2).bind fun t26 =>
 (bU prog 22 t26 d.2).bind fun t27 =>
 (bin .gtr 3 false true t27 (A.v (.int .i64 256))).bind fun t28=>some [t28,t28,t27,t26,t25])).bind fun eg=>fR eg fun ei ik js kc ej=>g9 ej fun kk kn=>bj ei ((cP 31 d.1 (cH d.1 d.2 (A.v (.int .i64 530))) d.2 lo).bind fun ca =>
 (ld 31 d.1 ca).bind fun t32=>some (Out.ret t32,ca)) ((bB 26 q.1 0 d.2).bind fun t31 =>
 (ld 3 t31 d.2).bind fun t32 =>
 (bo prog 26 [(0,t32)]).bind fun t33 =>
 (fY 26 d.2).bind fun p =>
 (fY 3 p.2).bind fun ab =>
 (cP 26 p.1 (cH p.1 ab.2 t33) ab.2 lo).bind fun cb =>
 (cP 3 ab.1 (cH ab.1 cb (A.v (.int .i64 0))) cb lo).bind fun cc =>
 (ld 26 q.1 cc).bind fun t38 =>
 (call 28 [t38] cc lo).bind fun y=>dA y.1 (fun ad =>
 (Df prog ad).bind fun ch=>bif Nat.ble lo (List.length (bD lo 3 0 p.1 (bD lo 2 0 p.1 (bD lo 1 0 p.1 y.2)))) then
 (rg (sZ 124 call (List.length (bD lo 3 0 p.1 (bD lo 2 0 p.1 (bD lo 1 0 p.1 y.2)))) (nw (cx C) call rg n 20 lo 0 (List.length (bD lo 3 0 p.1 (bD lo 2 0 p.1 (bD lo 1 0 p.1 y.2)))) [(2,d.1),(3,p.1),(4,ab.1)])) ch.1 (A.yld (List.length (bD lo 3 0 p.1 (bD lo 2 0 p.1 (bD lo 1 0 p.1 y.2)))) :: ch.2) (bD lo 3 0 p.1 (bD lo 2 0 p.1 (bD lo 1 0 p.1 y.2))++[aA.rng dv.ready]) lo).bind fun ck=>dA ck.1 (fun fs=>nv (List.length (bD lo 3 0 p.1 (bD lo 2 0 p.1 (bD lo 1 0 p.1 y.2)))) ck.2 (fun h =>
 (ld 3 ab.1 h).bind fun t45 =>
 (bB 26 q.1 3 h).bind fun t46 =>
 (ld 24 t46 h).bind fun t47 =>
 (bU prog 24 t47 h).bind fun t48 =>
 (bin .neq 3 false false t45 t48).bind fun t49 =>
 (dI t49 (some [A.v (.bool true),ud,ud,ud,ud,ud]) ((bB 26 q.1 3 h).bind fun t50 =>
 (ld 24 t50 h).bind fun t51 =>
 (ax prog 24 t51 (A.v (.int .i64 0)) h).bind fun t52 =>
 (ld 4 t52 h).bind fun t53 =>
 (jz prog UnOp.not t53).bind fun t54=>some [t54,t54,t53,t52,t51,t50])).bind fun an=>fR an fun ao fv gf ha bm=>jh bm fun hd hf hg=>bj ao ((cP 31 d.1 (cH d.1 h (A.v (.int .i64 530))) h lo).bind fun u =>
 (ld 31 d.1 u).bind fun t58=>some (Out.ret t58,u)) ((cP 31 d.1 (cH d.1 h (A.v (.int .i64 0))) h lo).bind fun u =>
 (ld 31 d.1 u).bind fun t58=>some (Out.ret t58,u))) (fun i44 h=>bif Nat.beq i44 0 then
 (ld 3 ab.1 h).bind fun t45 =>
 (bB 26 q.1 3 h).bind fun t46 =>
 (ld 24 t46 h).bind fun t47 =>
 (bU prog 24 t47 h).bind fun t48 =>
 (bin .neq 3 false false t45 t48).bind fun t49 =>
 (dI t49 (some [A.v (.bool true),ud,ud,ud,ud,ud]) ((bB 26 q.1 3 h).bind fun t50 =>
 (ld 24 t50 h).bind fun t51 =>
 (ax prog 24 t51 (A.v (.int .i64 0)) h).bind fun t52 =>
 (ld 4 t52 h).bind fun t53 =>
 (jz prog UnOp.not t53).bind fun t54=>some [t54,t54,t53,t52,t51,t50])).bind fun an=>fR an fun ao fv gf ha bm=>jh bm fun hd hf hg=>bj ao ((cP 31 d.1 (cH d.1 h (A.v (.int .i64 530))) h lo).bind fun u =>
 (ld 31 d.1 u).bind fun t58=>some (Out.ret t58,u)) ((cP 31 d.1 (cH d.1 h (A.v (.int .i64 0))) h lo).bind fun u =>
 (ld 31 d.1 u).bind fun t58=>some (Out.ret t58,u)) else none) (fun i44 h=>none) fun h =>
 (ld 31 d.1 h).bind fun t45=>some (Out.ret t45,h)) fun fs=>none else none) fun ad=>some (Out.pan ad,y.2)):=by kernel_rfl
theorem Q9 (h p:A):av (cx C) call rg n 21 [h,p] H lo =
 (bU prog 23 h H).bind fun t0 =>
 (bU prog 23 p H).bind fun t1 =>
 (bin .neq 3 false false t0 t1).bind fun t2=>bj t2 (some (Out.ret (A.v (.bool false)),H)) (aH (cx C) call rg n 21 lo 0 (List.length H) (fun i3 d=>bif Nat.beq i3 0 then some (Out.ret (A.v (.bool true)),St.H d) else none) (fun i3 d=>none) (fun q=>some (Out.ret (lk q 4),St.H q)) (fun i3 d=>some (Out.pan i3,St.H d)) n (St.mk [(0,h),(1,p),(4,A.v (.bool false)),(5,A.v (.int .i64 0))] H)):=by kernel_rfl
theorem Ra (x0 x1 x2:A):av (cx C) call rg n 24 [x0,x1,x2] H lo =
 (ef x0 H).bind fun r0 =>
 (fY 26 r0.2).bind fun h =>
 (fY 31 h.2).bind fun q =>
 (bo prog 62 [(0,x1),(1,x2)]).bind fun t3 =>
 (fY 62 q.2).bind fun y =>
 (cP 62 y.1 (cH y.1 y.2 t3) y.2 lo).bind fun u =>
 (ld 26 r0.1 u).bind fun t6 =>
 (C 20 [snap u t6]).bind fun t7 =>
 (bin .eql 31 false true t7 (A.v (.int .i64 0))).bind fun t8 =>
 (dI t8 ((ld 26 r0.1 u).bind fun t9 =>
 (ld 62 y.1 u).bind fun t10 =>
 (C 51 [snap u t9,snap u t10]).bind fun t11=>some [t11,t11,t10,t9]) (some [A.v (.bool false),ud,ud,ud])).bind fun l9=>fR l9 fun ch cv cy dd ds =>
 (call 46 [ch,A.v (.int .i64 530)] u lo).bind fun d=>dA d.1 (fun ca =>
 (ld 26 r0.1 d.2).bind fun t16 =>
 (ld 62 y.1 d.2).bind fun t17 =>
 (bo prog 72 [(2,t17)]).bind fun t18 =>
 (C 33 [snap d.2 t16,snap d.2 t18]).bind fun t19 =>
 (cP 26 h.1 (cH h.1 d.2 t19) d.2 lo).bind fun ab =>
 (cP 31 q.1 (cH q.1 ab (A.v (.int .i64 0))) ab lo).bind fun p =>
 (ld 26 h.1 p).bind fun t22 =>
 ((call 53 [t22,A.v Value.nilIface] p (List.length p)).bind fun ck=>D0 (List.length p) ck).bind fun t23 =>
 (aL t23 0).bind fun t24 =>
 (aL t23 1).bind fun t25 =>
 (cP 26 h.1 (cH h.1 p t24) p lo).bind fun cb =>
 (cP 31 q.1 (cH q.1 cb t25) cb lo).bind fun an =>
 (ld 26 h.1 an).bind fun t28 =>
 (ld 31 q.1 an).bind fun t29=>some (Out.ret (A.tup [t28,t29]),an)) fun ca =>
 (ld 26 h.1 d.2).bind fun t16 =>
 ((call 53 [t16,ca] d.2 (List.length d.2)).bind fun cm=>D0 (List.length d.2) cm).bind fun t17 =>
 (aL t17 0).bind fun t18 =>
 (aL t17 1).bind fun t19 =>
 (cP 26 h.1 (cH h.1 d.2 t18) d.2 lo).bind fun ab =>
 (cP 31 q.1 (cH q.1 ab t19) ab lo).bind fun p =>
 (ld 26 h.1 p).bind fun t22 =>
 (ld 31 q.1 p).bind fun t23=>some (Out.ret (A.tup [t22,t23]),p):=by kernel_rfl
theorem Rb (q h p:A):av (cx C) call rg n 25 [q,h,p] H lo =
 (fY 26 H).bind fun d =>
 (C 47 [snap d.2 q,snap d.2 (A.v (.int .i64 0)),snap d.2 (A.v (.int .i64 1))]).bind fun t1 =>
 (jz prog UnOp.not t1).bind fun t2 =>
 (dI t2 (some [A.v (.bool true),ud,ud,ud]) ((C 47 [snap d.2 h,snap d.2 (A.v (.int .i64 0)),snap d.2 (A.v (.int .i64 1))]).bind fun t3 =>
 (jz prog UnOp.not t3).bind fun t4=>some [t4,t4,t3,h])).bind fun l3=>fR l3 fun u4 u5 u6 u7 l7 =>
 (dI u4 (some [A.v (.bool true),ud,ud,ud]) ((C 47 [snap d.2 p,snap d.2 (A.v (.int .i64 1)),snap d.2 (A.v (.int .i64 4096))]).bind fun t8 =>
 (jz prog UnOp.not t8).bind fun t9=>some [t9,t9,t8,p])).bind fun l8=>fR l8 fun u9 cb cc ch ck=>bj u9 ((ld 26 d.1 d.2).bind fun t13 =>
 (cP 26 d.1 (cH d.1 d.2 t13) d.2 lo).bind fun u =>
 (ld 26 d.1 u).bind fun t15=>some (Out.ret (A.tup [t15,A.v (.int .i64 1)]),u)) ((bo prog 59 [(1,h),(2,p)]).bind fun t13 =>
 (aJ prog 22 1 [(0,cE d.2 t13)]).bind fun t14 =>
 (aJ prog 24 1 [(0,cE d.2 (A.v (.bool true)))]).bind fun t15 =>
 (bo prog 26 [(0,q),(1,t14),(3,t15)]).bind fun t16 =>
 (cP 26 d.1 (cH d.1 d.2 t16) d.2 lo).bind fun y =>
 (ld 26 d.1 y).bind fun t18=>some (Out.ret (A.tup [t18,A.v (.int .i64 0)]),y)):=by kernel_rfl
theorem Rc (u q:A):av (cx C) call rg n 27 [u,q] H lo =
 (ef u H).bind fun y =>
 (fY 44 y.2).bind fun h =>
 (bU prog 39 q h.2).bind fun t2=>aH (cx C) call rg n 27 lo 0 (List.length h.2) (fun i3 d=>bif Nat.beq i3 0 then
 (ld 44 (lk d 2) (St.H d)).bind fun t4 =>
 (cP 44 (lk d 4) (cH (lk d 4) (St.H d) t4) (St.H d) lo).bind fun H5 =>
 (ld 44 (lk d 4) H5).bind fun t6=>some (Out.ret (A.tup [t6,A.v (.bool true)]),H5) else none) (fun i3 d=>none) (fun p =>
 (ld 44 (lk p 4) (St.H p)).bind fun t4=>some (Out.ret (A.tup [t4,lk p 5]),St.H p)) (fun i3 d=>some (Out.pan i3,St.H d)) n (St.mk [(2,y.1),(4,h.1),(5,A.v (.bool false)),(10,q),(11,t2),(12,A.v (.int .i64 0))] h.2):=by kernel_rfl
theorem PD (d:A):av (cx C) call rg n 28 [d] H lo =
 (ef d H).bind fun h=>some (Out.ret (A.fn (Fn.func 55) [] [h.1]),h.2):=by kernel_rfl
theorem LM (p:A):av (cx C) call rg n 29 [p] H lo =
 (bo prog 98 [(0,A.v (.int .i64 3))]).bind fun t0 =>
 (fY 98 H).bind fun d =>
 (cP 98 d.1 (cH d.1 d.2 t0) d.2 lo).bind fun q =>
 (bU prog 78 p q).bind fun t3=>aH (cx C) call rg n 29 lo 0 (List.length (bD lo 3 5 d.1 q)) (fun i4 h=>bif Nat.beq i4 0 then
 (ld 98 (lk h 3) (St.H h)).bind fun t5 =>
 (C 56 [snap (St.H h) t5]).bind fun t6 =>
 (aL t6 0).bind fun t7 =>
 (aL t6 1).bind fun t8=>some (Out.ret t7,St.H h) else none) (fun i4 h=>none) (fun u=>some (Out.ret (lk u 2),St.H u)) (fun i4 h=>some (Out.pan i4,St.H h)) n (St.mk [(2,A.imm [] true),(3,d.1),(9,p),(10,t3),(11,A.v (.int .i64 0))] (bD lo 3 5 d.1 q)):=by kernel_rfl
theorem Rd (h:A):av (cx C) call rg n 30 [h] H lo =
 (ef h H).bind fun d =>
 (ld 26 d.1 d.2).bind fun t1 =>
 (C 35 [snap d.2 t1]).bind fun t2 =>
 (jz prog UnOp.not t2).bind fun t3=>bj t3 (some (Out.ret (A.v (.int .i64 530)),d.2)) (some (Out.ret (A.v (.int .i64 0)),d.2)):=by kernel_rfl
theorem Re (h:A):av (cx C) call rg n 31 [h] H lo =
 (ef h H).bind fun d=>aH (cx C) call rg n 31 lo 0 (List.length (dX 1 (St.H (St.mk [(1,d.1),(2,A.imm [] true),(3,A.imm [] true),(4,A.v (.int .i64 0)),(5,A.v (.int .i64 0)),(6,A.v (.int .i64 0))] d.2)) (look (St.fr (St.mk [(1,d.1),(2,A.imm [] true),(3,A.imm [] true),(4,A.v (.int .i64 0)),(5,A.v (.int .i64 0)),(6,A.v (.int .i64 0))] d.2)) (Prod.fst (3,0,2)))).2) (fun i1 s1=>bif Nat.beq i1 0 then some (Out.ret (lk s1 3),St.H s1) else none) (fun i1 s1=>none) (fun p=>some (Out.ret (lk p 2),St.H p)) (fun i1 s1=>some (Out.pan i1,St.H s1)) n (St.mk [(1,d.1),(2,A.imm [] true),(3,(dX 1 (St.H (St.mk [(1,d.1),(2,A.imm [] true),(3,A.imm [] true),(4,A.v (.int .i64 0)),(5,A.v (.int .i64 0)),(6,A.v (.int .i64 0))] d.2)) (look (St.fr (St.mk [(1,d.1),(2,A.imm [] true),(3,A.imm [] true),(4,A.v (.int .i64 0)),(5,A.v (.int .i64 0)),(6,A.v (.int .i64 0))] d.2)) (Prod.fst (3,0,2)))).1),(4,A.v (.int .i64 0)),(5,A.v (.int .i64 0)),(6,A.v (.int .i64 0))] (dX 1 (St.H (St.mk [(1,d.1),(2,A.imm [] true),(3,A.imm [] true),(4,A.v (.int .i64 0)),(5,A.v (.int .i64 0)),(6,A.v (.int .i64 0))] d.2)) (look (St.fr (St.mk [(1,d.1),(2,A.imm [] true),(3,A.imm [] true),(4,A.v (.int .i64 0)),(5,A.v (.int .i64 0)),(6,A.v (.int .i64 0))] d.2)) (Prod.fst (3,0,2)))).2):=by kernel_rfl
theorem Rf (y:A):av (cx C) call rg n 32 [y] H lo =
 (fY 72 H).bind fun p =>
 (C 59 [snap p.2 y]).bind fun t1 =>
 (aL t1 0).bind fun t2 =>
 (aL t1 1).bind fun t3 =>
 (fY 98 p.2).bind fun q =>
 (cP 98 q.1 (cH q.1 q.2 t2) q.2 lo).bind fun h =>
 (bin .neq 31 false true t3 (A.v (.int .i64 0))).bind fun t6 =>
 (dI t6 (some [A.v (.bool true),ud,ud,ud]) ((bB 98 q.1 0 h).bind fun t7 =>
 (ld 3 t7 h).bind fun t8 =>
 (bin .neq 3 false true t8 (A.v (.int .i64 3))).bind fun t9=>some [t9,t9,t8,t7])).bind fun l7=>fR l7 fun u8 u9 cv cy dd=>bj u8 ((ld 72 p.1 h).bind fun t12 =>
 (cP 72 p.1 (cH p.1 h t12) h lo).bind fun ab =>
 (ld 72 p.1 ab).bind fun t14=>some (Out.ret (A.tup [t14,A.v (.bool false)]),ab)) ((bB 98 q.1 3 h).bind fun t12 =>
 (ld 96 t12 h).bind fun t13 =>
 (bU prog 96 t13 h).bind fun t14=>aH (cx C) call rg n 32 lo 0 (List.length (dX 1 (St.H (St.mk [(2,p.1),(3,A.v (.bool false)),(6,A.imm [] true),(23,t13),(24,t14),(25,A.v (.int .i64 0))] h)) (look (St.fr (St.mk [(2,p.1),(3,A.v (.bool false)),(6,A.imm [] true),(23,t13),(24,t14),(25,A.v (.int .i64 0))] h)) (Prod.fst (6,0,2)))).2) (fun i15 d=>bif Nat.beq i15 0 then
 (bU prog 78 (lk d 6) (St.H d)).bind fun t16 =>
 (bin .eql 3 false true t16 (A.v (.int .i64 4))).bind fun t17 =>
 (dI t17 ((ax prog 78 (lk d 6) (A.v (.int .i64 0)) (St.H d)).bind fun t18 =>
 (ld 3 t18 (St.H d)).bind fun t19 =>
 (bin .eql 3 false true t19 (A.v (.int .i64 1))).bind fun t20=>some [t20,t20,t19,t18,lk d 6]) (some [A.v (.bool false),ud,ud,ud,ud])).bind fun bs=>fR bs fun ca ds ea eg cb=>g9 cb fun ei ej=>bj ca ((ax prog 78 (lk d 6) (A.v (.int .i64 1)) (St.H d)).bind fun t24 =>
 (ld 3 t24 (St.H d)).bind fun t25 =>
 (ax prog 78 (lk d 6) (A.v (.int .i64 2)) (St.H d)).bind fun t26 =>
 (ld 3 t26 (St.H d)).bind fun t27 =>
 (ax prog 78 (lk d 6) (A.v (.int .i64 3)) (St.H d)).bind fun t28 =>
 (ld 3 t28 (St.H d)).bind fun t29 =>
 (bo prog 59 [(0,t25),(1,t27),(2,t29)]).bind fun t30 =>
 (bo prog 72 [(0,A.v (.bool true)),(1,t30)]).bind fun t31 =>
 (cP 72 (lk d 2) (cH (lk d 2) (St.H d) t31) (St.H d) lo).bind fun ad =>
 (ld 72 (lk d 2) ad).bind fun t33=>some (Out.ret (A.tup [t33,A.v (.bool true)]),ad)) ((bU prog 78 (lk d 6) (St.H d)).bind fun t24 =>
 (bin .eql 3 false true t24 (A.v (.int .i64 3))).bind fun t25 =>
 (dI t25 ((ax prog 78 (lk d 6) (A.v (.int .i64 0)) (St.H d)).bind fun t26 =>
 (ld 3 t26 (St.H d)).bind fun t27 =>
 (bin .eql 3 false true t27 (A.v (.int .i64 2))).bind fun t28=>some [t28,t28,t27,t26,lk d 6]) (some [A.v (.bool false),ud,ud,ud,ud])).bind fun cc=>fR cc fun ch fs fv gf ck=>g9 ck fun ha hd=>bj ch ((ax prog 78 (lk d 6) (A.v (.int .i64 1)) (St.H d)).bind fun t32 =>
 (ld 3 t32 (St.H d)).bind fun t33 =>
 (ax prog 78 (lk d 6) (A.v (.int .i64 2)) (St.H d)).bind fun t34 =>
 (ld 3 t34 (St.H d)).bind fun t35 =>
 (bo prog 62 [(0,t33),(1,t35)]).bind fun t36 =>
 (bo prog 72 [(2,t36)]).bind fun t37 =>
 (cP 72 (lk d 2) (cH (lk d 2) (St.H d) t37) (St.H d) lo).bind fun an =>
 (ld 72 (lk d 2) an).bind fun t39=>some (Out.ret (A.tup [t39,A.v (.bool true)]),an)) ((ld 72 (lk d 2) (St.H d)).bind fun t32 =>
 (cP 72 (lk d 2) (cH (lk d 2) (St.H d) t32) (St.H d) lo).bind fun ao =>
 (ld 72 (lk d 2) ao).bind fun t34=>some (Out.ret (A.tup [t34,A.v (.bool false)]),ao))) else none) (fun i15 d=>none) (fun u =>
 (ld 72 (lk u 2) (St.H u)).bind fun t16=>some (Out.ret (A.tup [t16,lk u 3]),St.H u)) (fun i15 d=>some (Out.pan i15,St.H d)) n (St.mk [(2,p.1),(3,A.v (.bool false)),(6,(dX 1 (St.H (St.mk [(2,p.1),(3,A.v (.bool false)),(6,A.imm [] true),(23,t13),(24,t14),(25,A.v (.int .i64 0))] h)) (look (St.fr (St.mk [(2,p.1),(3,A.v (.bool false)),(6,A.imm [] true),(23,t13),(24,t14),(25,A.v (.int .i64 0))] h)) (Prod.fst (6,0,2)))).1),(23,t13),(24,t14),(25,A.v (.int .i64 0))] (dX 1 (St.H (St.mk [(2,p.1),(3,A.v (.bool false)),(6,A.imm [] true),(23,t13),(24,t14),(25,A.v (.int .i64 0))] h)) (look (St.fr (St.mk [(2,p.1),(3,A.v (.bool false)),(6,A.imm [] true),(23,t13),(24,t14),(25,A.v (.int .i64 0))] h)) (Prod.fst (6,0,2)))).2)):=by kernel_rfl
theorem Rg (x0 x1:A):av (cx C) call rg n 33 [x0,x1] H lo =
 (ef x0 H).bind fun p =>
 (ef x1 p.2).bind fun q =>
 (fY 26 q.2).bind fun d =>
 (bB 72 q.1 0 d.2).bind fun t3 =>
 (ld 4 t3 d.2).bind fun t4=>bj t4 ((bB 26 p.1 1 d.2).bind fun t5 =>
 (ld 22 t5 d.2).bind fun t6 =>
 (bB 72 q.1 1 d.2).bind fun t7 =>
 (ld 59 t7 d.2).bind fun t8=>bif bif od t8 then true else false then
 (aJ prog 22 1 [(0,cE d.2 t8)]).bind fun t9=>bif bif eL 0 t7 then bif eL 0 q.1 then true else false else false then
 (call 60 [t6] d.2 (List.length d.2)).bind fun ab=>dA ab.1 (fun ad =>
 (bF prog 22 22 false ad t9 ab.2 lo).bind fun u =>
 (bB 26 p.1 1 u.2).bind fun t13 =>
 (cP 22 t13 (cH t13 u.2 u.1) u.2 lo).bind fun h =>
 (bB 26 p.1 3 h).bind fun t15 =>
 (ld 24 t15 h).bind fun t16 =>
 (bB 72 q.1 0 h).bind fun t17 =>
 (ld 4 t17 h).bind fun t18=>bif bif od t18 then true else false then
 (aJ prog 24 1 [(0,cE h t18)]).bind fun t19=>bif bif eL 0 t17 then bif eL 0 q.1 then true else false else false then
 (call 62 [t16] h (List.length h)).bind fun an=>dA an.1 (fun ao =>
 (bF prog 24 24 false ao t19 an.2 lo).bind fun y =>
 (bB 26 p.1 3 y.2).bind fun t23 =>
 (cP 24 t23 (cH t23 y.2 y.1) y.2 lo).bind fun bm =>
 (ld 26 p.1 bm).bind fun t25 =>
 (cP 26 d.1 (cH d.1 bm t25) bm lo).bind fun bs =>
 (ld 26 d.1 bs).bind fun t27=>some (Out.ret t27,bs)) fun ao=>some (Out.pan ao,an.2) else none else none) fun ad=>some (Out.pan ad,ab.2) else none else none) ((bB 26 p.1 2 d.2).bind fun t5 =>
 (ld 23 t5 d.2).bind fun t6 =>
 (bB 72 q.1 2 d.2).bind fun t7 =>
 (ld 62 t7 d.2).bind fun t8=>bif bif od t8 then true else false then
 (aJ prog 23 1 [(0,cE d.2 t8)]).bind fun t9=>bif bif eL 0 t7 then bif eL 0 q.1 then true else false else false then
 (call 61 [t6] d.2 (List.length d.2)).bind fun ab=>dA ab.1 (fun ad =>
 (bF prog 23 23 false ad t9 ab.2 lo).bind fun u =>
 (bB 26 p.1 2 u.2).bind fun t13 =>
 (cP 23 t13 (cH t13 u.2 u.1) u.2 lo).bind fun h =>
 (bB 26 p.1 3 h).bind fun t15 =>
 (ld 24 t15 h).bind fun t16 =>
 (bB 72 q.1 0 h).bind fun t17 =>
 (ld 4 t17 h).bind fun t18=>bif bif od t18 then true else false then
 (aJ prog 24 1 [(0,cE h t18)]).bind fun t19=>bif bif eL 0 t17 then bif eL 0 q.1 then true else false else false then
 (call 62 [t16] h (List.length h)).bind fun an=>dA an.1 (fun ao =>
 (bF prog 24 24 false ao t19 an.2 lo).bind fun y =>
 (bB 26 p.1 3 y.2).bind fun t23 =>
 (cP 24 t23 (cH t23 y.2 y.1) y.2 lo).bind fun bm =>
 (ld 26 p.1 bm).bind fun t25 =>
 (cP 26 d.1 (cH d.1 bm t25) bm lo).bind fun bs =>
 (ld 26 d.1 bs).bind fun t27=>some (Out.ret t27,bs)) fun ao=>some (Out.pan ao,an.2) else none else none) fun ad=>some (Out.pan ad,ab.2) else none else none):=by kernel_rfl
theorem Rh (q:A):av (cx C) call rg n 34 [q] H lo =
 (C 63 [snap H q]).bind fun t0 =>
 (aL t0 0).bind fun t1 =>
 (aL t0 1).bind fun t2 =>
 (fY 98 H).bind fun d =>
 (cP 98 d.1 (cH d.1 d.2 t1) d.2 lo).bind fun h =>
 (bin .neq 31 false true t2 (A.v (.int .i64 0))).bind fun t5 =>
 (dI t5 (some [A.v (.bool true),ud,ud,ud]) ((bB 98 d.1 0 h).bind fun t6 =>
 (ld 3 t6 h).bind fun t7 =>
 (bin .neq 3 false true t7 (A.v (.int .i64 3))).bind fun t8=>some [t8,t8,t7,t6])).bind fun y=>fR y fun u7 u8 u9 an ao=>bj u7 (some (Out.ret (A.imm [] true),h)) (aH (cx C) call rg n 34 lo 0 (List.length (dX 1 (St.H (St.mk [(2,A.imm [] true),(3,d.1),(5,A.imm [] true),(6,A.v (.int .i64 0))] h)) (look (St.fr (St.mk [(2,A.imm [] true),(3,d.1),(5,A.imm [] true),(6,A.v (.int .i64 0))] h)) (Prod.fst (5,0,2)))).2) (fun i11 p=>bif Nat.beq i11 0 then some (Out.ret (lk p 5),St.H p) else none) (fun i11 p=>none) (fun u=>some (Out.ret (lk u 2),St.H u)) (fun i11 p=>some (Out.pan i11,St.H p)) n (St.mk [(2,A.imm [] true),(3,d.1),(5,(dX 1 (St.H (St.mk [(2,A.imm [] true),(3,d.1),(5,A.imm [] true),(6,A.v (.int .i64 0))] h)) (look (St.fr (St.mk [(2,A.imm [] true),(3,d.1),(5,A.imm [] true),(6,A.v (.int .i64 0))] h)) (Prod.fst (5,0,2)))).1),(6,A.v (.int .i64 0))] (dX 1 (St.H (St.mk [(2,A.imm [] true),(3,d.1),(5,A.imm [] true),(6,A.v (.int .i64 0))] h)) (look (St.fr (St.mk [(2,A.imm [] true),(3,d.1),(5,A.imm [] true),(6,A.v (.int .i64 0))] h)) (Prod.fst (5,0,2)))).2)):=by kernel_rfl
theorem Ri (q:A):av (cx C) call rg n 35 [q] H lo =
 (ef q H).bind fun d =>
 (bB 26 d.1 0 d.2).bind fun t1 =>
 (ld 3 t1 d.2).bind fun t2 =>
 (C 64 [snap d.2 t2,snap d.2 (A.v (.int .i64 0)),snap d.2 (A.v (.int .i64 1))]).bind fun t3 =>
 (jz prog UnOp.not t3).bind fun t4 =>
 (dI t4 (some [A.v (.bool true),ud,ud,ud,ud,ud]) ((bB 26 d.1 1 d.2).bind fun t5 =>
 (ld 22 t5 d.2).bind fun t6 =>
 (bU prog 22 t6 d.2).bind fun t7 =>
 (C 64 [snap d.2 t7,snap d.2 (A.v (.int .i64 1)),snap d.2 (A.v (.int .i64 256))]).bind fun t8 =>
 (jz prog UnOp.not t8).bind fun t9=>some [t9,t9,t8,t7,t6,t5])).bind fun l5=>fR l5 fun u6 u7 u8 u9 l9=>jh l9 fun eg ei ej =>
 (dI u6 (some [A.v (.bool true),ud,ud,ud,ud,ud,ud,ud,ud,ud,ud,ud]) ((bB 26 d.1 3 d.2).bind fun t12 =>
 (ld 24 t12 d.2).bind fun t13 =>
 (bU prog 24 t13 d.2).bind fun t14 =>
 (bB 26 d.1 1 d.2).bind fun t15 =>
 (ld 22 t15 d.2).bind fun t16 =>
 (bU prog 22 t16 d.2).bind fun t17 =>
 (bB 26 d.1 2 d.2).bind fun t18 =>
 (ld 23 t18 d.2).bind fun t19 =>
 (bU prog 23 t19 d.2).bind fun t20 =>
 (bin .add 3 false false t17 t20).bind fun t21 =>
 (bin .neq 3 false false t14 t21).bind fun t22=>some [t22,t22,t21,t20,t19,t18,t17,t16,t15,t14,t13,t12])).bind fun bm=>AX bm fun u fs fv u16 gf ha hd hf bs=>fR bs fun hg hh hi hj hk =>
 (m8 u false ((bB 26 d.1 3 d.2).bind fun t25 =>
 (ld 24 t25 d.2).bind fun t26 =>
 (C 65 [snap d.2 t26]).bind fun t27 =>
 (bB 26 d.1 1 d.2).bind fun t28 =>
 (ld 22 t28 d.2).bind fun t29 =>
 (bU prog 22 t29 d.2).bind fun t30=>some [t30,t29,t28,t27,t26,t25]) (some [ud,ud,ud,ud,ud,ud])).bind fun ca=>fR ca fun cb ho hp cc ch=>jh ch fun hq hr hs =>
 (dI u (some [A.v (.bool true),ud]) ((bin .neq 3 false false cc cb).bind fun t32=>some [t32,t32])).bind fun ck=>jh ck fun cm ht hv =>
 (dI cm (some [A.v (.bool true),ud,ud,ud,ud,ud]) ((bB 26 d.1 3 d.2).bind fun t35 =>
 (ld 24 t35 d.2).bind fun t36 =>
 (ax prog 24 t36 (A.v (.int .i64 0)) d.2).bind fun t37 =>
 (ld 4 t37 d.2).bind fun t38 =>
 (jz prog UnOp.not t38).bind fun t39=>some [t39,t39,t38,t37,t36,t35])).bind fun cv=>fR cv fun cy hx hy ie dd=>jh dd fun ih ik js=>bj cy (some (Out.ret (A.v (.bool false)),d.2)) (aH (cx C) call rg n 35 lo 0 (List.length d.2) (fun i42 h=>bif Nat.beq i42 0 then aH (cx C) call rg n 35 lo 1 (List.length (St.H h)) (fun i43 p=>bif Nat.beq i43 2 then some (Out.ret (A.v (.bool true)),St.H p) else none) (fun i43 p=>none) (fun y=>some (Out.ret (lk y 2),St.H y)) (fun i43 p=>some (Out.pan i43,St.H p)) n (St.mk [(1,lk h 1),(2,lk h 2),(5,A.v (.int .i64 0))] (St.H h)) else none) (fun i42 h=>none) (fun ab=>some (Out.ret (lk ab 2),St.H ab)) (fun i42 h=>some (Out.pan i42,St.H h)) n (St.mk [(1,d.1),(2,A.v (.bool false)),(3,A.v (.int .i64 0)),(4,A.v (.int .i64 0))] d.2)):=by kernel_rfl
theorem PE (d:A):av (cx C) call rg n 37 [d] H lo =
 (bin .eql 20 false true d (A.v Value.nilIface)).bind fun t0=>bj t0 (some (Out.ret (A.v (.int .i64 0)),H)) ((lL prog d 31 true).bind fun t1 =>
 (aL t1 1).bind fun t2 =>
 (aL t1 0).bind fun t3=>bj t2 (some (Out.ret t3,H)) (BJ d fun h=>some (Out.pan h,H))):=by kernel_rfl
theorem Rj (d h:A):av (cx C) call rg n 46 [d,h] H lo =
 (jz prog UnOp.not d).bind fun t0=>bj t0 ((CJ prog 31 h).bind fun t1=>BJ t1 fun p=>some (Out.pan p,H)) (some (Out.ret (A.tup []),H)):=by kernel_rfl
theorem Rk (d p h:A):av (cx C) call rg n 47 [d,p,h] H lo =
 (bin .leq 3 false false p d).bind fun t0 =>
 (dI t0 ((bin .leq 3 false false d h).bind fun t1=>some [t1,t1,h,d]) (some [A.v (.bool false),ud,ud,ud])).bind fun q=>fR q fun u y u4 u5 l5=>some (Out.ret u,H):=by kernel_rfl
theorem Rl (p q:A):av (cx C) call rg n 50 [p,q] H lo =
 (ef p H).bind fun h =>
 (ef q h.2).bind fun d =>
 (bB 59 d.1 0 d.2).bind fun t2 =>
 (ld 3 t2 d.2).bind fun t3 =>
 (bB 26 h.1 1 d.2).bind fun t4 =>
 (ld 22 t4 d.2).bind fun t5 =>
 (bU prog 22 t5 d.2).bind fun t6 =>
 (bin .eql 3 false false t3 t6).bind fun t7 =>
 (dI t7 ((bB 59 d.1 1 d.2).bind fun t8 =>
 (ld 3 t8 d.2).bind fun t9 =>
 (C 47 [snap d.2 t9,snap d.2 (A.v (.int .i64 0)),snap d.2 (A.v (.int .i64 1))]).bind fun t10=>some [t10,t10,t9,t8]) (some [A.v (.bool false),ud,ud,ud])).bind fun y=>fR y fun u ca cb cc ch =>
 (m8 u true ((bB 59 d.1 2 d.2).bind fun t13 =>
 (ld 3 t13 d.2).bind fun t14 =>
 (ld 26 h.1 d.2).bind fun t15 =>
 (C 74 [snap d.2 t15]).bind fun t16=>some [t16,t15,t14,t13]) (some [ud,ud,ud,ud])).bind fun ab=>fR ab fun ad ck u16 cm cv =>
 (dI u ((bin .gtr 3 false false u16 ad).bind fun t18=>some [t18,t18]) (some [A.v (.bool false),ud])).bind fun an=>jh an fun ao cy dd =>
 (dI ao ((bB 59 d.1 2 d.2).bind fun t21 =>
 (ld 3 t21 d.2).bind fun t22 =>
 (bin .leq 3 false true t22 (A.v (.int .i64 4096))).bind fun t23=>some [t23,t23,t22,t21]) (some [A.v (.bool false),ud,ud,ud])).bind fun bm=>fR bm fun bs ds ea eg ei=>some (Out.ret bs,d.2):=by kernel_rfl
theorem Rm (u y:A):av (cx C) call rg n 51 [u,y] H lo =
 (ef u H).bind fun h =>
 (ef y h.2).bind fun d =>
 (bB 26 h.1 2 d.2).bind fun t2 =>
 (ld 23 t2 d.2).bind fun t3 =>
 (bU prog 23 t3 d.2).bind fun t4 =>
 (ld 26 h.1 d.2).bind fun t5 =>
 (bB 62 d.1 0 d.2).bind fun t6 =>
 (ld 3 t6 d.2).bind fun t7 =>
 (C 75 [snap d.2 t5,snap d.2 t7]).bind fun t8 =>
 (m8 t8 true ((bin .eql 3 false true t4 (A.v (.int .i64 0))).bind fun t9 =>
 (m8 t9 false ((bB 62 d.1 0 d.2).bind fun t10 =>
 (ld 3 t10 d.2).bind fun t11 =>
 (bB 26 h.1 2 d.2).bind fun t12 =>
 (ld 23 t12 d.2).bind fun t13 =>
 (bin .sub 3 false true t4 (A.v (.int .i64 1))).bind fun t14 =>
 (ax prog 23 t13 t14 d.2).bind fun t15 =>
 (bB 62 t15 0 d.2).bind fun t16 =>
 (ld 3 t16 d.2).bind fun t17=>some [t17,t16,t15,t14,t4,t13,t12,t11,t10]) (some [ud,ud,ud,ud,ud,ud,ud,ud,ud])).bind fun ca=>AX ca fun ab ad an ao bm u16 q bs cb=>g9 cb fun p eg=>some [ab,ad,an,ao,bm,u16,q,bs,p,t9,t9,t4]) (some [ud,ud,ud,ud,ud,ud,ud,ud,ud,ud,ud,ud])).bind fun l9=>AX l9 fun ch ab ad an ao bm u16 q ck=>fR ck fun bs p ei ej fs =>
 (m8 p false ((bin .gtr 3 false false q ch).bind fun t22=>some [t22]) (some [ud])).bind fun cm=>g9 cm fun cv fv =>
 (dI t8 ((dI p (some (A.v (.bool true))) (some cv)).bind fun t24=>some [t24,t24]) (some [A.v (.bool false),ud])).bind fun cy=>jh cy fun dd gf ha =>
 (dI dd ((bB 62 d.1 1 d.2).bind fun t27 =>
 (ld 3 t27 d.2).bind fun t28 =>
 (C 47 [snap d.2 t28,snap d.2 (A.v (.int .i64 1)),snap d.2 (A.v (.int .i64 8))]).bind fun t29=>some [t29,t29,t28,t27]) (some [A.v (.bool false),ud,ud,ud])).bind fun ds=>fR ds fun ea hd hf hg hh=>some (Out.ret ea,d.2):=by kernel_rfl
theorem PF (u y:A):av (cx C) call rg n 53 [u,y] H lo =
 (ef u H).bind fun r0 =>
 (fY 26 r0.2).bind fun d =>
 (call 37 [y] d.2 lo).bind fun h=>dA h.1 (fun q =>
 (bin .neq 31 false true q (A.v (.int .i64 0))).bind fun t4=>bj t4 ((bo prog 26 []).bind fun t5 =>
 (cP 26 d.1 (cH d.1 h.2 t5) h.2 lo).bind fun p =>
 (ld 26 d.1 p).bind fun t7=>some (Out.ret (A.tup [t7,q]),p)) ((ld 26 r0.1 h.2).bind fun t5 =>
 (cP 26 d.1 (cH d.1 h.2 t5) h.2 lo).bind fun p =>
 (ld 26 d.1 p).bind fun t7=>some (Out.ret (A.tup [t7,A.v (.int .i64 0)]),p))) fun q=>some (Out.pan q,h.2):=by kernel_rfl
theorem PG (p d:A):av (cx C) call rg n 55 [p,d] H lo =
 (bB 26 d 1 H).bind fun t0 =>
 (ld 22 t0 H).bind fun t1 =>
 (bB 26 d 2 H).bind fun t2 =>
 (ld 23 t2 H).bind fun t3 =>
 (bB 26 d 3 H).bind fun t4 =>
 (ld 24 t4 H).bind fun t5 =>
 (bU prog 24 t5 H).bind fun t6=>aH (cx C) call rg n 55 lo 0 (List.length H) (fun i7 h=>bif Nat.beq i7 0 then some (Out.ret (A.tup []),St.H h) else none) (fun i7 h=>none) (fun q=>some (Out.ret (A.tup []),St.H q)) (fun i7 h=>some (Out.pan i7,St.H h)) n (St.mk [(0,p),(3,t1),(4,t3),(13,t5),(14,t6),(15,A.v (.int .i64 0))] H):=by kernel_rfl
theorem Rn (u:A):av (cx C) call rg n 56 [u] H lo =
 (ef u H).bind fun d =>
 (ld 98 d.1 d.2).bind fun t1 =>
 (C 76 [snap d.2 t1]).bind fun t2 =>
 (bin .neq 31 false true t2 (A.v (.int .i64 0))).bind fun t3=>bj t3 (some (Out.ret (A.tup [A.imm [] true,t2]),d.2)) ((bB 98 d.1 0 d.2).bind fun t4 =>
 (ld 3 t4 d.2).bind fun t5 =>
 (ld 98 d.1 d.2).bind fun t6=>bif bif eL 0 d.1 then bif eL 0 t4 then bif eL 0 d.1 then true else false else false else false then
 (call 77 [] d.2 (List.length d.2)).bind fun h=>dA h.1 (fun p =>
 (ez p h.2).bind fun t9 =>
 (ax prog 138 t9 t5 h.2).bind fun t10 =>
 (bB 121 t10 0 h.2).bind fun t11 =>
 (ld 119 t11 h.2).bind fun t12=>dK (cx C) call t12 [A.imm [] true,t6] h.2 lo (fun i13 q=>some (Out.ret (A.tup [i13,A.v (.int .i64 0)]),q)) fun i13 q=>some (Out.pan i13,q)) fun p=>some (Out.pan p,h.2) else none):=by kernel_rfl
theorem Ro (q:A):av (cx C) call rg n 57 [q] H lo =
 (fY 98 H).bind fun u =>
 (bo prog 98 [(0,A.v (.int .i64 3))]).bind fun t1 =>
 (fY 98 u.2).bind fun h =>
 (cP 98 h.1 (cH h.1 h.2 t1) h.2 lo).bind fun y=>aH (cx C) call rg n 57 lo 0 (List.length (bD lo 3 5 h.1 y)) (fun i4 d=>bif Nat.beq i4 0 then
 (ld 98 (lk d 3) (St.H d)).bind fun t5 =>
 (cP 98 (lk d 2) (cH (lk d 2) (St.H d) t5) (St.H d) lo).bind fun H6 =>
 (ld 98 (lk d 2) H6).bind fun t7=>some (Out.ret t7,H6) else none) (fun i4 d=>none) (fun p =>
 (ld 98 (lk p 2) (St.H p)).bind fun t5=>some (Out.ret t5,St.H p)) (fun i4 d=>some (Out.pan i4,St.H d)) n (St.mk [(0,q),(2,u.1),(3,h.1),(4,A.v (.int .i64 0))] (bD lo 3 5 h.1 y)):=by kernel_rfl
theorem Rq (h:A):av (cx C) call rg n 58 [h] H lo =
 (ef h H).bind fun d =>
 (ld 98 d.1 d.2).bind fun t1 =>
 (C 79 [snap d.2 t1]).bind fun t2 =>
 (bin .neq 31 false true t2 (A.v (.int .i64 0))).bind fun t3=>bj t3 (some (Out.ret (A.tup [A.imm [] true,t2]),d.2)) ((ld 98 d.1 d.2).bind fun t4 =>
 (C 80 [snap d.2 t4]).bind fun t5=>some (Out.ret (A.tup [t5,A.v (.int .i64 0)]),d.2)):=by kernel_rfl
theorem Rs (x0:A):av (cx C) call rg n 59 [x0] H lo =
 (fY 98 H).bind fun d =>
 (fY 31 d.2).bind fun h =>
 (bo prog 128 [(0,x0)]).bind fun t2 =>
 (ef t2 h.2).bind fun r3 =>
 (call 82 [r3.1,A.v (.int .i64 0)] r3.2 lo).bind fun q=>dA q.1 (fun a5 =>
 (cP 98 d.1 (cH d.1 q.2 a5) q.2 lo).bind fun u =>
 (ez r3.1 u).bind fun t7 =>
 (bB 128 t7 0 u).bind fun t8 =>
 (ld 30 t8 u).bind fun t9 =>
 (bU prog 30 t9 u).bind fun t10 =>
 (bin .eql 3 false true t10 (A.v (.int .i64 0))).bind fun t11 =>
 (call 83 [r3.1,t11] u lo).bind fun p=>dA p.1 (fun an =>
 (ld 98 d.1 p.2).bind fun t14 =>
 (cP 98 d.1 (cH d.1 p.2 t14) p.2 lo).bind fun cb =>
 (cP 31 h.1 (cH h.1 cb (A.v (.int .i64 0))) cb lo).bind fun y =>
 (bin .neq 20 false true (A.v Value.nilIface) (A.v Value.nilIface)).bind fun t17=>bj t17 ((bo prog 98 []).bind fun t18 =>
 (lL prog (A.v Value.nilIface) 31 false).bind fun t19 =>
 (cP 98 d.1 (cH d.1 y t18) y lo).bind fun cc =>
 (cP 31 h.1 (cH h.1 cc t19) cc lo).bind fun ao =>
 (ld 98 d.1 ao).bind fun t22 =>
 (ld 31 h.1 ao).bind fun t23=>some (Out.ret (A.tup [t22,t23]),ao)) ((ld 98 d.1 y).bind fun t18 =>
 (ld 31 h.1 y).bind fun t19=>some (Out.ret (A.tup [t18,t19]),y))) fun an =>
 (bin .neq 20 false true an (A.v Value.nilIface)).bind fun t14=>bj t14 ((bo prog 98 []).bind fun t15 =>
 (lL prog an 31 false).bind fun t16 =>
 (cP 98 d.1 (cH d.1 p.2 t15) p.2 lo).bind fun ch =>
 (cP 31 h.1 (cH h.1 ch t16) ch lo).bind fun bm =>
 (ld 98 d.1 bm).bind fun t19 =>
 (ld 31 h.1 bm).bind fun t20=>some (Out.ret (A.tup [t19,t20]),bm)) ((ld 98 d.1 p.2).bind fun t15 =>
 (ld 31 h.1 p.2).bind fun t16=>some (Out.ret (A.tup [t15,t16]),p.2))) fun a5 =>
 (bin .neq 20 false true a5 (A.v Value.nilIface)).bind fun t6=>bj t6 ((bo prog 98 []).bind fun t7 =>
 (lL prog a5 31 false).bind fun t8 =>
 (cP 98 d.1 (cH d.1 q.2 t7) q.2 lo).bind fun H9 =>
 (cP 31 h.1 (cH h.1 H9 t8) H9 lo).bind fun bs =>
 (ld 98 d.1 bs).bind fun t11 =>
 (ld 31 h.1 bs).bind fun t12=>some (Out.ret (A.tup [t11,t12]),bs)) ((ld 98 d.1 q.2).bind fun t7 =>
 (ld 31 h.1 q.2).bind fun t8=>some (Out.ret (A.tup [t7,t8]),q.2)):=by kernel_rfl
theorem Rt (d:A):av (cx C) call rg n 60 [d] H lo =
 (bU prog 22 d H).bind fun t0 =>
 (bU prog 22 d H).bind fun t1 =>
 (eK prog 22 d none (some t0) (some t1) H).bind fun t2=>some (Out.ret t2,H):=by kernel_rfl
theorem Ru (d:A):av (cx C) call rg n 61 [d] H lo =
 (bU prog 23 d H).bind fun t0 =>
 (bU prog 23 d H).bind fun t1 =>
 (eK prog 23 d none (some t0) (some t1) H).bind fun t2=>some (Out.ret t2,H):=by kernel_rfl
theorem PH (d:A):av (cx C) call rg n 62 [d] H lo =
 (bU prog 24 d H).bind fun t0 =>
 (bU prog 24 d H).bind fun t1 =>
 (eK prog 24 d none (some t0) (some t1) H).bind fun t2=>some (Out.ret t2,H):=by kernel_rfl
theorem Rv (q:A):av (cx C) call rg n 63 [q] H lo =
 (fY 98 H).bind fun h =>
 (bo prog 132 [(0,q)]).bind fun t1 =>
 (ef t1 h.2).bind fun u =>
 (call 84 [u.1,A.v (.int .i64 0)] u.2 lo).bind fun H3=>dA H3.1 (fun a4 =>
 (fY 98 H3.2).bind fun p =>
 (cP 98 p.1 (cH p.1 p.2 a4) p.2 lo).bind fun d =>
 (ez u.1 d).bind fun t7 =>
 (bB 132 t7 2 d).bind fun t8 =>
 (ld 4 t8 d).bind fun t9 =>
 (dI t9 (some [A.v (.bool true),ud,ud,ud,ud,ud,ud,ud]) ((ez u.1 d).bind fun t10 =>
 (bB 132 t10 1 d).bind fun t11 =>
 (ld 3 t11 d).bind fun t12 =>
 (bU prog 30 q d).bind fun t13 =>
 (bin .neq 3 false false t12 t13).bind fun t14=>some [t14,t14,t13,q,t12,t11,t10,u.1])).bind fun ao=>AX ao fun bm cv cy dd ds u16 ea eg ei =>
 (dI bm (some [A.v (.bool true),ud,ud,ud]) ((ld 98 p.1 d).bind fun t19 =>
 (C 79 [snap d t19]).bind fun t20 =>
 (bin .neq 31 false true t20 (A.v (.int .i64 0))).bind fun t21=>some [t21,t21,t20,t19])).bind fun bs=>fR bs fun an ej fs fv gf =>
 (m8 an false ((ld 98 p.1 d).bind fun t24 =>
 (C 80 [snap d t24]).bind fun t25 =>
 (bc prog 30 9 t25 d).bind fun t26 =>
 (bc prog 30 9 q d).bind fun t27=>some [t27,q,t26,t25,t24]) (some [ud,ud,ud,ud,ud])).bind fun ca=>fR ca fun cb ha cc hd ch=>g9 ch fun hf hg =>
 (dI an (some [A.v (.bool true),ud]) ((bin .neq 9 false false cc cb).bind fun t30=>some [t30,t30])).bind fun ck=>jh ck fun cm u32 hh=>bj cm ((bo prog 98 []).bind fun t33 =>
 (cP 98 h.1 (cH h.1 d t33) d lo).bind fun y =>
 (ld 98 h.1 y).bind fun t35=>some (Out.ret (A.tup [t35,A.v (.int .i64 10)]),y)) ((ld 98 p.1 d).bind fun t33 =>
 (cP 98 h.1 (cH h.1 d t33) d lo).bind fun y =>
 (ld 98 h.1 y).bind fun t35=>some (Out.ret (A.tup [t35,A.v (.int .i64 0)]),y))) fun a4=>some (Out.pan a4,H3.2):=by kernel_rfl
theorem Rw (d p h:A):av (cx C) call rg n 64 [d,p,h] H lo =
 (bin .geq 3 false false d p).bind fun t0 =>
 (dI t0 ((bin .leq 3 false false d h).bind fun t1=>some [t1,t1,h,d]) (some [A.v (.bool false),ud,ud,ud])).bind fun q=>fR q fun u y u4 u5 l5=>some (Out.ret u,H):=by kernel_rfl
theorem Rx (h:A):av (cx C) call rg n 65 [h] H lo=aH (cx C) call rg n 65 lo 0 (List.length H) (fun i0 d=>bif Nat.beq i0 0 then some (Out.ret (lk d 3),St.H d) else none) (fun i0 d=>none) (fun p=>some (Out.ret (lk p 2),St.H p)) (fun i0 d=>some (Out.pan i0,St.H d)) n (St.mk [(0,h),(2,A.v (.int .i64 0)),(3,A.v (.int .i64 0)),(4,A.v (.int .i64 0))] H):=by kernel_rfl
theorem Ry (p q h:A):av (cx C) call rg n 66 [p,q,h] H lo =
 (ef p H).bind fun d =>
 (bB 59 d.1 0 d.2).bind fun t1 =>
 (ld 3 t1 d.2).bind fun t2 =>
 (bin .eql 3 false false t2 q).bind fun t3 =>
 (dI t3 ((bB 59 d.1 1 d.2).bind fun t4 =>
 (ld 3 t4 d.2).bind fun t5 =>
 (C 64 [snap d.2 t5,snap d.2 (A.v (.int .i64 0)),snap d.2 (A.v (.int .i64 1))]).bind fun t6=>some [t6,t6,t5,t4]) (some [A.v (.bool false),ud,ud,ud])).bind fun u=>fR u fun y u6 u7 u8 l8 =>
 (dI y ((bB 59 d.1 2 d.2).bind fun t9 =>
 (ld 3 t9 d.2).bind fun t10 =>
 (bin .gtr 3 false false t10 h).bind fun t11=>some [t11,t11,h,t10,t9]) (some [A.v (.bool false),ud,ud,ud,ud])).bind fun l9=>fR l9 fun ad cb cc ch an=>g9 an fun ck cm =>
 (dI ad ((bB 59 d.1 2 d.2).bind fun t15 =>
 (ld 3 t15 d.2).bind fun t16 =>
 (bin .leq 3 false true t16 (A.v (.int .i64 4096))).bind fun t17=>some [t17,t17,t16,t15]) (some [A.v (.bool false),ud,ud,ud])).bind fun ao=>fR ao fun u16 cv cy dd ds=>some (Out.ret u16,d.2):=by kernel_rfl
theorem Rz (h p:A):av (cx C) call rg n 67 [h,p] H lo=aH (cx C) call rg n 67 lo 0 (List.length H) (fun i0 d=>bif Nat.beq i0 0 then some (Out.ret (A.v (.int .i64 (-1))),St.H d) else none) (fun i0 d=>none) (fun q=>some (Out.ret (lk q 4),St.H q)) (fun i0 d=>some (Out.pan i0,St.H d)) n (St.mk [(0,h),(1,p),(4,A.v (.int .i64 0)),(5,A.v (.int .i64 0))] H):=by kernel_rfl
theorem RA (h p q:A):av (cx C) call rg n 68 [h,p,q] H lo=aH (cx C) call rg n 68 lo 0 (List.length H) (fun i0 d=>bif Nat.beq i0 0 then some (Out.ret (A.v (.int .i64 (-1))),St.H d) else none) (fun i0 d=>none) (fun u=>some (Out.ret (lk u 6),St.H u)) (fun i0 d=>some (Out.pan i0,St.H d)) n (St.mk [(0,h),(1,p),(2,q),(6,A.v (.int .i64 0)),(7,A.v (.int .i64 0)),(8,A.v (.int .i64 0))] H):=by kernel_rfl
theorem RB (h:A):av (cx C) call rg n 74 [h] H lo =
 (ef h H).bind fun d =>
 (bB 26 d.1 1 d.2).bind fun t1 =>
 (ld 22 t1 d.2).bind fun t2 =>
 (bU prog 22 t2 d.2).bind fun t3 =>
 (bin .gtr 3 false true t3 (A.v (.int .i64 0))).bind fun t4=>bj t4 ((bB 26 d.1 1 d.2).bind fun t5 =>
 (ld 22 t5 d.2).bind fun t6 =>
 (bin .sub 3 false true t3 (A.v (.int .i64 1))).bind fun t7 =>
 (ax prog 22 t6 t7 d.2).bind fun t8 =>
 (bB 59 t8 2 d.2).bind fun t9 =>
 (ld 3 t9 d.2).bind fun t10=>some (Out.ret t10,d.2)) (some (Out.ret (A.v (.int .i64 0)),d.2)):=by kernel_rfl
theorem RC (u y:A):av (cx C) call rg n 75 [u,y] H lo =
 (ef u H).bind fun q =>
 (ef y q.2).bind fun p =>
 (bB 26 q.1 1 p.2).bind fun t2 =>
 (ld 22 t2 p.2).bind fun t3 =>
 (call 89 [t3,A.fn (Fn.func 90) [] [p.1]] p.2 lo).bind fun d=>dA d.1 (fun h =>
 (ld 3 p.1 d.2).bind fun t6 =>
 (bin .geq 3 false true t6 (A.v (.int .i64 0))).bind fun t7 =>
 (dI t7 ((bin .geq 3 false true h (A.v (.int .i64 0))).bind fun t8=>some [t8,t8,h]) (some [A.v (.bool false),ud,ud])).bind fun l8=>jh l8 fun u9 cc an=>g9 an fun ch ck =>
 (m8 u9 true ((bB 26 q.1 1 d.2).bind fun t12 =>
 (ld 22 t12 d.2).bind fun t13 =>
 (ax prog 22 t13 h d.2).bind fun t14 =>
 (bB 59 t14 1 d.2).bind fun t15 =>
 (ld 3 t15 d.2).bind fun t16 =>
 (bB 26 q.1 0 d.2).bind fun t17 =>
 (ld 3 t17 d.2).bind fun t18=>some [t18,t17,t16,t15,t14,h,t13,t12]) (some [ud,ud,ud,ud,ud,ud,ud,ud])).bind fun ao=>AX ao fun bm cm bs u16 cv cy dd ds ea =>
 (dI u9 ((bin .eql 3 false false bs bm).bind fun t21=>some [t21,t21]) (some [A.v (.bool false),ud])).bind fun ca=>jh ca fun cb eg ei=>some (Out.ret cb,d.2)) fun h=>some (Out.pan h,d.2):=by kernel_rfl
theorem RD (h:A):av (cx C) call rg n 76 [h] H lo =
 (ef h H).bind fun d =>
 (ld 98 d.1 d.2).bind fun t1 =>
 (C 91 [snap d.2 t1]).bind fun t2 =>
 (aL t2 0).bind fun t3 =>
 (aL t2 1).bind fun t4 =>
 (jz prog UnOp.not t4).bind fun t5=>bj t5 (some (Out.ret (A.v (.int .i64 1)),d.2)) ((bin .gtr 3 false true t3 (A.v (.int .i64 16))).bind fun t6=>bj t6 (some (Out.ret (A.v (.int .i64 2)),d.2)) (some (Out.ret (A.v (.int .i64 0)),d.2))):=by kernel_rfl
theorem RE:av (cx C) call rg n 77 [] H lo =
 (bo prog 138 []).bind fun t0 =>
 (ef t0 H).bind fun u =>
 (fY 122 u.2).bind fun d =>
 (cP 122 d.1 (cH d.1 d.2 u.1) d.2 lo).bind fun h =>
 (ld 122 d.1 h).bind fun t4 =>
 (ez t4 h).bind fun t5 =>
 (ax prog 138 t5 (A.v (.int .i64 1)) h).bind fun t6 =>
 (bB 121 t6 0 h).bind fun t7 =>
 (cP 119 t7 (cH t7 h (A.fn (Fn.func 92) [] [])) h lo).bind fun p =>
 (ld 122 d.1 p).bind fun t9 =>
 (ez t9 p).bind fun t10 =>
 (ax prog 138 t10 (A.v (.int .i64 2)) p).bind fun t11 =>
 (bB 121 t11 0 p).bind fun t12 =>
 (cP 119 t12 (cH t12 p (A.fn (Fn.func 95) [] [])) p lo).bind fun q =>
 (ld 122 d.1 q).bind fun t14 =>
 (ez t14 q).bind fun t15 =>
 (ax prog 138 t15 (A.v (.int .i64 3)) q).bind fun t16 =>
 (bB 121 t16 0 q).bind fun t17 =>
 (cP 119 t17 (cH t17 q (A.fn (Fn.func 96) [] [d.1])) q lo).bind fun y =>
 (ld 122 d.1 y).bind fun t19=>some (Out.ret t19,y):=by kernel_rfl
theorem RF (h:A):av (cx C) call rg n 78 [h] H lo =
 (fY 98 H).bind fun d =>
 (bo prog 98 [(0,A.v (.int .i64 1)),(1,h)]).bind fun t1 =>
 (cP 98 d.1 (cH d.1 d.2 t1) d.2 lo).bind fun p =>
 (ld 98 d.1 p).bind fun t3=>some (Out.ret t3,p):=by kernel_rfl
theorem RG (h:A):av (cx C) call rg n 79 [h] H lo =
 (ef h H).bind fun d =>
 (ld 98 d.1 d.2).bind fun t1 =>
 (C 97 [snap d.2 t1]).bind fun t2 =>
 (jz prog UnOp.not t2).bind fun t3=>bj t3 (some (Out.ret (A.v (.int .i64 1)),d.2)) ((ld 98 d.1 d.2).bind fun t4 =>
 (C 98 [snap d.2 t4]).bind fun t5 =>
 (bin .gtr 3 false true t5 (A.v (.int .i64 16))).bind fun t6=>bj t6 (some (Out.ret (A.v (.int .i64 2)),d.2)) (some (Out.ret (A.v (.int .i64 0)),d.2))):=by kernel_rfl
theorem RH (q:A):av (cx C) call rg n 80 [q] H lo =
 (ef q H).bind fun d =>
 (bB 98 d.1 0 d.2).bind fun t1 =>
 (ld 3 t1 d.2).bind fun t2 =>
 (bin .eql 3 false true t2 (A.v (.int .i64 1))).bind fun t3=>bj t3 ((aJ prog 30 1 [(0,cE d.2 (A.v (.int .u8 1)))]).bind fun t4 =>
 (bB 98 d.1 1 d.2).bind fun t5 =>
 (ld 3 t5 d.2).bind fun t6 =>
 (C 100 [snap d.2 t6]).bind fun t7 =>
 (C 99 [snap d.2 t7]).bind fun t8 =>
 (bF prog 30 30 false t4 t8 d.2 lo).bind fun u=>some (Out.ret u.1,u.2)) ((bin .eql 3 false true t2 (A.v (.int .i64 2))).bind fun t4=>bj t4 ((aJ prog 30 1 [(0,cE d.2 (A.v (.int .u8 2)))]).bind fun t5 =>
 (bB 98 d.1 2 d.2).bind fun t6 =>
 (ld 9 t6 d.2).bind fun t7 =>
 (bU prog 9 t7 d.2).bind fun t8 =>
 (bc prog 3 140 t8 d.2).bind fun t9 =>
 (C 99 [snap d.2 t9]).bind fun t10 =>
 (bF prog 30 30 false t5 t10 d.2 lo).bind fun h=>bif bif apart d.1 t5 then true else false then
 (bB 98 d.1 2 h.2).bind fun t12=>bif bif apart t12 t5 then true else false then
 (ld 9 t12 h.2).bind fun t13 =>
 (bF prog 30 9 false h.1 t13 h.2 lo).bind fun y=>some (Out.ret y.1,y.2) else none else none) ((aJ prog 30 1 [(0,cE d.2 (A.v (.int .u8 3)))]).bind fun t5 =>
 (bB 98 d.1 3 d.2).bind fun t6 =>
 (ld 96 t6 d.2).bind fun t7 =>
 (bU prog 96 t7 d.2).bind fun t8 =>
 (bc prog 3 140 t8 d.2).bind fun t9 =>
 (C 99 [snap d.2 t9]).bind fun t10 =>
 (bF prog 30 30 false t5 t10 d.2 lo).bind fun h=>aH (cx C) call rg n 80 lo 0 (List.length h.2) (fun i12 p=>bif Nat.beq i12 1 then some (Out.ret (lk p 3),St.H p) else none) (fun i12 p=>none) (fun ab=>some (Out.ret (lk ab 2),St.H ab)) (fun i12 p=>some (Out.pan i12,St.H p)) n (St.mk [(1,d.1),(2,A.imm [] true),(3,h.1),(4,A.v (.int .i64 0))] h.2))):=by kernel_rfl
theorem RI (q x1:A):av (cx C) call rg n 82 [q,x1] H lo =
 (fY 98 H).bind fun d =>
 (call 101 [q,A.v (.int .i64 1)] d.2 lo).bind fun H1=>dA H1.1 (fun a2 =>
 (ax prog 30 a2 (A.v (.int .i64 0)) H1.2).bind fun t3 =>
 (ld 5 t3 H1.2).bind fun t4 =>
 (bc prog 5 3 t4 H1.2).bind fun t5 =>
 (bB 98 d.1 0 H1.2).bind fun t6 =>
 (cP 3 t6 (cH t6 H1.2 t5) H1.2 lo).bind fun H7 =>
 (bB 98 d.1 0 H7).bind fun t8 =>
 (ld 3 t8 H7).bind fun t9 =>
 (bin .eql 3 false true t9 (A.v (.int .i64 1))).bind fun t10=>bj t10 ((call 103 [q] H7 lo).bind fun ad=>dA ad.1 (fun cb =>
 (C 102 [snap ad.2 cb]).bind fun t13 =>
 (bB 98 d.1 1 ad.2).bind fun t14 =>
 (cP 3 t14 (cH t14 ad.2 t13) ad.2 lo).bind fun cc =>
 (ld 98 d.1 cc).bind fun t16 =>
 (cP 98 d.1 (cH d.1 cc t16) cc lo).bind fun cy =>
 (ld 98 d.1 (bD lo 3 0 d.1 cy)).bind fun t18=>some (Out.ret t18,bD lo 3 0 d.1 cy)) fun cb=>some (Out.pan cb,ad.2)) ((bin .eql 3 false true t9 (A.v (.int .i64 2))).bind fun t11=>bj t11 ((call 104 [q] H7 lo).bind fun ch=>dA ch.1 (fun ck =>
 (call 101 [q,ck] ch.2 lo).bind fun p=>dA p.1 (fun an =>
 (bc prog 30 9 an p.2).bind fun t16 =>
 (bB 98 d.1 2 p.2).bind fun t17 =>
 (cP 9 t17 (cH t17 p.2 t16) p.2 lo).bind fun cm =>
 (ld 98 d.1 cm).bind fun t19 =>
 (cP 98 d.1 (cH d.1 cm t19) cm lo).bind fun u =>
 (ld 98 d.1 (bD lo 3 0 d.1 u)).bind fun t21=>some (Out.ret t21,bD lo 3 0 d.1 u)) fun an=>some (Out.pan an,p.2)) fun ck=>some (Out.pan ck,ch.2)) ((bin .eql 3 false true t9 (A.v (.int .i64 3))).bind fun t12=>bj t12 ((bin .lss 3 false true x1 (A.v (.int .i64 16))).bind fun t13 =>
 (call 83 [q,t13] H7 lo).bind fun p=>dA p.1 (fun an =>
 (call 104 [q] p.2 lo).bind fun y=>dA y.1 (fun cv=>aH (cx C) call rg n 82 lo 0 (List.length (bD lo 3 5 d.1 y.2)) (fun i18 h=>bif Nat.beq i18 1 then
 (ld 98 (lk h 4) (St.H h)).bind fun t19 =>
 (cP 98 (lk h 4) (cH (lk h 4) (St.H h) t19) (St.H h) lo).bind fun u =>
 (ld 98 (lk h 4) (bD lo 3 0 (lk h 4) u)).bind fun t21=>some (Out.ret t21,bD lo 3 0 (lk h 4) u) else bif Nat.beq i18 0 then
 (ld 98 (lk h 4) (St.H h)).bind fun t19 =>
 (cP 98 (lk h 4) (cH (lk h 4) (St.H h) t19) (St.H h) lo).bind fun u =>
 (ld 98 (lk h 4) (bD lo 3 0 (lk h 4) u)).bind fun t21=>some (Out.ret t21,bD lo 3 0 (lk h 4) u) else none) (fun i18 h=>none) (fun ao =>
 (ld 98 (lk ao 4) (bD lo 3 0 (lk ao 4) (St.H ao))).bind fun t19=>some (Out.ret t19,bD lo 3 0 (lk ao 4) (St.H ao))) (fun i18 h=>some (Out.pan i18,St.H h)) n (St.mk [(0,q),(1,x1),(4,d.1),(36,cv),(37,A.v (.int .i64 0))] (bD lo 3 5 d.1 y.2))) fun cv=>some (Out.pan cv,y.2)) fun an=>some (Out.pan an,p.2)) ((call 83 [q,A.v (.bool false)] H7 lo).bind fun bm=>dA bm.1 (fun dd =>
 (ld 98 d.1 bm.2).bind fun t15 =>
 (cP 98 d.1 (cH d.1 bm.2 t15) bm.2 lo).bind fun y =>
 (ld 98 d.1 (bD lo 3 0 d.1 y)).bind fun t17=>some (Out.ret t17,bD lo 3 0 d.1 y)) fun dd=>some (Out.pan dd,bm.2))))) fun a2=>some (Out.pan a2,H1.2):=by kernel_rfl
theorem Bh (h d:A):av (cx C) call rg n 83 [h,d] H lo =
 (jz prog UnOp.not d).bind fun t0=>bj t0 ((CJ prog 31 (A.v (.int .i64 10))).bind fun t1=>BJ t1 fun p=>some (Out.pan p,H)) (some (Out.ret (A.tup []),H)):=by kernel_rfl
theorem RJ (p x1:A):av (cx C) call rg n 84 [p,x1] H lo =
 (fY 98 H).bind fun d =>
 (call 105 [p] d.2 lo).bind fun H1=>dA H1.1 (fun a2 =>
 (bin .eql 5 false true a2 (A.v (.int .u8 1))).bind fun t3=>bj t3 ((call 106 [p] H1.2 lo).bind fun H4=>dA H4.1 (fun a5 =>
 (bin .rem 140 false true a5 (A.v (.int .u64 2))).bind fun t6 =>
 (bin .eql 140 false true t6 (A.v (.int .u64 1))).bind fun t7=>bj t7 ((bin .quo 140 false true a5 (A.v (.int .u64 2))).bind fun t8 =>
 (bc prog 140 3 t8 H4.2).bind fun t9 =>
 (jz prog UnOp.neg t9).bind fun t10 =>
 (bin .sub 3 false true t10 (A.v (.int .i64 1))).bind fun t11 =>
 (bo prog 98 [(0,A.v (.int .i64 1)),(1,t11)]).bind fun t12 =>
 (cP 98 d.1 (cH d.1 H4.2 t12) H4.2 lo).bind fun cc =>
 (ld 98 d.1 (bD lo 3 0 d.1 cc)).bind fun t14=>some (Out.ret t14,bD lo 3 0 d.1 cc)) ((bin .quo 140 false true a5 (A.v (.int .u64 2))).bind fun t8 =>
 (bc prog 140 3 t8 H4.2).bind fun t9 =>
 (bo prog 98 [(0,A.v (.int .i64 1)),(1,t9)]).bind fun t10 =>
 (cP 98 d.1 (cH d.1 H4.2 t10) H4.2 lo).bind fun ch =>
 (ld 98 d.1 (bD lo 3 0 d.1 ch)).bind fun t12=>some (Out.ret t12,bD lo 3 0 d.1 ch))) fun a5=>some (Out.pan a5,H4.2)) ((bin .eql 5 false true a2 (A.v (.int .u8 2))).bind fun t4=>bj t4 ((call 106 [p] H1.2 lo).bind fun h=>dA h.1 (fun a6 =>
 (ez p h.2).bind fun t7 =>
 (bB 132 t7 2 h.2).bind fun t8 =>
 (ld 4 t8 h.2).bind fun t9 =>
 (m8 t9 false ((ez p h.2).bind fun t10 =>
 (bB 132 t10 0 h.2).bind fun t11 =>
 (ld 30 t11 h.2).bind fun t12 =>
 (bU prog 30 t12 h.2).bind fun t13 =>
 (ez p h.2).bind fun t14 =>
 (bB 132 t14 1 h.2).bind fun t15 =>
 (ld 3 t15 h.2).bind fun t16 =>
 (bin .sub 3 false false t13 t16).bind fun t17 =>
 (bc prog 3 140 t17 h.2).bind fun t18=>some [t18,t17,t16,t15,t14,p,t13,t12,t11,t10,p,a6]) (some [ud,ud,ud,ud,ud,ud,ud,ud,ud,ud,ud,ud])).bind fun ha=>AX ha fun hd ck hf hg hh u16 hi hj hk=>fR hk fun ho hp hq cm ik =>
 (dI t9 (some [A.v (.bool true),ud]) ((bin .gtr 140 false false cm hd).bind fun t23=>some [t23,t23])).bind fun cv=>jh cv fun hr cy js=>bj hr ((ez p h.2).bind fun t26 =>
 (bB 132 t26 2 h.2).bind fun t27 =>
 (cP 4 t27 (cH t27 h.2 (A.v (.bool true))) h.2 lo).bind fun dd =>
 (bo prog 98 []).bind fun t29 =>
 (cP 98 d.1 (cH d.1 dd t29) dd lo).bind fun ds =>
 (ld 98 d.1 (bD lo 3 0 d.1 ds)).bind fun t31=>some (Out.ret t31,bD lo 3 0 d.1 ds)) ((ez p h.2).bind fun t26 =>
 (bB 132 t26 1 h.2).bind fun t27 =>
 (ld 3 t27 h.2).bind fun t28 =>
 (bc prog 140 3 a6 h.2).bind fun t29 =>
 (bin .add 3 false false t28 t29).bind fun t30 =>
 (ez p h.2).bind fun t31 =>
 (bB 132 t31 1 h.2).bind fun t32 =>
 (cP 3 t32 (cH t32 h.2 t30) h.2 lo).bind fun u =>
 (ez p u).bind fun t34 =>
 (bB 132 t34 0 u).bind fun t35 =>
 (ld 30 t35 u).bind fun t36 =>
 (ez p u).bind fun t37 =>
 (bB 132 t37 1 u).bind fun t38 =>
 (ld 3 t38 u).bind fun t39 =>
 (bc prog 140 3 a6 u).bind fun t40 =>
 (bin .sub 3 false false t39 t40).bind fun t41 =>
 (ez p u).bind fun t42 =>
 (bB 132 t42 1 u).bind fun t43 =>
 (ld 3 t43 u).bind fun t44 =>
 (eK prog 30 t36 (some t41) (some t44) none u).bind fun t45 =>
 (bc prog 30 9 t45 u).bind fun t46 =>
 (bo prog 98 [(0,A.v (.int .i64 2)),(2,t46)]).bind fun t47 =>
 (cP 98 d.1 (cH d.1 u t47) u lo).bind fun ea =>
 (ld 98 d.1 (bD lo 3 0 d.1 ea)).bind fun t49=>some (Out.ret t49,bD lo 3 0 d.1 ea))) fun a6=>some (Out.pan a6,h.2)) ((bin .eql 5 false true a2 (A.v (.int .u8 3))).bind fun t5=>bj t5 ((call 106 [p] H1.2 lo).bind fun y=>dA y.1 (fun a7 =>
 (ez p y.2).bind fun t8 =>
 (bB 132 t8 2 y.2).bind fun t9 =>
 (ld 4 t9 y.2).bind fun t10 =>
 (m8 t10 false ((ez p y.2).bind fun t11 =>
 (bB 132 t11 0 y.2).bind fun t12 =>
 (ld 30 t12 y.2).bind fun t13 =>
 (bU prog 30 t13 y.2).bind fun t14 =>
 (ez p y.2).bind fun t15 =>
 (bB 132 t15 1 y.2).bind fun t16 =>
 (ld 3 t16 y.2).bind fun t17 =>
 (bin .sub 3 false false t14 t17).bind fun t18 =>
 (bc prog 3 140 t18 y.2).bind fun t19=>some [t19,t18,t17,t16,t15,p,t14,t13,t12,t11,p,a7]) (some [ud,ud,ud,ud,ud,ud,ud,ud,ud,ud,ud,ud])).bind fun hs=>AX hs fun ck hf hg hh u16 hi hj ho ht=>fR ht fun hp hq cm hv cv =>
 (dI t10 (some [A.v (.bool true),ud]) ((bin .gtr 140 false false hv ck).bind fun t24=>some [t24,t24])).bind fun hx=>jh hx fun cy kc kk =>
 (dI cy (some [A.v (.bool true),ud,ud]) ((bin .eql 3 false true x1 (A.v (.int .i64 16))).bind fun t27=>some [t27,t27,x1])).bind fun hy=>jh hy fun ie kn ih=>g9 ih fun ko kt=>bj ie ((ez p y.2).bind fun t31 =>
 (bB 132 t31 2 y.2).bind fun t32 =>
 (cP 4 t32 (cH t32 y.2 (A.v (.bool true))) y.2 lo).bind fun u =>
 (bo prog 98 []).bind fun t34 =>
 (cP 98 d.1 (cH d.1 u t34) u lo).bind fun eg =>
 (ld 98 d.1 (bD lo 3 0 d.1 eg)).bind fun t36=>some (Out.ret t36,bD lo 3 0 d.1 eg)) ((bo prog 98 [(0,A.v (.int .i64 3))]).bind fun t31 =>
 (fY 98 y.2).bind fun ad =>
 (cP 98 ad.1 (cH ad.1 ad.2 t31) ad.2 lo).bind fun u=>aH (cx C) call rg n 84 lo 0 (List.length (bD lo 3 5 ad.1 u)) (fun i34 q=>bif Nat.beq i34 1 then
 (ld 98 (lk q 8) (St.H q)).bind fun t35 =>
 (cP 98 (lk q 4) (cH (lk q 4) (St.H q) t35) (St.H q) lo).bind fun ei =>
 (ld 98 (lk q 4) (bD lo 3 0 (lk q 4) ei)).bind fun t37=>some (Out.ret t37,bD lo 3 0 (lk q 4) ei) else bif Nat.beq i34 0 then
 (ez (lk q 0) (St.H q)).bind fun t35 =>
 (bB 132 t35 2 (St.H q)).bind fun t36 =>
 (cP 4 t36 (cH t36 (St.H q) (A.v (.bool true))) (St.H q) lo).bind fun ej =>
 (bo prog 98 []).bind fun t38 =>
 (cP 98 (lk q 4) (cH (lk q 4) ej t38) ej lo).bind fun fs =>
 (ld 98 (lk q 4) (bD lo 3 0 (lk q 4) fs)).bind fun t40=>some (Out.ret t40,bD lo 3 0 (lk q 4) fs) else none) (fun i34 q=>none) (fun bs =>
 (ld 98 (lk bs 4) (bD lo 3 0 (lk bs 4) (St.H bs))).bind fun t35=>some (Out.ret t35,bD lo 3 0 (lk bs 4) (St.H bs))) (fun i34 q=>some (Out.pan i34,St.H q)) n (St.mk [(0,p),(1,x1),(4,d.1),(7,a7),(8,ad.1),(9,A.v (.int .u64 0))] (bD lo 3 5 ad.1 u)))) fun a7=>some (Out.pan a7,y.2)) ((ez p H1.2).bind fun t6 =>
 (bB 132 t6 2 H1.2).bind fun t7 =>
 (cP 4 t7 (cH t7 H1.2 (A.v (.bool true))) H1.2 lo).bind fun H8 =>
 (bo prog 98 []).bind fun t9 =>
 (cP 98 d.1 (cH d.1 H8 t9) H8 lo).bind fun gf =>
 (ld 98 d.1 (bD lo 3 0 d.1 gf)).bind fun t11=>some (Out.ret t11,bD lo 3 0 d.1 gf))))) fun a2=>some (Out.pan a2,H1.2):=by kernel_rfl
theorem RK (d h:A):av (cx C) call rg n 89 [d,h] H lo =
 (bU prog 22 d H).bind fun t0=>aH (cx C) call rg n 89 lo 0 (List.length H) (fun i1 s1=>bif Nat.beq i1 0 then some (Out.ret (A.v (.int .i64 (-1))),St.H s1) else none) (fun i1 s1=>none) (fun p=>some (Out.ret (lk p 4),St.H p)) (fun i1 s1=>some (Out.pan i1,St.H s1)) n (St.mk [(0,d),(1,h),(4,A.v (.int .i64 0)),(7,t0),(8,A.v (.int .i64 0))] H):=by kernel_rfl
theorem RL (h p:A):av (cx C) call rg n 90 [h,p] H lo =
 (ef h H).bind fun d =>
 (ld 3 p d.2).bind fun t1 =>
 (bB 59 d.1 2 d.2).bind fun t2 =>
 (ld 3 t2 d.2).bind fun t3 =>
 (bin .lss 3 false false t1 t3).bind fun t4=>some (Out.ret t4,d.2):=by kernel_rfl
theorem RM (u:A):av (cx C) call rg n 91 [u] H lo =
 (ef u H).bind fun d =>
 (bB 98 d.1 2 d.2).bind fun t1 =>
 (ld 9 t1 d.2).bind fun t2 =>
 (bin .eql 9 false true t2 (A.v (Value.string (ByteArray.mk #[])))).bind fun t3 =>
 (dI t3 ((bB 98 d.1 3 d.2).bind fun t4 =>
 (ld 96 t4 d.2).bind fun t5 =>
 (bU prog 96 t5 d.2).bind fun t6 =>
 (bin .eql 3 false true t6 (A.v (.int .i64 0))).bind fun t7=>some [t7,t7,t6,t5,t4]) (some [A.v (.bool false),ud,ud,ud,ud])).bind fun y=>fR y fun u5 u6 u7 u8 l8=>g9 l8 fun u9 l9 =>
 (bB 98 d.1 1 d.2).bind fun t10 =>
 (ld 3 t10 d.2).bind fun t11 =>
 (bin .eql 3 false true t11 (A.v (.int .i64 0))).bind fun t12 =>
 (dI t12 ((bB 98 d.1 3 d.2).bind fun t13 =>
 (ld 96 t13 d.2).bind fun t14 =>
 (bU prog 96 t14 d.2).bind fun t15 =>
 (bin .eql 3 false true t15 (A.v (.int .i64 0))).bind fun t16=>some [t16,t16,t15,t14,t13]) (some [A.v (.bool false),ud,ud,ud,ud])).bind fun an=>fR an fun ao ea u16 eg bm=>g9 bm fun ei ej =>
 (bB 98 d.1 1 d.2).bind fun t19 =>
 (ld 3 t19 d.2).bind fun t20 =>
 (bin .eql 3 false true t20 (A.v (.int .i64 0))).bind fun t21 =>
 (dI t21 ((bB 98 d.1 2 d.2).bind fun t22 =>
 (ld 9 t22 d.2).bind fun t23 =>
 (bin .eql 9 false true t23 (A.v (Value.string (ByteArray.mk #[])))).bind fun t24=>some [t24,t24,t23,t22]) (some [A.v (.bool false),ud,ud,ud])).bind fun bs=>fR bs fun ca fs fv gf ha =>
 (bo prog 151 [(1,u5),(2,ao),(3,ca)]).bind fun t27 =>
 (fY 151 d.2).bind fun GW =>
 (cP 151 GW.1 (cH GW.1 GW.2 t27) GW.2 lo).bind fun h =>
 (bB 98 d.1 0 h).bind fun t30 =>
 (ld 3 t30 h).bind fun t31 =>
 (bin .lss 3 false true t31 (A.v (.int .i64 1))).bind fun t32 =>
 (dI t32 (some [A.v (.bool true),ud,ud,ud]) ((bB 98 d.1 0 h).bind fun t33 =>
 (ld 3 t33 h).bind fun t34 =>
 (bin .gtr 3 false true t34 (A.v (.int .i64 3))).bind fun t35=>some [t35,t35,t34,t33])).bind fun cb=>fR cb fun cc hd hf hg hh =>
 (dI cc (some [A.v (.bool true),ud,ud,ud,ud,ud]) ((bB 98 d.1 0 h).bind fun t38 =>
 (ld 3 t38 h).bind fun t39 =>
 (ax prog 151 GW.1 t39 h).bind fun t40 =>
 (ld 4 t40 h).bind fun t41 =>
 (jz prog UnOp.not t41).bind fun t42=>some [t42,t42,t41,t40,t39,t38])).bind fun ch=>fR ch fun ck hi hj hk cm=>jh cm fun ho hp hq=>bj ck (some (Out.ret (A.tup [A.v (.int .i64 0),A.v (.bool false)]),h)) ((bB 98 d.1 0 h).bind fun t45 =>
 (ld 3 t45 h).bind fun t46 =>
 (bin .lss 3 false true t46 (A.v (.int .i64 3))).bind fun t47=>bj t47 (some (Out.ret (A.tup [A.v (.int .i64 0),A.v (.bool true)]),h)) ((bB 98 d.1 3 h).bind fun t48 =>
 (ld 96 t48 h).bind fun t49 =>
 (bU prog 96 t49 h).bind fun t50=>aH (cx C) call rg n 91 lo 0 (List.length h) (fun i51 p=>bif Nat.beq i51 0 then
 (bin .add 3 false true (lk p 2) (A.v (.int .i64 1))).bind fun t52=>some (Out.ret (A.tup [t52,A.v (.bool true)]),St.H p) else none) (fun i51 p=>none) (fun q=>some (Out.ret (A.tup [lk q 2,lk q 3]),St.H q)) (fun i51 p=>some (Out.pan i51,St.H p)) n (St.mk [(2,A.v (.int .i64 0)),(3,A.v (.bool false)),(55,t49),(56,t50),(57,A.v (.int .i64 0))] h))):=by kernel_rfl
theorem M6 (h y:A):av (cx C) call rg n 92 [h,y] H lo =
 (ef y H).bind fun p =>
 (aJ prog 30 1 [(0,cE p.2 (A.v (.int .u8 1)))]).bind fun t1 =>
 (bF prog 30 30 false h t1 p.2 lo).bind fun d=>bif bif apart p.1 h then true else false then
 (bB 98 p.1 1 d.2).bind fun t3=>bif bif apart t3 h then true else false then
 (ld 3 t3 d.2).bind fun t4 =>
 (C 94 [snap d.2 t4]).bind fun t5 =>
 (call 93 [d.1,t5] d.2 lo).bind fun q=>dA q.1 (fun u=>some (Out.ret u,q.2)) fun u=>some (Out.pan u,q.2) else none else none:=by kernel_rfl
theorem Gq (h p:A):av (cx C) call rg n 93 [h,p] H lo=aH (cx C) call rg n 93 lo 0 (List.length H) (fun i0 d=>bif Nat.beq i0 0 then
 (bc prog 140 5 (lk d 1) (St.H d)).bind fun t1 =>
 (aJ prog 30 1 [(0,cE (St.H d) t1)]).bind fun t2 =>
 (bF prog 30 30 false (lk d 0) t2 (St.H d) lo).bind fun q=>some (Out.ret q.1,q.2) else none) (fun i0 d=>none) (fun u=>some (Out.ret (lk u 4),St.H u)) (fun i0 d=>some (Out.pan i0,St.H d)) n (St.mk [(0,h),(1,p),(4,A.imm [] true)] H):=by kernel_rfl
theorem RN (d:A):av (cx C) call rg n 94 [d] H lo =
 (bc prog 3 140 d H).bind fun t0 =>
 (bin .shl 140 false true t0 (A.v (.int .u64 1))).bind fun t1 =>
 (bin .shr 3 false true d (A.v (.int .u64 63))).bind fun t2 =>
 (bc prog 3 140 t2 H).bind fun t3 =>
 (bin .xor 140 false false t1 t3).bind fun t4=>some (Out.ret t4,H):=by kernel_rfl
theorem M7 (h u:A):av (cx C) call rg n 95 [h,u] H lo =
 (ef u H).bind fun y =>
 (tI lo y.1 y.2).bind fun d=>bif bif od (A.v (.int .u8 2)) then true else false then
 (aJ prog 30 1 [(0,cE d.2 (A.v (.int .u8 2)))]).bind fun t2 =>
 (bB 98 d.1 2 d.2).bind fun t3 =>
 (ld 9 t3 d.2).bind fun t4 =>
 (bU prog 9 t4 d.2).bind fun t5 =>
 (bc prog 3 140 t5 d.2).bind fun t6 =>
 (bB 98 d.1 2 d.2).bind fun t7 =>
 (ld 9 t7 d.2).bind fun t8=>bif bif apart t7 h then bif apart d.1 h then bif apart t5 h then bif apart t4 h then bif apart t3 h then bif apart d.1 h then true else false else false else false else false else false else false then
 (bF prog 30 30 false h t2 d.2 lo).bind fun r9=>bif bif eL 1000 t7 then bif eL 1000 d.1 then true else false else false then
 (call 93 [r9.1,t6] r9.2 lo).bind fun p=>dA p.1 (fun q =>
 (bF prog 30 9 false q t8 p.2 lo).bind fun ad=>some (Out.ret ad.1,ad.2)) fun q=>some (Out.pan q,p.2) else none else none else none:=by kernel_rfl
theorem PI (h x1 x2:A):av (cx C) call rg n 96 [h,x1,x2] H lo =
 (ef x1 H).bind fun q =>
 (aJ prog 30 1 [(0,cE q.2 (A.v (.int .u8 3)))]).bind fun t1 =>
 (bF prog 30 30 false h t1 q.2 lo).bind fun p=>bif bif apart q.1 h then true else false then
 (bB 98 q.1 3 p.2).bind fun t3=>bif bif apart t3 h then true else false then
 (ld 96 t3 p.2).bind fun t4=>bif bif apart t4 h then true else false then
 (bU prog 96 t4 p.2).bind fun t5=>bif bif apart t5 h then true else false then
 (bc prog 3 140 t5 p.2).bind fun t6 =>
 (call 93 [p.1,t6] p.2 lo).bind fun d=>dA d.1 (fun y =>
 (bB 98 q.1 3 d.2).bind fun t9 =>
 (ld 96 t9 d.2).bind fun t10 =>
 (bU prog 96 t10 d.2).bind fun t11=>aH (cx C) call rg n 96 lo 0 (List.length d.2) (fun i12 u=>bif Nat.beq i12 0 then some (Out.ret (lk u 0),St.H u) else none) (fun i12 u=>none) (fun an=>some (Out.ret (lk an 5),St.H an)) (fun i12 u=>some (Out.pan i12,St.H u)) n (St.mk [(0,y),(2,x2),(5,A.imm [] true),(17,t10),(18,t11),(19,A.v (.int .i64 0))] d.2)) fun y=>some (Out.pan y,d.2) else none else none else none else none:=by kernel_rfl
theorem RO (q:A):av (cx C) call rg n 97 [q] H lo =
 (ef q H).bind fun d =>
 (bB 98 d.1 0 d.2).bind fun t1 =>
 (ld 3 t1 d.2).bind fun t2 =>
 (bin .eql 3 false true t2 (A.v (.int .i64 1))).bind fun t3=>bj t3 ((bB 98 d.1 2 d.2).bind fun t4 =>
 (ld 9 t4 d.2).bind fun t5 =>
 (bin .eql 9 false true t5 (A.v (Value.string (ByteArray.mk #[])))).bind fun t6 =>
 (dI t6 ((bB 98 d.1 3 d.2).bind fun t7 =>
 (ld 96 t7 d.2).bind fun t8 =>
 (bU prog 96 t8 d.2).bind fun t9 =>
 (bin .eql 3 false true t9 (A.v (.int .i64 0))).bind fun t10=>some [t10,t10,t9,t8,t7]) (some [A.v (.bool false),ud,ud,ud,ud])).bind fun l7=>fR l7 fun u8 u ao p bm=>g9 bm fun y ab=>some (Out.ret u8,d.2)) ((bin .eql 3 false true t2 (A.v (.int .i64 2))).bind fun t4=>bj t4 ((bB 98 d.1 1 d.2).bind fun t5 =>
 (ld 3 t5 d.2).bind fun t6 =>
 (bin .eql 3 false true t6 (A.v (.int .i64 0))).bind fun t7 =>
 (dI t7 ((bB 98 d.1 3 d.2).bind fun t8 =>
 (ld 96 t8 d.2).bind fun t9 =>
 (bU prog 96 t9 d.2).bind fun t10 =>
 (bin .eql 3 false true t10 (A.v (.int .i64 0))).bind fun t11=>some [t11,t11,t10,t9,t8]) (some [A.v (.bool false),ud,ud,ud,ud])).bind fun l8=>fR l8 fun u ao p y ab=>g9 ab fun ca cc=>some (Out.ret u,d.2)) ((bin .eql 3 false true t2 (A.v (.int .i64 3))).bind fun t5=>bj t5 (aH (cx C) call rg n 97 lo 0 (List.length d.2) (fun i6 h=>bif Nat.beq i6 1 then
 (bB 98 (lk h 1) 1 (St.H h)).bind fun t7 =>
 (ld 3 t7 (St.H h)).bind fun t8 =>
 (bin .eql 3 false true t8 (A.v (.int .i64 0))).bind fun t9 =>
 (dI t9 ((bB 98 (lk h 1) 2 (St.H h)).bind fun t10 =>
 (ld 9 t10 (St.H h)).bind fun t11 =>
 (bin .eql 9 false true t11 (A.v (Value.string (ByteArray.mk #[])))).bind fun t12=>some [t12,t12,t11,t10]) (some [A.v (.bool false),ud,ud,ud])).bind fun cb=>fR cb fun p y ca ch ck=>some (Out.ret p,St.H h) else bif Nat.beq i6 0 then some (Out.ret (A.v (.bool false)),St.H h) else none) (fun i6 h=>none) (fun a6=>some (Out.ret (lk a6 2),St.H a6)) (fun i6 h=>some (Out.pan i6,St.H h)) n (St.mk [(1,d.1),(2,A.v (.bool false)),(3,A.v (.int .i64 0))] d.2)) (some (Out.ret (A.v (.bool false)),d.2)))):=by kernel_rfl
theorem RP (p:A):av (cx C) call rg n 98 [p] H lo =
 (ef p H).bind fun d =>
 (bB 98 d.1 0 d.2).bind fun t1 =>
 (ld 3 t1 d.2).bind fun t2 =>
 (bin .neq 3 false true t2 (A.v (.int .i64 3))).bind fun t3=>bj t3 (some (Out.ret (A.v (.int .i64 0)),d.2)) (aH (cx C) call rg n 98 lo 0 (List.length d.2) (fun i4 h=>bif Nat.beq i4 0 then
 (bin .add 3 false true (lk h 3) (A.v (.int .i64 1))).bind fun t5=>some (Out.ret t5,St.H h) else none) (fun i4 h=>none) (fun q=>some (Out.ret (lk q 2),St.H q)) (fun i4 h=>some (Out.pan i4,St.H h)) n (St.mk [(1,d.1),(2,A.v (.int .i64 0)),(3,A.v (.int .i64 0)),(4,A.v (.int .i64 0))] d.2)):=by kernel_rfl
theorem RQ (d:A):av (cx C) call rg n 99 [d] H lo =
 (bin .lss 140 false true d (A.v (.int .u64 128))).bind fun t0=>bj t0 ((bc prog 140 5 d H).bind fun t1 =>
 (aJ prog 30 1 [(0,cE H t1)]).bind fun t2=>some (Out.ret t2,H)) ((bin .rem 140 false true d (A.v (.int .u64 128))).bind fun t1 =>
 (bin .add 140 false true t1 (A.v (.int .u64 128))).bind fun t2 =>
 (bc prog 140 5 t2 H).bind fun t3 =>
 (aJ prog 30 1 [(0,cE H t3)]).bind fun t4 =>
 (bin .quo 140 false true d (A.v (.int .u64 128))).bind fun t5 =>
 (C 99 [snap H t5]).bind fun t6 =>
 (bF prog 30 30 false t4 t6 H lo).bind fun h=>some (Out.ret h.1,h.2)):=by kernel_rfl
theorem M3 (d:A):av (cx C) call rg n 100 [d] H lo =
 (bin .geq 3 false true d (A.v (.int .i64 0))).bind fun t0=>bj t0 ((bc prog 3 140 d H).bind fun t1 =>
 (bin .mul 140 true false (A.v (.int .u64 2)) t1).bind fun t2=>some (Out.ret t2,H)) ((bin .add 3 false true d (A.v (.int .i64 1))).bind fun t1 =>
 (jz prog UnOp.neg t1).bind fun t2 =>
 (bc prog 3 140 t2 H).bind fun t3 =>
 (bin .mul 140 true false (A.v (.int .u64 2)) t3).bind fun t4 =>
 (bin .add 140 false true t4 (A.v (.int .u64 1))).bind fun t5=>some (Out.ret t5,H)):=by kernel_rfl
theorem CW (h p:A):av (cx C) call rg n 101 [h,p] H lo =
 (ez h H).bind fun t0 =>
 (bB 128 t0 0 H).bind fun t1 =>
 (ld 30 t1 H).bind fun t2 =>
 (bU prog 30 t2 H).bind fun t3 =>
 (bin .leq 3 false false p t3).bind fun t4 =>
 (call 83 [h,t4] H lo).bind fun d=>dA d.1 (fun q =>
 (ez h d.2).bind fun t7 =>
 (bB 128 t7 0 d.2).bind fun t8 =>
 (ld 30 t8 d.2).bind fun t9 =>
 (eK prog 30 t9 none (some p) (some p) d.2).bind fun t10 =>
 (ez h d.2).bind fun t11 =>
 (bB 128 t11 0 d.2).bind fun t12 =>
 (ld 30 t12 d.2).bind fun t13 =>
 (eK prog 30 t13 (some p) none none d.2).bind fun t14 =>
 (ez h d.2).bind fun t15 =>
 (bB 128 t15 0 d.2).bind fun t16 =>
 (cP 30 t16 (cH t16 d.2 t14) d.2 lo).bind fun u=>some (Out.ret t10,u)) fun q=>some (Out.pan q,d.2):=by kernel_rfl
theorem M4 (d:A):av (cx C) call rg n 102 [d] H lo =
 (bin .shr 140 false true d (A.v (.int .u64 1))).bind fun t0 =>
 (bc prog 140 3 t0 H).bind fun t1 =>
 (bin .and 140 false true d (A.v (.int .u64 1))).bind fun t2 =>
 (bc prog 140 3 t2 H).bind fun t3 =>
 (jz prog UnOp.neg t3).bind fun t4 =>
 (bin .xor 3 false false t1 t4).bind fun t5=>some (Out.ret t5,H):=by kernel_rfl
theorem Hm (h:A):av (cx C) call rg n 103 [h] H lo=aH (cx C) call rg n 103 lo 0 (List.length H) (fun i0 d=>bif Nat.beq i0 0 then some (Out.ret (lk d 2),St.H d) else none) (fun i0 d=>none) (fun p=>some (Out.ret (lk p 2),St.H p)) (fun i0 d=>some (Out.pan i0,St.H d)) n (St.mk [(0,h),(2,A.v (.int .u64 0)),(3,A.v (.int .i64 0))] H):=by kernel_rfl
theorem Jk (d:A):av (cx C) call rg n 104 [d] H lo =
 (call 103 [d] H lo).bind fun H0=>dA H0.1 (fun h =>
 (ez d H0.2).bind fun t2 =>
 (bB 128 t2 0 H0.2).bind fun t3 =>
 (ld 30 t3 H0.2).bind fun t4 =>
 (bU prog 30 t4 H0.2).bind fun t5 =>
 (bc prog 3 140 t5 H0.2).bind fun t6 =>
 (bin .leq 140 false false h t6).bind fun t7 =>
 (call 83 [d,t7] H0.2 lo).bind fun p=>dA p.1 (fun q =>
 (bc prog 140 3 h p.2).bind fun t10=>some (Out.ret t10,p.2)) fun q=>some (Out.pan q,p.2)) fun h=>some (Out.pan h,H0.2):=by kernel_rfl
theorem EI (h:A):av (cx C) call rg n 105 [h] H lo =
 (ez h H).bind fun t0 =>
 (bB 132 t0 1 H).bind fun t1 =>
 (ld 3 t1 H).bind fun t2 =>
 (ez h H).bind fun t3 =>
 (bB 132 t3 0 H).bind fun t4 =>
 (ld 30 t4 H).bind fun t5 =>
 (bU prog 30 t5 H).bind fun t6 =>
 (bin .geq 3 false false t2 t6).bind fun t7=>bj t7 ((ez h H).bind fun t8 =>
 (bB 132 t8 2 H).bind fun t9 =>
 (cP 4 t9 (cH t9 H (A.v (.bool true))) H lo).bind fun p=>some (Out.ret (A.v (.int .u8 0)),p)) ((ez h H).bind fun t8 =>
 (bB 132 t8 1 H).bind fun t9 =>
 (ld 3 t9 H).bind fun t10 =>
 (bin .add 3 false true t10 (A.v (.int .i64 1))).bind fun t11 =>
 (ez h H).bind fun t12 =>
 (bB 132 t12 1 H).bind fun t13 =>
 (cP 3 t13 (cH t13 H t11) H lo).bind fun d =>
 (ez h d).bind fun t15 =>
 (bB 132 t15 0 d).bind fun t16 =>
 (ld 30 t16 d).bind fun t17 =>
 (ez h d).bind fun t18 =>
 (bB 132 t18 1 d).bind fun t19 =>
 (ld 3 t19 d).bind fun t20 =>
 (bin .sub 3 false true t20 (A.v (.int .i64 1))).bind fun t21 =>
 (ax prog 30 t17 t21 d).bind fun t22 =>
 (ld 5 t22 d).bind fun t23=>some (Out.ret t23,d)):=by kernel_rfl
theorem Hn (h:A):av (cx C) call rg n 106 [h] H lo=aH (cx C) call rg n 106 lo 0 (List.length H) (fun i0 d=>bif Nat.beq i0 0 then some (Out.ret (A.v (.int .u64 0)),St.H d) else none) (fun i0 d=>none) (fun p=>some (Out.ret (lk p 2),St.H p)) (fun i0 d=>some (Out.pan i0,St.H d)) n (St.mk [(0,h),(2,A.v (.int .u64 0)),(3,A.v (.int .u64 0)),(4,A.v (.int .i64 0))] H):=by kernel_rfl
theorem M5 (h p x3 q En d Eo:A):aH (cx C) call rg n 3 lo 0 L kx kg kr kp (m+1) (St.mk [(1,h),(2,p),(3,x3),(6,q),(27,En),(28,d),(29,Eo)] H) =
 (bin .lss 3 false false Eo d).bind fun t0=>bj t0 ((ax prog 27 En Eo H).bind fun t1 =>
 (ld 30 t1 H).bind fun t2 =>
 (bU prog 30 t2 H).bind fun t3 =>
 (bin .gtr 3 false true t3 (A.v (.int .i64 200))).bind fun t4=>bj t4 (kr (St.mk [(1,h),(2,p),(3,x3),(6,A.v (.bool true)),(27,En),(28,d),(29,Eo)] H)) ((bin .add 3 false true Eo (A.v (.int .i64 1))).bind fun t5 =>
 (trim L H).bind fun u=>bif bif Nat.beq (List.length H) L then true else aR L [(29,t5),(1,h),(2,p),(3,x3),(6,q),(27,En),(28,d)] [1,2,3,6,27,28,29] then aH (cx C) call rg n 3 lo 0 L kx kg kr kp m (St.mk [(1,h),(2,p),(3,x3),(6,q),(27,En),(28,d),(29,t5)] u) else none)) (kx 0 (St.mk [(1,h),(2,p),(3,x3),(6,q),(27,En),(28,d),(29,Eo)] H)):=by kernel_rfl
theorem Jl (d q xI sX sY:A):aH (cx C) call rg n 11 lo 0 L kx kg kr kp (m+1) (St.mk [(4,d),(5,q),(12,xI),(13,sX),(14,sY)] H) =
 (bin .lss 3 false false sY sX).bind fun t0=>bj t0 ((ax prog 27 xI sY H).bind fun t1 =>
 (ld 30 t1 H).bind fun t2 =>
 (C 32 [snap H t2]).bind fun t3 =>
 (aL t3 0).bind fun t4 =>
 (aL t3 1).bind fun t5 =>
 (fY 72 H).bind fun p =>
 (cP 72 p.1 (cH p.1 p.2 t4) p.2 lo).bind fun h =>
 (jz prog UnOp.not t5).bind fun t8=>bj t8 ((bo prog 26 []).bind fun t9 =>
 (cP 26 d (cH d h t9) h lo).bind fun y=>kr (St.mk [(4,d),(5,A.v (.int .i64 530)),(12,xI),(13,sX),(14,sY)] y)) ((ld 26 d h).bind fun t9 =>
 (ld 72 p.1 h).bind fun t10 =>
 (C 33 [snap h t9,snap h t10]).bind fun t11 =>
 (cP 26 d (cH d h t11) h lo).bind fun u =>
 (bin .add 3 false true sY (A.v (.int .i64 1))).bind fun t13 =>
 (trim L (bD lo 3 0 d (bD lo 2 0 d (bD lo 1 0 d u)))).bind fun ab=>bif bif Nat.beq (List.length (bD lo 3 0 d (bD lo 2 0 d (bD lo 1 0 d u)))) L then true else aR L [(14,t13),(4,d),(5,q),(12,xI),(13,sX)] [4,5,12,13,14] then aH (cx C) call rg n 11 lo 0 L kx kg kr kp m (St.mk [(4,d),(5,q),(12,xI),(13,sX),(14,t13)] ab) else none)) (kx 0 (St.mk [(4,d),(5,q),(12,xI),(13,sX),(14,sY)] H)):=by kernel_rfl
theorem Jm (h p u d x7:A):aH (cx C) call rg n 12 lo 0 L kx kg kr kp (m+1) (St.mk [(1,h),(4,p),(5,u),(6,d),(7,x7)] H) =
 (bU prog 27 h H).bind fun t0 =>
 (bin .lss 3 false false x7 t0).bind fun t1=>bj t1 ((ax prog 27 h x7 H).bind fun t2 =>
 (ld 30 t2 H).bind fun t3 =>
 (C 34 [snap H t3]).bind fun t4 =>
 (bU prog 78 t4 H).bind fun t5 =>
 (bin .eql 3 false true t5 (A.v (.int .i64 4))).bind fun t6 =>
 (dI t6 ((ax prog 78 t4 (A.v (.int .i64 0)) H).bind fun t7 =>
 (ld 3 t7 H).bind fun t8 =>
 (bin .eql 3 false true t8 (A.v (.int .i64 1))).bind fun t9=>some [t9,t9,t8,t7,t4]) (some [A.v (.bool false),ud,ud,ud,ud])).bind fun l7=>fR l7 fun u8 u9 cm cv bm=>g9 bm fun cy dd=>bj u8 ((bB 26 d 1 H).bind fun t13 =>
 (ld 22 t13 H).bind fun t14 =>
 (ax prog 78 t4 (A.v (.int .i64 1)) H).bind fun t15 =>
 (ld 3 t15 H).bind fun t16 =>
 (ax prog 78 t4 (A.v (.int .i64 2)) H).bind fun t17 =>
 (ld 3 t17 H).bind fun t18 =>
 (ax prog 78 t4 (A.v (.int .i64 3)) H).bind fun t19 =>
 (ld 3 t19 H).bind fun t20 =>
 (bo prog 59 [(0,t16),(1,t18),(2,t20)]).bind fun t21 =>
 (aJ prog 22 1 [(0,cE H t21)]).bind fun t22 =>
 (bF prog 22 22 false t14 t22 H lo).bind fun y =>
 (bB 26 d 1 y.2).bind fun t24 =>
 (cP 22 t24 (cH t24 y.2 y.1) y.2 lo).bind fun ab =>
 (bB 26 d 3 ab).bind fun t26 =>
 (ld 24 t26 ab).bind fun t27 =>
 (aJ prog 24 1 [(0,cE ab (A.v (.bool true)))]).bind fun t28 =>
 (bF prog 24 24 false t27 t28 ab lo).bind fun vO =>
 (bB 26 d 3 vO.2).bind fun t30 =>
 (cP 24 t30 (cH t30 vO.2 vO.1) vO.2 lo).bind fun q =>
 (bin .add 3 false true x7 (A.v (.int .i64 1))).bind fun t32 =>
 (trim L q).bind fun bs=>bif bif Nat.beq (List.length q) L then true else aR L [(7,t32),(1,h),(4,p),(5,u),(6,d)] [1,4,5,6,7] then aH (cx C) call rg n 12 lo 0 L kx kg kr kp m (St.mk [(1,h),(4,p),(5,u),(6,d),(7,t32)] bs) else none) ((bU prog 78 t4 H).bind fun t13 =>
 (bin .eql 3 false true t13 (A.v (.int .i64 3))).bind fun t14 =>
 (dI t14 ((ax prog 78 t4 (A.v (.int .i64 0)) H).bind fun t15 =>
 (ld 3 t15 H).bind fun t16 =>
 (bin .eql 3 false true t16 (A.v (.int .i64 2))).bind fun t17=>some [t17,t17,t16,t15,t4]) (some [A.v (.bool false),ud,ud,ud,ud])).bind fun ca=>fR ca fun u16 ds ea eg cb=>g9 cb fun ei ej=>bj u16 ((bB 26 d 2 H).bind fun t21 =>
 (ld 23 t21 H).bind fun t22 =>
 (ax prog 78 t4 (A.v (.int .i64 1)) H).bind fun t23 =>
 (ld 3 t23 H).bind fun t24 =>
 (ax prog 78 t4 (A.v (.int .i64 2)) H).bind fun t25 =>
 (ld 3 t25 H).bind fun t26 =>
 (bo prog 62 [(0,t24),(1,t26)]).bind fun t27 =>
 (aJ prog 23 1 [(0,cE H t27)]).bind fun t28 =>
 (bF prog 23 23 false t22 t28 H lo).bind fun vO =>
 (bB 26 d 2 vO.2).bind fun t30 =>
 (cP 23 t30 (cH t30 vO.2 vO.1) vO.2 lo).bind fun q =>
 (bB 26 d 3 q).bind fun t32 =>
 (ld 24 t32 q).bind fun t33 =>
 (aJ prog 24 1 [(0,cE q (A.v (.bool false)))]).bind fun t34 =>
 (bF prog 24 24 false t33 t34 q lo).bind fun ad =>
 (bB 26 d 3 ad.2).bind fun t36 =>
 (cP 24 t36 (cH t36 ad.2 ad.1) ad.2 lo).bind fun an =>
 (bin .add 3 false true x7 (A.v (.int .i64 1))).bind fun t38 =>
 (trim L an).bind fun cc=>bif bif Nat.beq (List.length an) L then true else aR L [(7,t38),(1,h),(4,p),(5,u),(6,d)] [1,4,5,6,7] then aH (cx C) call rg n 12 lo 0 L kx kg kr kp m (St.mk [(1,h),(4,p),(5,u),(6,d),(7,t38)] cc) else none) ((bo prog 26 []).bind fun t21 =>
 (cP 26 p (cH p H t21) H lo).bind fun ch=>kr (St.mk [(1,h),(4,p),(5,A.v (.int .i64 530)),(6,d),(7,x7)] ch)))) (kx 0 (St.mk [(1,h),(4,p),(5,u),(6,d),(7,x7)] H)):=by kernel_rfl
theorem Jn (d p q h:A):aH (cx C) call rg n 13 lo 0 L kx kg kr kp (m+1) (St.mk [(0,d),(1,p),(4,q),(5,h)] H) =
 (bU prog 27 d H).bind fun t0 =>
 (bin .lss 3 false false h t0).bind fun t1=>bj t1 ((ax prog 27 d h H).bind fun t2 =>
 (ld 30 t2 H).bind fun t3 =>
 (bc prog 30 9 t3 H).bind fun t4 =>
 (ax prog 27 p h H).bind fun t5 =>
 (ld 30 t5 H).bind fun t6 =>
 (bc prog 30 9 t6 H).bind fun t7 =>
 (bin .neq 9 false false t4 t7).bind fun t8=>bj t8 (kr (St.mk [(0,d),(1,p),(4,A.v (.bool false)),(5,h)] H)) ((bin .add 3 false true h (A.v (.int .i64 1))).bind fun t9 =>
 (trim L H).bind fun u=>bif bif Nat.beq (List.length H) L then true else aR L [(5,t9),(0,d),(1,p),(4,q)] [0,1,4,5] then aH (cx C) call rg n 13 lo 0 L kx kg kr kp m (St.mk [(0,d),(1,p),(4,q),(5,t9)] u) else none)) (kx 0 (St.mk [(0,d),(1,p),(4,q),(5,h)] H)):=by kernel_rfl
theorem Jo (d x3 p h:A):aH (cx C) call rg n 14 lo 0 L kx kg kr kp (m+1) (St.mk [(2,d),(3,x3),(4,p),(5,h)] H) =
 (bB 26 d 3 H).bind fun t0 =>
 (ld 24 t0 H).bind fun t1 =>
 (bU prog 24 t1 H).bind fun t2 =>
 (bin .lss 3 false false h t2).bind fun t3=>bj t3 ((bB 26 d 3 H).bind fun t4 =>
 (ld 24 t4 H).bind fun t5 =>
 (ax prog 24 t5 h H).bind fun t6 =>
 (ld 4 t6 H).bind fun t7 =>
 (bB 26 x3 3 H).bind fun t8 =>
 (ld 24 t8 H).bind fun t9 =>
 (ax prog 24 t9 h H).bind fun t10 =>
 (ld 4 t10 H).bind fun t11 =>
 (bin .neq 4 false false t7 t11).bind fun t12=>bj t12 (kr (St.mk [(2,d),(3,x3),(4,A.v (.bool false)),(5,h)] H)) ((bin .add 3 false true h (A.v (.int .i64 1))).bind fun t13 =>
 (trim L H).bind fun q=>bif bif Nat.beq (List.length H) L then true else aR L [(5,t13),(2,d),(3,x3),(4,p)] [2,3,4,5] then aH (cx C) call rg n 14 lo 0 L kx kg kr kp m (St.mk [(2,d),(3,x3),(4,p),(5,t13)] q) else none)) (kx 0 (St.mk [(2,d),(3,x3),(4,p),(5,h)] H)):=by kernel_rfl
theorem Jp (h p d u x7:A):aH (cx C) call rg n 15 lo 0 L kx kg kr kp (m+1) (St.mk [(0,h),(1,p),(4,d),(5,u),(7,x7)] H) =
 (bin .lss 3 false true x7 (A.v (.int .i64 2))).bind fun t0=>bj t0 ((C 25 [snap H x7,snap H h,snap H p]).bind fun t1 =>
 (aL t1 0).bind fun t2 =>
 (aL t1 1).bind fun t3 =>
 (bB 44 d 0 H).bind fun t4 =>
 (ax prog 40 t4 x7 H).bind fun t5 =>
 (cP 26 t5 (cH t5 H t2) H lo).bind fun q =>
 (bin .neq 31 false true t3 (A.v (.int .i64 0))).bind fun t7=>bj t7 ((bo prog 44 []).bind fun t8 =>
 (cP 44 d (cH d q t8) q lo).bind fun H9=>kr (St.mk [(0,h),(1,p),(4,d),(5,t3),(7,x7)] H9)) ((bB 44 d 1 q).bind fun t8 =>
 (ax prog 41 t8 x7 q).bind fun t9 =>
 (cP 3 t9 (cH t9 q (A.v (.int .i64 1))) q lo).bind fun y =>
 (bin .add 3 false true x7 (A.v (.int .i64 1))).bind fun t11 =>
 (trim L (bD lo 7 0 d (bD lo 6 0 d (bD lo 5 0 d (bD lo 3 0 d (bD lo 2 0 d (bD lo 1 0 d y))))))).bind fun ad=>bif bif Nat.beq (List.length (bD lo 7 0 d (bD lo 6 0 d (bD lo 5 0 d (bD lo 3 0 d (bD lo 2 0 d (bD lo 1 0 d y))))))) L then true else aR L [(7,t11),(5,t3),(0,h),(1,p),(4,d)] [0,1,4,5,7] then aH (cx C) call rg n 15 lo 0 L kx kg kr kp m (St.mk [(0,h),(1,p),(4,d),(5,t3),(7,t11)] ad) else none)) (kx 0 (St.mk [(0,h),(1,p),(4,d),(5,u),(7,x7)] H)):=by kernel_rfl
theorem Jq (d p q h:A):aH (cx C) call rg n 19 lo 0 L kx kg kr kp (m+1) (St.mk [(0,d),(1,p),(4,q),(5,h)] H) =
 (bU prog 22 d H).bind fun t0 =>
 (bin .lss 3 false false h t0).bind fun t1=>bj t1 ((ax prog 22 d h H).bind fun t2 =>
 (ld 59 t2 H).bind fun t3 =>
 (ax prog 22 p h H).bind fun t4 =>
 (ld 59 t4 H).bind fun t5 =>
 (bin .neq 59 false false t3 t5).bind fun t6=>bj t6 (kr (St.mk [(0,d),(1,p),(4,A.v (.bool false)),(5,h)] H)) ((bin .add 3 false true h (A.v (.int .i64 1))).bind fun t7 =>
 (trim L H).bind fun u=>bif bif Nat.beq (List.length H) L then true else aR L [(5,t7),(0,d),(1,p),(4,q)] [0,1,4,5] then aH (cx C) call rg n 19 lo 0 L kx kg kr kp m (St.mk [(0,d),(1,p),(4,q),(5,t7)] u) else none)) (kx 0 (St.mk [(0,d),(1,p),(4,q),(5,h)] H)):=by kernel_rfl
theorem Jr (d p q h:A):aH (cx C) call rg n 21 lo 0 L kx kg kr kp (m+1) (St.mk [(0,d),(1,p),(4,q),(5,h)] H) =
 (bU prog 23 d H).bind fun t0 =>
 (bin .lss 3 false false h t0).bind fun t1=>bj t1 ((ax prog 23 d h H).bind fun t2 =>
 (ld 62 t2 H).bind fun t3 =>
 (ax prog 23 p h H).bind fun t4 =>
 (ld 62 t4 H).bind fun t5 =>
 (bin .neq 62 false false t3 t5).bind fun t6=>bj t6 (kr (St.mk [(0,d),(1,p),(4,A.v (.bool false)),(5,h)] H)) ((bin .add 3 false true h (A.v (.int .i64 1))).bind fun t7 =>
 (trim L H).bind fun u=>bif bif Nat.beq (List.length H) L then true else aR L [(5,t7),(0,d),(1,p),(4,q)] [0,1,4,5] then aH (cx C) call rg n 21 lo 0 L kx kg kr kp m (St.mk [(0,d),(1,p),(4,q),(5,t7)] u) else none)) (kx 0 (St.mk [(0,d),(1,p),(4,q),(5,h)] H)):=by kernel_rfl
theorem Js (d h x5 xO xP xI:A):aH (cx C) call rg n 27 lo 0 L kx kg kr kp (m+1) (St.mk [(2,d),(4,h),(5,x5),(10,xO),(11,xP),(12,xI)] H) =
 (bin .lss 3 false false xI xP).bind fun t0=>bj t0 ((ax prog 39 xO xI H).bind fun t1 =>
 (ld 49 t1 H).bind fun t2 =>
 (fY 49 H).bind fun q =>
 (cP 49 q.1 (cH q.1 q.2 t2) q.2 lo).bind fun u =>
 (ld 44 d u).bind fun t5 =>
 (ld 49 q.1 u).bind fun t6 =>
 (C 17 [snap u t5,snap u t6]).bind fun t7 =>
 (aL t7 0).bind fun t8 =>
 (aL t7 1).bind fun t9 =>
 (fY 44 u).bind fun y =>
 (cP 44 y.1 (cH y.1 y.2 t8) y.2 lo).bind fun p =>
 (bin .neq 31 false true t9 (A.v (.int .i64 0))).bind fun t12=>bj t12 ((ld 44 d p).bind fun t13 =>
 (cP 44 h (cH h p t13) p lo).bind fun ad=>kr (St.mk [(2,d),(4,h),(5,A.v (.bool false)),(10,xO),(11,xP),(12,xI)] ad)) ((ld 44 y.1 p).bind fun t13 =>
 (cP 44 d (cH d p t13) p lo).bind fun ad =>
 (bin .add 3 false true xI (A.v (.int .i64 1))).bind fun t15 =>
 (trim L ad).bind fun an=>bif bif Nat.beq (List.length ad) L then true else aR L [(12,t15),(2,d),(4,h),(5,x5),(10,xO),(11,xP)] [2,4,5,10,11,12] then aH (cx C) call rg n 27 lo 0 L kx kg kr kp m (St.mk [(2,d),(4,h),(5,x5),(10,xO),(11,xP),(12,t15)] an) else none)) (kx 0 (St.mk [(2,d),(4,h),(5,x5),(10,xO),(11,xP),(12,xI)] H)):=by kernel_rfl
theorem Jt (d x3 x9 xO xP:A):aH (cx C) call rg n 29 lo 0 L kx kg kr kp (m+1) (St.mk [(2,d),(3,x3),(9,x9),(10,xO),(11,xP)] H) =
 (bin .lss 3 false false xP xO).bind fun t0=>bj t0 ((ax prog 78 x9 xP H).bind fun t1 =>
 (ld 3 t1 H).bind fun t2 =>
 (bB 98 x3 3 H).bind fun t3 =>
 (ld 96 t3 H).bind fun t4 =>
 (bo prog 98 [(0,A.v (.int .i64 1)),(1,t2)]).bind fun t5 =>
 (aJ prog 96 1 [(0,cE H t5)]).bind fun t6 =>
 (bF prog 96 96 false t4 t6 H lo).bind fun h =>
 (bB 98 x3 3 h.2).bind fun t8 =>
 (cP 96 t8 (cH t8 h.2 h.1) h.2 lo).bind fun p =>
 (bin .add 3 false true xP (A.v (.int .i64 1))).bind fun t10 =>
 (trim L p).bind fun q=>bif bif Nat.beq (List.length p) L then true else aR L [(11,t10),(2,d),(3,x3),(9,x9),(10,xO)] [2,3,9,10,11] then aH (cx C) call rg n 29 lo 0 L kx kg kr kp m (St.mk [(2,d),(3,x3),(9,x9),(10,xO),(11,t10)] q) else none) (kx 0 (St.mk [(2,d),(3,x3),(9,x9),(10,xO),(11,xP)] H)):=by kernel_rfl
theorem Ju (q y x3 x4 x5 x6:A):aH (cx C) call rg n 31 lo 0 L kx kg kr kp (m+1) (St.mk [(1,q),(2,y),(3,x3),(4,x4),(5,x5),(6,x6)] H) =
 (bB 26 q 3 H).bind fun t0 =>
 (ld 24 t0 H).bind fun t1 =>
 (bU prog 24 t1 H).bind fun t2 =>
 (bin .lss 3 false false x6 t2).bind fun t3=>bj t3 ((bo prog 98 []).bind fun t4 =>
 (fY 98 H).bind fun u =>
 (cP 98 u.1 (cH u.1 u.2 t4) u.2 lo).bind fun h =>
 (bB 26 q 3 h).bind fun t7 =>
 (ld 24 t7 h).bind fun t8 =>
 (ax prog 24 t8 x6 h).bind fun t9 =>
 (ld 4 t9 h).bind fun t10=>bj t10 ((bB 26 q 1 h).bind fun t11 =>
 (ld 22 t11 h).bind fun t12 =>
 (ax prog 22 t12 x4 h).bind fun t13 =>
 (ld 59 t13 h).bind fun t14 =>
 (fY 59 h).bind fun p =>
 (cP 59 p.1 (cH p.1 p.2 t14) p.2 lo).bind fun d =>
 (bB 59 p.1 0 d).bind fun t17 =>
 (ld 3 t17 d).bind fun t18 =>
 (bB 59 p.1 1 d).bind fun t19 =>
 (ld 3 t19 d).bind fun t20 =>
 (bB 59 p.1 2 d).bind fun t21 =>
 (ld 3 t21 d).bind fun t22 =>
 (aJ prog 78 4 [(0,cE d (A.v (.int .i64 1))),(1,cE d t18),(2,cE d t20),(3,cE d t22)]).bind fun t23 =>
 (C 57 [snap d t23]).bind fun t24 =>
 (cP 98 u.1 (cH u.1 d t24) d lo).bind fun ao =>
 (bin .add 3 false true x4 (A.v (.int .i64 1))).bind fun t26 =>
 (ld 98 u.1 ao).bind fun t27 =>
 (C 58 [snap ao t27]).bind fun t28 =>
 (aL t28 0).bind fun t29 =>
 (aL t28 1).bind fun t30 =>
 (aJ prog 27 1 [(0,cE ao t29)]).bind fun t31 =>
 (bF prog 27 27 false x3 t31 ao lo).bind fun bm =>
 (bin .add 3 false true x6 (A.v (.int .i64 1))).bind fun t33 =>
 (trim L bm.2).bind fun ca=>bif bif Nat.beq (List.length bm.2) L then true else aR L [(6,t33),(3,bm.1),(4,t26),(1,q),(2,y),(5,x5)] [1,2,3,4,5,6] then aH (cx C) call rg n 31 lo 0 L kx kg kr kp m (St.mk [(1,q),(2,y),(3,bm.1),(4,t26),(5,x5),(6,t33)] ca) else none) ((bB 26 q 2 h).bind fun t11 =>
 (ld 23 t11 h).bind fun t12 =>
 (ax prog 23 t12 x5 h).bind fun t13 =>
 (ld 62 t13 h).bind fun t14 =>
 (fY 62 h).bind fun p =>
 (cP 62 p.1 (cH p.1 p.2 t14) p.2 lo).bind fun d =>
 (bB 62 p.1 0 d).bind fun t17 =>
 (ld 3 t17 d).bind fun t18 =>
 (bB 62 p.1 1 d).bind fun t19 =>
 (ld 3 t19 d).bind fun t20 =>
 (aJ prog 78 3 [(0,cE d (A.v (.int .i64 2))),(1,cE d t18),(2,cE d t20)]).bind fun t21 =>
 (C 57 [snap d t21]).bind fun t22 =>
 (cP 98 u.1 (cH u.1 d t22) d lo).bind fun bs =>
 (bin .add 3 false true x5 (A.v (.int .i64 1))).bind fun t24 =>
 (ld 98 u.1 bs).bind fun t25 =>
 (C 58 [snap bs t25]).bind fun t26 =>
 (aL t26 0).bind fun t27 =>
 (aL t26 1).bind fun t28 =>
 (aJ prog 27 1 [(0,cE bs t27)]).bind fun t29 =>
 (bF prog 27 27 false x3 t29 bs lo).bind fun BU =>
 (bin .add 3 false true x6 (A.v (.int .i64 1))).bind fun t31 =>
 (trim L BU.2).bind fun cb=>bif bif Nat.beq (List.length BU.2) L then true else aR L [(6,t31),(3,BU.1),(5,t24),(1,q),(2,y),(4,x4)] [1,2,3,4,5,6] then aH (cx C) call rg n 31 lo 0 L kx kg kr kp m (St.mk [(1,q),(2,y),(3,BU.1),(4,x4),(5,t24),(6,t31)] cb) else none)) (kx 0 (St.mk [(1,q),(2,y),(3,x3),(4,x4),(5,x5),(6,x6)] H)):=by kernel_rfl
theorem Jv (h x3 u p El Em:A):aH (cx C) call rg n 32 lo 0 L kx kg kr kp (m+1) (St.mk [(2,h),(3,x3),(6,u),(23,p),(24,El),(25,Em)] H) =
 (bin .lss 3 false false Em El).bind fun t0=>bj t0 ((ax prog 96 p Em H).bind fun t1 =>
 (ld 98 t1 H).bind fun t2 =>
 (fY 98 H).bind fun q =>
 (cP 98 q.1 (cH q.1 q.2 t2) q.2 lo).bind fun d =>
 (bB 98 q.1 0 d).bind fun t5 =>
 (ld 3 t5 d).bind fun t6 =>
 (bin .neq 3 false true t6 (A.v (.int .i64 1))).bind fun t7=>bj t7 ((ld 72 h d).bind fun t8 =>
 (cP 72 h (cH h d t8) d lo).bind fun H9=>kr (St.mk [(2,h),(3,A.v (.bool false)),(6,u),(23,p),(24,El),(25,Em)] H9)) ((bB 98 q.1 1 d).bind fun t8 =>
 (ld 3 t8 d).bind fun t9 =>
 (aJ prog 78 1 [(0,cE d t9)]).bind fun t10 =>
 (bF prog 78 78 false u t10 d lo).bind fun y =>
 (bin .add 3 false true Em (A.v (.int .i64 1))).bind fun t12 =>
 (trim L y.2).bind fun ad=>bif bif Nat.beq (List.length y.2) L then true else aR L [(25,t12),(6,y.1),(2,h),(3,x3),(23,p),(24,El)] [2,3,6,23,24,25] then aH (cx C) call rg n 32 lo 0 L kx kg kr kp m (St.mk [(2,h),(3,x3),(6,y.1),(23,p),(24,El),(25,t12)] ad) else none)) (kx 0 (St.mk [(2,h),(3,x3),(6,u),(23,p),(24,El),(25,Em)] H)):=by kernel_rfl
theorem Jw (h x3 p d:A):aH (cx C) call rg n 34 lo 0 L kx kg kr kp (m+1) (St.mk [(2,h),(3,x3),(5,p),(6,d)] H) =
 (bB 98 x3 3 H).bind fun t0 =>
 (ld 96 t0 H).bind fun t1 =>
 (bU prog 96 t1 H).bind fun t2 =>
 (bin .lss 3 false false d t2).bind fun t3=>bj t3 ((bB 98 x3 3 H).bind fun t4 =>
 (ld 96 t4 H).bind fun t5 =>
 (ax prog 96 t5 d H).bind fun t6 =>
 (bB 98 t6 0 H).bind fun t7 =>
 (ld 3 t7 H).bind fun t8 =>
 (bin .neq 3 false true t8 (A.v (.int .i64 1))).bind fun t9=>bj t9 (kr (St.mk [(2,A.imm [] true),(3,x3),(5,p),(6,d)] H)) ((bB 98 x3 3 H).bind fun t10 =>
 (ld 96 t10 H).bind fun t11 =>
 (ax prog 96 t11 d H).bind fun t12 =>
 (bB 98 t12 1 H).bind fun t13 =>
 (ld 3 t13 H).bind fun t14 =>
 (aJ prog 78 1 [(0,cE H t14)]).bind fun t15 =>
 (bF prog 78 78 false p t15 H lo).bind fun q =>
 (bin .add 3 false true d (A.v (.int .i64 1))).bind fun t17 =>
 (trim L q.2).bind fun u=>bif bif Nat.beq (List.length q.2) L then true else aR L [(6,t17),(5,q.1),(2,h),(3,x3)] [2,3,5,6] then aH (cx C) call rg n 34 lo 0 L kx kg kr kp m (St.mk [(2,h),(3,x3),(5,q.1),(6,t17)] u) else none)) (kx 0 (St.mk [(2,h),(3,x3),(5,p),(6,d)] H)):=by kernel_rfl
theorem Jx (d p x3 h:A):aH (cx C) call rg n 35 lo 0 L kx kg kr kp (m+1) (St.mk [(1,d),(2,p),(3,x3),(4,h)] H) =
 (bB 26 d 1 H).bind fun t0 =>
 (ld 22 t0 H).bind fun t1 =>
 (bU prog 22 t1 H).bind fun t2 =>
 (bin .lss 3 false false h t2).bind fun t3=>bj t3 ((bB 26 d 1 H).bind fun t4 =>
 (ld 22 t4 H).bind fun t5 =>
 (ax prog 22 t5 h H).bind fun t6 =>
 (ld 59 t6 H).bind fun t7 =>
 (C 66 [snap H t7,snap H h,snap H x3]).bind fun t8 =>
 (jz prog UnOp.not t8).bind fun t9=>bj t9 (kr (St.mk [(1,d),(2,A.v (.bool false)),(3,x3),(4,h)] H)) ((bB 26 d 1 H).bind fun t10 =>
 (ld 22 t10 H).bind fun t11 =>
 (ax prog 22 t11 h H).bind fun t12 =>
 (bB 59 t12 2 H).bind fun t13 =>
 (ld 3 t13 H).bind fun t14 =>
 (bin .add 3 false true h (A.v (.int .i64 1))).bind fun t15 =>
 (trim L H).bind fun q=>bif bif Nat.beq (List.length H) L then true else aR L [(4,t15),(3,t14),(1,d),(2,p)] [1,2,3,4] then aH (cx C) call rg n 35 lo 0 L kx kg kr kp m (St.mk [(1,d),(2,p),(3,t14),(4,t15)] q) else none)) (kx 0 (St.mk [(1,d),(2,p),(3,x3),(4,h)] H)):=by kernel_rfl
theorem Jy (h u p:A):aH (cx C) call rg n 35 lo 1 L kx kg kr kp (m+1) (St.mk [(1,h),(2,u),(5,p)] H) =
 (bB 26 h 2 H).bind fun t0 =>
 (ld 23 t0 H).bind fun t1 =>
 (bU prog 23 t1 H).bind fun t2 =>
 (bin .lss 3 false false p t2).bind fun t3=>bj t3 ((bB 26 h 2 H).bind fun t4 =>
 (ld 23 t4 H).bind fun t5 =>
 (ax prog 23 t5 p H).bind fun t6 =>
 (ld 62 t6 H).bind fun t7 =>
 (fY 62 H).bind fun q =>
 (cP 62 q.1 (cH q.1 q.2 t7) q.2 lo).bind fun d =>
 (bin .gtr 3 false true p (A.v (.int .i64 0))).bind fun t10 =>
 (m8 t10 true ((bB 62 q.1 0 d).bind fun t11 =>
 (ld 3 t11 d).bind fun t12 =>
 (bB 26 h 2 d).bind fun t13 =>
 (ld 23 t13 d).bind fun t14 =>
 (bin .sub 3 false true p (A.v (.int .i64 1))).bind fun t15 =>
 (ax prog 23 t14 t15 d).bind fun t16 =>
 (bB 62 t16 0 d).bind fun t17 =>
 (ld 3 t17 d).bind fun t18=>some [t18,t17,t16,t15,p,t14,t13,t12,t11]) (some [ud,ud,ud,ud,ud,ud,ud,ud,ud])).bind fun y=>AX y fun ab ei ej fs u16 fv gf ad an=>g9 an fun ha hd =>
 (dI t10 ((bin .leq 3 false false ad ab).bind fun t21=>some [t21,t21]) (some [A.v (.bool false),ud])).bind fun ao=>jh ao fun bm hf hg =>
 (dI bm (some [A.v (.bool true),ud,ud,ud,ud]) ((bB 62 q.1 1 d).bind fun t24 =>
 (ld 3 t24 d).bind fun t25 =>
 (C 64 [snap d t25,snap d (A.v (.int .i64 1)),snap d (A.v (.int .i64 8))]).bind fun t26 =>
 (jz prog UnOp.not t26).bind fun t27=>some [t27,t27,t26,t25,t24])).bind fun bs=>fR bs fun ca hh hi hj cb=>g9 cb fun hk ho=>bj ca (kr (St.mk [(1,h),(2,A.v (.bool false)),(5,p)] d)) ((bB 26 h 1 d).bind fun t30 =>
 (ld 22 t30 d).bind fun t31 =>
 (bB 62 q.1 0 d).bind fun t32 =>
 (ld 3 t32 d).bind fun t33 =>
 (C 67 [snap d t31,snap d t33]).bind fun t34 =>
 (bin .lss 3 false true t34 (A.v (.int .i64 0))).bind fun t35=>bj t35 (kr (St.mk [(1,h),(2,A.v (.bool false)),(5,p)] d)) ((bB 26 h 1 d).bind fun t36 =>
 (ld 22 t36 d).bind fun t37 =>
 (ax prog 22 t37 t34 d).bind fun t38 =>
 (bB 59 t38 1 d).bind fun t39 =>
 (ld 3 t39 d).bind fun t40 =>
 (bB 26 h 0 d).bind fun t41 =>
 (ld 3 t41 d).bind fun t42 =>
 (bin .neq 3 false false t40 t42).bind fun t43 =>
 (m8 t43 false ((bB 26 h 3 d).bind fun t44 =>
 (ld 24 t44 d).bind fun t45 =>
 (C 68 [snap d t45,snap d (A.v (.bool true)),snap d t34]).bind fun t46 =>
 (bB 26 h 3 d).bind fun t47 =>
 (ld 24 t47 d).bind fun t48=>some [p,t48,t47,t46,t34,t45,t44]) (some [ud,ud,ud,ud,ud,ud,ud])).bind fun cc=>fR cc fun ch ck hp cm cv=>jh cv fun hq hr cy=>g9 cy fun hs ht =>
 (dI t43 (some [A.v (.bool true),ud,ud]) ((C 68 [snap d ck,snap d (A.v (.bool false)),snap d ch]).bind fun t52 =>
 (bin .gtr 3 false false cm t52).bind fun t53=>some [t53,t53,t52])).bind fun dd=>jh dd fun ds hv ea=>g9 ea fun hx hy=>bj ds (kr (St.mk [(1,h),(2,A.v (.bool false)),(5,p)] d)) ((bin .add 3 false true p (A.v (.int .i64 1))).bind fun t56 =>
 (trim L d).bind fun eg=>bif bif Nat.beq (List.length d) L then true else aR L [(5,t56),(1,h),(2,u)] [1,2,5] then aH (cx C) call rg n 35 lo 1 L kx kg kr kp m (St.mk [(1,h),(2,u),(5,t56)] eg) else none)))) (kx 2 (St.mk [(1,h),(2,u),(5,p)] H)):=by kernel_rfl
theorem Gp (h x3 p sX sY xJ:A):aH (cx C) call rg n 55 lo 0 L kx kg kr kp (m+1) (St.mk [(0,h),(3,x3),(4,p),(13,sX),(14,sY),(15,xJ)] H) =
 (bin .lss 3 false false xJ sY).bind fun t0=>bj t0 ((ax prog 24 sX xJ H).bind fun t1 =>
 (ld 4 t1 H).bind fun t2 =>
 (bo prog 72 [(0,t2)]).bind fun t3 =>
 (fY 72 H).bind fun q =>
 (cP 72 q.1 (cH q.1 q.2 t3) q.2 lo).bind fun d =>
 (dI t2 ((bU prog 22 x3 d).bind fun t6 =>
 (bin .gtr 3 false true t6 (A.v (.int .i64 0))).bind fun t7=>some [t7,t7,t6,x3]) (some [A.v (.bool false),ud,ud,ud])).bind fun l6=>fR l6 fun u7 u8 u9 ch ck=>bj u7 ((ax prog 22 x3 (A.v (.int .i64 0)) d).bind fun t11 =>
 (ld 59 t11 d).bind fun t12 =>
 (eK prog 22 x3 (some (A.v (.int .i64 1))) none none d).bind fun t13 =>
 (bB 72 q.1 1 d).bind fun t14=>bif bif apart x3 t14 then true else false then
 (cP 59 t14 (cH t14 d t12) d lo).bind fun ab =>
 (ld 72 q.1 ab).bind fun t16=>dK (cx C) call h [xJ,t16] ab lo (fun i17 u =>
 (jz prog UnOp.not i17).bind fun t18=>bj t18 (kr (St.mk [(0,h),(3,t13),(4,p),(13,sX),(14,sY),(15,xJ)] u)) ((bin .add 3 false true xJ (A.v (.int .i64 1))).bind fun t19 =>
 (trim L u).bind fun bm=>bif bif Nat.beq (List.length u) L then true else aR L [(15,t19),(3,t13),(0,h),(4,p),(13,sX),(14,sY)] [0,3,4,13,14,15] then aH (cx C) call rg n 55 lo 0 L kx kg kr kp m (St.mk [(0,h),(3,t13),(4,p),(13,sX),(14,sY),(15,t19)] bm) else none)) fun i17 u=>kp i17 (St.mk [(0,h),(3,t13),(4,p),(13,sX),(14,sY),(15,xJ)] u) else none) ((jz prog UnOp.not t2).bind fun t11 =>
 (dI t11 ((bU prog 23 p d).bind fun t12 =>
 (bin .gtr 3 false true t12 (A.v (.int .i64 0))).bind fun t13=>some [t13,t13,t12,p]) (some [A.v (.bool false),ud,ud,ud])).bind fun bs=>fR bs fun ca cm cv u16 cy=>bj ca ((ax prog 23 p (A.v (.int .i64 0)) d).bind fun t17 =>
 (ld 62 t17 d).bind fun t18 =>
 (eK prog 23 p (some (A.v (.int .i64 1))) none none d).bind fun t19 =>
 (bB 72 q.1 2 d).bind fun t20=>bif bif apart p t20 then true else false then
 (cP 62 t20 (cH t20 d t18) d lo).bind fun ad =>
 (ld 72 q.1 ad).bind fun t22=>dK (cx C) call h [xJ,t22] ad lo (fun i23 y =>
 (jz prog UnOp.not i23).bind fun t24=>bj t24 (kr (St.mk [(0,h),(3,x3),(4,t19),(13,sX),(14,sY),(15,xJ)] y)) ((bin .add 3 false true xJ (A.v (.int .i64 1))).bind fun t25 =>
 (trim L y).bind fun cb=>bif bif Nat.beq (List.length y) L then true else aR L [(15,t25),(4,t19),(0,h),(3,x3),(13,sX),(14,sY)] [0,3,4,13,14,15] then aH (cx C) call rg n 55 lo 0 L kx kg kr kp m (St.mk [(0,h),(3,x3),(4,t19),(13,sX),(14,sY),(15,t25)] cb) else none)) fun i23 y=>kp i23 (St.mk [(0,h),(3,x3),(4,t19),(13,sX),(14,sY),(15,xJ)] y) else none) (kr (St.mk [(0,h),(3,x3),(4,p),(13,sX),(14,sY),(15,xJ)] d)))) (kx 0 (St.mk [(0,h),(3,x3),(4,p),(13,sX),(14,sY),(15,xJ)] H)):=by kernel_rfl
theorem Jz (d p x3 h:A):aH (cx C) call rg n 57 lo 0 L kx kg kr kp (m+1) (St.mk [(0,d),(2,p),(3,x3),(4,h)] H) =
 (bU prog 78 d H).bind fun t0 =>
 (bin .lss 3 false false h t0).bind fun t1=>bj t1 ((bB 98 x3 3 H).bind fun t2 =>
 (ld 96 t2 H).bind fun t3 =>
 (ax prog 78 d h H).bind fun t4 =>
 (ld 3 t4 H).bind fun t5 =>
 (C 78 [snap H t5]).bind fun t6 =>
 (aJ prog 96 1 [(0,cE H t6)]).bind fun t7 =>
 (bF prog 96 96 false t3 t7 H lo).bind fun q =>
 (bB 98 x3 3 q.2).bind fun t9 =>
 (cP 96 t9 (cH t9 q.2 q.1) q.2 lo).bind fun u =>
 (bin .add 3 false true h (A.v (.int .i64 1))).bind fun t11 =>
 (trim L u).bind fun y=>bif bif Nat.beq (List.length u) L then true else aR L [(4,t11),(0,d),(2,p),(3,x3)] [0,2,3,4] then aH (cx C) call rg n 57 lo 0 L kx kg kr kp m (St.mk [(0,d),(2,p),(3,x3),(4,t11)] y) else none) (kx 0 (St.mk [(0,d),(2,p),(3,x3),(4,h)] H)):=by kernel_rfl
theorem JA (d h x3 p:A):aH (cx C) call rg n 65 lo 0 L kx kg kr kp (m+1) (St.mk [(0,d),(2,h),(3,x3),(4,p)] H) =
 (bU prog 24 d H).bind fun t0 =>
 (bin .lss 3 false false p t0).bind fun t1=>bj t1 ((ax prog 24 d p H).bind fun t2 =>
 (ld 4 t2 H).bind fun t3=>bj t3 ((bin .add 3 false true x3 (A.v (.int .i64 1))).bind fun t4 =>
 (bin .add 3 false true p (A.v (.int .i64 1))).bind fun t5 =>
 (trim L H).bind fun q=>bif bif Nat.beq (List.length H) L then true else aR L [(4,t5),(3,t4),(0,d),(2,h)] [0,2,3,4] then aH (cx C) call rg n 65 lo 0 L kx kg kr kp m (St.mk [(0,d),(2,h),(3,t4),(4,t5)] q) else none) ((bin .add 3 false true p (A.v (.int .i64 1))).bind fun t4 =>
 (trim L H).bind fun u=>bif bif Nat.beq (List.length H) L then true else aR L [(4,t4),(0,d),(2,h),(3,x3)] [0,2,3,4] then aH (cx C) call rg n 65 lo 0 L kx kg kr kp m (St.mk [(0,d),(2,h),(3,x3),(4,t4)] u) else none)) (kx 0 (St.mk [(0,d),(2,h),(3,x3),(4,p)] H)):=by kernel_rfl
theorem JB (h d q p:A):aH (cx C) call rg n 67 lo 0 L kx kg kr kp (m+1) (St.mk [(0,h),(1,d),(4,q),(5,p)] H) =
 (bU prog 22 h H).bind fun t0 =>
 (bin .lss 3 false false p t0).bind fun t1 =>
 (dI t1 ((bin .geq 3 false true d (A.v (.int .i64 0))).bind fun t2=>some [t2,t2,d]) (some [A.v (.bool false),ud,ud])).bind fun u=>jh u fun y u4 l4=>g9 l4 fun u5 l5=>bj y ((ax prog 22 h p H).bind fun t6 =>
 (bB 59 t6 2 H).bind fun t7 =>
 (ld 3 t7 H).bind fun t8 =>
 (bin .lss 3 false false d t8).bind fun t9=>bj t9 (kr (St.mk [(0,h),(1,d),(4,p),(5,p)] H)) ((bin .add 3 false true p (A.v (.int .i64 1))).bind fun t10 =>
 (trim L H).bind fun ad=>bif bif Nat.beq (List.length H) L then true else aR L [(5,t10),(0,h),(1,d),(4,q)] [0,1,4,5] then aH (cx C) call rg n 67 lo 0 L kx kg kr kp m (St.mk [(0,h),(1,d),(4,q),(5,t10)] ad) else none)) (kx 0 (St.mk [(0,h),(1,d),(4,q),(5,p)] H)):=by kernel_rfl
theorem JC (d h p q x7 x8:A):aH (cx C) call rg n 68 lo 0 L kx kg kr kp (m+1) (St.mk [(0,d),(1,h),(2,p),(6,q),(7,x7),(8,x8)] H) =
 (bU prog 24 d H).bind fun t0 =>
 (bin .lss 3 false false x8 t0).bind fun t1=>bj t1 ((ax prog 24 d x8 H).bind fun t2 =>
 (ld 4 t2 H).bind fun t3 =>
 (bin .eql 4 false false t3 h).bind fun t4=>bj t4 ((bin .eql 3 false false x7 p).bind fun t5=>bj t5 (kr (St.mk [(0,d),(1,h),(2,p),(6,x8),(7,x7),(8,x8)] H)) ((bin .add 3 false true x7 (A.v (.int .i64 1))).bind fun t6 =>
 (bin .add 3 false true x8 (A.v (.int .i64 1))).bind fun t7 =>
 (trim L H).bind fun u=>bif bif Nat.beq (List.length H) L then true else aR L [(8,t7),(7,t6),(0,d),(1,h),(2,p),(6,q)] [0,1,2,6,7,8] then aH (cx C) call rg n 68 lo 0 L kx kg kr kp m (St.mk [(0,d),(1,h),(2,p),(6,q),(7,t6),(8,t7)] u) else none)) ((bin .add 3 false true x8 (A.v (.int .i64 1))).bind fun t5 =>
 (trim L H).bind fun y=>bif bif Nat.beq (List.length H) L then true else aR L [(8,t5),(0,d),(1,h),(2,p),(6,q),(7,x7)] [0,1,2,6,7,8] then aH (cx C) call rg n 68 lo 0 L kx kg kr kp m (St.mk [(0,d),(1,h),(2,p),(6,q),(7,x7),(8,t5)] y) else none)) (kx 0 (St.mk [(0,d),(1,h),(2,p),(6,q),(7,x7),(8,x8)] H)):=by kernel_rfl
theorem JD (d p x3 h:A):aH (cx C) call rg n 80 lo 0 L kx kg kr kp (m+1) (St.mk [(1,d),(2,p),(3,x3),(4,h)] H) =
 (bB 98 d 3 H).bind fun t0 =>
 (ld 96 t0 H).bind fun t1 =>
 (bU prog 96 t1 H).bind fun t2 =>
 (bin .lss 3 false false h t2).bind fun t3=>bj t3 ((bB 98 d 3 H).bind fun t4 =>
 (ld 96 t4 H).bind fun t5 =>
 (ax prog 96 t5 h H).bind fun t6 =>
 (ld 98 t6 H).bind fun t7 =>
 (C 80 [snap H t7]).bind fun t8 =>
 (bF prog 30 30 false x3 t8 H lo).bind fun q =>
 (bin .add 3 false true h (A.v (.int .i64 1))).bind fun t10 =>
 (trim L q.2).bind fun u=>bif bif Nat.beq (List.length q.2) L then true else aR L [(4,t10),(3,q.1),(1,d),(2,p)] [1,2,3,4] then aH (cx C) call rg n 80 lo 0 L kx kg kr kp m (St.mk [(1,d),(2,p),(3,q.1),(4,t10)] u) else none) (kx 1 (St.mk [(1,d),(2,p),(3,x3),(4,h)] H)):=by kernel_rfl
theorem JE (h p d q u:A):aH (cx C) call rg n 82 lo 0 L kx kg kr kp (m+1) (St.mk [(0,h),(1,p),(4,d),(36,q),(37,u)] H) =
 (bin .lss 3 false false u q).bind fun t0=>bj t0 ((bB 98 d 3 H).bind fun t1 =>
 (ld 96 t1 H).bind fun t2 =>
 (bin .add 3 false true p (A.v (.int .i64 1))).bind fun t3=>bif bif eL 3 t1 then bif eL 3 d then true else false else false then
 (call 82 [h,t3] H lo).bind fun y=>dA y.1 (fun a5 =>
 (aJ prog 96 1 [(0,cE y.2 a5)]).bind fun t6 =>
 (bF prog 96 96 false t2 t6 y.2 lo).bind fun r7 =>
 (bB 98 d 3 r7.2).bind fun t8 =>
 (cP 96 t8 (cH t8 r7.2 r7.1) r7.2 lo).bind fun H9 =>
 (bin .add 3 false true u (A.v (.int .i64 1))).bind fun t10 =>
 (trim L H9).bind fun ao=>bif bif Nat.beq (List.length H9) L then true else aR L [(37,t10),(0,h),(1,p),(4,d),(36,q)] [0,1,4,36,37] then aH (cx C) call rg n 82 lo 0 L kx kg kr kp m (St.mk [(0,h),(1,p),(4,d),(36,q),(37,t10)] ao) else none) fun a5=>kp a5 (St.mk [(0,A.any),(1,A.any),(4,A.any),(36,A.any),(37,A.any)] y.2) else none) (kx 1 (St.mk [(0,h),(1,p),(4,d),(36,q),(37,u)] H)):=by kernel_rfl
theorem tN (d h p x7 x8 x9:A):aH (cx C) call rg n 84 lo 0 L kx kg kr kp (m+1) (St.mk [(0,d),(1,h),(4,p),(7,x7),(8,x8),(9,x9)] H) =
 (bin .lss 140 false false x9 x7).bind fun t0 =>
 (dI t0 ((ez d H).bind fun t1 =>
 (bB 132 t1 2 H).bind fun t2 =>
 (ld 4 t2 H).bind fun t3 =>
 (jz prog UnOp.not t3).bind fun t4=>some [t4,t4,t3,t2,t1,d]) (some [A.v (.bool false),ud,ud,ud,ud,ud])).bind fun l1=>fR l1 fun u2 u3 u4 u5 l5=>jh l5 fun u6 u7 l7=>bj u2 ((bB 98 x8 3 H).bind fun t8 =>
 (ld 96 t8 H).bind fun t9 =>
 (bin .add 3 false true h (A.v (.int .i64 1))).bind fun t10=>bif bif eL 2 t8 then bif eL 2 x8 then true else false else false then
 (call 84 [d,t10] H lo).bind fun q=>dA q.1 (fun y =>
 (aJ prog 96 1 [(0,cE q.2 y)]).bind fun t13 =>
 (bF prog 96 96 false t9 t13 q.2 lo).bind fun u =>
 (bB 98 x8 3 u.2).bind fun t15 =>
 (cP 96 t15 (cH t15 u.2 u.1) u.2 lo).bind fun ab =>
 (bin .add 140 false true x9 (A.v (.int .u64 1))).bind fun t17 =>
 (trim L ab).bind fun bm=>bif bif Nat.beq (List.length ab) L then true else aR L [(9,t17),(0,d),(1,h),(4,p),(7,x7),(8,x8)] [0,1,4,7,8,9] then aH (cx C) call rg n 84 lo 0 L kx kg kr kp m (St.mk [(0,d),(1,h),(4,p),(7,x7),(8,x8),(9,t17)] bm) else none) fun y=>kp y (St.mk [(0,A.any),(1,A.any),(4,A.any),(7,A.any),(8,A.any),(9,A.any)] q.2) else none) (kx 1 (St.mk [(0,d),(1,h),(4,p),(7,x7),(8,x8),(9,x9)] H)):=by kernel_rfl
theorem JF (d h p x7 x8:A):aH (cx C) call rg n 89 lo 0 L kx kg kr kp (m+1) (St.mk [(0,d),(1,h),(4,p),(7,x7),(8,x8)] H) =
 (bin .lss 3 false false x8 x7).bind fun t0=>bj t0 ((ax prog 22 d x8 H).bind fun t1 =>
 (ld 59 t1 H).bind fun t2=>dK (cx C) call h [t2] H lo (fun i3 h3=>bj i3 (kr (St.mk [(0,d),(1,h),(4,x8),(7,x7),(8,x8)] h3)) ((bin .add 3 false true x8 (A.v (.int .i64 1))).bind fun t4 =>
 (trim L h3).bind fun q=>bif bif Nat.beq (List.length h3) L then true else aR L [(8,t4),(0,d),(1,h),(4,p),(7,x7)] [0,1,4,7,8] then aH (cx C) call rg n 89 lo 0 L kx kg kr kp m (St.mk [(0,d),(1,h),(4,p),(7,x7),(8,t4)] q) else none)) fun i3 h3=>kp i3 (St.mk [(0,d),(1,h),(4,p),(7,x7),(8,x8)] h3)) (kx 0 (St.mk [(0,d),(1,h),(4,p),(7,x7),(8,x8)] H)):=by kernel_rfl
theorem JG (q x3 d Ep Er:A):aH (cx C) call rg n 91 lo 0 L kx kg kr kp (m+1) (St.mk [(2,q),(3,x3),(55,d),(56,Ep),(57,Er)] H) =
 (bin .lss 3 false false Er Ep).bind fun t0=>bj t0 ((ax prog 96 d Er H).bind fun t1 =>
 (ld 98 t1 H).bind fun t2 =>
 (fY 98 H).bind fun h =>
 (cP 98 h.1 (cH h.1 h.2 t2) h.2 lo).bind fun p =>
 (ld 98 h.1 p).bind fun t5 =>
 (C 91 [snap p t5]).bind fun t6 =>
 (aL t6 0).bind fun t7 =>
 (aL t6 1).bind fun t8 =>
 (jz prog UnOp.not t8).bind fun t9=>bj t9 (kr (St.mk [(2,A.v (.int .i64 0)),(3,A.v (.bool false)),(55,d),(56,Ep),(57,Er)] p)) ((Gj false q [t7]).bind fun t10 =>
 (bin .add 3 false true Er (A.v (.int .i64 1))).bind fun t11 =>
 (trim L p).bind fun u=>bif bif Nat.beq (List.length p) L then true else aR L [(57,t11),(2,t10),(3,x3),(55,d),(56,Ep)] [2,3,55,56,57] then aH (cx C) call rg n 91 lo 0 L kx kg kr kp m (St.mk [(2,t10),(3,x3),(55,d),(56,Ep),(57,t11)] u) else none)) (kx 0 (St.mk [(2,q),(3,x3),(55,d),(56,Ep),(57,Er)] H)):=by kernel_rfl
theorem rC (q d h:A):aH (cx C) call rg n 93 lo 0 L kx kg kr kp (m+1) (St.mk [(0,q),(1,d),(4,h)] H) =
 (bin .geq 140 false true d (A.v (.int .u64 128))).bind fun t0=>bj t0 ((bc prog 140 5 d H).bind fun t1 =>
 (bin .or 5 false true t1 (A.v (.int .u8 128))).bind fun t2 =>
 (aJ prog 30 1 [(0,cE H t2)]).bind fun t3 =>
 (bF prog 30 30 false q t3 H lo).bind fun p =>
 (bin .shr 140 false true d (A.v (.int .u64 7))).bind fun t5 =>
 (trim L p.2).bind fun u=>bif bif Nat.beq (List.length p.2) L then true else aR L [(1,t5),(0,p.1),(4,h)] [0,1,4] then aH (cx C) call rg n 93 lo 0 L kx kg kr kp m (St.mk [(0,p.1),(1,t5),(4,h)] u) else none) (kx 0 (St.mk [(0,q),(1,d),(4,h)] H)):=by kernel_rfl
theorem Gr (y h u D9 p Ek:A):aH (cx C) call rg n 96 lo 0 L kx kg kr kp (m+1) (St.mk [(0,y),(2,h),(5,u),(17,D9),(18,p),(19,Ek)] H) =
 (bin .lss 3 false false Ek p).bind fun t0=>bj t0 ((ax prog 96 D9 Ek H).bind fun t1 =>
 (ld 98 t1 H).bind fun t2 =>
 (fY 98 H).bind fun q =>
 (cP 98 q.1 (cH q.1 q.2 t2) q.2 lo).bind fun d =>
 (ld 122 h d).bind fun t5 =>
 (bB 98 q.1 0 d).bind fun t6 =>
 (ld 3 t6 d).bind fun t7 =>
 (ez t5 d).bind fun t8 =>
 (ax prog 138 t8 t7 d).bind fun t9 =>
 (bB 121 t9 0 d).bind fun t10 =>
 (ld 119 t10 d).bind fun t11 =>
 (ld 98 q.1 d).bind fun t12=>dK (cx C) call t11 [y,t12] d lo (fun i13 ab =>
 (bin .add 3 false true Ek (A.v (.int .i64 1))).bind fun t14 =>
 (trim L ab).bind fun ad=>bif bif Nat.beq (List.length ab) L then true else aR L [(19,t14),(0,i13),(2,h),(5,u),(17,D9),(18,p)] [0,2,5,17,18,19] then aH (cx C) call rg n 96 lo 0 L kx kg kr kp m (St.mk [(0,i13),(2,h),(5,u),(17,D9),(18,p),(19,t14)] ad) else none) fun i13 ab=>kp i13 (St.mk [(0,y),(2,h),(5,u),(17,D9),(18,p),(19,Ek)] ab)) (kx 0 (St.mk [(0,y),(2,h),(5,u),(17,D9),(18,p),(19,Ek)] H)):=by kernel_rfl
theorem JH (d h x3:A):aH (cx C) call rg n 97 lo 0 L kx kg kr kp (m+1) (St.mk [(1,d),(2,h),(3,x3)] H) =
 (bB 98 d 3 H).bind fun t0 =>
 (ld 96 t0 H).bind fun t1 =>
 (bU prog 96 t1 H).bind fun t2 =>
 (bin .lss 3 false false x3 t2).bind fun t3=>bj t3 ((bB 98 d 3 H).bind fun t4 =>
 (ld 96 t4 H).bind fun t5 =>
 (ax prog 96 t5 x3 H).bind fun t6 =>
 (ld 98 t6 H).bind fun t7 =>
 (C 97 [snap H t7]).bind fun t8 =>
 (jz prog UnOp.not t8).bind fun t9=>bj t9 (kr (St.mk [(1,d),(2,A.v (.bool false)),(3,x3)] H)) ((bin .add 3 false true x3 (A.v (.int .i64 1))).bind fun t10 =>
 (trim L H).bind fun p=>bif bif Nat.beq (List.length H) L then true else aR L [(3,t10),(1,d),(2,h)] [1,2,3] then aH (cx C) call rg n 97 lo 0 L kx kg kr kp m (St.mk [(1,d),(2,h),(3,t10)] p) else none)) (kx 1 (St.mk [(1,d),(2,h),(3,x3)] H)):=by kernel_rfl
theorem JI (d p x3 h:A):aH (cx C) call rg n 98 lo 0 L kx kg kr kp (m+1) (St.mk [(1,d),(2,p),(3,x3),(4,h)] H) =
 (bB 98 d 3 H).bind fun t0 =>
 (ld 96 t0 H).bind fun t1 =>
 (bU prog 96 t1 H).bind fun t2 =>
 (bin .lss 3 false false h t2).bind fun t3=>bj t3 ((bB 98 d 3 H).bind fun t4 =>
 (ld 96 t4 H).bind fun t5 =>
 (ax prog 96 t5 h H).bind fun t6 =>
 (ld 98 t6 H).bind fun t7 =>
 (C 98 [snap H t7]).bind fun t8 =>
 (Gj false x3 [t8]).bind fun t9 =>
 (bin .add 3 false true h (A.v (.int .i64 1))).bind fun t10 =>
 (trim L H).bind fun q=>bif bif Nat.beq (List.length H) L then true else aR L [(4,t10),(3,t9),(1,d),(2,p)] [1,2,3,4] then aH (cx C) call rg n 98 lo 0 L kx kg kr kp m (St.mk [(1,d),(2,p),(3,t9),(4,t10)] q) else none) (kx 0 (St.mk [(1,d),(2,p),(3,x3),(4,h)] H)):=by kernel_rfl
theorem yH (d p x3:A):aH (cx C) call rg n 103 lo 0 L kx kg kr kp (m+1) (St.mk [(0,d),(2,p),(3,x3)] H) =
 (call 101 [d,A.v (.int .i64 1)] H lo).bind fun H0=>dA H0.1 (fun q =>
 (ax prog 30 q (A.v (.int .i64 0)) H0.2).bind fun t2 =>
 (ld 5 t2 H0.2).bind fun t3 =>
 (bin .eql 3 false true x3 (A.v (.int .i64 0))).bind fun t4 =>
 (dI t4 (some [A.v (.bool true),ud,ud]) ((bin .neq 5 false true t3 (A.v (.int .u8 0))).bind fun t5=>some [t5,t5,t3])).bind fun l5=>jh l5 fun u6 u7 l7=>g9 l7 fun u8 l8 =>
 (dI u6 ((bin .lss 3 false true x3 (A.v (.int .i64 9))).bind fun t9 =>
 (dI t9 (some [A.v (.bool true),ud,ud]) ((bin .leq 5 false true t3 (A.v (.int .u8 1))).bind fun t10=>some [t10,t10,t3])).bind fun ca=>jh ca fun u y cb=>g9 cb fun ab ad=>some [u,u,y,ab,t9,t9,x3]) (some [A.v (.bool false),ud,ud,ud,ud,ud,ud])).bind fun l9=>fR l9 fun ch u y ab ad=>jh ad fun dd ds ck=>g9 ck fun u16 ea =>
 (call 83 [d,ch] H0.2 lo).bind fun h=>dA h.1 (fun an =>
 (bin .and 5 false true t3 (A.v (.int .u8 127))).bind fun t19 =>
 (bc prog 5 140 t19 h.2).bind fun t20 =>
 (bin .mul 3 true false (A.v (.int .i64 7)) x3).bind fun t21 =>
 (bin .shl 140 false false t20 t21).bind fun t22 =>
 (bin .or 140 false false p t22).bind fun t23 =>
 (bin .lss 5 false true t3 (A.v (.int .u8 128))).bind fun t24=>bj t24 (kr (St.mk [(0,d),(2,t23),(3,x3)] h.2)) ((bin .add 3 false true x3 (A.v (.int .i64 1))).bind fun t25 =>
 (trim L h.2).bind fun cm=>bif bif Nat.beq (List.length h.2) L then true else aR L [(3,t25),(2,t23),(0,d)] [0,2,3] then aH (cx C) call rg n 103 lo 0 L kx kg kr kp m (St.mk [(0,d),(2,t23),(3,t25)] cm) else none)) fun an=>kp an (St.mk [(0,d),(2,p),(3,x3)] h.2)) fun q=>kp q (St.mk [(0,d),(2,p),(3,x3)] H0.2):=by kernel_rfl
theorem yI (d u x3 h:A):aH (cx C) call rg n 106 lo 0 L kx kg kr kp (m+1) (St.mk [(0,d),(2,u),(3,x3),(4,h)] H) =
 (ez d H).bind fun t0 =>
 (bB 132 t0 2 H).bind fun t1 =>
 (ld 4 t1 H).bind fun t2 =>
 (jz prog UnOp.not t2).bind fun t3=>bj t3 ((call 105 [d] H lo).bind fun p=>dA p.1 (fun q =>
 (bin .eql 3 false true h (A.v (.int .i64 9))).bind fun t6 =>
 (dI t6 ((bin .gtr 5 false true q (A.v (.int .u8 1))).bind fun t7=>some [t7,t7,q]) (some [A.v (.bool false),ud,ud])).bind fun l7=>jh l7 fun u8 u9 l9=>g9 l9 fun cy dd =>
 (dI u8 (some [A.v (.bool true),ud,ud,ud,ud,ud,ud]) ((bin .gtr 3 false true h (A.v (.int .i64 0))).bind fun t11 =>
 (dI t11 ((bin .eql 5 false true q (A.v (.int .u8 0))).bind fun t12=>some [t12,t12,q]) (some [A.v (.bool false),ud,ud])).bind fun bs=>jh bs fun y ab ca=>g9 ca fun ad an=>some [y,y,ab,ad,t11,t11,h])).bind fun cb=>fR cb fun cc y ab ad an=>jh an fun u16 ds ch=>g9 ch fun ea eg=>bj cc ((ez d p.2).bind fun t19 =>
 (bB 132 t19 2 p.2).bind fun t20 =>
 (cP 4 t20 (cH t20 p.2 (A.v (.bool true))) p.2 lo).bind fun ck=>kr (St.mk [(0,d),(2,A.v (.int .u64 0)),(3,x3),(4,h)] ck)) ((bin .rem 5 false true q (A.v (.int .u8 128))).bind fun t19 =>
 (bc prog 5 140 t19 p.2).bind fun t20 =>
 (bin .mul 3 true false (A.v (.int .i64 7)) h).bind fun t21 =>
 (bin .shl 140 false false t20 t21).bind fun t22 =>
 (bin .add 140 false false x3 t22).bind fun t23 =>
 (bin .lss 5 false true q (A.v (.int .u8 128))).bind fun t24=>bj t24 (kr (St.mk [(0,d),(2,t23),(3,t23),(4,h)] p.2)) ((bin .add 3 false true h (A.v (.int .i64 1))).bind fun t25 =>
 (trim L p.2).bind fun cm=>bif bif Nat.beq (List.length p.2) L then true else aR L [(4,t25),(3,t23),(0,d),(2,u)] [0,2,3,4] then aH (cx C) call rg n 106 lo 0 L kx kg kr kp m (St.mk [(0,d),(2,u),(3,t23),(4,t25)] cm) else none))) fun q=>kp q (St.mk [(0,d),(2,u),(3,x3),(4,h)] p.2)) (kx 0 (St.mk [(0,d),(2,u),(3,x3),(4,h)] H)):=by kernel_rfl
theorem Gs (n lo b lo':Nat) (h y0 u:A) (H:ay):nw (cx C) call rg n 9 lo 0 b [(2,h)] [y0,u] H lo'=bif Nat.ble lo' lo then Ei H b ((fY 72 H).bind fun d =>
 (cP 72 d.1 (cH d.1 d.2 u) d.2 lo).bind fun H1=>Ei H1 b ((bB 72 d.1 0 (List.set H1 b (aA.rng dv.busy))).bind fun t2 =>
 (ld 4 t2 (List.set H1 b (aA.rng dv.busy))).bind fun t3=>bj t3 ((ld 27 h (List.set H1 b (aA.rng dv.busy))).bind fun t4 =>
 (bB 72 d.1 1 (List.set H1 b (aA.rng dv.busy))).bind fun t5 =>
 (bB 59 t5 0 (List.set H1 b (aA.rng dv.busy))).bind fun t6 =>
 (ld 3 t6 (List.set H1 b (aA.rng dv.busy))).bind fun t7 =>
 (bB 72 d.1 1 (List.set H1 b (aA.rng dv.busy))).bind fun t8 =>
 (bB 59 t8 1 (List.set H1 b (aA.rng dv.busy))).bind fun t9 =>
 (ld 3 t9 (List.set H1 b (aA.rng dv.busy))).bind fun t10 =>
 (bB 72 d.1 1 (List.set H1 b (aA.rng dv.busy))).bind fun t11 =>
 (bB 59 t11 2 (List.set H1 b (aA.rng dv.busy))).bind fun t12 =>
 (ld 3 t12 (List.set H1 b (aA.rng dv.busy))).bind fun t13 =>
 (aJ prog 78 4 [(0,cE (List.set H1 b (aA.rng dv.busy)) (A.v (.int .i64 1))),(1,cE (List.set H1 b (aA.rng dv.busy)) t7),(2,cE (List.set H1 b (aA.rng dv.busy)) t10),(3,cE (List.set H1 b (aA.rng dv.busy)) t13)]).bind fun t14 =>
 (C 29 [snap (List.set H1 b (aA.rng dv.busy)) t14]).bind fun t15 =>
 (aJ prog 27 1 [(0,cE (List.set H1 b (aA.rng dv.busy)) t15)]).bind fun t16 =>
 (bF prog 27 27 false t4 t16 (List.set H1 b (aA.rng dv.busy)) lo).bind fun p =>
 (cP 27 h (cH h p.2 p.1) p.2 lo).bind fun y=>BQ y b (some (Out.ret (A.v (.bool true)),List.set y b (aA.rng dv.ready)))) ((ld 27 h (List.set H1 b (aA.rng dv.busy))).bind fun t4 =>
 (bB 72 d.1 2 (List.set H1 b (aA.rng dv.busy))).bind fun t5 =>
 (bB 62 t5 0 (List.set H1 b (aA.rng dv.busy))).bind fun t6 =>
 (ld 3 t6 (List.set H1 b (aA.rng dv.busy))).bind fun t7 =>
 (bB 72 d.1 2 (List.set H1 b (aA.rng dv.busy))).bind fun t8 =>
 (bB 62 t8 1 (List.set H1 b (aA.rng dv.busy))).bind fun t9 =>
 (ld 3 t9 (List.set H1 b (aA.rng dv.busy))).bind fun t10 =>
 (aJ prog 78 3 [(0,cE (List.set H1 b (aA.rng dv.busy)) (A.v (.int .i64 2))),(1,cE (List.set H1 b (aA.rng dv.busy)) t7),(2,cE (List.set H1 b (aA.rng dv.busy)) t10)]).bind fun t11 =>
 (C 29 [snap (List.set H1 b (aA.rng dv.busy)) t11]).bind fun t12 =>
 (aJ prog 27 1 [(0,cE (List.set H1 b (aA.rng dv.busy)) t12)]).bind fun t13 =>
 (bF prog 27 27 false t4 t13 (List.set H1 b (aA.rng dv.busy)) lo).bind fun q =>
 (cP 27 h (cH h q.2 q.1) q.2 lo).bind fun ab=>BQ ab b (some (Out.ret (A.v (.bool true)),List.set ab b (aA.rng dv.ready)))))) else none:=by kernel_rfl
theorem CX (n lo b lo':Nat) (p x3 h y0 y:A) (H:ay):nw (cx C) call rg n 20 lo 0 b [(2,p),(3,x3),(4,h)] [y0,y] H lo'=bif Nat.ble lo' lo then Ei H b ((fY 72 H).bind fun d =>
 (cP 72 d.1 (cH d.1 d.2 y) d.2 lo).bind fun H1=>Ei H1 b ((bB 72 d.1 0 (List.set H1 b (aA.rng dv.busy))).bind fun t2 =>
 (ld 4 t2 (List.set H1 b (aA.rng dv.busy))).bind fun t3 =>
 (dI t3 ((ld 26 x3 (List.set H1 b (aA.rng dv.busy))).bind fun t4 =>
 (bB 72 d.1 1 (List.set H1 b (aA.rng dv.busy))).bind fun t5 =>
 (ld 59 t5 (List.set H1 b (aA.rng dv.busy))).bind fun t6 =>
 (C 50 [snap (List.set H1 b (aA.rng dv.busy)) t4,snap (List.set H1 b (aA.rng dv.busy)) t6]).bind fun t7 =>
 (jz prog UnOp.not t7).bind fun t8=>some [t8,t8,t7,t6,t5,t4]) (some [A.v (.bool false),ud,ud,ud,ud,ud])).bind fun l4=>fR l4 fun u5 u6 u7 u8 l8=>jh l8 fun u9 ej fs =>
 (dI u5 (some [A.v (.bool true),ud,ud,ud,ud,ud,ud,ud,ud,ud,ud]) ((bB 72 d.1 0 (List.set H1 b (aA.rng dv.busy))).bind fun t11 =>
 (ld 4 t11 (List.set H1 b (aA.rng dv.busy))).bind fun t12 =>
 (jz prog UnOp.not t12).bind fun t13 =>
 (dI t13 ((ld 26 x3 (List.set H1 b (aA.rng dv.busy))).bind fun t14 =>
 (bB 72 d.1 2 (List.set H1 b (aA.rng dv.busy))).bind fun t15 =>
 (ld 62 t15 (List.set H1 b (aA.rng dv.busy))).bind fun t16 =>
 (C 51 [snap (List.set H1 b (aA.rng dv.busy)) t14,snap (List.set H1 b (aA.rng dv.busy)) t16]).bind fun t17 =>
 (jz prog UnOp.not t17).bind fun t18=>some [t18,t18,t17,t16,t15,t14]) (some [A.v (.bool false),ud,ud,ud,ud,ud])).bind fun ck=>fR ck fun q u16 ab ad cm=>jh cm fun an ao fv=>some [q,q,u16,ab,ad,an,ao,t13,t13,t12,t11])).bind fun cv=>AX cv fun cy gf ha q u16 ab ad an dd=>jh dd fun ao hd ds=>g9 ds fun hf hg=>bj cy ((cP 31 p (cH p (List.set H1 b (aA.rng dv.busy)) (A.v (.int .i64 530))) (List.set H1 b (aA.rng dv.busy)) lo).bind fun bm=>BQ bm b (some (Out.ret (A.v (.bool false)),List.set bm b (aA.rng (dv.done I6.ret))))) ((ld 26 x3 (List.set H1 b (aA.rng dv.busy))).bind fun t23 =>
 (ld 72 d.1 (List.set H1 b (aA.rng dv.busy))).bind fun t24 =>
 (C 33 [snap (List.set H1 b (aA.rng dv.busy)) t23,snap (List.set H1 b (aA.rng dv.busy)) t24]).bind fun t25 =>
 (cP 26 x3 (cH x3 (List.set H1 b (aA.rng dv.busy)) t25) (List.set H1 b (aA.rng dv.busy)) lo).bind fun u =>
 (ld 3 h u).bind fun t27 =>
 (bin .add 3 false true t27 (A.v (.int .i64 1))).bind fun t28 =>
 (cP 3 h (cH h u t28) u lo).bind fun bs=>BQ bs b (some (Out.ret (A.v (.bool true)),List.set bs b (aA.rng dv.ready)))))) else none:=by kernel_rfl
end Go.Proofs.Ytdmgdjnadbakfaa
