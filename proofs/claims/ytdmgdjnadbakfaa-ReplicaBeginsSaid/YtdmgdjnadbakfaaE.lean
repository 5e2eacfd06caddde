/-
 What the interpreter does with the program's functions: equations, by a tool; the kernel checks each.
-/
import Derived.Test.YtdmgdjnadbakfaaEvTyped
import Derived.Test.YtdmgdjnadbakfaaRows
import Derived.KernelRfl
namespace Go.Proofs.Ytdmgdjnadbakfaa
open Go.Proofs.Try (prog)
set_option linter.unusedVariables false
set_option linter.unusedSimpArgs false
set_option maxHeartbeats 4000000
set_option maxRecDepth 100000
def keepTab:List ((Nat×Nat)×List Nat):=[((3,6),[1,2,3,6,27,28,29]),((4,18),[6,7,11,30,31,32,72]),((4,9),[6,7,30,31,32]),((6,8),[1,2,4,5,6,23,24,25]),((9,1000006),[2]),((11,3),[4,5,12,13,14]),((12,3),[1,4,5,6,7]),((13,4),[0,1,4,5]),((14,4),[2,3,4,5]),((15,2),[0,1,4,5,7]),((16,2),[2,3,4,5]),((18,32),[1,2,11,13,14,78,84,85,86,98,104,105,106]),((18,29),[1,2,11,13,78,84,85,86,98]),((18,24),[1,2,11,78,84,85,86]),((18,21),[1,2,78]),((18,15),[1,2,3,4,59,60,61]),((18,8),[1,2,3,4,6,38,39,40,45,46,47]),((18,5),[1,2,3,4,38,39,40]),((19,4),[0,1,4,5]),((20,1000006),[2,3,4]),((21,4),[0,1,4,5]),((23,3),[0,3,4,8,9,10]),((27,2),[2,4,5,10,11,12]),((29,3),[2,3,9,10,11]),((31,5),[1,2,3,4,5,6]),((32,6),[2,3,6,23,24,25]),((34,6),[2,3,5,6]),((35,11),[1,2,5]),((35,5),[1,2,3,4]),((38,15),[0,69,70,71]),((38,9),[0,4,42,51,52,53]),((38,6),[0,42]),((38,1),[0,13,14]),((48,2),[0,3,4,5]),((49,2),[3,4,7,8,9]),((55,2),[0,3,4,13,14,15]),((57,3),[0,2,3,4]),((65,3),[0,2,3,4]),((67,2),[0,1,4,5]),((68,3),[0,1,2,6,7,8]),((69,1000004),[3,4,5,6]),((80,8),[1,2,3,4]),((82,11),[0,1,4,36,37]),((84,21),[0,1,4,7,8,9]),((89,2),[0,1,4,7,8]),((91,7),[2,3,55,56,57]),((93,1),[0,1,4]),((96,3),[0,2,5,17,18,19]),((97,8),[1,2,3]),((98,5),[1,2,3,4]),((103,3),[0,2,3]),((106,3),[0,2,3,4]),((107,2),[0,3,4,7,8])]
def keepF (f r:Nat):List Nat:=keepOf f r keepTab
def actTab:List ((Nat×Nat)×List (Nat×Nat×Nat)):=[((82,11),[(4,4,5)]),((82,3000000),[(4,4,0)]),((84,21),[(8,4,5)]),((84,3000000),[(4,4,0)]),((95,2000001),[(3,0,0)]),((29,3),[(3,4,5)]),((15,2),[(4,2,0),(4,3,0),(4,4,0),(4,6,0),(4,7,0),(4,8,0)]),((57,3),[(3,4,5)]),((34,6),[(5,0,2)]),((32,6),[(6,0,2)]),((20,1000006),[(3,2,0),(3,3,0),(3,4,0)]),((31,5),[(3,0,2)]),((11,3),[(4,2,0),(4,3,0),(4,4,0)]),((12,3),[(6,2,4),(6,3,3),(6,4,2)]),((9,1000006),[(2,1,2)]),((4,9),[(7,2,0),(7,3,0),(7,4,0),(7,6,0),(7,7,0),(7,8,0),(7,11,0),(7,12,0),(7,13,0)])]
def actF (f r:Nat):List (Nat×Nat×Nat):=actOf f r actTab
def arrTab:List (Nat×Nat):=[]
def arrF (f t:Nat):Bool:=inTab f t arrTab
def wrTab:List (Nat×Nat):=[]
def wrF (f t:Nat):Bool:=inTab f t wrTab
def loudTab:List (Nat×Nat):=[]
def loudF (f t:Nat):Bool:=inTab f t loudTab
def joinTab:List ((Nat×Nat)×List Nat):=[]
def joinF (f r:Nat):List Nat:=keepOf f r joinTab
def cutTab:List (Nat×Nat):=[(82,3),(84,2),(96,5),(93,1000)]
def cutF (k:Nat):Nat:=cutOf k cutTab
def freTab:List (Nat×Nat):=[(77,0),(60,0),(61,0),(62,0),(70,0),(71,0)]
def freF (k:Nat):Bool:=inTab k 0 freTab
noncomputable def cx (C:Nat->List A->Option A):Cx:={ P:=prog,glob:=fun _=>none,isOrc:=fun k=>notIn k [23,28,36,37,38,39,40,41,42,43,44,45,46,52,53,54,55,60,61,62,69,70,71,72,77,81,82,83,84,85,86,87,89,90,92,93,95,96,101,103,104,105,106],isOrcV:=fun k=>notIn k [23,28,36,37,38,39,40,41,42,43,44,45,46,52,53,54,55,60,61,62,69,70,71,72,77,81,82,83,84,85,86,87,89,90,92,93,95,96,101,103,104,105,106],C:=C,keep:=keepF,wrAt:=wrF,acts:=actF,loud:=loudF,arr:=arrF,join:=joinF,cut:=cutF,fre:=freF,deep:=fun k=>memN k [69] }
theorem qsz (C:Nat->List A->Option A):Array.size (Program.funcs (Cx.P (cx C)))=124:=by kernel_rfl
theorem yq {C:Nat->List A->Option A} {m b:Nat} {base:CallT} {args:List A} {H:Heap} {lo:Nat}:evCallY (cx C) m base (Array.size (Program.funcs (Cx.P (cx C)))+b) args H lo=base (124+b) args H lo:=evCallY_y.trans (congrArg (fun q=>base (q+b) args H lo) (qsz C))
theorem lt_28:Nat.ble prog.funcs.size 28=false:=by kernel_rfl
theorem lt_37:Nat.ble prog.funcs.size 37=false:=by kernel_rfl
theorem lt_46:Nat.ble prog.funcs.size 46=false:=by kernel_rfl
theorem lt_53:Nat.ble prog.funcs.size 53=false:=by kernel_rfl
theorem lt_55:Nat.ble prog.funcs.size 55=false:=by kernel_rfl
theorem lt_60:Nat.ble prog.funcs.size 60=false:=by kernel_rfl
theorem lt_61:Nat.ble prog.funcs.size 61=false:=by kernel_rfl
theorem lt_62:Nat.ble prog.funcs.size 62=false:=by kernel_rfl
theorem lt_77:Nat.ble prog.funcs.size 77=false:=by kernel_rfl
theorem lt_83:Nat.ble prog.funcs.size 83=false:=by kernel_rfl
theorem lt_89:Nat.ble prog.funcs.size 89=false:=by kernel_rfl
theorem lt_90:Nat.ble prog.funcs.size 90=false:=by kernel_rfl
theorem lt_92:Nat.ble prog.funcs.size 92=false:=by kernel_rfl
theorem lt_93:Nat.ble prog.funcs.size 93=false:=by kernel_rfl
theorem lt_95:Nat.ble prog.funcs.size 95=false:=by kernel_rfl
theorem lt_96:Nat.ble prog.funcs.size 96=false:=by kernel_rfl
theorem lt_101:Nat.ble prog.funcs.size 101=false:=by kernel_rfl
theorem lt_103:Nat.ble prog.funcs.size 103=false:=by kernel_rfl
theorem lt_104:Nat.ble prog.funcs.size 104=false:=by kernel_rfl
variable (C:Nat->List A->Option A) (call:CallT) (rg:CallT->CallT)
abbrev lk (s:St) (i:Nat):A:=look (St.fr s) i
abbrev ud:A:=A.v undef
theorem e5 (n lo:Nat) (x0 x1:A) (H:Heap):evCall1 (cx C) call rg n 5 [x0,x1] H lo =
 (aBox x0 H).bind fun r0 =>
 (C 7 []).bind fun t1 =>
 (aUn prog UnOp.not t1).bind fun t2=>bIfN t2 (some (Out.ret (A.v (.bool false)),r0.2)) ((aLoad prog 26 r0.1 r0.2).bind fun t3 =>
 (C 8 [snap r0.2 t3]).bind fun t4 =>
 (aUn prog UnOp.not t4).bind fun t5=>bIfN t5 (some (Out.ret (A.v (.bool true)),r0.2)) ((aLoad prog 26 r0.1 r0.2).bind fun t6 =>
 (C 9 [snap r0.2 t6]).bind fun t7 =>
 (aExtract t7 0).bind fun t8 =>
 (aExtract t7 1).bind fun t9 =>
 (aBin prog .neq 31 false true t9 (A.v (.int .i64 0))).bind fun t10=>bIfN t10 ((aLen prog 27 t8 r0.2).bind fun t11 =>
 (aBin prog .eql 3 false true t11 (A.v (.int .i64 0))).bind fun t12=>some (Out.ret t12,r0.2)) ((aLen prog 27 t8 r0.2).bind fun t11 =>
 (aBin prog .eql 3 false true t11 (A.v (.int .i64 0))).bind fun t12 =>
 (bIf t12 (some [A.v (.bool true),ud,ud,ud,ud,ud,ud]) ((aLen prog 27 t8 r0.2).bind fun t13 =>
 (aFieldAddr prog 26 r0.1 3 r0.2).bind fun t14 =>
 (aLoad prog 24 t14 r0.2).bind fun t15 =>
 (aLen prog 24 t15 r0.2).bind fun t16 =>
 (aBin prog .neq 3 false false t13 t16).bind fun t17=>some [t17,t17,t16,t15,t14,t13,t8])).bind fun l13=>unc l13 fun u14 l14=>unc l14 fun u15 l15=>unc l15 fun u16 l16=>unc l16 fun u17 l17=>unc l17 fun u18 l18=>unc l18 fun u19 l19=>unc l19 fun u20 l20=>bIfN u14 (some (Out.ret (A.v (.bool false)),r0.2)) ((aFieldAddr prog 26 r0.1 0 r0.2).bind fun t21 =>
 (aLoad prog 3 t21 r0.2).bind fun t22 =>
 (C 11 [snap r0.2 t22,snap r0.2 t8]).bind fun t23 =>
 (aExtract t23 0).bind fun t24 =>
 (aExtract t23 1).bind fun t25 =>
 (aAlloc prog 26 r0.2).bind fun r26 =>
 (aStore prog 26 r26.1 (stV r26.1 r26.2 t24) r26.2 lo).bind fun H27 =>
 (aConvert prog 56 3 x1 H27).bind fun t28 =>
 (aLen prog 27 t8 H27).bind fun t29 =>
 (aBin prog .rem 3 false false t28 t29).bind fun t30 =>
 (aBin prog .add 3 true false (A.v (.int .i64 1)) t30).bind fun t31 =>
 (aFieldAddr prog 26 r0.1 0 H27).bind fun t32 =>
 (aLoad prog 3 t32 H27).bind fun t33 =>
 (aSlice prog 27 t8 none (some t31) none H27).bind fun t34 =>
 (C 11 [snap H27 t33,snap H27 t34]).bind fun t35 =>
 (aExtract t35 0).bind fun t36 =>
 (aExtract t35 1).bind fun t37=>bif bif apart t8 A.any then bif apart t32 A.any then bif apart r0.1 A.any then true else false else false else false then
 (aAlloc prog 26 H27).bind fun r38 =>
 (aStore prog 26 r38.1 (stV r38.1 r38.2 t36) r38.2 lo).bind fun H39 =>
 (aBin prog .neq 31 false true t25 (A.v (.int .i64 0))).bind fun t40 =>
 (bIf t40 (some [A.v (.bool true),ud,ud]) ((aBin prog .neq 31 false true t37 (A.v (.int .i64 0))).bind fun t41=>some [t41,t41,t37])).bind fun l41=>unc l41 fun u42 l42=>unc l42 fun u43 l43=>unc l43 fun u44 l44 =>
 (bIf u42 (some [A.v (.bool true),ud,ud,ud,ud]) ((aLoad prog 26 r26.1 H39).bind fun t45 =>
 (aLoad prog 26 r0.1 H39).bind fun t46 =>
 (C 14 [snap H39 t45,snap H39 t46]).bind fun t47 =>
 (aUn prog UnOp.not t47).bind fun t48=>some [t48,t48,t47,t46,t45])).bind fun l45=>unc l45 fun u46 l46=>unc l46 fun u47 l47=>unc l47 fun u48 l48=>unc l48 fun u49 l49=>unc l49 fun u50 l50 =>
 (bIf u46 (some [A.v (.bool true),ud,ud,ud]) ((aLoad prog 26 r38.1 H39).bind fun t51 =>
 (C 20 [snap H39 t51]).bind fun t52 =>
 (aBin prog .neq 31 false true t52 (A.v (.int .i64 0))).bind fun t53=>some [t53,t53,t52,t51])).bind fun l51=>unc l51 fun u52 l52=>unc l52 fun u53 l53=>unc l53 fun u54 l54=>unc l54 fun u55 l55 =>
 (bIf u52 (some [A.v (.bool true),ud,ud,ud,ud,ud]) ((aFieldAddr prog 26 r38.1 3 H39).bind fun t56 =>
 (aLoad prog 24 t56 H39).bind fun t57 =>
 (aLen prog 24 t57 H39).bind fun t58 =>
 (aBin prog .neq 3 false false t58 t31).bind fun t59=>some [t59,t59,t31,t58,t57,t56])).bind fun l56=>unc l56 fun u57 l57=>unc l57 fun u58 l58=>unc l58 fun u59 l59=>unc l59 fun u60 l60=>unc l60 fun u61 l61=>unc l61 fun u62 l62=>bIfN u57 (some (Out.ret (A.v (.bool false)),H39)) ((aFieldAddr prog 26 r38.1 2 H39).bind fun t63 =>
 (aLoad prog 23 t63 H39).bind fun t64 =>
 (aLen prog 23 t64 H39).bind fun t65 =>
 (aFieldAddr prog 26 r38.1 1 H39).bind fun t66 =>
 (aLoad prog 22 t66 H39).bind fun t67 =>
 (aFieldAddr prog 26 r0.1 1 H39).bind fun t68 =>
 (aLoad prog 22 t68 H39).bind fun t69 =>
 (C 22 [snap H39 t67,snap H39 t69]).bind fun t70 =>
 (bIf t70 ((aFieldAddr prog 26 r0.1 2 H39).bind fun t71 =>
 (aLoad prog 23 t71 H39).bind fun t72 =>
 (aLen prog 23 t72 H39).bind fun t73 =>
 (aBin prog .leq 3 false false t65 t73).bind fun t74=>some [t74,t74,t73,t72,t71,t65]) (some [A.v (.bool false),ud,ud,ud,ud,ud])).bind fun l71=>unc l71 fun u72 l72=>unc l72 fun u73 l73=>unc l73 fun u74 l74=>unc l74 fun u75 l75=>unc l75 fun u76 l76=>unc l76 fun u77 l77 =>
 (gIf u72 true ((aFieldAddr prog 26 r38.1 2 H39).bind fun t78 =>
 (aLoad prog 23 t78 H39).bind fun t79 =>
 (aFieldAddr prog 26 r0.1 2 H39).bind fun t80 =>
 (aLoad prog 23 t80 H39).bind fun t81 =>
 (aSlice prog 23 t81 none (some t65) none H39).bind fun t82=>some [t82,t65,t81,t80,t79,t78]) (some [ud,ud,ud,ud,ud,ud])).bind fun l78=>unc l78 fun u79 l79=>unc l79 fun u80 l80=>unc l80 fun u81 l81=>unc l81 fun u82 l82=>unc l82 fun u83 l83=>unc l83 fun u84 l84 =>
 (bIf u72 ((C 21 [snap H39 u83,snap H39 u79]).bind fun t85=>some [t85,t85]) (some [A.v (.bool false),ud])).bind fun l85=>unc l85 fun u86 l86=>unc l86 fun u87 l87=>some (Out.ret u86,H39)) else none)))):=by kernel_rfl
theorem e7 (n lo:Nat) (H:Heap):evCall1 (cx C) call rg n 7 [] H lo =
 (C 25 [snap H (A.v (.int .i64 0)),snap H (A.v (.int .i64 0)),snap H (A.v (.int .i64 10))]).bind fun t0 =>
 (aExtract t0 0).bind fun t1 =>
 (aExtract t0 1).bind fun t2 =>
 (aAlloc prog 26 H).bind fun r3 =>
 (aStore prog 26 r3.1 (stV r3.1 r3.2 t1) r3.2 lo).bind fun H4 =>
 (C 25 [snap H4 (A.v (.int .i64 2)),snap H4 (A.v (.int .i64 0)),snap H4 (A.v (.int .i64 5))]).bind fun t5 =>
 (aExtract t5 0).bind fun t6 =>
 (aExtract t5 1).bind fun t7 =>
 (aAlloc prog 26 H4).bind fun r8 =>
 (aStore prog 26 r8.1 (stV r8.1 r8.2 t6) r8.2 lo).bind fun H9 =>
 (C 25 [snap H9 (A.v (.int .i64 0)),snap H9 (A.v (.int .i64 0)),snap H9 (A.v (.int .i64 0))]).bind fun t10 =>
 (aExtract t10 0).bind fun t11 =>
 (aExtract t10 1).bind fun t12 =>
 (aAlloc prog 26 H9).bind fun r13 =>
 (aStore prog 26 r13.1 (stV r13.1 r13.2 t11) r13.2 lo).bind fun H14 =>
 (C 25 [snap H14 (A.v (.int .i64 0)),snap H14 (A.v (.int .i64 1)),snap H14 (A.v (.int .i64 5))]).bind fun t15 =>
 (aExtract t15 0).bind fun t16 =>
 (aExtract t15 1).bind fun t17 =>
 (aAlloc prog 26 H14).bind fun r18 =>
 (aStore prog 26 r18.1 (stV r18.1 r18.2 t16) r18.2 lo).bind fun H19 =>
 (aLoad prog 26 r18.1 H19).bind fun t20 =>
 (C 26 [snap H19 t20,snap H19 (A.v (.int .i64 0)),snap H19 (A.v (.int .i64 9))]).bind fun t21 =>
 (aExtract t21 0).bind fun t22 =>
 (aExtract t21 1).bind fun t23 =>
 (aAlloc prog 26 H19).bind fun r24 =>
 (aStore prog 26 r24.1 (stV r24.1 r24.2 t22) r24.2 lo).bind fun H25 =>
 (aLoad prog 26 r3.1 H25).bind fun t26 =>
 (C 24 [snap H25 t26,snap H25 (A.v (.int .i64 10)),snap H25 (A.v (.int .i64 1))]).bind fun t27 =>
 (aExtract t27 0).bind fun t28 =>
 (aExtract t27 1).bind fun t29 =>
 (aAlloc prog 26 H25).bind fun r30 =>
 (aStore prog 26 r30.1 (stV r30.1 r30.2 t28) r30.2 lo).bind fun H31 =>
 (C 11 [snap H31 (A.v (.int .i64 0)),snap H31 (A.imm [] true)]).bind fun t32 =>
 (aExtract t32 0).bind fun t33 =>
 (aExtract t32 1).bind fun t34 =>
 (aAlloc prog 26 H31).bind fun r35 =>
 (aStore prog 26 r35.1 (stV r35.1 r35.2 t33) r35.2 lo).bind fun H36 =>
 (C 15 [snap H36 (A.v (.int .i64 0)),snap H36 (A.v (.int .i64 10))]).bind fun t37 =>
 (aExtract t37 0).bind fun t38 =>
 (aExtract t37 1).bind fun t39 =>
 (aAlloc prog 44 H36).bind fun r40 =>
 (aStore prog 44 r40.1 (stV r40.1 r40.2 t38) r40.2 lo).bind fun H41 =>
 (aLoad prog 44 r40.1 H41).bind fun t42 =>
 (aBuild prog 49 []).bind fun t43 =>
 (C 17 [snap H41 t42,snap H41 t43]).bind fun t44 =>
 (aExtract t44 0).bind fun t45 =>
 (aExtract t44 1).bind fun t46 =>
 (aAlloc prog 44 H41).bind fun r47 =>
 (aStore prog 44 r47.1 (stV r47.1 r47.2 t45) r47.2 lo).bind fun H48 =>
 (aBin prog .neq 31 false true t2 (A.v (.int .i64 0))).bind fun t49 =>
 (bIf t49 (some [A.v (.bool true),ud,ud]) ((aBin prog .neq 31 false true t7 (A.v (.int .i64 1))).bind fun t50=>some [t50,t50,t7])).bind fun l50=>unc l50 fun u51 l51=>unc l51 fun u52 l52=>unc l52 fun u53 l53 =>
 (bIf u51 (some [A.v (.bool true),ud,ud]) ((aBin prog .neq 31 false true t12 (A.v (.int .i64 1))).bind fun t54=>some [t54,t54,t12])).bind fun l54=>unc l54 fun u55 l55=>unc l55 fun u56 l56=>unc l56 fun u57 l57 =>
 (bIf u55 (some [A.v (.bool true),ud,ud]) ((aBin prog .neq 31 false true t17 (A.v (.int .i64 0))).bind fun t58=>some [t58,t58,t17])).bind fun l58=>unc l58 fun u59 l59=>unc l59 fun u60 l60=>unc l60 fun u61 l61 =>
 (bIf u59 (some [A.v (.bool true),ud,ud]) ((aBin prog .neq 31 false true t23 (A.v (.int .i64 530))).bind fun t62=>some [t62,t62,t23])).bind fun l62=>unc l62 fun u63 l63=>unc l63 fun u64 l64=>unc l64 fun u65 l65 =>
 (bIf u63 (some [A.v (.bool true),ud,ud]) ((aBin prog .neq 31 false true t29 (A.v (.int .i64 530))).bind fun t66=>some [t66,t66,t29])).bind fun l66=>unc l66 fun u67 l67=>unc l67 fun u68 l68=>unc l68 fun u69 l69 =>
 (bIf u67 (some [A.v (.bool true),ud,ud]) ((aBin prog .neq 31 false true t34 (A.v (.int .i64 530))).bind fun t70=>some [t70,t70,t34])).bind fun l70=>unc l70 fun u71 l71=>unc l71 fun u72 l72=>unc l72 fun u73 l73 =>
 (bIf u71 (some [A.v (.bool true),ud,ud]) ((aBin prog .neq 31 false true t39 (A.v (.int .i64 0))).bind fun t74=>some [t74,t74,t39])).bind fun l74=>unc l74 fun u75 l75=>unc l75 fun u76 l76=>unc l76 fun u77 l77 =>
 (bIf u75 (some [A.v (.bool true),ud,ud]) ((aBin prog .neq 31 false true t46 (A.v (.int .i64 530))).bind fun t78=>some [t78,t78,t46])).bind fun l78=>unc l78 fun u79 l79=>unc l79 fun u80 l80=>unc l80 fun u81 l81 =>
 (bIf u79 (some [A.v (.bool true),ud,ud,ud]) ((aLoad prog 26 r3.1 H48).bind fun t82 =>
 (C 20 [snap H48 t82]).bind fun t83 =>
 (aBin prog .neq 31 false true t83 (A.v (.int .i64 0))).bind fun t84=>some [t84,t84,t83,t82])).bind fun l82=>unc l82 fun u83 l83=>unc l83 fun u84 l84=>unc l84 fun u85 l85=>unc l85 fun u86 l86 =>
 (bIf u83 (some [A.v (.bool true),ud,ud,ud]) ((aBuild prog 26 []).bind fun t87 =>
 (C 20 [snap H48 t87]).bind fun t88 =>
 (aBin prog .neq 31 false true t88 (A.v (.int .i64 530))).bind fun t89=>some [t89,t89,t88,t87])).bind fun l87=>unc l87 fun u88 l88=>unc l88 fun u89 l89=>unc l89 fun u90 l90=>unc l90 fun u91 l91=>bIfN u88 (some (Out.ret (A.v (.bool false)),H48)) ((aLoad prog 44 r40.1 H48).bind fun t92 =>
 (aBuild prog 49 [(0,A.v (.int .i64 3)),(2,A.v (.int .i64 3)),(3,A.v (.int .i64 2))]).bind fun t93 =>
 (aBuild prog 49 [(0,A.v (.int .i64 3)),(2,A.v (.int .i64 5)),(3,A.v (.int .i64 1))]).bind fun t94 =>
 (aBuild prog 49 [(0,A.v (.int .i64 1)),(2,A.v (.int .i64 1)),(3,A.v (.int .i64 20))]).bind fun t95 =>
 (aBuild prog 49 [(0,A.v (.int .i64 4))]).bind fun t96 =>
 (aBuild prog 49 [(0,A.v (.int .i64 5)),(2,A.v (.int .i64 1))]).bind fun t97 =>
 (aBuild prog 49 [(0,A.v (.int .i64 6)),(2,A.v (.int .i64 1))]).bind fun t98 =>
 (aBuildSlice prog 39 6 [(0,frzA H48 t93),(1,frzA H48 t94),(2,frzA H48 t95),(3,frzA H48 t96),(4,frzA H48 t97),(5,frzA H48 t98)]).bind fun t99 =>
 (C 27 [snap H48 t92,snap H48 t99]).bind fun t100 =>
 (aExtract t100 0).bind fun t101 =>
 (aExtract t100 1).bind fun t102 =>
 (aAlloc prog 44 H48).bind fun r103 =>
 (aStore prog 44 r103.1 (stV r103.1 r103.2 t101) r103.2 lo).bind fun H104 =>
 (aLoad prog 44 r103.1 H104).bind fun t105 =>
 (aBuild prog 49 [(0,A.v (.int .i64 3)),(1,A.v (.int .i64 1)),(2,A.v (.int .i64 12)),(3,A.v (.int .i64 1))]).bind fun t106 =>
 (C 17 [snap H104 t105,snap H104 t106]).bind fun t107 =>
 (aExtract t107 0).bind fun t108 =>
 (aExtract t107 1).bind fun t109 =>
 (aAlloc prog 44 H104).bind fun r110 =>
 (aStore prog 44 r110.1 (stV r110.1 r110.2 t108) r110.2 lo).bind fun H111 =>
 (aLoad prog 44 r103.1 H111).bind fun t112 =>
 (aBuild prog 49 [(0,A.v (.int .i64 2)),(1,A.v (.int .i64 1))]).bind fun t113 =>
 (aBuild prog 49 [(0,A.v (.int .i64 3)),(1,A.v (.int .i64 1)),(2,A.v (.int .i64 12)),(3,A.v (.int .i64 4))]).bind fun t114 =>
 (aBuildSlice prog 39 2 [(0,frzA H111 t113),(1,frzA H111 t114)]).bind fun t115 =>
 (C 27 [snap H111 t112,snap H111 t115]).bind fun t116 =>
 (aExtract t116 0).bind fun t117 =>
 (aExtract t116 1).bind fun t118 =>
 (aAlloc prog 44 H111).bind fun r119 =>
 (aStore prog 44 r119.1 (stV r119.1 r119.2 t117) r119.2 lo).bind fun H120 =>
 (aLoad prog 44 r119.1 H120).bind fun t121 =>
 (aBuild prog 49 [(0,A.v (.int .i64 6)),(1,A.v (.int .i64 1))]).bind fun t122 =>
 (C 17 [snap H120 t121,snap H120 t122]).bind fun t123 =>
 (aExtract t123 0).bind fun t124 =>
 (aExtract t123 1).bind fun t125 =>
 (aAlloc prog 44 H120).bind fun r126 =>
 (aStore prog 44 r126.1 (stV r126.1 r126.2 t124) r126.2 lo).bind fun H127 =>
 (aLoad prog 44 r119.1 H127).bind fun t128 =>
 (aBuild prog 49 [(0,A.v (.int .i64 7)),(1,A.v (.int .i64 1)),(2,A.v (.int .i64 2))]).bind fun t129 =>
 (aBuildSlice prog 39 1 [(0,frzA H127 t129)]).bind fun t130 =>
 (C 27 [snap H127 t128,snap H127 t130]).bind fun t131 =>
 (aExtract t131 0).bind fun t132 =>
 (aExtract t131 1).bind fun t133 =>
 (aAlloc prog 44 H127).bind fun r134 =>
 (aStore prog 44 r134.1 (stV r134.1 r134.2 t132) r134.2 lo).bind fun H135 =>
 (aUn prog UnOp.not t102).bind fun t136 =>
 (bIf t136 (some [A.v (.bool true),ud,ud]) ((aBin prog .neq 31 false true t109 (A.v (.int .i64 530))).bind fun t137=>some [t137,t137,t109])).bind fun l137=>unc l137 fun u138 l138=>unc l138 fun u139 l139=>unc l139 fun u140 l140 =>
 (bIf u138 (some [A.v (.bool true),ud,ud]) ((aUn prog UnOp.not t118).bind fun t141=>some [t141,t141,t118])).bind fun l141=>unc l141 fun u142 l142=>unc l142 fun u143 l143=>unc l143 fun u144 l144 =>
 (bIf u142 (some [A.v (.bool true),ud,ud]) ((aBin prog .neq 31 false true t125 (A.v (.int .i64 530))).bind fun t145=>some [t145,t145,t125])).bind fun l145=>unc l145 fun u146 l146=>unc l146 fun u147 l147=>unc l147 fun u148 l148 =>
 (bIf u146 (some [A.v (.bool true),ud,ud]) ((aUn prog UnOp.not t133).bind fun t149=>some [t149,t149,t133])).bind fun l149=>unc l149 fun u150 l150=>unc l150 fun u151 l151=>unc l151 fun u152 l152=>bIfN u150 (some (Out.ret (A.v (.bool false)),H135)) ((aBuild prog 59 [(2,A.v (.int .i64 10))]).bind fun t153 =>
 (aBuild prog 59 [(0,A.v (.int .i64 1)),(1,A.v (.int .i64 1)),(2,A.v (.int .i64 20))]).bind fun t154 =>
 (aBuildSlice prog 22 2 [(0,frzA H135 t153),(1,frzA H135 t154)]).bind fun t155 =>
 (aFieldAddr prog 44 r103.1 2 H135).bind fun t156 =>
 (aLoad prog 22 t156 H135).bind fun t157 =>
 (aSlice prog 22 t155 (some (A.v (.int .i64 1))) none none H135).bind fun t158 =>
 (C 19 [snap H135 t157,snap H135 t158]).bind fun t159 =>
 (aUn prog UnOp.not t159).bind fun t160 =>
 (bIf t160 (some [A.v (.bool true),ud,ud,ud,ud,ud,ud,ud]) ((aFieldAddr prog 44 r103.1 3 H135).bind fun t161 =>
 (aIndexAddr prog 42 t161 (A.v (.int .i64 0)) H135).bind fun t162 =>
 (aLoad prog 23 t162 H135).bind fun t163 =>
 (aBuild prog 62 [(0,A.v (.int .i64 5)),(1,A.v (.int .i64 1))]).bind fun t164 =>
 (aBuildSlice prog 23 1 [(0,frzA H135 t164)]).bind fun t165 =>
 (C 21 [snap H135 t163,snap H135 t165]).bind fun t166 =>
 (aUn prog UnOp.not t166).bind fun t167=>some [t167,t167,t166,t165,t164,t163,t162,t161])).bind fun l161=>unc l161 fun u162 l162=>unc l162 fun u163 l163=>unc l163 fun u164 l164=>unc l164 fun u165 l165=>unc l165 fun u166 l166=>unc l166 fun u167 l167=>unc l167 fun u168 l168=>unc l168 fun u169 l169 =>
 (gIf u162 false ((aFieldAddr prog 44 r119.1 0 H135).bind fun t170 =>
 (aIndexAddr prog 40 t170 (A.v (.int .i64 1)) H135).bind fun t171 =>
 (aLoad prog 26 t171 H135).bind fun t172 =>
 (aBuild prog 62 [(0,A.v (.int .i64 12)),(1,A.v (.int .i64 4))]).bind fun t173 =>
 (aBuildSlice prog 23 1 [(0,frzA H135 t173)]).bind fun t174 =>
 (aBuildSlice prog 24 3 [(0,frzA H135 (A.v (.bool true))),(1,frzA H135 (A.v (.bool true))),(2,frzA H135 (A.v (.bool false)))]).bind fun t175 =>
 (aBuild prog 26 [(0,A.v (.int .i64 1)),(1,t155),(2,t174),(3,t175)]).bind fun t176=>some [t176,t175,t174,t173,t155,t172,t171,t170]) (some [ud,ud,ud,ud,ud,ud,ud,ud])).bind fun l170=>unc l170 fun u171 l171=>unc l171 fun u172 l172=>unc l172 fun u173 l173=>unc l173 fun u174 l174=>unc l174 fun u175 l175=>unc l175 fun u176 l176=>unc l176 fun u177 l177=>unc l177 fun u178 l178 =>
 (bIf u162 (some [A.v (.bool true),ud,ud]) ((C 14 [snap H135 u176,snap H135 u171]).bind fun t179 =>
 (aUn prog UnOp.not t179).bind fun t180=>some [t180,t180,t179])).bind fun l179=>unc l179 fun u180 l180=>unc l180 fun u181 l181=>unc l181 fun u182 l182=>bIfN u180 (some (Out.ret (A.v (.bool false)),H135)) ((aFieldAddr prog 44 r119.1 0 H135).bind fun t183 =>
 (aIndexAddr prog 40 t183 (A.v (.int .i64 1)) H135).bind fun t184 =>
 (aLoad prog 26 t184 H135).bind fun t185 =>
 (C 9 [snap H135 t185]).bind fun t186 =>
 (aExtract t186 0).bind fun t187 =>
 (aExtract t186 1).bind fun t188 =>
 (C 11 [snap H135 (A.v (.int .i64 1)),snap H135 t187]).bind fun t189 =>
 (aExtract t189 0).bind fun t190 =>
 (aExtract t189 1).bind fun t191 =>
 (aAlloc prog 26 H135).bind fun r192 =>
 (aStore prog 26 r192.1 (stV r192.1 r192.2 t190) r192.2 lo).bind fun H193 =>
 (aBin prog .eql 31 false true t188 (A.v (.int .i64 0))).bind fun t194 =>
 (bIf t194 ((aBin prog .eql 31 false true t191 (A.v (.int .i64 0))).bind fun t195=>some [t195,t195,t191]) (some [A.v (.bool false),ud,ud])).bind fun l195=>unc l195 fun u196 l196=>unc l196 fun u197 l197=>unc l197 fun u198 l198 =>
 (bIf u196 ((aLen prog 27 t187 H193).bind fun t199 =>
 (aBin prog .eql 3 false true t199 (A.v (.int .i64 3))).bind fun t200=>some [t200,t200,t199,t187]) (some [A.v (.bool false),ud,ud,ud])).bind fun l199=>unc l199 fun u200 l200=>unc l200 fun u201 l201=>unc l201 fun u202 l202=>unc l202 fun u203 l203 =>
 (bIf u200 ((aLoad prog 26 r192.1 H193).bind fun t204 =>
 (aFieldAddr prog 44 r119.1 0 H193).bind fun t205 =>
 (aIndexAddr prog 40 t205 (A.v (.int .i64 1)) H193).bind fun t206 =>
 (aLoad prog 26 t206 H193).bind fun t207 =>
 (C 14 [snap H193 t204,snap H193 t207]).bind fun t208=>some [t208,t208,t207,t206,t205,t204]) (some [A.v (.bool false),ud,ud,ud,ud,ud])).bind fun l204=>unc l204 fun u205 l205=>unc l205 fun u206 l206=>unc l206 fun u207 l207=>unc l207 fun u208 l208=>unc l208 fun u209 l209=>unc l209 fun u210 l210 =>
 (bIf u205 ((aFieldAddr prog 44 r134.1 0 H193).bind fun t211 =>
 (aIndexAddr prog 40 t211 (A.v (.int .i64 1)) H193).bind fun t212 =>
 (aLoad prog 26 t212 H193).bind fun t213 =>
 (aBuildSlice prog 24 2 [(0,frzA H193 (A.v (.bool true))),(1,frzA H193 (A.v (.bool true)))]).bind fun t214 =>
 (aBuild prog 26 [(0,A.v (.int .i64 1)),(1,t155),(3,t214)]).bind fun t215 =>
 (C 14 [snap H193 t213,snap H193 t215]).bind fun t216=>some [t216,t216,t215,t214,t155,t213,t212,t211]) (some [A.v (.bool false),ud,ud,ud,ud,ud,ud,ud])).bind fun l211=>unc l211 fun u212 l212=>unc l212 fun u213 l213=>unc l213 fun u214 l214=>unc l214 fun u215 l215=>unc l215 fun u216 l216=>unc l216 fun u217 l217=>unc l217 fun u218 l218=>unc l218 fun u219 l219=>some (Out.ret u212,H193)))):=by kernel_rfl
theorem e8 (n lo:Nat) (x0:A) (H:Heap):evCall1 (cx C) call rg n 8 [x0] H lo =
 (aBox x0 H).bind fun r0 =>
 (aFieldAddr prog 26 r0.1 1 r0.2).bind fun t1 =>
 (aLoad prog 22 t1 r0.2).bind fun t2 =>
 (aLen prog 22 t2 r0.2).bind fun t3 =>
 (aBin prog .leq 3 false true t3 (A.v (.int .i64 300))).bind fun t4 =>
 (bIf t4 ((aFieldAddr prog 26 r0.1 2 r0.2).bind fun t5 =>
 (aLoad prog 23 t5 r0.2).bind fun t6 =>
 (aLen prog 23 t6 r0.2).bind fun t7 =>
 (aBin prog .leq 3 false true t7 (A.v (.int .i64 60))).bind fun t8=>some [t8,t8,t7,t6,t5]) (some [A.v (.bool false),ud,ud,ud,ud])).bind fun l5=>unc l5 fun u6 l6=>unc l6 fun u7 l7=>unc l7 fun u8 l8=>unc l8 fun u9 l9=>unc l9 fun u10 l10 =>
 (bIf u6 ((aFieldAddr prog 26 r0.1 3 r0.2).bind fun t11 =>
 (aLoad prog 24 t11 r0.2).bind fun t12 =>
 (aLen prog 24 t12 r0.2).bind fun t13 =>
 (aBin prog .leq 3 false true t13 (A.v (.int .i64 360))).bind fun t14=>some [t14,t14,t13,t12,t11]) (some [A.v (.bool false),ud,ud,ud,ud])).bind fun l11=>unc l11 fun u12 l12=>unc l12 fun u13 l13=>unc l13 fun u14 l14=>unc l14 fun u15 l15=>unc l15 fun u16 l16=>some (Out.ret u12,r0.2):=by kernel_rfl
theorem e9 (n lo:Nat) (x0:A) (H:Heap):evCall1 (cx C) call rg n 9 [x0] H lo =
 (aBox x0 H).bind fun r0 =>
 (aAlloc prog 27 r0.2).bind fun r1 =>
 (aLoad prog 26 r0.1 r1.2).bind fun t2 =>
 (C 20 [snap r1.2 t2]).bind fun t3 =>
 (aBin prog .neq 31 false true t3 (A.v (.int .i64 0))).bind fun t4=>bIfN t4 ((aStore prog 27 r1.1 (stV r1.1 r1.2 (A.imm [] true)) r1.2 lo).bind fun H5 =>
 (aLoad prog 27 r1.1 H5).bind fun t6=>some (Out.ret (A.tup [t6,t3]),H5)) ((aLoad prog 26 r0.1 r1.2).bind fun t5 =>
 (call 28 [t5] r1.2 lo).bind fun H6=>outK H6.1 (fun a7 =>
 (fnOf prog a7).bind fun r8=>bif Nat.ble lo (List.length (actC lo 0 2 r1.1 H6.2)) then
 (rg (yext 124 call (List.length (actC lo 0 2 r1.1 H6.2)) (roundR (cx C) call rg n 9 lo 0 (List.length (actC lo 0 2 r1.1 H6.2)) [(2,r1.1)])) r8.1 (A.yld (List.length (actC lo 0 2 r1.1 H6.2)) :: r8.2) (actC lo 0 2 r1.1 H6.2++[Blk.rng RSt.ready]) lo).bind fun H9=>outK H9.1 (fun a10=>rngSel (List.length (actC lo 0 2 r1.1 H6.2)) H9.2 (fun h11 =>
 (aLoad prog 27 r1.1 h11).bind fun t12 =>
 (aStore prog 27 r1.1 (stV r1.1 h11 t12) h11 lo).bind fun H13 =>
 (aLoad prog 27 r1.1 H13).bind fun t14=>some (Out.ret (A.tup [t14,A.v (.int .i64 0)]),H13)) (fun i11 h11=>bif Nat.beq i11 0 then
 (aLoad prog 27 r1.1 h11).bind fun t12 =>
 (aStore prog 27 r1.1 (stV r1.1 h11 t12) h11 lo).bind fun H13 =>
 (aLoad prog 27 r1.1 H13).bind fun t14=>some (Out.ret (A.tup [t14,A.v (.int .i64 0)]),H13) else none) (fun i11 h11=>none) fun h11 =>
 (aLoad prog 27 r1.1 h11).bind fun t12=>some (Out.ret (A.tup [t12,t3]),h11)) fun a10=>none else none) fun a7=>some (Out.pan a7,H6.2)):=by kernel_rfl
theorem e11 (n lo:Nat) (x0 x1:A) (H:Heap):evCall1 (cx C) call rg n 11 [x0,x1] H lo =
 (aAlloc prog 26 H).bind fun r0 =>
 (aFieldAddr prog 26 r0.1 0 r0.2).bind fun t1 =>
 (aStore prog 3 t1 (stV t1 r0.2 x0) r0.2 lo).bind fun H2 =>
 (aLen prog 27 x1 H2).bind fun t3=>loopR (cx C) call rg n 11 lo 0 (List.length (actC lo 3 0 r0.1 (actC lo 2 0 r0.1 (actC lo 1 0 r0.1 H2)))) (fun i4 s4=>bif Nat.beq i4 0 then
 (aLoad prog 26 (lk s4 4) (St.H s4)).bind fun t5 =>
 (C 20 [snap (St.H s4) t5]).bind fun t6 =>
 (aBin prog .neq 31 false true t6 (A.v (.int .i64 0))).bind fun t7=>bIfN t7 ((aBuild prog 26 []).bind fun t8 =>
 (aStore prog 26 (lk s4 4) (stV (lk s4 4) (St.H s4) t8) (St.H s4) lo).bind fun H9 =>
 (aLoad prog 26 (lk s4 4) H9).bind fun t10=>some (Out.ret (A.tup [t10,t6]),H9)) ((aLoad prog 26 (lk s4 4) (St.H s4)).bind fun t8 =>
 (aStore prog 26 (lk s4 4) (stV (lk s4 4) (St.H s4) t8) (St.H s4) lo).bind fun H9 =>
 (aLoad prog 26 (lk s4 4) H9).bind fun t10=>some (Out.ret (A.tup [t10,A.v (.int .i64 0)]),H9)) else none) (fun i4 s4=>none) (fun a4 =>
 (aLoad prog 26 (lk a4 4) (St.H a4)).bind fun t5=>some (Out.ret (A.tup [t5,lk a4 5]),St.H a4)) (fun i4 s4=>some (Out.pan i4,St.H s4)) n (St.mk [(4,r0.1),(5,A.v (.int .i64 0)),(12,x1),(13,t3),(14,A.v (.int .i64 0))] (actC lo 3 0 r0.1 (actC lo 2 0 r0.1 (actC lo 1 0 r0.1 H2)))):=by kernel_rfl
theorem e14 (n lo:Nat) (x0 x1:A) (H:Heap):evCall1 (cx C) call rg n 14 [x0,x1] H lo =
 (aBox x0 H).bind fun r0 =>
 (aBox x1 r0.2).bind fun r1 =>
 (aFieldAddr prog 26 r0.1 0 r1.2).bind fun t2 =>
 (aLoad prog 3 t2 r1.2).bind fun t3 =>
 (aFieldAddr prog 26 r1.1 0 r1.2).bind fun t4 =>
 (aLoad prog 3 t4 r1.2).bind fun t5 =>
 (aBin prog .neq 3 false false t3 t5).bind fun t6 =>
 (bIf t6 (some [A.v (.bool true),ud,ud,ud,ud,ud,ud]) ((aFieldAddr prog 26 r0.1 1 r1.2).bind fun t7 =>
 (aLoad prog 22 t7 r1.2).bind fun t8 =>
 (aFieldAddr prog 26 r1.1 1 r1.2).bind fun t9 =>
 (aLoad prog 22 t9 r1.2).bind fun t10 =>
 (C 19 [snap r1.2 t8,snap r1.2 t10]).bind fun t11 =>
 (aUn prog UnOp.not t11).bind fun t12=>some [t12,t12,t11,t10,t9,t8,t7])).bind fun l7=>unc l7 fun u8 l8=>unc l8 fun u9 l9=>unc l9 fun u10 l10=>unc l10 fun u11 l11=>unc l11 fun u12 l12=>unc l12 fun u13 l13=>unc l13 fun u14 l14 =>
 (bIf u8 (some [A.v (.bool true),ud,ud,ud,ud,ud,ud]) ((aFieldAddr prog 26 r0.1 2 r1.2).bind fun t15 =>
 (aLoad prog 23 t15 r1.2).bind fun t16 =>
 (aFieldAddr prog 26 r1.1 2 r1.2).bind fun t17 =>
 (aLoad prog 23 t17 r1.2).bind fun t18 =>
 (C 21 [snap r1.2 t16,snap r1.2 t18]).bind fun t19 =>
 (aUn prog UnOp.not t19).bind fun t20=>some [t20,t20,t19,t18,t17,t16,t15])).bind fun l15=>unc l15 fun u16 l16=>unc l16 fun u17 l17=>unc l17 fun u18 l18=>unc l18 fun u19 l19=>unc l19 fun u20 l20=>unc l20 fun u21 l21=>unc l21 fun u22 l22 =>
 (bIf u16 (some [A.v (.bool true),ud,ud,ud,ud,ud,ud,ud]) ((aFieldAddr prog 26 r0.1 3 r1.2).bind fun t23 =>
 (aLoad prog 24 t23 r1.2).bind fun t24 =>
 (aLen prog 24 t24 r1.2).bind fun t25 =>
 (aFieldAddr prog 26 r1.1 3 r1.2).bind fun t26 =>
 (aLoad prog 24 t26 r1.2).bind fun t27 =>
 (aLen prog 24 t27 r1.2).bind fun t28 =>
 (aBin prog .neq 3 false false t25 t28).bind fun t29=>some [t29,t29,t28,t27,t26,t25,t24,t23])).bind fun l23=>unc l23 fun u24 l24=>unc l24 fun u25 l25=>unc l25 fun u26 l26=>unc l26 fun u27 l27=>unc l27 fun u28 l28=>unc l28 fun u29 l29=>unc l29 fun u30 l30=>unc l30 fun u31 l31=>bIfN u24 (some (Out.ret (A.v (.bool false)),r1.2)) (loopR (cx C) call rg n 14 lo 0 (List.length r1.2) (fun i32 s32=>bif Nat.beq i32 0 then some (Out.ret (A.v (.bool true)),St.H s32) else none) (fun i32 s32=>none) (fun a32=>some (Out.ret (lk a32 4),St.H a32)) (fun i32 s32=>some (Out.pan i32,St.H s32)) n (St.mk [(2,r0.1),(3,r1.1),(4,A.v (.bool false)),(5,A.v (.int .i64 0))] r1.2)):=by kernel_rfl
theorem e15 (n lo:Nat) (x0 x1:A) (H:Heap):evCall1 (cx C) call rg n 15 [x0,x1] H lo =
 (aAlloc prog 44 H).bind fun r0=>loopR (cx C) call rg n 15 lo 0 (List.length (actC lo 7 0 r0.1 (actC lo 6 0 r0.1 (actC lo 5 0 r0.1 (actC lo 3 0 r0.1 (actC lo 2 0 r0.1 (actC lo 1 0 r0.1 r0.2))))))) (fun i1 s1=>bif Nat.beq i1 0 then
 (aLoad prog 44 (lk s1 4) (St.H s1)).bind fun t2 =>
 (aStore prog 44 (lk s1 4) (stV (lk s1 4) (St.H s1) t2) (St.H s1) lo).bind fun H3 =>
 (aLoad prog 44 (lk s1 4) H3).bind fun t4=>some (Out.ret (A.tup [t4,A.v (.int .i64 0)]),H3) else none) (fun i1 s1=>none) (fun a1 =>
 (aLoad prog 44 (lk a1 4) (St.H a1)).bind fun t2=>some (Out.ret (A.tup [t2,lk a1 5]),St.H a1)) (fun i1 s1=>some (Out.pan i1,St.H s1)) n (St.mk [(0,x0),(1,x1),(4,r0.1),(5,A.v (.int .i64 0)),(7,A.v (.int .i64 0))] (actC lo 7 0 r0.1 (actC lo 6 0 r0.1 (actC lo 5 0 r0.1 (actC lo 3 0 r0.1 (actC lo 2 0 r0.1 (actC lo 1 0 r0.1 r0.2))))))):=by kernel_rfl
theorem e19 (n lo:Nat) (x0 x1:A) (H:Heap):evCall1 (cx C) call rg n 19 [x0,x1] H lo =
 (aLen prog 22 x0 H).bind fun t0 =>
 (aLen prog 22 x1 H).bind fun t1 =>
 (aBin prog .neq 3 false false t0 t1).bind fun t2=>bIfN t2 (some (Out.ret (A.v (.bool false)),H)) (loopR (cx C) call rg n 19 lo 0 (List.length H) (fun i3 s3=>bif Nat.beq i3 0 then some (Out.ret (A.v (.bool true)),St.H s3) else none) (fun i3 s3=>none) (fun a3=>some (Out.ret (lk a3 4),St.H a3)) (fun i3 s3=>some (Out.pan i3,St.H s3)) n (St.mk [(0,x0),(1,x1),(4,A.v (.bool false)),(5,A.v (.int .i64 0))] H)):=by kernel_rfl
theorem e20 (n lo:Nat) (x0:A) (H:Heap):evCall1 (cx C) call rg n 20 [x0] H lo =
 (aBox x0 H).bind fun r0 =>
 (aAlloc prog 31 r0.2).bind fun r1 =>
 (aFieldAddr prog 26 r0.1 0 r1.2).bind fun t2 =>
 (aLoad prog 3 t2 r1.2).bind fun t3 =>
 (C 47 [snap r1.2 t3,snap r1.2 (A.v (.int .i64 0)),snap r1.2 (A.v (.int .i64 1))]).bind fun t4 =>
 (aUn prog UnOp.not t4).bind fun t5 =>
 (bIf t5 (some [A.v (.bool true),ud,ud,ud,ud]) ((aFieldAddr prog 26 r0.1 3 r1.2).bind fun t6 =>
 (aLoad prog 24 t6 r1.2).bind fun t7 =>
 (aLen prog 24 t7 r1.2).bind fun t8 =>
 (aBin prog .eql 3 false true t8 (A.v (.int .i64 0))).bind fun t9=>some [t9,t9,t8,t7,t6])).bind fun l6=>unc l6 fun u7 l7=>unc l7 fun u8 l8=>unc l8 fun u9 l9=>unc l9 fun u10 l10=>unc l10 fun u11 l11 =>
 (bIf u7 (some [A.v (.bool true),ud,ud,ud,ud,ud,ud,ud,ud,ud,ud,ud]) ((aFieldAddr prog 26 r0.1 3 r1.2).bind fun t12 =>
 (aLoad prog 24 t12 r1.2).bind fun t13 =>
 (aLen prog 24 t13 r1.2).bind fun t14 =>
 (aFieldAddr prog 26 r0.1 1 r1.2).bind fun t15 =>
 (aLoad prog 22 t15 r1.2).bind fun t16 =>
 (aLen prog 22 t16 r1.2).bind fun t17 =>
 (aFieldAddr prog 26 r0.1 2 r1.2).bind fun t18 =>
 (aLoad prog 23 t18 r1.2).bind fun t19 =>
 (aLen prog 23 t19 r1.2).bind fun t20 =>
 (aBin prog .add 3 false false t17 t20).bind fun t21 =>
 (aBin prog .neq 3 false false t14 t21).bind fun t22=>some [t22,t22,t21,t20,t19,t18,t17,t16,t15,t14,t13,t12])).bind fun l12=>unc l12 fun u13 l13=>unc l13 fun u14 l14=>unc l14 fun u15 l15=>unc l15 fun u16 l16=>unc l16 fun u17 l17=>unc l17 fun u18 l18=>unc l18 fun u19 l19=>unc l19 fun u20 l20=>unc l20 fun u21 l21=>unc l21 fun u22 l22=>unc l22 fun u23 l23=>unc l23 fun u24 l24 =>
 (bIf u13 (some [A.v (.bool true),ud,ud,ud,ud]) ((aFieldAddr prog 26 r0.1 1 r1.2).bind fun t25 =>
 (aLoad prog 22 t25 r1.2).bind fun t26 =>
 (aLen prog 22 t26 r1.2).bind fun t27 =>
 (aBin prog .gtr 3 false true t27 (A.v (.int .i64 256))).bind fun t28=>some [t28,t28,t27,t26,t25])).bind fun l25=>unc l25 fun u26 l26=>unc l26 fun u27 l27=>unc l27 fun u28 l28=>unc l28 fun u29 l29=>unc l29 fun u30 l30=>bIfN u26 ((aStore prog 31 r1.1 (stV r1.1 r1.2 (A.v (.int .i64 530))) r1.2 lo).bind fun H31 =>
 (aLoad prog 31 r1.1 H31).bind fun t32=>some (Out.ret t32,H31)) ((aFieldAddr prog 26 r0.1 0 r1.2).bind fun t31 =>
 (aLoad prog 3 t31 r1.2).bind fun t32 =>
 (aBuild prog 26 [(0,t32)]).bind fun t33 =>
 (aAlloc prog 26 r1.2).bind fun r34 =>
 (aAlloc prog 3 r34.2).bind fun r35 =>
 (aStore prog 26 r34.1 (stV r34.1 r35.2 t33) r35.2 lo).bind fun H36 =>
 (aStore prog 3 r35.1 (stV r35.1 H36 (A.v (.int .i64 0))) H36 lo).bind fun H37 =>
 (aLoad prog 26 r0.1 H37).bind fun t38 =>
 (call 28 [t38] H37 lo).bind fun H39=>outK H39.1 (fun a40 =>
 (fnOf prog a40).bind fun r41=>bif Nat.ble lo (List.length (actC lo 3 0 r34.1 (actC lo 2 0 r34.1 (actC lo 1 0 r34.1 H39.2)))) then
 (rg (yext 124 call (List.length (actC lo 3 0 r34.1 (actC lo 2 0 r34.1 (actC lo 1 0 r34.1 H39.2)))) (roundR (cx C) call rg n 20 lo 0 (List.length (actC lo 3 0 r34.1 (actC lo 2 0 r34.1 (actC lo 1 0 r34.1 H39.2)))) [(2,r1.1),(3,r34.1),(4,r35.1)])) r41.1 (A.yld (List.length (actC lo 3 0 r34.1 (actC lo 2 0 r34.1 (actC lo 1 0 r34.1 H39.2)))) :: r41.2) (actC lo 3 0 r34.1 (actC lo 2 0 r34.1 (actC lo 1 0 r34.1 H39.2))++[Blk.rng RSt.ready]) lo).bind fun H42=>outK H42.1 (fun a43=>rngSel (List.length (actC lo 3 0 r34.1 (actC lo 2 0 r34.1 (actC lo 1 0 r34.1 H39.2)))) H42.2 (fun h44 =>
 (aLoad prog 3 r35.1 h44).bind fun t45 =>
 (aFieldAddr prog 26 r0.1 3 h44).bind fun t46 =>
 (aLoad prog 24 t46 h44).bind fun t47 =>
 (aLen prog 24 t47 h44).bind fun t48 =>
 (aBin prog .neq 3 false false t45 t48).bind fun t49 =>
 (bIf t49 (some [A.v (.bool true),ud,ud,ud,ud,ud]) ((aFieldAddr prog 26 r0.1 3 h44).bind fun t50 =>
 (aLoad prog 24 t50 h44).bind fun t51 =>
 (aIndexAddr prog 24 t51 (A.v (.int .i64 0)) h44).bind fun t52 =>
 (aLoad prog 4 t52 h44).bind fun t53 =>
 (aUn prog UnOp.not t53).bind fun t54=>some [t54,t54,t53,t52,t51,t50])).bind fun l50=>unc l50 fun u51 l51=>unc l51 fun u52 l52=>unc l52 fun u53 l53=>unc l53 fun u54 l54=>unc l54 fun u55 l55=>unc l55 fun u56 l56=>bIfN u51 ((aStore prog 31 r1.1 (stV r1.1 h44 (A.v (.int .i64 530))) h44 lo).bind fun H57 =>
 (aLoad prog 31 r1.1 H57).bind fun t58=>some (Out.ret t58,H57)) ((aStore prog 31 r1.1 (stV r1.1 h44 (A.v (.int .i64 0))) h44 lo).bind fun H57 =>
 (aLoad prog 31 r1.1 H57).bind fun t58=>some (Out.ret t58,H57))) (fun i44 h44=>bif Nat.beq i44 0 then
 (aLoad prog 3 r35.1 h44).bind fun t45 =>
 (aFieldAddr prog 26 r0.1 3 h44).bind fun t46 =>
 (aLoad prog 24 t46 h44).bind fun t47 =>
 (aLen prog 24 t47 h44).bind fun t48 =>
 (aBin prog .neq 3 false false t45 t48).bind fun t49 =>
 (bIf t49 (some [A.v (.bool true),ud,ud,ud,ud,ud]) ((aFieldAddr prog 26 r0.1 3 h44).bind fun t50 =>
 (aLoad prog 24 t50 h44).bind fun t51 =>
 (aIndexAddr prog 24 t51 (A.v (.int .i64 0)) h44).bind fun t52 =>
 (aLoad prog 4 t52 h44).bind fun t53 =>
 (aUn prog UnOp.not t53).bind fun t54=>some [t54,t54,t53,t52,t51,t50])).bind fun l50=>unc l50 fun u51 l51=>unc l51 fun u52 l52=>unc l52 fun u53 l53=>unc l53 fun u54 l54=>unc l54 fun u55 l55=>unc l55 fun u56 l56=>bIfN u51 ((aStore prog 31 r1.1 (stV r1.1 h44 (A.v (.int .i64 530))) h44 lo).bind fun H57 =>
 (aLoad prog 31 r1.1 H57).bind fun t58=>some (Out.ret t58,H57)) ((aStore prog 31 r1.1 (stV r1.1 h44 (A.v (.int .i64 0))) h44 lo).bind fun H57 =>
 (aLoad prog 31 r1.1 H57).bind fun t58=>some (Out.ret t58,H57)) else none) (fun i44 h44=>none) fun h44 =>
 (aLoad prog 31 r1.1 h44).bind fun t45=>some (Out.ret t45,h44)) fun a43=>none else none) fun a40=>some (Out.pan a40,H39.2)):=by kernel_rfl
theorem e21 (n lo:Nat) (x0 x1:A) (H:Heap):evCall1 (cx C) call rg n 21 [x0,x1] H lo =
 (aLen prog 23 x0 H).bind fun t0 =>
 (aLen prog 23 x1 H).bind fun t1 =>
 (aBin prog .neq 3 false false t0 t1).bind fun t2=>bIfN t2 (some (Out.ret (A.v (.bool false)),H)) (loopR (cx C) call rg n 21 lo 0 (List.length H) (fun i3 s3=>bif Nat.beq i3 0 then some (Out.ret (A.v (.bool true)),St.H s3) else none) (fun i3 s3=>none) (fun a3=>some (Out.ret (lk a3 4),St.H a3)) (fun i3 s3=>some (Out.pan i3,St.H s3)) n (St.mk [(0,x0),(1,x1),(4,A.v (.bool false)),(5,A.v (.int .i64 0))] H)):=by kernel_rfl
theorem e22 (n lo:Nat) (x0 x1:A) (H:Heap):evCall1 (cx C) call rg n 22 [x0,x1] H lo =
 (aLen prog 22 x0 H).bind fun t0 =>
 (aLen prog 22 x1 H).bind fun t1 =>
 (aBin prog .leq 3 false false t0 t1).bind fun t2 =>
 (bIf t2 ((aLen prog 22 x0 H).bind fun t3 =>
 (aSlice prog 22 x1 none (some t3) none H).bind fun t4 =>
 (C 19 [snap H x0,snap H t4]).bind fun t5=>some [t5,t5,t4,t3,x0,x1,x0]) (some [A.v (.bool false),ud,ud,ud,ud,ud,ud])).bind fun l3=>unc l3 fun u4 l4=>unc l4 fun u5 l5=>unc l5 fun u6 l6=>unc l6 fun u7 l7=>unc l7 fun u8 l8=>unc l8 fun u9 l9=>unc l9 fun u10 l10=>some (Out.ret u4,H):=by kernel_rfl
theorem e24 (n lo:Nat) (x0 x1 x2:A) (H:Heap):evCall1 (cx C) call rg n 24 [x0,x1,x2] H lo =
 (aBox x0 H).bind fun r0 =>
 (aAlloc prog 26 r0.2).bind fun r1 =>
 (aAlloc prog 31 r1.2).bind fun r2 =>
 (aBuild prog 62 [(0,x1),(1,x2)]).bind fun t3 =>
 (aAlloc prog 62 r2.2).bind fun r4 =>
 (aStore prog 62 r4.1 (stV r4.1 r4.2 t3) r4.2 lo).bind fun H5 =>
 (aLoad prog 26 r0.1 H5).bind fun t6 =>
 (C 20 [snap H5 t6]).bind fun t7 =>
 (aBin prog .eql 31 false true t7 (A.v (.int .i64 0))).bind fun t8 =>
 (bIf t8 ((aLoad prog 26 r0.1 H5).bind fun t9 =>
 (aLoad prog 62 r4.1 H5).bind fun t10 =>
 (C 51 [snap H5 t9,snap H5 t10]).bind fun t11=>some [t11,t11,t10,t9]) (some [A.v (.bool false),ud,ud,ud])).bind fun l9=>unc l9 fun u10 l10=>unc l10 fun u11 l11=>unc l11 fun u12 l12=>unc l12 fun u13 l13 =>
 (call 46 [u10,A.v (.int .i64 530)] H5 lo).bind fun H14=>outK H14.1 (fun a15 =>
 (aLoad prog 26 r0.1 H14.2).bind fun t16 =>
 (aLoad prog 62 r4.1 H14.2).bind fun t17 =>
 (aBuild prog 72 [(2,t17)]).bind fun t18 =>
 (C 33 [snap H14.2 t16,snap H14.2 t18]).bind fun t19 =>
 (aStore prog 26 r1.1 (stV r1.1 H14.2 t19) H14.2 lo).bind fun H20 =>
 (aStore prog 31 r2.1 (stV r2.1 H20 (A.v (.int .i64 0))) H20 lo).bind fun H21 =>
 (aLoad prog 26 r1.1 H21).bind fun t22 =>
 ((call 53 [t22,A.v Value.nilIface] H21 (List.length H21)).bind fun H23=>retU (List.length H21) H23).bind fun t23 =>
 (aExtract t23 0).bind fun t24 =>
 (aExtract t23 1).bind fun t25 =>
 (aStore prog 26 r1.1 (stV r1.1 H21 t24) H21 lo).bind fun H26 =>
 (aStore prog 31 r2.1 (stV r2.1 H26 t25) H26 lo).bind fun H27 =>
 (aLoad prog 26 r1.1 H27).bind fun t28 =>
 (aLoad prog 31 r2.1 H27).bind fun t29=>some (Out.ret (A.tup [t28,t29]),H27)) fun a15 =>
 (aLoad prog 26 r1.1 H14.2).bind fun t16 =>
 ((call 53 [t16,a15] H14.2 (List.length H14.2)).bind fun H17=>retU (List.length H14.2) H17).bind fun t17 =>
 (aExtract t17 0).bind fun t18 =>
 (aExtract t17 1).bind fun t19 =>
 (aStore prog 26 r1.1 (stV r1.1 H14.2 t18) H14.2 lo).bind fun H20 =>
 (aStore prog 31 r2.1 (stV r2.1 H20 t19) H20 lo).bind fun H21 =>
 (aLoad prog 26 r1.1 H21).bind fun t22 =>
 (aLoad prog 31 r2.1 H21).bind fun t23=>some (Out.ret (A.tup [t22,t23]),H21):=by kernel_rfl
theorem e25 (n lo:Nat) (x0 x1 x2:A) (H:Heap):evCall1 (cx C) call rg n 25 [x0,x1,x2] H lo =
 (aAlloc prog 26 H).bind fun r0 =>
 (C 47 [snap r0.2 x0,snap r0.2 (A.v (.int .i64 0)),snap r0.2 (A.v (.int .i64 1))]).bind fun t1 =>
 (aUn prog UnOp.not t1).bind fun t2 =>
 (bIf t2 (some [A.v (.bool true),ud,ud,ud]) ((C 47 [snap r0.2 x1,snap r0.2 (A.v (.int .i64 0)),snap r0.2 (A.v (.int .i64 1))]).bind fun t3 =>
 (aUn prog UnOp.not t3).bind fun t4=>some [t4,t4,t3,x1])).bind fun l3=>unc l3 fun u4 l4=>unc l4 fun u5 l5=>unc l5 fun u6 l6=>unc l6 fun u7 l7 =>
 (bIf u4 (some [A.v (.bool true),ud,ud,ud]) ((C 47 [snap r0.2 x2,snap r0.2 (A.v (.int .i64 1)),snap r0.2 (A.v (.int .i64 4096))]).bind fun t8 =>
 (aUn prog UnOp.not t8).bind fun t9=>some [t9,t9,t8,x2])).bind fun l8=>unc l8 fun u9 l9=>unc l9 fun u10 l10=>unc l10 fun u11 l11=>unc l11 fun u12 l12=>bIfN u9 ((aLoad prog 26 r0.1 r0.2).bind fun t13 =>
 (aStore prog 26 r0.1 (stV r0.1 r0.2 t13) r0.2 lo).bind fun H14 =>
 (aLoad prog 26 r0.1 H14).bind fun t15=>some (Out.ret (A.tup [t15,A.v (.int .i64 1)]),H14)) ((aBuild prog 59 [(1,x1),(2,x2)]).bind fun t13 =>
 (aBuildSlice prog 22 1 [(0,frzA r0.2 t13)]).bind fun t14 =>
 (aBuildSlice prog 24 1 [(0,frzA r0.2 (A.v (.bool true)))]).bind fun t15 =>
 (aBuild prog 26 [(0,x0),(1,t14),(3,t15)]).bind fun t16 =>
 (aStore prog 26 r0.1 (stV r0.1 r0.2 t16) r0.2 lo).bind fun H17 =>
 (aLoad prog 26 r0.1 H17).bind fun t18=>some (Out.ret (A.tup [t18,A.v (.int .i64 0)]),H17)):=by kernel_rfl
theorem e27 (n lo:Nat) (x0 x1:A) (H:Heap):evCall1 (cx C) call rg n 27 [x0,x1] H lo =
 (aBox x0 H).bind fun r0 =>
 (aAlloc prog 44 r0.2).bind fun r1 =>
 (aLen prog 39 x1 r1.2).bind fun t2=>loopR (cx C) call rg n 27 lo 0 (List.length r1.2) (fun i3 s3=>bif Nat.beq i3 0 then
 (aLoad prog 44 (lk s3 2) (St.H s3)).bind fun t4 =>
 (aStore prog 44 (lk s3 4) (stV (lk s3 4) (St.H s3) t4) (St.H s3) lo).bind fun H5 =>
 (aLoad prog 44 (lk s3 4) H5).bind fun t6=>some (Out.ret (A.tup [t6,A.v (.bool true)]),H5) else none) (fun i3 s3=>none) (fun a3 =>
 (aLoad prog 44 (lk a3 4) (St.H a3)).bind fun t4=>some (Out.ret (A.tup [t4,lk a3 5]),St.H a3)) (fun i3 s3=>some (Out.pan i3,St.H s3)) n (St.mk [(2,r0.1),(4,r1.1),(5,A.v (.bool false)),(10,x1),(11,t2),(12,A.v (.int .i64 0))] r1.2):=by kernel_rfl
theorem e28 (n lo:Nat) (x0:A) (H:Heap):evCall1 (cx C) call rg n 28 [x0] H lo =
 (aBox x0 H).bind fun r0=>some (Out.ret (A.fn (Fn.func 55) [] [r0.1]),r0.2):=by kernel_rfl
theorem e29 (n lo:Nat) (x0:A) (H:Heap):evCall1 (cx C) call rg n 29 [x0] H lo =
 (aBuild prog 98 [(0,A.v (.int .i64 3))]).bind fun t0 =>
 (aAlloc prog 98 H).bind fun r1 =>
 (aStore prog 98 r1.1 (stV r1.1 r1.2 t0) r1.2 lo).bind fun H2 =>
 (aLen prog 78 x0 H2).bind fun t3=>loopR (cx C) call rg n 29 lo 0 (List.length (actC lo 3 5 r1.1 H2)) (fun i4 s4=>bif Nat.beq i4 0 then
 (aLoad prog 98 (lk s4 3) (St.H s4)).bind fun t5 =>
 (C 56 [snap (St.H s4) t5]).bind fun t6 =>
 (aExtract t6 0).bind fun t7 =>
 (aExtract t6 1).bind fun t8=>some (Out.ret t7,St.H s4) else none) (fun i4 s4=>none) (fun a4=>some (Out.ret (lk a4 2),St.H a4)) (fun i4 s4=>some (Out.pan i4,St.H s4)) n (St.mk [(2,A.imm [] true),(3,r1.1),(9,x0),(10,t3),(11,A.v (.int .i64 0))] (actC lo 3 5 r1.1 H2)):=by kernel_rfl
theorem e32 (n lo:Nat) (x0:A) (H:Heap):evCall1 (cx C) call rg n 32 [x0] H lo =
 (aAlloc prog 72 H).bind fun r0 =>
 (C 59 [snap r0.2 x0]).bind fun t1 =>
 (aExtract t1 0).bind fun t2 =>
 (aExtract t1 1).bind fun t3 =>
 (aAlloc prog 98 r0.2).bind fun r4 =>
 (aStore prog 98 r4.1 (stV r4.1 r4.2 t2) r4.2 lo).bind fun H5 =>
 (aBin prog .neq 31 false true t3 (A.v (.int .i64 0))).bind fun t6 =>
 (bIf t6 (some [A.v (.bool true),ud,ud,ud]) ((aFieldAddr prog 98 r4.1 0 H5).bind fun t7 =>
 (aLoad prog 3 t7 H5).bind fun t8 =>
 (aBin prog .neq 3 false true t8 (A.v (.int .i64 3))).bind fun t9=>some [t9,t9,t8,t7])).bind fun l7=>unc l7 fun u8 l8=>unc l8 fun u9 l9=>unc l9 fun u10 l10=>unc l10 fun u11 l11=>bIfN u8 ((aLoad prog 72 r0.1 H5).bind fun t12 =>
 (aStore prog 72 r0.1 (stV r0.1 H5 t12) H5 lo).bind fun H13 =>
 (aLoad prog 72 r0.1 H13).bind fun t14=>some (Out.ret (A.tup [t14,A.v (.bool false)]),H13)) ((aFieldAddr prog 98 r4.1 3 H5).bind fun t12 =>
 (aLoad prog 96 t12 H5).bind fun t13 =>
 (aLen prog 96 t13 H5).bind fun t14=>loopR (cx C) call rg n 32 lo 0 (List.length (seed1 1 (St.H (St.mk [(2,r0.1),(3,A.v (.bool false)),(6,A.imm [] true),(23,t13),(24,t14),(25,A.v (.int .i64 0))] H5)) (look (St.fr (St.mk [(2,r0.1),(3,A.v (.bool false)),(6,A.imm [] true),(23,t13),(24,t14),(25,A.v (.int .i64 0))] H5)) (Prod.fst (6,0,2)))).2) (fun i15 s15=>bif Nat.beq i15 0 then
 (aLen prog 78 (lk s15 6) (St.H s15)).bind fun t16 =>
 (aBin prog .eql 3 false true t16 (A.v (.int .i64 4))).bind fun t17 =>
 (bIf t17 ((aIndexAddr prog 78 (lk s15 6) (A.v (.int .i64 0)) (St.H s15)).bind fun t18 =>
 (aLoad prog 3 t18 (St.H s15)).bind fun t19 =>
 (aBin prog .eql 3 false true t19 (A.v (.int .i64 1))).bind fun t20=>some [t20,t20,t19,t18,lk s15 6]) (some [A.v (.bool false),ud,ud,ud,ud])).bind fun l18=>unc l18 fun u19 l19=>unc l19 fun u20 l20=>unc l20 fun u21 l21=>unc l21 fun u22 l22=>unc l22 fun u23 l23=>bIfN u19 ((aIndexAddr prog 78 (lk s15 6) (A.v (.int .i64 1)) (St.H s15)).bind fun t24 =>
 (aLoad prog 3 t24 (St.H s15)).bind fun t25 =>
 (aIndexAddr prog 78 (lk s15 6) (A.v (.int .i64 2)) (St.H s15)).bind fun t26 =>
 (aLoad prog 3 t26 (St.H s15)).bind fun t27 =>
 (aIndexAddr prog 78 (lk s15 6) (A.v (.int .i64 3)) (St.H s15)).bind fun t28 =>
 (aLoad prog 3 t28 (St.H s15)).bind fun t29 =>
 (aBuild prog 59 [(0,t25),(1,t27),(2,t29)]).bind fun t30 =>
 (aBuild prog 72 [(0,A.v (.bool true)),(1,t30)]).bind fun t31 =>
 (aStore prog 72 (lk s15 2) (stV (lk s15 2) (St.H s15) t31) (St.H s15) lo).bind fun H32 =>
 (aLoad prog 72 (lk s15 2) H32).bind fun t33=>some (Out.ret (A.tup [t33,A.v (.bool true)]),H32)) ((aLen prog 78 (lk s15 6) (St.H s15)).bind fun t24 =>
 (aBin prog .eql 3 false true t24 (A.v (.int .i64 3))).bind fun t25 =>
 (bIf t25 ((aIndexAddr prog 78 (lk s15 6) (A.v (.int .i64 0)) (St.H s15)).bind fun t26 =>
 (aLoad prog 3 t26 (St.H s15)).bind fun t27 =>
 (aBin prog .eql 3 false true t27 (A.v (.int .i64 2))).bind fun t28=>some [t28,t28,t27,t26,lk s15 6]) (some [A.v (.bool false),ud,ud,ud,ud])).bind fun l26=>unc l26 fun u27 l27=>unc l27 fun u28 l28=>unc l28 fun u29 l29=>unc l29 fun u30 l30=>unc l30 fun u31 l31=>bIfN u27 ((aIndexAddr prog 78 (lk s15 6) (A.v (.int .i64 1)) (St.H s15)).bind fun t32 =>
 (aLoad prog 3 t32 (St.H s15)).bind fun t33 =>
 (aIndexAddr prog 78 (lk s15 6) (A.v (.int .i64 2)) (St.H s15)).bind fun t34 =>
 (aLoad prog 3 t34 (St.H s15)).bind fun t35 =>
 (aBuild prog 62 [(0,t33),(1,t35)]).bind fun t36 =>
 (aBuild prog 72 [(2,t36)]).bind fun t37 =>
 (aStore prog 72 (lk s15 2) (stV (lk s15 2) (St.H s15) t37) (St.H s15) lo).bind fun H38 =>
 (aLoad prog 72 (lk s15 2) H38).bind fun t39=>some (Out.ret (A.tup [t39,A.v (.bool true)]),H38)) ((aLoad prog 72 (lk s15 2) (St.H s15)).bind fun t32 =>
 (aStore prog 72 (lk s15 2) (stV (lk s15 2) (St.H s15) t32) (St.H s15) lo).bind fun H33 =>
 (aLoad prog 72 (lk s15 2) H33).bind fun t34=>some (Out.ret (A.tup [t34,A.v (.bool false)]),H33))) else none) (fun i15 s15=>none) (fun a15 =>
 (aLoad prog 72 (lk a15 2) (St.H a15)).bind fun t16=>some (Out.ret (A.tup [t16,lk a15 3]),St.H a15)) (fun i15 s15=>some (Out.pan i15,St.H s15)) n (St.mk [(2,r0.1),(3,A.v (.bool false)),(6,(seed1 1 (St.H (St.mk [(2,r0.1),(3,A.v (.bool false)),(6,A.imm [] true),(23,t13),(24,t14),(25,A.v (.int .i64 0))] H5)) (look (St.fr (St.mk [(2,r0.1),(3,A.v (.bool false)),(6,A.imm [] true),(23,t13),(24,t14),(25,A.v (.int .i64 0))] H5)) (Prod.fst (6,0,2)))).1),(23,t13),(24,t14),(25,A.v (.int .i64 0))] (seed1 1 (St.H (St.mk [(2,r0.1),(3,A.v (.bool false)),(6,A.imm [] true),(23,t13),(24,t14),(25,A.v (.int .i64 0))] H5)) (look (St.fr (St.mk [(2,r0.1),(3,A.v (.bool false)),(6,A.imm [] true),(23,t13),(24,t14),(25,A.v (.int .i64 0))] H5)) (Prod.fst (6,0,2)))).2)):=by kernel_rfl
theorem e33 (n lo:Nat) (x0 x1:A) (H:Heap):evCall1 (cx C) call rg n 33 [x0,x1] H lo =
 (aBox x0 H).bind fun r0 =>
 (aBox x1 r0.2).bind fun r1 =>
 (aAlloc prog 26 r1.2).bind fun r2 =>
 (aFieldAddr prog 72 r1.1 0 r2.2).bind fun t3 =>
 (aLoad prog 4 t3 r2.2).bind fun t4=>bIfN t4 ((aFieldAddr prog 26 r0.1 1 r2.2).bind fun t5 =>
 (aLoad prog 22 t5 r2.2).bind fun t6 =>
 (aFieldAddr prog 72 r1.1 1 r2.2).bind fun t7 =>
 (aLoad prog 59 t7 r2.2).bind fun t8=>bif bif flatA t8 then true else false then
 (aBuildSlice prog 22 1 [(0,frzA r2.2 t8)]).bind fun t9=>bif bif apartC 0 t7 then bif apartC 0 r1.1 then true else false else false then
 (call 60 [t6] r2.2 (List.length r2.2)).bind fun H10=>outK H10.1 (fun a11 =>
 (aAppend prog 22 22 false a11 t9 H10.2 lo).bind fun r12 =>
 (aFieldAddr prog 26 r0.1 1 r12.2).bind fun t13 =>
 (aStore prog 22 t13 (stV t13 r12.2 r12.1) r12.2 lo).bind fun H14 =>
 (aFieldAddr prog 26 r0.1 3 H14).bind fun t15 =>
 (aLoad prog 24 t15 H14).bind fun t16 =>
 (aFieldAddr prog 72 r1.1 0 H14).bind fun t17 =>
 (aLoad prog 4 t17 H14).bind fun t18=>bif bif flatA t18 then true else false then
 (aBuildSlice prog 24 1 [(0,frzA H14 t18)]).bind fun t19=>bif bif apartC 0 t17 then bif apartC 0 r1.1 then true else false else false then
 (call 62 [t16] H14 (List.length H14)).bind fun H20=>outK H20.1 (fun a21 =>
 (aAppend prog 24 24 false a21 t19 H20.2 lo).bind fun r22 =>
 (aFieldAddr prog 26 r0.1 3 r22.2).bind fun t23 =>
 (aStore prog 24 t23 (stV t23 r22.2 r22.1) r22.2 lo).bind fun H24 =>
 (aLoad prog 26 r0.1 H24).bind fun t25 =>
 (aStore prog 26 r2.1 (stV r2.1 H24 t25) H24 lo).bind fun H26 =>
 (aLoad prog 26 r2.1 H26).bind fun t27=>some (Out.ret t27,H26)) fun a21=>some (Out.pan a21,H20.2) else none else none) fun a11=>some (Out.pan a11,H10.2) else none else none) ((aFieldAddr prog 26 r0.1 2 r2.2).bind fun t5 =>
 (aLoad prog 23 t5 r2.2).bind fun t6 =>
 (aFieldAddr prog 72 r1.1 2 r2.2).bind fun t7 =>
 (aLoad prog 62 t7 r2.2).bind fun t8=>bif bif flatA t8 then true else false then
 (aBuildSlice prog 23 1 [(0,frzA r2.2 t8)]).bind fun t9=>bif bif apartC 0 t7 then bif apartC 0 r1.1 then true else false else false then
 (call 61 [t6] r2.2 (List.length r2.2)).bind fun H10=>outK H10.1 (fun a11 =>
 (aAppend prog 23 23 false a11 t9 H10.2 lo).bind fun r12 =>
 (aFieldAddr prog 26 r0.1 2 r12.2).bind fun t13 =>
 (aStore prog 23 t13 (stV t13 r12.2 r12.1) r12.2 lo).bind fun H14 =>
 (aFieldAddr prog 26 r0.1 3 H14).bind fun t15 =>
 (aLoad prog 24 t15 H14).bind fun t16 =>
 (aFieldAddr prog 72 r1.1 0 H14).bind fun t17 =>
 (aLoad prog 4 t17 H14).bind fun t18=>bif bif flatA t18 then true else false then
 (aBuildSlice prog 24 1 [(0,frzA H14 t18)]).bind fun t19=>bif bif apartC 0 t17 then bif apartC 0 r1.1 then true else false else false then
 (call 62 [t16] H14 (List.length H14)).bind fun H20=>outK H20.1 (fun a21 =>
 (aAppend prog 24 24 false a21 t19 H20.2 lo).bind fun r22 =>
 (aFieldAddr prog 26 r0.1 3 r22.2).bind fun t23 =>
 (aStore prog 24 t23 (stV t23 r22.2 r22.1) r22.2 lo).bind fun H24 =>
 (aLoad prog 26 r0.1 H24).bind fun t25 =>
 (aStore prog 26 r2.1 (stV r2.1 H24 t25) H24 lo).bind fun H26 =>
 (aLoad prog 26 r2.1 H26).bind fun t27=>some (Out.ret t27,H26)) fun a21=>some (Out.pan a21,H20.2) else none else none) fun a11=>some (Out.pan a11,H10.2) else none else none):=by kernel_rfl
theorem e37 (n lo:Nat) (x0:A) (H:Heap):evCall1 (cx C) call rg n 37 [x0] H lo =
 (aBin prog .eql 20 false true x0 (A.v Value.nilIface)).bind fun t0=>bIfN t0 (some (Out.ret (A.v (.int .i64 0)),H)) ((aAssert prog x0 31 true).bind fun t1 =>
 (aExtract t1 1).bind fun t2 =>
 (aExtract t1 0).bind fun t3=>bIfN t2 (some (Out.ret t3,H)) (panK x0 fun a4=>some (Out.pan a4,H))):=by kernel_rfl
theorem e46 (n lo:Nat) (x0 x1:A) (H:Heap):evCall1 (cx C) call rg n 46 [x0,x1] H lo =
 (aUn prog UnOp.not x0).bind fun t0=>bIfN t0 ((aIfc prog 31 x1).bind fun t1=>panK t1 fun a2=>some (Out.pan a2,H)) (some (Out.ret (A.tup []),H)):=by kernel_rfl
theorem e47 (n lo:Nat) (x0 x1 x2:A) (H:Heap):evCall1 (cx C) call rg n 47 [x0,x1,x2] H lo =
 (aBin prog .leq 3 false false x1 x0).bind fun t0 =>
 (bIf t0 ((aBin prog .leq 3 false false x0 x2).bind fun t1=>some [t1,t1,x2,x0]) (some [A.v (.bool false),ud,ud,ud])).bind fun l1=>unc l1 fun u2 l2=>unc l2 fun u3 l3=>unc l3 fun u4 l4=>unc l4 fun u5 l5=>some (Out.ret u2,H):=by kernel_rfl
theorem e50 (n lo:Nat) (x0 x1:A) (H:Heap):evCall1 (cx C) call rg n 50 [x0,x1] H lo =
 (aBox x0 H).bind fun r0 =>
 (aBox x1 r0.2).bind fun r1 =>
 (aFieldAddr prog 59 r1.1 0 r1.2).bind fun t2 =>
 (aLoad prog 3 t2 r1.2).bind fun t3 =>
 (aFieldAddr prog 26 r0.1 1 r1.2).bind fun t4 =>
 (aLoad prog 22 t4 r1.2).bind fun t5 =>
 (aLen prog 22 t5 r1.2).bind fun t6 =>
 (aBin prog .eql 3 false false t3 t6).bind fun t7 =>
 (bIf t7 ((aFieldAddr prog 59 r1.1 1 r1.2).bind fun t8 =>
 (aLoad prog 3 t8 r1.2).bind fun t9 =>
 (C 47 [snap r1.2 t9,snap r1.2 (A.v (.int .i64 0)),snap r1.2 (A.v (.int .i64 1))]).bind fun t10=>some [t10,t10,t9,t8]) (some [A.v (.bool false),ud,ud,ud])).bind fun l8=>unc l8 fun u9 l9=>unc l9 fun u10 l10=>unc l10 fun u11 l11=>unc l11 fun u12 l12 =>
 (gIf u9 true ((aFieldAddr prog 59 r1.1 2 r1.2).bind fun t13 =>
 (aLoad prog 3 t13 r1.2).bind fun t14 =>
 (aLoad prog 26 r0.1 r1.2).bind fun t15 =>
 (C 74 [snap r1.2 t15]).bind fun t16=>some [t16,t15,t14,t13]) (some [ud,ud,ud,ud])).bind fun l13=>unc l13 fun u14 l14=>unc l14 fun u15 l15=>unc l15 fun u16 l16=>unc l16 fun u17 l17 =>
 (bIf u9 ((aBin prog .gtr 3 false false u16 u14).bind fun t18=>some [t18,t18]) (some [A.v (.bool false),ud])).bind fun l18=>unc l18 fun u19 l19=>unc l19 fun u20 l20 =>
 (bIf u19 ((aFieldAddr prog 59 r1.1 2 r1.2).bind fun t21 =>
 (aLoad prog 3 t21 r1.2).bind fun t22 =>
 (aBin prog .leq 3 false true t22 (A.v (.int .i64 4096))).bind fun t23=>some [t23,t23,t22,t21]) (some [A.v (.bool false),ud,ud,ud])).bind fun l21=>unc l21 fun u22 l22=>unc l22 fun u23 l23=>unc l23 fun u24 l24=>unc l24 fun u25 l25=>some (Out.ret u22,r1.2):=by kernel_rfl
theorem e51 (n lo:Nat) (x0 x1:A) (H:Heap):evCall1 (cx C) call rg n 51 [x0,x1] H lo =
 (aBox x0 H).bind fun r0 =>
 (aBox x1 r0.2).bind fun r1 =>
 (aFieldAddr prog 26 r0.1 2 r1.2).bind fun t2 =>
 (aLoad prog 23 t2 r1.2).bind fun t3 =>
 (aLen prog 23 t3 r1.2).bind fun t4 =>
 (aLoad prog 26 r0.1 r1.2).bind fun t5 =>
 (aFieldAddr prog 62 r1.1 0 r1.2).bind fun t6 =>
 (aLoad prog 3 t6 r1.2).bind fun t7 =>
 (C 75 [snap r1.2 t5,snap r1.2 t7]).bind fun t8 =>
 (gIf t8 true ((aBin prog .eql 3 false true t4 (A.v (.int .i64 0))).bind fun t9 =>
 (gIf t9 false ((aFieldAddr prog 62 r1.1 0 r1.2).bind fun t10 =>
 (aLoad prog 3 t10 r1.2).bind fun t11 =>
 (aFieldAddr prog 26 r0.1 2 r1.2).bind fun t12 =>
 (aLoad prog 23 t12 r1.2).bind fun t13 =>
 (aBin prog .sub 3 false true t4 (A.v (.int .i64 1))).bind fun t14 =>
 (aIndexAddr prog 23 t13 t14 r1.2).bind fun t15 =>
 (aFieldAddr prog 62 t15 0 r1.2).bind fun t16 =>
 (aLoad prog 3 t16 r1.2).bind fun t17=>some [t17,t16,t15,t14,t4,t13,t12,t11,t10]) (some [ud,ud,ud,ud,ud,ud,ud,ud,ud])).bind fun l10=>unc l10 fun u11 l11=>unc l11 fun u12 l12=>unc l12 fun u13 l13=>unc l13 fun u14 l14=>unc l14 fun u15 l15=>unc l15 fun u16 l16=>unc l16 fun u17 l17=>unc l17 fun u18 l18=>unc l18 fun u19 l19=>some [u11,u12,u13,u14,u15,u16,u17,u18,u19,t9,t9,t4]) (some [ud,ud,ud,ud,ud,ud,ud,ud,ud,ud,ud,ud])).bind fun l9=>unc l9 fun u10 l10=>unc l10 fun u11 l11=>unc l11 fun u12 l12=>unc l12 fun u13 l13=>unc l13 fun u14 l14=>unc l14 fun u15 l15=>unc l15 fun u16 l16=>unc l16 fun u17 l17=>unc l17 fun u18 l18=>unc l18 fun u19 l19=>unc l19 fun u20 l20=>unc l20 fun u21 l21 =>
 (gIf u19 false ((aBin prog .gtr 3 false false u17 u10).bind fun t22=>some [t22]) (some [ud])).bind fun l22=>unc l22 fun u23 l23 =>
 (bIf t8 ((bIf u19 (some (A.v (.bool true))) (some u23)).bind fun t24=>some [t24,t24]) (some [A.v (.bool false),ud])).bind fun l24=>unc l24 fun u25 l25=>unc l25 fun u26 l26 =>
 (bIf u25 ((aFieldAddr prog 62 r1.1 1 r1.2).bind fun t27 =>
 (aLoad prog 3 t27 r1.2).bind fun t28 =>
 (C 47 [snap r1.2 t28,snap r1.2 (A.v (.int .i64 1)),snap r1.2 (A.v (.int .i64 8))]).bind fun t29=>some [t29,t29,t28,t27]) (some [A.v (.bool false),ud,ud,ud])).bind fun l27=>unc l27 fun u28 l28=>unc l28 fun u29 l29=>unc l29 fun u30 l30=>unc l30 fun u31 l31=>some (Out.ret u28,r1.2):=by kernel_rfl
theorem e53 (n lo:Nat) (x0 x1:A) (H:Heap):evCall1 (cx C) call rg n 53 [x0,x1] H lo =
 (aBox x0 H).bind fun r0 =>
 (aAlloc prog 26 r0.2).bind fun r1 =>
 (call 37 [x1] r1.2 lo).bind fun H2=>outK H2.1 (fun a3 =>
 (aBin prog .neq 31 false true a3 (A.v (.int .i64 0))).bind fun t4=>bIfN t4 ((aBuild prog 26 []).bind fun t5 =>
 (aStore prog 26 r1.1 (stV r1.1 H2.2 t5) H2.2 lo).bind fun H6 =>
 (aLoad prog 26 r1.1 H6).bind fun t7=>some (Out.ret (A.tup [t7,a3]),H6)) ((aLoad prog 26 r0.1 H2.2).bind fun t5 =>
 (aStore prog 26 r1.1 (stV r1.1 H2.2 t5) H2.2 lo).bind fun H6 =>
 (aLoad prog 26 r1.1 H6).bind fun t7=>some (Out.ret (A.tup [t7,A.v (.int .i64 0)]),H6))) fun a3=>some (Out.pan a3,H2.2):=by kernel_rfl
theorem e55 (n lo:Nat) (x0 x1:A) (H:Heap):evCall1 (cx C) call rg n 55 [x0,x1] H lo =
 (aFieldAddr prog 26 x1 1 H).bind fun t0 =>
 (aLoad prog 22 t0 H).bind fun t1 =>
 (aFieldAddr prog 26 x1 2 H).bind fun t2 =>
 (aLoad prog 23 t2 H).bind fun t3 =>
 (aFieldAddr prog 26 x1 3 H).bind fun t4 =>
 (aLoad prog 24 t4 H).bind fun t5 =>
 (aLen prog 24 t5 H).bind fun t6=>loopR (cx C) call rg n 55 lo 0 (List.length H) (fun i7 s7=>bif Nat.beq i7 0 then some (Out.ret (A.tup []),St.H s7) else none) (fun i7 s7=>none) (fun a7=>some (Out.ret (A.tup []),St.H a7)) (fun i7 s7=>some (Out.pan i7,St.H s7)) n (St.mk [(0,x0),(3,t1),(4,t3),(13,t5),(14,t6),(15,A.v (.int .i64 0))] H):=by kernel_rfl
theorem e56 (n lo:Nat) (x0:A) (H:Heap):evCall1 (cx C) call rg n 56 [x0] H lo =
 (aBox x0 H).bind fun r0 =>
 (aLoad prog 98 r0.1 r0.2).bind fun t1 =>
 (C 76 [snap r0.2 t1]).bind fun t2 =>
 (aBin prog .neq 31 false true t2 (A.v (.int .i64 0))).bind fun t3=>bIfN t3 (some (Out.ret (A.tup [A.imm [] true,t2]),r0.2)) ((aFieldAddr prog 98 r0.1 0 r0.2).bind fun t4 =>
 (aLoad prog 3 t4 r0.2).bind fun t5 =>
 (aLoad prog 98 r0.1 r0.2).bind fun t6=>bif bif apartC 0 r0.1 then bif apartC 0 t4 then bif apartC 0 r0.1 then true else false else false else false then
 (call 77 [] r0.2 (List.length r0.2)).bind fun H7=>outK H7.1 (fun a8 =>
 (aNil a8 H7.2).bind fun t9 =>
 (aIndexAddr prog 138 t9 t5 H7.2).bind fun t10 =>
 (aFieldAddr prog 121 t10 0 H7.2).bind fun t11 =>
 (aLoad prog 119 t11 H7.2).bind fun t12=>dynCall (cx C) call t12 [A.imm [] true,t6] H7.2 lo (fun i13 h13=>some (Out.ret (A.tup [i13,A.v (.int .i64 0)]),h13)) fun i13 h13=>some (Out.pan i13,h13)) fun a8=>some (Out.pan a8,H7.2) else none):=by kernel_rfl
theorem e59 (n lo:Nat) (x0:A) (H:Heap):evCall1 (cx C) call rg n 59 [x0] H lo =
 (aAlloc prog 98 H).bind fun r0 =>
 (aAlloc prog 31 r0.2).bind fun r1 =>
 (aBuild prog 128 [(0,x0)]).bind fun t2 =>
 (aBox t2 r1.2).bind fun r3 =>
 (call 82 [r3.1,A.v (.int .i64 0)] r3.2 lo).bind fun H4=>outK H4.1 (fun a5 =>
 (aStore prog 98 r0.1 (stV r0.1 H4.2 a5) H4.2 lo).bind fun H6 =>
 (aNil r3.1 H6).bind fun t7 =>
 (aFieldAddr prog 128 t7 0 H6).bind fun t8 =>
 (aLoad prog 30 t8 H6).bind fun t9 =>
 (aLen prog 30 t9 H6).bind fun t10 =>
 (aBin prog .eql 3 false true t10 (A.v (.int .i64 0))).bind fun t11 =>
 (call 83 [r3.1,t11] H6 lo).bind fun H12=>outK H12.1 (fun a13 =>
 (aLoad prog 98 r0.1 H12.2).bind fun t14 =>
 (aStore prog 98 r0.1 (stV r0.1 H12.2 t14) H12.2 lo).bind fun H15 =>
 (aStore prog 31 r1.1 (stV r1.1 H15 (A.v (.int .i64 0))) H15 lo).bind fun H16 =>
 (aBin prog .neq 20 false true (A.v Value.nilIface) (A.v Value.nilIface)).bind fun t17=>bIfN t17 ((aBuild prog 98 []).bind fun t18 =>
 (aAssert prog (A.v Value.nilIface) 31 false).bind fun t19 =>
 (aStore prog 98 r0.1 (stV r0.1 H16 t18) H16 lo).bind fun H20 =>
 (aStore prog 31 r1.1 (stV r1.1 H20 t19) H20 lo).bind fun H21 =>
 (aLoad prog 98 r0.1 H21).bind fun t22 =>
 (aLoad prog 31 r1.1 H21).bind fun t23=>some (Out.ret (A.tup [t22,t23]),H21)) ((aLoad prog 98 r0.1 H16).bind fun t18 =>
 (aLoad prog 31 r1.1 H16).bind fun t19=>some (Out.ret (A.tup [t18,t19]),H16))) fun a13 =>
 (aBin prog .neq 20 false true a13 (A.v Value.nilIface)).bind fun t14=>bIfN t14 ((aBuild prog 98 []).bind fun t15 =>
 (aAssert prog a13 31 false).bind fun t16 =>
 (aStore prog 98 r0.1 (stV r0.1 H12.2 t15) H12.2 lo).bind fun H17 =>
 (aStore prog 31 r1.1 (stV r1.1 H17 t16) H17 lo).bind fun H18 =>
 (aLoad prog 98 r0.1 H18).bind fun t19 =>
 (aLoad prog 31 r1.1 H18).bind fun t20=>some (Out.ret (A.tup [t19,t20]),H18)) ((aLoad prog 98 r0.1 H12.2).bind fun t15 =>
 (aLoad prog 31 r1.1 H12.2).bind fun t16=>some (Out.ret (A.tup [t15,t16]),H12.2))) fun a5 =>
 (aBin prog .neq 20 false true a5 (A.v Value.nilIface)).bind fun t6=>bIfN t6 ((aBuild prog 98 []).bind fun t7 =>
 (aAssert prog a5 31 false).bind fun t8 =>
 (aStore prog 98 r0.1 (stV r0.1 H4.2 t7) H4.2 lo).bind fun H9 =>
 (aStore prog 31 r1.1 (stV r1.1 H9 t8) H9 lo).bind fun H10 =>
 (aLoad prog 98 r0.1 H10).bind fun t11 =>
 (aLoad prog 31 r1.1 H10).bind fun t12=>some (Out.ret (A.tup [t11,t12]),H10)) ((aLoad prog 98 r0.1 H4.2).bind fun t7 =>
 (aLoad prog 31 r1.1 H4.2).bind fun t8=>some (Out.ret (A.tup [t7,t8]),H4.2)):=by kernel_rfl
theorem e60 (n lo:Nat) (x0:A) (H:Heap):evCall1 (cx C) call rg n 60 [x0] H lo =
 (aLen prog 22 x0 H).bind fun t0 =>
 (aLen prog 22 x0 H).bind fun t1 =>
 (aSlice prog 22 x0 none (some t0) (some t1) H).bind fun t2=>some (Out.ret t2,H):=by kernel_rfl
theorem e61 (n lo:Nat) (x0:A) (H:Heap):evCall1 (cx C) call rg n 61 [x0] H lo =
 (aLen prog 23 x0 H).bind fun t0 =>
 (aLen prog 23 x0 H).bind fun t1 =>
 (aSlice prog 23 x0 none (some t0) (some t1) H).bind fun t2=>some (Out.ret t2,H):=by kernel_rfl
theorem e62 (n lo:Nat) (x0:A) (H:Heap):evCall1 (cx C) call rg n 62 [x0] H lo =
 (aLen prog 24 x0 H).bind fun t0 =>
 (aLen prog 24 x0 H).bind fun t1 =>
 (aSlice prog 24 x0 none (some t0) (some t1) H).bind fun t2=>some (Out.ret t2,H):=by kernel_rfl
theorem e74 (n lo:Nat) (x0:A) (H:Heap):evCall1 (cx C) call rg n 74 [x0] H lo =
 (aBox x0 H).bind fun r0 =>
 (aFieldAddr prog 26 r0.1 1 r0.2).bind fun t1 =>
 (aLoad prog 22 t1 r0.2).bind fun t2 =>
 (aLen prog 22 t2 r0.2).bind fun t3 =>
 (aBin prog .gtr 3 false true t3 (A.v (.int .i64 0))).bind fun t4=>bIfN t4 ((aFieldAddr prog 26 r0.1 1 r0.2).bind fun t5 =>
 (aLoad prog 22 t5 r0.2).bind fun t6 =>
 (aBin prog .sub 3 false true t3 (A.v (.int .i64 1))).bind fun t7 =>
 (aIndexAddr prog 22 t6 t7 r0.2).bind fun t8 =>
 (aFieldAddr prog 59 t8 2 r0.2).bind fun t9 =>
 (aLoad prog 3 t9 r0.2).bind fun t10=>some (Out.ret t10,r0.2)) (some (Out.ret (A.v (.int .i64 0)),r0.2)):=by kernel_rfl
theorem e75 (n lo:Nat) (x0 x1:A) (H:Heap):evCall1 (cx C) call rg n 75 [x0,x1] H lo =
 (aBox x0 H).bind fun r0 =>
 (aBox x1 r0.2).bind fun r1 =>
 (aFieldAddr prog 26 r0.1 1 r1.2).bind fun t2 =>
 (aLoad prog 22 t2 r1.2).bind fun t3 =>
 (call 89 [t3,A.fn (Fn.func 90) [] [r1.1]] r1.2 lo).bind fun H4=>outK H4.1 (fun a5 =>
 (aLoad prog 3 r1.1 H4.2).bind fun t6 =>
 (aBin prog .geq 3 false true t6 (A.v (.int .i64 0))).bind fun t7 =>
 (bIf t7 ((aBin prog .geq 3 false true a5 (A.v (.int .i64 0))).bind fun t8=>some [t8,t8,a5]) (some [A.v (.bool false),ud,ud])).bind fun l8=>unc l8 fun u9 l9=>unc l9 fun u10 l10=>unc l10 fun u11 l11 =>
 (gIf u9 true ((aFieldAddr prog 26 r0.1 1 H4.2).bind fun t12 =>
 (aLoad prog 22 t12 H4.2).bind fun t13 =>
 (aIndexAddr prog 22 t13 a5 H4.2).bind fun t14 =>
 (aFieldAddr prog 59 t14 1 H4.2).bind fun t15 =>
 (aLoad prog 3 t15 H4.2).bind fun t16 =>
 (aFieldAddr prog 26 r0.1 0 H4.2).bind fun t17 =>
 (aLoad prog 3 t17 H4.2).bind fun t18=>some [t18,t17,t16,t15,t14,a5,t13,t12]) (some [ud,ud,ud,ud,ud,ud,ud,ud])).bind fun l12=>unc l12 fun u13 l13=>unc l13 fun u14 l14=>unc l14 fun u15 l15=>unc l15 fun u16 l16=>unc l16 fun u17 l17=>unc l17 fun u18 l18=>unc l18 fun u19 l19=>unc l19 fun u20 l20 =>
 (bIf u9 ((aBin prog .eql 3 false false u15 u13).bind fun t21=>some [t21,t21]) (some [A.v (.bool false),ud])).bind fun l21=>unc l21 fun u22 l22=>unc l22 fun u23 l23=>some (Out.ret u22,H4.2)) fun a5=>some (Out.pan a5,H4.2):=by kernel_rfl
theorem e76 (n lo:Nat) (x0:A) (H:Heap):evCall1 (cx C) call rg n 76 [x0] H lo =
 (aBox x0 H).bind fun r0 =>
 (aLoad prog 98 r0.1 r0.2).bind fun t1 =>
 (C 91 [snap r0.2 t1]).bind fun t2 =>
 (aExtract t2 0).bind fun t3 =>
 (aExtract t2 1).bind fun t4 =>
 (aUn prog UnOp.not t4).bind fun t5=>bIfN t5 (some (Out.ret (A.v (.int .i64 1)),r0.2)) ((aBin prog .gtr 3 false true t3 (A.v (.int .i64 16))).bind fun t6=>bIfN t6 (some (Out.ret (A.v (.int .i64 2)),r0.2)) (some (Out.ret (A.v (.int .i64 0)),r0.2))):=by kernel_rfl
theorem e77 (n lo:Nat) (H:Heap):evCall1 (cx C) call rg n 77 [] H lo =
 (aBuild prog 138 []).bind fun t0 =>
 (aBox t0 H).bind fun r1 =>
 (aAlloc prog 122 r1.2).bind fun r2 =>
 (aStore prog 122 r2.1 (stV r2.1 r2.2 r1.1) r2.2 lo).bind fun H3 =>
 (aLoad prog 122 r2.1 H3).bind fun t4 =>
 (aNil t4 H3).bind fun t5 =>
 (aIndexAddr prog 138 t5 (A.v (.int .i64 1)) H3).bind fun t6 =>
 (aFieldAddr prog 121 t6 0 H3).bind fun t7 =>
 (aStore prog 119 t7 (stV t7 H3 (A.fn (Fn.func 92) [] [])) H3 lo).bind fun H8 =>
 (aLoad prog 122 r2.1 H8).bind fun t9 =>
 (aNil t9 H8).bind fun t10 =>
 (aIndexAddr prog 138 t10 (A.v (.int .i64 2)) H8).bind fun t11 =>
 (aFieldAddr prog 121 t11 0 H8).bind fun t12 =>
 (aStore prog 119 t12 (stV t12 H8 (A.fn (Fn.func 95) [] [])) H8 lo).bind fun H13 =>
 (aLoad prog 122 r2.1 H13).bind fun t14 =>
 (aNil t14 H13).bind fun t15 =>
 (aIndexAddr prog 138 t15 (A.v (.int .i64 3)) H13).bind fun t16 =>
 (aFieldAddr prog 121 t16 0 H13).bind fun t17 =>
 (aStore prog 119 t17 (stV t17 H13 (A.fn (Fn.func 96) [] [r2.1])) H13 lo).bind fun H18 =>
 (aLoad prog 122 r2.1 H18).bind fun t19=>some (Out.ret t19,H18):=by kernel_rfl
theorem e82 (n lo:Nat) (x0 x1:A) (H:Heap):evCall1 (cx C) call rg n 82 [x0,x1] H lo =
 (aAlloc prog 98 H).bind fun r0 =>
 (call 101 [x0,A.v (.int .i64 1)] r0.2 lo).bind fun H1=>outK H1.1 (fun a2 =>
 (aIndexAddr prog 30 a2 (A.v (.int .i64 0)) H1.2).bind fun t3 =>
 (aLoad prog 5 t3 H1.2).bind fun t4 =>
 (aConvert prog 5 3 t4 H1.2).bind fun t5 =>
 (aFieldAddr prog 98 r0.1 0 H1.2).bind fun t6 =>
 (aStore prog 3 t6 (stV t6 H1.2 t5) H1.2 lo).bind fun H7 =>
 (aFieldAddr prog 98 r0.1 0 H7).bind fun t8 =>
 (aLoad prog 3 t8 H7).bind fun t9 =>
 (aBin prog .eql 3 false true t9 (A.v (.int .i64 1))).bind fun t10=>bIfN t10 ((call 103 [x0] H7 lo).bind fun H11=>outK H11.1 (fun a12 =>
 (C 102 [snap H11.2 a12]).bind fun t13 =>
 (aFieldAddr prog 98 r0.1 1 H11.2).bind fun t14 =>
 (aStore prog 3 t14 (stV t14 H11.2 t13) H11.2 lo).bind fun H15 =>
 (aLoad prog 98 r0.1 H15).bind fun t16 =>
 (aStore prog 98 r0.1 (stV r0.1 H15 t16) H15 lo).bind fun H17 =>
 (aLoad prog 98 r0.1 (actC lo 3 0 r0.1 H17)).bind fun t18=>some (Out.ret t18,actC lo 3 0 r0.1 H17)) fun a12=>some (Out.pan a12,H11.2)) ((aBin prog .eql 3 false true t9 (A.v (.int .i64 2))).bind fun t11=>bIfN t11 ((call 104 [x0] H7 lo).bind fun H12=>outK H12.1 (fun a13 =>
 (call 101 [x0,a13] H12.2 lo).bind fun H14=>outK H14.1 (fun a15 =>
 (aConvert prog 30 9 a15 H14.2).bind fun t16 =>
 (aFieldAddr prog 98 r0.1 2 H14.2).bind fun t17 =>
 (aStore prog 9 t17 (stV t17 H14.2 t16) H14.2 lo).bind fun H18 =>
 (aLoad prog 98 r0.1 H18).bind fun t19 =>
 (aStore prog 98 r0.1 (stV r0.1 H18 t19) H18 lo).bind fun H20 =>
 (aLoad prog 98 r0.1 (actC lo 3 0 r0.1 H20)).bind fun t21=>some (Out.ret t21,actC lo 3 0 r0.1 H20)) fun a15=>some (Out.pan a15,H14.2)) fun a13=>some (Out.pan a13,H12.2)) ((aBin prog .eql 3 false true t9 (A.v (.int .i64 3))).bind fun t12=>bIfN t12 ((aBin prog .lss 3 false true x1 (A.v (.int .i64 16))).bind fun t13 =>
 (call 83 [x0,t13] H7 lo).bind fun H14=>outK H14.1 (fun a15 =>
 (call 104 [x0] H14.2 lo).bind fun H16=>outK H16.1 (fun a17=>loopR (cx C) call rg n 82 lo 0 (List.length (actC lo 3 5 r0.1 H16.2)) (fun i18 s18=>bif Nat.beq i18 1 then
 (aLoad prog 98 (lk s18 4) (St.H s18)).bind fun t19 =>
 (aStore prog 98 (lk s18 4) (stV (lk s18 4) (St.H s18) t19) (St.H s18) lo).bind fun H20 =>
 (aLoad prog 98 (lk s18 4) (actC lo 3 0 (lk s18 4) H20)).bind fun t21=>some (Out.ret t21,actC lo 3 0 (lk s18 4) H20) else bif Nat.beq i18 0 then
 (aLoad prog 98 (lk s18 4) (St.H s18)).bind fun t19 =>
 (aStore prog 98 (lk s18 4) (stV (lk s18 4) (St.H s18) t19) (St.H s18) lo).bind fun H20 =>
 (aLoad prog 98 (lk s18 4) (actC lo 3 0 (lk s18 4) H20)).bind fun t21=>some (Out.ret t21,actC lo 3 0 (lk s18 4) H20) else none) (fun i18 s18=>none) (fun a18 =>
 (aLoad prog 98 (lk a18 4) (actC lo 3 0 (lk a18 4) (St.H a18))).bind fun t19=>some (Out.ret t19,actC lo 3 0 (lk a18 4) (St.H a18))) (fun i18 s18=>some (Out.pan i18,St.H s18)) n (St.mk [(0,x0),(1,x1),(4,r0.1),(36,a17),(37,A.v (.int .i64 0))] (actC lo 3 5 r0.1 H16.2))) fun a17=>some (Out.pan a17,H16.2)) fun a15=>some (Out.pan a15,H14.2)) ((call 83 [x0,A.v (.bool false)] H7 lo).bind fun H13=>outK H13.1 (fun a14 =>
 (aLoad prog 98 r0.1 H13.2).bind fun t15 =>
 (aStore prog 98 r0.1 (stV r0.1 H13.2 t15) H13.2 lo).bind fun H16 =>
 (aLoad prog 98 r0.1 (actC lo 3 0 r0.1 H16)).bind fun t17=>some (Out.ret t17,actC lo 3 0 r0.1 H16)) fun a14=>some (Out.pan a14,H13.2))))) fun a2=>some (Out.pan a2,H1.2):=by kernel_rfl
theorem e83 (n lo:Nat) (x0 x1:A) (H:Heap):evCall1 (cx C) call rg n 83 [x0,x1] H lo =
 (aUn prog UnOp.not x1).bind fun t0=>bIfN t0 ((aIfc prog 31 (A.v (.int .i64 10))).bind fun t1=>panK t1 fun a2=>some (Out.pan a2,H)) (some (Out.ret (A.tup []),H)):=by kernel_rfl
theorem e89 (n lo:Nat) (x0 x1:A) (H:Heap):evCall1 (cx C) call rg n 89 [x0,x1] H lo =
 (aLen prog 22 x0 H).bind fun t0=>loopR (cx C) call rg n 89 lo 0 (List.length H) (fun i1 s1=>bif Nat.beq i1 0 then some (Out.ret (A.v (.int .i64 (-1))),St.H s1) else none) (fun i1 s1=>none) (fun a1=>some (Out.ret (lk a1 4),St.H a1)) (fun i1 s1=>some (Out.pan i1,St.H s1)) n (St.mk [(0,x0),(1,x1),(4,A.v (.int .i64 0)),(7,t0),(8,A.v (.int .i64 0))] H):=by kernel_rfl
theorem e90 (n lo:Nat) (x0 x1:A) (H:Heap):evCall1 (cx C) call rg n 90 [x0,x1] H lo =
 (aBox x0 H).bind fun r0 =>
 (aLoad prog 3 x1 r0.2).bind fun t1 =>
 (aFieldAddr prog 59 r0.1 2 r0.2).bind fun t2 =>
 (aLoad prog 3 t2 r0.2).bind fun t3 =>
 (aBin prog .lss 3 false false t1 t3).bind fun t4=>some (Out.ret t4,r0.2):=by kernel_rfl
theorem e91 (n lo:Nat) (x0:A) (H:Heap):evCall1 (cx C) call rg n 91 [x0] H lo =
 (aBox x0 H).bind fun r0 =>
 (aFieldAddr prog 98 r0.1 2 r0.2).bind fun t1 =>
 (aLoad prog 9 t1 r0.2).bind fun t2 =>
 (aBin prog .eql 9 false true t2 (A.v (Value.string (ByteArray.mk #[])))).bind fun t3 =>
 (bIf t3 ((aFieldAddr prog 98 r0.1 3 r0.2).bind fun t4 =>
 (aLoad prog 96 t4 r0.2).bind fun t5 =>
 (aLen prog 96 t5 r0.2).bind fun t6 =>
 (aBin prog .eql 3 false true t6 (A.v (.int .i64 0))).bind fun t7=>some [t7,t7,t6,t5,t4]) (some [A.v (.bool false),ud,ud,ud,ud])).bind fun l4=>unc l4 fun u5 l5=>unc l5 fun u6 l6=>unc l6 fun u7 l7=>unc l7 fun u8 l8=>unc l8 fun u9 l9 =>
 (aFieldAddr prog 98 r0.1 1 r0.2).bind fun t10 =>
 (aLoad prog 3 t10 r0.2).bind fun t11 =>
 (aBin prog .eql 3 false true t11 (A.v (.int .i64 0))).bind fun t12 =>
 (bIf t12 ((aFieldAddr prog 98 r0.1 3 r0.2).bind fun t13 =>
 (aLoad prog 96 t13 r0.2).bind fun t14 =>
 (aLen prog 96 t14 r0.2).bind fun t15 =>
 (aBin prog .eql 3 false true t15 (A.v (.int .i64 0))).bind fun t16=>some [t16,t16,t15,t14,t13]) (some [A.v (.bool false),ud,ud,ud,ud])).bind fun l13=>unc l13 fun u14 l14=>unc l14 fun u15 l15=>unc l15 fun u16 l16=>unc l16 fun u17 l17=>unc l17 fun u18 l18 =>
 (aFieldAddr prog 98 r0.1 1 r0.2).bind fun t19 =>
 (aLoad prog 3 t19 r0.2).bind fun t20 =>
 (aBin prog .eql 3 false true t20 (A.v (.int .i64 0))).bind fun t21 =>
 (bIf t21 ((aFieldAddr prog 98 r0.1 2 r0.2).bind fun t22 =>
 (aLoad prog 9 t22 r0.2).bind fun t23 =>
 (aBin prog .eql 9 false true t23 (A.v (Value.string (ByteArray.mk #[])))).bind fun t24=>some [t24,t24,t23,t22]) (some [A.v (.bool false),ud,ud,ud])).bind fun l22=>unc l22 fun u23 l23=>unc l23 fun u24 l24=>unc l24 fun u25 l25=>unc l25 fun u26 l26 =>
 (aBuild prog 151 [(1,u5),(2,u14),(3,u23)]).bind fun t27 =>
 (aAlloc prog 151 r0.2).bind fun r28 =>
 (aStore prog 151 r28.1 (stV r28.1 r28.2 t27) r28.2 lo).bind fun H29 =>
 (aFieldAddr prog 98 r0.1 0 H29).bind fun t30 =>
 (aLoad prog 3 t30 H29).bind fun t31 =>
 (aBin prog .lss 3 false true t31 (A.v (.int .i64 1))).bind fun t32 =>
 (bIf t32 (some [A.v (.bool true),ud,ud,ud]) ((aFieldAddr prog 98 r0.1 0 H29).bind fun t33 =>
 (aLoad prog 3 t33 H29).bind fun t34 =>
 (aBin prog .gtr 3 false true t34 (A.v (.int .i64 3))).bind fun t35=>some [t35,t35,t34,t33])).bind fun l33=>unc l33 fun u34 l34=>unc l34 fun u35 l35=>unc l35 fun u36 l36=>unc l36 fun u37 l37 =>
 (bIf u34 (some [A.v (.bool true),ud,ud,ud,ud,ud]) ((aFieldAddr prog 98 r0.1 0 H29).bind fun t38 =>
 (aLoad prog 3 t38 H29).bind fun t39 =>
 (aIndexAddr prog 151 r28.1 t39 H29).bind fun t40 =>
 (aLoad prog 4 t40 H29).bind fun t41 =>
 (aUn prog UnOp.not t41).bind fun t42=>some [t42,t42,t41,t40,t39,t38])).bind fun l38=>unc l38 fun u39 l39=>unc l39 fun u40 l40=>unc l40 fun u41 l41=>unc l41 fun u42 l42=>unc l42 fun u43 l43=>unc l43 fun u44 l44=>bIfN u39 (some (Out.ret (A.tup [A.v (.int .i64 0),A.v (.bool false)]),H29)) ((aFieldAddr prog 98 r0.1 0 H29).bind fun t45 =>
 (aLoad prog 3 t45 H29).bind fun t46 =>
 (aBin prog .lss 3 false true t46 (A.v (.int .i64 3))).bind fun t47=>bIfN t47 (some (Out.ret (A.tup [A.v (.int .i64 0),A.v (.bool true)]),H29)) ((aFieldAddr prog 98 r0.1 3 H29).bind fun t48 =>
 (aLoad prog 96 t48 H29).bind fun t49 =>
 (aLen prog 96 t49 H29).bind fun t50=>loopR (cx C) call rg n 91 lo 0 (List.length H29) (fun i51 s51=>bif Nat.beq i51 0 then
 (aBin prog .add 3 false true (lk s51 2) (A.v (.int .i64 1))).bind fun t52=>some (Out.ret (A.tup [t52,A.v (.bool true)]),St.H s51) else none) (fun i51 s51=>none) (fun a51=>some (Out.ret (A.tup [lk a51 2,lk a51 3]),St.H a51)) (fun i51 s51=>some (Out.pan i51,St.H s51)) n (St.mk [(2,A.v (.int .i64 0)),(3,A.v (.bool false)),(55,t49),(56,t50),(57,A.v (.int .i64 0))] H29))):=by kernel_rfl
theorem e92 (n lo:Nat) (x0 x1:A) (H:Heap):evCall1 (cx C) call rg n 92 [x0,x1] H lo =
 (aBox x1 H).bind fun r0 =>
 (aBuildSlice prog 30 1 [(0,frzA r0.2 (A.v (.int .u8 1)))]).bind fun t1 =>
 (aAppend prog 30 30 false x0 t1 r0.2 lo).bind fun r2=>bif bif apart r0.1 x0 then true else false then
 (aFieldAddr prog 98 r0.1 1 r2.2).bind fun t3=>bif bif apart t3 x0 then true else false then
 (aLoad prog 3 t3 r2.2).bind fun t4 =>
 (C 94 [snap r2.2 t4]).bind fun t5 =>
 (call 93 [r2.1,t5] r2.2 lo).bind fun H6=>outK H6.1 (fun a7=>some (Out.ret a7,H6.2)) fun a7=>some (Out.pan a7,H6.2) else none else none:=by kernel_rfl
theorem e93 (n lo:Nat) (x0 x1:A) (H:Heap):evCall1 (cx C) call rg n 93 [x0,x1] H lo=loopR (cx C) call rg n 93 lo 0 (List.length H) (fun i0 s0=>bif Nat.beq i0 0 then
 (aConvert prog 140 5 (lk s0 1) (St.H s0)).bind fun t1 =>
 (aBuildSlice prog 30 1 [(0,frzA (St.H s0) t1)]).bind fun t2 =>
 (aAppend prog 30 30 false (lk s0 0) t2 (St.H s0) lo).bind fun r3=>some (Out.ret r3.1,r3.2) else none) (fun i0 s0=>none) (fun a0=>some (Out.ret (lk a0 4),St.H a0)) (fun i0 s0=>some (Out.pan i0,St.H s0)) n (St.mk [(0,x0),(1,x1),(4,A.imm [] true)] H):=by kernel_rfl
theorem e94 (n lo:Nat) (x0:A) (H:Heap):evCall1 (cx C) call rg n 94 [x0] H lo =
 (aConvert prog 3 140 x0 H).bind fun t0 =>
 (aBin prog .shl 140 false true t0 (A.v (.int .u64 1))).bind fun t1 =>
 (aBin prog .shr 3 false true x0 (A.v (.int .u64 63))).bind fun t2 =>
 (aConvert prog 3 140 t2 H).bind fun t3 =>
 (aBin prog .xor 140 false false t1 t3).bind fun t4=>some (Out.ret t4,H):=by kernel_rfl
theorem e95 (n lo:Nat) (x0 x1:A) (H:Heap):evCall1 (cx C) call rg n 95 [x0,x1] H lo =
 (aBox x1 H).bind fun r0 =>
 (aKill lo r0.1 r0.2).bind fun r1=>bif bif flatA (A.v (.int .u8 2)) then true else false then
 (aBuildSlice prog 30 1 [(0,frzA r1.2 (A.v (.int .u8 2)))]).bind fun t2 =>
 (aFieldAddr prog 98 r1.1 2 r1.2).bind fun t3 =>
 (aLoad prog 9 t3 r1.2).bind fun t4 =>
 (aLen prog 9 t4 r1.2).bind fun t5 =>
 (aConvert prog 3 140 t5 r1.2).bind fun t6 =>
 (aFieldAddr prog 98 r1.1 2 r1.2).bind fun t7 =>
 (aLoad prog 9 t7 r1.2).bind fun t8=>bif bif apart t7 x0 then bif apart r1.1 x0 then bif apart t5 x0 then bif apart t4 x0 then bif apart t3 x0 then bif apart r1.1 x0 then true else false else false else false else false else false else false then
 (aAppend prog 30 30 false x0 t2 r1.2 lo).bind fun r9=>bif bif apartC 1000 t7 then bif apartC 1000 r1.1 then true else false else false then
 (call 93 [r9.1,t6] r9.2 lo).bind fun H10=>outK H10.1 (fun a11 =>
 (aAppend prog 30 9 false a11 t8 H10.2 lo).bind fun r12=>some (Out.ret r12.1,r12.2)) fun a11=>some (Out.pan a11,H10.2) else none else none else none:=by kernel_rfl
theorem e96 (n lo:Nat) (x0 x1 x2:A) (H:Heap):evCall1 (cx C) call rg n 96 [x0,x1,x2] H lo =
 (aBox x1 H).bind fun r0 =>
 (aBuildSlice prog 30 1 [(0,frzA r0.2 (A.v (.int .u8 3)))]).bind fun t1 =>
 (aAppend prog 30 30 false x0 t1 r0.2 lo).bind fun r2=>bif bif apart r0.1 x0 then true else false then
 (aFieldAddr prog 98 r0.1 3 r2.2).bind fun t3=>bif bif apart t3 x0 then true else false then
 (aLoad prog 96 t3 r2.2).bind fun t4=>bif bif apart t4 x0 then true else false then
 (aLen prog 96 t4 r2.2).bind fun t5=>bif bif apart t5 x0 then true else false then
 (aConvert prog 3 140 t5 r2.2).bind fun t6 =>
 (call 93 [r2.1,t6] r2.2 lo).bind fun H7=>outK H7.1 (fun a8 =>
 (aFieldAddr prog 98 r0.1 3 H7.2).bind fun t9 =>
 (aLoad prog 96 t9 H7.2).bind fun t10 =>
 (aLen prog 96 t10 H7.2).bind fun t11=>loopR (cx C) call rg n 96 lo 0 (List.length H7.2) (fun i12 s12=>bif Nat.beq i12 0 then some (Out.ret (lk s12 0),St.H s12) else none) (fun i12 s12=>none) (fun a12=>some (Out.ret (lk a12 5),St.H a12)) (fun i12 s12=>some (Out.pan i12,St.H s12)) n (St.mk [(0,a8),(2,x2),(5,A.imm [] true),(17,t10),(18,t11),(19,A.v (.int .i64 0))] H7.2)) fun a8=>some (Out.pan a8,H7.2) else none else none else none else none:=by kernel_rfl
theorem e101 (n lo:Nat) (x0 x1:A) (H:Heap):evCall1 (cx C) call rg n 101 [x0,x1] H lo =
 (aNil x0 H).bind fun t0 =>
 (aFieldAddr prog 128 t0 0 H).bind fun t1 =>
 (aLoad prog 30 t1 H).bind fun t2 =>
 (aLen prog 30 t2 H).bind fun t3 =>
 (aBin prog .leq 3 false false x1 t3).bind fun t4 =>
 (call 83 [x0,t4] H lo).bind fun H5=>outK H5.1 (fun a6 =>
 (aNil x0 H5.2).bind fun t7 =>
 (aFieldAddr prog 128 t7 0 H5.2).bind fun t8 =>
 (aLoad prog 30 t8 H5.2).bind fun t9 =>
 (aSlice prog 30 t9 none (some x1) (some x1) H5.2).bind fun t10 =>
 (aNil x0 H5.2).bind fun t11 =>
 (aFieldAddr prog 128 t11 0 H5.2).bind fun t12 =>
 (aLoad prog 30 t12 H5.2).bind fun t13 =>
 (aSlice prog 30 t13 (some x1) none none H5.2).bind fun t14 =>
 (aNil x0 H5.2).bind fun t15 =>
 (aFieldAddr prog 128 t15 0 H5.2).bind fun t16 =>
 (aStore prog 30 t16 (stV t16 H5.2 t14) H5.2 lo).bind fun H17=>some (Out.ret t10,H17)) fun a6=>some (Out.pan a6,H5.2):=by kernel_rfl
theorem e102 (n lo:Nat) (x0:A) (H:Heap):evCall1 (cx C) call rg n 102 [x0] H lo =
 (aBin prog .shr 140 false true x0 (A.v (.int .u64 1))).bind fun t0 =>
 (aConvert prog 140 3 t0 H).bind fun t1 =>
 (aBin prog .and 140 false true x0 (A.v (.int .u64 1))).bind fun t2 =>
 (aConvert prog 140 3 t2 H).bind fun t3 =>
 (aUn prog UnOp.neg t3).bind fun t4 =>
 (aBin prog .xor 3 false false t1 t4).bind fun t5=>some (Out.ret t5,H):=by kernel_rfl
theorem e103 (n lo:Nat) (x0:A) (H:Heap):evCall1 (cx C) call rg n 103 [x0] H lo=loopR (cx C) call rg n 103 lo 0 (List.length H) (fun i0 s0=>bif Nat.beq i0 0 then some (Out.ret (lk s0 2),St.H s0) else none) (fun i0 s0=>none) (fun a0=>some (Out.ret (lk a0 2),St.H a0)) (fun i0 s0=>some (Out.pan i0,St.H s0)) n (St.mk [(0,x0),(2,A.v (.int .u64 0)),(3,A.v (.int .i64 0))] H):=by kernel_rfl
theorem e104 (n lo:Nat) (x0:A) (H:Heap):evCall1 (cx C) call rg n 104 [x0] H lo =
 (call 103 [x0] H lo).bind fun H0=>outK H0.1 (fun a1 =>
 (aNil x0 H0.2).bind fun t2 =>
 (aFieldAddr prog 128 t2 0 H0.2).bind fun t3 =>
 (aLoad prog 30 t3 H0.2).bind fun t4 =>
 (aLen prog 30 t4 H0.2).bind fun t5 =>
 (aConvert prog 3 140 t5 H0.2).bind fun t6 =>
 (aBin prog .leq 140 false false a1 t6).bind fun t7 =>
 (call 83 [x0,t7] H0.2 lo).bind fun H8=>outK H8.1 (fun a9 =>
 (aConvert prog 140 3 a1 H8.2).bind fun t10=>some (Out.ret t10,H8.2)) fun a9=>some (Out.pan a9,H8.2)) fun a1=>some (Out.pan a1,H0.2):=by kernel_rfl
theorem e11_0 (n lo L:Nat) (kx kg:Nat->St->Option R) (kr:St->Option R) (kp:A->St->Option R) (m:Nat) (x4 x5 x12 x13 x14:A) (H:Heap):loopR (cx C) call rg n 11 lo 0 L kx kg kr kp (m+1) (St.mk [(4,x4),(5,x5),(12,x12),(13,x13),(14,x14)] H) =
 (aBin prog .lss 3 false false x14 x13).bind fun t0=>bIfN t0 ((aIndexAddr prog 27 x12 x14 H).bind fun t1 =>
 (aLoad prog 30 t1 H).bind fun t2 =>
 (C 32 [snap H t2]).bind fun t3 =>
 (aExtract t3 0).bind fun t4 =>
 (aExtract t3 1).bind fun t5 =>
 (aAlloc prog 72 H).bind fun r6 =>
 (aStore prog 72 r6.1 (stV r6.1 r6.2 t4) r6.2 lo).bind fun H7 =>
 (aUn prog UnOp.not t5).bind fun t8=>bIfN t8 ((aBuild prog 26 []).bind fun t9 =>
 (aStore prog 26 x4 (stV x4 H7 t9) H7 lo).bind fun H10=>kr (St.mk [(4,x4),(5,A.v (.int .i64 530)),(12,x12),(13,x13),(14,x14)] H10)) ((aLoad prog 26 x4 H7).bind fun t9 =>
 (aLoad prog 72 r6.1 H7).bind fun t10 =>
 (C 33 [snap H7 t9,snap H7 t10]).bind fun t11 =>
 (aStore prog 26 x4 (stV x4 H7 t11) H7 lo).bind fun H12 =>
 (aBin prog .add 3 false true x14 (A.v (.int .i64 1))).bind fun t13 =>
 (trim L (actC lo 3 0 x4 (actC lo 2 0 x4 (actC lo 1 0 x4 H12)))).bind fun H14=>bif bif Nat.beq (List.length (actC lo 3 0 x4 (actC lo 2 0 x4 (actC lo 1 0 x4 H12)))) L then true else keepsUnder L [(14,t13),(29,t13),(28,t11),(27,t10),(26,t9),(24,t8),(23,t5),(9,t5),(8,r6.1),(22,t5),(21,t4),(18,t3),(20,t3),(19,t2),(7,t2),(17,t2),(16,t1),(15,t0),(4,x4),(5,x5),(12,x12),(13,x13),(14,x14)] [4,5,12,13,14] then loopR (cx C) call rg n 11 lo 0 L kx kg kr kp m (St.mk [(4,x4),(5,x5),(12,x12),(13,x13),(14,t13)] H14) else none)) (kx 0 (St.mk [(4,x4),(5,x5),(12,x12),(13,x13),(14,x14)] H)):=by kernel_rfl
theorem e14_0 (n lo L:Nat) (kx kg:Nat->St->Option R) (kr:St->Option R) (kp:A->St->Option R) (m:Nat) (x2 x3 x4 x5:A) (H:Heap):loopR (cx C) call rg n 14 lo 0 L kx kg kr kp (m+1) (St.mk [(2,x2),(3,x3),(4,x4),(5,x5)] H) =
 (aFieldAddr prog 26 x2 3 H).bind fun t0 =>
 (aLoad prog 24 t0 H).bind fun t1 =>
 (aLen prog 24 t1 H).bind fun t2 =>
 (aBin prog .lss 3 false false x5 t2).bind fun t3=>bIfN t3 ((aFieldAddr prog 26 x2 3 H).bind fun t4 =>
 (aLoad prog 24 t4 H).bind fun t5 =>
 (aIndexAddr prog 24 t5 x5 H).bind fun t6 =>
 (aLoad prog 4 t6 H).bind fun t7 =>
 (aFieldAddr prog 26 x3 3 H).bind fun t8 =>
 (aLoad prog 24 t8 H).bind fun t9 =>
 (aIndexAddr prog 24 t9 x5 H).bind fun t10 =>
 (aLoad prog 4 t10 H).bind fun t11 =>
 (aBin prog .neq 4 false false t7 t11).bind fun t12=>bIfN t12 (kr (St.mk [(2,x2),(3,x3),(4,A.v (.bool false)),(5,x5)] H)) ((aBin prog .add 3 false true x5 (A.v (.int .i64 1))).bind fun t13 =>
 (trim L H).bind fun H14=>bif bif Nat.beq (List.length H) L then true else keepsUnder L [(5,t13),(42,t13),(41,x5),(53,t12),(52,t11),(51,t10),(50,x5),(49,t9),(48,t8),(47,t7),(46,t6),(45,x5),(44,t5),(43,t4),(40,t3),(39,t2),(38,t1),(37,t0),(36,x5),(2,x2),(3,x3),(4,x4),(5,x5)] [2,3,4,5] then loopR (cx C) call rg n 14 lo 0 L kx kg kr kp m (St.mk [(2,x2),(3,x3),(4,x4),(5,t13)] H14) else none)) (kx 0 (St.mk [(2,x2),(3,x3),(4,x4),(5,x5)] H)):=by kernel_rfl
theorem e15_0 (n lo L:Nat) (kx kg:Nat->St->Option R) (kr:St->Option R) (kp:A->St->Option R) (m:Nat) (x0 x1 x4 x5 x7:A) (H:Heap):loopR (cx C) call rg n 15 lo 0 L kx kg kr kp (m+1) (St.mk [(0,x0),(1,x1),(4,x4),(5,x5),(7,x7)] H) =
 (aBin prog .lss 3 false true x7 (A.v (.int .i64 2))).bind fun t0=>bIfN t0 ((C 25 [snap H x7,snap H x0,snap H x1]).bind fun t1 =>
 (aExtract t1 0).bind fun t2 =>
 (aExtract t1 1).bind fun t3 =>
 (aFieldAddr prog 44 x4 0 H).bind fun t4 =>
 (aIndexAddr prog 40 t4 x7 H).bind fun t5 =>
 (aStore prog 26 t5 (stV t5 H t2) H lo).bind fun H6 =>
 (aBin prog .neq 31 false true t3 (A.v (.int .i64 0))).bind fun t7=>bIfN t7 ((aBuild prog 44 []).bind fun t8 =>
 (aStore prog 44 x4 (stV x4 H6 t8) H6 lo).bind fun H9=>kr (St.mk [(0,x0),(1,x1),(4,x4),(5,t3),(7,x7)] H9)) ((aFieldAddr prog 44 x4 1 H6).bind fun t8 =>
 (aIndexAddr prog 41 t8 x7 H6).bind fun t9 =>
 (aStore prog 3 t9 (stV t9 H6 (A.v (.int .i64 1))) H6 lo).bind fun H10 =>
 (aBin prog .add 3 false true x7 (A.v (.int .i64 1))).bind fun t11 =>
 (trim L (actC lo 7 0 x4 (actC lo 6 0 x4 (actC lo 5 0 x4 (actC lo 3 0 x4 (actC lo 2 0 x4 (actC lo 1 0 x4 H10))))))).bind fun H12=>bif bif Nat.beq (List.length (actC lo 7 0 x4 (actC lo 6 0 x4 (actC lo 5 0 x4 (actC lo 3 0 x4 (actC lo 2 0 x4 (actC lo 1 0 x4 H10))))))) L then true else keepsUnder L [(7,t11),(27,t11),(26,t9),(25,t8),(24,x7),(21,t7),(20,t3),(5,t3),(19,t5),(18,t4),(17,t3),(16,t2),(10,t1),(15,t1),(14,x1),(13,x0),(12,x7),(11,x7),(6,x7),(9,x7),(8,t0),(0,x0),(1,x1),(4,x4),(5,x5),(7,x7)] [0,1,4,5,7] then loopR (cx C) call rg n 15 lo 0 L kx kg kr kp m (St.mk [(0,x0),(1,x1),(4,x4),(5,t3),(7,t11)] H12) else none)) (kx 0 (St.mk [(0,x0),(1,x1),(4,x4),(5,x5),(7,x7)] H)):=by kernel_rfl
theorem e19_0 (n lo L:Nat) (kx kg:Nat->St->Option R) (kr:St->Option R) (kp:A->St->Option R) (m:Nat) (x0 x1 x4 x5:A) (H:Heap):loopR (cx C) call rg n 19 lo 0 L kx kg kr kp (m+1) (St.mk [(0,x0),(1,x1),(4,x4),(5,x5)] H) =
 (aLen prog 22 x0 H).bind fun t0 =>
 (aBin prog .lss 3 false false x5 t0).bind fun t1=>bIfN t1 ((aIndexAddr prog 22 x0 x5 H).bind fun t2 =>
 (aLoad prog 59 t2 H).bind fun t3 =>
 (aIndexAddr prog 22 x1 x5 H).bind fun t4 =>
 (aLoad prog 59 t4 H).bind fun t5 =>
 (aBin prog .neq 59 false false t3 t5).bind fun t6=>bIfN t6 (kr (St.mk [(0,x0),(1,x1),(4,A.v (.bool false)),(5,x5)] H)) ((aBin prog .add 3 false true x5 (A.v (.int .i64 1))).bind fun t7 =>
 (trim L H).bind fun H8=>bif bif Nat.beq (List.length H) L then true else keepsUnder L [(5,t7),(16,t7),(15,x5),(25,t6),(24,t5),(23,t4),(22,x5),(21,x1),(20,t3),(19,t2),(18,x5),(17,x0),(14,t1),(13,t0),(12,x0),(11,x5),(0,x0),(1,x1),(4,x4),(5,x5)] [0,1,4,5] then loopR (cx C) call rg n 19 lo 0 L kx kg kr kp m (St.mk [(0,x0),(1,x1),(4,x4),(5,t7)] H8) else none)) (kx 0 (St.mk [(0,x0),(1,x1),(4,x4),(5,x5)] H)):=by kernel_rfl
theorem e21_0 (n lo L:Nat) (kx kg:Nat->St->Option R) (kr:St->Option R) (kp:A->St->Option R) (m:Nat) (x0 x1 x4 x5:A) (H:Heap):loopR (cx C) call rg n 21 lo 0 L kx kg kr kp (m+1) (St.mk [(0,x0),(1,x1),(4,x4),(5,x5)] H) =
 (aLen prog 23 x0 H).bind fun t0 =>
 (aBin prog .lss 3 false false x5 t0).bind fun t1=>bIfN t1 ((aIndexAddr prog 23 x0 x5 H).bind fun t2 =>
 (aLoad prog 62 t2 H).bind fun t3 =>
 (aIndexAddr prog 23 x1 x5 H).bind fun t4 =>
 (aLoad prog 62 t4 H).bind fun t5 =>
 (aBin prog .neq 62 false false t3 t5).bind fun t6=>bIfN t6 (kr (St.mk [(0,x0),(1,x1),(4,A.v (.bool false)),(5,x5)] H)) ((aBin prog .add 3 false true x5 (A.v (.int .i64 1))).bind fun t7 =>
 (trim L H).bind fun H8=>bif bif Nat.beq (List.length H) L then true else keepsUnder L [(5,t7),(16,t7),(15,x5),(25,t6),(24,t5),(23,t4),(22,x5),(21,x1),(20,t3),(19,t2),(18,x5),(17,x0),(14,t1),(13,t0),(12,x0),(11,x5),(0,x0),(1,x1),(4,x4),(5,x5)] [0,1,4,5] then loopR (cx C) call rg n 21 lo 0 L kx kg kr kp m (St.mk [(0,x0),(1,x1),(4,x4),(5,t7)] H8) else none)) (kx 0 (St.mk [(0,x0),(1,x1),(4,x4),(5,x5)] H)):=by kernel_rfl
theorem e27_0 (n lo L:Nat) (kx kg:Nat->St->Option R) (kr:St->Option R) (kp:A->St->Option R) (m:Nat) (x2 x4 x5 x10 x11 x12:A) (H:Heap):loopR (cx C) call rg n 27 lo 0 L kx kg kr kp (m+1) (St.mk [(2,x2),(4,x4),(5,x5),(10,x10),(11,x11),(12,x12)] H) =
 (aBin prog .lss 3 false false x12 x11).bind fun t0=>bIfN t0 ((aIndexAddr prog 39 x10 x12 H).bind fun t1 =>
 (aLoad prog 49 t1 H).bind fun t2 =>
 (aAlloc prog 49 H).bind fun r3 =>
 (aStore prog 49 r3.1 (stV r3.1 r3.2 t2) r3.2 lo).bind fun H4 =>
 (aLoad prog 44 x2 H4).bind fun t5 =>
 (aLoad prog 49 r3.1 H4).bind fun t6 =>
 (C 17 [snap H4 t5,snap H4 t6]).bind fun t7 =>
 (aExtract t7 0).bind fun t8 =>
 (aExtract t7 1).bind fun t9 =>
 (aAlloc prog 44 H4).bind fun r10 =>
 (aStore prog 44 r10.1 (stV r10.1 r10.2 t8) r10.2 lo).bind fun H11 =>
 (aBin prog .neq 31 false true t9 (A.v (.int .i64 0))).bind fun t12=>bIfN t12 ((aLoad prog 44 x2 H11).bind fun t13 =>
 (aStore prog 44 x4 (stV x4 H11 t13) H11 lo).bind fun H14=>kr (St.mk [(2,x2),(4,x4),(5,A.v (.bool false)),(10,x10),(11,x11),(12,x12)] H14)) ((aLoad prog 44 r10.1 H11).bind fun t13 =>
 (aStore prog 44 x2 (stV x2 H11 t13) H11 lo).bind fun H14 =>
 (aBin prog .add 3 false true x12 (A.v (.int .i64 1))).bind fun t15 =>
 (trim L H14).bind fun H16=>bif bif Nat.beq (List.length H14) L then true else keepsUnder L [(12,t15),(26,t15),(25,t13),(23,t12),(22,t9),(9,t9),(8,r10.1),(21,t9),(20,t8),(16,t7),(19,t7),(18,t6),(17,t5),(7,r3.1),(15,t2),(14,t1),(13,t0),(2,x2),(4,x4),(5,x5),(10,x10),(11,x11),(12,x12)] [2,4,5,10,11,12] then loopR (cx C) call rg n 27 lo 0 L kx kg kr kp m (St.mk [(2,x2),(4,x4),(5,x5),(10,x10),(11,x11),(12,t15)] H16) else none)) (kx 0 (St.mk [(2,x2),(4,x4),(5,x5),(10,x10),(11,x11),(12,x12)] H)):=by kernel_rfl
theorem e29_0 (n lo L:Nat) (kx kg:Nat->St->Option R) (kr:St->Option R) (kp:A->St->Option R) (m:Nat) (x2 x3 x9 x10 x11:A) (H:Heap):loopR (cx C) call rg n 29 lo 0 L kx kg kr kp (m+1) (St.mk [(2,x2),(3,x3),(9,x9),(10,x10),(11,x11)] H) =
 (aBin prog .lss 3 false false x11 x10).bind fun t0=>bIfN t0 ((aIndexAddr prog 78 x9 x11 H).bind fun t1 =>
 (aLoad prog 3 t1 H).bind fun t2 =>
 (aFieldAddr prog 98 x3 3 H).bind fun t3 =>
 (aLoad prog 96 t3 H).bind fun t4 =>
 (aBuild prog 98 [(0,A.v (.int .i64 1)),(1,t2)]).bind fun t5 =>
 (aBuildSlice prog 96 1 [(0,frzA H t5)]).bind fun t6 =>
 (aAppend prog 96 96 false t4 t6 H lo).bind fun r7 =>
 (aFieldAddr prog 98 x3 3 r7.2).bind fun t8 =>
 (aStore prog 96 t8 (stV t8 r7.2 r7.1) r7.2 lo).bind fun H9 =>
 (aBin prog .add 3 false true x11 (A.v (.int .i64 1))).bind fun t10 =>
 (trim L H9).bind fun H11=>bif bif Nat.beq (List.length H9) L then true else keepsUnder L [(11,t10),(22,t10),(21,t8),(20,r7.1),(19,t6),(18,t5),(17,t2),(16,t4),(15,t3),(5,t2),(14,t2),(13,t1),(12,t0),(2,x2),(3,x3),(9,x9),(10,x10),(11,x11)] [2,3,9,10,11] then loopR (cx C) call rg n 29 lo 0 L kx kg kr kp m (St.mk [(2,x2),(3,x3),(9,x9),(10,x10),(11,t10)] H11) else none) (kx 0 (St.mk [(2,x2),(3,x3),(9,x9),(10,x10),(11,x11)] H)):=by kernel_rfl
theorem e32_0 (n lo L:Nat) (kx kg:Nat->St->Option R) (kr:St->Option R) (kp:A->St->Option R) (m:Nat) (x2 x3 x6 x23 x24 x25:A) (H:Heap):loopR (cx C) call rg n 32 lo 0 L kx kg kr kp (m+1) (St.mk [(2,x2),(3,x3),(6,x6),(23,x23),(24,x24),(25,x25)] H) =
 (aBin prog .lss 3 false false x25 x24).bind fun t0=>bIfN t0 ((aIndexAddr prog 96 x23 x25 H).bind fun t1 =>
 (aLoad prog 98 t1 H).bind fun t2 =>
 (aAlloc prog 98 H).bind fun r3 =>
 (aStore prog 98 r3.1 (stV r3.1 r3.2 t2) r3.2 lo).bind fun H4 =>
 (aFieldAddr prog 98 r3.1 0 H4).bind fun t5 =>
 (aLoad prog 3 t5 H4).bind fun t6 =>
 (aBin prog .neq 3 false true t6 (A.v (.int .i64 1))).bind fun t7=>bIfN t7 ((aLoad prog 72 x2 H4).bind fun t8 =>
 (aStore prog 72 x2 (stV x2 H4 t8) H4 lo).bind fun H9=>kr (St.mk [(2,x2),(3,A.v (.bool false)),(6,x6),(23,x23),(24,x24),(25,x25)] H9)) ((aFieldAddr prog 98 r3.1 1 H4).bind fun t8 =>
 (aLoad prog 3 t8 H4).bind fun t9 =>
 (aBuildSlice prog 78 1 [(0,frzA H4 t9)]).bind fun t10 =>
 (aAppend prog 78 78 false x6 t10 H4 lo).bind fun r11 =>
 (aBin prog .add 3 false true x25 (A.v (.int .i64 1))).bind fun t12 =>
 (trim L r11.2).bind fun H13=>bif bif Nat.beq (List.length r11.2) L then true else keepsUnder L [(25,t12),(38,t12),(6,r11.1),(37,r11.1),(36,t10),(35,t9),(34,t8),(33,x6),(31,t7),(30,t6),(29,t5),(8,r3.1),(28,t2),(27,t1),(26,t0),(2,x2),(3,x3),(6,x6),(23,x23),(24,x24),(25,x25)] [2,3,6,23,24,25] then loopR (cx C) call rg n 32 lo 0 L kx kg kr kp m (St.mk [(2,x2),(3,x3),(6,r11.1),(23,x23),(24,x24),(25,t12)] H13) else none)) (kx 0 (St.mk [(2,x2),(3,x3),(6,x6),(23,x23),(24,x24),(25,x25)] H)):=by kernel_rfl
theorem e55_0 (n lo L:Nat) (kx kg:Nat->St->Option R) (kr:St->Option R) (kp:A->St->Option R) (m:Nat) (x0 x3 x4 x13 x14 x15:A) (H:Heap):loopR (cx C) call rg n 55 lo 0 L kx kg kr kp (m+1) (St.mk [(0,x0),(3,x3),(4,x4),(13,x13),(14,x14),(15,x15)] H) =
 (aBin prog .lss 3 false false x15 x14).bind fun t0=>bIfN t0 ((aIndexAddr prog 24 x13 x15 H).bind fun t1 =>
 (aLoad prog 4 t1 H).bind fun t2 =>
 (aBuild prog 72 [(0,t2)]).bind fun t3 =>
 (aAlloc prog 72 H).bind fun r4 =>
 (aStore prog 72 r4.1 (stV r4.1 r4.2 t3) r4.2 lo).bind fun H5 =>
 (bIf t2 ((aLen prog 22 x3 H5).bind fun t6 =>
 (aBin prog .gtr 3 false true t6 (A.v (.int .i64 0))).bind fun t7=>some [t7,t7,t6,x3]) (some [A.v (.bool false),ud,ud,ud])).bind fun l6=>unc l6 fun u7 l7=>unc l7 fun u8 l8=>unc l8 fun u9 l9=>unc l9 fun u10 l10=>bIfN u7 ((aIndexAddr prog 22 x3 (A.v (.int .i64 0)) H5).bind fun t11 =>
 (aLoad prog 59 t11 H5).bind fun t12 =>
 (aSlice prog 22 x3 (some (A.v (.int .i64 1))) none none H5).bind fun t13 =>
 (aFieldAddr prog 72 r4.1 1 H5).bind fun t14=>bif bif apart x3 t14 then true else false then
 (aStore prog 59 t14 (stV t14 H5 t12) H5 lo).bind fun H15 =>
 (aLoad prog 72 r4.1 H15).bind fun t16=>dynCall (cx C) call x0 [x15,t16] H15 lo (fun i17 h17 =>
 (aUn prog UnOp.not i17).bind fun t18=>bIfN t18 (kr (St.mk [(0,x0),(3,t13),(4,x4),(13,x13),(14,x14),(15,x15)] h17)) ((aBin prog .add 3 false true x15 (A.v (.int .i64 1))).bind fun t19 =>
 (trim L h17).bind fun H20=>bif bif Nat.beq (List.length h17) L then true else keepsUnder L [(15,t19),(54,t19),(53,t18),(52,i17),(51,t16),(50,x15),(49,x0),(3,t13),(34,t14),(33,t13),(32,x3),(31,t12),(30,t11),(29,x3),(22,u7),(28,u7),(27,u8),(26,u9),(25,u10),(24,t2),(23,t2),(7,r4.1),(21,t3),(20,t2),(6,t2),(5,x15),(19,t2),(18,t1),(17,x15),(16,t0),(0,x0),(3,x3),(4,x4),(13,x13),(14,x14),(15,x15)] [0,3,4,13,14,15] then loopR (cx C) call rg n 55 lo 0 L kx kg kr kp m (St.mk [(0,x0),(3,t13),(4,x4),(13,x13),(14,x14),(15,t19)] H20) else none)) fun i17 h17=>kp i17 (St.mk [(0,x0),(3,t13),(4,x4),(13,x13),(14,x14),(15,x15)] h17) else none) ((aUn prog UnOp.not t2).bind fun t11 =>
 (bIf t11 ((aLen prog 23 x4 H5).bind fun t12 =>
 (aBin prog .gtr 3 false true t12 (A.v (.int .i64 0))).bind fun t13=>some [t13,t13,t12,x4]) (some [A.v (.bool false),ud,ud,ud])).bind fun l12=>unc l12 fun u13 l13=>unc l13 fun u14 l14=>unc l14 fun u15 l15=>unc l15 fun u16 l16=>bIfN u13 ((aIndexAddr prog 23 x4 (A.v (.int .i64 0)) H5).bind fun t17 =>
 (aLoad prog 62 t17 H5).bind fun t18 =>
 (aSlice prog 23 x4 (some (A.v (.int .i64 1))) none none H5).bind fun t19 =>
 (aFieldAddr prog 72 r4.1 2 H5).bind fun t20=>bif bif apart x4 t20 then true else false then
 (aStore prog 62 t20 (stV t20 H5 t18) H5 lo).bind fun H21 =>
 (aLoad prog 72 r4.1 H21).bind fun t22=>dynCall (cx C) call x0 [x15,t22] H21 lo (fun i23 h23 =>
 (aUn prog UnOp.not i23).bind fun t24=>bIfN t24 (kr (St.mk [(0,x0),(3,x3),(4,t19),(13,x13),(14,x14),(15,x15)] h23)) ((aBin prog .add 3 false true x15 (A.v (.int .i64 1))).bind fun t25 =>
 (trim L h23).bind fun H26=>bif bif Nat.beq (List.length h23) L then true else keepsUnder L [(15,t25),(54,t25),(53,t24),(52,i23),(51,t22),(50,x15),(49,x0),(4,t19),(48,t20),(47,t19),(46,x4),(45,t18),(44,t17),(43,x4),(35,u13),(42,u13),(41,u14),(40,u15),(39,u16),(38,t11),(37,t11),(36,t2),(22,u7),(28,u7),(27,u8),(26,u9),(25,u10),(24,t2),(23,t2),(7,r4.1),(21,t3),(20,t2),(6,t2),(5,x15),(19,t2),(18,t1),(17,x15),(16,t0),(0,x0),(3,x3),(4,x4),(13,x13),(14,x14),(15,x15)] [0,3,4,13,14,15] then loopR (cx C) call rg n 55 lo 0 L kx kg kr kp m (St.mk [(0,x0),(3,x3),(4,t19),(13,x13),(14,x14),(15,t25)] H26) else none)) fun i23 h23=>kp i23 (St.mk [(0,x0),(3,x3),(4,t19),(13,x13),(14,x14),(15,x15)] h23) else none) (kr (St.mk [(0,x0),(3,x3),(4,x4),(13,x13),(14,x14),(15,x15)] H5)))) (kx 0 (St.mk [(0,x0),(3,x3),(4,x4),(13,x13),(14,x14),(15,x15)] H)):=by kernel_rfl
theorem e82_0 (n lo L:Nat) (kx kg:Nat->St->Option R) (kr:St->Option R) (kp:A->St->Option R) (m:Nat) (x0 x1 x4 x36 x37:A) (H:Heap):loopR (cx C) call rg n 82 lo 0 L kx kg kr kp (m+1) (St.mk [(0,x0),(1,x1),(4,x4),(36,x36),(37,x37)] H) =
 (aBin prog .lss 3 false false x37 x36).bind fun t0=>bIfN t0 ((aFieldAddr prog 98 x4 3 H).bind fun t1 =>
 (aLoad prog 96 t1 H).bind fun t2 =>
 (aBin prog .add 3 false true x1 (A.v (.int .i64 1))).bind fun t3=>bif bif apartC 3 t1 then bif apartC 3 x4 then true else false else false then
 (call 82 [x0,t3] H lo).bind fun H4=>outK H4.1 (fun a5 =>
 (aBuildSlice prog 96 1 [(0,frzA H4.2 a5)]).bind fun t6 =>
 (aAppend prog 96 96 false t2 t6 H4.2 lo).bind fun r7 =>
 (aFieldAddr prog 98 x4 3 r7.2).bind fun t8 =>
 (aStore prog 96 t8 (stV t8 r7.2 r7.1) r7.2 lo).bind fun H9 =>
 (aBin prog .add 3 false true x37 (A.v (.int .i64 1))).bind fun t10 =>
 (trim L H9).bind fun H11=>bif bif Nat.beq (List.length H9) L then true else keepsUnder L [(37,t10),(48,t10),(47,t8),(46,r7.1),(45,t6),(44,a5),(43,t3),(42,x1),(41,x0),(40,t2),(39,t1),(38,t0),(0,x0),(1,x1),(4,x4),(36,x36),(37,x37)] [0,1,4,36,37] then loopR (cx C) call rg n 82 lo 0 L kx kg kr kp m (St.mk [(0,x0),(1,x1),(4,x4),(36,x36),(37,t10)] H11) else none) fun a5=>kp a5 (St.mk [(0,A.any),(1,A.any),(4,A.any),(36,A.any),(37,A.any)] H4.2) else none) (kx 1 (St.mk [(0,x0),(1,x1),(4,x4),(36,x36),(37,x37)] H)):=by kernel_rfl
theorem e89_0 (n lo L:Nat) (kx kg:Nat->St->Option R) (kr:St->Option R) (kp:A->St->Option R) (m:Nat) (x0 x1 x4 x7 x8:A) (H:Heap):loopR (cx C) call rg n 89 lo 0 L kx kg kr kp (m+1) (St.mk [(0,x0),(1,x1),(4,x4),(7,x7),(8,x8)] H) =
 (aBin prog .lss 3 false false x8 x7).bind fun t0=>bIfN t0 ((aIndexAddr prog 22 x0 x8 H).bind fun t1 =>
 (aLoad prog 59 t1 H).bind fun t2=>dynCall (cx C) call x1 [t2] H lo (fun i3 h3=>bIfN i3 (kr (St.mk [(0,x0),(1,x1),(4,x8),(7,x7),(8,x8)] h3)) ((aBin prog .add 3 false true x8 (A.v (.int .i64 1))).bind fun t4 =>
 (trim L h3).bind fun H5=>bif bif Nat.beq (List.length h3) L then true else keepsUnder L [(8,t4),(18,t4),(16,i3),(15,t2),(14,t1),(13,x8),(12,x0),(11,x1),(5,x8),(10,x8),(9,t0),(0,x0),(1,x1),(4,x4),(7,x7),(8,x8)] [0,1,4,7,8] then loopR (cx C) call rg n 89 lo 0 L kx kg kr kp m (St.mk [(0,x0),(1,x1),(4,x4),(7,x7),(8,t4)] H5) else none)) fun i3 h3=>kp i3 (St.mk [(0,x0),(1,x1),(4,x4),(7,x7),(8,x8)] h3)) (kx 0 (St.mk [(0,x0),(1,x1),(4,x4),(7,x7),(8,x8)] H)):=by kernel_rfl
theorem e91_0 (n lo L:Nat) (kx kg:Nat->St->Option R) (kr:St->Option R) (kp:A->St->Option R) (m:Nat) (x2 x3 x55 x56 x57:A) (H:Heap):loopR (cx C) call rg n 91 lo 0 L kx kg kr kp (m+1) (St.mk [(2,x2),(3,x3),(55,x55),(56,x56),(57,x57)] H) =
 (aBin prog .lss 3 false false x57 x56).bind fun t0=>bIfN t0 ((aIndexAddr prog 96 x55 x57 H).bind fun t1 =>
 (aLoad prog 98 t1 H).bind fun t2 =>
 (aAlloc prog 98 H).bind fun r3 =>
 (aStore prog 98 r3.1 (stV r3.1 r3.2 t2) r3.2 lo).bind fun H4 =>
 (aLoad prog 98 r3.1 H4).bind fun t5 =>
 (C 91 [snap H4 t5]).bind fun t6 =>
 (aExtract t6 0).bind fun t7 =>
 (aExtract t6 1).bind fun t8 =>
 (aUn prog UnOp.not t8).bind fun t9=>bIfN t9 (kr (St.mk [(2,A.v (.int .i64 0)),(3,A.v (.bool false)),(55,x55),(56,x56),(57,x57)] H4)) ((aMM false x2 [t7]).bind fun t10 =>
 (aBin prog .add 3 false true x57 (A.v (.int .i64 1))).bind fun t11 =>
 (trim L H4).bind fun H12=>bif bif Nat.beq (List.length H4) L then true else keepsUnder L [(57,t11),(71,t11),(2,t10),(70,t10),(69,t7),(68,x2),(67,t9),(66,t8),(8,t8),(7,t7),(65,t8),(64,t7),(61,t6),(63,t6),(62,t5),(6,r3.1),(60,t2),(59,t1),(58,t0),(2,x2),(3,x3),(55,x55),(56,x56),(57,x57)] [2,3,55,56,57] then loopR (cx C) call rg n 91 lo 0 L kx kg kr kp m (St.mk [(2,t10),(3,x3),(55,x55),(56,x56),(57,t11)] H12) else none)) (kx 0 (St.mk [(2,x2),(3,x3),(55,x55),(56,x56),(57,x57)] H)):=by kernel_rfl
theorem e93_0 (n lo L:Nat) (kx kg:Nat->St->Option R) (kr:St->Option R) (kp:A->St->Option R) (m:Nat) (x0 x1 x4:A) (H:Heap):loopR (cx C) call rg n 93 lo 0 L kx kg kr kp (m+1) (St.mk [(0,x0),(1,x1),(4,x4)] H) =
 (aBin prog .geq 140 false true x1 (A.v (.int .u64 128))).bind fun t0=>bIfN t0 ((aConvert prog 140 5 x1 H).bind fun t1 =>
 (aBin prog .or 5 false true t1 (A.v (.int .u8 128))).bind fun t2 =>
 (aBuildSlice prog 30 1 [(0,frzA H t2)]).bind fun t3 =>
 (aAppend prog 30 30 false x0 t3 H lo).bind fun r4 =>
 (aBin prog .shr 140 false true x1 (A.v (.int .u64 7))).bind fun t5 =>
 (trim L r4.2).bind fun H6=>bif bif Nat.beq (List.length r4.2) L then true else keepsUnder L [(1,t5),(8,t5),(7,x1),(0,r4.1),(14,r4.1),(13,t3),(12,t2),(11,t1),(10,x1),(9,x0),(6,t0),(5,x1),(0,x0),(1,x1),(4,x4)] [0,1,4] then loopR (cx C) call rg n 93 lo 0 L kx kg kr kp m (St.mk [(0,r4.1),(1,t5),(4,x4)] H6) else none) (kx 0 (St.mk [(0,x0),(1,x1),(4,x4)] H)):=by kernel_rfl
theorem e96_0 (n lo L:Nat) (kx kg:Nat->St->Option R) (kr:St->Option R) (kp:A->St->Option R) (m:Nat) (x0 x2 x5 x17 x18 x19:A) (H:Heap):loopR (cx C) call rg n 96 lo 0 L kx kg kr kp (m+1) (St.mk [(0,x0),(2,x2),(5,x5),(17,x17),(18,x18),(19,x19)] H) =
 (aBin prog .lss 3 false false x19 x18).bind fun t0=>bIfN t0 ((aIndexAddr prog 96 x17 x19 H).bind fun t1 =>
 (aLoad prog 98 t1 H).bind fun t2 =>
 (aAlloc prog 98 H).bind fun r3 =>
 (aStore prog 98 r3.1 (stV r3.1 r3.2 t2) r3.2 lo).bind fun H4 =>
 (aLoad prog 122 x2 H4).bind fun t5 =>
 (aFieldAddr prog 98 r3.1 0 H4).bind fun t6 =>
 (aLoad prog 3 t6 H4).bind fun t7 =>
 (aNil t5 H4).bind fun t8 =>
 (aIndexAddr prog 138 t8 t7 H4).bind fun t9 =>
 (aFieldAddr prog 121 t9 0 H4).bind fun t10 =>
 (aLoad prog 119 t10 H4).bind fun t11 =>
 (aLoad prog 98 r3.1 H4).bind fun t12=>dynCall (cx C) call t11 [x0,t12] H4 lo (fun i13 h13 =>
 (aBin prog .add 3 false true x19 (A.v (.int .i64 1))).bind fun t14 =>
 (trim L h13).bind fun H15=>bif bif Nat.beq (List.length h13) L then true else keepsUnder L [(19,t14),(33,t14),(0,i13),(32,i13),(31,t12),(30,x0),(29,t11),(28,t10),(27,t9),(26,t8),(25,t7),(24,t6),(23,t5),(7,r3.1),(22,t2),(21,t1),(20,t0),(0,x0),(2,x2),(5,x5),(17,x17),(18,x18),(19,x19)] [0,2,5,17,18,19] then loopR (cx C) call rg n 96 lo 0 L kx kg kr kp m (St.mk [(0,i13),(2,x2),(5,x5),(17,x17),(18,x18),(19,t14)] H15) else none) fun i13 h13=>kp i13 (St.mk [(0,x0),(2,x2),(5,x5),(17,x17),(18,x18),(19,x19)] h13)) (kx 0 (St.mk [(0,x0),(2,x2),(5,x5),(17,x17),(18,x18),(19,x19)] H)):=by kernel_rfl
theorem e103_0 (n lo L:Nat) (kx kg:Nat->St->Option R) (kr:St->Option R) (kp:A->St->Option R) (m:Nat) (x0 x2 x3:A) (H:Heap):loopR (cx C) call rg n 103 lo 0 L kx kg kr kp (m+1) (St.mk [(0,x0),(2,x2),(3,x3)] H) =
 (call 101 [x0,A.v (.int .i64 1)] H lo).bind fun H0=>outK H0.1 (fun a1 =>
 (aIndexAddr prog 30 a1 (A.v (.int .i64 0)) H0.2).bind fun t2 =>
 (aLoad prog 5 t2 H0.2).bind fun t3 =>
 (aBin prog .eql 3 false true x3 (A.v (.int .i64 0))).bind fun t4 =>
 (bIf t4 (some [A.v (.bool true),ud,ud]) ((aBin prog .neq 5 false true t3 (A.v (.int .u8 0))).bind fun t5=>some [t5,t5,t3])).bind fun l5=>unc l5 fun u6 l6=>unc l6 fun u7 l7=>unc l7 fun u8 l8 =>
 (bIf u6 ((aBin prog .lss 3 false true x3 (A.v (.int .i64 9))).bind fun t9 =>
 (bIf t9 (some [A.v (.bool true),ud,ud]) ((aBin prog .leq 5 false true t3 (A.v (.int .u8 1))).bind fun t10=>some [t10,t10,t3])).bind fun l10=>unc l10 fun u11 l11=>unc l11 fun u12 l12=>unc l12 fun u13 l13=>some [u11,u11,u12,u13,t9,t9,x3]) (some [A.v (.bool false),ud,ud,ud,ud,ud,ud])).bind fun l9=>unc l9 fun u10 l10=>unc l10 fun u11 l11=>unc l11 fun u12 l12=>unc l12 fun u13 l13=>unc l13 fun u14 l14=>unc l14 fun u15 l15=>unc l15 fun u16 l16 =>
 (call 83 [x0,u10] H0.2 lo).bind fun H17=>outK H17.1 (fun a18 =>
 (aBin prog .and 5 false true t3 (A.v (.int .u8 127))).bind fun t19 =>
 (aConvert prog 5 140 t19 H17.2).bind fun t20 =>
 (aBin prog .mul 3 true false (A.v (.int .i64 7)) x3).bind fun t21 =>
 (aBin prog .shl 140 false false t20 t21).bind fun t22 =>
 (aBin prog .or 140 false false x2 t22).bind fun t23 =>
 (aBin prog .lss 5 false true t3 (A.v (.int .u8 128))).bind fun t24=>bIfN t24 (kr (St.mk [(0,x0),(2,t23),(3,x3)] H17.2)) ((aBin prog .add 3 false true x3 (A.v (.int .i64 1))).bind fun t25 =>
 (trim L H17.2).bind fun H26=>bif bif Nat.beq (List.length H17.2) L then true else keepsUnder L [(3,t25),(6,t25),(5,x3),(36,t24),(35,t3),(2,t23),(34,t23),(33,t22),(32,t21),(31,x3),(30,t20),(29,t19),(28,t3),(27,x2),(26,a18),(25,u10),(24,u11),(23,u12),(22,u13),(21,u14),(20,u15),(19,u16),(18,u6),(17,u6),(16,u7),(15,u8),(14,t4),(13,t4),(12,x3),(11,x0),(4,t3),(10,t3),(9,t2),(8,a1),(7,x0),(0,x0),(2,x2),(3,x3)] [0,2,3] then loopR (cx C) call rg n 103 lo 0 L kx kg kr kp m (St.mk [(0,x0),(2,t23),(3,t25)] H26) else none)) fun a18=>kp a18 (St.mk [(0,x0),(2,x2),(3,x3)] H17.2)) fun a1=>kp a1 (St.mk [(0,x0),(2,x2),(3,x3)] H0.2):=by kernel_rfl
theorem e9_r0 (n lo b lo':Nat) (x2 y0 y1:A) (H:Heap):roundR (cx C) call rg n 9 lo 0 b [(2,x2)] [y0,y1] H lo'=bif Nat.ble lo' lo then rdy H b ((aAlloc prog 72 H).bind fun r0 =>
 (aStore prog 72 r0.1 (stV r0.1 r0.2 y1) r0.2 lo).bind fun H1=>rdy H1 b ((aFieldAddr prog 72 r0.1 0 (List.set H1 b (Blk.rng RSt.busy))).bind fun t2 =>
 (aLoad prog 4 t2 (List.set H1 b (Blk.rng RSt.busy))).bind fun t3=>bIfN t3 ((aLoad prog 27 x2 (List.set H1 b (Blk.rng RSt.busy))).bind fun t4 =>
 (aFieldAddr prog 72 r0.1 1 (List.set H1 b (Blk.rng RSt.busy))).bind fun t5 =>
 (aFieldAddr prog 59 t5 0 (List.set H1 b (Blk.rng RSt.busy))).bind fun t6 =>
 (aLoad prog 3 t6 (List.set H1 b (Blk.rng RSt.busy))).bind fun t7 =>
 (aFieldAddr prog 72 r0.1 1 (List.set H1 b (Blk.rng RSt.busy))).bind fun t8 =>
 (aFieldAddr prog 59 t8 1 (List.set H1 b (Blk.rng RSt.busy))).bind fun t9 =>
 (aLoad prog 3 t9 (List.set H1 b (Blk.rng RSt.busy))).bind fun t10 =>
 (aFieldAddr prog 72 r0.1 1 (List.set H1 b (Blk.rng RSt.busy))).bind fun t11 =>
 (aFieldAddr prog 59 t11 2 (List.set H1 b (Blk.rng RSt.busy))).bind fun t12 =>
 (aLoad prog 3 t12 (List.set H1 b (Blk.rng RSt.busy))).bind fun t13 =>
 (aBuildSlice prog 78 4 [(0,frzA (List.set H1 b (Blk.rng RSt.busy)) (A.v (.int .i64 1))),(1,frzA (List.set H1 b (Blk.rng RSt.busy)) t7),(2,frzA (List.set H1 b (Blk.rng RSt.busy)) t10),(3,frzA (List.set H1 b (Blk.rng RSt.busy)) t13)]).bind fun t14 =>
 (C 29 [snap (List.set H1 b (Blk.rng RSt.busy)) t14]).bind fun t15 =>
 (aBuildSlice prog 27 1 [(0,frzA (List.set H1 b (Blk.rng RSt.busy)) t15)]).bind fun t16 =>
 (aAppend prog 27 27 false t4 t16 (List.set H1 b (Blk.rng RSt.busy)) lo).bind fun r17 =>
 (aStore prog 27 x2 (stV x2 r17.2 r17.1) r17.2 lo).bind fun H18=>bsy H18 b (some (Out.ret (A.v (.bool true)),List.set H18 b (Blk.rng RSt.ready)))) ((aLoad prog 27 x2 (List.set H1 b (Blk.rng RSt.busy))).bind fun t4 =>
 (aFieldAddr prog 72 r0.1 2 (List.set H1 b (Blk.rng RSt.busy))).bind fun t5 =>
 (aFieldAddr prog 62 t5 0 (List.set H1 b (Blk.rng RSt.busy))).bind fun t6 =>
 (aLoad prog 3 t6 (List.set H1 b (Blk.rng RSt.busy))).bind fun t7 =>
 (aFieldAddr prog 72 r0.1 2 (List.set H1 b (Blk.rng RSt.busy))).bind fun t8 =>
 (aFieldAddr prog 62 t8 1 (List.set H1 b (Blk.rng RSt.busy))).bind fun t9 =>
 (aLoad prog 3 t9 (List.set H1 b (Blk.rng RSt.busy))).bind fun t10 =>
 (aBuildSlice prog 78 3 [(0,frzA (List.set H1 b (Blk.rng RSt.busy)) (A.v (.int .i64 2))),(1,frzA (List.set H1 b (Blk.rng RSt.busy)) t7),(2,frzA (List.set H1 b (Blk.rng RSt.busy)) t10)]).bind fun t11 =>
 (C 29 [snap (List.set H1 b (Blk.rng RSt.busy)) t11]).bind fun t12 =>
 (aBuildSlice prog 27 1 [(0,frzA (List.set H1 b (Blk.rng RSt.busy)) t12)]).bind fun t13 =>
 (aAppend prog 27 27 false t4 t13 (List.set H1 b (Blk.rng RSt.busy)) lo).bind fun r14 =>
 (aStore prog 27 x2 (stV x2 r14.2 r14.1) r14.2 lo).bind fun H15=>bsy H15 b (some (Out.ret (A.v (.bool true)),List.set H15 b (Blk.rng RSt.ready)))))) else none:=by kernel_rfl
theorem e20_r0 (n lo b lo':Nat) (x2 x3 x4 y0 y1:A) (H:Heap):roundR (cx C) call rg n 20 lo 0 b [(2,x2),(3,x3),(4,x4)] [y0,y1] H lo'=bif Nat.ble lo' lo then rdy H b ((aAlloc prog 72 H).bind fun r0 =>
 (aStore prog 72 r0.1 (stV r0.1 r0.2 y1) r0.2 lo).bind fun H1=>rdy H1 b ((aFieldAddr prog 72 r0.1 0 (List.set H1 b (Blk.rng RSt.busy))).bind fun t2 =>
 (aLoad prog 4 t2 (List.set H1 b (Blk.rng RSt.busy))).bind fun t3 =>
 (bIf t3 ((aLoad prog 26 x3 (List.set H1 b (Blk.rng RSt.busy))).bind fun t4 =>
 (aFieldAddr prog 72 r0.1 1 (List.set H1 b (Blk.rng RSt.busy))).bind fun t5 =>
 (aLoad prog 59 t5 (List.set H1 b (Blk.rng RSt.busy))).bind fun t6 =>
 (C 50 [snap (List.set H1 b (Blk.rng RSt.busy)) t4,snap (List.set H1 b (Blk.rng RSt.busy)) t6]).bind fun t7 =>
 (aUn prog UnOp.not t7).bind fun t8=>some [t8,t8,t7,t6,t5,t4]) (some [A.v (.bool false),ud,ud,ud,ud,ud])).bind fun l4=>unc l4 fun u5 l5=>unc l5 fun u6 l6=>unc l6 fun u7 l7=>unc l7 fun u8 l8=>unc l8 fun u9 l9=>unc l9 fun u10 l10 =>
 (bIf u5 (some [A.v (.bool true),ud,ud,ud,ud,ud,ud,ud,ud,ud,ud]) ((aFieldAddr prog 72 r0.1 0 (List.set H1 b (Blk.rng RSt.busy))).bind fun t11 =>
 (aLoad prog 4 t11 (List.set H1 b (Blk.rng RSt.busy))).bind fun t12 =>
 (aUn prog UnOp.not t12).bind fun t13 =>
 (bIf t13 ((aLoad prog 26 x3 (List.set H1 b (Blk.rng RSt.busy))).bind fun t14 =>
 (aFieldAddr prog 72 r0.1 2 (List.set H1 b (Blk.rng RSt.busy))).bind fun t15 =>
 (aLoad prog 62 t15 (List.set H1 b (Blk.rng RSt.busy))).bind fun t16 =>
 (C 51 [snap (List.set H1 b (Blk.rng RSt.busy)) t14,snap (List.set H1 b (Blk.rng RSt.busy)) t16]).bind fun t17 =>
 (aUn prog UnOp.not t17).bind fun t18=>some [t18,t18,t17,t16,t15,t14]) (some [A.v (.bool false),ud,ud,ud,ud,ud])).bind fun l14=>unc l14 fun u15 l15=>unc l15 fun u16 l16=>unc l16 fun u17 l17=>unc l17 fun u18 l18=>unc l18 fun u19 l19=>unc l19 fun u20 l20=>some [u15,u15,u16,u17,u18,u19,u20,t13,t13,t12,t11])).bind fun l11=>unc l11 fun u12 l12=>unc l12 fun u13 l13=>unc l13 fun u14 l14=>unc l14 fun u15 l15=>unc l15 fun u16 l16=>unc l16 fun u17 l17=>unc l17 fun u18 l18=>unc l18 fun u19 l19=>unc l19 fun u20 l20=>unc l20 fun u21 l21=>unc l21 fun u22 l22=>bIfN u12 ((aStore prog 31 x2 (stV x2 (List.set H1 b (Blk.rng RSt.busy)) (A.v (.int .i64 530))) (List.set H1 b (Blk.rng RSt.busy)) lo).bind fun H23=>bsy H23 b (some (Out.ret (A.v (.bool false)),List.set H23 b (Blk.rng (RSt.done Jmp.ret))))) ((aLoad prog 26 x3 (List.set H1 b (Blk.rng RSt.busy))).bind fun t23 =>
 (aLoad prog 72 r0.1 (List.set H1 b (Blk.rng RSt.busy))).bind fun t24 =>
 (C 33 [snap (List.set H1 b (Blk.rng RSt.busy)) t23,snap (List.set H1 b (Blk.rng RSt.busy)) t24]).bind fun t25 =>
 (aStore prog 26 x3 (stV x3 (List.set H1 b (Blk.rng RSt.busy)) t25) (List.set H1 b (Blk.rng RSt.busy)) lo).bind fun H26 =>
 (aLoad prog 3 x4 H26).bind fun t27 =>
 (aBin prog .add 3 false true t27 (A.v (.int .i64 1))).bind fun t28 =>
 (aStore prog 3 x4 (stV x4 H26 t28) H26 lo).bind fun H29=>bsy H29 b (some (Out.ret (A.v (.bool true)),List.set H29 b (Blk.rng RSt.ready)))))) else none:=by kernel_rfl
end Go.Proofs.Ytdmgdjnadbakfaa
