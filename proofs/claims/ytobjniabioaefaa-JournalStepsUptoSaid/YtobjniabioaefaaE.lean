/-
 What the interpreter does with the program's functions: equations, by a tool; the kernel checks each.
-/
import Derived.Test.YtobjniabioaefaaEvTyped
import Derived.Test.YtobjniabioaefaaRows
import Derived.KernelRfl
namespace Go.Proofs.Ytobjniabioaefaa
open Go.Proofs.Try (prog)
set_option linter.unusedVariables false
set_option linter.unusedSimpArgs false
set_option maxHeartbeats 4000000
set_option maxRecDepth 100000
def keepTab : List ((Nat × Nat) × List Nat) := [((7, 33), [8, 11, 13, 21, 22, 24, 25, 26, 27]), ((7, 11), [1, 2, 3, 8, 9, 11, 13, 60, 61, 62]), ((9, 18), [4, 5, 7, 9, 10, 38, 39, 40, 72, 73, 74]), ((9, 10), [4, 5, 7, 38, 39, 40]), ((11, 3), [2, 4, 5, 8, 9, 10]), ((12, 1000011), [2]), ((21, 28), [2, 3, 4, 5, 6, 10, 13, 15, 16, 17, 108, 109, 110]), ((21, 24), [2, 3, 4, 5, 6, 10, 13, 108, 109, 110]), ((21, 14), [2, 3, 4, 5, 6, 9, 10, 57, 58, 59]), ((22, 23), [2, 3, 4, 5, 6, 9, 10, 11, 12, 13, 14]), ((22, 18), [2, 3, 4, 5, 6, 9, 10, 11]), ((23, 9), [2, 3, 4, 6]), ((23, 4), [2, 3, 4, 5]), ((24, 4), [0, 1, 4, 5]), ((28, 2), [2, 4, 9, 10, 11]), ((33, 10), [1, 2, 3, 5]), ((33, 5), [1, 2, 3, 4]), ((34, 4), [0, 2, 3, 4, 5]), ((36, 2), [2, 5, 6, 7]), ((40, 3), [0, 2, 3, 4]), ((41, 2), [2, 5, 6, 7]), ((42, 4), [1, 2, 6, 15, 16, 17]), ((45, 3), [0, 2, 3, 4]), ((46, 8), [1, 3, 6, 7, 8]), ((48, 9), [1, 2, 3, 4, 5, 6, 7]), ((49, 8), [4, 7, 8]), ((54, 3), [4, 5, 10, 11, 12]), ((60, 3), [0, 1, 3, 4, 5, 6]), ((60, 1), [0, 1, 3, 4]), ((62, 3), [0, 1, 4, 5, 6, 7]), ((63, 3), [0, 2, 3, 4]), ((64, 1), [0, 1, 6, 7]), ((65, 7), [2, 3, 6, 7, 8, 16]), ((65, 3), [2, 3, 6, 7, 8]), ((66, 3), [0, 4, 5, 6]), ((67, 7), [0, 2, 3, 4, 5]), ((67, 3), [0, 2, 3, 4]), ((70, 2), [0, 1, 4, 7, 8]), ((71, 2), [0, 1, 4, 7, 8]), ((72, 5), [0, 4, 6])]
def keepF (f r : Nat) : List Nat := keepOf f r keepTab
def actTab : List ((Nat × Nat) × List (Nat × Nat × Nat)) := [((25, 2000004), [(4, 0, 0)]), ((26, 2000009), [(8, 0, 0)]), ((27, 2000010), [(7, 0, 0)]), ((53, 3000000), [(2, 0, 3)]), ((38, 3000000), [(2, 0, 500002)]), ((69, 3000000), [(2, 0, 500002)]), ((60, 3), [(5, 0, 2)]), ((12, 1000011), [(2, 1, 2)]), ((62, 3), [(6, 0, 2)]), ((34, 4), [(3, 0, 2)]), ((7, 11), [(13, 0, 2)]), ((7, 33), [(13, 0, 0)]), ((9, 10), [(7, 0, 0)]), ((7, 2000029), [(23, 0, 0)])]
def actF (f r : Nat) : List (Nat × Nat × Nat) := actOf f r actTab
def arrTab : List (Nat × Nat) := [(44, 89)]
def arrF (f t : Nat) : Bool := inTab f t arrTab
def wrTab : List (Nat × Nat) := [(38, 7), (69, 7), (48, 35), (10, 34), (7, 151), (66, 8)]
def wrF (f t : Nat) : Bool := inTab f t wrTab
def loudTab : List (Nat × Nat) := [(10, 28)]
def loudF (f t : Nat) : Bool := inTab f t loudTab
def joinTab : List ((Nat × Nat) × List Nat) := []
def joinF (f r : Nat) : List Nat := keepOf f r joinTab
noncomputable def cx (C : Nat -> List A -> Option A) : Cx := { P := prog, glob := fun _ => none, isOrc := fun k => notIn k [52, 54, 38, 69, 57, 70, 55, 37, 32, 60, 64, 65], isOrcV := fun k => notIn k [52, 38, 69, 57, 70, 55, 37, 32, 60, 64, 65], C := C, keep := keepF, wrAt := wrF, acts := actF, loud := loudF, arr := arrF, join := joinF }
noncomputable def cxz (C : Nat -> List A -> Option A) : Cx := { cx C with isOrc := fun k => notIn k [52, 54, 69, 57, 70, 55, 37, 32, 60, 64, 65], isOrcV := fun k => notIn k [52, 69, 57, 70, 55, 37, 32, 60, 64, 65] }
theorem qsz (C : Nat -> List A -> Option A) : Array.size (Program.funcs (Cx.P (cx C))) = 91 := by kernel_rfl
theorem yq {C : Nat -> List A -> Option A} {m b : Nat} {base : CallT} {args : List A} {H : Heap} {lo : Nat} : evCallY (cx C) m base (Array.size (Program.funcs (Cx.P (cx C))) + b) args H lo = base (91 + b) args H lo := evCallY_y.trans (congrArg (fun q => base (q + b) args H lo) (qsz C))
theorem lt_32 : Nat.ble prog.funcs.size 32 = false := by kernel_rfl
theorem lt_37 : Nat.ble prog.funcs.size 37 = false := by kernel_rfl
theorem lt_38 : Nat.ble prog.funcs.size 38 = false := by kernel_rfl
theorem lt_52 : Nat.ble prog.funcs.size 52 = false := by kernel_rfl
theorem lt_54 : Nat.ble prog.funcs.size 54 = false := by kernel_rfl
theorem lt_55 : Nat.ble prog.funcs.size 55 = false := by kernel_rfl
theorem lt_57 : Nat.ble prog.funcs.size 57 = false := by kernel_rfl
theorem lt_60 : Nat.ble prog.funcs.size 60 = false := by kernel_rfl
theorem lt_64 : Nat.ble prog.funcs.size 64 = false := by kernel_rfl
theorem lt_65 : Nat.ble prog.funcs.size 65 = false := by kernel_rfl
theorem lt_69 : Nat.ble prog.funcs.size 69 = false := by kernel_rfl
theorem lt_70 : Nat.ble prog.funcs.size 70 = false := by kernel_rfl
variable (C : Nat -> List A -> Option A) (call : CallT) (rg : CallT -> CallT)
abbrev lk (s : St) (i : Nat) : A := look (St.fr s) i
abbrev ud : A := A.v undef
theorem e8 (n lo : Nat) (x0 x1 : A) (H : Heap) : evCall1 (cx C) call rg n 8 [x0, x1] H lo =
 (C 10 []).bind fun t0 =>
 (aUn prog UnOp.not t0).bind fun t1 => bIfN t1 (some (Out.ret (A.v (.bool false)), H)) ((C 25 [snap H (A.v (.int .i64 40))]).bind fun t2 =>
 (aExtract t2 0).bind fun t3 =>
 (aExtract t2 1).bind fun t4 =>
 (aAlloc prog 25 H).bind fun r5 =>
 (aStore prog 25 r5.1 (stV r5.1 r5.2 t3) r5.2 lo).bind fun H6 =>
 (aBin prog .neq 30 false true t4 (A.v (.int .i64 0))).bind fun t7 =>
 bIf t7 (bif bif apart r5.1 (ud) then true else false then bif bif apart r5.1 (ud) then true else false then
 (aBin prog .eql 30 false true t4 (A.v (.int .i64 0))).bind fun t8 => some (Out.ret t8, H6) else none else none) ((aLoad prog 25 r5.1 H6).bind fun t8 =>
 (aBuildSlice prog 22 0 []).bind fun t9 => bif bif apart r5.1 t9 then true else false then
 (aAppend prog 22 22 false t9 x0 H6 lo).bind fun r10 => bif bif apart r5.1 r10.1 then true else false then
 (aAppend prog 22 22 false r10.1 x1 r10.2 lo).bind fun r11 =>
 ((C 11 [snap r11.2 t8, snap r11.2 r11.1]).bind fun t12 =>
 (aUn prog UnOp.not t12).bind fun t13 => some [t13, t13, t12]).bind fun l12 => unc l12 fun u13 l13 => unc l13 fun u14 l14 => unc l14 fun u15 l15 => bIfN u13 ((aBin prog .eql 30 false true t4 (A.v (.int .i64 0))).bind fun t16 => some (Out.ret t16, r11.2)) ((aLoad prog 25 r5.1 r11.2).bind fun t16 =>
 (C 12 [snap r11.2 t16]).bind fun t17 =>
 (aExtract t17 0).bind fun t18 =>
 (aExtract t17 1).bind fun t19 =>
 (aAlloc prog 29 r11.2).bind fun r20 =>
 (aStore prog 29 r20.1 (stV r20.1 r20.2 t18) r20.2 lo).bind fun H21 =>
 (aBin prog .neq 30 false true t19 (A.v (.int .i64 0))).bind fun t22 => bIfN t22 (some (Out.ret (A.v (.bool false)), H21)) ((aAlloc prog 29 H21).bind fun r23 =>
 (aAlloc prog 25 r23.2).bind fun r24 =>
 (aLoad prog 29 r20.1 r24.2).bind fun t25 =>
 (C 28 [snap r24.2 t25, snap r24.2 x0]).bind fun t26 =>
 (C 28 [snap r24.2 t26, snap r24.2 x1]).bind fun t27 =>
 (aLoad prog 25 r5.1 r24.2).bind fun t28 =>
 (C 21 [snap r24.2 t27, snap r24.2 t28]).bind fun t29 =>
 (aExtract t29 0).bind fun t30 =>
 (aExtract t29 1).bind fun t31 =>
 (aExtract t29 2).bind fun t32 =>
 (aStore prog 29 r23.1 (stV r23.1 r24.2 t30) r24.2 lo).bind fun H33 =>
 (aStore prog 25 r24.1 (stV r24.1 H33 t31) H33 lo).bind fun H34 =>
 (aAlloc prog 29 H34).bind fun r35 =>
 (aAlloc prog 25 r35.2).bind fun r36 =>
 (aLoad prog 29 r20.1 r36.2).bind fun t37 =>
 (C 28 [snap r36.2 t37, snap r36.2 x0]).bind fun t38 =>
 (aLoad prog 25 r5.1 r36.2).bind fun t39 =>
 (C 21 [snap r36.2 t38, snap r36.2 t39]).bind fun t40 =>
 (aExtract t40 0).bind fun t41 =>
 (aExtract t40 1).bind fun t42 =>
 (aExtract t40 2).bind fun t43 =>
 (aStore prog 29 r35.1 (stV r35.1 r36.2 t41) r36.2 lo).bind fun H44 =>
 (aStore prog 25 r36.1 (stV r36.1 H44 t42) H44 lo).bind fun H45 =>
 (aAlloc prog 29 H45).bind fun r46 =>
 (aAlloc prog 25 r46.2).bind fun r47 =>
 (aLoad prog 29 r35.1 r47.2).bind fun t48 =>
 (C 28 [snap r47.2 t48, snap r47.2 x1]).bind fun t49 =>
 (aLoad prog 25 r36.1 r47.2).bind fun t50 =>
 (C 21 [snap r47.2 t49, snap r47.2 t50]).bind fun t51 =>
 (aExtract t51 0).bind fun t52 =>
 (aExtract t51 1).bind fun t53 =>
 (aExtract t51 2).bind fun t54 =>
 (aStore prog 29 r46.1 (stV r46.1 r47.2 t52) r47.2 lo).bind fun H55 =>
 (aStore prog 25 r47.1 (stV r47.1 H55 t53) H55 lo).bind fun H56 =>
 (aLoad prog 29 r46.1 H56).bind fun t57 =>
 (aLoad prog 25 r47.1 H56).bind fun t58 =>
 (C 21 [snap H56 t57, snap H56 t58]).bind fun t59 =>
 (aExtract t59 0).bind fun t60 =>
 (aExtract t59 1).bind fun t61 =>
 (aExtract t59 2).bind fun t62 =>
 (aAlloc prog 29 H56).bind fun r63 =>
 (aAlloc prog 25 r63.2).bind fun r64 =>
 (aStore prog 29 r63.1 (stV r63.1 r64.2 t60) r64.2 lo).bind fun H65 =>
 (aStore prog 25 r64.1 (stV r64.1 H65 t61) H65 lo).bind fun H66 =>
 (aLoad prog 25 r24.1 H66).bind fun t67 =>
 (C 12 [snap H66 t67]).bind fun t68 =>
 (aExtract t68 0).bind fun t69 =>
 (aExtract t68 1).bind fun t70 =>
 (aAlloc prog 29 H66).bind fun r71 =>
 (aStore prog 29 r71.1 (stV r71.1 r71.2 t69) r71.2 lo).bind fun H72 =>
 (aLoad prog 25 r64.1 H72).bind fun t73 =>
 (C 12 [snap H72 t73]).bind fun t74 =>
 (aExtract t74 0).bind fun t75 =>
 (aExtract t74 1).bind fun t76 =>
 (aAlloc prog 29 H72).bind fun r77 =>
 (aStore prog 29 r77.1 (stV r77.1 r77.2 t75) r77.2 lo).bind fun H78 =>
 (aBin prog .eql 30 false true t32 (A.v (.int .i64 0))).bind fun t79 =>
 (bIf t79 ((aBin prog .eql 30 false true t43 (A.v (.int .i64 0))).bind fun t80 => some [t80, t80, t43]) (some [A.v (.bool false), ud, ud])).bind fun l80 => unc l80 fun u81 l81 => unc l81 fun u82 l82 => unc l82 fun u83 l83 =>
 (bIf u81 ((aBin prog .eql 30 false true t54 (A.v (.int .i64 0))).bind fun t84 => some [t84, t84, t54]) (some [A.v (.bool false), ud, ud])).bind fun l84 => unc l84 fun u85 l85 => unc l85 fun u86 l86 => unc l86 fun u87 l87 =>
 (bIf u85 ((aBin prog .eql 30 false true t62 (A.v (.int .i64 0))).bind fun t88 => some [t88, t88, t62]) (some [A.v (.bool false), ud, ud])).bind fun l88 => unc l88 fun u89 l89 => unc l89 fun u90 l90 => unc l90 fun u91 l91 =>
 (bIf u89 ((aBin prog .eql 30 false true t70 (A.v (.int .i64 0))).bind fun t92 => some [t92, t92, t70]) (some [A.v (.bool false), ud, ud])).bind fun l92 => unc l92 fun u93 l93 => unc l93 fun u94 l94 => unc l94 fun u95 l95 =>
 (bIf u93 ((aBin prog .eql 30 false true t76 (A.v (.int .i64 0))).bind fun t96 => some [t96, t96, t76]) (some [A.v (.bool false), ud, ud])).bind fun l96 => unc l96 fun u97 l97 => unc l97 fun u98 l98 => unc l98 fun u99 l99 =>
 (bIf u97 ((aLoad prog 29 r23.1 H78).bind fun t100 =>
 (aLoad prog 29 r46.1 H78).bind fun t101 =>
 (C 14 [snap H78 t100, snap H78 t101]).bind fun t102 => some [t102, t102, t101, t100]) (some [A.v (.bool false), ud, ud, ud])).bind fun l100 => unc l100 fun u101 l101 => unc l101 fun u102 l102 => unc l102 fun u103 l103 => unc l103 fun u104 l104 =>
 (bIf u101 ((aLoad prog 29 r63.1 H78).bind fun t105 =>
 (aLoad prog 29 r46.1 H78).bind fun t106 =>
 (C 14 [snap H78 t105, snap H78 t106]).bind fun t107 => some [t107, t107, t106, t105]) (some [A.v (.bool false), ud, ud, ud])).bind fun l105 => unc l105 fun u106 l106 => unc l106 fun u107 l107 => unc l107 fun u108 l108 => unc l108 fun u109 l109 =>
 (bIf u106 ((aFieldAddr prog 29 r71.1 0 H78).bind fun t110 =>
 (aLoad prog 22 t110 H78).bind fun t111 =>
 (aFieldAddr prog 29 r77.1 0 H78).bind fun t112 =>
 (aLoad prog 22 t112 H78).bind fun t113 =>
 (C 24 [snap H78 t111, snap H78 t113]).bind fun t114 => some [t114, t114, t113, t112, t111, t110]) (some [A.v (.bool false), ud, ud, ud, ud, ud])).bind fun l110 => unc l110 fun u111 l111 => unc l111 fun u112 l112 => unc l112 fun u113 l113 => unc l113 fun u114 l114 => unc l114 fun u115 l115 => unc l115 fun u116 l116 =>
 (bIf u111 ((aFieldAddr prog 29 r71.1 0 H78).bind fun t117 =>
 (aLoad prog 22 t117 H78).bind fun t118 =>
 (aFieldAddr prog 29 r23.1 0 H78).bind fun t119 =>
 (aLoad prog 22 t119 H78).bind fun t120 =>
 (C 24 [snap H78 t118, snap H78 t120]).bind fun t121 => some [t121, t121, t120, t119, t118, t117]) (some [A.v (.bool false), ud, ud, ud, ud, ud])).bind fun l117 => unc l117 fun u118 l118 => unc l118 fun u119 l119 => unc l119 fun u120 l120 => unc l120 fun u121 l121 => unc l121 fun u122 l122 => unc l122 fun u123 l123 =>
 (bIf u118 ((aLoad prog 25 r47.1 H78).bind fun t124 =>
 (aLoad prog 25 r64.1 H78).bind fun t125 =>
 (C 23 [snap H78 t124, snap H78 t125]).bind fun t126 => some [t126, t126, t125, t124]) (some [A.v (.bool false), ud, ud, ud])).bind fun l124 => unc l124 fun u125 l125 => unc l125 fun u126 l126 => unc l126 fun u127 l127 => unc l127 fun u128 l128 => some (Out.ret u125, H78))) else none else none)) := by kernel_rfl
theorem e10 (n lo : Nat) (H : Heap) : evCall1 (cx C) call rg n 10 [] H lo =
 (C 25 [snap H (A.v (.int .i64 1))]).bind fun t0 =>
 (aExtract t0 0).bind fun t1 =>
 (aExtract t0 1).bind fun t2 =>
 (aAlloc prog 25 H).bind fun r3 =>
 (aStore prog 25 r3.1 (stV r3.1 r3.2 t1) r3.2 lo).bind fun H4 =>
 (aLoad prog 25 r3.1 H4).bind fun t5 =>
 (C 12 [snap H4 t5]).bind fun t6 =>
 (aExtract t6 0).bind fun t7 =>
 (aExtract t6 1).bind fun t8 =>
 (aAlloc prog 29 H4).bind fun r9 =>
 (aStore prog 29 r9.1 (stV r9.1 r9.2 t7) r9.2 lo).bind fun H10 =>
 (aAlloc prog 29 H10).bind fun r11 =>
 (aLoad prog 29 r9.1 r11.2).bind fun t12 => bif bif apart r9.1 A.any then true else false then
 (aMakeImm prog 35 (A.v (.int .i64 113)) (A.v (.int .i64 113)) r11.2).bind fun r13 =>
 (C 15 [snap r13.2 t12, snap r13.2 r13.1]).bind fun t14 =>
 (aExtract t14 0).bind fun t15 =>
 (aExtract t14 1).bind fun t16 =>
 (aStore prog 29 r11.1 (stV r11.1 r13.2 t15) r13.2 lo).bind fun H17 =>
 (aLoad prog 29 r9.1 H17).bind fun t18 =>
 (aBuildRow prog 35 2 [(0, frzA H17 (A.v (.int .u8 97))), (1, frzA H17 (A.v (.int .u8 98)))] H17).bind fun r19 =>
 (aMark prog 35 35 r19.1 r19.2 lo).bind fun r20 =>
 (C 15 [snap r20.2 t18, snap r20.2 r20.1]).bind fun t21 =>
 (aExtract t21 0).bind fun t22 =>
 (aExtract t21 1).bind fun t23 =>
 (aAlloc prog 29 r20.2).bind fun r24 =>
 (aStore prog 29 r24.1 (stV r24.1 r24.2 t22) r24.2 lo).bind fun H25 =>
 (aLoad prog 29 r24.1 H25).bind fun t26 =>
 (aLoad prog 25 r3.1 H25).bind fun t27 =>
 (C 21 [snap H25 t26, snap H25 t27]).bind fun t28 =>
 (aExtract t28 0).bind fun t29 =>
 (aExtract t28 1).bind fun t30 =>
 (aExtract t28 2).bind fun t31 =>
 (aAlloc prog 29 H25).bind fun r32 =>
 (aAlloc prog 25 r32.2).bind fun r33 =>
 (aStore prog 29 r32.1 (stV r32.1 r33.2 t29) r33.2 lo).bind fun H34 =>
 (aStore prog 25 r33.1 (stV r33.1 H34 t30) H34 lo).bind fun H35 =>
 (aLoad prog 25 r33.1 H35).bind fun t36 =>
 (C 12 [snap H35 t36]).bind fun t37 =>
 (aExtract t37 0).bind fun t38 =>
 (aExtract t37 1).bind fun t39 =>
 (aAlloc prog 29 H35).bind fun r40 =>
 (aStore prog 29 r40.1 (stV r40.1 r40.2 t38) r40.2 lo).bind fun H41 =>
 (aLoad prog 29 r24.1 H41).bind fun t42 =>
 (aLoad prog 25 r33.1 H41).bind fun t43 =>
 (C 21 [snap H41 t42, snap H41 t43]).bind fun t44 =>
 (aExtract t44 0).bind fun t45 =>
 (aExtract t44 1).bind fun t46 =>
 (aExtract t44 2).bind fun t47 =>
 (aAlloc prog 29 H41).bind fun r48 =>
 (aAlloc prog 25 r48.2).bind fun r49 =>
 (aStore prog 29 r48.1 (stV r48.1 r49.2 t45) r49.2 lo).bind fun H50 =>
 (aStore prog 25 r49.1 (stV r49.1 H50 t46) H50 lo).bind fun H51 =>
 (aBin prog .eql 30 false true t2 (A.v (.int .i64 0))).bind fun t52 =>
 (bIf t52 ((aBin prog .eql 30 false true t8 (A.v (.int .i64 0))).bind fun t53 => some [t53, t53, t8]) (some [A.v (.bool false), ud, ud])).bind fun l53 => unc l53 fun u54 l54 => unc l54 fun u55 l55 => unc l55 fun u56 l56 =>
 (bIf u54 ((aFieldAddr prog 29 r9.1 0 H51).bind fun t57 =>
 (aLoad prog 22 t57 H51).bind fun t58 =>
 (aLen prog 22 t58 H51).bind fun t59 =>
 (aBin prog .eql 3 false true t59 (A.v (.int .i64 0))).bind fun t60 => some [t60, t60, t59, t58, t57]) (some [A.v (.bool false), ud, ud, ud, ud])).bind fun l57 => unc l57 fun u58 l58 => unc l58 fun u59 l59 => unc l59 fun u60 l60 => unc l60 fun u61 l61 => unc l61 fun u62 l62 =>
 (bIf u58 ((aLoad prog 29 r9.1 H51).bind fun t63 =>
 (C 19 [snap H51 t63]).bind fun t64 =>
 (aBin prog .eql 3 false true t64 (A.v (.int .i64 112))).bind fun t65 => some [t65, t65, t64, t63]) (some [A.v (.bool false), ud, ud, ud])).bind fun l63 => unc l63 fun u64 l64 => unc l64 fun u65 l65 => unc l65 fun u66 l66 => unc l66 fun u67 l67 =>
 (bIf u64 ((aBin prog .eql 30 false true t16 (A.v (.int .i64 2))).bind fun t68 => some [t68, t68, t16]) (some [A.v (.bool false), ud, ud])).bind fun l68 => unc l68 fun u69 l69 => unc l69 fun u70 l70 => unc l70 fun u71 l71 =>
 (bIf u69 ((aBin prog .eql 30 false true t23 (A.v (.int .i64 0))).bind fun t72 => some [t72, t72, t23]) (some [A.v (.bool false), ud, ud])).bind fun l72 => unc l72 fun u73 l73 => unc l73 fun u74 l74 => unc l74 fun u75 l75 =>
 (bIf u73 ((aBin prog .eql 30 false true t31 (A.v (.int .i64 0))).bind fun t76 => some [t76, t76, t31]) (some [A.v (.bool false), ud, ud])).bind fun l76 => unc l76 fun u77 l77 => unc l77 fun u78 l78 => unc l78 fun u79 l79 =>
 (bIf u77 ((aFieldAddr prog 29 r32.1 2 H51).bind fun t80 =>
 (aLoad prog 3 t80 H51).bind fun t81 =>
 (aBin prog .eql 3 false true t81 (A.v (.int .i64 1))).bind fun t82 => some [t82, t82, t81, t80]) (some [A.v (.bool false), ud, ud, ud])).bind fun l80 => unc l80 fun u81 l81 => unc l81 fun u82 l82 => unc l82 fun u83 l83 => unc l83 fun u84 l84 =>
 (bIf u81 ((aBin prog .eql 30 false true t39 (A.v (.int .i64 0))).bind fun t85 => some [t85, t85, t39]) (some [A.v (.bool false), ud, ud])).bind fun l85 => unc l85 fun u86 l86 => unc l86 fun u87 l87 => unc l87 fun u88 l88 =>
 (bIf u86 ((aFieldAddr prog 29 r40.1 0 H51).bind fun t89 =>
 (aLoad prog 22 t89 H51).bind fun t90 =>
 (aLen prog 22 t90 H51).bind fun t91 =>
 (aBin prog .eql 3 false true t91 (A.v (.int .i64 1))).bind fun t92 => some [t92, t92, t91, t90, t89]) (some [A.v (.bool false), ud, ud, ud, ud])).bind fun l89 => unc l89 fun u90 l90 => unc l90 fun u91 l91 => unc l91 fun u92 l92 => unc l92 fun u93 l93 => unc l93 fun u94 l94 =>
 (bIf u90 ((aFieldAddr prog 29 r40.1 0 H51).bind fun t95 =>
 (aLoad prog 22 t95 H51).bind fun t96 =>
 (aIndexAddr prog 22 t96 (A.v (.int .i64 0)) H51).bind fun t97 =>
 (aLoad prog 35 t97 H51).bind fun t98 =>
 (aConvert prog 35 9 t98 H51).bind fun t99 =>
 (aBin prog .eql 9 false true t99 (A.v (Value.string (ByteArray.mk #[97, 98])))).bind fun t100 => some [t100, t100, t99, t98, t97, t96, t95]) (some [A.v (.bool false), ud, ud, ud, ud, ud, ud])).bind fun l95 => unc l95 fun u96 l96 => unc l96 fun u97 l97 => unc l97 fun u98 l98 => unc l98 fun u99 l99 => unc l99 fun u100 l100 => unc l100 fun u101 l101 => unc l101 fun u102 l102 =>
 (bIf u96 ((aBin prog .eql 30 false true t47 (A.v (.int .i64 50))).bind fun t103 => some [t103, t103, t47]) (some [A.v (.bool false), ud, ud])).bind fun l103 => unc l103 fun u104 l104 => unc l104 fun u105 l105 => unc l105 fun u106 l106 =>
 (bIf u104 ((aBuild prog 29 []).bind fun t107 =>
 (C 17 [snap H51 t107]).bind fun t108 =>
 (aBin prog .eql 30 false true t108 (A.v (.int .i64 1))).bind fun t109 => some [t109, t109, t108, t107]) (some [A.v (.bool false), ud, ud, ud])).bind fun l107 => unc l107 fun u108 l108 => unc l108 fun u109 l109 => unc l109 fun u110 l110 => unc l110 fun u111 l111 => some (Out.ret u108, H51) else none := by kernel_rfl
theorem e11 (n lo : Nat) (x0 x1 : A) (H : Heap) : evCall1 (cx C) call rg n 11 [x0, x1] H lo =
 (aBox x0 H).bind fun r0 =>
 (aLen prog 22 x1 r0.2).bind fun t1 => loopR (cx C) call rg n 11 lo 0 (List.length r0.2) (fun i2 s2 => bif Nat.beq i2 0 then
 (aFieldAddr prog 25 (lk s2 2) 0 (St.H s2)).bind fun t3 =>
 (aLoad prog 22 t3 (St.H s2)).bind fun t4 =>
 (aLen prog 22 t4 (St.H s2)).bind fun t5 =>
 (aBin prog .leq 3 false true t5 (A.v (.int .i64 40))).bind fun t6 =>
 (bIf t6 ((aFieldAddr prog 25 (lk s2 2) 1 (St.H s2)).bind fun t7 =>
 (aLoad prog 23 t7 (St.H s2)).bind fun t8 =>
 (aLen prog 23 t8 (St.H s2)).bind fun t9 =>
 (aBin prog .leq 3 false true t9 (A.v (.int .i64 40))).bind fun t10 => some [t10, t10, t9, t8, t7]) (some [A.v (.bool false), ud, ud, ud, ud])).bind fun l7 => unc l7 fun u8 l8 => unc l8 fun u9 l9 => unc l9 fun u10 l10 => unc l10 fun u11 l11 => unc l11 fun u12 l12 =>
 (bIf u8 ((aBin prog .leq 3 false true (lk s2 5) (A.v (.int .i64 4000))).bind fun t13 => some [t13, t13, lk s2 5]) (some [A.v (.bool false), ud, ud])).bind fun l13 => unc l13 fun u14 l14 => unc l14 fun u15 l15 => unc l15 fun u16 l16 => some (Out.ret u14, St.H s2) else none) (fun i2 s2 => none) (fun a2 => some (Out.ret (lk a2 4), St.H a2)) (fun i2 s2 => some (Out.pan i2, St.H s2)) n (St.mk [(2, r0.1), (4, A.v (.bool false)), (5, A.v (.int .i64 0)), (8, x1), (9, t1), (10, A.v (.int .i64 0))] r0.2) := by kernel_rfl
theorem e12 (n lo : Nat) (x0 : A) (H : Heap) : evCall1 (cx C) call rg n 12 [x0] H lo =
 (aBox x0 H).bind fun r0 =>
 (aAlloc prog 29 r0.2).bind fun r1 =>
 (aLoad prog 25 r0.1 r1.2).bind fun t2 =>
 (C 31 [snap r1.2 t2]).bind fun t3 =>
 (aBin prog .neq 30 false true t3 (A.v (.int .i64 0))).bind fun t4 => bIfN t4 ((aBuild prog 29 []).bind fun t5 =>
 (aStore prog 29 r1.1 (stV r1.1 r1.2 t5) r1.2 lo).bind fun H6 =>
 (aLoad prog 29 r1.1 H6).bind fun t7 => some (Out.ret (A.tup [t7, t3]), H6)) ((aFieldAddr prog 25 r0.1 3 r1.2).bind fun t5 =>
 (aLoad prog 4 t5 r1.2).bind fun t6 => bIfN t6 ((aBuild prog 29 []).bind fun t7 =>
 (aStore prog 29 r1.1 (stV r1.1 r1.2 t7) r1.2 lo).bind fun H8 =>
 (aLoad prog 29 r1.1 H8).bind fun t9 => some (Out.ret (A.tup [t9, A.v (.int .i64 40)]), H8)) ((aFieldAddr prog 25 r0.1 1 r1.2).bind fun t7 =>
 (aLoad prog 23 t7 r1.2).bind fun t8 =>
 (aLen prog 23 t8 r1.2).bind fun t9 =>
 (aBin prog .gtr 3 false true t9 (A.v (.int .i64 0))).bind fun t10 => bIfN t10 ((aBuild prog 29 []).bind fun t11 =>
 (aStore prog 29 r1.1 (stV r1.1 r1.2 t11) r1.2 lo).bind fun H12 =>
 (aLoad prog 29 r1.1 H12).bind fun t13 => some (Out.ret (A.tup [t13, A.v (.int .i64 1)]), H12)) ((aFieldAddr prog 25 r0.1 0 r1.2).bind fun t11 =>
 (aLoad prog 22 t11 r1.2).bind fun t12 =>
 (aLen prog 22 t12 r1.2).bind fun t13 =>
 (aFieldAddr prog 29 r1.1 1 r1.2).bind fun t14 =>
 (aStore prog 3 t14 (stV t14 r1.2 t13) r1.2 lo).bind fun H15 =>
 (aFieldAddr prog 25 r0.1 0 H15).bind fun t16 =>
 (aLoad prog 22 t16 H15).bind fun t17 =>
 (call 32 [t17] H15 lo).bind fun H18 => outK H18.1 (fun a19 =>
 (fnOf prog a19).bind fun r20 => bif Nat.ble lo (List.length (actC lo 0 2 r1.1 H18.2)) then
 (rg (yext 91 call (List.length (actC lo 0 2 r1.1 H18.2)) (roundR (cx C) call rg n 12 lo 0 (List.length (actC lo 0 2 r1.1 H18.2)) [(2, r1.1)])) r20.1 (A.yld (List.length (actC lo 0 2 r1.1 H18.2)) :: r20.2) (actC lo 0 2 r1.1 H18.2 ++ [Blk.rng RSt.ready]) lo).bind fun H21 => outK H21.1 (fun a22 => rngSel (List.length (actC lo 0 2 r1.1 H18.2)) H21.2 (fun h23 =>
 (aFieldAddr prog 29 r1.1 0 h23).bind fun t24 =>
 (aLoad prog 22 t24 h23).bind fun t25 =>
 (aLen prog 22 t25 h23).bind fun t26 =>
 (aFieldAddr prog 29 r1.1 2 h23).bind fun t27 =>
 (aStore prog 3 t27 (stV t27 h23 t26) h23 lo).bind fun H28 =>
 (aLoad prog 29 r1.1 H28).bind fun t29 =>
 (aStore prog 29 r1.1 (stV r1.1 H28 t29) H28 lo).bind fun H30 =>
 (aLoad prog 29 r1.1 H30).bind fun t31 => some (Out.ret (A.tup [t31, A.v (.int .i64 0)]), H30)) (fun i23 h23 => bif Nat.beq i23 0 then
 (aFieldAddr prog 29 r1.1 0 h23).bind fun t24 =>
 (aLoad prog 22 t24 h23).bind fun t25 =>
 (aLen prog 22 t25 h23).bind fun t26 =>
 (aFieldAddr prog 29 r1.1 2 h23).bind fun t27 =>
 (aStore prog 3 t27 (stV t27 h23 t26) h23 lo).bind fun H28 =>
 (aLoad prog 29 r1.1 H28).bind fun t29 =>
 (aStore prog 29 r1.1 (stV r1.1 H28 t29) H28 lo).bind fun H30 =>
 (aLoad prog 29 r1.1 H30).bind fun t31 => some (Out.ret (A.tup [t31, A.v (.int .i64 0)]), H30) else none) (fun i23 h23 => none) fun h23 =>
 (aLoad prog 29 r1.1 h23).bind fun t24 => some (Out.ret (A.tup [t24, A.v (.int .i64 0)]), h23)) fun a22 => none else none) fun a19 => some (Out.pan a19, H18.2)))) := by kernel_rfl
theorem e14 (n lo : Nat) (x0 x1 : A) (H : Heap) : evCall1 (cx C) call rg n 14 [x0, x1] H lo =
 (aBox x0 H).bind fun r0 =>
 (aBox x1 r0.2).bind fun r1 =>
 (aFieldAddr prog 29 r0.1 1 r1.2).bind fun t2 =>
 (aLoad prog 3 t2 r1.2).bind fun t3 =>
 (aFieldAddr prog 29 r1.1 1 r1.2).bind fun t4 =>
 (aLoad prog 3 t4 r1.2).bind fun t5 =>
 (aBin prog .eql 3 false false t3 t5).bind fun t6 =>
 (bIf t6 ((aFieldAddr prog 29 r0.1 2 r1.2).bind fun t7 =>
 (aLoad prog 3 t7 r1.2).bind fun t8 =>
 (aFieldAddr prog 29 r1.1 2 r1.2).bind fun t9 =>
 (aLoad prog 3 t9 r1.2).bind fun t10 =>
 (aBin prog .eql 3 false false t8 t10).bind fun t11 => some [t11, t11, t10, t9, t8, t7]) (some [A.v (.bool false), ud, ud, ud, ud, ud])).bind fun l7 => unc l7 fun u8 l8 => unc l8 fun u9 l9 => unc l9 fun u10 l10 => unc l10 fun u11 l11 => unc l11 fun u12 l12 => unc l12 fun u13 l13 =>
 (bIf u8 ((aFieldAddr prog 29 r0.1 0 r1.2).bind fun t14 =>
 (aLoad prog 22 t14 r1.2).bind fun t15 =>
 (aFieldAddr prog 29 r1.1 0 r1.2).bind fun t16 =>
 (aLoad prog 22 t16 r1.2).bind fun t17 =>
 (C 24 [snap r1.2 t15, snap r1.2 t17]).bind fun t18 => some [t18, t18, t17, t16, t15, t14]) (some [A.v (.bool false), ud, ud, ud, ud, ud])).bind fun l14 => unc l14 fun u15 l15 => unc l15 fun u16 l16 => unc l16 fun u17 l17 => unc l17 fun u18 l18 => unc l18 fun u19 l19 => unc l19 fun u20 l20 => some (Out.ret u15, r1.2) := by kernel_rfl
theorem e17 (n lo : Nat) (x0 : A) (H : Heap) : evCall1 (cx C) call rg n 17 [x0] H lo =
 (aBox x0 H).bind fun r0 =>
 (aFieldAddr prog 29 r0.1 1 r0.2).bind fun t1 =>
 (aLoad prog 3 t1 r0.2).bind fun t2 =>
 (aBin prog .lss 3 false true t2 (A.v (.int .i64 1))).bind fun t3 =>
 (bIf t3 (some [A.v (.bool true), ud, ud, ud]) ((aFieldAddr prog 29 r0.1 1 r0.2).bind fun t4 =>
 (aLoad prog 3 t4 r0.2).bind fun t5 =>
 (aBin prog .gtr 3 false true t5 (A.v (.int .i64 4096))).bind fun t6 => some [t6, t6, t5, t4])).bind fun l4 => unc l4 fun u5 l5 => unc l5 fun u6 l6 => unc l6 fun u7 l7 => unc l7 fun u8 l8 =>
 (bIf u5 (some [A.v (.bool true), ud, ud, ud]) ((aFieldAddr prog 29 r0.1 2 r0.2).bind fun t9 =>
 (aLoad prog 3 t9 r0.2).bind fun t10 =>
 (aBin prog .lss 3 false true t10 (A.v (.int .i64 0))).bind fun t11 => some [t11, t11, t10, t9])).bind fun l9 => unc l9 fun u10 l10 => unc l10 fun u11 l11 => unc l11 fun u12 l12 => unc l12 fun u13 l13 =>
 (bIf u10 (some [A.v (.bool true), ud, ud, ud, ud, ud, ud]) ((aFieldAddr prog 29 r0.1 2 r0.2).bind fun t14 =>
 (aLoad prog 3 t14 r0.2).bind fun t15 =>
 (aFieldAddr prog 29 r0.1 0 r0.2).bind fun t16 =>
 (aLoad prog 22 t16 r0.2).bind fun t17 =>
 (aLen prog 22 t17 r0.2).bind fun t18 =>
 (aBin prog .gtr 3 false false t15 t18).bind fun t19 => some [t19, t19, t18, t17, t16, t15, t14])).bind fun l14 => unc l14 fun u15 l15 => unc l15 fun u16 l16 => unc l16 fun u17 l17 => unc l17 fun u18 l18 => unc l18 fun u19 l19 => unc l19 fun u20 l20 => unc l20 fun u21 l21 =>
 (gIf u15 false ((aFieldAddr prog 29 r0.1 0 r0.2).bind fun t22 =>
 (aLoad prog 22 t22 r0.2).bind fun t23 =>
 (C 36 [snap r0.2 t23]).bind fun t24 =>
 (aFieldAddr prog 29 r0.1 1 r0.2).bind fun t25 =>
 (aLoad prog 3 t25 r0.2).bind fun t26 => some [t26, t25, t24, t23, t22]) (some [ud, ud, ud, ud, ud])).bind fun l22 => unc l22 fun u23 l23 => unc l23 fun u24 l24 => unc l24 fun u25 l25 => unc l25 fun u26 l26 => unc l26 fun u27 l27 =>
 (bIf u15 (some [A.v (.bool true), ud]) ((aBin prog .gtr 3 false false u25 u23).bind fun t28 => some [t28, t28])).bind fun l28 => unc l28 fun u29 l29 => unc l29 fun u30 l30 => bIfN u29 (some (Out.ret (A.v (.int .i64 1)), r0.2)) (some (Out.ret (A.v (.int .i64 0)), r0.2)) := by kernel_rfl
theorem e19 (n lo : Nat) (x0 : A) (H : Heap) : evCall1 (cx C) call rg n 19 [x0] H lo =
 (aBox x0 H).bind fun r0 =>
 (aLoad prog 29 r0.1 r0.2).bind fun t1 =>
 (C 17 [snap r0.2 t1]).bind fun t2 =>
 (aBin prog .neq 30 false true t2 (A.v (.int .i64 0))).bind fun t3 => bIfN t3 (some (Out.ret (A.v (.int .i64 0)), r0.2)) ((aFieldAddr prog 29 r0.1 1 r0.2).bind fun t4 =>
 (aLoad prog 3 t4 r0.2).bind fun t5 =>
 (aFieldAddr prog 29 r0.1 0 r0.2).bind fun t6 =>
 (aLoad prog 22 t6 r0.2).bind fun t7 =>
 (C 36 [snap r0.2 t7]).bind fun t8 =>
 (aBin prog .sub 3 false false t5 t8).bind fun t9 =>
 (aBin prog .mul 3 true false (A.v (.int .i64 112)) t9).bind fun t10 => some (Out.ret t10, r0.2)) := by kernel_rfl
theorem e21 (n lo : Nat) (x0 x1 : A) (H : Heap) : evCall1 (cx C) call rg n 21 [x0, x1] H lo =
 (aBox x0 H).bind fun r0 =>
 (aBox x1 r0.2).bind fun r1 =>
 (aAlloc prog 29 r1.2).bind fun r2 =>
 (aAlloc prog 25 r2.2).bind fun r3 =>
 (aLoad prog 29 r0.1 r3.2).bind fun t4 =>
 (C 17 [snap r3.2 t4]).bind fun t5 =>
 (aBin prog .neq 30 false true t5 (A.v (.int .i64 0))).bind fun t6 => bIfN t6 ((aBuild prog 29 []).bind fun t7 =>
 (aBuild prog 25 []).bind fun t8 =>
 (aStore prog 29 r2.1 (stV r2.1 r3.2 t7) r3.2 lo).bind fun H9 =>
 (aStore prog 25 r3.1 (stV r3.1 H9 t8) H9 lo).bind fun H10 =>
 (aLoad prog 29 r2.1 H10).bind fun t11 =>
 (aLoad prog 25 r3.1 H10).bind fun t12 => some (Out.ret (A.tup [t11, t12, t5]), H10)) ((aLoad prog 25 r1.1 r3.2).bind fun t7 =>
 (C 31 [snap r3.2 t7]).bind fun t8 =>
 (aBin prog .neq 30 false true t8 (A.v (.int .i64 0))).bind fun t9 => bIfN t9 ((aBuild prog 29 []).bind fun t10 =>
 (aBuild prog 25 []).bind fun t11 =>
 (aStore prog 29 r2.1 (stV r2.1 r3.2 t10) r3.2 lo).bind fun H12 =>
 (aStore prog 25 r3.1 (stV r3.1 H12 t11) H12 lo).bind fun H13 =>
 (aLoad prog 29 r2.1 H13).bind fun t14 =>
 (aLoad prog 25 r3.1 H13).bind fun t15 => some (Out.ret (A.tup [t14, t15, t8]), H13)) ((aFieldAddr prog 29 r0.1 1 r3.2).bind fun t10 =>
 (aLoad prog 3 t10 r3.2).bind fun t11 =>
 (aFieldAddr prog 25 r1.1 0 r3.2).bind fun t12 =>
 (aLoad prog 22 t12 r3.2).bind fun t13 =>
 (aLen prog 22 t13 r3.2).bind fun t14 =>
 (aBin prog .neq 3 false false t11 t14).bind fun t15 =>
 (bIf t15 ((aFieldAddr prog 25 r1.1 3 r3.2).bind fun t16 =>
 (aLoad prog 4 t16 r3.2).bind fun t17 =>
 (aUn prog UnOp.not t17).bind fun t18 => some [t18, t18, t17, t16]) (some [A.v (.bool false), ud, ud, ud])).bind fun l16 => unc l16 fun u17 l17 => unc l17 fun u18 l18 => unc l18 fun u19 l19 => unc l19 fun u20 l20 => bIfN u17 ((aBuild prog 29 []).bind fun t21 =>
 (aBuild prog 25 []).bind fun t22 =>
 (aStore prog 29 r2.1 (stV r2.1 r3.2 t21) r3.2 lo).bind fun H23 =>
 (aStore prog 25 r3.1 (stV r3.1 H23 t22) H23 lo).bind fun H24 =>
 (aLoad prog 29 r2.1 H24).bind fun t25 =>
 (aLoad prog 25 r3.1 H24).bind fun t26 => some (Out.ret (A.tup [t25, t26, A.v (.int .i64 1)]), H24)) ((aLoad prog 25 r1.1 r3.2).bind fun t21 =>
 (C 12 [snap r3.2 t21]).bind fun t22 =>
 (aExtract t22 0).bind fun t23 =>
 (aExtract t22 1).bind fun t24 =>
 (aAlloc prog 29 r3.2).bind fun r25 =>
 (aStore prog 29 r25.1 (stV r25.1 r25.2 t23) r25.2 lo).bind fun H26 =>
 (aBin prog .neq 30 false true t24 (A.v (.int .i64 0))).bind fun t27 => bIfN t27 ((aBuild prog 29 []).bind fun t28 =>
 (aBuild prog 25 []).bind fun t29 =>
 (aStore prog 29 r2.1 (stV r2.1 H26 t28) H26 lo).bind fun H30 =>
 (aStore prog 25 r3.1 (stV r3.1 H30 t29) H30 lo).bind fun H31 =>
 (aLoad prog 29 r2.1 H31).bind fun t32 =>
 (aLoad prog 25 r3.1 H31).bind fun t33 => some (Out.ret (A.tup [t32, t33, t24]), H31)) ((aFieldAddr prog 25 r1.1 0 H26).bind fun t28 =>
 (aLoad prog 22 t28 H26).bind fun t29 =>
 (aLen prog 22 t29 H26).bind fun t30 => loopR (cx C) call rg n 21 lo 0 (List.length H26) (fun i31 s31 => bif Nat.beq i31 0 then
 (aFieldAddr prog 29 (lk s31 9) 0 (St.H s31)).bind fun t32 =>
 (aLoad prog 22 t32 (St.H s31)).bind fun t33 =>
 (aFieldAddr prog 29 (lk s31 2) 0 (St.H s31)).bind fun t34 =>
 (aLoad prog 22 t34 (St.H s31)).bind fun t35 =>
 (aFieldAddr prog 29 (lk s31 2) 2 (St.H s31)).bind fun t36 =>
 (aLoad prog 3 t36 (St.H s31)).bind fun t37 =>
 (aSlice prog 22 t35 none (some t37) none (St.H s31)).bind fun t38 =>
 (C 42 [snap (St.H s31) t33, snap (St.H s31) t38, snap (St.H s31) (A.fn (Fn.func 43) [] [])]).bind fun t39 =>
 (aUn prog UnOp.not t39).bind fun t40 =>
 (bIf t40 (some [A.v (.bool true), ud, ud, ud]) ((aBin prog .shr 68 false true (lk s31 10) (A.v (.int .u64 32))).bind fun t41 =>
 (aBin prog .neq 68 false true t41 (A.v (.int .u64 0))).bind fun t42 => some [t42, t42, t41, lk s31 10])).bind fun l41 => unc l41 fun u42 l42 => unc l42 fun u43 l43 => unc l43 fun u44 l44 => unc l44 fun u45 l45 => bIfN u42 ((aBuild prog 29 []).bind fun t46 =>
 (aBuild prog 25 []).bind fun t47 =>
 (aStore prog 29 (lk s31 4) (stV (lk s31 4) (St.H s31) t46) (St.H s31) lo).bind fun H48 =>
 (aStore prog 25 (lk s31 5) (stV (lk s31 5) H48 t47) H48 lo).bind fun H49 =>
 (aLoad prog 29 (lk s31 4) H49).bind fun t50 =>
 (aLoad prog 25 (lk s31 5) H49).bind fun t51 => some (Out.ret (A.tup [t50, t51, A.v (.int .i64 50)]), H49)) ((aFieldAddr prog 29 (lk s31 2) 2 (St.H s31)).bind fun t46 =>
 (aLoad prog 3 t46 (St.H s31)).bind fun t47 =>
 (aFieldAddr prog 29 (lk s31 2) 0 (St.H s31)).bind fun t48 =>
 (aLoad prog 22 t48 (St.H s31)).bind fun t49 =>
 (aLen prog 22 t49 (St.H s31)).bind fun t50 =>
 (aBin prog .eql 3 false false t47 t50).bind fun t51 => bIfN t51 ((aLoad prog 29 (lk s31 2) (St.H s31)).bind fun t52 =>
 (aLoad prog 25 (lk s31 3) (St.H s31)).bind fun t53 => bif bif apart (lk s31 3) (lk s31 4) then true else false then
 (aStore prog 29 (lk s31 4) (stV (lk s31 4) (St.H s31) t52) (St.H s31) lo).bind fun H54 =>
 (aStore prog 25 (lk s31 5) (stV (lk s31 5) H54 t53) H54 lo).bind fun H55 =>
 (aLoad prog 29 (lk s31 4) H55).bind fun t56 =>
 (aLoad prog 25 (lk s31 5) H55).bind fun t57 => some (Out.ret (A.tup [t56, t57, A.v (.int .i64 0)]), H55) else none) ((aFieldAddr prog 29 (lk s31 2) 0 (St.H s31)).bind fun t52 =>
 (aLoad prog 22 t52 (St.H s31)).bind fun t53 =>
 (aFieldAddr prog 29 (lk s31 2) 2 (St.H s31)).bind fun t54 =>
 (aLoad prog 3 t54 (St.H s31)).bind fun t55 =>
 (aSlice prog 22 t53 none (some t55) none (St.H s31)).bind fun t56 =>
 (C 36 [snap (St.H s31) t56]).bind fun t57 =>
 (aFieldAddr prog 29 (lk s31 2) 0 (St.H s31)).bind fun t58 =>
 (aLoad prog 22 t58 (St.H s31)).bind fun t59 =>
 (aFieldAddr prog 29 (lk s31 2) 2 (St.H s31)).bind fun t60 =>
 (aLoad prog 3 t60 (St.H s31)).bind fun t61 =>
 (aSlice prog 22 t59 (some t61) none none (St.H s31)).bind fun t62 =>
 (aLen prog 22 t62 (St.H s31)).bind fun t63 => loopR (cx C) call rg n 21 lo 1 (List.length (St.H s31)) (fun i64 s64 => bif Nat.beq i64 2 then
 (aLoad prog 25 (lk s64 3) (St.H s64)).bind fun t65 =>
 (C 27 [snap (St.H s64) t65]).bind fun t66 =>
 (aExtract t66 0).bind fun t67 =>
 (aExtract t66 1).bind fun t68 =>
 (aStore prog 25 (lk s64 3) (stV (lk s64 3) (St.H s64) t67) (St.H s64) lo).bind fun H69 =>
 (aBin prog .neq 30 false true t68 (A.v (.int .i64 0))).bind fun t70 => bIfN t70 ((aBuild prog 29 []).bind fun t71 =>
 (aLoad prog 25 (lk s64 3) H69).bind fun t72 => bif bif apart (lk s64 3) (lk s64 4) then true else false then
 (aStore prog 29 (lk s64 4) (stV (lk s64 4) H69 t71) H69 lo).bind fun H73 =>
 (aStore prog 25 (lk s64 5) (stV (lk s64 5) H73 t72) H73 lo).bind fun H74 =>
 (aLoad prog 29 (lk s64 4) H74).bind fun t75 =>
 (aLoad prog 25 (lk s64 5) H74).bind fun t76 => some (Out.ret (A.tup [t75, t76, t68]), H74) else none) ((aFieldAddr prog 29 (lk s64 2) 0 H69).bind fun t71 =>
 (aLoad prog 22 t71 H69).bind fun t72 =>
 (aLen prog 22 t72 H69).bind fun t73 =>
 (aFieldAddr prog 29 (lk s64 2) 2 H69).bind fun t74 =>
 (aStore prog 3 t74 (stV t74 H69 t73) H69 lo).bind fun H75 =>
 (aLoad prog 29 (lk s64 2) H75).bind fun t76 =>
 (aLoad prog 25 (lk s64 3) H75).bind fun t77 => bif bif apart (lk s64 3) (lk s64 4) then true else false then
 (aStore prog 29 (lk s64 4) (stV (lk s64 4) H75 t76) H75 lo).bind fun H78 =>
 (aStore prog 25 (lk s64 5) (stV (lk s64 5) H78 t77) H78 lo).bind fun H79 =>
 (aLoad prog 29 (lk s64 4) H79).bind fun t80 =>
 (aLoad prog 25 (lk s64 5) H79).bind fun t81 => some (Out.ret (A.tup [t80, t81, A.v (.int .i64 0)]), H79) else none) else none) (fun i64 s64 => none) (fun a64 =>
 (aLoad prog 29 (lk a64 4) (St.H a64)).bind fun t65 =>
 (aLoad prog 25 (lk a64 5) (St.H a64)).bind fun t66 => some (Out.ret (A.tup [t65, t66, lk a64 6]), St.H a64)) (fun i64 s64 => some (Out.pan i64, St.H s64)) n (St.mk [(2, lk s31 2), (3, lk s31 3), (4, lk s31 4), (5, lk s31 5), (6, lk s31 6), (10, lk s31 10), (13, t57), (108, t62), (109, t63), (110, A.v (.int .i64 0))] (St.H s31)))) else none) (fun i31 s31 => none) (fun a31 =>
 (aLoad prog 29 (lk a31 4) (St.H a31)).bind fun t32 =>
 (aLoad prog 25 (lk a31 5) (St.H a31)).bind fun t33 => some (Out.ret (A.tup [t32, t33, lk a31 6]), St.H a31)) (fun i31 s31 => some (Out.pan i31, St.H s31)) n (St.mk [(2, r0.1), (3, r1.1), (4, r2.1), (5, r3.1), (6, t24), (9, r25.1), (10, A.v (.int .u64 1)), (57, t29), (58, t30), (59, A.v (.int .i64 0))] H26))))) := by kernel_rfl
theorem e23 (n lo : Nat) (x0 x1 : A) (H : Heap) : evCall1 (cx C) call rg n 23 [x0, x1] H lo =
 (aBox x0 H).bind fun r0 =>
 (aBox x1 r0.2).bind fun r1 =>
 (aFieldAddr prog 25 r0.1 0 r1.2).bind fun t2 =>
 (aLoad prog 22 t2 r1.2).bind fun t3 =>
 (aLen prog 22 t3 r1.2).bind fun t4 =>
 (aFieldAddr prog 25 r1.1 0 r1.2).bind fun t5 =>
 (aLoad prog 22 t5 r1.2).bind fun t6 =>
 (aLen prog 22 t6 r1.2).bind fun t7 =>
 (aBin prog .neq 3 false false t4 t7).bind fun t8 =>
 (bIf t8 (some [A.v (.bool true), ud, ud, ud, ud, ud, ud, ud]) ((aFieldAddr prog 25 r0.1 1 r1.2).bind fun t9 =>
 (aLoad prog 23 t9 r1.2).bind fun t10 =>
 (aLen prog 23 t10 r1.2).bind fun t11 =>
 (aFieldAddr prog 25 r1.1 1 r1.2).bind fun t12 =>
 (aLoad prog 23 t12 r1.2).bind fun t13 =>
 (aLen prog 23 t13 r1.2).bind fun t14 =>
 (aBin prog .neq 3 false false t11 t14).bind fun t15 => some [t15, t15, t14, t13, t12, t11, t10, t9])).bind fun l9 => unc l9 fun u10 l10 => unc l10 fun u11 l11 => unc l11 fun u12 l12 => unc l12 fun u13 l13 => unc l13 fun u14 l14 => unc l14 fun u15 l15 => unc l15 fun u16 l16 => unc l16 fun u17 l17 =>
 (bIf u10 (some [A.v (.bool true), ud, ud, ud, ud, ud]) ((aFieldAddr prog 25 r0.1 2 r1.2).bind fun t18 =>
 (aLoad prog 3 t18 r1.2).bind fun t19 =>
 (aFieldAddr prog 25 r1.1 2 r1.2).bind fun t20 =>
 (aLoad prog 3 t20 r1.2).bind fun t21 =>
 (aBin prog .neq 3 false false t19 t21).bind fun t22 => some [t22, t22, t21, t20, t19, t18])).bind fun l18 => unc l18 fun u19 l19 => unc l19 fun u20 l20 => unc l20 fun u21 l21 => unc l21 fun u22 l22 => unc l22 fun u23 l23 => unc l23 fun u24 l24 =>
 (bIf u19 (some [A.v (.bool true), ud, ud, ud, ud, ud]) ((aFieldAddr prog 25 r0.1 3 r1.2).bind fun t25 =>
 (aLoad prog 4 t25 r1.2).bind fun t26 =>
 (aFieldAddr prog 25 r1.1 3 r1.2).bind fun t27 =>
 (aLoad prog 4 t27 r1.2).bind fun t28 =>
 (aBin prog .neq 4 false false t26 t28).bind fun t29 => some [t29, t29, t28, t27, t26, t25])).bind fun l25 => unc l25 fun u26 l26 => unc l26 fun u27 l27 => unc l27 fun u28 l28 => unc l28 fun u29 l29 => unc l29 fun u30 l30 => unc l30 fun u31 l31 => bIfN u26 (some (Out.ret (A.v (.bool false)), r1.2)) (loopR (cx C) call rg n 23 lo 0 (List.length r1.2) (fun i32 s32 => bif Nat.beq i32 0 then loopR (cx C) call rg n 23 lo 1 (List.length (St.H s32)) (fun i33 s33 => bif Nat.beq i33 2 then some (Out.ret (A.v (.bool true)), St.H s33) else none) (fun i33 s33 => none) (fun a33 => some (Out.ret (lk a33 4), St.H a33)) (fun i33 s33 => some (Out.pan i33, St.H s33)) n (St.mk [(2, lk s32 2), (3, lk s32 3), (4, lk s32 4), (6, A.v (.int .i64 0))] (St.H s32)) else none) (fun i32 s32 => none) (fun a32 => some (Out.ret (lk a32 4), St.H a32)) (fun i32 s32 => some (Out.pan i32, St.H s32)) n (St.mk [(2, r0.1), (3, r1.1), (4, A.v (.bool false)), (5, A.v (.int .i64 0))] r1.2)) := by kernel_rfl
theorem e24 (n lo : Nat) (x0 x1 : A) (H : Heap) : evCall1 (cx C) call rg n 24 [x0, x1] H lo =
 (aLen prog 22 x0 H).bind fun t0 =>
 (aLen prog 22 x1 H).bind fun t1 =>
 (aBin prog .neq 3 false false t0 t1).bind fun t2 => bIfN t2 (some (Out.ret (A.v (.bool false)), H)) (loopR (cx C) call rg n 24 lo 0 (List.length H) (fun i3 s3 => bif Nat.beq i3 0 then some (Out.ret (A.v (.bool true)), St.H s3) else none) (fun i3 s3 => none) (fun a3 => some (Out.ret (lk a3 4), St.H a3)) (fun i3 s3 => some (Out.pan i3, St.H s3)) n (St.mk [(0, x0), (1, x1), (4, A.v (.bool false)), (5, A.v (.int .i64 0))] H)) := by kernel_rfl
theorem e25 (n lo : Nat) (x0 : A) (H : Heap) : evCall1 (cx C) call rg n 25 [x0] H lo =
 (aAlloc prog 25 H).bind fun r0 =>
 (aBin prog .lss 3 false true x0 (A.v (.int .i64 1))).bind fun t1 =>
 (bIf t1 (some [A.v (.bool true), ud, ud]) ((aBin prog .gtr 3 false true x0 (A.v (.int .i64 4096))).bind fun t2 => some [t2, t2, x0])).bind fun l2 => unc l2 fun u3 l3 => unc l3 fun u4 l4 => unc l4 fun u5 l5 => bIfN u3 ((aLoad prog 25 r0.1 r0.2).bind fun t6 =>
 (aStore prog 25 r0.1 (stV r0.1 r0.2 t6) r0.2 lo).bind fun H7 =>
 (aLoad prog 25 r0.1 H7).bind fun t8 => some (Out.ret (A.tup [t8, A.v (.int .i64 1)]), H7)) ((aMakeSlice prog 35 (A.v (.int .i64 128)) (A.v (.int .i64 128)) r0.2).bind fun r6 =>
 (aKill lo r6.1 r6.2).bind fun r7 =>
 (aBuildSlice prog 22 1 [(0, frzA r7.2 r7.1)]).bind fun t8 =>
 (C 49 [snap r7.2 t8, snap r7.2 x0]).bind fun t9 =>
 (aBuild prog 25 [(0, t9), (2, A.v (.int .i64 (-1)))]).bind fun t10 =>
 (aStore prog 25 r0.1 (stV r0.1 r7.2 t10) r7.2 lo).bind fun H11 =>
 (aLoad prog 25 r0.1 H11).bind fun t12 => some (Out.ret (A.tup [t12, A.v (.int .i64 0)]), H11)) := by kernel_rfl
theorem e26 (n lo : Nat) (x0 x1 x2 : A) (H : Heap) : evCall1 (cx C) call rg n 26 [x0, x1, x2] H lo =
 (aBox x0 H).bind fun r0 =>
 (aAlloc prog 25 r0.2).bind fun r1 =>
 (aLoad prog 25 r0.1 r1.2).bind fun t2 =>
 (C 50 [snap r1.2 t2]).bind fun t3 =>
 (aUn prog UnOp.not t3).bind fun t4 =>
 (bIf t4 (some [A.v (.bool true), ud, ud, ud, ud]) ((aLoad prog 25 r0.1 r1.2).bind fun t5 =>
 (C 51 [snap r1.2 t5, snap r1.2 x1]).bind fun t6 =>
 (aUn prog UnOp.not t6).bind fun t7 => some [t7, t7, t6, x1, t5])).bind fun l5 => unc l5 fun u6 l6 => unc l6 fun u7 l7 => unc l7 fun u8 l8 => unc l8 fun u9 l9 => unc l9 fun u10 l10 => bIfN u6 ((aLoad prog 25 r1.1 r1.2).bind fun t11 =>
 (aStore prog 25 r1.1 (stV r1.1 r1.2 t11) r1.2 lo).bind fun H12 =>
 (aLoad prog 25 r1.1 H12).bind fun t13 => some (Out.ret (A.tup [t13, A.v (.int .i64 40)]), H12)) ((aLen prog 35 x2 r1.2).bind fun t11 =>
 (aBin prog .gtr 3 false true t11 (A.v (.int .i64 128))).bind fun t12 => bIfN t12 ((aLoad prog 25 r1.1 r1.2).bind fun t13 =>
 (aStore prog 25 r1.1 (stV r1.1 r1.2 t13) r1.2 lo).bind fun H14 =>
 (aLoad prog 25 r1.1 H14).bind fun t15 => some (Out.ret (A.tup [t15, A.v (.int .i64 1)]), H14)) ((aFieldAddr prog 25 r0.1 1 r1.2).bind fun t13 =>
 (aLoad prog 23 t13 r1.2).bind fun t14 =>
 (aLen prog 23 t14 r1.2).bind fun t15 =>
 (aBin prog .eql 3 false true t15 (A.v (.int .i64 4096))).bind fun t16 => bIfN t16 ((aLoad prog 25 r1.1 r1.2).bind fun t17 =>
 (aStore prog 25 r1.1 (stV r1.1 r1.2 t17) r1.2 lo).bind fun H18 =>
 (aLoad prog 25 r1.1 H18).bind fun t19 => some (Out.ret (A.tup [t19, A.v (.int .i64 2)]), H18)) ((aMakeSlice prog 35 (A.v (.int .i64 128)) (A.v (.int .i64 128)) r1.2).bind fun r17 =>
 (aCopy prog 35 r17.1 x2 r17.2 lo).bind fun r18 =>
 (aKill lo r17.1 r18.2).bind fun r19 =>
 (aFieldAddr prog 25 r0.1 1 r19.2).bind fun t20 =>
 (aLoad prog 23 t20 r19.2).bind fun t21 =>
 (C 53 [snap r19.2 t21]).bind fun t22 =>
 (call 52 [t22] r19.2 lo).bind fun H23 => outK H23.1 (fun a24 =>
 (aBuild prog 76 [(0, x1), (1, r19.1)]).bind fun t25 =>
 (aBuildSlice prog 23 1 [(0, frzA H23.2 t25)]).bind fun t26 =>
 (aAppend prog 23 23 false a24 t26 H23.2 lo).bind fun r27 =>
 (aFieldAddr prog 25 r0.1 1 r27.2).bind fun t28 =>
 (aStore prog 23 t28 (stV t28 r27.2 r27.1) r27.2 lo).bind fun H29 =>
 (aLoad prog 25 r0.1 H29).bind fun t30 =>
 (aStore prog 25 r1.1 (stV r1.1 H29 t30) H29 lo).bind fun H31 =>
 (aLoad prog 25 r1.1 H31).bind fun t32 => some (Out.ret (A.tup [t32, A.v (.int .i64 0)]), H31)) fun a24 => some (Out.pan a24, H23.2)))) := by kernel_rfl
theorem e27 (n lo : Nat) (x0 : A) (H : Heap) : evCall1 (cx C) call rg n 27 [x0] H lo =
 (aBox x0 H).bind fun r0 =>
 (aAlloc prog 25 r0.2).bind fun r1 =>
 (aLoad prog 25 r0.1 r1.2).bind fun t2 =>
 (C 50 [snap r1.2 t2]).bind fun t3 =>
 (aUn prog UnOp.not t3).bind fun t4 => bIfN t4 ((aLoad prog 25 r1.1 r1.2).bind fun t5 =>
 (aStore prog 25 r1.1 (stV r1.1 r1.2 t5) r1.2 lo).bind fun H6 =>
 (aLoad prog 25 r1.1 H6).bind fun t7 => some (Out.ret (A.tup [t7, A.v (.int .i64 40)]), H6)) ((aFieldAddr prog 25 r0.1 1 r1.2).bind fun t5 =>
 (aLoad prog 23 t5 r1.2).bind fun t6 =>
 (aLen prog 23 t6 r1.2).bind fun t7 =>
 (aFieldAddr prog 25 r0.1 2 r1.2).bind fun t8 =>
 (aLoad prog 3 t8 r1.2).bind fun t9 =>
 (aBin prog .geq 3 false true t9 (A.v (.int .i64 0))).bind fun t10 =>
 (bIf t10 ((aFieldAddr prog 25 r0.1 2 r1.2).bind fun t11 =>
 (aLoad prog 3 t11 r1.2).bind fun t12 =>
 (aBin prog .lss 3 false false t12 t7).bind fun t13 => some [t13, t13, t7, t12, t11]) (some [A.v (.bool false), ud, ud, ud, ud])).bind fun l11 => unc l11 fun u12 l12 => unc l12 fun u13 l13 => unc l13 fun u14 l14 => unc l14 fun u15 l15 => unc l15 fun u16 l16 => bIfN u12 ((aFieldAddr prog 25 r0.1 1 r1.2).bind fun t17 =>
 (aLoad prog 23 t17 r1.2).bind fun t18 =>
 (aFieldAddr prog 25 r0.1 2 r1.2).bind fun t19 =>
 (aLoad prog 3 t19 r1.2).bind fun t20 =>
 (aFieldAddr prog 25 r0.1 2 r1.2).bind fun t21 =>
 (aLoad prog 3 t21 r1.2).bind fun t22 =>
 (aSlice prog 23 t18 none (some t20) (some t22) r1.2).bind fun t23 =>
 (aFieldAddr prog 25 r0.1 0 r1.2).bind fun t24 =>
 (aLoad prog 22 t24 r1.2).bind fun t25 =>
 (call 54 [t25, t23] r1.2 lo).bind fun H26 => outK H26.1 (fun a27 =>
 (aBuild prog 25 [(0, a27), (3, A.v (.bool true))]).bind fun t28 =>
 (aStore prog 25 r1.1 (stV r1.1 H26.2 t28) H26.2 lo).bind fun H29 =>
 (aFieldAddr prog 25 r0.1 1 H29).bind fun t30 =>
 (aLoad prog 23 t30 H29).bind fun t31 =>
 (aFieldAddr prog 25 r0.1 2 H29).bind fun t32 =>
 (aLoad prog 3 t32 H29).bind fun t33 =>
 (aIndexAddr prog 23 t31 t33 H29).bind fun t34 =>
 (aLoad prog 76 t34 H29).bind fun t35 =>
 (aAlloc prog 76 H29).bind fun r36 =>
 (aStore prog 76 r36.1 (stV r36.1 r36.2 t35) r36.2 lo).bind fun H37 =>
 (aFieldAddr prog 25 r1.1 0 H37).bind fun t38 =>
 (aLoad prog 22 t38 H37).bind fun t39 =>
 (aFieldAddr prog 76 r36.1 0 H37).bind fun t40 =>
 (aLoad prog 3 t40 H37).bind fun t41 =>
 (aIndexAddr prog 22 t39 t41 H37).bind fun t42 =>
 (aLoad prog 35 t42 H37).bind fun t43 =>
 (call 38 [t43] H37 lo).bind fun H44 => outK H44.1 (fun a45 =>
 (aSlice prog 35 a45 none (some (A.v (.int .i64 64))) none H44.2).bind fun t46 =>
 (aFieldAddr prog 76 r36.1 1 H44.2).bind fun t47 =>
 (aLoad prog 35 t47 H44.2).bind fun t48 =>
 (aCopy prog 35 t46 t48 H44.2 lo).bind fun r49 =>
 (aKill lo a45 r49.2).bind fun r50 =>
 (aFieldAddr prog 25 r1.1 0 r50.2).bind fun t51 =>
 (aLoad prog 22 t51 r50.2).bind fun t52 =>
 (aFieldAddr prog 76 r36.1 0 r50.2).bind fun t53 =>
 (aLoad prog 3 t53 r50.2).bind fun t54 =>
 (aIndexAddr prog 22 t52 t54 r50.2).bind fun t55 =>
 (aStore prog 35 t55 (stV t55 r50.2 r50.1) r50.2 lo).bind fun H56 =>
 (aLoad prog 25 r1.1 H56).bind fun t57 =>
 (aStore prog 25 r1.1 (stV r1.1 H56 t57) H56 lo).bind fun H58 =>
 (aLoad prog 25 r1.1 H58).bind fun t59 => some (Out.ret (A.tup [t59, A.v (.int .i64 40)]), H58)) fun a45 => some (Out.pan a45, H44.2)) fun a27 => some (Out.pan a27, H26.2)) ((aFieldAddr prog 25 r0.1 0 r1.2).bind fun t17 =>
 (aLoad prog 22 t17 r1.2).bind fun t18 =>
 (aFieldAddr prog 25 r0.1 1 r1.2).bind fun t19 =>
 (aLoad prog 23 t19 r1.2).bind fun t20 =>
 (C 54 [snap r1.2 t18, snap r1.2 t20]).bind fun t21 =>
 (aFieldAddr prog 25 r0.1 2 r1.2).bind fun t22 =>
 (aLoad prog 3 t22 r1.2).bind fun t23 =>
 (aBuild prog 25 [(0, t21), (2, t23)]).bind fun t24 =>
 (aStore prog 25 r1.1 (stV r1.1 r1.2 t24) r1.2 lo).bind fun H25 =>
 (aFieldAddr prog 25 r1.1 2 H25).bind fun t26 =>
 (aLoad prog 3 t26 H25).bind fun t27 =>
 (aBin prog .geq 3 false true t27 (A.v (.int .i64 0))).bind fun t28 => bIfN t28 ((aFieldAddr prog 25 r1.1 2 H25).bind fun t29 =>
 (aLoad prog 3 t29 H25).bind fun t30 =>
 (aBin prog .sub 3 false false t30 t7).bind fun t31 =>
 (aFieldAddr prog 25 r1.1 2 H25).bind fun t32 =>
 (aStore prog 3 t32 (stV t32 H25 t31) H25 lo).bind fun H33 =>
 (aLoad prog 25 r1.1 H33).bind fun t34 =>
 (aStore prog 25 r1.1 (stV r1.1 H33 t34) H33 lo).bind fun H35 =>
 (aLoad prog 25 r1.1 H35).bind fun t36 => some (Out.ret (A.tup [t36, A.v (.int .i64 0)]), H35)) ((aLoad prog 25 r1.1 H25).bind fun t29 =>
 (aStore prog 25 r1.1 (stV r1.1 H25 t29) H25 lo).bind fun H30 =>
 (aLoad prog 25 r1.1 H30).bind fun t31 => some (Out.ret (A.tup [t31, A.v (.int .i64 0)]), H30)))) := by kernel_rfl
theorem e28 (n lo : Nat) (x0 x1 : A) (H : Heap) : evCall1 (cx C) call rg n 28 [x0, x1] H lo =
 (aBox x0 H).bind fun r0 =>
 (aAlloc prog 29 r0.2).bind fun r1 =>
 (aLen prog 22 x1 r1.2).bind fun t2 => loopR (cx C) call rg n 28 lo 0 (List.length r1.2) (fun i3 s3 => bif Nat.beq i3 0 then
 (aLoad prog 29 (lk s3 2) (St.H s3)).bind fun t4 =>
 (aStore prog 29 (lk s3 4) (stV (lk s3 4) (St.H s3) t4) (St.H s3) lo).bind fun H5 =>
 (aLoad prog 29 (lk s3 4) H5).bind fun t6 => some (Out.ret t6, H5) else none) (fun i3 s3 => none) (fun a3 =>
 (aLoad prog 29 (lk a3 4) (St.H a3)).bind fun t4 => some (Out.ret t4, St.H a3)) (fun i3 s3 => some (Out.pan i3, St.H s3)) n (St.mk [(2, r0.1), (4, r1.1), (9, x1), (10, t2), (11, A.v (.int .i64 0))] r1.2) := by kernel_rfl
theorem e31 (n lo : Nat) (x0 : A) (H : Heap) : evCall1 (cx C) call rg n 31 [x0] H lo =
 (aBox x0 H).bind fun r0 =>
 (aFieldAddr prog 25 r0.1 0 r0.2).bind fun t1 =>
 (aLoad prog 22 t1 r0.2).bind fun t2 =>
 (aLen prog 22 t2 r0.2).bind fun t3 =>
 (aAlloc prog 3 r0.2).bind fun r4 =>
 (aStore prog 3 r4.1 (stV r4.1 r4.2 t3) r4.2 lo).bind fun H5 =>
 (aLoad prog 3 r4.1 H5).bind fun t6 =>
 (aBin prog .lss 3 false true t6 (A.v (.int .i64 1))).bind fun t7 =>
 (bIf t7 (some [A.v (.bool true), ud, ud]) ((aLoad prog 3 r4.1 H5).bind fun t8 =>
 (aBin prog .gtr 3 false true t8 (A.v (.int .i64 4096))).bind fun t9 => some [t9, t9, t8])).bind fun l8 => unc l8 fun u9 l9 => unc l9 fun u10 l10 => unc l10 fun u11 l11 =>
 (bIf u9 (some [A.v (.bool true), ud, ud, ud, ud]) ((aFieldAddr prog 25 r0.1 1 H5).bind fun t12 =>
 (aLoad prog 23 t12 H5).bind fun t13 =>
 (aLen prog 23 t13 H5).bind fun t14 =>
 (aBin prog .gtr 3 false true t14 (A.v (.int .i64 4096))).bind fun t15 => some [t15, t15, t14, t13, t12])).bind fun l12 => unc l12 fun u13 l13 => unc l13 fun u14 l14 => unc l14 fun u15 l15 => unc l15 fun u16 l16 => unc l16 fun u17 l17 =>
 (bIf u13 (some [A.v (.bool true), ud, ud, ud]) ((aFieldAddr prog 25 r0.1 2 H5).bind fun t18 =>
 (aLoad prog 3 t18 H5).bind fun t19 =>
 (aBin prog .lss 3 false true t19 (A.v (.int .i64 (-1)))).bind fun t20 => some [t20, t20, t19, t18])).bind fun l18 => unc l18 fun u19 l19 => unc l19 fun u20 l20 => unc l20 fun u21 l21 => unc l21 fun u22 l22 =>
 (bIf u19 (some [A.v (.bool true), ud, ud, ud]) ((aFieldAddr prog 25 r0.1 2 H5).bind fun t23 =>
 (aLoad prog 3 t23 H5).bind fun t24 =>
 (aBin prog .gtr 3 false true t24 (A.v (.int .i64 65536))).bind fun t25 => some [t25, t25, t24, t23])).bind fun l23 => unc l23 fun u24 l24 => unc l24 fun u25 l25 => unc l25 fun u26 l26 => unc l26 fun u27 l27 =>
 (gIf u24 false ((aFieldAddr prog 25 r0.1 1 H5).bind fun t28 => some t28) (some (ud))).bind fun t28 =>
 (gIf u24 false ((aLoad prog 23 t28 H5).bind fun t29 => some t29) (some (ud))).bind fun t29 =>
 (gIf u24 false (some (A.fn (Fn.func 55) [] [r4.1])) (some (ud))).bind fun t30 => gIf u24 false ((call 57 [t29, t30] H5 lo).bind fun H31 => outK H31.1 (fun a32 =>
 (bIf u24 (some (A.v (.bool true))) (some a32)).bind fun t33 => bIfN t33 (some (Out.ret (A.v (.int .i64 40)), H31.2)) ((aFieldAddr prog 25 r0.1 0 H31.2).bind fun t34 =>
 (aLoad prog 22 t34 H31.2).bind fun t35 =>
 (C 58 [snap H31.2 t35, snap H31.2 (A.fn (Fn.func 59) [] [])]).bind fun t36 => bIfN t36 (some (Out.ret (A.v (.int .i64 40)), H31.2)) (some (Out.ret (A.v (.int .i64 0)), H31.2)))) fun a32 => some (Out.pan a32, H31.2)) ((bIf u24 (some (A.v (.bool true))) (some (ud))).bind fun t31 => bIfN t31 (some (Out.ret (A.v (.int .i64 40)), H5)) ((aFieldAddr prog 25 r0.1 0 H5).bind fun t32 =>
 (aLoad prog 22 t32 H5).bind fun t33 =>
 (C 58 [snap H5 t33, snap H5 (A.fn (Fn.func 59) [] [])]).bind fun t34 => bIfN t34 (some (Out.ret (A.v (.int .i64 40)), H5)) (some (Out.ret (A.v (.int .i64 0)), H5)))) := by kernel_rfl
theorem e32 (n lo : Nat) (x0 : A) (H : Heap) : evCall1 (cx C) call rg n 32 [x0] H lo =
 (aBox x0 H).bind fun r0 => some (Out.ret (A.fn (Fn.func 60) [] [r0.1]), r0.2) := by kernel_rfl
theorem e35 (n lo : Nat) (x0 : A) (H : Heap) : evCall1 (cx C) call rg n 35 [x0] H lo =
 (aLen prog 35 x0 H).bind fun t0 =>
 (aBin prog .add 3 false true t0 (A.v (.int .i64 112))).bind fun t1 =>
 (aBin prog .sub 3 false true t1 (A.v (.int .i64 1))).bind fun t2 =>
 (aBin prog .quo 3 false true t2 (A.v (.int .i64 112))).bind fun t3 =>
 (aMM false (A.v (.int .i64 1)) [t3]).bind fun t4 => some (Out.ret t4, H) := by kernel_rfl
theorem e36 (n lo : Nat) (x0 : A) (H : Heap) : evCall1 (cx C) call rg n 36 [x0] H lo =
 (aLen prog 22 x0 H).bind fun t0 => loopR (cx C) call rg n 36 lo 0 (List.length H) (fun i1 s1 => bif Nat.beq i1 0 then some (Out.ret (lk s1 2), St.H s1) else none) (fun i1 s1 => none) (fun a1 => some (Out.ret (lk a1 2), St.H a1)) (fun i1 s1 => some (Out.pan i1, St.H s1)) n (St.mk [(2, A.v (.int .i64 0)), (5, x0), (6, t0), (7, A.v (.int .i64 0))] H) := by kernel_rfl
theorem e38 (n lo : Nat) (x0 : A) (H : Heap) : evCall1 (cx C) call rg n 38 [x0] H lo =
 (aNq prog 35 x0).bind fun t0 => bIfN t0 (some (Out.ret (seedW (500001 - 500000) (St.H (St.mk [(2, A.imm [] true), (4, t0), (3, x0), (2, A.imm [] true), (0, x0)] H)) (look (St.fr (St.mk [(2, A.imm [] true), (4, t0), (3, x0), (2, A.imm [] true), (0, x0)] H)) (Prod.fst (2, 0, 500002)))).1, (seedW (500001 - 500000) (St.H (St.mk [(2, A.imm [] true), (4, t0), (3, x0), (2, A.imm [] true), (0, x0)] H)) (look (St.fr (St.mk [(2, A.imm [] true), (4, t0), (3, x0), (2, A.imm [] true), (0, x0)] H)) (Prod.fst (2, 0, 500002)))).2)) ((aBuildSlice prog 35 0 []).bind fun t1 =>
 (aAppend prog 35 35 true t1 x0 H lo).bind fun r2 => some (Out.ret (seedW (500001 - 500000) (St.H (St.mk [(2, r2.1), (7, r2.1), (6, x0), (5, t1), (4, t0), (3, x0), (2, A.imm [] true), (0, x0)] r2.2)) (look (St.fr (St.mk [(2, r2.1), (7, r2.1), (6, x0), (5, t1), (4, t0), (3, x0), (2, A.imm [] true), (0, x0)] r2.2)) (Prod.fst (2, 0, 500002)))).1, (seedW (500001 - 500000) (St.H (St.mk [(2, r2.1), (7, r2.1), (6, x0), (5, t1), (4, t0), (3, x0), (2, A.imm [] true), (0, x0)] r2.2)) (look (St.fr (St.mk [(2, r2.1), (7, r2.1), (6, x0), (5, t1), (4, t0), (3, x0), (2, A.imm [] true), (0, x0)] r2.2)) (Prod.fst (2, 0, 500002)))).2)) := by kernel_rfl
theorem e41 (n lo : Nat) (x0 : A) (H : Heap) : evCall1 (cx C) call rg n 41 [x0] H lo =
 (aLen prog 35 x0 H).bind fun t0 => loopR (cx C) call rg n 41 lo 0 (List.length H) (fun i1 s1 => bif Nat.beq i1 0 then some (Out.ret (lk s1 2), St.H s1) else none) (fun i1 s1 => none) (fun a1 => some (Out.ret (lk a1 2), St.H a1)) (fun i1 s1 => some (Out.pan i1, St.H s1)) n (St.mk [(2, A.v (.int .u64 0)), (5, x0), (6, t0), (7, A.v (.int .i64 0))] H) := by kernel_rfl
theorem e42 (n lo : Nat) (x0 x1 x2 : A) (H : Heap) : evCall1 (cx C) call rg n 42 [x0, x1, x2] H lo =
 (aLen prog 22 x0 H).bind fun t0 =>
 (aLen prog 22 x1 H).bind fun t1 =>
 (aBin prog .neq 3 false false t0 t1).bind fun t2 => bIfN t2 (some (Out.ret (A.v (.bool false)), H)) ((aLen prog 22 x0 H).bind fun t3 => loopR (cx C) call rg n 42 lo 0 (List.length H) (fun i4 s4 => bif Nat.beq i4 0 then some (Out.ret (A.v (.bool true)), St.H s4) else none) (fun i4 s4 => none) (fun a4 => some (Out.ret (lk a4 6), St.H a4)) (fun i4 s4 => some (Out.pan i4, St.H s4)) n (St.mk [(1, x1), (2, x2), (6, A.v (.bool false)), (15, x0), (16, t3), (17, A.v (.int .i64 0))] H)) := by kernel_rfl
theorem e43 (n lo : Nat) (x0 x1 : A) (H : Heap) : evCall1 (cx C) call rg n 43 [x0, x1] H lo =
 (aConvert prog 35 9 x0 H).bind fun t0 =>
 (aConvert prog 35 9 x1 H).bind fun t1 =>
 (aBin prog .eql 9 false false t0 t1).bind fun t2 => some (Out.ret t2, H) := by kernel_rfl
theorem e44 (n lo : Nat) (x0 x1 x2 x3 : A) (H : Heap) : evCall1 (cx C) call rg n 44 [x0, x1, x2, x3] H lo =
 (aAllocR prog 89 H).bind fun r0 =>
 (aSlice prog 89 r0.1 none (some (A.v (.int .i64 4))) none r0.2).bind fun t1 =>
 (call 64 [t1, x0] r0.2 lo).bind fun H2 => outK H2.1 (fun a3 =>
 (aSlice prog 89 r0.1 (some (A.v (.int .i64 8))) (some (A.v (.int .i64 10))) none H2.2).bind fun t4 =>
 (aConvert prog 3 68 x1 H2.2).bind fun t5 =>
 (call 64 [t4, t5] H2.2 lo).bind fun H6 => outK H6.1 (fun a7 =>
 (aLen prog 35 x3 H6.2).bind fun t8 =>
 (aConvert prog 3 5 t8 H6.2).bind fun t9 =>
 (aIndexAddr prog 89 r0.1 (A.v (.int .i64 10)) H6.2).bind fun t10 =>
 (aStore prog 5 t10 (stV t10 H6.2 x2) H6.2 lo).bind fun H11 =>
 (aIndexAddr prog 89 r0.1 (A.v (.int .i64 11)) H11).bind fun t12 =>
 (aStore prog 5 t12 (stV t12 H11 t9) H11 lo).bind fun H13 =>
 (aSlice prog 89 r0.1 (some (A.v (.int .i64 12))) none none H13).bind fun t14 =>
 (aCopy prog 35 t14 x3 H13 lo).bind fun r15 =>
 (aSlice prog 89 r0.1 (some (A.v (.int .i64 124))) none none r15.2).bind fun t16 =>
 (call 64 [t16, x0] r15.2 lo).bind fun H17 => outK H17.1 (fun a18 =>
 (aSlice prog 89 r0.1 (some (A.v (.int .i64 4))) (some (A.v (.int .i64 8))) none H17.2).bind fun t19 =>
 (aSlice prog 89 r0.1 (some (A.v (.int .i64 8))) (some (A.v (.int .i64 124))) none H17.2).bind fun t20 =>
 ((call 65 [t20] H17.2 (List.length H17.2)).bind fun H21 => retU (List.length H17.2) H21).bind fun t21 =>
 (aConvert prog 91 68 t21 H17.2).bind fun t22 =>
 (call 64 [t19, t22] H17.2 lo).bind fun H23 => outK H23.1 (fun a24 =>
 (aSlice prog 89 r0.1 none none none H23.2).bind fun t25 => some (Out.ret t25, H23.2)) fun a24 => some (Out.pan a24, H23.2)) fun a18 => some (Out.pan a18, H17.2)) fun a7 => some (Out.pan a7, H6.2)) fun a3 => some (Out.pan a3, H2.2) := by kernel_rfl
theorem e49 (n lo : Nat) (x0 x1 : A) (H : Heap) : evCall1 (cx C) call rg n 49 [x0, x1] H lo =
 (aBin prog .lss 3 false true x1 (A.v (.int .i64 0))).bind fun t0 => bIfN t0 ((aIfc prog 9 (A.v (Value.string (ByteArray.mk #[99, 97, 110, 110, 111, 116, 32, 98, 101, 32, 110, 101, 103, 97, 116, 105, 118, 101])))).bind fun t1 => panK t1 fun a2 => some (Out.pan a2, H)) ((aLen prog 22 x0 H).bind fun t1 =>
 (aConvert prog 3 48 t1 H).bind fun t2 =>
 (aConvert prog 3 48 x1 H).bind fun t3 =>
 (C 68 [snap H t2, snap H t3]).bind fun t4 =>
 (aExtract t4 0).bind fun t5 =>
 (aExtract t4 1).bind fun t6 =>
 (aBin prog .gtr 48 false true t5 (A.v (.int .u64 0))).bind fun t7 =>
 (bIf t7 (some [A.v (.bool true), ud, ud]) ((aBin prog .gtr 48 false true t6 (A.v (.int .u64 9223372036854775807))).bind fun t8 => some [t8, t8, t6])).bind fun l8 => unc l8 fun u9 l9 => unc l9 fun u10 l10 => unc l10 fun u11 l11 => bIfN u9 ((aIfc prog 9 (A.v (Value.string (ByteArray.mk #[116, 104, 101, 32, 114, 101, 115, 117, 108, 116, 32, 111, 102, 32, 40, 108, 101, 110, 40, 120, 41, 32, 42, 32, 99, 111, 117, 110, 116, 41, 32, 111, 118, 101, 114, 102, 108, 111, 119, 115])))).bind fun t12 => panK t12 fun a13 => some (Out.pan a13, H)) ((aConvert prog 48 3 t6 H).bind fun t12 =>
 (aMakeSlice prog 22 t12 t12 H).bind fun r13 =>
 (aCopy prog 22 r13.1 x0 r13.2 lo).bind fun r14 => loopR (cx C) call rg n 49 lo 0 (List.length r14.2) (fun i15 s15 => bif Nat.beq i15 0 then some (Out.ret (lk s15 7), St.H s15) else none) (fun i15 s15 => none) (fun a15 => some (Out.ret (lk a15 4), St.H a15)) (fun i15 s15 => some (Out.pan i15, St.H s15)) n (St.mk [(4, A.imm [] true), (7, r13.1), (8, r14.1)] r14.2))) := by kernel_rfl
theorem e50 (n lo : Nat) (x0 : A) (H : Heap) : evCall1 (cx C) call rg n 50 [x0] H lo =
 (aBox x0 H).bind fun r0 =>
 (aLoad prog 25 r0.1 r0.2).bind fun t1 =>
 (C 31 [snap r0.2 t1]).bind fun t2 =>
 (aBin prog .eql 30 false true t2 (A.v (.int .i64 0))).bind fun t3 =>
 (bIf t3 ((aFieldAddr prog 25 r0.1 3 r0.2).bind fun t4 =>
 (aLoad prog 4 t4 r0.2).bind fun t5 =>
 (aUn prog UnOp.not t5).bind fun t6 => some [t6, t6, t5, t4]) (some [A.v (.bool false), ud, ud, ud])).bind fun l4 => unc l4 fun u5 l5 => unc l5 fun u6 l6 => unc l6 fun u7 l7 => unc l7 fun u8 l8 => some (Out.ret u5, r0.2) := by kernel_rfl
theorem e51 (n lo : Nat) (x0 x1 : A) (H : Heap) : evCall1 (cx C) call rg n 51 [x0, x1] H lo =
 (aBox x0 H).bind fun r0 =>
 (aBin prog .geq 3 false true x1 (A.v (.int .i64 0))).bind fun t1 =>
 (bIf t1 ((aFieldAddr prog 25 r0.1 0 r0.2).bind fun t2 =>
 (aLoad prog 22 t2 r0.2).bind fun t3 =>
 (aLen prog 22 t3 r0.2).bind fun t4 =>
 (aBin prog .lss 3 false false x1 t4).bind fun t5 => some [t5, t5, t4, t3, t2, x1]) (some [A.v (.bool false), ud, ud, ud, ud, ud])).bind fun l2 => unc l2 fun u3 l3 => unc l3 fun u4 l4 => unc l4 fun u5 l5 => unc l5 fun u6 l6 => unc l6 fun u7 l7 => unc l7 fun u8 l8 => some (Out.ret u3, r0.2) := by kernel_rfl
theorem e52 (n lo : Nat) (x0 : A) (H : Heap) : evCall1 (cx C) call rg n 52 [x0] H lo =
 (aLen prog 23 x0 H).bind fun t0 =>
 (aLen prog 23 x0 H).bind fun t1 =>
 (aSlice prog 23 x0 none (some t0) (some t1) H).bind fun t2 => some (Out.ret t2, H) := by kernel_rfl
theorem e53 (n lo : Nat) (x0 : A) (H : Heap) : evCall1 (cx C) call rg n 53 [x0] H lo =
 (aNq prog 23 x0).bind fun t0 => bIfN t0 (some (Out.ret (seed1 2 (St.H (St.mk [(2, A.imm [] true), (4, t0), (3, x0), (2, A.imm [] true), (0, x0)] H)) (look (St.fr (St.mk [(2, A.imm [] true), (4, t0), (3, x0), (2, A.imm [] true), (0, x0)] H)) (Prod.fst (2, 0, 3)))).1, (seed1 2 (St.H (St.mk [(2, A.imm [] true), (4, t0), (3, x0), (2, A.imm [] true), (0, x0)] H)) (look (St.fr (St.mk [(2, A.imm [] true), (4, t0), (3, x0), (2, A.imm [] true), (0, x0)] H)) (Prod.fst (2, 0, 3)))).2)) ((aBuildSlice prog 23 0 []).bind fun t1 =>
 (aAppend prog 23 23 false t1 x0 H lo).bind fun r2 => some (Out.ret (seed1 2 (St.H (St.mk [(2, r2.1), (7, r2.1), (6, x0), (5, t1), (4, t0), (3, x0), (2, A.imm [] true), (0, x0)] r2.2)) (look (St.fr (St.mk [(2, r2.1), (7, r2.1), (6, x0), (5, t1), (4, t0), (3, x0), (2, A.imm [] true), (0, x0)] r2.2)) (Prod.fst (2, 0, 3)))).1, (seed1 2 (St.H (St.mk [(2, r2.1), (7, r2.1), (6, x0), (5, t1), (4, t0), (3, x0), (2, A.imm [] true), (0, x0)] r2.2)) (look (St.fr (St.mk [(2, r2.1), (7, r2.1), (6, x0), (5, t1), (4, t0), (3, x0), (2, A.imm [] true), (0, x0)] r2.2)) (Prod.fst (2, 0, 3)))).2)) := by kernel_rfl
theorem e54 (n lo : Nat) (x0 x1 : A) (H : Heap) : evCall1 (cx C) call rg n 54 [x0, x1] H lo =
 (call 69 [x0] H lo).bind fun H0 => outK H0.1 (fun a1 =>
 (aLen prog 23 x1 H0.2).bind fun t2 => loopR (cx C) call rg n 54 lo 0 (List.length H0.2) (fun i3 s3 => bif Nat.beq i3 0 then some (Out.ret (lk s3 5), St.H s3) else none) (fun i3 s3 => none) (fun a3 => some (Out.ret (lk a3 4), St.H a3)) (fun i3 s3 => some (Out.pan i3, St.H s3)) n (St.mk [(4, A.imm [] true), (5, a1), (10, x1), (11, t2), (12, A.v (.int .i64 0))] H0.2)) fun a1 => some (Out.pan a1, H0.2) := by kernel_rfl
theorem e55 (n lo : Nat) (x0 x1 : A) (H : Heap) : evCall1 (cx C) call rg n 55 [x0, x1] H lo =
 (aBox x0 H).bind fun r0 =>
 (aFieldAddr prog 76 r0.1 0 r0.2).bind fun t1 =>
 (aLoad prog 3 t1 r0.2).bind fun t2 =>
 (aBin prog .lss 3 false true t2 (A.v (.int .i64 0))).bind fun t3 =>
 (bIf t3 (some [A.v (.bool true), ud, ud, ud, ud]) ((aFieldAddr prog 76 r0.1 0 r0.2).bind fun t4 =>
 (aLoad prog 3 t4 r0.2).bind fun t5 =>
 (aLoad prog 3 x1 r0.2).bind fun t6 =>
 (aBin prog .geq 3 false false t5 t6).bind fun t7 => some [t7, t7, t6, t5, t4])).bind fun l4 => unc l4 fun u5 l5 => unc l5 fun u6 l6 => unc l6 fun u7 l7 => unc l7 fun u8 l8 => unc l8 fun u9 l9 =>
 (bIf u5 (some [A.v (.bool true), ud, ud, ud, ud]) ((aFieldAddr prog 76 r0.1 1 r0.2).bind fun t10 =>
 (aLoad prog 35 t10 r0.2).bind fun t11 =>
 (C 56 [snap r0.2 t11]).bind fun t12 =>
 (aUn prog UnOp.not t12).bind fun t13 => some [t13, t13, t12, t11, t10])).bind fun l10 => unc l10 fun u11 l11 => unc l11 fun u12 l12 => unc l12 fun u13 l13 => unc l13 fun u14 l14 => unc l14 fun u15 l15 => some (Out.ret u11, r0.2) := by kernel_rfl
theorem e56 (n lo : Nat) (x0 : A) (H : Heap) : evCall1 (cx C) call rg n 56 [x0] H lo =
 (aLen prog 35 x0 H).bind fun t0 =>
 (aBin prog .eql 3 false true t0 (A.v (.int .i64 128))).bind fun t1 => some (Out.ret t1, H) := by kernel_rfl
theorem e57 (n lo : Nat) (x0 x1 : A) (H : Heap) : evCall1 (cx C) call rg n 57 [x0, x1] H lo =
 (call 70 [x0, x1] H lo).bind fun H0 => outK H0.1 (fun a1 =>
 (aBin prog .geq 3 false true a1 (A.v (.int .i64 0))).bind fun t2 => some (Out.ret t2, H0.2)) fun a1 => some (Out.pan a1, H0.2) := by kernel_rfl
theorem e58 (n lo : Nat) (x0 x1 : A) (H : Heap) : evCall1 (cx C) call rg n 58 [x0, x1] H lo =
 (C 71 [snap H x0, snap H x1]).bind fun t0 =>
 (aBin prog .geq 3 false true t0 (A.v (.int .i64 0))).bind fun t1 => some (Out.ret t1, H) := by kernel_rfl
theorem e59 (n lo : Nat) (x0 : A) (H : Heap) : evCall1 (cx C) call rg n 59 [x0] H lo =
 (C 56 [snap H x0]).bind fun t0 =>
 (aUn prog UnOp.not t0).bind fun t1 => some (Out.ret t1, H) := by kernel_rfl
theorem e60 (n lo : Nat) (x0 x1 : A) (H : Heap) : evCall1 (cx C) call rg n 60 [x0, x1] H lo = loopR (cx C) call rg n 60 lo 0 (List.length H) (fun i0 s0 => bif Nat.beq i0 0 then some (Out.ret (A.tup []), St.H s0) else none) (fun i0 s0 => none) (fun a0 => some (Out.ret (A.tup []), St.H a0)) (fun i0 s0 => some (Out.pan i0, St.H s0)) n (St.mk [(0, x0), (1, x1), (3, A.v (.int .i64 0)), (4, A.v (.int .u64 0))] H) := by kernel_rfl
theorem e61 (n lo : Nat) (x0 x1 : A) (H : Heap) : evCall1 (cx C) call rg n 61 [x0, x1] H lo =
 (aIndexAddr prog 35 x0 (A.v (.int .i64 11)) H).bind fun t0 =>
 (aLoad prog 5 t0 H).bind fun t1 =>
 (aConvert prog 5 3 t1 H).bind fun t2 =>
 (aBin prog .gtr 3 false true t2 (A.v (.int .i64 112))).bind fun t3 =>
 (bIf t3 (some [A.v (.bool true), ud, ud, ud, ud]) ((aIndexAddr prog 35 x0 (A.v (.int .i64 10)) H).bind fun t4 =>
 (aLoad prog 5 t4 H).bind fun t5 =>
 (aBin prog .gtr 5 false true t5 (A.v (.int .u8 3))).bind fun t6 => some [t6, t6, t5, t4, x0])).bind fun l4 => unc l4 fun u5 l5 => unc l5 fun u6 l6 => unc l6 fun u7 l7 => unc l7 fun u8 l8 => unc l8 fun u9 l9 =>
 (bIf u5 (some [A.v (.bool true), ud, ud, ud, ud, ud, ud, ud, ud, ud]) ((aIndexAddr prog 35 x0 (A.v (.int .i64 10)) H).bind fun t10 =>
 (aLoad prog 5 t10 H).bind fun t11 =>
 (aBin prog .and 5 false true t11 (A.v (.int .u8 2))).bind fun t12 =>
 (aBin prog .eql 5 false true t12 (A.v (.int .u8 0))).bind fun t13 =>
 (bIf t13 ((aBin prog .lss 3 false true t2 (A.v (.int .i64 112))).bind fun t14 => some [t14, t14, t2]) (some [A.v (.bool false), ud, ud])).bind fun l14 => unc l14 fun u15 l15 => unc l15 fun u16 l16 => unc l16 fun u17 l17 => some [u15, u15, u16, u17, t13, t13, t12, t11, t10, x0])).bind fun l10 => unc l10 fun u11 l11 => unc l11 fun u12 l12 => unc l12 fun u13 l13 => unc l13 fun u14 l14 => unc l14 fun u15 l15 => unc l15 fun u16 l16 => unc l16 fun u17 l17 => unc l17 fun u18 l18 => unc l18 fun u19 l19 => unc l19 fun u20 l20 =>
 (bIf u11 (some [A.v (.bool true), ud, ud, ud, ud, ud, ud, ud, ud, ud]) ((aIndexAddr prog 35 x0 (A.v (.int .i64 10)) H).bind fun t21 =>
 (aLoad prog 5 t21 H).bind fun t22 =>
 (aBin prog .and 5 false true t22 (A.v (.int .u8 1))).bind fun t23 =>
 (aBin prog .eql 5 false true t23 (A.v (.int .u8 0))).bind fun t24 =>
 (bIf t24 ((aBin prog .eql 3 false true t2 (A.v (.int .i64 0))).bind fun t25 => some [t25, t25, t2]) (some [A.v (.bool false), ud, ud])).bind fun l25 => unc l25 fun u26 l26 => unc l26 fun u27 l27 => unc l27 fun u28 l28 => some [u26, u26, u27, u28, t24, t24, t23, t22, t21, x0])).bind fun l21 => unc l21 fun u22 l22 => unc l22 fun u23 l23 => unc l23 fun u24 l24 => unc l24 fun u25 l25 => unc l25 fun u26 l26 => unc l26 fun u27 l27 => unc l27 fun u28 l28 => unc l28 fun u29 l29 => unc l29 fun u30 l30 => unc l30 fun u31 l31 => bIfN u22 (some (Out.ret (A.v (.bool false)), H)) ((aSlice prog 35 x0 none (some (A.v (.int .i64 4))) none H).bind fun t32 =>
 (C 41 [snap H t32]).bind fun t33 =>
 (aBin prog .gtr 68 false true t33 (A.v (.int .u64 0))).bind fun t34 =>
 (gIf t34 true ((aIndexAddr prog 35 x0 (A.v (.int .i64 10)) H).bind fun t35 =>
 (aLoad prog 5 t35 H).bind fun t36 =>
 (aBin prog .add 3 true false (A.v (.int .i64 12)) t2).bind fun t37 =>
 (aSlice prog 35 x0 (some (A.v (.int .i64 12))) (some t37) none H).bind fun t38 =>
 (C 44 [snap H t33, snap H x1, snap H t36, snap H t38]).bind fun t39 => some [t39, t38, t37, t2, x0, t36, t35, x0, x1, t33, x0]) (some [ud, ud, ud, ud, ud, ud, ud, ud, ud, ud, ud])).bind fun l35 => unc l35 fun u36 l36 => unc l36 fun u37 l37 => unc l37 fun u38 l38 => unc l38 fun u39 l39 => unc l39 fun u40 l40 => unc l40 fun u41 l41 => unc l41 fun u42 l42 => unc l42 fun u43 l43 => unc l43 fun u44 l44 => unc l44 fun u45 l45 => unc l45 fun u46 l46 =>
 (bIf t34 ((C 43 [snap H u46, snap H u36]).bind fun t47 => some [t47, t47]) (some [A.v (.bool false), ud])).bind fun l47 => unc l47 fun u48 l48 => unc l48 fun u49 l49 => some (Out.ret u48, H)) := by kernel_rfl
theorem e64 (n lo : Nat) (x0 x1 : A) (H : Heap) : evCall1 (cx C) call rg n 64 [x0, x1] H lo =
 (aLen prog 35 x0 H).bind fun t0 => loopR (cx C) call rg n 64 lo 0 (List.length H) (fun i1 s1 => bif Nat.beq i1 0 then some (Out.ret (A.tup []), St.H s1) else none) (fun i1 s1 => none) (fun a1 => some (Out.ret (A.tup []), St.H a1)) (fun i1 s1 => some (Out.pan i1, St.H s1)) n (St.mk [(0, x0), (1, x1), (6, t0), (7, A.v (.int .i64 0))] H) := by kernel_rfl
theorem e65 (n lo : Nat) (x0 : A) (H : Heap) : evCall1 (cx C) call rg n 65 [x0] H lo =
 (aLen prog 35 x0 H).bind fun t0 => loopR (cx C) call rg n 65 lo 0 (List.length H) (fun i1 s1 => bif Nat.beq i1 0 then
 (aUn prog UnOp.xor (lk s1 3)).bind fun t2 => some (Out.ret t2, St.H s1) else none) (fun i1 s1 => none) (fun a1 => some (Out.ret (lk a1 2), St.H a1)) (fun i1 s1 => some (Out.pan i1, St.H s1)) n (St.mk [(2, A.v (.int .u32 0)), (3, A.v (.int .u32 4294967295)), (6, x0), (7, t0), (8, A.v (.int .i64 0))] H) := by kernel_rfl
theorem e68 (n lo : Nat) (x0 x1 : A) (H : Heap) : evCall1 (cx C) call rg n 68 [x0, x1] H lo =
 (C 74 [snap H x0, snap H x1]).bind fun t0 =>
 (aExtract t0 0).bind fun t1 =>
 (aExtract t0 1).bind fun t2 => some (Out.ret (A.tup [t1, t2]), H) := by kernel_rfl
theorem e69 (n lo : Nat) (x0 : A) (H : Heap) : evCall1 (cx C) call rg n 69 [x0] H lo =
 (aNq prog 22 x0).bind fun t0 => bIfN t0 (some (Out.ret (seedW (500001 - 500000) (St.H (St.mk [(2, A.imm [] true), (4, t0), (3, x0), (2, A.imm [] true), (0, x0)] H)) (look (St.fr (St.mk [(2, A.imm [] true), (4, t0), (3, x0), (2, A.imm [] true), (0, x0)] H)) (Prod.fst (2, 0, 500002)))).1, (seedW (500001 - 500000) (St.H (St.mk [(2, A.imm [] true), (4, t0), (3, x0), (2, A.imm [] true), (0, x0)] H)) (look (St.fr (St.mk [(2, A.imm [] true), (4, t0), (3, x0), (2, A.imm [] true), (0, x0)] H)) (Prod.fst (2, 0, 500002)))).2)) ((aBuildSlice prog 22 0 []).bind fun t1 =>
 (aAppend prog 22 22 true t1 x0 H lo).bind fun r2 => some (Out.ret (seedW (500001 - 500000) (St.H (St.mk [(2, r2.1), (7, r2.1), (6, x0), (5, t1), (4, t0), (3, x0), (2, A.imm [] true), (0, x0)] r2.2)) (look (St.fr (St.mk [(2, r2.1), (7, r2.1), (6, x0), (5, t1), (4, t0), (3, x0), (2, A.imm [] true), (0, x0)] r2.2)) (Prod.fst (2, 0, 500002)))).1, (seedW (500001 - 500000) (St.H (St.mk [(2, r2.1), (7, r2.1), (6, x0), (5, t1), (4, t0), (3, x0), (2, A.imm [] true), (0, x0)] r2.2)) (look (St.fr (St.mk [(2, r2.1), (7, r2.1), (6, x0), (5, t1), (4, t0), (3, x0), (2, A.imm [] true), (0, x0)] r2.2)) (Prod.fst (2, 0, 500002)))).2)) := by kernel_rfl
theorem e70 (n lo : Nat) (x0 x1 : A) (H : Heap) : evCall1 (cx C) call rg n 70 [x0, x1] H lo =
 (aLen prog 23 x0 H).bind fun t0 => loopR (cx C) call rg n 70 lo 0 (List.length H) (fun i1 s1 => bif Nat.beq i1 0 then some (Out.ret (A.v (.int .i64 (-1))), St.H s1) else none) (fun i1 s1 => none) (fun a1 => some (Out.ret (lk a1 4), St.H a1)) (fun i1 s1 => some (Out.pan i1, St.H s1)) n (St.mk [(0, x0), (1, x1), (4, A.v (.int .i64 0)), (7, t0), (8, A.v (.int .i64 0))] H) := by kernel_rfl
theorem e71 (n lo : Nat) (x0 x1 : A) (H : Heap) : evCall1 (cx C) call rg n 71 [x0, x1] H lo =
 (aLen prog 22 x0 H).bind fun t0 => loopR (cx C) call rg n 71 lo 0 (List.length H) (fun i1 s1 => bif Nat.beq i1 0 then some (Out.ret (A.v (.int .i64 (-1))), St.H s1) else none) (fun i1 s1 => none) (fun a1 => some (Out.ret (lk a1 4), St.H a1)) (fun i1 s1 => some (Out.pan i1, St.H s1)) n (St.mk [(0, x0), (1, x1), (4, A.v (.int .i64 0)), (7, t0), (8, A.v (.int .i64 0))] H) := by kernel_rfl
theorem e74 (n lo : Nat) (x0 x1 : A) (H : Heap) : evCall1 (cx C) call rg n 74 [x0, x1] H lo =
 (aBin prog .and 68 false true x0 (A.v (.int .u64 4294967295))).bind fun t0 =>
 (aBin prog .shr 68 false true x0 (A.v (.int .u64 32))).bind fun t1 =>
 (aBin prog .and 68 false true x1 (A.v (.int .u64 4294967295))).bind fun t2 =>
 (aBin prog .shr 68 false true x1 (A.v (.int .u64 32))).bind fun t3 =>
 (aBin prog .mul 68 false false t0 t2).bind fun t4 =>
 (aBin prog .mul 68 false false t1 t2).bind fun t5 =>
 (aBin prog .shr 68 false true t4 (A.v (.int .u64 32))).bind fun t6 =>
 (aBin prog .add 68 false false t5 t6).bind fun t7 =>
 (aBin prog .and 68 false true t7 (A.v (.int .u64 4294967295))).bind fun t8 =>
 (aBin prog .shr 68 false true t7 (A.v (.int .u64 32))).bind fun t9 =>
 (aBin prog .mul 68 false false t0 t3).bind fun t10 =>
 (aBin prog .add 68 false false t8 t10).bind fun t11 =>
 (aBin prog .mul 68 false false t1 t3).bind fun t12 =>
 (aBin prog .add 68 false false t12 t9).bind fun t13 =>
 (aBin prog .shr 68 false true t11 (A.v (.int .u64 32))).bind fun t14 =>
 (aBin prog .add 68 false false t13 t14).bind fun t15 =>
 (aBin prog .mul 68 false false x0 x1).bind fun t16 => some (Out.ret (A.tup [t15, t16]), H) := by kernel_rfl
theorem e11_0 (n lo L : Nat) (kx kg : Nat -> St -> Option R) (kr : St -> Option R) (kp : A -> St -> Option R) (m : Nat) (x2 x4 x5 x8 x9 x10 : A) (H : Heap) : loopR (cx C) call rg n 11 lo 0 L kx kg kr kp (m + 1) (St.mk [(2, x2), (4, x4), (5, x5), (8, x8), (9, x9), (10, x10)] H) =
 (aBin prog .lss 3 false false x10 x9).bind fun t0 => bIfN t0 ((aIndexAddr prog 22 x8 x10 H).bind fun t1 =>
 (aLoad prog 35 t1 H).bind fun t2 =>
 (aLen prog 35 t2 H).bind fun t3 =>
 (aBin prog .add 3 true false (A.v (.int .i64 1)) t3).bind fun t4 =>
 (aBin prog .add 3 false false x5 t4).bind fun t5 =>
 (aBin prog .add 3 false true x10 (A.v (.int .i64 1))).bind fun t6 =>
 (trim L H).bind fun H7 => bif bif Nat.beq (List.length H) L then true else keepsUnder L [(10, t6), (19, t6), (5, t5), (18, t5), (17, t4), (16, t3), (15, t2), (14, x5), (7, t2), (13, t2), (12, t1), (11, t0), (2, x2), (4, x4), (5, x5), (8, x8), (9, x9), (10, x10)] [2, 4, 5, 8, 9, 10] then loopR (cx C) call rg n 11 lo 0 L kx kg kr kp m (St.mk [(2, x2), (4, x4), (5, t5), (8, x8), (9, x9), (10, t6)] H7) else none) (kx 0 (St.mk [(2, x2), (4, x4), (5, x5), (8, x8), (9, x9), (10, x10)] H)) := by kernel_rfl
theorem e21_0 (n lo L : Nat) (kx kg : Nat -> St -> Option R) (kr : St -> Option R) (kp : A -> St -> Option R) (m : Nat) (x2 x3 x4 x5 x6 x9 x10 x57 x58 x59 : A) (H : Heap) : loopR (cx C) call rg n 21 lo 0 L kx kg kr kp (m + 1) (St.mk [(2, x2), (3, x3), (4, x4), (5, x5), (6, x6), (9, x9), (10, x10), (57, x57), (58, x58), (59, x59)] H) =
 (aBin prog .lss 3 false false x59 x58).bind fun t0 => bIfN t0 ((aIndexAddr prog 22 x57 x59 H).bind fun t1 =>
 (aLoad prog 35 t1 H).bind fun t2 =>
 (aSlice prog 35 t2 none (some (A.v (.int .i64 4))) none H).bind fun t3 =>
 (C 41 [snap H t3]).bind fun t4 =>
 (aBin prog .add 68 false true t4 (A.v (.int .u64 1))).bind fun t5 =>
 (aSlice prog 35 t2 (some (A.v (.int .i64 124))) none none H).bind fun t6 =>
 (C 41 [snap H t6]).bind fun t7 =>
 (aBin prog .add 68 false true t7 (A.v (.int .u64 1))).bind fun t8 =>
 (aMM false x10 [t5, t8]).bind fun t9 =>
 (aBin prog .add 3 false true x59 (A.v (.int .i64 1))).bind fun t10 =>
 (trim L H).bind fun H11 => bif bif Nat.beq (List.length H) L then true else keepsUnder L [(59, t10), (73, t10), (10, t9), (72, t9), (71, t8), (70, t7), (69, t6), (68, t2), (67, t5), (66, t4), (65, t3), (64, t2), (63, x10), (12, t2), (62, t2), (61, t1), (60, t0), (2, x2), (3, x3), (4, x4), (5, x5), (6, x6), (9, x9), (10, x10), (57, x57), (58, x58), (59, x59)] [2, 3, 4, 5, 6, 9, 10, 57, 58, 59] then loopR (cx C) call rg n 21 lo 0 L kx kg kr kp m (St.mk [(2, x2), (3, x3), (4, x4), (5, x5), (6, x6), (9, x9), (10, t9), (57, x57), (58, x58), (59, t10)] H11) else none) (kx 0 (St.mk [(2, x2), (3, x3), (4, x4), (5, x5), (6, x6), (9, x9), (10, x10), (57, x57), (58, x58), (59, x59)] H)) := by kernel_rfl
theorem e21_1 (n lo L : Nat) (kx kg : Nat -> St -> Option R) (kr : St -> Option R) (kp : A -> St -> Option R) (m : Nat) (x2 x3 x4 x5 x6 x10 x13 x108 x109 x110 : A) (H : Heap) : loopR (cx C) call rg n 21 lo 1 L kx kg kr kp (m + 1) (St.mk [(2, x2), (3, x3), (4, x4), (5, x5), (6, x6), (10, x10), (13, x13), (108, x108), (109, x109), (110, x110)] H) =
 (aBin prog .lss 3 false false x110 x109).bind fun t0 => bIfN t0 ((aIndexAddr prog 22 x108 x110 H).bind fun t1 =>
 (aLoad prog 35 t1 H).bind fun t2 =>
 (C 35 [snap H t2]).bind fun t3 => loopR (cx C) call rg n 21 lo 2 (List.length H) (fun i4 s4 => bif Nat.beq i4 4 then
 (aBin prog .add 3 false true (lk s4 110) (A.v (.int .i64 1))).bind fun t5 =>
 (trim L (St.H s4)).bind fun H6 => bif bif Nat.beq (List.length (St.H s4)) L then true else keepsUnder L ((110, t5) :: (150, t5) :: St.fr s4) [2, 3, 4, 5, 6, 10, 13, 108, 109, 110] then loopR (cx C) call rg n 21 lo 1 L kx kg kr kp m (St.mk [(2, lk s4 2), (3, lk s4 3), (4, lk s4 4), (5, lk s4 5), (6, lk s4 6), (10, lk s4 10), (13, lk s4 13), (108, lk s4 108), (109, lk s4 109), (110, t5)] H6) else none else bif Nat.beq i4 3 then
 (aBin prog .add 3 false true (lk s4 110) (A.v (.int .i64 1))).bind fun t5 =>
 (trim L (St.H s4)).bind fun H6 => bif bif Nat.beq (List.length (St.H s4)) L then true else keepsUnder L ((110, t5) :: (150, t5) :: St.fr s4) [2, 3, 4, 5, 6, 10, 13, 108, 109, 110] then loopR (cx C) call rg n 21 lo 1 L kx kg kr kp m (St.mk [(2, lk s4 2), (3, lk s4 3), (4, lk s4 4), (5, lk s4 5), (6, lk s4 6), (10, lk s4 10), (13, lk s4 13), (108, lk s4 108), (109, lk s4 109), (110, t5)] H6) else none else kx i4 (St.mk [(2, lk s4 2), (3, lk s4 3), (4, lk s4 4), (5, lk s4 5), (6, lk s4 6), (10, lk s4 10), (13, lk s4 13), (108, lk s4 108), (109, lk s4 109), (110, lk s4 110)] (St.H s4))) (fun i4 s4 => kg i4 (St.mk [(2, lk s4 2), (3, lk s4 3), (4, lk s4 4), (5, lk s4 5), (6, lk s4 6), (10, lk s4 10), (13, lk s4 13), (108, lk s4 108), (109, lk s4 109), (110, lk s4 110)] (St.H s4))) (fun a4 => kr (St.mk [(2, lk a4 2), (3, lk a4 3), (4, lk a4 4), (5, lk a4 5), (6, lk a4 6), (10, lk a4 10), (13, lk a4 13), (108, lk a4 108), (109, lk a4 109), (110, lk a4 110)] (St.H a4))) (fun i4 s4 => kp i4 (St.mk [(2, lk s4 2), (3, lk s4 3), (4, lk s4 4), (5, lk s4 5), (6, lk s4 6), (10, lk s4 10), (13, lk s4 13), (108, lk s4 108), (109, lk s4 109), (110, lk s4 110)] (St.H s4))) n (St.mk [(2, x2), (3, x3), (4, x4), (5, x5), (6, x6), (10, x10), (13, x13), (15, t2), (16, A.v (.int .u8 1)), (17, t3), (108, x108), (109, x109), (110, x110)] H)) (kx 2 (St.mk [(2, x2), (3, x3), (4, x4), (5, x5), (6, x6), (10, x10), (13, x13), (108, x108), (109, x109), (110, x110)] H)) := by kernel_rfl
theorem e21_2 (n lo L : Nat) (kx kg : Nat -> St -> Option R) (kr : St -> Option R) (kp : A -> St -> Option R) (m : Nat) (x2 x3 x4 x5 x6 x10 x13 x15 x16 x17 x108 x109 x110 : A) (H : Heap) : loopR (cx C) call rg n 21 lo 2 L kx kg kr kp (m + 1) (St.mk [(2, x2), (3, x3), (4, x4), (5, x5), (6, x6), (10, x10), (13, x13), (15, x15), (16, x16), (17, x17), (108, x108), (109, x109), (110, x110)] H) =
 (aBin prog .gtr 3 false true x17 (A.v (.int .i64 0))).bind fun t0 => bIfN t0 ((aBin prog .eql 3 false true x17 (A.v (.int .i64 1))).bind fun t1 => bIfN t1 ((aBin prog .or 5 false true x16 (A.v (.int .u8 2))).bind fun t2 =>
 (aLen prog 35 x15 H).bind fun t3 =>
 (aMM true t3 [A.v (.int .i64 112)]).bind fun t4 =>
 (aLoad prog 25 x3 H).bind fun t5 =>
 (aSlice prog 35 x15 none (some t4) none H).bind fun t6 =>
 (C 44 [snap H x10, snap H x13, snap H t2, snap H t6]).bind fun t7 =>
 (C 26 [snap H t5, snap H x13, snap H t7]).bind fun t8 =>
 (aExtract t8 0).bind fun t9 =>
 (aExtract t8 1).bind fun t10 =>
 (aStore prog 25 x3 (stV x3 H t9) H lo).bind fun H11 =>
 (aBin prog .neq 30 false true t10 (A.v (.int .i64 0))).bind fun t12 => bIfN t12 ((aBuild prog 29 []).bind fun t13 =>
 (aBuild prog 25 []).bind fun t14 =>
 (aStore prog 29 x4 (stV x4 H11 t13) H11 lo).bind fun H15 =>
 (aStore prog 25 x5 (stV x5 H15 t14) H15 lo).bind fun H16 => kr (St.mk [(2, x2), (3, x3), (4, x4), (5, x5), (6, t10), (10, x10), (13, x13), (15, x15), (16, t2), (17, x17), (108, x108), (109, x109), (110, x110)] H16)) ((aSlice prog 35 x15 (some t4) none none H11).bind fun t13 =>
 (aBin prog .add 3 false true x13 (A.v (.int .i64 1))).bind fun t14 =>
 (aBin prog .sub 3 false true x17 (A.v (.int .i64 1))).bind fun t15 =>
 (trim L H11).bind fun H16 => bif bif Nat.beq (List.length H11) L then true else keepsUnder L [(17, t15), (119, t15), (118, x17), (13, t14), (149, t14), (148, x13), (16, A.v (.int .u8 0)), (15, t13), (147, t13), (146, t4), (145, x15), (141, t12), (140, t10), (6, t10), (139, t10), (138, t9), (127, t8), (137, t8), (136, t7), (135, t6), (134, t4), (133, x15), (132, t2), (131, x13), (130, x10), (129, x13), (128, t5), (18, t4), (126, t4), (125, t3), (124, x15), (16, t2), (123, t2), (122, x16), (121, t1), (120, x17), (117, t0), (116, x17), (2, x2), (3, x3), (4, x4), (5, x5), (6, x6), (10, x10), (13, x13), (15, x15), (16, x16), (17, x17), (108, x108), (109, x109), (110, x110)] [2, 3, 4, 5, 6, 10, 13, 15, 16, 17, 108, 109, 110] then loopR (cx C) call rg n 21 lo 2 L kx kg kr kp m (St.mk [(2, x2), (3, x3), (4, x4), (5, x5), (6, t10), (10, x10), (13, t14), (15, t13), (16, A.v (.int .u8 0)), (17, t15), (108, x108), (109, x109), (110, x110)] H16) else none)) ((aLen prog 35 x15 H).bind fun t2 =>
 (aMM true t2 [A.v (.int .i64 112)]).bind fun t3 =>
 (aLoad prog 25 x3 H).bind fun t4 =>
 (aSlice prog 35 x15 none (some t3) none H).bind fun t5 =>
 (C 44 [snap H x10, snap H x13, snap H x16, snap H t5]).bind fun t6 =>
 (C 26 [snap H t4, snap H x13, snap H t6]).bind fun t7 =>
 (aExtract t7 0).bind fun t8 =>
 (aExtract t7 1).bind fun t9 =>
 (aStore prog 25 x3 (stV x3 H t8) H lo).bind fun H10 =>
 (aBin prog .neq 30 false true t9 (A.v (.int .i64 0))).bind fun t11 => bIfN t11 ((aBuild prog 29 []).bind fun t12 =>
 (aBuild prog 25 []).bind fun t13 =>
 (aStore prog 29 x4 (stV x4 H10 t12) H10 lo).bind fun H14 =>
 (aStore prog 25 x5 (stV x5 H14 t13) H14 lo).bind fun H15 => kr (St.mk [(2, x2), (3, x3), (4, x4), (5, x5), (6, t9), (10, x10), (13, x13), (15, x15), (16, x16), (17, x17), (108, x108), (109, x109), (110, x110)] H15)) ((aSlice prog 35 x15 (some t3) none none H10).bind fun t12 =>
 (aBin prog .add 3 false true x13 (A.v (.int .i64 1))).bind fun t13 =>
 (aBin prog .sub 3 false true x17 (A.v (.int .i64 1))).bind fun t14 =>
 (trim L H10).bind fun H15 => bif bif Nat.beq (List.length H10) L then true else keepsUnder L [(17, t14), (119, t14), (118, x17), (13, t13), (149, t13), (148, x13), (16, A.v (.int .u8 0)), (15, t12), (147, t12), (146, t3), (145, x15), (141, t11), (140, t9), (6, t9), (139, t9), (138, t8), (127, t7), (137, t7), (136, t6), (135, t5), (134, t3), (133, x15), (132, x16), (131, x13), (130, x10), (129, x13), (128, t4), (18, t3), (126, t3), (125, t2), (124, x15), (121, t1), (120, x17), (117, t0), (116, x17), (2, x2), (3, x3), (4, x4), (5, x5), (6, x6), (10, x10), (13, x13), (15, x15), (16, x16), (17, x17), (108, x108), (109, x109), (110, x110)] [2, 3, 4, 5, 6, 10, 13, 15, 16, 17, 108, 109, 110] then loopR (cx C) call rg n 21 lo 2 L kx kg kr kp m (St.mk [(2, x2), (3, x3), (4, x4), (5, x5), (6, t9), (10, x10), (13, t13), (15, t12), (16, A.v (.int .u8 0)), (17, t14), (108, x108), (109, x109), (110, x110)] H15) else none))) (kx 4 (St.mk [(2, x2), (3, x3), (4, x4), (5, x5), (6, x6), (10, x10), (13, x13), (15, x15), (16, x16), (17, x17), (108, x108), (109, x109), (110, x110)] H)) := by kernel_rfl
theorem e23_0 (n lo L : Nat) (kx kg : Nat -> St -> Option R) (kr : St -> Option R) (kp : A -> St -> Option R) (m : Nat) (x2 x3 x4 x5 : A) (H : Heap) : loopR (cx C) call rg n 23 lo 0 L kx kg kr kp (m + 1) (St.mk [(2, x2), (3, x3), (4, x4), (5, x5)] H) =
 (aFieldAddr prog 25 x2 0 H).bind fun t0 =>
 (aLoad prog 22 t0 H).bind fun t1 =>
 (aLen prog 22 t1 H).bind fun t2 =>
 (aBin prog .lss 3 false false x5 t2).bind fun t3 => bIfN t3 ((aFieldAddr prog 25 x2 0 H).bind fun t4 =>
 (aLoad prog 22 t4 H).bind fun t5 =>
 (aIndexAddr prog 22 t5 x5 H).bind fun t6 =>
 (aLoad prog 35 t6 H).bind fun t7 =>
 (aConvert prog 35 9 t7 H).bind fun t8 =>
 (aFieldAddr prog 25 x3 0 H).bind fun t9 =>
 (aLoad prog 22 t9 H).bind fun t10 =>
 (aIndexAddr prog 22 t10 x5 H).bind fun t11 =>
 (aLoad prog 35 t11 H).bind fun t12 =>
 (aConvert prog 35 9 t12 H).bind fun t13 =>
 (aBin prog .neq 9 false false t8 t13).bind fun t14 => bIfN t14 (kr (St.mk [(2, x2), (3, x3), (4, A.v (.bool false)), (5, x5)] H)) ((aBin prog .add 3 false true x5 (A.v (.int .i64 1))).bind fun t15 =>
 (trim L H).bind fun H16 => bif bif Nat.beq (List.length H) L then true else keepsUnder L [(5, t15), (43, t15), (42, x5), (56, t14), (55, t13), (54, t12), (53, t11), (52, x5), (51, t10), (50, t9), (49, t8), (48, t7), (47, t6), (46, x5), (45, t5), (44, t4), (41, t3), (40, t2), (39, t1), (38, t0), (37, x5), (2, x2), (3, x3), (4, x4), (5, x5)] [2, 3, 4, 5] then loopR (cx C) call rg n 23 lo 0 L kx kg kr kp m (St.mk [(2, x2), (3, x3), (4, x4), (5, t15)] H16) else none)) (kx 0 (St.mk [(2, x2), (3, x3), (4, x4), (5, x5)] H)) := by kernel_rfl
theorem e23_1 (n lo L : Nat) (kx kg : Nat -> St -> Option R) (kr : St -> Option R) (kp : A -> St -> Option R) (m : Nat) (x2 x3 x4 x6 : A) (H : Heap) : loopR (cx C) call rg n 23 lo 1 L kx kg kr kp (m + 1) (St.mk [(2, x2), (3, x3), (4, x4), (6, x6)] H) =
 (aFieldAddr prog 25 x2 1 H).bind fun t0 =>
 (aLoad prog 23 t0 H).bind fun t1 =>
 (aLen prog 23 t1 H).bind fun t2 =>
 (aBin prog .lss 3 false false x6 t2).bind fun t3 => bIfN t3 ((aFieldAddr prog 25 x2 1 H).bind fun t4 =>
 (aLoad prog 23 t4 H).bind fun t5 =>
 (aIndexAddr prog 23 t5 x6 H).bind fun t6 =>
 (aFieldAddr prog 76 t6 0 H).bind fun t7 =>
 (aLoad prog 3 t7 H).bind fun t8 =>
 (aFieldAddr prog 25 x3 1 H).bind fun t9 =>
 (aLoad prog 23 t9 H).bind fun t10 =>
 (aIndexAddr prog 23 t10 x6 H).bind fun t11 =>
 (aFieldAddr prog 76 t11 0 H).bind fun t12 =>
 (aLoad prog 3 t12 H).bind fun t13 =>
 (aBin prog .neq 3 false false t8 t13).bind fun t14 =>
 (gIf t14 false ((aFieldAddr prog 25 x2 1 H).bind fun t15 =>
 (aLoad prog 23 t15 H).bind fun t16 =>
 (aIndexAddr prog 23 t16 x6 H).bind fun t17 =>
 (aFieldAddr prog 76 t17 1 H).bind fun t18 =>
 (aLoad prog 35 t18 H).bind fun t19 =>
 (aConvert prog 35 9 t19 H).bind fun t20 =>
 (aFieldAddr prog 25 x3 1 H).bind fun t21 =>
 (aLoad prog 23 t21 H).bind fun t22 =>
 (aIndexAddr prog 23 t22 x6 H).bind fun t23 =>
 (aFieldAddr prog 76 t23 1 H).bind fun t24 =>
 (aLoad prog 35 t24 H).bind fun t25 =>
 (aConvert prog 35 9 t25 H).bind fun t26 => some [t26, t25, t24, t23, x6, t22, t21, t20, t19, t18, t17, x6, t16, t15]) (some [ud, ud, ud, ud, ud, ud, ud, ud, ud, ud, ud, ud, ud, ud])).bind fun l15 => unc l15 fun u16 l16 => unc l16 fun u17 l17 => unc l17 fun u18 l18 => unc l18 fun u19 l19 => unc l19 fun u20 l20 => unc l20 fun u21 l21 => unc l21 fun u22 l22 => unc l22 fun u23 l23 => unc l23 fun u24 l24 => unc l24 fun u25 l25 => unc l25 fun u26 l26 => unc l26 fun u27 l27 => unc l27 fun u28 l28 => unc l28 fun u29 l29 =>
 (bIf t14 (some [A.v (.bool true), ud]) ((aBin prog .neq 9 false false u23 u16).bind fun t30 => some [t30, t30])).bind fun l30 => unc l30 fun u31 l31 => unc l31 fun u32 l32 => bIfN u31 (kr (St.mk [(2, x2), (3, x3), (4, A.v (.bool false)), (6, x6)] H)) ((aBin prog .add 3 false true x6 (A.v (.int .i64 1))).bind fun t33 =>
 (trim L H).bind fun H34 => bif bif Nat.beq (List.length H) L then true else keepsUnder L [(6, t33), (63, t33), (62, x6), (93, u31), (92, u32), (91, u16), (90, u17), (89, u18), (88, u19), (87, u20), (86, u21), (85, u22), (84, u23), (83, u24), (82, u25), (81, u26), (80, u27), (79, u28), (78, u29), (77, t14), (76, t14), (75, t13), (74, t12), (73, t11), (72, x6), (71, t10), (70, t9), (69, t8), (68, t7), (67, t6), (66, x6), (65, t5), (64, t4), (61, t3), (60, t2), (59, t1), (58, t0), (57, x6), (2, x2), (3, x3), (4, x4), (6, x6)] [2, 3, 4, 6] then loopR (cx C) call rg n 23 lo 1 L kx kg kr kp m (St.mk [(2, x2), (3, x3), (4, x4), (6, t33)] H34) else none)) (kx 2 (St.mk [(2, x2), (3, x3), (4, x4), (6, x6)] H)) := by kernel_rfl
theorem e24_0 (n lo L : Nat) (kx kg : Nat -> St -> Option R) (kr : St -> Option R) (kp : A -> St -> Option R) (m : Nat) (x0 x1 x4 x5 : A) (H : Heap) : loopR (cx C) call rg n 24 lo 0 L kx kg kr kp (m + 1) (St.mk [(0, x0), (1, x1), (4, x4), (5, x5)] H) =
 (aLen prog 22 x0 H).bind fun t0 =>
 (aBin prog .lss 3 false false x5 t0).bind fun t1 => bIfN t1 ((aIndexAddr prog 22 x0 x5 H).bind fun t2 =>
 (aLoad prog 35 t2 H).bind fun t3 =>
 (aConvert prog 35 9 t3 H).bind fun t4 =>
 (aIndexAddr prog 22 x1 x5 H).bind fun t5 =>
 (aLoad prog 35 t5 H).bind fun t6 =>
 (aConvert prog 35 9 t6 H).bind fun t7 =>
 (aBin prog .neq 9 false false t4 t7).bind fun t8 => bIfN t8 (kr (St.mk [(0, x0), (1, x1), (4, A.v (.bool false)), (5, x5)] H)) ((aBin prog .add 3 false true x5 (A.v (.int .i64 1))).bind fun t9 =>
 (trim L H).bind fun H10 => bif bif Nat.beq (List.length H) L then true else keepsUnder L [(5, t9), (16, t9), (15, x5), (27, t8), (26, t7), (25, t6), (24, t5), (23, x5), (22, x1), (21, t4), (20, t3), (19, t2), (18, x5), (17, x0), (14, t1), (13, t0), (12, x0), (11, x5), (0, x0), (1, x1), (4, x4), (5, x5)] [0, 1, 4, 5] then loopR (cx C) call rg n 24 lo 0 L kx kg kr kp m (St.mk [(0, x0), (1, x1), (4, x4), (5, t9)] H10) else none)) (kx 0 (St.mk [(0, x0), (1, x1), (4, x4), (5, x5)] H)) := by kernel_rfl
theorem e28_0 (n lo L : Nat) (kx kg : Nat -> St -> Option R) (kr : St -> Option R) (kp : A -> St -> Option R) (m : Nat) (x2 x4 x9 x10 x11 : A) (H : Heap) : loopR (cx C) call rg n 28 lo 0 L kx kg kr kp (m + 1) (St.mk [(2, x2), (4, x4), (9, x9), (10, x10), (11, x11)] H) =
 (aBin prog .lss 3 false false x11 x10).bind fun t0 => bIfN t0 ((aIndexAddr prog 22 x9 x11 H).bind fun t1 =>
 (aLoad prog 35 t1 H).bind fun t2 =>
 (aLoad prog 29 x2 H).bind fun t3 =>
 (C 15 [snap H t3, snap H t2]).bind fun t4 =>
 (aExtract t4 0).bind fun t5 =>
 (aExtract t4 1).bind fun t6 =>
 (aAlloc prog 29 H).bind fun r7 =>
 (aStore prog 29 r7.1 (stV r7.1 r7.2 t5) r7.2 lo).bind fun H8 =>
 (aBin prog .eql 30 false true t6 (A.v (.int .i64 0))).bind fun t9 => bIfN t9 ((aLoad prog 29 r7.1 H8).bind fun t10 =>
 (aStore prog 29 x2 (stV x2 H8 t10) H8 lo).bind fun H11 =>
 (aBin prog .add 3 false true x11 (A.v (.int .i64 1))).bind fun t12 =>
 (trim L H11).bind fun H13 => bif bif Nat.beq (List.length H11) L then true else keepsUnder L [(11, t12), (24, t12), (23, t10), (22, t9), (21, t6), (8, t6), (7, r7.1), (20, t6), (19, t5), (15, t4), (18, t4), (17, t2), (16, t3), (6, t2), (14, t2), (13, t1), (12, t0), (2, x2), (4, x4), (9, x9), (10, x10), (11, x11)] [2, 4, 9, 10, 11] then loopR (cx C) call rg n 28 lo 0 L kx kg kr kp m (St.mk [(2, x2), (4, x4), (9, x9), (10, x10), (11, t12)] H13) else none) ((aBin prog .add 3 false true x11 (A.v (.int .i64 1))).bind fun t10 =>
 (trim L H8).bind fun H11 => bif bif Nat.beq (List.length H8) L then true else keepsUnder L [(11, t10), (24, t10), (22, t9), (21, t6), (8, t6), (7, r7.1), (20, t6), (19, t5), (15, t4), (18, t4), (17, t2), (16, t3), (6, t2), (14, t2), (13, t1), (12, t0), (2, x2), (4, x4), (9, x9), (10, x10), (11, x11)] [2, 4, 9, 10, 11] then loopR (cx C) call rg n 28 lo 0 L kx kg kr kp m (St.mk [(2, x2), (4, x4), (9, x9), (10, x10), (11, t10)] H11) else none)) (kx 0 (St.mk [(2, x2), (4, x4), (9, x9), (10, x10), (11, x11)] H)) := by kernel_rfl
theorem e36_0 (n lo L : Nat) (kx kg : Nat -> St -> Option R) (kr : St -> Option R) (kp : A -> St -> Option R) (m : Nat) (x2 x5 x6 x7 : A) (H : Heap) : loopR (cx C) call rg n 36 lo 0 L kx kg kr kp (m + 1) (St.mk [(2, x2), (5, x5), (6, x6), (7, x7)] H) =
 (aBin prog .lss 3 false false x7 x6).bind fun t0 => bIfN t0 ((aIndexAddr prog 22 x5 x7 H).bind fun t1 =>
 (aLoad prog 35 t1 H).bind fun t2 =>
 (C 35 [snap H t2]).bind fun t3 =>
 (aBin prog .add 3 false false x2 t3).bind fun t4 =>
 (aBin prog .add 3 false true x7 (A.v (.int .i64 1))).bind fun t5 =>
 (trim L H).bind fun H6 => bif bif Nat.beq (List.length H) L then true else keepsUnder L [(7, t5), (15, t5), (2, t4), (14, t4), (13, t3), (12, t2), (11, x2), (4, t2), (10, t2), (9, t1), (8, t0), (2, x2), (5, x5), (6, x6), (7, x7)] [2, 5, 6, 7] then loopR (cx C) call rg n 36 lo 0 L kx kg kr kp m (St.mk [(2, t4), (5, x5), (6, x6), (7, t5)] H6) else none) (kx 0 (St.mk [(2, x2), (5, x5), (6, x6), (7, x7)] H)) := by kernel_rfl
theorem e41_0 (n lo L : Nat) (kx kg : Nat -> St -> Option R) (kr : St -> Option R) (kp : A -> St -> Option R) (m : Nat) (x2 x5 x6 x7 : A) (H : Heap) : loopR (cx C) call rg n 41 lo 0 L kx kg kr kp (m + 1) (St.mk [(2, x2), (5, x5), (6, x6), (7, x7)] H) =
 (aBin prog .lss 3 false false x7 x6).bind fun t0 => bIfN t0 ((aIndexAddr prog 35 x5 x7 H).bind fun t1 =>
 (aLoad prog 5 t1 H).bind fun t2 =>
 (aBin prog .shl 68 false true x2 (A.v (.int .u64 8))).bind fun t3 =>
 (aConvert prog 5 68 t2 H).bind fun t4 =>
 (aBin prog .or 68 false false t3 t4).bind fun t5 =>
 (aBin prog .add 3 false true x7 (A.v (.int .i64 1))).bind fun t6 =>
 (trim L H).bind fun H7 => bif bif Nat.beq (List.length H) L then true else keepsUnder L [(7, t6), (16, t6), (2, t5), (15, t5), (14, t4), (13, t2), (12, t3), (11, x2), (4, t2), (10, t2), (9, t1), (8, t0), (2, x2), (5, x5), (6, x6), (7, x7)] [2, 5, 6, 7] then loopR (cx C) call rg n 41 lo 0 L kx kg kr kp m (St.mk [(2, t5), (5, x5), (6, x6), (7, t6)] H7) else none) (kx 0 (St.mk [(2, x2), (5, x5), (6, x6), (7, x7)] H)) := by kernel_rfl
theorem e42_0 (n lo L : Nat) (kx kg : Nat -> St -> Option R) (kr : St -> Option R) (kp : A -> St -> Option R) (m : Nat) (x1 x2 x6 x15 x16 x17 : A) (H : Heap) : loopR (cx C) call rg n 42 lo 0 L kx kg kr kp (m + 1) (St.mk [(1, x1), (2, x2), (6, x6), (15, x15), (16, x16), (17, x17)] H) =
 (aBin prog .lss 3 false false x17 x16).bind fun t0 => bIfN t0 ((aIndexAddr prog 22 x15 x17 H).bind fun t1 =>
 (aLoad prog 35 t1 H).bind fun t2 =>
 (aIndexAddr prog 22 x1 x17 H).bind fun t3 =>
 (aLoad prog 35 t3 H).bind fun t4 => dynCall (cx C) call x2 [t2, t4] H lo (fun i5 h5 =>
 (aUn prog UnOp.not i5).bind fun t6 => bIfN t6 (kr (St.mk [(1, x1), (2, x2), (6, A.v (.bool false)), (15, x15), (16, x16), (17, x17)] h5)) ((aBin prog .add 3 false true x17 (A.v (.int .i64 1))).bind fun t7 =>
 (trim L h5).bind fun H8 => bif bif Nat.beq (List.length h5) L then true else keepsUnder L [(17, t7), (31, t7), (30, t6), (29, i5), (28, t4), (27, t2), (26, x2), (9, t4), (25, t4), (24, t3), (23, x17), (22, x1), (8, t2), (7, x17), (21, t2), (20, t1), (19, x17), (18, t0), (1, x1), (2, x2), (6, x6), (15, x15), (16, x16), (17, x17)] [1, 2, 6, 15, 16, 17] then loopR (cx C) call rg n 42 lo 0 L kx kg kr kp m (St.mk [(1, x1), (2, x2), (6, x6), (15, x15), (16, x16), (17, t7)] H8) else none)) fun i5 h5 => kp i5 (St.mk [(1, x1), (2, x2), (6, x6), (15, x15), (16, x16), (17, x17)] h5)) (kx 0 (St.mk [(1, x1), (2, x2), (6, x6), (15, x15), (16, x16), (17, x17)] H)) := by kernel_rfl
theorem e49_0 (n lo L : Nat) (kx kg : Nat -> St -> Option R) (kr : St -> Option R) (kp : A -> St -> Option R) (m : Nat) (x4 x7 x8 : A) (H : Heap) : loopR (cx C) call rg n 49 lo 0 L kx kg kr kp (m + 1) (St.mk [(4, x4), (7, x7), (8, x8)] H) =
 (aLen prog 22 x7 H).bind fun t0 =>
 (aBin prog .lss 3 false false x8 t0).bind fun t1 => bIfN t1 ((aSlice prog 22 x7 (some x8) none none H).bind fun t2 =>
 (aSlice prog 22 x7 none (some x8) none H).bind fun t3 =>
 (aCopy prog 22 t2 t3 H lo).bind fun r4 =>
 (aBin prog .add 3 false false x8 r4.1).bind fun t5 =>
 (trim L r4.2).bind fun H6 => bif bif Nat.beq (List.length r4.2) L then true else keepsUnder L [(8, t5), (46, t5), (45, r4.1), (44, t3), (43, x8), (42, x7), (41, t2), (40, x8), (39, x7), (38, x8), (37, t1), (36, t0), (35, x7), (34, x8), (4, x4), (7, x7), (8, x8)] [4, 7, 8] then loopR (cx C) call rg n 49 lo 0 L kx kg kr kp m (St.mk [(4, x4), (7, x7), (8, t5)] H6) else none) (kx 0 (St.mk [(4, x4), (7, x7), (8, x8)] H)) := by kernel_rfl
theorem e54_0 (n lo L : Nat) (kx kg : Nat -> St -> Option R) (kr : St -> Option R) (kp : A -> St -> Option R) (m : Nat) (x4 x5 x10 x11 x12 : A) (H : Heap) : loopR (cx C) call rg n 54 lo 0 L kx kg kr kp (m + 1) (St.mk [(4, x4), (5, x5), (10, x10), (11, x11), (12, x12)] H) =
 (aBin prog .lss 3 false false x12 x11).bind fun t0 => bIfN t0 ((aIndexAddr prog 23 x10 x12 H).bind fun t1 =>
 (aLoad prog 76 t1 H).bind fun t2 =>
 (aAlloc prog 76 H).bind fun r3 =>
 (aStore prog 76 r3.1 (stV r3.1 r3.2 t2) r3.2 lo).bind fun H4 =>
 (aFieldAddr prog 76 r3.1 0 H4).bind fun t5 =>
 (aLoad prog 3 t5 H4).bind fun t6 =>
 (aFieldAddr prog 76 r3.1 1 H4).bind fun t7 =>
 (aLoad prog 35 t7 H4).bind fun t8 =>
 (aIndexAddr prog 22 x5 t6 H4).bind fun t9 =>
 (aStore prog 35 t9 (stV t9 H4 t8) H4 lo).bind fun H10 =>
 (aBin prog .add 3 false true x12 (A.v (.int .i64 1))).bind fun t11 =>
 (trim L H10).bind fun H12 => bif bif Nat.beq (List.length H10) L then true else keepsUnder L [(12, t11), (22, t11), (21, t9), (20, t8), (19, t7), (18, t6), (17, t5), (16, x5), (7, r3.1), (15, t2), (14, t1), (13, t0), (4, x4), (5, x5), (10, x10), (11, x11), (12, x12)] [4, 5, 10, 11, 12] then loopR (cx C) call rg n 54 lo 0 L kx kg kr kp m (St.mk [(4, x4), (5, x5), (10, x10), (11, x11), (12, t11)] H12) else none) (kx 0 (St.mk [(4, x4), (5, x5), (10, x10), (11, x11), (12, x12)] H)) := by kernel_rfl
theorem e60_0 (n lo L : Nat) (kx kg : Nat -> St -> Option R) (kr : St -> Option R) (kp : A -> St -> Option R) (m : Nat) (x0 x1 x3 x4 : A) (H : Heap) : loopR (cx C) call rg n 60 lo 0 L kx kg kr kp (m + 1) (St.mk [(0, x0), (1, x1), (3, x3), (4, x4)] H) = loopR (cx C) call rg n 60 lo 1 (List.length (seed1 1 (St.H (St.mk [(0, x0), (1, x1), (3, x3), (4, x4), (5, A.imm [] true), (6, x3)] H)) (look (St.fr (St.mk [(0, x0), (1, x1), (3, x3), (4, x4), (5, A.imm [] true), (6, x3)] H)) (Prod.fst (5, 0, 2)))).2) (fun i0 s0 => bif Nat.beq i0 2 then kr (St.mk [(0, lk s0 0), (1, lk s0 1), (3, lk s0 3), (4, lk s0 4)] (St.H s0)) else bif Nat.beq i0 1 then
 (trim L (St.H s0)).bind fun H1 => bif bif Nat.beq (List.length (St.H s0)) L then true else keepsUnder L (St.fr s0) [0, 1, 3, 4] then loopR (cx C) call rg n 60 lo 0 L kx kg kr kp m (St.mk [(0, lk s0 0), (1, lk s0 1), (3, lk s0 3), (4, lk s0 4)] H1) else none else kx i0 (St.mk [(0, lk s0 0), (1, lk s0 1), (3, lk s0 3), (4, lk s0 4)] (St.H s0))) (fun i0 s0 => kg i0 (St.mk [(0, lk s0 0), (1, lk s0 1), (3, lk s0 3), (4, lk s0 4)] (St.H s0))) (fun a0 => kr (St.mk [(0, lk a0 0), (1, lk a0 1), (3, lk a0 3), (4, lk a0 4)] (St.H a0))) (fun i0 s0 => kp i0 (St.mk [(0, lk s0 0), (1, lk s0 1), (3, lk s0 3), (4, lk s0 4)] (St.H s0))) n (St.mk [(0, x0), (1, x1), (3, x3), (4, x4), (5, (seed1 1 (St.H (St.mk [(0, x0), (1, x1), (3, x3), (4, x4), (5, A.imm [] true), (6, x3)] H)) (look (St.fr (St.mk [(0, x0), (1, x1), (3, x3), (4, x4), (5, A.imm [] true), (6, x3)] H)) (Prod.fst (5, 0, 2)))).1), (6, x3)] (seed1 1 (St.H (St.mk [(0, x0), (1, x1), (3, x3), (4, x4), (5, A.imm [] true), (6, x3)] H)) (look (St.fr (St.mk [(0, x0), (1, x1), (3, x3), (4, x4), (5, A.imm [] true), (6, x3)] H)) (Prod.fst (5, 0, 2)))).2) := by kernel_rfl
theorem e60_1 (n lo L : Nat) (kx kg : Nat -> St -> Option R) (kr : St -> Option R) (kp : A -> St -> Option R) (m : Nat) (x0 x1 x3 x4 x5 x6 : A) (H : Heap) : loopR (cx C) call rg n 60 lo 1 L kx kg kr kp (m + 1) (St.mk [(0, x0), (1, x1), (3, x3), (4, x4), (5, x5), (6, x6)] H) =
 (aLoad prog 22 x1 H).bind fun t0 =>
 (aLen prog 22 t0 H).bind fun t1 =>
 (aBin prog .lss 3 false false x6 t1).bind fun t2 => bIfN t2 ((aLoad prog 22 x1 H).bind fun t3 =>
 (aIndexAddr prog 22 t3 x6 H).bind fun t4 =>
 (aLoad prog 35 t4 H).bind fun t5 =>
 (C 61 [snap H t5, snap H x6]).bind fun t6 =>
 (aUn prog UnOp.not t6).bind fun t7 =>
 (bIf t7 (some [A.v (.bool true), ud, ud, ud, ud, ud, ud, ud, ud, ud]) ((aIndexAddr prog 35 t5 (A.v (.int .i64 10)) H).bind fun t8 =>
 (aLoad prog 5 t8 H).bind fun t9 =>
 (aBin prog .and 5 false true t9 (A.v (.int .u8 1))).bind fun t10 =>
 (aBin prog .neq 5 false true t10 (A.v (.int .u8 0))).bind fun t11 =>
 (aBin prog .eql 3 false false x6 x3).bind fun t12 =>
 (aBin prog .neq 4 false false t11 t12).bind fun t13 => some [t13, t13, t12, x3, x6, t11, t10, t9, t8, t5])).bind fun l8 => unc l8 fun u9 l9 => unc l9 fun u10 l10 => unc l10 fun u11 l11 => unc l11 fun u12 l12 => unc l12 fun u13 l13 => unc l13 fun u14 l14 => unc l14 fun u15 l15 => unc l15 fun u16 l16 => unc l16 fun u17 l17 => unc l17 fun u18 l18 =>
 (bIf u9 (some [A.v (.bool true), ud, ud, ud, ud, ud, ud, ud, ud, ud, ud]) ((aSlice prog 35 t5 none (some (A.v (.int .i64 4))) none H).bind fun t19 =>
 (C 41 [snap H t19]).bind fun t20 =>
 (aLoad prog 22 x1 H).bind fun t21 =>
 (aIndexAddr prog 22 t21 x3 H).bind fun t22 =>
 (aLoad prog 35 t22 H).bind fun t23 =>
 (aSlice prog 35 t23 none (some (A.v (.int .i64 4))) none H).bind fun t24 =>
 (C 41 [snap H t24]).bind fun t25 =>
 (aBin prog .neq 68 false false t20 t25).bind fun t26 => some [t26, t26, t25, t24, t23, t22, x3, t21, t20, t19, t5])).bind fun l19 => unc l19 fun u20 l20 => unc l20 fun u21 l21 => unc l21 fun u22 l22 => unc l22 fun u23 l23 => unc l23 fun u24 l24 => unc l24 fun u25 l25 => unc l25 fun u26 l26 => unc l26 fun u27 l27 => unc l27 fun u28 l28 => unc l28 fun u29 l29 => unc l29 fun u30 l30 =>
 (gIf u20 false ((aSlice prog 35 t5 none (some (A.v (.int .i64 4))) none H).bind fun t31 =>
 (C 41 [snap H t31]).bind fun t32 => some [x4, t32, t31, t5]) (some [ud, ud, ud, ud])).bind fun l31 => unc l31 fun u32 l32 => unc l32 fun u33 l33 => unc l33 fun u34 l34 => unc l34 fun u35 l35 =>
 (bIf u20 (some [A.v (.bool true), ud]) ((aBin prog .lss 68 false false u33 u32).bind fun t36 => some [t36, t36])).bind fun l36 => unc l36 fun u37 l37 => unc l37 fun u38 l38 => bIfN u37 (kr (St.mk [(0, x0), (1, x1), (3, x3), (4, x4), (5, x5), (6, x6)] H)) ((aIndexAddr prog 35 t5 (A.v (.int .i64 11)) H).bind fun t39 =>
 (aLoad prog 5 t39 H).bind fun t40 =>
 (aConvert prog 5 3 t40 H).bind fun t41 =>
 (aBin prog .add 3 true false (A.v (.int .i64 12)) t41).bind fun t42 =>
 (aSlice prog 35 t5 (some (A.v (.int .i64 12))) (some t42) none H).bind fun t43 =>
 (aAppend prog 35 35 false x5 t43 H lo).bind fun r44 =>
 (aIndexAddr prog 35 t5 (A.v (.int .i64 10)) r44.2).bind fun t45 =>
 (aLoad prog 5 t45 r44.2).bind fun t46 =>
 (aBin prog .and 5 false true t46 (A.v (.int .u8 2))).bind fun t47 =>
 (aBin prog .neq 5 false true t47 (A.v (.int .u8 0))).bind fun t48 => bIfN t48 ((aBin prog .add 3 false true x6 (A.v (.int .i64 1))).bind fun t49 =>
 (aSlice prog 35 t5 none (some (A.v (.int .i64 4))) none r44.2).bind fun t50 =>
 (C 41 [snap r44.2 t50]).bind fun t51 => dynCall (cx C) call x0 [t49, r44.1] r44.2 lo (fun i52 h52 =>
 (aUn prog UnOp.not i52).bind fun t53 => bIfN t53 (kr (St.mk [(0, x0), (1, x1), (3, t49), (4, t51), (5, r44.1), (6, x6)] h52)) (kx 1 (St.mk [(0, x0), (1, x1), (3, t49), (4, t51), (5, r44.1), (6, x6)] h52))) fun i52 h52 => kp i52 (St.mk [(0, x0), (1, x1), (3, t49), (4, t51), (5, r44.1), (6, x6)] h52)) ((aBin prog .add 3 false true x6 (A.v (.int .i64 1))).bind fun t49 =>
 (trim L r44.2).bind fun H50 => bif bif Nat.beq (List.length r44.2) L then true else keepsUnder L [(6, t49), (14, t49), (13, x6), (66, t48), (65, t47), (64, t46), (63, t45), (62, t5), (5, r44.1), (61, r44.1), (60, t43), (59, t42), (58, t41), (57, t40), (56, t39), (55, t5), (54, t5), (53, x5), (52, u37), (51, u38), (50, u32), (49, u33), (48, u34), (47, u35), (46, u20), (45, u20), (44, u21), (43, u22), (42, u23), (41, u24), (40, u25), (39, u26), (38, u27), (37, u28), (36, u29), (35, u30), (34, u9), (33, u9), (32, u10), (31, u11), (30, u12), (29, u13), (28, u14), (27, u15), (26, u16), (25, u17), (24, u18), (23, t7), (22, t7), (21, t6), (20, x6), (19, t5), (7, t5), (18, t5), (17, t4), (16, x6), (15, t3), (12, t2), (11, t1), (10, t0), (9, x6), (0, x0), (1, x1), (3, x3), (4, x4), (5, x5), (6, x6)] [0, 1, 3, 4, 5, 6] then loopR (cx C) call rg n 60 lo 1 L kx kg kr kp m (St.mk [(0, x0), (1, x1), (3, x3), (4, x4), (5, r44.1), (6, t49)] H50) else none))) (kx 2 (St.mk [(0, x0), (1, x1), (3, x3), (4, x4), (5, x5), (6, x6)] H)) := by kernel_rfl
theorem e64_0 (n lo L : Nat) (kx kg : Nat -> St -> Option R) (kr : St -> Option R) (kp : A -> St -> Option R) (m : Nat) (x0 x1 x6 x7 : A) (H : Heap) : loopR (cx C) call rg n 64 lo 0 L kx kg kr kp (m + 1) (St.mk [(0, x0), (1, x1), (6, x6), (7, x7)] H) =
 (aBin prog .lss 3 false false x7 x6).bind fun t0 => bIfN t0 ((aLen prog 35 x0 H).bind fun t1 =>
 (aBin prog .sub 3 false true t1 (A.v (.int .i64 1))).bind fun t2 =>
 (aBin prog .sub 3 false false t2 x7).bind fun t3 =>
 (aBin prog .mul 3 true false (A.v (.int .i64 8)) x7).bind fun t4 =>
 (aBin prog .shr 68 false false x1 t4).bind fun t5 =>
 (aConvert prog 68 5 t5 H).bind fun t6 =>
 (aIndexAddr prog 35 x0 t3 H).bind fun t7 =>
 (aStore prog 5 t7 (stV t7 H t6) H lo).bind fun H8 =>
 (aBin prog .add 3 false true x7 (A.v (.int .i64 1))).bind fun t9 =>
 (trim L H8).bind fun H10 => bif bif Nat.beq (List.length H8) L then true else keepsUnder L [(7, t9), (22, t9), (21, t7), (20, t6), (19, t5), (18, t4), (17, x7), (16, x1), (15, t3), (14, x7), (13, t2), (12, t1), (11, x0), (10, x0), (4, x7), (9, x7), (8, t0), (0, x0), (1, x1), (6, x6), (7, x7)] [0, 1, 6, 7] then loopR (cx C) call rg n 64 lo 0 L kx kg kr kp m (St.mk [(0, x0), (1, x1), (6, x6), (7, t9)] H10) else none) (kx 0 (St.mk [(0, x0), (1, x1), (6, x6), (7, x7)] H)) := by kernel_rfl
theorem e65_0 (n lo L : Nat) (kx kg : Nat -> St -> Option R) (kr : St -> Option R) (kp : A -> St -> Option R) (m : Nat) (x2 x3 x6 x7 x8 : A) (H : Heap) : loopR (cx C) call rg n 65 lo 0 L kx kg kr kp (m + 1) (St.mk [(2, x2), (3, x3), (6, x6), (7, x7), (8, x8)] H) =
 (aBin prog .lss 3 false false x8 x7).bind fun t0 => bIfN t0 ((aIndexAddr prog 35 x6 x8 H).bind fun t1 =>
 (aLoad prog 5 t1 H).bind fun t2 =>
 (aConvert prog 5 91 t2 H).bind fun t3 =>
 (aBin prog .xor 91 false false x3 t3).bind fun t4 => loopR (cx C) call rg n 65 lo 1 (List.length H) (fun i5 s5 => bif Nat.beq i5 2 then
 (aBin prog .add 3 false true (lk s5 8) (A.v (.int .i64 1))).bind fun t6 =>
 (trim L (St.H s5)).bind fun H7 => bif bif Nat.beq (List.length (St.H s5)) L then true else keepsUnder L ((8, t6) :: (25, t6) :: St.fr s5) [2, 3, 6, 7, 8] then loopR (cx C) call rg n 65 lo 0 L kx kg kr kp m (St.mk [(2, lk s5 2), (3, lk s5 3), (6, lk s5 6), (7, lk s5 7), (8, t6)] H7) else none else bif Nat.beq i5 1 then
 (aBin prog .add 3 false true (lk s5 8) (A.v (.int .i64 1))).bind fun t6 =>
 (trim L (St.H s5)).bind fun H7 => bif bif Nat.beq (List.length (St.H s5)) L then true else keepsUnder L ((8, t6) :: (25, t6) :: St.fr s5) [2, 3, 6, 7, 8] then loopR (cx C) call rg n 65 lo 0 L kx kg kr kp m (St.mk [(2, lk s5 2), (3, lk s5 3), (6, lk s5 6), (7, lk s5 7), (8, t6)] H7) else none else kx i5 (St.mk [(2, lk s5 2), (3, lk s5 3), (6, lk s5 6), (7, lk s5 7), (8, lk s5 8)] (St.H s5))) (fun i5 s5 => kg i5 (St.mk [(2, lk s5 2), (3, lk s5 3), (6, lk s5 6), (7, lk s5 7), (8, lk s5 8)] (St.H s5))) (fun a5 => kr (St.mk [(2, lk a5 2), (3, lk a5 3), (6, lk a5 6), (7, lk a5 7), (8, lk a5 8)] (St.H a5))) (fun i5 s5 => kp i5 (St.mk [(2, lk s5 2), (3, lk s5 3), (6, lk s5 6), (7, lk s5 7), (8, lk s5 8)] (St.H s5))) n (St.mk [(2, x2), (3, t4), (6, x6), (7, x7), (8, x8), (16, A.v (.int .i64 0))] H)) (kx 0 (St.mk [(2, x2), (3, x3), (6, x6), (7, x7), (8, x8)] H)) := by kernel_rfl
theorem e65_1 (n lo L : Nat) (kx kg : Nat -> St -> Option R) (kr : St -> Option R) (kp : A -> St -> Option R) (m : Nat) (x2 x3 x6 x7 x8 x16 : A) (H : Heap) : loopR (cx C) call rg n 65 lo 1 L kx kg kr kp (m + 1) (St.mk [(2, x2), (3, x3), (6, x6), (7, x7), (8, x8), (16, x16)] H) =
 (aBin prog .lss 3 false true x16 (A.v (.int .i64 8))).bind fun t0 => bIfN t0 ((aBin prog .shr 91 false true x3 (A.v (.int .u64 1))).bind fun t1 =>
 (aBin prog .and 91 false true x3 (A.v (.int .u32 1))).bind fun t2 =>
 (aBin prog .mul 91 true false (A.v (.int .u32 3988292384)) t2).bind fun t3 =>
 (aBin prog .xor 91 false false t1 t3).bind fun t4 =>
 (aBin prog .add 3 false true x16 (A.v (.int .i64 1))).bind fun t5 =>
 (trim L H).bind fun H6 => bif bif Nat.beq (List.length H) L then true else keepsUnder L [(16, t5), (24, t5), (3, t4), (23, t4), (22, t3), (21, t2), (20, x3), (19, t1), (18, x3), (17, t0), (2, x2), (3, x3), (6, x6), (7, x7), (8, x8), (16, x16)] [2, 3, 6, 7, 8, 16] then loopR (cx C) call rg n 65 lo 1 L kx kg kr kp m (St.mk [(2, x2), (3, t4), (6, x6), (7, x7), (8, x8), (16, t5)] H6) else none) (kx 2 (St.mk [(2, x2), (3, x3), (6, x6), (7, x7), (8, x8), (16, x16)] H)) := by kernel_rfl
theorem e70_0 (n lo L : Nat) (kx kg : Nat -> St -> Option R) (kr : St -> Option R) (kp : A -> St -> Option R) (m : Nat) (x0 x1 x4 x7 x8 : A) (H : Heap) : loopR (cx C) call rg n 70 lo 0 L kx kg kr kp (m + 1) (St.mk [(0, x0), (1, x1), (4, x4), (7, x7), (8, x8)] H) =
 (aBin prog .lss 3 false false x8 x7).bind fun t0 => bIfN t0 ((aIndexAddr prog 23 x0 x8 H).bind fun t1 =>
 (aLoad prog 76 t1 H).bind fun t2 => dynCall (cx C) call x1 [t2] H lo (fun i3 h3 => bIfN i3 (kr (St.mk [(0, x0), (1, x1), (4, x8), (7, x7), (8, x8)] h3)) ((aBin prog .add 3 false true x8 (A.v (.int .i64 1))).bind fun t4 =>
 (trim L h3).bind fun H5 => bif bif Nat.beq (List.length h3) L then true else keepsUnder L [(8, t4), (18, t4), (16, i3), (15, t2), (14, t1), (13, x8), (12, x0), (11, x1), (5, x8), (10, x8), (9, t0), (0, x0), (1, x1), (4, x4), (7, x7), (8, x8)] [0, 1, 4, 7, 8] then loopR (cx C) call rg n 70 lo 0 L kx kg kr kp m (St.mk [(0, x0), (1, x1), (4, x4), (7, x7), (8, t4)] H5) else none)) fun i3 h3 => kp i3 (St.mk [(0, x0), (1, x1), (4, x4), (7, x7), (8, x8)] h3)) (kx 0 (St.mk [(0, x0), (1, x1), (4, x4), (7, x7), (8, x8)] H)) := by kernel_rfl
theorem e71_0 (n lo L : Nat) (kx kg : Nat -> St -> Option R) (kr : St -> Option R) (kp : A -> St -> Option R) (m : Nat) (x0 x1 x4 x7 x8 : A) (H : Heap) : loopR (cx C) call rg n 71 lo 0 L kx kg kr kp (m + 1) (St.mk [(0, x0), (1, x1), (4, x4), (7, x7), (8, x8)] H) =
 (aBin prog .lss 3 false false x8 x7).bind fun t0 => bIfN t0 ((aIndexAddr prog 22 x0 x8 H).bind fun t1 =>
 (aLoad prog 35 t1 H).bind fun t2 => dynCall (cx C) call x1 [t2] H lo (fun i3 h3 => bIfN i3 (kr (St.mk [(0, x0), (1, x1), (4, x8), (7, x7), (8, x8)] h3)) ((aBin prog .add 3 false true x8 (A.v (.int .i64 1))).bind fun t4 =>
 (trim L h3).bind fun H5 => bif bif Nat.beq (List.length h3) L then true else keepsUnder L [(8, t4), (18, t4), (16, i3), (15, t2), (14, t1), (13, x8), (12, x0), (11, x1), (5, x8), (10, x8), (9, t0), (0, x0), (1, x1), (4, x4), (7, x7), (8, x8)] [0, 1, 4, 7, 8] then loopR (cx C) call rg n 71 lo 0 L kx kg kr kp m (St.mk [(0, x0), (1, x1), (4, x4), (7, x7), (8, t4)] H5) else none)) fun i3 h3 => kp i3 (St.mk [(0, x0), (1, x1), (4, x4), (7, x7), (8, x8)] h3)) (kx 0 (St.mk [(0, x0), (1, x1), (4, x4), (7, x7), (8, x8)] H)) := by kernel_rfl
theorem e12_r0 (n lo b lo' : Nat) (x2 y0 y1 : A) (H : Heap) : roundR (cx C) call rg n 12 lo 0 b [(2, x2)] [y0, y1] H lo' = bif Nat.ble lo' lo then rdy H b (rdy H b ((aFieldAddr prog 29 x2 0 (List.set H b (Blk.rng RSt.busy))).bind fun t0 =>
 (aLoad prog 22 t0 (List.set H b (Blk.rng RSt.busy))).bind fun t1 =>
 (aBuildSlice prog 22 1 [(0, frzA (List.set H b (Blk.rng RSt.busy)) y1)]).bind fun t2 =>
 (aAppend prog 22 22 false t1 t2 (List.set H b (Blk.rng RSt.busy)) lo).bind fun r3 =>
 (aFieldAddr prog 29 x2 0 r3.2).bind fun t4 =>
 (aStore prog 22 t4 (stV t4 r3.2 r3.1) r3.2 lo).bind fun H5 => bsy H5 b (some (Out.ret (A.v (.bool true)), List.set H5 b (Blk.rng RSt.ready))))) else none := by kernel_rfl
theorem e15z (n lo : Nat) (x0 x1 : A) (H : Heap) : evCall1 (cxz C) call rg n 15 [x0, x1] H lo =
 (aBox x0 H).bind fun r0 =>
 (aAlloc prog 29 r0.2).bind fun r1 =>
 (aLoad prog 29 r0.1 r1.2).bind fun t2 =>
 (C 17 [snap r1.2 t2]).bind fun t3 =>
 (aBin prog .neq 30 false true t3 (A.v (.int .i64 0))).bind fun t4 => bIfN t4 ((aBuild prog 29 []).bind fun t5 =>
 (aStore prog 29 r1.1 (stV r1.1 r1.2 t5) r1.2 lo).bind fun H6 =>
 (aLoad prog 29 r1.1 H6).bind fun t7 => some (Out.ret (A.tup [t7, t3]), H6)) ((C 35 [snap r1.2 x1]).bind fun t5 =>
 (aFieldAddr prog 29 r0.1 1 r1.2).bind fun t6 =>
 (aLoad prog 3 t6 r1.2).bind fun t7 =>
 (aFieldAddr prog 29 r0.1 0 r1.2).bind fun t8 =>
 (aLoad prog 22 t8 r1.2).bind fun t9 =>
 (C 36 [snap r1.2 t9]).bind fun t10 =>
 (aBin prog .sub 3 false false t7 t10).bind fun t11 =>
 (aBin prog .gtr 3 false false t5 t11).bind fun t12 => bIfN t12 ((aBuild prog 29 []).bind fun t13 =>
 (aStore prog 29 r1.1 (stV r1.1 r1.2 t13) r1.2 lo).bind fun H14 =>
 (aLoad prog 29 r1.1 H14).bind fun t15 => some (Out.ret (A.tup [t15, A.v (.int .i64 2)]), H14)) ((aFieldAddr prog 29 r0.1 0 r1.2).bind fun t13 =>
 (aLoad prog 22 t13 r1.2).bind fun t14 =>
 (call 37 [t14] r1.2 lo).bind fun H15 => outK H15.1 (fun a16 =>
 (C 38 [snap H15.2 x1]).bind fun t17 =>
 (aBuildSlice prog 22 1 [(0, frzA H15.2 t17)]).bind fun t18 =>
 (aAppend prog 22 22 false a16 t18 H15.2 lo).bind fun r19 =>
 (aFieldAddr prog 29 r0.1 0 r19.2).bind fun t20 =>
 (aStore prog 22 t20 (stV t20 r19.2 r19.1) r19.2 lo).bind fun H21 =>
 (aLoad prog 29 r0.1 H21).bind fun t22 =>
 (aStore prog 29 r1.1 (stV r1.1 H21 t22) H21 lo).bind fun H23 =>
 (aLoad prog 29 r1.1 H23).bind fun t24 => some (Out.ret (A.tup [t24, A.v (.int .i64 0)]), H23)) fun a16 => some (Out.pan a16, H15.2))) := by kernel_rfl
theorem e37z (n lo : Nat) (x0 : A) (H : Heap) : evCall1 (cxz C) call rg n 37 [x0] H lo =
 (aLen prog 22 x0 H).bind fun t0 =>
 (aLen prog 22 x0 H).bind fun t1 =>
 (aSlice prog 22 x0 none (some t0) (some t1) H).bind fun t2 => some (Out.ret t2, H) := by kernel_rfl
end Go.Proofs.Ytobjniabioaefaa
