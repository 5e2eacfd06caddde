/-
  What the interpreter does with the program's functions: equations, by a tool; the kernel checks each.
-/
import Derived.Test.YtooamdacfhfjoaaDoorEvTyped
import Derived.Test.YtooamdacfhfjoaaDoorRows
import Derived.KernelRfl
namespace Go.Proofs.YtooamdacfhfjoaaDoor
set_option linter.unusedVariables false
set_option linter.unusedSimpArgs false
set_option maxHeartbeats 4000000
set_option maxRecDepth 100000
def keepTab : List ((Nat × Nat) × List Nat) := [((9, 27), [4, 5, 17, 129, 130, 131, 189, 190, 191]), ((9, 22), [4, 5, 17, 129, 130, 131]), ((9, 11), [2, 3, 4, 5, 7, 8, 10, 75, 76]), ((8, 9), [3, 4, 5, 6, 7, 60]), ((14, 8), [2, 4, 5, 30, 31]), ((16, 4), [2, 22, 23]), ((17, 4), [1, 2, 3]), ((18, 8), [3, 4, 5, 6, 7, 8, 9, 10, 41, 42]), ((20, 1000012), [4]), ((21, 8), [2, 3, 4, 5, 7, 8]), ((23, 9), [2, 3, 6, 42, 43, 44, 50, 51]), ((23, 6), [2, 3, 42, 43, 44]), ((43, 4), [0, 2, 19, 20]), ((44, 2), [0, 1, 6, 9, 10, 11]), ((48, 2), [0, 4, 7, 8, 9]), ((64, 1), [0, 1, 2, 12, 13]), ((65, 4), [0, 2, 3]), ((80, 1), [0, 6, 7, 8])]
def keepF (f r : Nat) : List Nat := keepOf f r keepTab
def actTab : List ((Nat × Nat) × List (Nat × Nat × Nat)) := [((23, 2000002), [(1, 0, 0)]), ((23, 2000005), [(4, 0, 0)]), ((9, 11), [(10, 0, 3)]), ((9, 22), [(129, 0, 0)])]
def actF (f r : Nat) : List (Nat × Nat × Nat) := actOf f r actTab
def arrTab : List (Nat × Nat) := []
def arrF (f t : Nat) : Bool := inTab f t arrTab
def wrTab : List (Nat × Nat) := []
def wrF (f t : Nat) : Bool := inTab f t wrTab
def loudTab : List (Nat × Nat) := []
def loudF (f t : Nat) : Bool := inTab f t loudTab
def joinTab : List ((Nat × Nat) × List Nat) := [((8, 15), [3,4,5,6,7,9,13,60])]
def joinF (f r : Nat) : List Nat := keepOf f r joinTab
noncomputable def cx (C : Nat → List A → Option A) : Cx := { P := Tryd.prog, glob := fun g => if g = 0 then some [.int .i64 0, .int .i64 29, .int .i64 20, .int .i64 21, .int .i64 29, .int .i64 0, .int .i64 20, .int .i64 (-21), .int .i64 0, .int .i64 (-29), .int .i64 (-20), .int .i64 (-21), .int .i64 (-29), .int .i64 0, .int .i64 (-20), .int .i64 21] else none, isOrc := fun k => notIn k [34, 38, 46, 52, 53, 54, 55, 56, 57, 58, 59, 60, 64, 73, 74, 75, 76, 77, 78, 79, 80, 81], isOrcV := fun k => notIn k [34, 38, 46, 52, 53, 54, 55, 56, 57, 58, 59, 60, 64, 73, 74, 75, 76, 77, 78, 79, 80, 81], C := C, keep := keepF, wrAt := wrF, acts := actF, loud := loudF, arr := arrF, join := joinF }
theorem qsz (C : Nat → List A → Option A) : Array.size (Program.funcs (Cx.P (cx C))) = 110 := by kernel_rfl
theorem yq {C : Nat → List A → Option A} {m b : Nat} {base : CallT} {args : List A} {H : Heap} {lo : Nat} : evCallY (cx C) m base (Array.size (Program.funcs (Cx.P (cx C))) + b) args H lo = base (110 + b) args H lo := evCallY_y.trans (congrArg (fun q => base (q + b) args H lo) (qsz C))
theorem lt_34 : Nat.ble Tryd.prog.funcs.size 34 = false := by kernel_rfl
theorem lt_38 : Nat.ble Tryd.prog.funcs.size 38 = false := by kernel_rfl
theorem lt_46 : Nat.ble Tryd.prog.funcs.size 46 = false := by kernel_rfl
theorem lt_52 : Nat.ble Tryd.prog.funcs.size 52 = false := by kernel_rfl
theorem lt_53 : Nat.ble Tryd.prog.funcs.size 53 = false := by kernel_rfl
theorem lt_54 : Nat.ble Tryd.prog.funcs.size 54 = false := by kernel_rfl
theorem lt_55 : Nat.ble Tryd.prog.funcs.size 55 = false := by kernel_rfl
theorem lt_56 : Nat.ble Tryd.prog.funcs.size 56 = false := by kernel_rfl
theorem lt_57 : Nat.ble Tryd.prog.funcs.size 57 = false := by kernel_rfl
theorem lt_58 : Nat.ble Tryd.prog.funcs.size 58 = false := by kernel_rfl
theorem lt_59 : Nat.ble Tryd.prog.funcs.size 59 = false := by kernel_rfl
theorem lt_60 : Nat.ble Tryd.prog.funcs.size 60 = false := by kernel_rfl
theorem lt_64 : Nat.ble Tryd.prog.funcs.size 64 = false := by kernel_rfl
theorem lt_73 : Nat.ble Tryd.prog.funcs.size 73 = false := by kernel_rfl
theorem lt_74 : Nat.ble Tryd.prog.funcs.size 74 = false := by kernel_rfl
theorem lt_75 : Nat.ble Tryd.prog.funcs.size 75 = false := by kernel_rfl
theorem lt_76 : Nat.ble Tryd.prog.funcs.size 76 = false := by kernel_rfl
theorem lt_77 : Nat.ble Tryd.prog.funcs.size 77 = false := by kernel_rfl
theorem lt_78 : Nat.ble Tryd.prog.funcs.size 78 = false := by kernel_rfl
theorem lt_79 : Nat.ble Tryd.prog.funcs.size 79 = false := by kernel_rfl
theorem lt_80 : Nat.ble Tryd.prog.funcs.size 80 = false := by kernel_rfl
theorem lt_81 : Nat.ble Tryd.prog.funcs.size 81 = false := by kernel_rfl
theorem e9 (C : Nat → List A → Option A) (call : CallT) (rg : CallT → CallT) (n lo : Nat) (x0 x1 : A) (H : Heap) : evCall1 (cx C) call rg n 9 [x0, x1] H lo =
 Option.bind (aBox x0 H) fun r0 =>
 Option.bind (aBox x1 r0.2) fun r1 =>
 Option.bind (C 11 []) fun t2 =>
 Option.bind (aUn Tryd.prog UnOp.not t2) fun t3 => bIfN t3 (some (Out.ret (A.v (Value.bool false)), r1.2)) (Option.bind (aLoad Tryd.prog 26 r0.1 r1.2) fun t4 =>
 Option.bind (aLoad Tryd.prog 46 r1.1 r1.2) fun t5 =>
 Option.bind (C 20 [snap r1.2 t4, snap r1.2 t5]) fun t6 =>
 Option.bind (aExtract t6 0) fun t7 =>
 Option.bind (aExtract t6 1) fun t8 =>
 Option.bind (aAlloc Tryd.prog 50 r1.2) fun r9 =>
 Option.bind (aStore Tryd.prog 50 r9.1 (stV r9.1 r9.2 t7) r9.2 lo) fun H10 =>
 Option.bind (aBin Tryd.prog BinOp.neq 30 false true t8 (A.v (Value.int IntKind.i64 0))) fun t11 => bIfN t11 (Option.bind (aLoad Tryd.prog 26 r0.1 H10) fun t12 =>
 Option.bind (C 16 [snap H10 t12]) fun t13 =>
 Option.bind (aBin Tryd.prog BinOp.eql 30 false false t8 t13) fun t14 =>
 Option.bind (bIf t14 (some [A.v (Value.bool true), A.v undef, A.v undef, A.v undef, A.v undef]) (Option.bind (aLoad Tryd.prog 46 r1.1 H10) fun t15 =>
 Option.bind (C 23 [snap H10 t15]) fun t16 =>
 Option.bind (aBin Tryd.prog BinOp.eql 30 false false t8 t16) fun t17 => some [t17, t17, t16, t15, t8])) fun l15 => unc l15 fun u16 l16 => unc l16 fun u17 l17 => unc l17 fun u18 l18 => unc l18 fun u19 l19 => unc l19 fun u20 l20 => some (Out.ret u16, H10)) (Option.bind (aLoad Tryd.prog 26 r0.1 H10) fun t12 =>
 Option.bind (C 16 [snap H10 t12]) fun t13 =>
 Option.bind (aBin Tryd.prog BinOp.neq 30 false true t13 (A.v (Value.int IntKind.i64 0))) fun t14 =>
 Option.bind (bIf t14 (some [A.v (Value.bool true), A.v undef, A.v undef, A.v undef]) (Option.bind (aLoad Tryd.prog 46 r1.1 H10) fun t15 =>
 Option.bind (C 23 [snap H10 t15]) fun t16 =>
 Option.bind (aBin Tryd.prog BinOp.neq 30 false true t16 (A.v (Value.int IntKind.i64 0))) fun t17 => some [t17, t17, t16, t15])) fun l15 => unc l15 fun u16 l16 => unc l16 fun u17 l17 => unc l17 fun u18 l18 => unc l18 fun u19 l19 => bIfN u16 (some (Out.ret (A.v (Value.bool false)), H10)) (Option.bind (aFieldAddr Tryd.prog 26 r0.1 0 H10) fun t20 =>
 Option.bind (aLoad Tryd.prog 3 t20 H10) fun t21 =>
 Option.bind (aBin Tryd.prog BinOp.mul 3 true false (A.v (Value.int IntKind.i64 29)) t21) fun t22 =>
 Option.bind (aFieldAddr Tryd.prog 26 r0.1 1 H10) fun t23 =>
 Option.bind (aLoad Tryd.prog 3 t23 H10) fun t24 =>
 Option.bind (aBin Tryd.prog BinOp.mul 3 true false (A.v (Value.int IntKind.i64 29)) t24) fun t25 =>
 Option.bind (aFieldAddr Tryd.prog 46 r1.1 3 H10) fun t26 =>
 Option.bind (aLoad Tryd.prog 3 t26 H10) fun t27 =>
 Option.bind (aBin Tryd.prog BinOp.mul 3 true false (A.v (Value.int IntKind.i64 841)) t27) fun t28 =>
 Option.bind (aBin Tryd.prog BinOp.sub 3 false false t22 t28) fun t29 =>
 Option.bind (aBin Tryd.prog BinOp.sub 3 false false t25 t28) fun t30 =>
 Option.bind (aBuild Tryd.prog 58 [(0, t29), (1, t30)]) fun t31 =>
 Option.bind (aBin Tryd.prog BinOp.add 3 false false t22 t28) fun t32 =>
 Option.bind (aBin Tryd.prog BinOp.add 3 false false t25 t28) fun t33 =>
 Option.bind (aBuild Tryd.prog 58 [(0, t32), (1, t33)]) fun t34 =>
 Option.bind (aBuildSlice Tryd.prog 59 2 [(0, frzA H10 t31), (1, frzA H10 t34)]) fun t35 =>
 Option.bind (aFieldAddr Tryd.prog 26 r0.1 3 H10) fun t36 =>
 Option.bind (aLoad Tryd.prog 24 t36 H10) fun t37 => loopR (cx C) call rg n 9 lo 0 (List.length (seed1 2 (St.H (St.mk [(2, r0.1), (3, r1.1), (4, A.v (Value.bool false)), (5, r9.1), (7, t22), (8, t25), (10, t35), (75, t37), (76, A.v (Value.int IntKind.i64 0))] H10)) (look (St.fr (St.mk [(2, r0.1), (3, r1.1), (4, A.v (Value.bool false)), (5, r9.1), (7, t22), (8, t25), (10, t35), (75, t37), (76, A.v (Value.int IntKind.i64 0))] H10)) (Prod.fst (10, 0, 3)))).2) (fun i38 s38 => bif Nat.beq i38 0 then
 Option.bind (aAlloc Tryd.prog 66 (St.H s38)) fun r39 =>
 Option.bind (aLen Tryd.prog 59 (look (St.fr s38) 10) r39.2) fun t40 => loopR (cx C) call rg n 9 lo 1 (List.length r39.2) (fun i41 s41 => bif Nat.beq i41 2 then
 Option.bind (aLoad Tryd.prog 66 (look (St.fr s41) 17) (St.H s41)) fun t42 =>
 Option.bind (aBuild Tryd.prog 66 [(0, A.v (Value.bool true)), (1, A.v (Value.bool true)), (2, A.v (Value.bool true)), (3, A.v (Value.bool true))]) fun t43 =>
 Option.bind (aBin Tryd.prog BinOp.eql 66 false false t42 t43) fun t44 => some (Out.ret t44, St.H s41) else none) (fun i41 s41 => none) (fun a41 => some (Out.ret (look (St.fr a41) 4), St.H a41)) (fun i41 s41 => some (Out.pan i41, St.H s41)) n (St.mk [(4, look (St.fr s38) 4), (5, look (St.fr s38) 5), (17, r39.1), (129, frz r39.2 (look (St.fr s38) 10)), (130, t40), (131, A.v (Value.int IntKind.i64 0))] r39.2) else none) (fun i38 s38 => none) (fun a38 => some (Out.ret (look (St.fr a38) 4), St.H a38)) (fun i38 s38 => some (Out.pan i38, St.H s38)) n (St.mk [(2, r0.1), (3, r1.1), (4, A.v (Value.bool false)), (5, r9.1), (7, t22), (8, t25), (10, (seed1 2 (St.H (St.mk [(2, r0.1), (3, r1.1), (4, A.v (Value.bool false)), (5, r9.1), (7, t22), (8, t25), (10, t35), (75, t37), (76, A.v (Value.int IntKind.i64 0))] H10)) (look (St.fr (St.mk [(2, r0.1), (3, r1.1), (4, A.v (Value.bool false)), (5, r9.1), (7, t22), (8, t25), (10, t35), (75, t37), (76, A.v (Value.int IntKind.i64 0))] H10)) (Prod.fst (10, 0, 3)))).1), (75, t37), (76, A.v (Value.int IntKind.i64 0))] (seed1 2 (St.H (St.mk [(2, r0.1), (3, r1.1), (4, A.v (Value.bool false)), (5, r9.1), (7, t22), (8, t25), (10, t35), (75, t37), (76, A.v (Value.int IntKind.i64 0))] H10)) (look (St.fr (St.mk [(2, r0.1), (3, r1.1), (4, A.v (Value.bool false)), (5, r9.1), (7, t22), (8, t25), (10, t35), (75, t37), (76, A.v (Value.int IntKind.i64 0))] H10)) (Prod.fst (10, 0, 3)))).2)))) := by kernel_rfl
theorem e11 (C : Nat → List A → Option A) (call : CallT) (rg : CallT → CallT) (n lo : Nat) (H : Heap) : evCall1 (cx C) call rg n 11 [] H lo =
 Option.bind (aBuild Tryd.prog 28 [(1, A.v (Value.int IntKind.i64 2)), (2, A.v (Value.int IntKind.i64 3)), (3, A.v (Value.int IntKind.i64 2))]) fun t0 =>
 Option.bind (C 12 [snap H t0]) fun t1 =>
 Option.bind (aExtract t1 0) fun t2 =>
 Option.bind (aExtract t1 1) fun t3 =>
 Option.bind (aAlloc Tryd.prog 26 H) fun r4 =>
 Option.bind (aStore Tryd.prog 26 r4.1 (stV r4.1 r4.2 t2) r4.2 lo) fun H5 =>
 Option.bind (aBuild Tryd.prog 39 [(3, A.v (Value.int IntKind.i64 1)), (4, A.v (Value.int IntKind.i64 1)), (5, A.v (Value.int IntKind.i64 1)), (6, A.v (Value.int IntKind.i64 1)), (8, A.v (Value.int IntKind.i64 2))]) fun t6 =>
 Option.bind (aAlloc Tryd.prog 39 H5) fun r7 =>
 Option.bind (aStore Tryd.prog 39 r7.1 (stV r7.1 r7.2 t6) r7.2 lo) fun H8 =>
 Option.bind (aLoad Tryd.prog 26 r4.1 H8) fun t9 =>
 Option.bind (aLoad Tryd.prog 39 r7.1 H8) fun t10 =>
 Option.bind (aBuild Tryd.prog 41 []) fun t11 =>
 Option.bind (C 18 [snap H8 t9, snap H8 t10, snap H8 t11]) fun t12 =>
 Option.bind (aExtract t12 0) fun t13 =>
 Option.bind (aExtract t12 1) fun t14 =>
 Option.bind (aAlloc Tryd.prog 26 H8) fun r15 =>
 Option.bind (aStore Tryd.prog 26 r15.1 (stV r15.1 r15.2 t13) r15.2 lo) fun H16 =>
 Option.bind (aBuild Tryd.prog 39 [(0, A.v (Value.int IntKind.i64 1)), (3, A.v (Value.int IntKind.i64 1)), (4, A.v (Value.int IntKind.i64 4)), (5, A.v (Value.int IntKind.i64 2)), (6, A.v (Value.int IntKind.i64 1)), (7, A.v (Value.int IntKind.i64 2))]) fun t17 =>
 Option.bind (aAlloc Tryd.prog 39 H16) fun r18 =>
 Option.bind (aStore Tryd.prog 39 r18.1 (stV r18.1 r18.2 t17) r18.2 lo) fun H19 =>
 Option.bind (aLoad Tryd.prog 26 r15.1 H19) fun t20 =>
 Option.bind (aLoad Tryd.prog 39 r18.1 H19) fun t21 =>
 Option.bind (aBuild Tryd.prog 41 [(0, A.v (Value.int IntKind.i64 1)), (1, A.v (Value.int IntKind.i64 1)), (2, A.v (Value.int IntKind.i64 2))]) fun t22 =>
 Option.bind (C 18 [snap H19 t20, snap H19 t21, snap H19 t22]) fun t23 =>
 Option.bind (aExtract t23 0) fun t24 =>
 Option.bind (aExtract t23 1) fun t25 =>
 Option.bind (aAlloc Tryd.prog 26 H19) fun r26 =>
 Option.bind (aStore Tryd.prog 26 r26.1 (stV r26.1 r26.2 t24) r26.2 lo) fun H27 =>
 Option.bind (aLoad Tryd.prog 26 r4.1 H27) fun t28 =>
 Option.bind (C 28 []) fun t29 =>
 Option.bind (C 20 [snap H27 t28, snap H27 t29]) fun t30 =>
 Option.bind (aExtract t30 0) fun t31 =>
 Option.bind (aExtract t30 1) fun t32 => bif bif apart r4.1 A.any then true else false then
 Option.bind (aAlloc Tryd.prog 50 H27) fun r33 =>
 Option.bind (aStore Tryd.prog 50 r33.1 (stV r33.1 r33.2 t31) r33.2 lo) fun H34 =>
 Option.bind (aLoad Tryd.prog 26 r26.1 H34) fun t35 =>
 Option.bind (C 28 []) fun t36 =>
 Option.bind (C 20 [snap H34 t35, snap H34 t36]) fun t37 =>
 Option.bind (aExtract t37 0) fun t38 =>
 Option.bind (aExtract t37 1) fun t39 => bif bif apart r26.1 A.any then true else false then
 Option.bind (aAlloc Tryd.prog 50 H34) fun r40 =>
 Option.bind (aStore Tryd.prog 50 r40.1 (stV r40.1 r40.2 t38) r40.2 lo) fun H41 =>
 Option.bind (aBuild Tryd.prog 26 []) fun t42 =>
 Option.bind (C 14 [snap H41 t42, snap H41 (A.v (Value.int IntKind.i64 10))]) fun t43 =>
 Option.bind (aExtract t43 0) fun t44 =>
 Option.bind (aExtract t43 1) fun t45 =>
 Option.bind (aAlloc Tryd.prog 26 H41) fun r46 =>
 Option.bind (aStore Tryd.prog 26 r46.1 (stV r46.1 r46.2 t44) r46.2 lo) fun H47 =>
 Option.bind (aBuild Tryd.prog 26 []) fun t48 =>
 Option.bind (aBuild Tryd.prog 39 []) fun t49 =>
 Option.bind (aBuild Tryd.prog 41 []) fun t50 =>
 Option.bind (C 18 [snap H47 t48, snap H47 t49, snap H47 t50]) fun t51 =>
 Option.bind (aExtract t51 0) fun t52 =>
 Option.bind (aExtract t51 1) fun t53 =>
 Option.bind (aAlloc Tryd.prog 26 H47) fun r54 =>
 Option.bind (aStore Tryd.prog 26 r54.1 (stV r54.1 r54.2 t52) r54.2 lo) fun H55 =>
 Option.bind (aBuild Tryd.prog 28 [(1, A.v (Value.int IntKind.i64 1001))]) fun t56 =>
 Option.bind (C 12 [snap H55 t56]) fun t57 =>
 Option.bind (aExtract t57 0) fun t58 =>
 Option.bind (aExtract t57 1) fun t59 =>
 Option.bind (aAlloc Tryd.prog 26 H55) fun r60 =>
 Option.bind (aStore Tryd.prog 26 r60.1 (stV r60.1 r60.2 t58) r60.2 lo) fun H61 =>
 Option.bind (aLoad Tryd.prog 26 r4.1 H61) fun t62 =>
 Option.bind (aLoad Tryd.prog 39 r7.1 H61) fun t63 =>
 Option.bind (aBuild Tryd.prog 41 [(3, A.v (Value.bool true))]) fun t64 =>
 Option.bind (C 18 [snap H61 t62, snap H61 t63, snap H61 t64]) fun t65 =>
 Option.bind (aExtract t65 0) fun t66 =>
 Option.bind (aExtract t65 1) fun t67 =>
 Option.bind (aAlloc Tryd.prog 26 H61) fun r68 =>
 Option.bind (aStore Tryd.prog 26 r68.1 (stV r68.1 r68.2 t66) r68.2 lo) fun H69 =>
 Option.bind (aBin Tryd.prog BinOp.neq 30 false true t3 (A.v (Value.int IntKind.i64 0))) fun t70 =>
 Option.bind (bIf t70 (some [A.v (Value.bool true), A.v undef, A.v undef]) (Option.bind (aBin Tryd.prog BinOp.neq 30 false true t14 (A.v (Value.int IntKind.i64 0))) fun t71 => some [t71, t71, t14])) fun l71 => unc l71 fun u72 l72 => unc l72 fun u73 l73 => unc l73 fun u74 l74 =>
 Option.bind (bIf u72 (some [A.v (Value.bool true), A.v undef, A.v undef]) (Option.bind (aBin Tryd.prog BinOp.neq 30 false true t25 (A.v (Value.int IntKind.i64 0))) fun t75 => some [t75, t75, t25])) fun l75 => unc l75 fun u76 l76 => unc l76 fun u77 l77 => unc l77 fun u78 l78 =>
 Option.bind (bIf u76 (some [A.v (Value.bool true), A.v undef, A.v undef]) (Option.bind (aBin Tryd.prog BinOp.neq 30 false true t32 (A.v (Value.int IntKind.i64 0))) fun t79 => some [t79, t79, t32])) fun l79 => unc l79 fun u80 l80 => unc l80 fun u81 l81 => unc l81 fun u82 l82 =>
 Option.bind (bIf u80 (some [A.v (Value.bool true), A.v undef, A.v undef]) (Option.bind (aBin Tryd.prog BinOp.neq 30 false true t39 (A.v (Value.int IntKind.i64 0))) fun t83 => some [t83, t83, t39])) fun l83 => unc l83 fun u84 l84 => unc l84 fun u85 l85 => unc l85 fun u86 l86 =>
 Option.bind (bIf u84 (some [A.v (Value.bool true), A.v undef, A.v undef]) (Option.bind (aBin Tryd.prog BinOp.neq 30 false true t45 (A.v (Value.int IntKind.i64 0))) fun t87 => some [t87, t87, t45])) fun l87 => unc l87 fun u88 l88 => unc l88 fun u89 l89 => unc l89 fun u90 l90 =>
 Option.bind (bIf u88 (some [A.v (Value.bool true), A.v undef, A.v undef]) (Option.bind (aBin Tryd.prog BinOp.neq 30 false true t53 (A.v (Value.int IntKind.i64 1))) fun t91 => some [t91, t91, t53])) fun l91 => unc l91 fun u92 l92 => unc l92 fun u93 l93 => unc l93 fun u94 l94 =>
 Option.bind (bIf u92 (some [A.v (Value.bool true), A.v undef, A.v undef]) (Option.bind (aBin Tryd.prog BinOp.neq 30 false true t59 (A.v (Value.int IntKind.i64 1))) fun t95 => some [t95, t95, t59])) fun l95 => unc l95 fun u96 l96 => unc l96 fun u97 l97 => unc l97 fun u98 l98 =>
 Option.bind (bIf u96 (some [A.v (Value.bool true), A.v undef, A.v undef]) (Option.bind (aBin Tryd.prog BinOp.neq 30 false true t67 (A.v (Value.int IntKind.i64 0))) fun t99 => some [t99, t99, t67])) fun l99 => unc l99 fun u100 l100 => unc l100 fun u101 l101 => unc l101 fun u102 l102 =>
 Option.bind (bIf u100 (some [A.v (Value.bool true), A.v undef, A.v undef, A.v undef]) (Option.bind (aLoad Tryd.prog 26 r68.1 H69) fun t103 =>
 Option.bind (aLoad Tryd.prog 26 r4.1 H69) fun t104 =>
 Option.bind (aBin Tryd.prog BinOp.neq 26 false false t103 t104) fun t105 => some [t105, t105, t104, t103])) fun l103 => unc l103 fun u104 l104 => unc l104 fun u105 l105 => unc l105 fun u106 l106 => unc l106 fun u107 l107 => bIfN u104 (some (Out.ret (A.v (Value.bool false)), H69)) (Option.bind (aLoad Tryd.prog 26 r4.1 H69) fun t108 =>
 Option.bind (aBuild Tryd.prog 26 [(0, A.v (Value.int IntKind.i64 58)), (1, A.v (Value.int IntKind.i64 87)), (2, A.v (Value.int IntKind.i64 2))]) fun t109 =>
 Option.bind (aBin Tryd.prog BinOp.neq 26 false false t108 t109) fun t110 =>
 Option.bind (bIf t110 (some [A.v (Value.bool true), A.v undef, A.v undef, A.v undef]) (Option.bind (aLoad Tryd.prog 26 r15.1 H69) fun t111 =>
 Option.bind (aBuild Tryd.prog 26 [(0, A.v (Value.int IntKind.i64 116)), (1, A.v (Value.int IntKind.i64 87)), (2, A.v (Value.int IntKind.i64 2))]) fun t112 =>
 Option.bind (aBin Tryd.prog BinOp.neq 26 false false t111 t112) fun t113 => some [t113, t113, t112, t111])) fun l111 => unc l111 fun u112 l112 => unc l112 fun u113 l113 => unc l113 fun u114 l114 => unc l114 fun u115 l115 =>
 Option.bind (bIf u112 (some [A.v (Value.bool true), A.v undef, A.v undef, A.v undef]) (Option.bind (aLoad Tryd.prog 26 r46.1 H69) fun t116 =>
 Option.bind (aBuild Tryd.prog 26 [(0, A.v (Value.int IntKind.i64 290))]) fun t117 =>
 Option.bind (aBin Tryd.prog BinOp.neq 26 false false t116 t117) fun t118 => some [t118, t118, t117, t116])) fun l116 => unc l116 fun u117 l117 => unc l117 fun u118 l118 => unc l118 fun u119 l119 => unc l119 fun u120 l120 =>
 Option.bind (bIf u117 (some [A.v (Value.bool true), A.v undef, A.v undef, A.v undef]) (Option.bind (aBuild Tryd.prog 26 [(2, A.v (Value.int IntKind.i64 8))]) fun t121 =>
 Option.bind (C 16 [snap H69 t121]) fun t122 =>
 Option.bind (aBin Tryd.prog BinOp.neq 30 false true t122 (A.v (Value.int IntKind.i64 260))) fun t123 => some [t123, t123, t122, t121])) fun l121 => unc l121 fun u122 l122 => unc l122 fun u123 l123 => unc l123 fun u124 l124 => unc l124 fun u125 l125 =>
 Option.bind (bIf u122 (some [A.v (Value.bool true), A.v undef, A.v undef, A.v undef]) (Option.bind (aLoad Tryd.prog 26 r26.1 H69) fun t126 =>
 Option.bind (C 16 [snap H69 t126]) fun t127 =>
 Option.bind (aBin Tryd.prog BinOp.neq 30 false true t127 (A.v (Value.int IntKind.i64 0))) fun t128 => some [t128, t128, t127, t126])) fun l126 => unc l126 fun u127 l127 => unc l127 fun u128 l128 => unc l128 fun u129 l129 => unc l129 fun u130 l130 => bIfN u127 (some (Out.ret (A.v (Value.bool false)), H69)) (Option.bind (aBuild Tryd.prog 23 [(0, A.v (Value.int IntKind.i64 1)), (1, A.v (Value.int IntKind.i64 2))]) fun t131 =>
 Option.bind (aFieldAddr Tryd.prog 26 r15.1 3 H69) fun t132 =>
 Option.bind (aIndexAddr Tryd.prog 24 t132 (A.v (Value.int IntKind.i64 3)) H69) fun t133 =>
 Option.bind (aStore Tryd.prog 23 t133 (stV t133 H69 t131) H69 lo) fun H134 =>
 Option.bind (aBuild Tryd.prog 48 [(0, A.v (Value.int IntKind.i64 841)), (1, A.v (Value.int IntKind.i64 2523))]) fun t135 =>
 Option.bind (aBuild Tryd.prog 48 [(0, A.v (Value.int IntKind.i64 1682)), (1, A.v (Value.int IntKind.i64 3364))]) fun t136 =>
 Option.bind (aBuild Tryd.prog 50 [(0, t135), (1, t136)]) fun t137 =>
 Option.bind (aAlloc Tryd.prog 50 H134) fun r138 =>
 Option.bind (aStore Tryd.prog 50 r138.1 (stV r138.1 r138.2 t137) r138.2 lo) fun H139 =>
 Option.bind (aBuild Tryd.prog 48 [(0, A.v (Value.int IntKind.i64 2523)), (1, A.v (Value.int IntKind.i64 5887))]) fun t140 =>
 Option.bind (aFieldAddr Tryd.prog 50 r138.1 1 H139) fun t141 =>
 Option.bind (aLoad Tryd.prog 48 t141 H139) fun t142 =>
 Option.bind (aBuild Tryd.prog 50 [(0, t140), (1, t142)]) fun t143 =>
 Option.bind (aAlloc Tryd.prog 50 H139) fun r144 =>
 Option.bind (aStore Tryd.prog 50 r144.1 (stV r144.1 r144.2 t143) r144.2 lo) fun H145 =>
 Option.bind (aLoad Tryd.prog 26 r26.1 H145) fun t146 =>
 Option.bind (aLoad Tryd.prog 26 r15.1 H145) fun t147 =>
 Option.bind (aBin Tryd.prog BinOp.eql 26 false false t146 t147) fun t148 =>
 Option.bind (bIf t148 (Option.bind (aLoad Tryd.prog 50 r33.1 H145) fun t149 =>
 Option.bind (aLoad Tryd.prog 50 r138.1 H145) fun t150 =>
 Option.bind (aBin Tryd.prog BinOp.eql 50 false false t149 t150) fun t151 => some [t151, t151, t150, t149]) (some [A.v (Value.bool false), A.v undef, A.v undef, A.v undef])) fun l149 => unc l149 fun u150 l150 => unc l150 fun u151 l151 => unc l151 fun u152 l152 => unc l152 fun u153 l153 =>
 Option.bind (bIf u150 (Option.bind (aLoad Tryd.prog 50 r40.1 H145) fun t154 =>
 Option.bind (aLoad Tryd.prog 50 r144.1 H145) fun t155 =>
 Option.bind (aBin Tryd.prog BinOp.eql 50 false false t154 t155) fun t156 => some [t156, t156, t155, t154]) (some [A.v (Value.bool false), A.v undef, A.v undef, A.v undef])) fun l154 => unc l154 fun u155 l155 => unc l155 fun u156 l156 => unc l156 fun u157 l157 => unc l157 fun u158 l158 => some (Out.ret u155, H145))) else none else none := by kernel_rfl
theorem e12 (C : Nat → List A → Option A) (call : CallT) (rg : CallT → CallT) (n lo : Nat) (x0 : A) (H : Heap) : evCall1 (cx C) call rg n 12 [x0] H lo =
 Option.bind (aBox x0 H) fun r0 =>
 Option.bind (aAlloc Tryd.prog 26 r0.2) fun r1 =>
 Option.bind (aFieldAddr Tryd.prog 28 r0.1 1 r1.2) fun t2 =>
 Option.bind (aLoad Tryd.prog 3 t2 r1.2) fun t3 =>
 Option.bind (C 29 [snap r1.2 t3, snap r1.2 (A.v (Value.int IntKind.i64 0)), snap r1.2 (A.v (Value.int IntKind.i64 1000))]) fun t4 =>
 Option.bind (aUn Tryd.prog UnOp.not t4) fun t5 =>
 Option.bind (bIf t5 (some [A.v (Value.bool true), A.v undef, A.v undef, A.v undef, A.v undef]) (Option.bind (aFieldAddr Tryd.prog 28 r0.1 2 r1.2) fun t6 =>
 Option.bind (aLoad Tryd.prog 3 t6 r1.2) fun t7 =>
 Option.bind (C 29 [snap r1.2 t7, snap r1.2 (A.v (Value.int IntKind.i64 0)), snap r1.2 (A.v (Value.int IntKind.i64 1000))]) fun t8 =>
 Option.bind (aUn Tryd.prog UnOp.not t8) fun t9 => some [t9, t9, t8, t7, t6])) fun l6 => unc l6 fun u7 l7 => unc l7 fun u8 l8 => unc l8 fun u9 l9 => unc l9 fun u10 l10 => unc l10 fun u11 l11 =>
 Option.bind (bIf u7 (some [A.v (Value.bool true), A.v undef, A.v undef, A.v undef, A.v undef]) (Option.bind (aFieldAddr Tryd.prog 28 r0.1 3 r1.2) fun t12 =>
 Option.bind (aLoad Tryd.prog 3 t12 r1.2) fun t13 =>
 Option.bind (C 29 [snap r1.2 t13, snap r1.2 (A.v (Value.int IntKind.i64 0)), snap r1.2 (A.v (Value.int IntKind.i64 7))]) fun t14 =>
 Option.bind (aUn Tryd.prog UnOp.not t14) fun t15 => some [t15, t15, t14, t13, t12])) fun l12 => unc l12 fun u13 l13 => unc l13 fun u14 l14 => unc l14 fun u15 l15 => unc l15 fun u16 l16 => unc l16 fun u17 l17 => bIfN u13 (Option.bind (aLoad Tryd.prog 26 r1.1 r1.2) fun t18 =>
 Option.bind (aStore Tryd.prog 26 r1.1 (stV r1.1 r1.2 t18) r1.2 lo) fun H19 =>
 Option.bind (aLoad Tryd.prog 26 r1.1 H19) fun t20 => some (Out.ret (A.tup [t20, A.v (Value.int IntKind.i64 1)]), H19)) (Option.bind (aFieldAddr Tryd.prog 28 r0.1 1 r1.2) fun t18 =>
 Option.bind (aLoad Tryd.prog 3 t18 r1.2) fun t19 =>
 Option.bind (aBin Tryd.prog BinOp.mul 3 true false (A.v (Value.int IntKind.i64 29)) t19) fun t20 =>
 Option.bind (aFieldAddr Tryd.prog 28 r0.1 2 r1.2) fun t21 =>
 Option.bind (aLoad Tryd.prog 3 t21 r1.2) fun t22 =>
 Option.bind (aBin Tryd.prog BinOp.mul 3 true false (A.v (Value.int IntKind.i64 29)) t22) fun t23 =>
 Option.bind (aFieldAddr Tryd.prog 28 r0.1 3 r1.2) fun t24 =>
 Option.bind (aLoad Tryd.prog 3 t24 r1.2) fun t25 =>
 Option.bind (aBuild Tryd.prog 26 [(0, t20), (1, t23), (2, t25)]) fun t26 =>
 Option.bind (aStore Tryd.prog 26 r1.1 (stV r1.1 r1.2 t26) r1.2 lo) fun H27 =>
 Option.bind (aLoad Tryd.prog 26 r1.1 H27) fun t28 => some (Out.ret (A.tup [t28, A.v (Value.int IntKind.i64 0)]), H27)) := by kernel_rfl
theorem e14 (C : Nat → List A → Option A) (call : CallT) (rg : CallT → CallT) (n lo : Nat) (x0 x1 : A) (H : Heap) : evCall1 (cx C) call rg n 14 [x0, x1] H lo =
 Option.bind (aBox x0 H) fun r0 =>
 Option.bind (aAlloc Tryd.prog 26 r0.2) fun r1 =>
 Option.bind (aLoad Tryd.prog 26 r0.1 r1.2) fun t2 =>
 Option.bind (C 16 [snap r1.2 t2]) fun t3 =>
 Option.bind (aBin Tryd.prog BinOp.neq 30 false true t3 (A.v (Value.int IntKind.i64 0))) fun t4 => bIfN t4 (Option.bind (aLoad Tryd.prog 26 r1.1 r1.2) fun t5 =>
 Option.bind (aStore Tryd.prog 26 r1.1 (stV r1.1 r1.2 t5) r1.2 lo) fun H6 =>
 Option.bind (aLoad Tryd.prog 26 r1.1 H6) fun t7 => some (Out.ret (A.tup [t7, t3]), H6)) (Option.bind (C 29 [snap r1.2 x1, snap r1.2 (A.v (Value.int IntKind.i64 1)), snap r1.2 (A.v (Value.int IntKind.i64 1000))]) fun t5 =>
 Option.bind (aUn Tryd.prog UnOp.not t5) fun t6 => bIfN t6 (Option.bind (aLoad Tryd.prog 26 r1.1 r1.2) fun t7 =>
 Option.bind (aStore Tryd.prog 26 r1.1 (stV r1.1 r1.2 t7) r1.2 lo) fun H8 =>
 Option.bind (aLoad Tryd.prog 26 r1.1 H8) fun t9 => some (Out.ret (A.tup [t9, A.v (Value.int IntKind.i64 1)]), H8)) (Option.bind (aBin Tryd.prog BinOp.mul 3 true false (A.v (Value.int IntKind.i64 29)) x1) fun t7 =>
 Option.bind (aFieldAddr Tryd.prog 26 r0.1 0 r1.2) fun t8 =>
 Option.bind (aLoad Tryd.prog 3 t8 r1.2) fun t9 =>
 Option.bind (aBin Tryd.prog BinOp.sub 3 false false t7 t9) fun t10 =>
 Option.bind (aFieldAddr Tryd.prog 26 r0.1 1 r1.2) fun t11 =>
 Option.bind (aLoad Tryd.prog 3 t11 r1.2) fun t12 =>
 Option.bind (aFieldAddr Tryd.prog 26 r0.1 2 r1.2) fun t13 =>
 Option.bind (aLoad Tryd.prog 3 t13 r1.2) fun t14 =>
 Option.bind (aBin Tryd.prog BinOp.sub 3 true false (A.v (Value.int IntKind.i64 8)) t14) fun t15 =>
 Option.bind (aBin Tryd.prog BinOp.rem 3 false true t15 (A.v (Value.int IntKind.i64 8))) fun t16 =>
 Option.bind (aBuild Tryd.prog 26 [(0, t10), (1, t12), (2, t16)]) fun t17 =>
 Option.bind (aStore Tryd.prog 26 r1.1 (stV r1.1 r1.2 t17) r1.2 lo) fun H18 =>
 Option.bind (aBuild Tryd.prog 77 [(0, A.v (Value.int IntKind.i64 1)), (1, A.v (Value.int IntKind.i64 0)), (2, A.v (Value.int IntKind.i64 3)), (3, A.v (Value.int IntKind.i64 2)), (4, A.v (Value.int IntKind.i64 4))]) fun t19 => loopR (cx C) call rg n 14 lo 0 (List.length H18) (fun i20 s20 => bif Nat.beq i20 0 then
 Option.bind (aLoad Tryd.prog 26 (look (St.fr s20) 4) (St.H s20)) fun t21 =>
 Option.bind (C 16 [snap (St.H s20) t21]) fun t22 =>
 Option.bind (aBin Tryd.prog BinOp.neq 30 false true t22 (A.v (Value.int IntKind.i64 0))) fun t23 => bIfN t23 (Option.bind (aBuild Tryd.prog 26 []) fun t24 =>
 Option.bind (aStore Tryd.prog 26 (look (St.fr s20) 4) (stV (look (St.fr s20) 4) (St.H s20) t24) (St.H s20) lo) fun H25 =>
 Option.bind (aLoad Tryd.prog 26 (look (St.fr s20) 4) H25) fun t26 => some (Out.ret (A.tup [t26, A.v (Value.int IntKind.i64 2)]), H25)) (Option.bind (aLoad Tryd.prog 26 (look (St.fr s20) 4) (St.H s20)) fun t24 =>
 Option.bind (aStore Tryd.prog 26 (look (St.fr s20) 4) (stV (look (St.fr s20) 4) (St.H s20) t24) (St.H s20) lo) fun H25 =>
 Option.bind (aLoad Tryd.prog 26 (look (St.fr s20) 4) H25) fun t26 => some (Out.ret (A.tup [t26, A.v (Value.int IntKind.i64 0)]), H25)) else none) (fun i20 s20 => none) (fun a20 =>
 Option.bind (aLoad Tryd.prog 26 (look (St.fr a20) 4) (St.H a20)) fun t21 => some (Out.ret (A.tup [t21, look (St.fr a20) 5]), St.H a20)) (fun i20 s20 => some (Out.pan i20, St.H s20)) n (St.mk [(2, r0.1), (4, r1.1), (5, t3), (30, t19), (31, A.v (Value.int IntKind.i64 0))] H18))) := by kernel_rfl
theorem e16 (C : Nat → List A → Option A) (call : CallT) (rg : CallT → CallT) (n lo : Nat) (x0 : A) (H : Heap) : evCall1 (cx C) call rg n 16 [x0] H lo =
 Option.bind (aBox x0 H) fun r0 =>
 Option.bind (aFieldAddr Tryd.prog 26 r0.1 0 r0.2) fun t1 =>
 Option.bind (aLoad Tryd.prog 3 t1 r0.2) fun t2 =>
 Option.bind (C 29 [snap r0.2 t2, snap r0.2 (A.v (Value.int IntKind.i64 (-1073741824))), snap r0.2 (A.v (Value.int IntKind.i64 1073741824))]) fun t3 =>
 Option.bind (aUn Tryd.prog UnOp.not t3) fun t4 =>
 Option.bind (bIf t4 (some [A.v (Value.bool true), A.v undef, A.v undef, A.v undef, A.v undef]) (Option.bind (aFieldAddr Tryd.prog 26 r0.1 1 r0.2) fun t5 =>
 Option.bind (aLoad Tryd.prog 3 t5 r0.2) fun t6 =>
 Option.bind (C 29 [snap r0.2 t6, snap r0.2 (A.v (Value.int IntKind.i64 (-1073741824))), snap r0.2 (A.v (Value.int IntKind.i64 1073741824))]) fun t7 =>
 Option.bind (aUn Tryd.prog UnOp.not t7) fun t8 => some [t8, t8, t7, t6, t5])) fun l5 => unc l5 fun u6 l6 => unc l6 fun u7 l7 => unc l7 fun u8 l8 => unc l8 fun u9 l9 => unc l9 fun u10 l10 =>
 Option.bind (bIf u6 (some [A.v (Value.bool true), A.v undef, A.v undef, A.v undef, A.v undef]) (Option.bind (aFieldAddr Tryd.prog 26 r0.1 2 r0.2) fun t11 =>
 Option.bind (aLoad Tryd.prog 3 t11 r0.2) fun t12 =>
 Option.bind (C 29 [snap r0.2 t12, snap r0.2 (A.v (Value.int IntKind.i64 0)), snap r0.2 (A.v (Value.int IntKind.i64 7))]) fun t13 =>
 Option.bind (aUn Tryd.prog UnOp.not t13) fun t14 => some [t14, t14, t13, t12, t11])) fun l11 => unc l11 fun u12 l12 => unc l12 fun u13 l13 => unc l13 fun u14 l14 => unc l14 fun u15 l15 => unc l15 fun u16 l16 => bIfN u12 (some (Out.ret (A.v (Value.int IntKind.i64 260)), r0.2)) (Option.bind (aFieldAddr Tryd.prog 26 r0.1 3 r0.2) fun t17 =>
 Option.bind (aLoad Tryd.prog 24 t17 r0.2) fun t18 => loopR (cx C) call rg n 16 lo 0 (List.length r0.2) (fun i19 s19 => bif Nat.beq i19 0 then some (Out.ret (A.v (Value.int IntKind.i64 0)), St.H s19) else none) (fun i19 s19 => none) (fun a19 => some (Out.ret (look (St.fr a19) 2), St.H a19)) (fun i19 s19 => some (Out.pan i19, St.H s19)) n (St.mk [(2, A.v (Value.int IntKind.i64 0)), (22, t18), (23, A.v (Value.int IntKind.i64 0))] r0.2)) := by kernel_rfl
theorem e18 (C : Nat → List A → Option A) (call : CallT) (rg : CallT → CallT) (n lo : Nat) (x0 x1 x2 : A) (H : Heap) : evCall1 (cx C) call rg n 18 [x0, x1, x2] H lo =
 Option.bind (aBox x0 H) fun r0 =>
 Option.bind (aBox x1 r0.2) fun r1 =>
 Option.bind (aBox x2 r1.2) fun r2 =>
 Option.bind (aAlloc Tryd.prog 26 r2.2) fun r3 =>
 Option.bind (aLoad Tryd.prog 26 r0.1 r3.2) fun t4 =>
 Option.bind (C 16 [snap r3.2 t4]) fun t5 =>
 Option.bind (aBin Tryd.prog BinOp.neq 30 false true t5 (A.v (Value.int IntKind.i64 0))) fun t6 => bIfN t6 (Option.bind (aLoad Tryd.prog 26 r3.1 r3.2) fun t7 =>
 Option.bind (aStore Tryd.prog 26 r3.1 (stV r3.1 r3.2 t7) r3.2 lo) fun H8 =>
 Option.bind (aLoad Tryd.prog 26 r3.1 H8) fun t9 => some (Out.ret (A.tup [t9, t5]), H8)) (Option.bind (aAlloc Tryd.prog 84 r3.2) fun r7 =>
 Option.bind (aAlloc Tryd.prog 4 r7.2) fun r8 =>
 Option.bind (C 33 []) fun t9 =>
 Option.bind (aFieldAddr Tryd.prog 39 r1.1 4 r8.2) fun t10 =>
 Option.bind (aLoad Tryd.prog 3 t10 r8.2) fun t11 =>
 Option.bind (aLookup Tryd.prog 86 t9 t11 true r8.2) fun t12 =>
 Option.bind (aExtract t12 0) fun t13 =>
 Option.bind (aExtract t12 1) fun t14 =>
 Option.bind (aStore Tryd.prog 84 r7.1 (stV r7.1 r8.2 t13) r8.2 lo) fun H15 =>
 Option.bind (aStore Tryd.prog 4 r8.1 (stV r8.1 H15 t14) H15 lo) fun H16 =>
 Option.bind (aFieldAddr Tryd.prog 39 r1.1 3 H16) fun t17 =>
 Option.bind (aLoad Tryd.prog 3 t17 H16) fun t18 =>
 Option.bind (aBuild Tryd.prog 58 [(0, A.v (Value.int IntKind.i64 1)), (1, A.v (Value.int IntKind.i64 3))]) fun t19 =>
 Option.bind (call 34 [t18, t19, r8.1] H16 lo) fun H20 => outK H20.1 (fun a21 =>
 Option.bind (aFieldAddr Tryd.prog 39 r1.1 5 H20.2) fun t22 =>
 Option.bind (aLoad Tryd.prog 3 t22 H20.2) fun t23 =>
 Option.bind (aFieldAddr Tryd.prog 39 r1.1 6 H20.2) fun t24 =>
 Option.bind (aLoad Tryd.prog 3 t24 H20.2) fun t25 =>
 Option.bind (aFieldAddr Tryd.prog 39 r1.1 7 H20.2) fun t26 =>
 Option.bind (aLoad Tryd.prog 3 t26 H20.2) fun t27 =>
 Option.bind (aFieldAddr Tryd.prog 39 r1.1 8 H20.2) fun t28 =>
 Option.bind (aLoad Tryd.prog 3 t28 H20.2) fun t29 =>
 Option.bind (aBuild Tryd.prog 89 [(0, t23), (1, t25), (2, t27), (3, t29)]) fun t30 => loopR (cx C) call rg n 18 lo 0 (List.length H20.2) (fun i31 s31 => bif Nat.beq i31 0 then
 Option.bind (aFieldAddr Tryd.prog 41 (look (St.fr s31) 5) 3 (St.H s31)) fun t32 =>
 Option.bind (aLoad Tryd.prog 4 t32 (St.H s31)) fun t33 => bIfN t33 (Option.bind (aBuild Tryd.prog 81 []) fun t34 =>
 Option.bind (aFieldAddr Tryd.prog 84 (look (St.fr s31) 8) 1 (St.H s31)) fun t35 =>
 Option.bind (aStore Tryd.prog 81 t35 (stV t35 (St.H s31) t34) (St.H s31) lo) fun H36 =>
 Option.bind (aFieldAddr Tryd.prog 41 (look (St.fr s31) 5) 1 H36) fun t37 =>
 Option.bind (aLoad Tryd.prog 3 t37 H36) fun t38 =>
 Option.bind (aFieldAddr Tryd.prog 84 (look (St.fr s31) 8) 1 H36) fun t39 =>
 Option.bind (aIndexAddr Tryd.prog 81 t39 (A.v (Value.int IntKind.i64 0)) H36) fun t40 =>
 Option.bind (aLoad Tryd.prog 58 t40 H36) fun t41 => dynCall (cx C) call (look (St.fr s31) 10) [t38, t41] H36 lo (fun i42 h42 =>
 Option.bind (aFieldAddr Tryd.prog 41 (look (St.fr s31) 5) 2 h42) fun t43 =>
 Option.bind (aLoad Tryd.prog 3 t43 h42) fun t44 =>
 Option.bind (aFieldAddr Tryd.prog 84 (look (St.fr s31) 8) 1 h42) fun t45 =>
 Option.bind (aIndexAddr Tryd.prog 81 t45 (A.v (Value.int IntKind.i64 1)) h42) fun t46 =>
 Option.bind (aLoad Tryd.prog 58 t46 h42) fun t47 => dynCall (cx C) call (look (St.fr s31) 10) [t44, t47] h42 lo (fun i48 h48 =>
 Option.bind (aLoad Tryd.prog 4 (look (St.fr s31) 9) h48) fun t49 =>
 Option.bind (aUn Tryd.prog UnOp.not t49) fun t50 =>
 Option.bind (bIf t50 (some [A.v (Value.bool true), A.v undef, A.v undef, A.v undef, A.v undef, A.v undef]) (Option.bind (aFieldAddr Tryd.prog 41 (look (St.fr s31) 5) 0 h48) fun t51 =>
 Option.bind (aLoad Tryd.prog 3 t51 h48) fun t52 =>
 Option.bind (aFieldAddr Tryd.prog 39 (look (St.fr s31) 4) 0 h48) fun t53 =>
 Option.bind (aLoad Tryd.prog 3 t53 h48) fun t54 =>
 Option.bind (aBin Tryd.prog BinOp.neq 3 false false t52 t54) fun t55 => some [t55, t55, t54, t53, t52, t51])) fun l51 => unc l51 fun u52 l52 => unc l52 fun u53 l53 => unc l53 fun u54 l54 => unc l54 fun u55 l55 => unc l55 fun u56 l56 => unc l56 fun u57 l57 => bIfN u52 (Option.bind (aLoad Tryd.prog 26 (look (St.fr s31) 6) h48) fun t58 =>
 Option.bind (aStore Tryd.prog 26 (look (St.fr s31) 6) (stV (look (St.fr s31) 6) h48 t58) h48 lo) fun H59 =>
 Option.bind (aLoad Tryd.prog 26 (look (St.fr s31) 6) H59) fun t60 => some (Out.ret (A.tup [t60, A.v (Value.int IntKind.i64 1)]), H59)) (Option.bind (aFieldAddr Tryd.prog 41 (look (St.fr s31) 5) 3 h48) fun t58 =>
 Option.bind (aLoad Tryd.prog 4 t58 h48) fun t59 => bIfN t59 (Option.bind (aLoad Tryd.prog 26 (look (St.fr s31) 3) h48) fun t60 =>
 Option.bind (aStore Tryd.prog 26 (look (St.fr s31) 6) (stV (look (St.fr s31) 6) h48 t60) h48 lo) fun H61 =>
 Option.bind (aLoad Tryd.prog 26 (look (St.fr s31) 6) H61) fun t62 => some (Out.ret (A.tup [t62, A.v (Value.int IntKind.i64 0)]), H61)) (Option.bind (aLoad Tryd.prog 26 (look (St.fr s31) 3) h48) fun t60 =>
 Option.bind (aLoad Tryd.prog 39 (look (St.fr s31) 4) h48) fun t61 =>
 Option.bind (aLoad Tryd.prog 41 (look (St.fr s31) 5) h48) fun t62 =>
 Option.bind (aBuild Tryd.prog 91 [(0, t60), (1, t61), (2, t62)]) fun t63 =>
 Option.bind (aAlloc Tryd.prog 91 h48) fun r64 =>
 Option.bind (aStore Tryd.prog 91 r64.1 (stV r64.1 r64.2 t63) r64.2 lo) fun H65 =>
 Option.bind (aFieldAddr Tryd.prog 84 (look (St.fr s31) 8) 2 H65) fun t66 =>
 Option.bind (aLoad Tryd.prog 82 t66 H65) fun t67 => dynCall (cx C) call t67 [r64.1] H65 lo (fun i68 h68 =>
 Option.bind (aFieldAddr Tryd.prog 91 r64.1 0 h68) fun t69 =>
 Option.bind (aLoad Tryd.prog 26 t69 h68) fun t70 =>
 Option.bind (C 16 [snap h68 t70]) fun t71 =>
 Option.bind (aBin Tryd.prog BinOp.neq 30 false true t71 (A.v (Value.int IntKind.i64 0))) fun t72 => bIfN t72 (Option.bind (aLoad Tryd.prog 26 (look (St.fr s31) 6) h68) fun t73 =>
 Option.bind (aStore Tryd.prog 26 (look (St.fr s31) 6) (stV (look (St.fr s31) 6) h68 t73) h68 lo) fun H74 =>
 Option.bind (aLoad Tryd.prog 26 (look (St.fr s31) 6) H74) fun t75 => some (Out.ret (A.tup [t75, A.v (Value.int IntKind.i64 2)]), H74)) (Option.bind (aFieldAddr Tryd.prog 91 r64.1 0 h68) fun t73 =>
 Option.bind (aLoad Tryd.prog 26 t73 h68) fun t74 =>
 Option.bind (aStore Tryd.prog 26 (look (St.fr s31) 6) (stV (look (St.fr s31) 6) h68 t74) h68 lo) fun H75 =>
 Option.bind (aLoad Tryd.prog 26 (look (St.fr s31) 6) H75) fun t76 => some (Out.ret (A.tup [t76, A.v (Value.int IntKind.i64 0)]), H75))) fun i68 h68 => some (Out.pan i68, h68)))) fun i48 h48 => some (Out.pan i48, h48)) fun i42 h42 => some (Out.pan i42, h42)) (Option.bind (aFieldAddr Tryd.prog 41 (look (St.fr s31) 5) 1 (St.H s31)) fun t34 =>
 Option.bind (aLoad Tryd.prog 3 t34 (St.H s31)) fun t35 =>
 Option.bind (aFieldAddr Tryd.prog 84 (look (St.fr s31) 8) 1 (St.H s31)) fun t36 =>
 Option.bind (aIndexAddr Tryd.prog 81 t36 (A.v (Value.int IntKind.i64 0)) (St.H s31)) fun t37 =>
 Option.bind (aLoad Tryd.prog 58 t37 (St.H s31)) fun t38 => dynCall (cx C) call (look (St.fr s31) 10) [t35, t38] (St.H s31) lo (fun i39 h39 =>
 Option.bind (aFieldAddr Tryd.prog 41 (look (St.fr s31) 5) 2 h39) fun t40 =>
 Option.bind (aLoad Tryd.prog 3 t40 h39) fun t41 =>
 Option.bind (aFieldAddr Tryd.prog 84 (look (St.fr s31) 8) 1 h39) fun t42 =>
 Option.bind (aIndexAddr Tryd.prog 81 t42 (A.v (Value.int IntKind.i64 1)) h39) fun t43 =>
 Option.bind (aLoad Tryd.prog 58 t43 h39) fun t44 => dynCall (cx C) call (look (St.fr s31) 10) [t41, t44] h39 lo (fun i45 h45 =>
 Option.bind (aLoad Tryd.prog 4 (look (St.fr s31) 9) h45) fun t46 =>
 Option.bind (aUn Tryd.prog UnOp.not t46) fun t47 =>
 Option.bind (bIf t47 (some [A.v (Value.bool true), A.v undef, A.v undef, A.v undef, A.v undef, A.v undef]) (Option.bind (aFieldAddr Tryd.prog 41 (look (St.fr s31) 5) 0 h45) fun t48 =>
 Option.bind (aLoad Tryd.prog 3 t48 h45) fun t49 =>
 Option.bind (aFieldAddr Tryd.prog 39 (look (St.fr s31) 4) 0 h45) fun t50 =>
 Option.bind (aLoad Tryd.prog 3 t50 h45) fun t51 =>
 Option.bind (aBin Tryd.prog BinOp.neq 3 false false t49 t51) fun t52 => some [t52, t52, t51, t50, t49, t48])) fun l48 => unc l48 fun u49 l49 => unc l49 fun u50 l50 => unc l50 fun u51 l51 => unc l51 fun u52 l52 => unc l52 fun u53 l53 => unc l53 fun u54 l54 => bIfN u49 (Option.bind (aLoad Tryd.prog 26 (look (St.fr s31) 6) h45) fun t55 =>
 Option.bind (aStore Tryd.prog 26 (look (St.fr s31) 6) (stV (look (St.fr s31) 6) h45 t55) h45 lo) fun H56 =>
 Option.bind (aLoad Tryd.prog 26 (look (St.fr s31) 6) H56) fun t57 => some (Out.ret (A.tup [t57, A.v (Value.int IntKind.i64 1)]), H56)) (Option.bind (aFieldAddr Tryd.prog 41 (look (St.fr s31) 5) 3 h45) fun t55 =>
 Option.bind (aLoad Tryd.prog 4 t55 h45) fun t56 => bIfN t56 (Option.bind (aLoad Tryd.prog 26 (look (St.fr s31) 3) h45) fun t57 =>
 Option.bind (aStore Tryd.prog 26 (look (St.fr s31) 6) (stV (look (St.fr s31) 6) h45 t57) h45 lo) fun H58 =>
 Option.bind (aLoad Tryd.prog 26 (look (St.fr s31) 6) H58) fun t59 => some (Out.ret (A.tup [t59, A.v (Value.int IntKind.i64 0)]), H58)) (Option.bind (aLoad Tryd.prog 26 (look (St.fr s31) 3) h45) fun t57 =>
 Option.bind (aLoad Tryd.prog 39 (look (St.fr s31) 4) h45) fun t58 =>
 Option.bind (aLoad Tryd.prog 41 (look (St.fr s31) 5) h45) fun t59 =>
 Option.bind (aBuild Tryd.prog 91 [(0, t57), (1, t58), (2, t59)]) fun t60 =>
 Option.bind (aAlloc Tryd.prog 91 h45) fun r61 =>
 Option.bind (aStore Tryd.prog 91 r61.1 (stV r61.1 r61.2 t60) r61.2 lo) fun H62 =>
 Option.bind (aFieldAddr Tryd.prog 84 (look (St.fr s31) 8) 2 H62) fun t63 =>
 Option.bind (aLoad Tryd.prog 82 t63 H62) fun t64 => dynCall (cx C) call t64 [r61.1] H62 lo (fun i65 h65 =>
 Option.bind (aFieldAddr Tryd.prog 91 r61.1 0 h65) fun t66 =>
 Option.bind (aLoad Tryd.prog 26 t66 h65) fun t67 =>
 Option.bind (C 16 [snap h65 t67]) fun t68 =>
 Option.bind (aBin Tryd.prog BinOp.neq 30 false true t68 (A.v (Value.int IntKind.i64 0))) fun t69 => bIfN t69 (Option.bind (aLoad Tryd.prog 26 (look (St.fr s31) 6) h65) fun t70 =>
 Option.bind (aStore Tryd.prog 26 (look (St.fr s31) 6) (stV (look (St.fr s31) 6) h65 t70) h65 lo) fun H71 =>
 Option.bind (aLoad Tryd.prog 26 (look (St.fr s31) 6) H71) fun t72 => some (Out.ret (A.tup [t72, A.v (Value.int IntKind.i64 2)]), H71)) (Option.bind (aFieldAddr Tryd.prog 91 r61.1 0 h65) fun t70 =>
 Option.bind (aLoad Tryd.prog 26 t70 h65) fun t71 =>
 Option.bind (aStore Tryd.prog 26 (look (St.fr s31) 6) (stV (look (St.fr s31) 6) h65 t71) h65 lo) fun H72 =>
 Option.bind (aLoad Tryd.prog 26 (look (St.fr s31) 6) H72) fun t73 => some (Out.ret (A.tup [t73, A.v (Value.int IntKind.i64 0)]), H72))) fun i65 h65 => some (Out.pan i65, h65)))) fun i45 h45 => some (Out.pan i45, h45)) fun i39 h39 => some (Out.pan i39, h39)) else none) (fun i31 s31 => none) (fun a31 =>
 Option.bind (aLoad Tryd.prog 26 (look (St.fr a31) 6) (St.H a31)) fun t32 => some (Out.ret (A.tup [t32, look (St.fr a31) 7]), St.H a31)) (fun i31 s31 => some (Out.pan i31, St.H s31)) n (St.mk [(3, r0.1), (4, r1.1), (5, r2.1), (6, r3.1), (7, t5), (8, r7.1), (9, r8.1), (10, A.fn (Fn.func 34) [] [r8.1]), (41, t30), (42, A.v (Value.int IntKind.i64 0))] H20.2)) fun a21 => some (Out.pan a21, H20.2)) := by kernel_rfl
theorem e20 (C : Nat → List A → Option A) (call : CallT) (rg : CallT → CallT) (n lo : Nat) (x0 x1 : A) (H : Heap) : evCall1 (cx C) call rg n 20 [x0, x1] H lo =
 Option.bind (aBox x0 H) fun r0 =>
 Option.bind (aBox x1 r0.2) fun r1 =>
 Option.bind (aAlloc Tryd.prog 50 r1.2) fun r2 =>
 Option.bind (aLoad Tryd.prog 26 r0.1 r2.2) fun t3 =>
 Option.bind (C 16 [snap r2.2 t3]) fun t4 =>
 Option.bind (aBin Tryd.prog BinOp.neq 30 false true t4 (A.v (Value.int IntKind.i64 0))) fun t5 => bIfN t5 (Option.bind (aLoad Tryd.prog 50 r2.1 r2.2) fun t6 =>
 Option.bind (aStore Tryd.prog 50 r2.1 (stV r2.1 r2.2 t6) r2.2 lo) fun H7 =>
 Option.bind (aLoad Tryd.prog 50 r2.1 H7) fun t8 => some (Out.ret (A.tup [t8, t4]), H7)) (Option.bind (aLoad Tryd.prog 46 r1.1 r2.2) fun t6 =>
 Option.bind (C 23 [snap r2.2 t6]) fun t7 =>
 Option.bind (aBin Tryd.prog BinOp.neq 30 false true t7 (A.v (Value.int IntKind.i64 0))) fun t8 => bIfN t8 (Option.bind (aLoad Tryd.prog 50 r2.1 r2.2) fun t9 =>
 Option.bind (aStore Tryd.prog 50 r2.1 (stV r2.1 r2.2 t9) r2.2 lo) fun H10 =>
 Option.bind (aLoad Tryd.prog 50 r2.1 H10) fun t11 => some (Out.ret (A.tup [t11, t7]), H10)) (Option.bind (aFieldAddr Tryd.prog 46 r1.1 3 r2.2) fun t9 =>
 Option.bind (aLoad Tryd.prog 3 t9 r2.2) fun t10 =>
 Option.bind (aBin Tryd.prog BinOp.mul 3 true false (A.v (Value.int IntKind.i64 841)) t10) fun t11 =>
 Option.bind (aFieldAddr Tryd.prog 26 r0.1 0 r2.2) fun t12 =>
 Option.bind (aLoad Tryd.prog 3 t12 r2.2) fun t13 =>
 Option.bind (aBin Tryd.prog BinOp.mul 3 true false (A.v (Value.int IntKind.i64 29)) t13) fun t14 =>
 Option.bind (aBin Tryd.prog BinOp.sub 3 false false t14 t11) fun t15 =>
 Option.bind (aFieldAddr Tryd.prog 26 r0.1 0 r2.2) fun t16 =>
 Option.bind (aLoad Tryd.prog 3 t16 r2.2) fun t17 =>
 Option.bind (aBin Tryd.prog BinOp.mul 3 true false (A.v (Value.int IntKind.i64 29)) t17) fun t18 =>
 Option.bind (aBin Tryd.prog BinOp.add 3 false false t18 t11) fun t19 =>
 Option.bind (aBuild Tryd.prog 48 [(0, t15), (1, t19)]) fun t20 =>
 Option.bind (aFieldAddr Tryd.prog 26 r0.1 1 r2.2) fun t21 =>
 Option.bind (aLoad Tryd.prog 3 t21 r2.2) fun t22 =>
 Option.bind (aBin Tryd.prog BinOp.mul 3 true false (A.v (Value.int IntKind.i64 29)) t22) fun t23 =>
 Option.bind (aBin Tryd.prog BinOp.sub 3 false false t23 t11) fun t24 =>
 Option.bind (aFieldAddr Tryd.prog 26 r0.1 1 r2.2) fun t25 =>
 Option.bind (aLoad Tryd.prog 3 t25 r2.2) fun t26 =>
 Option.bind (aBin Tryd.prog BinOp.mul 3 true false (A.v (Value.int IntKind.i64 29)) t26) fun t27 =>
 Option.bind (aBin Tryd.prog BinOp.add 3 false false t27 t11) fun t28 =>
 Option.bind (aBuild Tryd.prog 48 [(0, t24), (1, t28)]) fun t29 =>
 Option.bind (aBuild Tryd.prog 50 [(0, t20), (1, t29)]) fun t30 =>
 Option.bind (aStore Tryd.prog 50 r2.1 (stV r2.1 r2.2 t30) r2.2 lo) fun H31 =>
 Option.bind (aLoad Tryd.prog 26 r0.1 H31) fun t32 =>
 Option.bind (aLoad Tryd.prog 46 r1.1 H31) fun t33 =>
 Option.bind (call 38 [t32, t33] H31 lo) fun H34 => outK H34.1 (fun a35 =>
 Option.bind (fnOf Tryd.prog a35) fun r36 => bif Nat.ble lo (List.length H34.2) then
 Option.bind (rg (yext 110 call (List.length H34.2) (roundR (cx C) call rg n 20 lo 0 (List.length H34.2) [(4, r2.1)])) r36.1 (A.yld (List.length H34.2) :: r36.2) (H34.2 ++ [Blk.rng RSt.ready]) lo) fun H37 => outK H37.1 (fun a38 => rngSel (List.length H34.2) H37.2 (fun h39 =>
 Option.bind (aLoad Tryd.prog 50 r2.1 h39) fun t40 =>
 Option.bind (aStore Tryd.prog 50 r2.1 (stV r2.1 h39 t40) h39 lo) fun H41 =>
 Option.bind (aLoad Tryd.prog 50 r2.1 H41) fun t42 => some (Out.ret (A.tup [t42, A.v (Value.int IntKind.i64 0)]), H41)) (fun i39 h39 => bif Nat.beq i39 0 then
 Option.bind (aLoad Tryd.prog 50 r2.1 h39) fun t40 =>
 Option.bind (aStore Tryd.prog 50 r2.1 (stV r2.1 h39 t40) h39 lo) fun H41 =>
 Option.bind (aLoad Tryd.prog 50 r2.1 H41) fun t42 => some (Out.ret (A.tup [t42, A.v (Value.int IntKind.i64 0)]), H41) else none) (fun i39 h39 => none) fun h39 =>
 Option.bind (aLoad Tryd.prog 50 r2.1 h39) fun t40 => some (Out.ret (A.tup [t40, t7]), h39)) fun a38 => none else none) fun a35 => some (Out.pan a35, H34.2))) := by kernel_rfl
theorem e23 (C : Nat → List A → Option A) (call : CallT) (rg : CallT → CallT) (n lo : Nat) (x0 : A) (H : Heap) : evCall1 (cx C) call rg n 23 [x0] H lo =
 Option.bind (aBox x0 H) fun r0 =>
 Option.bind (aLoad Tryd.prog 46 r0.1 r0.2) fun t1 =>
 Option.bind (aBuild Tryd.prog 104 [(0, t1)]) fun t2 =>
 Option.bind (aAlloc Tryd.prog 104 r0.2) fun r3 =>
 Option.bind (aStore Tryd.prog 104 r3.1 (stV r3.1 r3.2 t2) r3.2 lo) fun H4 =>
 Option.bind (aKill lo r0.1 H4) fun r5 =>
 Option.bind (aFieldAddr Tryd.prog 46 r5.1 0 r5.2) fun t6 =>
 Option.bind (aLoad Tryd.prog 9 t6 r5.2) fun t7 =>
 Option.bind (C 43 [snap r5.2 t7]) fun t8 =>
 Option.bind (aUn Tryd.prog UnOp.not t8) fun t9 =>
 Option.bind (bIf t9 (some [A.v (Value.bool true), A.v undef, A.v undef, A.v undef, A.v undef, A.v undef]) (Option.bind (aFieldAddr Tryd.prog 46 r5.1 1 r5.2) fun t10 =>
 Option.bind (aLoad Tryd.prog 3 t10 r5.2) fun t11 =>
 Option.bind (aBuildSlice Tryd.prog 107 1 [(0, frzA r5.2 t11)]) fun t12 =>
 Option.bind (C 44 [snap r5.2 (A.v (Value.int IntKind.i64 1)), snap r5.2 (A.v (Value.int IntKind.i64 500)), snap r5.2 t12]) fun t13 =>
 Option.bind (aUn Tryd.prog UnOp.not t13) fun t14 => some [t14, t14, t13, t12, t11, t10])) fun l10 => unc l10 fun u11 l11 => unc l11 fun u12 l12 => unc l12 fun u13 l13 => unc l13 fun u14 l14 => unc l14 fun u15 l15 => unc l15 fun u16 l16 =>
 Option.bind (bIf u11 (some [A.v (Value.bool true), A.v undef, A.v undef, A.v undef, A.v undef, A.v undef]) (Option.bind (aFieldAddr Tryd.prog 46 r5.1 3 r5.2) fun t17 =>
 Option.bind (aLoad Tryd.prog 3 t17 r5.2) fun t18 =>
 Option.bind (aBuildSlice Tryd.prog 107 1 [(0, frzA r5.2 t18)]) fun t19 =>
 Option.bind (C 44 [snap r5.2 (A.v (Value.int IntKind.i64 1)), snap r5.2 (A.v (Value.int IntKind.i64 4)), snap r5.2 t19]) fun t20 =>
 Option.bind (aUn Tryd.prog UnOp.not t20) fun t21 => some [t21, t21, t20, t19, t18, t17])) fun l17 => unc l17 fun u18 l18 => unc l18 fun u19 l19 => unc l19 fun u20 l20 => unc l20 fun u21 l21 => unc l21 fun u22 l22 => unc l22 fun u23 l23 =>
 Option.bind (bIf u18 (some [A.v (Value.bool true), A.v undef, A.v undef, A.v undef, A.v undef]) (Option.bind (aFieldAddr Tryd.prog 46 r5.1 6 r5.2) fun t24 =>
 Option.bind (aSlice Tryd.prog 44 t24 none none none r5.2) fun t25 =>
 Option.bind (C 44 [snap r5.2 (A.v (Value.int IntKind.i64 1)), snap r5.2 (A.v (Value.int IntKind.i64 8)), snap r5.2 t25]) fun t26 =>
 Option.bind (aUn Tryd.prog UnOp.not t26) fun t27 => some [t27, t27, t26, t25, t24])) fun l24 => unc l24 fun u25 l25 => unc l25 fun u26 l26 => unc l26 fun u27 l27 => unc l27 fun u28 l28 => unc l28 fun u29 l29 =>
 Option.bind (bIf u25 (some [A.v (Value.bool true), A.v undef, A.v undef, A.v undef, A.v undef, A.v undef]) (Option.bind (aFieldAddr Tryd.prog 46 r5.1 10 r5.2) fun t30 =>
 Option.bind (aLoad Tryd.prog 3 t30 r5.2) fun t31 =>
 Option.bind (aBuildSlice Tryd.prog 107 1 [(0, frzA r5.2 t31)]) fun t32 =>
 Option.bind (C 44 [snap r5.2 (A.v (Value.int IntKind.i64 0)), snap r5.2 (A.v (Value.int IntKind.i64 1048576)), snap r5.2 t32]) fun t33 =>
 Option.bind (aUn Tryd.prog UnOp.not t33) fun t34 => some [t34, t34, t33, t32, t31, t30])) fun l30 => unc l30 fun u31 l31 => unc l31 fun u32 l32 => unc l32 fun u33 l33 => unc l33 fun u34 l34 => unc l34 fun u35 l35 => unc l35 fun u36 l36 => bIfN u31 (some (Out.ret (A.v (Value.int IntKind.i64 250)), r5.2)) (Option.bind (C 45 []) fun t37 =>
 Option.bind (aAlloc Tryd.prog 111 r5.2) fun r38 =>
 Option.bind (aStore Tryd.prog 111 r38.1 (stV r38.1 r38.2 t37) r38.2 lo) fun H39 =>
 Option.bind (aKill lo r38.1 H39) fun r40 =>
 Option.bind (aSlice Tryd.prog 111 r40.1 (some (A.v (Value.int IntKind.i64 1))) none none r40.2) fun t41 =>
 Option.bind (aLen Tryd.prog 113 t41 r40.2) fun t42 => loopR (cx C) call rg n 23 lo 0 (List.length r40.2) (fun i43 s43 => bif Nat.beq i43 0 then some (Out.ret (A.v (Value.int IntKind.i64 0)), St.H s43) else none) (fun i43 s43 => none) (fun a43 => some (Out.ret (look (St.fr a43) 2), St.H a43)) (fun i43 s43 => some (Out.pan i43, St.H s43)) n (St.mk [(2, A.v (Value.int IntKind.i64 0)), (3, r3.1), (42, t41), (43, t42), (44, A.v (Value.int IntKind.i64 0))] r40.2)) := by kernel_rfl
theorem e24 (C : Nat → List A → Option A) (call : CallT) (rg : CallT → CallT) (n lo : Nat) (x0 x1 : A) (H : Heap) : evCall1 (cx C) call rg n 24 [x0, x1] H lo =
 Option.bind (aBin Tryd.prog BinOp.lss 3 false true x0 (A.v (Value.int IntKind.i64 0))) fun t0 =>
 Option.bind (bIf t0 (some [A.v (Value.bool true), A.v undef, A.v undef]) (Option.bind (aBin Tryd.prog BinOp.gtr 3 false true x0 (A.v (Value.int IntKind.i64 8))) fun t1 => some [t1, t1, x0])) fun l1 => unc l1 fun u2 l2 => unc l2 fun u3 l3 => unc l3 fun u4 l4 =>
 Option.bind (bIf u2 (some [A.v (Value.bool true), A.v undef, A.v undef]) (Option.bind (aBin Tryd.prog BinOp.lss 3 false true x1 (A.v (Value.int IntKind.i64 0))) fun t5 => some [t5, t5, x1])) fun l5 => unc l5 fun u6 l6 => unc l6 fun u7 l7 => unc l7 fun u8 l8 =>
 Option.bind (bIf u6 (some [A.v (Value.bool true), A.v undef, A.v undef]) (Option.bind (aBin Tryd.prog BinOp.gtr 3 false true x1 (A.v (Value.int IntKind.i64 7))) fun t9 => some [t9, t9, x1])) fun l9 => unc l9 fun u10 l10 => unc l10 fun u11 l11 => unc l11 fun u12 l12 => bIfN u10 (some (Out.ret (A.tup [A.v (Value.int IntKind.i64 0), A.v (Value.int IntKind.i64 150)]), H)) (Option.bind (aBin Tryd.prog BinOp.eql 3 false true x0 (A.v (Value.int IntKind.i64 0))) fun t13 => bIfN t13 (some (Out.ret (A.tup [A.v (Value.int IntKind.i64 0), A.v (Value.int IntKind.i64 0)]), H)) (Option.bind (aBin Tryd.prog BinOp.add 3 false false x0 x1) fun t14 =>
 Option.bind (aBin Tryd.prog BinOp.gtr 3 false true t14 (A.v (Value.int IntKind.i64 8))) fun t15 => bIfN t15 (Option.bind (aBin Tryd.prog BinOp.sub 3 false true t14 (A.v (Value.int IntKind.i64 8))) fun t16 => some (Out.ret (A.tup [t16, A.v (Value.int IntKind.i64 0)]), H)) (some (Out.ret (A.tup [t14, A.v (Value.int IntKind.i64 0)]), H)))) := by kernel_rfl
theorem e25 (C : Nat → List A → Option A) (call : CallT) (rg : CallT → CallT) (n lo : Nat) (x0 x1 : A) (H : Heap) : evCall1 (cx C) call rg n 25 [x0, x1] H lo =
 Option.bind (aAlloc Tryd.prog 63 H) fun r0 =>
 Option.bind (aBin Tryd.prog BinOp.lss 3 false true x0 (A.v (Value.int IntKind.i64 0))) fun t1 =>
 Option.bind (bIf t1 (some [A.v (Value.bool true), A.v undef, A.v undef]) (Option.bind (aBin Tryd.prog BinOp.gtr 3 false true x0 (A.v (Value.int IntKind.i64 8))) fun t2 => some [t2, t2, x0])) fun l2 => unc l2 fun u3 l3 => unc l3 fun u4 l4 => unc l4 fun u5 l5 =>
 Option.bind (bIf u3 (some [A.v (Value.bool true), A.v undef, A.v undef]) (Option.bind (aBin Tryd.prog BinOp.lss 3 false true x1 (A.v (Value.int IntKind.i64 1))) fun t6 => some [t6, t6, x1])) fun l6 => unc l6 fun u7 l7 => unc l7 fun u8 l8 => unc l8 fun u9 l9 =>
 Option.bind (bIf u7 (some [A.v (Value.bool true), A.v undef, A.v undef]) (Option.bind (aBin Tryd.prog BinOp.gtr 3 false true x1 (A.v (Value.int IntKind.i64 3))) fun t10 => some [t10, t10, x1])) fun l10 => unc l10 fun u11 l11 => unc l11 fun u12 l12 => unc l12 fun u13 l13 => bIfN u11 (Option.bind (aLoad Tryd.prog 63 r0.1 r0.2) fun t14 =>
 Option.bind (aStore Tryd.prog 63 r0.1 (stV r0.1 r0.2 t14) r0.2 lo) fun H15 =>
 Option.bind (aLoad Tryd.prog 63 r0.1 H15) fun t16 => some (Out.ret (A.tup [t16, A.v (Value.int IntKind.i64 150)]), H15)) (Option.bind (aBin Tryd.prog BinOp.sub 3 false true x1 (A.v (Value.int IntKind.i64 2))) fun t14 =>
 Option.bind (aAlloc Tryd.prog 3 r0.2) fun r15 =>
 Option.bind (aStore Tryd.prog 3 r15.1 (stV r15.1 r15.2 t14) r15.2 lo) fun H16 =>
 Option.bind (aBin Tryd.prog BinOp.eql 3 false true x0 (A.v (Value.int IntKind.i64 0))) fun t17 => bIfN t17 (Option.bind (aLoad Tryd.prog 3 r15.1 H16) fun t18 =>
 Option.bind (aBin Tryd.prog BinOp.mul 3 true false (A.v (Value.int IntKind.i64 841)) t18) fun t19 =>
 Option.bind (aFieldAddr Tryd.prog 63 r0.1 2 H16) fun t20 =>
 Option.bind (aStore Tryd.prog 3 t20 (stV t20 H16 t19) H16 lo) fun H21 =>
 Option.bind (aLoad Tryd.prog 63 r0.1 H21) fun t22 =>
 Option.bind (aStore Tryd.prog 63 r0.1 (stV r0.1 H21 t22) H21 lo) fun H23 =>
 Option.bind (aLoad Tryd.prog 63 r0.1 H23) fun t24 => some (Out.ret (A.tup [t24, A.v (Value.int IntKind.i64 0)]), H23)) (Option.bind (aBin Tryd.prog BinOp.sub 3 false true x0 (A.v (Value.int IntKind.i64 1))) fun t18 =>
 Option.bind (aIndexAddr Tryd.prog 116 (A.ip [A.v (Value.int IntKind.i64 0), A.v (Value.int IntKind.i64 29), A.v (Value.int IntKind.i64 20), A.v (Value.int IntKind.i64 21), A.v (Value.int IntKind.i64 29), A.v (Value.int IntKind.i64 0), A.v (Value.int IntKind.i64 20), A.v (Value.int IntKind.i64 (-21)), A.v (Value.int IntKind.i64 0), A.v (Value.int IntKind.i64 (-29)), A.v (Value.int IntKind.i64 (-20)), A.v (Value.int IntKind.i64 (-21)), A.v (Value.int IntKind.i64 (-29)), A.v (Value.int IntKind.i64 0), A.v (Value.int IntKind.i64 (-20)), A.v (Value.int IntKind.i64 21)]) t18 H16) fun t19 =>
 Option.bind (aLoad Tryd.prog 58 t19 H16) fun t20 =>
 Option.bind (aAlloc Tryd.prog 58 H16) fun r21 =>
 Option.bind (aStore Tryd.prog 58 r21.1 (stV r21.1 r21.2 t20) r21.2 lo) fun H22 =>
 Option.bind (aIndexAddr Tryd.prog 58 r21.1 (A.v (Value.int IntKind.i64 0)) H22) fun t23 =>
 Option.bind (aLoad Tryd.prog 3 t23 H22) fun t24 =>
 Option.bind (Option.bind (call 46 [t24, r15.1] H22 (List.length H22)) fun H25 => retU (List.length H22) H25) fun t25 =>
 Option.bind (aIndexAddr Tryd.prog 58 r21.1 (A.v (Value.int IntKind.i64 1)) H22) fun t26 =>
 Option.bind (aLoad Tryd.prog 3 t26 H22) fun t27 =>
 Option.bind (Option.bind (call 46 [t27, r15.1] H22 (List.length H22)) fun H28 => retU (List.length H22) H28) fun t28 =>
 Option.bind (aLoad Tryd.prog 3 r15.1 H22) fun t29 =>
 Option.bind (aBin Tryd.prog BinOp.mul 3 true false (A.v (Value.int IntKind.i64 609)) t29) fun t30 =>
 Option.bind (aBuild Tryd.prog 63 [(0, t25), (1, t28), (2, t30)]) fun t31 =>
 Option.bind (aStore Tryd.prog 63 r0.1 (stV r0.1 H22 t31) H22 lo) fun H32 =>
 Option.bind (aLoad Tryd.prog 63 r0.1 H32) fun t33 => some (Out.ret (A.tup [t33, A.v (Value.int IntKind.i64 0)]), H32))) := by kernel_rfl
theorem e28 (C : Nat → List A → Option A) (call : CallT) (rg : CallT → CallT) (n lo : Nat) (H : Heap) : evCall1 (cx C) call rg n 28 [] H lo =
 Option.bind (aAlloc Tryd.prog 46 H) fun r0 =>
 Option.bind (aBuild Tryd.prog 44 [(0, A.v (Value.int IntKind.i64 4)), (1, A.v (Value.int IntKind.i64 3)), (2, A.v (Value.int IntKind.i64 2))]) fun t1 =>
 Option.bind (aBuild Tryd.prog 44 [(0, A.v (Value.int IntKind.i64 100)), (1, A.v (Value.int IntKind.i64 100)), (2, A.v (Value.int IntKind.i64 100))]) fun t2 =>
 Option.bind (aBuild Tryd.prog 44 [(0, A.v (Value.int IntKind.i64 3)), (1, A.v (Value.int IntKind.i64 3)), (2, A.v (Value.int IntKind.i64 3))]) fun t3 =>
 Option.bind (aBuild Tryd.prog 46 [(0, A.v (Value.string (ByteArray.mk #[100]))), (1, A.v (Value.int IntKind.i64 60)), (2, A.v (Value.int IntKind.i64 40)), (3, A.v (Value.int IntKind.i64 1)), (4, A.v (Value.int IntKind.i64 3)), (5, A.v (Value.int IntKind.i64 2)), (6, t1), (7, t2), (8, t3), (9, A.v (Value.int IntKind.i64 500)), (10, A.v (Value.int IntKind.i64 100))]) fun t4 =>
 Option.bind (aStore Tryd.prog 46 r0.1 (stV r0.1 r0.2 t4) r0.2 lo) fun H5 =>
 Option.bind (aLoad Tryd.prog 46 r0.1 H5) fun t6 => some (Out.ret t6, H5) := by kernel_rfl
theorem e29 (C : Nat → List A → Option A) (call : CallT) (rg : CallT → CallT) (n lo : Nat) (x0 x1 x2 : A) (H : Heap) : evCall1 (cx C) call rg n 29 [x0, x1, x2] H lo =
 Option.bind (aBin Tryd.prog BinOp.leq 3 false false x1 x0) fun t0 =>
 Option.bind (bIf t0 (Option.bind (aBin Tryd.prog BinOp.leq 3 false false x0 x2) fun t1 => some [t1, t1, x2, x0]) (some [A.v (Value.bool false), A.v undef, A.v undef, A.v undef])) fun l1 => unc l1 fun u2 l2 => unc l2 fun u3 l3 => unc l3 fun u4 l4 => unc l4 fun u5 l5 => some (Out.ret u2, H) := by kernel_rfl
theorem e31 (C : Nat → List A → Option A) (call : CallT) (rg : CallT → CallT) (n lo : Nat) (x0 : A) (H : Heap) : evCall1 (cx C) call rg n 31 [x0] H lo =
 Option.bind (aBin Tryd.prog BinOp.lss 3 false true x0 (A.v (Value.int IntKind.i64 0))) fun t0 =>
 Option.bind (bIf t0 (some [A.v (Value.bool true), A.v undef, A.v undef]) (Option.bind (aBin Tryd.prog BinOp.gtr 3 false true x0 (A.v (Value.int IntKind.i64 8))) fun t1 => some [t1, t1, x0])) fun l1 => unc l1 fun u2 l2 => unc l2 fun u3 l3 => unc l3 fun u4 l4 => bIfN u2 (some (Out.ret (A.tup [A.v (Value.int IntKind.i64 0), A.v (Value.int IntKind.i64 150)]), H)) (Option.bind (aBin Tryd.prog BinOp.leq 3 false true x0 (A.v (Value.int IntKind.i64 1))) fun t5 => bIfN t5 (some (Out.ret (A.tup [x0, A.v (Value.int IntKind.i64 0)]), H)) (Option.bind (aBin Tryd.prog BinOp.sub 3 true false (A.v (Value.int IntKind.i64 10)) x0) fun t6 => some (Out.ret (A.tup [t6, A.v (Value.int IntKind.i64 0)]), H))) := by kernel_rfl
theorem e33 (C : Nat → List A → Option A) (call : CallT) (rg : CallT → CallT) (n lo : Nat) (H : Heap) : evCall1 (cx C) call rg n 33 [] H lo =
 Option.bind (aBuild Tryd.prog 58 [(0, A.v (Value.int IntKind.i64 0)), (1, A.v (Value.int IntKind.i64 8))]) fun t0 =>
 Option.bind (aBuild Tryd.prog 58 [(0, A.v (Value.int IntKind.i64 1)), (1, A.v (Value.int IntKind.i64 3))]) fun t1 =>
 Option.bind (aBuild Tryd.prog 81 [(0, t0), (1, t1)]) fun t2 =>
 Option.bind (aAlloc Tryd.prog 81 H) fun r3 =>
 Option.bind (aStore Tryd.prog 81 r3.1 (stV r3.1 r3.2 t2) r3.2 lo) fun H4 =>
 Option.bind (aMakeMap Tryd.prog 86 H4) fun r5 =>
 Option.bind (aBuild Tryd.prog 58 [(0, A.v (Value.int IntKind.i64 1)), (1, A.v (Value.int IntKind.i64 2))]) fun t6 =>
 Option.bind (aBuild Tryd.prog 58 [(0, A.v (Value.int IntKind.i64 1)), (1, A.v (Value.int IntKind.i64 8))]) fun t7 =>
 Option.bind (aBuild Tryd.prog 58 []) fun t8 =>
 Option.bind (aBuild Tryd.prog 58 [(0, A.v (Value.int IntKind.i64 1)), (1, A.v (Value.int IntKind.i64 16))]) fun t9 =>
 Option.bind (aBuild Tryd.prog 80 [(0, t6), (1, t7), (2, t8), (3, t9)]) fun t10 =>
 Option.bind (aBuild Tryd.prog 84 [(0, t10), (2, A.fn (Fn.func 52) [] [])]) fun t11 =>
 Option.bind (aSetMap Tryd.prog 86 r5.1 (A.v (Value.int IntKind.i64 1)) t11 r5.2 lo) fun H12 =>
 Option.bind (aBuild Tryd.prog 58 []) fun t13 =>
 Option.bind (aBuild Tryd.prog 58 [(0, A.v (Value.int IntKind.i64 1)), (1, A.v (Value.int IntKind.i64 8))]) fun t14 =>
 Option.bind (aBuild Tryd.prog 58 []) fun t15 =>
 Option.bind (aBuild Tryd.prog 58 [(0, A.v (Value.int IntKind.i64 1)), (1, A.v (Value.int IntKind.i64 16))]) fun t16 =>
 Option.bind (aBuild Tryd.prog 80 [(0, t13), (1, t14), (2, t15), (3, t16)]) fun t17 =>
 Option.bind (aBuild Tryd.prog 84 [(0, t17), (2, A.fn (Fn.func 53) [] [])]) fun t18 =>
 Option.bind (aSetMap Tryd.prog 86 r5.1 (A.v (Value.int IntKind.i64 2)) t18 H12 lo) fun H19 =>
 Option.bind (aBuild Tryd.prog 58 [(0, A.v (Value.int IntKind.i64 1)), (1, A.v (Value.int IntKind.i64 2))]) fun t20 =>
 Option.bind (aBuild Tryd.prog 58 [(0, A.v (Value.int IntKind.i64 0)), (1, A.v (Value.int IntKind.i64 8))]) fun t21 =>
 Option.bind (aBuild Tryd.prog 58 [(0, A.v (Value.int IntKind.i64 1)), (1, A.v (Value.int IntKind.i64 3))]) fun t22 =>
 Option.bind (aBuild Tryd.prog 58 []) fun t23 =>
 Option.bind (aBuild Tryd.prog 80 [(0, t20), (1, t21), (2, t22), (3, t23)]) fun t24 =>
 Option.bind (aLoad Tryd.prog 81 r3.1 H19) fun t25 =>
 Option.bind (aBuild Tryd.prog 84 [(0, t24), (1, t25), (2, A.fn (Fn.func 54) [] [])]) fun t26 =>
 Option.bind (aSetMap Tryd.prog 86 r5.1 (A.v (Value.int IntKind.i64 3)) t26 H19 lo) fun H27 =>
 Option.bind (aBuild Tryd.prog 58 [(0, A.v (Value.int IntKind.i64 1)), (1, A.v (Value.int IntKind.i64 2))]) fun t28 =>
 Option.bind (aBuild Tryd.prog 58 [(0, A.v (Value.int IntKind.i64 0)), (1, A.v (Value.int IntKind.i64 8))]) fun t29 =>
 Option.bind (aBuild Tryd.prog 58 [(0, A.v (Value.int IntKind.i64 1)), (1, A.v (Value.int IntKind.i64 3))]) fun t30 =>
 Option.bind (aBuild Tryd.prog 58 []) fun t31 =>
 Option.bind (aBuild Tryd.prog 80 [(0, t28), (1, t29), (2, t30), (3, t31)]) fun t32 =>
 Option.bind (aLoad Tryd.prog 81 r3.1 H27) fun t33 =>
 Option.bind (aBuild Tryd.prog 84 [(0, t32), (1, t33), (2, A.fn (Fn.func 55) [] [])]) fun t34 =>
 Option.bind (aSetMap Tryd.prog 86 r5.1 (A.v (Value.int IntKind.i64 4)) t34 H27 lo) fun H35 =>
 Option.bind (aBuild Tryd.prog 58 []) fun t36 =>
 Option.bind (aBuild Tryd.prog 58 [(0, A.v (Value.int IntKind.i64 0)), (1, A.v (Value.int IntKind.i64 8))]) fun t37 =>
 Option.bind (aBuild Tryd.prog 58 [(0, A.v (Value.int IntKind.i64 1)), (1, A.v (Value.int IntKind.i64 3))]) fun t38 =>
 Option.bind (aBuild Tryd.prog 58 []) fun t39 =>
 Option.bind (aBuild Tryd.prog 80 [(0, t36), (1, t37), (2, t38), (3, t39)]) fun t40 =>
 Option.bind (aLoad Tryd.prog 81 r3.1 H35) fun t41 =>
 Option.bind (aBuild Tryd.prog 84 [(0, t40), (1, t41), (2, A.fn (Fn.func 56) [] [])]) fun t42 =>
 Option.bind (aSetMap Tryd.prog 86 r5.1 (A.v (Value.int IntKind.i64 5)) t42 H35 lo) fun H43 =>
 Option.bind (aBuild Tryd.prog 58 []) fun t44 =>
 Option.bind (aBuild Tryd.prog 58 []) fun t45 =>
 Option.bind (aBuild Tryd.prog 58 []) fun t46 =>
 Option.bind (aBuild Tryd.prog 58 [(0, A.v (Value.int IntKind.i64 1)), (1, A.v (Value.int IntKind.i64 7))]) fun t47 =>
 Option.bind (aBuild Tryd.prog 80 [(0, t44), (1, t45), (2, t46), (3, t47)]) fun t48 =>
 Option.bind (aBuild Tryd.prog 84 [(0, t48), (2, A.fn (Fn.func 57) [] [])]) fun t49 =>
 Option.bind (aSetMap Tryd.prog 86 r5.1 (A.v (Value.int IntKind.i64 6)) t49 H43 lo) fun H50 =>
 Option.bind (aBuild Tryd.prog 84 [(2, A.fn (Fn.func 58) [] [])]) fun t51 =>
 Option.bind (aSetMap Tryd.prog 86 r5.1 (A.v (Value.int IntKind.i64 7)) t51 H50 lo) fun H52 =>
 Option.bind (aBuild Tryd.prog 84 [(2, A.fn (Fn.func 59) [] [])]) fun t53 =>
 Option.bind (aSetMap Tryd.prog 86 r5.1 (A.v (Value.int IntKind.i64 8)) t53 H52 lo) fun H54 =>
 Option.bind (aBuild Tryd.prog 58 [(0, A.v (Value.int IntKind.i64 1)), (1, A.v (Value.int IntKind.i64 2))]) fun t55 =>
 Option.bind (aBuild Tryd.prog 58 []) fun t56 =>
 Option.bind (aBuild Tryd.prog 58 [(0, A.v (Value.int IntKind.i64 1)), (1, A.v (Value.int IntKind.i64 3))]) fun t57 =>
 Option.bind (aBuild Tryd.prog 58 []) fun t58 =>
 Option.bind (aBuild Tryd.prog 80 [(0, t55), (1, t56), (2, t57), (3, t58)]) fun t59 =>
 Option.bind (aBuild Tryd.prog 58 []) fun t60 =>
 Option.bind (aBuild Tryd.prog 58 [(0, A.v (Value.int IntKind.i64 1)), (1, A.v (Value.int IntKind.i64 3))]) fun t61 =>
 Option.bind (aBuild Tryd.prog 81 [(0, t60), (1, t61)]) fun t62 =>
 Option.bind (aBuild Tryd.prog 84 [(0, t59), (1, t62), (2, A.fn (Fn.func 60) [] [])]) fun t63 =>
 Option.bind (aSetMap Tryd.prog 86 r5.1 (A.v (Value.int IntKind.i64 9)) t63 H54 lo) fun H64 => some (Out.ret r5.1, H64) := by kernel_rfl
theorem e34 (C : Nat → List A → Option A) (call : CallT) (rg : CallT → CallT) (n lo : Nat) (x0 x1 x2 : A) (H : Heap) : evCall1 (cx C) call rg n 34 [x0, x1, x2] H lo =
 Option.bind (aBox x1 H) fun r0 =>
 Option.bind (aLoad Tryd.prog 4 x2 r0.2) fun t1 =>
 Option.bind (bIf t1 (Option.bind (aIndexAddr Tryd.prog 58 r0.1 (A.v (Value.int IntKind.i64 0)) r0.2) fun t2 =>
 Option.bind (aLoad Tryd.prog 3 t2 r0.2) fun t3 =>
 Option.bind (aIndexAddr Tryd.prog 58 r0.1 (A.v (Value.int IntKind.i64 1)) r0.2) fun t4 =>
 Option.bind (aLoad Tryd.prog 3 t4 r0.2) fun t5 =>
 Option.bind (C 29 [snap r0.2 x0, snap r0.2 t3, snap r0.2 t5]) fun t6 => some [t6, t6, t5, t4, t3, t2, x0]) (some [A.v (Value.bool false), A.v undef, A.v undef, A.v undef, A.v undef, A.v undef, A.v undef])) fun l2 => unc l2 fun u3 l3 => unc l3 fun u4 l4 => unc l4 fun u5 l5 => unc l5 fun u6 l6 => unc l6 fun u7 l7 => unc l7 fun u8 l8 => unc l8 fun u9 l9 =>
 Option.bind (aStore Tryd.prog 4 x2 (stV x2 r0.2 u3) r0.2 lo) fun H10 => some (Out.ret (A.tup []), H10) := by kernel_rfl
theorem e38 (C : Nat → List A → Option A) (call : CallT) (rg : CallT → CallT) (n lo : Nat) (x0 x1 : A) (H : Heap) : evCall1 (cx C) call rg n 38 [x0, x1] H lo =
 Option.bind (aBox x0 H) fun r0 =>
 Option.bind (aBox x1 r0.2) fun r1 => some (Out.ret (A.fn (Fn.func 64) [] [r0.1, r1.1]), r1.2) := by kernel_rfl
theorem e43 (C : Nat → List A → Option A) (call : CallT) (rg : CallT → CallT) (n lo : Nat) (x0 : A) (H : Heap) : evCall1 (cx C) call rg n 43 [x0] H lo =
 Option.bind (aBin Tryd.prog BinOp.eql 9 false true x0 (A.v (Value.string (ByteArray.mk #[])))) fun t0 =>
 Option.bind (bIf t0 (some [A.v (Value.bool true), A.v undef, A.v undef, A.v undef]) (Option.bind (aLen Tryd.prog 9 x0 H) fun t1 =>
 Option.bind (aBin Tryd.prog BinOp.gtr 3 false true t1 (A.v (Value.int IntKind.i64 32))) fun t2 => some [t2, t2, t1, x0])) fun l1 => unc l1 fun u2 l2 => unc l2 fun u3 l3 => unc l3 fun u4 l4 => unc l4 fun u5 l5 =>
 Option.bind (bIf u2 (some [A.v (Value.bool true), A.v undef, A.v undef, A.v undef, A.v undef]) (Option.bind (aIndex Tryd.prog 9 x0 (A.v (Value.int IntKind.i64 0))) fun t6 =>
 Option.bind (C 72 [snap H t6]) fun t7 =>
 Option.bind (aBin Tryd.prog BinOp.neq 3 false true t7 (A.v (Value.int IntKind.i64 2))) fun t8 => some [t8, t8, t7, t6, x0])) fun l6 => unc l6 fun u7 l7 => unc l7 fun u8 l8 => unc l8 fun u9 l9 => unc l9 fun u10 l10 => unc l10 fun u11 l11 => bIfN u7 (some (Out.ret (A.v (Value.bool false)), H)) (Option.bind (aLen Tryd.prog 9 x0 H) fun t12 => loopR (cx C) call rg n 43 lo 0 (List.length H) (fun i13 s13 => bif Nat.beq i13 0 then some (Out.ret (A.v (Value.bool true)), St.H s13) else none) (fun i13 s13 => none) (fun a13 => some (Out.ret (look (St.fr a13) 2), St.H a13)) (fun i13 s13 => some (Out.pan i13, St.H s13)) n (St.mk [(0, x0), (2, A.v (Value.bool false)), (19, t12), (20, A.v (Value.int IntKind.i64 0))] H)) := by kernel_rfl
theorem e44 (C : Nat → List A → Option A) (call : CallT) (rg : CallT → CallT) (n lo : Nat) (x0 x1 x2 : A) (H : Heap) : evCall1 (cx C) call rg n 44 [x0, x1, x2] H lo =
 Option.bind (aLen Tryd.prog 107 x2 H) fun t0 => loopR (cx C) call rg n 44 lo 0 (List.length H) (fun i1 s1 => bif Nat.beq i1 0 then some (Out.ret (A.v (Value.bool true)), St.H s1) else none) (fun i1 s1 => none) (fun a1 => some (Out.ret (look (St.fr a1) 6), St.H a1)) (fun i1 s1 => some (Out.pan i1, St.H s1)) n (St.mk [(0, x0), (1, x1), (6, A.v (Value.bool false)), (9, x2), (10, t0), (11, A.v (Value.int IntKind.i64 0))] H) := by kernel_rfl
theorem e45 (C : Nat → List A → Option A) (call : CallT) (rg : CallT → CallT) (n lo : Nat) (H : Heap) : evCall1 (cx C) call rg n 45 [] H lo =
 Option.bind (aAlloc Tryd.prog 111 H) fun r0 =>
 Option.bind (aBuild Tryd.prog 110 [(0, A.fn (Fn.func 73) [] []), (1, A.v (Value.int IntKind.i64 1)), (2, A.v (Value.int IntKind.i64 3)), (3, A.v (Value.int IntKind.i64 2))]) fun t1 =>
 Option.bind (aBuild Tryd.prog 110 [(0, A.fn (Fn.func 74) [] []), (1, A.v (Value.int IntKind.i64 1)), (2, A.v (Value.int IntKind.i64 1048576)), (3, A.v (Value.int IntKind.i64 2))]) fun t2 =>
 Option.bind (aBuild Tryd.prog 110 [(0, A.fn (Fn.func 75) [] []), (1, A.v (Value.int IntKind.i64 1)), (2, A.v (Value.int IntKind.i64 16)), (3, A.v (Value.int IntKind.i64 0))]) fun t3 =>
 Option.bind (aBuild Tryd.prog 110 [(0, A.fn (Fn.func 76) [] []), (1, A.v (Value.int IntKind.i64 0)), (2, A.v (Value.int IntKind.i64 16)), (3, A.v (Value.int IntKind.i64 0))]) fun t4 =>
 Option.bind (aBuild Tryd.prog 110 [(0, A.fn (Fn.func 77) [] []), (1, A.v (Value.int IntKind.i64 0)), (2, A.v (Value.int IntKind.i64 500)), (3, A.v (Value.int IntKind.i64 0))]) fun t5 =>
 Option.bind (aBuild Tryd.prog 110 [(0, A.fn (Fn.func 78) [] []), (1, A.v (Value.int IntKind.i64 0)), (2, A.v (Value.int IntKind.i64 1048576)), (3, A.v (Value.int IntKind.i64 0))]) fun t6 =>
 Option.bind (aBuild Tryd.prog 111 [(1, t1), (2, t2), (3, t3), (4, t4), (5, t5), (6, t6)]) fun t7 =>
 Option.bind (aStore Tryd.prog 111 r0.1 (stV r0.1 r0.2 t7) r0.2 lo) fun H8 =>
 Option.bind (aLoad Tryd.prog 111 r0.1 H8) fun t9 => some (Out.ret t9, H8) := by kernel_rfl
theorem e46 (C : Nat → List A → Option A) (call : CallT) (rg : CallT → CallT) (n lo : Nat) (x0 x1 : A) (H : Heap) : evCall1 (cx C) call rg n 46 [x0, x1] H lo =
 Option.bind (aLoad Tryd.prog 3 x1 H) fun t0 =>
 Option.bind (aBin Tryd.prog BinOp.eql 3 false true t0 (A.v (Value.int IntKind.i64 0))) fun t1 => bIfN t1 (Option.bind (aBin Tryd.prog BinOp.mul 3 true false (A.v (Value.int IntKind.i64 29)) x0) fun t2 => some (Out.ret t2, H)) (Option.bind (aBin Tryd.prog BinOp.mul 3 true false (A.v (Value.int IntKind.i64 20)) x0) fun t2 => some (Out.ret t2, H)) := by kernel_rfl
theorem e52 (C : Nat → List A → Option A) (call : CallT) (rg : CallT → CallT) (n lo : Nat) (x0 : A) (H : Heap) : evCall1 (cx C) call rg n 52 [x0] H lo =
 Option.bind (call 79 [x0] H lo) fun H0 => outK H0.1 (fun a1 =>
 Option.bind (aNil x0 H0.2) fun t2 =>
 Option.bind (aFieldAddr Tryd.prog 91 t2 1 H0.2) fun t3 =>
 Option.bind (aFieldAddr Tryd.prog 39 t3 5 H0.2) fun t4 =>
 Option.bind (aLoad Tryd.prog 3 t4 H0.2) fun t5 =>
 Option.bind (aBin Tryd.prog BinOp.sub 3 false true t5 (A.v (Value.int IntKind.i64 1))) fun t6 =>
 Option.bind (aBuildSlice Tryd.prog 107 1 [(0, frzA H0.2 t6)]) fun t7 =>
 Option.bind (call 80 [x0, t7] H0.2 lo) fun H8 => outK H8.1 (fun a9 => some (Out.ret (A.tup []), H8.2)) fun a9 => some (Out.pan a9, H8.2)) fun a1 => some (Out.pan a1, H0.2) := by kernel_rfl
theorem e53 (C : Nat → List A → Option A) (call : CallT) (rg : CallT → CallT) (n lo : Nat) (x0 : A) (H : Heap) : evCall1 (cx C) call rg n 53 [x0] H lo =
 Option.bind (call 79 [x0] H lo) fun H0 => outK H0.1 (fun a1 =>
 Option.bind (aBuildSlice Tryd.prog 107 2 [(0, frzA H0.2 (A.v (Value.int IntKind.i64 0))), (1, frzA H0.2 (A.v (Value.int IntKind.i64 1)))]) fun t2 =>
 Option.bind (call 80 [x0, t2] H0.2 lo) fun H3 => outK H3.1 (fun a4 => some (Out.ret (A.tup []), H3.2)) fun a4 => some (Out.pan a4, H3.2)) fun a1 => some (Out.pan a1, H0.2) := by kernel_rfl
theorem e54 (C : Nat → List A → Option A) (call : CallT) (rg : CallT → CallT) (n lo : Nat) (x0 : A) (H : Heap) : evCall1 (cx C) call rg n 54 [x0] H lo =
 Option.bind (aNil x0 H) fun t0 =>
 Option.bind (aFieldAddr Tryd.prog 91 t0 1 H) fun t1 =>
 Option.bind (aFieldAddr Tryd.prog 39 t1 5 H) fun t2 =>
 Option.bind (aLoad Tryd.prog 3 t2 H) fun t3 =>
 Option.bind (aBin Tryd.prog BinOp.sub 3 false true t3 (A.v (Value.int IntKind.i64 1))) fun t4 =>
 Option.bind (call 81 [x0, t4] H lo) fun H5 => outK H5.1 (fun a6 => some (Out.ret (A.tup []), H5.2)) fun a6 => some (Out.pan a6, H5.2) := by kernel_rfl
theorem e55 (C : Nat → List A → Option A) (call : CallT) (rg : CallT → CallT) (n lo : Nat) (x0 : A) (H : Heap) : evCall1 (cx C) call rg n 55 [x0] H lo =
 Option.bind (aNil x0 H) fun t0 =>
 Option.bind (aFieldAddr Tryd.prog 91 t0 1 H) fun t1 =>
 Option.bind (aFieldAddr Tryd.prog 39 t1 5 H) fun t2 =>
 Option.bind (aLoad Tryd.prog 3 t2 H) fun t3 =>
 Option.bind (aBin Tryd.prog BinOp.add 3 false true t3 (A.v (Value.int IntKind.i64 1))) fun t4 =>
 Option.bind (call 81 [x0, t4] H lo) fun H5 => outK H5.1 (fun a6 => some (Out.ret (A.tup []), H5.2)) fun a6 => some (Out.pan a6, H5.2) := by kernel_rfl
theorem e56 (C : Nat → List A → Option A) (call : CallT) (rg : CallT → CallT) (n lo : Nat) (x0 : A) (H : Heap) : evCall1 (cx C) call rg n 56 [x0] H lo =
 Option.bind (call 81 [x0, A.v (Value.int IntKind.i64 4)] H lo) fun H0 => outK H0.1 (fun a1 => some (Out.ret (A.tup []), H0.2)) fun a1 => some (Out.pan a1, H0.2) := by kernel_rfl
theorem e57 (C : Nat → List A → Option A) (call : CallT) (rg : CallT → CallT) (n lo : Nat) (x0 : A) (H : Heap) : evCall1 (cx C) call rg n 57 [x0] H lo =
 Option.bind (aNil x0 H) fun t0 =>
 Option.bind (aFieldAddr Tryd.prog 91 t0 0 H) fun t1 =>
 Option.bind (aFieldAddr Tryd.prog 26 t1 2 H) fun t2 =>
 Option.bind (aLoad Tryd.prog 3 t2 H) fun t3 =>
 Option.bind (aNil x0 H) fun t4 =>
 Option.bind (aFieldAddr Tryd.prog 91 t4 1 H) fun t5 =>
 Option.bind (aFieldAddr Tryd.prog 39 t5 8 H) fun t6 =>
 Option.bind (aLoad Tryd.prog 3 t6 H) fun t7 =>
 Option.bind (aBin Tryd.prog BinOp.add 3 false false t3 t7) fun t8 =>
 Option.bind (aBin Tryd.prog BinOp.rem 3 false true t8 (A.v (Value.int IntKind.i64 8))) fun t9 =>
 Option.bind (aNil x0 H) fun t10 =>
 Option.bind (aFieldAddr Tryd.prog 91 t10 0 H) fun t11 =>
 Option.bind (aFieldAddr Tryd.prog 26 t11 2 H) fun t12 =>
 Option.bind (aStore Tryd.prog 3 t12 (stV t12 H t9) H lo) fun H13 => some (Out.ret (A.tup []), H13) := by kernel_rfl
theorem e58 (C : Nat → List A → Option A) (call : CallT) (rg : CallT → CallT) (n lo : Nat) (x0 : A) (H : Heap) : evCall1 (cx C) call rg n 58 [x0] H lo =
 Option.bind (aBuildSlice Tryd.prog 107 2 [(0, frzA H (A.v (Value.int IntKind.i64 2))), (1, frzA H (A.v (Value.int IntKind.i64 3)))]) fun t0 =>
 Option.bind (call 80 [x0, t0] H lo) fun H1 => outK H1.1 (fun a2 => some (Out.ret (A.tup []), H1.2)) fun a2 => some (Out.pan a2, H1.2) := by kernel_rfl
theorem e59 (C : Nat → List A → Option A) (call : CallT) (rg : CallT → CallT) (n lo : Nat) (x0 : A) (H : Heap) : evCall1 (cx C) call rg n 59 [x0] H lo =
 Option.bind (aBuildSlice Tryd.prog 107 2 [(0, frzA H (A.v (Value.int IntKind.i64 0))), (1, frzA H (A.v (Value.int IntKind.i64 1)))]) fun t0 =>
 Option.bind (call 80 [x0, t0] H lo) fun H1 => outK H1.1 (fun a2 => some (Out.ret (A.tup []), H1.2)) fun a2 => some (Out.pan a2, H1.2) := by kernel_rfl
theorem e60 (C : Nat → List A → Option A) (call : CallT) (rg : CallT → CallT) (n lo : Nat) (x0 : A) (H : Heap) : evCall1 (cx C) call rg n 60 [x0] H lo =
 Option.bind (aNil x0 H) fun t0 =>
 Option.bind (aFieldAddr Tryd.prog 91 t0 1 H) fun t1 =>
 Option.bind (aFieldAddr Tryd.prog 39 t1 5 H) fun t2 =>
 Option.bind (aLoad Tryd.prog 3 t2 H) fun t3 =>
 Option.bind (aBin Tryd.prog BinOp.add 3 false true t3 (A.v (Value.int IntKind.i64 1))) fun t4 =>
 Option.bind (aBuildSlice Tryd.prog 107 1 [(0, frzA H t4)]) fun t5 =>
 Option.bind (call 80 [x0, t5] H lo) fun H6 => outK H6.1 (fun a7 => some (Out.ret (A.tup []), H6.2)) fun a7 => some (Out.pan a7, H6.2) := by kernel_rfl
theorem e64 (C : Nat → List A → Option A) (call : CallT) (rg : CallT → CallT) (n lo : Nat) (x0 x1 x2 : A) (H : Heap) : evCall1 (cx C) call rg n 64 [x0, x1, x2] H lo =
 Option.bind (aFieldAddr Tryd.prog 26 x1 3 H) fun t0 =>
 Option.bind (aLoad Tryd.prog 24 t0 H) fun t1 => loopR (cx C) call rg n 64 lo 0 (List.length H) (fun i2 s2 => bif Nat.beq i2 0 then some (Out.ret (A.tup []), St.H s2) else none) (fun i2 s2 => none) (fun a2 => some (Out.ret (A.tup []), St.H a2)) (fun i2 s2 => some (Out.pan i2, St.H s2)) n (St.mk [(0, x0), (1, x1), (2, x2), (12, t1), (13, A.v (Value.int IntKind.i64 0))] H) := by kernel_rfl
theorem e72 (C : Nat → List A → Option A) (call : CallT) (rg : CallT → CallT) (n lo : Nat) (x0 : A) (H : Heap) : evCall1 (cx C) call rg n 72 [x0] H lo =
 Option.bind (aBin Tryd.prog BinOp.geq 5 false true x0 (A.v (Value.int IntKind.u8 97))) fun t0 =>
 Option.bind (bIf t0 (Option.bind (aBin Tryd.prog BinOp.leq 5 false true x0 (A.v (Value.int IntKind.u8 122))) fun t1 => some [t1, t1, x0]) (some [A.v (Value.bool false), A.v undef, A.v undef])) fun l1 => unc l1 fun u2 l2 => unc l2 fun u3 l3 => unc l3 fun u4 l4 =>
 Option.bind (bIf u2 (some [A.v (Value.bool true), A.v undef, A.v undef, A.v undef, A.v undef, A.v undef, A.v undef]) (Option.bind (aBin Tryd.prog BinOp.geq 5 false true x0 (A.v (Value.int IntKind.u8 65))) fun t5 =>
 Option.bind (bIf t5 (Option.bind (aBin Tryd.prog BinOp.leq 5 false true x0 (A.v (Value.int IntKind.u8 90))) fun t6 => some [t6, t6, x0]) (some [A.v (Value.bool false), A.v undef, A.v undef])) fun l6 => unc l6 fun u7 l7 => unc l7 fun u8 l8 => unc l8 fun u9 l9 => some [u7, u7, u8, u9, t5, t5, x0])) fun l5 => unc l5 fun u6 l6 => unc l6 fun u7 l7 => unc l7 fun u8 l8 => unc l8 fun u9 l9 => unc l9 fun u10 l10 => unc l10 fun u11 l11 => unc l11 fun u12 l12 => bIfN u6 (some (Out.ret (A.v (Value.int IntKind.i64 2)), H)) (Option.bind (aBin Tryd.prog BinOp.geq 5 false true x0 (A.v (Value.int IntKind.u8 48))) fun t13 =>
 Option.bind (bIf t13 (Option.bind (aBin Tryd.prog BinOp.leq 5 false true x0 (A.v (Value.int IntKind.u8 57))) fun t14 => some [t14, t14, x0]) (some [A.v (Value.bool false), A.v undef, A.v undef])) fun l14 => unc l14 fun u15 l15 => unc l15 fun u16 l16 => unc l16 fun u17 l17 => bIfN u15 (some (Out.ret (A.v (Value.int IntKind.i64 3)), H)) (Option.bind (aBin Tryd.prog BinOp.eql 5 false true x0 (A.v (Value.int IntKind.u8 95))) fun t18 => bIfN t18 (some (Out.ret (A.v (Value.int IntKind.i64 5)), H)) (Option.bind (aBin Tryd.prog BinOp.eql 5 false true x0 (A.v (Value.int IntKind.u8 32))) fun t19 =>
 Option.bind (bIf t19 (some [A.v (Value.bool true), A.v undef, A.v undef]) (Option.bind (aBin Tryd.prog BinOp.eql 5 false true x0 (A.v (Value.int IntKind.u8 9))) fun t20 => some [t20, t20, x0])) fun l20 => unc l20 fun u21 l21 => unc l21 fun u22 l22 => unc l22 fun u23 l23 =>
 Option.bind (bIf u21 (some [A.v (Value.bool true), A.v undef, A.v undef]) (Option.bind (aBin Tryd.prog BinOp.eql 5 false true x0 (A.v (Value.int IntKind.u8 10))) fun t24 => some [t24, t24, x0])) fun l24 => unc l24 fun u25 l25 => unc l25 fun u26 l26 => unc l26 fun u27 l27 =>
 Option.bind (bIf u25 (some [A.v (Value.bool true), A.v undef, A.v undef]) (Option.bind (aBin Tryd.prog BinOp.eql 5 false true x0 (A.v (Value.int IntKind.u8 13))) fun t28 => some [t28, t28, x0])) fun l28 => unc l28 fun u29 l29 => unc l29 fun u30 l30 => unc l30 fun u31 l31 => bIfN u29 (some (Out.ret (A.v (Value.int IntKind.i64 1)), H)) (Option.bind (C 85 [snap H (A.v (Value.string (ByteArray.mk #[123, 125, 40, 41, 59, 44, 61, 58, 46, 60, 62, 33, 43, 45, 42, 47]))), snap H x0]) fun t32 =>
 Option.bind (aBin Tryd.prog BinOp.geq 3 false true t32 (A.v (Value.int IntKind.i64 0))) fun t33 => bIfN t33 (some (Out.ret (A.v (Value.int IntKind.i64 4)), H)) (some (Out.ret (A.v (Value.int IntKind.i64 0)), H)))))) := by kernel_rfl
theorem e73 (C : Nat → List A → Option A) (call : CallT) (rg : CallT → CallT) (n lo : Nat) (x0 x1 : A) (H : Heap) : evCall1 (cx C) call rg n 73 [x0, x1] H lo =
 Option.bind (aNil x0 H) fun t0 =>
 Option.bind (aFieldAddr Tryd.prog 104 t0 0 H) fun t1 =>
 Option.bind (aFieldAddr Tryd.prog 46 t1 8 H) fun t2 =>
 Option.bind (aIndexAddr Tryd.prog 44 t2 x1 H) fun t3 => some (Out.ret t3, H) := by kernel_rfl
theorem e74 (C : Nat → List A → Option A) (call : CallT) (rg : CallT → CallT) (n lo : Nat) (x0 x1 : A) (H : Heap) : evCall1 (cx C) call rg n 74 [x0, x1] H lo =
 Option.bind (aNil x0 H) fun t0 =>
 Option.bind (aFieldAddr Tryd.prog 104 t0 0 H) fun t1 =>
 Option.bind (aFieldAddr Tryd.prog 46 t1 7 H) fun t2 =>
 Option.bind (aIndexAddr Tryd.prog 44 t2 x1 H) fun t3 => some (Out.ret t3, H) := by kernel_rfl
theorem e75 (C : Nat → List A → Option A) (call : CallT) (rg : CallT → CallT) (n lo : Nat) (x0 x1 : A) (H : Heap) : evCall1 (cx C) call rg n 75 [x0, x1] H lo =
 Option.bind (aNil x0 H) fun t0 =>
 Option.bind (aFieldAddr Tryd.prog 104 t0 0 H) fun t1 =>
 Option.bind (aFieldAddr Tryd.prog 46 t1 4 H) fun t2 => some (Out.ret t2, H) := by kernel_rfl
theorem e76 (C : Nat → List A → Option A) (call : CallT) (rg : CallT → CallT) (n lo : Nat) (x0 x1 : A) (H : Heap) : evCall1 (cx C) call rg n 76 [x0, x1] H lo =
 Option.bind (aNil x0 H) fun t0 =>
 Option.bind (aFieldAddr Tryd.prog 104 t0 0 H) fun t1 =>
 Option.bind (aFieldAddr Tryd.prog 46 t1 5 H) fun t2 => some (Out.ret t2, H) := by kernel_rfl
theorem e77 (C : Nat → List A → Option A) (call : CallT) (rg : CallT → CallT) (n lo : Nat) (x0 x1 : A) (H : Heap) : evCall1 (cx C) call rg n 77 [x0, x1] H lo =
 Option.bind (aNil x0 H) fun t0 =>
 Option.bind (aFieldAddr Tryd.prog 104 t0 0 H) fun t1 =>
 Option.bind (aFieldAddr Tryd.prog 46 t1 2 H) fun t2 => some (Out.ret t2, H) := by kernel_rfl
theorem e78 (C : Nat → List A → Option A) (call : CallT) (rg : CallT → CallT) (n lo : Nat) (x0 x1 : A) (H : Heap) : evCall1 (cx C) call rg n 78 [x0, x1] H lo =
 Option.bind (aNil x0 H) fun t0 =>
 Option.bind (aFieldAddr Tryd.prog 104 t0 0 H) fun t1 =>
 Option.bind (aFieldAddr Tryd.prog 46 t1 9 H) fun t2 => some (Out.ret t2, H) := by kernel_rfl
theorem e79 (C : Nat → List A → Option A) (call : CallT) (rg : CallT → CallT) (n lo : Nat) (x0 : A) (H : Heap) : evCall1 (cx C) call rg n 79 [x0] H lo =
 Option.bind (aNil x0 H) fun t0 =>
 Option.bind (aFieldAddr Tryd.prog 91 t0 1 H) fun t1 =>
 Option.bind (aFieldAddr Tryd.prog 39 t1 6 H) fun t2 =>
 Option.bind (aLoad Tryd.prog 3 t2 H) fun t3 =>
 Option.bind (aNil x0 H) fun t4 =>
 Option.bind (aFieldAddr Tryd.prog 91 t4 0 H) fun t5 =>
 Option.bind (aFieldAddr Tryd.prog 26 t5 2 H) fun t6 =>
 Option.bind (aLoad Tryd.prog 3 t6 H) fun t7 =>
 Option.bind (C 24 [snap H t3, snap H t7]) fun t8 =>
 Option.bind (aExtract t8 0) fun t9 =>
 Option.bind (aExtract t8 1) fun t10 =>
 Option.bind (C 86 [snap H t9]) fun t11 =>
 Option.bind (aExtract t11 0) fun t12 =>
 Option.bind (aExtract t11 1) fun t13 =>
 Option.bind (aExtract t11 2) fun t14 =>
 Option.bind (aNil x0 H) fun t15 =>
 Option.bind (aFieldAddr Tryd.prog 91 t15 0 H) fun t16 =>
 Option.bind (aFieldAddr Tryd.prog 26 t16 0 H) fun t17 =>
 Option.bind (aLoad Tryd.prog 3 t17 H) fun t18 =>
 Option.bind (aNil x0 H) fun t19 =>
 Option.bind (aFieldAddr Tryd.prog 91 t19 1 H) fun t20 =>
 Option.bind (aFieldAddr Tryd.prog 39 t20 8 H) fun t21 =>
 Option.bind (aLoad Tryd.prog 3 t21 H) fun t22 =>
 Option.bind (aBin Tryd.prog BinOp.mul 3 false false t22 t12) fun t23 =>
 Option.bind (aBin Tryd.prog BinOp.add 3 false false t18 t23) fun t24 =>
 Option.bind (aNil x0 H) fun t25 =>
 Option.bind (aFieldAddr Tryd.prog 91 t25 0 H) fun t26 =>
 Option.bind (aFieldAddr Tryd.prog 26 t26 0 H) fun t27 =>
 Option.bind (aStore Tryd.prog 3 t27 (stV t27 H t24) H lo) fun H28 =>
 Option.bind (aNil x0 H28) fun t29 =>
 Option.bind (aFieldAddr Tryd.prog 91 t29 0 H28) fun t30 =>
 Option.bind (aFieldAddr Tryd.prog 26 t30 1 H28) fun t31 =>
 Option.bind (aLoad Tryd.prog 3 t31 H28) fun t32 =>
 Option.bind (aNil x0 H28) fun t33 =>
 Option.bind (aFieldAddr Tryd.prog 91 t33 1 H28) fun t34 =>
 Option.bind (aFieldAddr Tryd.prog 39 t34 8 H28) fun t35 =>
 Option.bind (aLoad Tryd.prog 3 t35 H28) fun t36 =>
 Option.bind (aBin Tryd.prog BinOp.mul 3 false false t36 t13) fun t37 =>
 Option.bind (aBin Tryd.prog BinOp.add 3 false false t32 t37) fun t38 =>
 Option.bind (aNil x0 H28) fun t39 =>
 Option.bind (aFieldAddr Tryd.prog 91 t39 0 H28) fun t40 =>
 Option.bind (aFieldAddr Tryd.prog 26 t40 1 H28) fun t41 =>
 Option.bind (aStore Tryd.prog 3 t41 (stV t41 H28 t38) H28 lo) fun H42 => some (Out.ret (A.tup []), H42) := by kernel_rfl
theorem e80 (C : Nat → List A → Option A) (call : CallT) (rg : CallT → CallT) (n lo : Nat) (x0 x1 : A) (H : Heap) : evCall1 (cx C) call rg n 80 [x0, x1] H lo =
 Option.bind (aLen Tryd.prog 107 x1 H) fun t0 => loopR (cx C) call rg n 80 lo 0 (List.length H) (fun i1 s1 => bif Nat.beq i1 0 then some (Out.ret (A.tup []), St.H s1) else none) (fun i1 s1 => none) (fun a1 => some (Out.ret (A.tup []), St.H a1)) (fun i1 s1 => some (Out.pan i1, St.H s1)) n (St.mk [(0, x0), (6, x1), (7, t0), (8, A.v (Value.int IntKind.i64 0))] H) := by kernel_rfl
theorem e81 (C : Nat → List A → Option A) (call : CallT) (rg : CallT → CallT) (n lo : Nat) (x0 x1 : A) (H : Heap) : evCall1 (cx C) call rg n 81 [x0, x1] H lo =
 Option.bind (aNil x0 H) fun t0 =>
 Option.bind (aFieldAddr Tryd.prog 91 t0 2 H) fun t1 =>
 Option.bind (aFieldAddr Tryd.prog 41 t1 1 H) fun t2 =>
 Option.bind (aLoad Tryd.prog 3 t2 H) fun t3 =>
 Option.bind (aNil x0 H) fun t4 =>
 Option.bind (aFieldAddr Tryd.prog 91 t4 2 H) fun t5 =>
 Option.bind (aFieldAddr Tryd.prog 41 t5 2 H) fun t6 =>
 Option.bind (aLoad Tryd.prog 3 t6 H) fun t7 =>
 Option.bind (aBuild Tryd.prog 23 [(0, t3), (1, t7)]) fun t8 =>
 Option.bind (aNil x0 H) fun t9 =>
 Option.bind (aFieldAddr Tryd.prog 91 t9 0 H) fun t10 =>
 Option.bind (aFieldAddr Tryd.prog 26 t10 3 H) fun t11 =>
 Option.bind (aIndexAddr Tryd.prog 24 t11 x1 H) fun t12 =>
 Option.bind (aStore Tryd.prog 23 t12 (stV t12 H t8) H lo) fun H13 => some (Out.ret (A.tup []), H13) := by kernel_rfl
theorem e86 (C : Nat → List A → Option A) (call : CallT) (rg : CallT → CallT) (n lo : Nat) (x0 : A) (H : Heap) : evCall1 (cx C) call rg n 86 [x0] H lo =
 Option.bind (aBin Tryd.prog BinOp.lss 3 false true x0 (A.v (Value.int IntKind.i64 1))) fun t0 =>
 Option.bind (bIf t0 (some [A.v (Value.bool true), A.v undef, A.v undef]) (Option.bind (aBin Tryd.prog BinOp.gtr 3 false true x0 (A.v (Value.int IntKind.i64 8))) fun t1 => some [t1, t1, x0])) fun l1 => unc l1 fun u2 l2 => unc l2 fun u3 l3 => unc l3 fun u4 l4 => bIfN u2 (some (Out.ret (A.tup [A.v (Value.int IntKind.i64 0), A.v (Value.int IntKind.i64 0), A.v (Value.int IntKind.i64 150)]), H)) (Option.bind (aBin Tryd.prog BinOp.sub 3 false true x0 (A.v (Value.int IntKind.i64 1))) fun t5 =>
 Option.bind (aIndexAddr Tryd.prog 116 (A.ip [A.v (Value.int IntKind.i64 0), A.v (Value.int IntKind.i64 29), A.v (Value.int IntKind.i64 20), A.v (Value.int IntKind.i64 21), A.v (Value.int IntKind.i64 29), A.v (Value.int IntKind.i64 0), A.v (Value.int IntKind.i64 20), A.v (Value.int IntKind.i64 (-21)), A.v (Value.int IntKind.i64 0), A.v (Value.int IntKind.i64 (-29)), A.v (Value.int IntKind.i64 (-20)), A.v (Value.int IntKind.i64 (-21)), A.v (Value.int IntKind.i64 (-29)), A.v (Value.int IntKind.i64 0), A.v (Value.int IntKind.i64 (-20)), A.v (Value.int IntKind.i64 21)]) t5 H) fun t6 =>
 Option.bind (aIndexAddr Tryd.prog 58 t6 (A.v (Value.int IntKind.i64 0)) H) fun t7 =>
 Option.bind (aLoad Tryd.prog 3 t7 H) fun t8 =>
 Option.bind (aBin Tryd.prog BinOp.sub 3 false true x0 (A.v (Value.int IntKind.i64 1))) fun t9 =>
 Option.bind (aIndexAddr Tryd.prog 116 (A.ip [A.v (Value.int IntKind.i64 0), A.v (Value.int IntKind.i64 29), A.v (Value.int IntKind.i64 20), A.v (Value.int IntKind.i64 21), A.v (Value.int IntKind.i64 29), A.v (Value.int IntKind.i64 0), A.v (Value.int IntKind.i64 20), A.v (Value.int IntKind.i64 (-21)), A.v (Value.int IntKind.i64 0), A.v (Value.int IntKind.i64 (-29)), A.v (Value.int IntKind.i64 (-20)), A.v (Value.int IntKind.i64 (-21)), A.v (Value.int IntKind.i64 (-29)), A.v (Value.int IntKind.i64 0), A.v (Value.int IntKind.i64 (-20)), A.v (Value.int IntKind.i64 21)]) t9 H) fun t10 =>
 Option.bind (aIndexAddr Tryd.prog 58 t10 (A.v (Value.int IntKind.i64 1)) H) fun t11 =>
 Option.bind (aLoad Tryd.prog 3 t11 H) fun t12 => some (Out.ret (A.tup [t8, t12, A.v (Value.int IntKind.i64 0)]), H)) := by kernel_rfl
theorem e9_0 (C : Nat → List A → Option A) (call : CallT) (rg : CallT → CallT) (n lo L : Nat) (kx kg : Nat → St → Option R) (kr : St → Option R) (kp : A → St → Option R) (m : Nat) (x2 x3 x4 x5 x7 x8 x10 x75 x76 : A) (H : Heap) : loopR (cx C) call rg n 9 lo 0 L kx kg kr kp (m + 1) (St.mk [(2, x2), (3, x3), (4, x4), (5, x5), (7, x7), (8, x8), (10, x10), (75, x75), (76, x76)] H) =
 Option.bind (aBin Tryd.prog BinOp.lss 3 false true x76 (A.v (Value.int IntKind.i64 5))) fun t0 => bIfN t0 (Option.bind (aIndex Tryd.prog 24 x75 x76) fun t1 =>
 Option.bind (aAlloc Tryd.prog 23 H) fun r2 =>
 Option.bind (aStore Tryd.prog 23 r2.1 (stV r2.1 r2.2 t1) r2.2 lo) fun H3 =>
 Option.bind (aFieldAddr Tryd.prog 23 r2.1 1 H3) fun t4 =>
 Option.bind (aLoad Tryd.prog 3 t4 H3) fun t5 =>
 Option.bind (aBin Tryd.prog BinOp.eql 3 false true t5 (A.v (Value.int IntKind.i64 0))) fun t6 => bIfN t6 (Option.bind (aBin Tryd.prog BinOp.add 3 false true x76 (A.v (Value.int IntKind.i64 1))) fun t7 =>
 Option.bind (trim L H3) fun H8 => bif bif Nat.beq (List.length H3) L then true else keepsUnder L [(76, t7), (128, t7), (82, t6), (81, t5), (80, t4), (11, x76), (12, r2.1), (79, t1), (78, x76), (77, t0), (2, x2), (3, x3), (4, x4), (5, x5), (7, x7), (8, x8), (10, x10), (75, x75), (76, x76)] [2, 3, 4, 5, 7, 8, 10, 75, 76] then loopR (cx C) call rg n 9 lo 0 L kx kg kr kp m (St.mk [(2, x2), (3, x3), (4, x4), (5, x5), (7, x7), (8, x8), (10, x10), (75, x75), (76, t7)] H8) else none) (Option.bind (aFieldAddr Tryd.prog 23 r2.1 0 H3) fun t7 =>
 Option.bind (aLoad Tryd.prog 3 t7 H3) fun t8 =>
 Option.bind (aFieldAddr Tryd.prog 26 x2 2 H3) fun t9 =>
 Option.bind (aLoad Tryd.prog 3 t9 H3) fun t10 =>
 Option.bind (C 24 [snap H3 t8, snap H3 t10]) fun t11 =>
 Option.bind (aExtract t11 0) fun t12 =>
 Option.bind (aExtract t11 1) fun t13 =>
 Option.bind (aFieldAddr Tryd.prog 23 r2.1 1 H3) fun t14 =>
 Option.bind (aLoad Tryd.prog 3 t14 H3) fun t15 =>
 Option.bind (C 25 [snap H3 t12, snap H3 t15]) fun t16 =>
 Option.bind (aExtract t16 0) fun t17 =>
 Option.bind (aExtract t16 1) fun t18 =>
 Option.bind (aAlloc Tryd.prog 63 H3) fun r19 =>
 Option.bind (aStore Tryd.prog 63 r19.1 (stV r19.1 r19.2 t17) r19.2 lo) fun H20 =>
 Option.bind (aBin Tryd.prog BinOp.neq 30 false true t13 (A.v (Value.int IntKind.i64 0))) fun t21 =>
 Option.bind (bIf t21 (some [A.v (Value.bool true), A.v undef, A.v undef]) (Option.bind (aBin Tryd.prog BinOp.neq 30 false true t18 (A.v (Value.int IntKind.i64 0))) fun t22 => some [t22, t22, t18])) fun l22 => unc l22 fun u23 l23 => unc l23 fun u24 l24 => unc l24 fun u25 l25 => bIfN u23 (kr (St.mk [(2, x2), (3, x3), (4, A.v (Value.bool false)), (5, x5), (7, x7), (8, x8), (10, x10), (75, x75), (76, x76)] H20)) (Option.bind (aBin Tryd.prog BinOp.quo 3 false true x76 (A.v (Value.int IntKind.i64 2))) fun t26 =>
 Option.bind (aFieldAddr Tryd.prog 46 x3 6 H20) fun t27 =>
 Option.bind (aIndexAddr Tryd.prog 44 t27 t26 H20) fun t28 =>
 Option.bind (aLoad Tryd.prog 3 t28 H20) fun t29 =>
 Option.bind (aFieldAddr Tryd.prog 63 r19.1 0 H20) fun t30 =>
 Option.bind (aLoad Tryd.prog 3 t30 H20) fun t31 =>
 Option.bind (aBin Tryd.prog BinOp.mul 3 false false t29 t31) fun t32 =>
 Option.bind (aBin Tryd.prog BinOp.add 3 false false x7 t32) fun t33 =>
 Option.bind (aBin Tryd.prog BinOp.quo 3 false true x76 (A.v (Value.int IntKind.i64 2))) fun t34 =>
 Option.bind (aFieldAddr Tryd.prog 46 x3 6 H20) fun t35 =>
 Option.bind (aIndexAddr Tryd.prog 44 t35 t34 H20) fun t36 =>
 Option.bind (aLoad Tryd.prog 3 t36 H20) fun t37 =>
 Option.bind (aFieldAddr Tryd.prog 63 r19.1 1 H20) fun t38 =>
 Option.bind (aLoad Tryd.prog 3 t38 H20) fun t39 =>
 Option.bind (aBin Tryd.prog BinOp.mul 3 false false t37 t39) fun t40 =>
 Option.bind (aBin Tryd.prog BinOp.add 3 false false x8 t40) fun t41 =>
 Option.bind (aBuild Tryd.prog 58 [(0, t33), (1, t41)]) fun t42 =>
 Option.bind (aBuildSlice Tryd.prog 59 1 [(0, frzA H20 t42)]) fun t43 =>
 Option.bind (aAppend Tryd.prog 59 59 false x10 t43 H20 lo) fun r44 =>
 Option.bind (aBin Tryd.prog BinOp.add 3 false true x76 (A.v (Value.int IntKind.i64 1))) fun t45 =>
 Option.bind (trim L r44.2) fun H46 => bif bif Nat.beq (List.length r44.2) L then true else keepsUnder L [(76, t45), (128, t45), (10, r44.1), (127, r44.1), (126, t43), (125, t42), (124, t41), (123, t40), (122, t39), (121, t38), (120, t37), (119, t36), (118, t35), (117, t34), (116, x76), (115, x8), (114, t33), (113, t32), (112, t31), (111, t30), (110, t29), (109, t28), (108, t27), (107, t26), (106, x76), (105, x7), (104, x10), (103, u23), (102, u24), (101, u25), (100, t21), (99, t21), (98, t13), (16, t18), (15, r19.1), (97, t18), (96, t17), (91, t16), (95, t16), (94, t15), (93, t14), (92, t12), (14, t13), (13, t12), (90, t13), (89, t12), (83, t11), (88, t11), (87, t10), (86, t9), (85, t8), (84, t7), (82, t6), (81, t5), (80, t4), (11, x76), (12, r2.1), (79, t1), (78, x76), (77, t0), (2, x2), (3, x3), (4, x4), (5, x5), (7, x7), (8, x8), (10, x10), (75, x75), (76, x76)] [2, 3, 4, 5, 7, 8, 10, 75, 76] then loopR (cx C) call rg n 9 lo 0 L kx kg kr kp m (St.mk [(2, x2), (3, x3), (4, x4), (5, x5), (7, x7), (8, x8), (10, r44.1), (75, x75), (76, t45)] H46) else none))) (kx 0 (St.mk [(2, x2), (3, x3), (4, x4), (5, x5), (7, x7), (8, x8), (10, x10), (75, x75), (76, x76)] H)) := by kernel_rfl
theorem e9_1 (C : Nat → List A → Option A) (call : CallT) (rg : CallT → CallT) (n lo L : Nat) (kx kg : Nat → St → Option R) (kr : St → Option R) (kp : A → St → Option R) (m : Nat) (x4 x5 x17 x129 x130 x131 : A) (H : Heap) : loopR (cx C) call rg n 9 lo 1 L kx kg kr kp (m + 1) (St.mk [(4, x4), (5, x5), (17, x17), (129, x129), (130, x130), (131, x131)] H) =
 Option.bind (aBin Tryd.prog BinOp.lss 3 false false x131 x130) fun t0 => bIfN t0 (Option.bind (aIndexAddr Tryd.prog 59 x129 x131 H) fun t1 =>
 Option.bind (aLoad Tryd.prog 58 t1 H) fun t2 =>
 Option.bind (aAlloc Tryd.prog 58 H) fun r3 =>
 Option.bind (aStore Tryd.prog 58 r3.1 (stV r3.1 r3.2 t2) r3.2 lo) fun H4 =>
 Option.bind (aIndexAddr Tryd.prog 58 r3.1 (A.v (Value.int IntKind.i64 0)) H4) fun t5 =>
 Option.bind (aLoad Tryd.prog 3 t5 H4) fun t6 =>
 Option.bind (aFieldAddr Tryd.prog 50 x5 0 H4) fun t7 =>
 Option.bind (aFieldAddr Tryd.prog 48 t7 0 H4) fun t8 =>
 Option.bind (aLoad Tryd.prog 3 t8 H4) fun t9 =>
 Option.bind (aBin Tryd.prog BinOp.lss 3 false false t6 t9) fun t10 =>
 Option.bind (bIf t10 (some [A.v (Value.bool true), A.v undef, A.v undef, A.v undef, A.v undef, A.v undef, A.v undef]) (Option.bind (aIndexAddr Tryd.prog 58 r3.1 (A.v (Value.int IntKind.i64 0)) H4) fun t11 =>
 Option.bind (aLoad Tryd.prog 3 t11 H4) fun t12 =>
 Option.bind (aFieldAddr Tryd.prog 50 x5 0 H4) fun t13 =>
 Option.bind (aFieldAddr Tryd.prog 48 t13 1 H4) fun t14 =>
 Option.bind (aLoad Tryd.prog 3 t14 H4) fun t15 =>
 Option.bind (aBin Tryd.prog BinOp.gtr 3 false false t12 t15) fun t16 => some [t16, t16, t15, t14, t13, t12, t11])) fun l11 => unc l11 fun u12 l12 => unc l12 fun u13 l13 => unc l13 fun u14 l14 => unc l14 fun u15 l15 => unc l15 fun u16 l16 => unc l16 fun u17 l17 => unc l17 fun u18 l18 =>
 Option.bind (bIf u12 (some [A.v (Value.bool true), A.v undef, A.v undef, A.v undef, A.v undef, A.v undef, A.v undef]) (Option.bind (aIndexAddr Tryd.prog 58 r3.1 (A.v (Value.int IntKind.i64 1)) H4) fun t19 =>
 Option.bind (aLoad Tryd.prog 3 t19 H4) fun t20 =>
 Option.bind (aFieldAddr Tryd.prog 50 x5 1 H4) fun t21 =>
 Option.bind (aFieldAddr Tryd.prog 48 t21 0 H4) fun t22 =>
 Option.bind (aLoad Tryd.prog 3 t22 H4) fun t23 =>
 Option.bind (aBin Tryd.prog BinOp.lss 3 false false t20 t23) fun t24 => some [t24, t24, t23, t22, t21, t20, t19])) fun l19 => unc l19 fun u20 l20 => unc l20 fun u21 l21 => unc l21 fun u22 l22 => unc l22 fun u23 l23 => unc l23 fun u24 l24 => unc l24 fun u25 l25 => unc l25 fun u26 l26 =>
 Option.bind (bIf u20 (some [A.v (Value.bool true), A.v undef, A.v undef, A.v undef, A.v undef, A.v undef, A.v undef]) (Option.bind (aIndexAddr Tryd.prog 58 r3.1 (A.v (Value.int IntKind.i64 1)) H4) fun t27 =>
 Option.bind (aLoad Tryd.prog 3 t27 H4) fun t28 =>
 Option.bind (aFieldAddr Tryd.prog 50 x5 1 H4) fun t29 =>
 Option.bind (aFieldAddr Tryd.prog 48 t29 1 H4) fun t30 =>
 Option.bind (aLoad Tryd.prog 3 t30 H4) fun t31 =>
 Option.bind (aBin Tryd.prog BinOp.gtr 3 false false t28 t31) fun t32 => some [t32, t32, t31, t30, t29, t28, t27])) fun l27 => unc l27 fun u28 l28 => unc l28 fun u29 l29 => unc l29 fun u30 l30 => unc l30 fun u31 l31 => unc l31 fun u32 l32 => unc l32 fun u33 l33 => unc l33 fun u34 l34 => bIfN u28 (kr (St.mk [(4, A.v (Value.bool false)), (5, x5), (17, x17), (129, x129), (130, x130), (131, x131)] H4)) (Option.bind (aIndexAddr Tryd.prog 58 r3.1 (A.v (Value.int IntKind.i64 0)) H4) fun t35 =>
 Option.bind (aLoad Tryd.prog 3 t35 H4) fun t36 =>
 Option.bind (aFieldAddr Tryd.prog 50 x5 0 H4) fun t37 =>
 Option.bind (aFieldAddr Tryd.prog 48 t37 0 H4) fun t38 =>
 Option.bind (aLoad Tryd.prog 3 t38 H4) fun t39 =>
 Option.bind (aBin Tryd.prog BinOp.eql 3 false false t36 t39) fun t40 =>
 Option.bind (aIndexAddr Tryd.prog 58 r3.1 (A.v (Value.int IntKind.i64 0)) H4) fun t41 =>
 Option.bind (aLoad Tryd.prog 3 t41 H4) fun t42 =>
 Option.bind (aFieldAddr Tryd.prog 50 x5 0 H4) fun t43 =>
 Option.bind (aFieldAddr Tryd.prog 48 t43 1 H4) fun t44 =>
 Option.bind (aLoad Tryd.prog 3 t44 H4) fun t45 =>
 Option.bind (aBin Tryd.prog BinOp.eql 3 false false t42 t45) fun t46 =>
 Option.bind (aIndexAddr Tryd.prog 58 r3.1 (A.v (Value.int IntKind.i64 1)) H4) fun t47 =>
 Option.bind (aLoad Tryd.prog 3 t47 H4) fun t48 =>
 Option.bind (aFieldAddr Tryd.prog 50 x5 1 H4) fun t49 =>
 Option.bind (aFieldAddr Tryd.prog 48 t49 0 H4) fun t50 =>
 Option.bind (aLoad Tryd.prog 3 t50 H4) fun t51 =>
 Option.bind (aBin Tryd.prog BinOp.eql 3 false false t48 t51) fun t52 =>
 Option.bind (aIndexAddr Tryd.prog 58 r3.1 (A.v (Value.int IntKind.i64 1)) H4) fun t53 =>
 Option.bind (aLoad Tryd.prog 3 t53 H4) fun t54 =>
 Option.bind (aFieldAddr Tryd.prog 50 x5 1 H4) fun t55 =>
 Option.bind (aFieldAddr Tryd.prog 48 t55 1 H4) fun t56 =>
 Option.bind (aLoad Tryd.prog 3 t56 H4) fun t57 =>
 Option.bind (aBin Tryd.prog BinOp.eql 3 false false t54 t57) fun t58 =>
 Option.bind (aBuildSlice Tryd.prog 67 4 [(0, frzA H4 t40), (1, frzA H4 t46), (2, frzA H4 t52), (3, frzA H4 t58)]) fun t59 =>
 Option.bind (aLen Tryd.prog 67 t59 H4) fun t60 => loopR (cx C) call rg n 9 lo 2 (List.length H4) (fun i61 s61 => bif Nat.beq i61 4 then
 Option.bind (aBin Tryd.prog BinOp.add 3 false true (look (St.fr s61) 131) (A.v (Value.int IntKind.i64 1))) fun t62 =>
 Option.bind (trim L (St.H s61)) fun H63 => bif bif Nat.beq (List.length (St.H s61)) L then true else keepsUnder L ((129, frz (St.H s61) (look (St.fr s61) 129)) :: (131, t62) :: (205, t62) :: St.fr s61) [4, 5, 17, 129, 130, 131] then loopR (cx C) call rg n 9 lo 1 L kx kg kr kp m (St.mk [(4, look (St.fr s61) 4), (5, look (St.fr s61) 5), (17, look (St.fr s61) 17), (129, frz (St.H s61) (look (St.fr s61) 129)), (130, look (St.fr s61) 130), (131, t62)] H63) else none else bif Nat.beq i61 3 then
 Option.bind (aBin Tryd.prog BinOp.add 3 false true (look (St.fr s61) 131) (A.v (Value.int IntKind.i64 1))) fun t62 =>
 Option.bind (trim L (St.H s61)) fun H63 => bif bif Nat.beq (List.length (St.H s61)) L then true else keepsUnder L ((129, frz (St.H s61) (look (St.fr s61) 129)) :: (131, t62) :: (205, t62) :: St.fr s61) [4, 5, 17, 129, 130, 131] then loopR (cx C) call rg n 9 lo 1 L kx kg kr kp m (St.mk [(4, look (St.fr s61) 4), (5, look (St.fr s61) 5), (17, look (St.fr s61) 17), (129, frz (St.H s61) (look (St.fr s61) 129)), (130, look (St.fr s61) 130), (131, t62)] H63) else none else kx i61 (St.mk [(4, look (St.fr s61) 4), (5, look (St.fr s61) 5), (17, look (St.fr s61) 17), (129, look (St.fr s61) 129), (130, look (St.fr s61) 130), (131, look (St.fr s61) 131)] (St.H s61))) (fun i61 s61 => kg i61 (St.mk [(4, look (St.fr s61) 4), (5, look (St.fr s61) 5), (17, look (St.fr s61) 17), (129, look (St.fr s61) 129), (130, look (St.fr s61) 130), (131, look (St.fr s61) 131)] (St.H s61))) (fun a61 => kr (St.mk [(4, look (St.fr a61) 4), (5, look (St.fr a61) 5), (17, look (St.fr a61) 17), (129, look (St.fr a61) 129), (130, look (St.fr a61) 130), (131, look (St.fr a61) 131)] (St.H a61))) (fun i61 s61 => kp i61 (St.mk [(4, look (St.fr s61) 4), (5, look (St.fr s61) 5), (17, look (St.fr s61) 17), (129, look (St.fr s61) 129), (130, look (St.fr s61) 130), (131, look (St.fr s61) 131)] (St.H s61))) n (St.mk [(4, x4), (5, x5), (17, x17), (129, x129), (130, x130), (131, x131), (189, t59), (190, t60), (191, A.v (Value.int IntKind.i64 0))] H4))) (kx 2 (St.mk [(4, x4), (5, x5), (17, x17), (129, x129), (130, x130), (131, x131)] H)) := by kernel_rfl
theorem e9_2 (C : Nat → List A → Option A) (call : CallT) (rg : CallT → CallT) (n lo L : Nat) (kx kg : Nat → St → Option R) (kr : St → Option R) (kp : A → St → Option R) (m : Nat) (x4 x5 x17 x129 x130 x131 x189 x190 x191 : A) (H : Heap) : loopR (cx C) call rg n 9 lo 2 L kx kg kr kp (m + 1) (St.mk [(4, x4), (5, x5), (17, x17), (129, x129), (130, x130), (131, x131), (189, x189), (190, x190), (191, x191)] H) =
 Option.bind (aBin Tryd.prog BinOp.lss 3 false false x191 x190) fun t0 => bIfN t0 (Option.bind (aIndexAddr Tryd.prog 67 x189 x191 H) fun t1 =>
 Option.bind (aLoad Tryd.prog 4 t1 H) fun t2 =>
 Option.bind (aIndexAddr Tryd.prog 66 x17 x191 H) fun t3 =>
 Option.bind (aLoad Tryd.prog 4 t3 H) fun t4 =>
 Option.bind (bIf t4 (some [A.v (Value.bool true), A.v undef]) (some [t2, t2])) fun l5 => unc l5 fun u6 l6 => unc l6 fun u7 l7 =>
 Option.bind (aIndexAddr Tryd.prog 66 x17 x191 H) fun t8 =>
 Option.bind (aStore Tryd.prog 4 t8 (stV t8 H u6) H lo) fun H9 =>
 Option.bind (aBin Tryd.prog BinOp.add 3 false true x191 (A.v (Value.int IntKind.i64 1))) fun t10 =>
 Option.bind (trim L H9) fun H11 => bif bif Nat.beq (List.length H9) L then true else keepsUnder L [(191, t10), (204, t10), (203, t8), (202, u6), (201, u7), (200, t4), (199, t4), (198, t3), (197, x191), (196, x191), (21, t2), (20, x191), (195, t2), (194, t1), (193, x191), (192, t0), (4, x4), (5, x5), (17, x17), (129, x129), (130, x130), (131, x131), (189, x189), (190, x190), (191, x191)] [4, 5, 17, 129, 130, 131, 189, 190, 191] then loopR (cx C) call rg n 9 lo 2 L kx kg kr kp m (St.mk [(4, x4), (5, x5), (17, x17), (129, x129), (130, x130), (131, x131), (189, x189), (190, x190), (191, t10)] H11) else none) (kx 4 (St.mk [(4, x4), (5, x5), (17, x17), (129, x129), (130, x130), (131, x131), (189, x189), (190, x190), (191, x191)] H)) := by kernel_rfl
theorem e14_0 (C : Nat → List A → Option A) (call : CallT) (rg : CallT → CallT) (n lo L : Nat) (kx kg : Nat → St → Option R) (kr : St → Option R) (kp : A → St → Option R) (m : Nat) (x2 x4 x5 x30 x31 : A) (H : Heap) : loopR (cx C) call rg n 14 lo 0 L kx kg kr kp (m + 1) (St.mk [(2, x2), (4, x4), (5, x5), (30, x30), (31, x31)] H) =
 Option.bind (aBin Tryd.prog BinOp.lss 3 false true x31 (A.v (Value.int IntKind.i64 5))) fun t0 => bIfN t0 (Option.bind (aIndex Tryd.prog 77 x30 x31) fun t1 =>
 Option.bind (aFieldAddr Tryd.prog 26 x2 3 H) fun t2 =>
 Option.bind (aIndexAddr Tryd.prog 24 t2 t1 H) fun t3 =>
 Option.bind (aLoad Tryd.prog 23 t3 H) fun t4 =>
 Option.bind (aFieldAddr Tryd.prog 26 x4 3 H) fun t5 =>
 Option.bind (aIndexAddr Tryd.prog 24 t5 x31 H) fun t6 =>
 Option.bind (aStore Tryd.prog 23 t6 (stV t6 H t4) H lo) fun H7 =>
 Option.bind (aFieldAddr Tryd.prog 26 x2 3 H7) fun t8 =>
 Option.bind (aIndexAddr Tryd.prog 24 t8 t1 H7) fun t9 =>
 Option.bind (aFieldAddr Tryd.prog 23 t9 0 H7) fun t10 =>
 Option.bind (aLoad Tryd.prog 3 t10 H7) fun t11 =>
 Option.bind (C 31 [snap H7 t11]) fun t12 =>
 Option.bind (aExtract t12 0) fun t13 =>
 Option.bind (aExtract t12 1) fun t14 =>
 Option.bind (aFieldAddr Tryd.prog 26 x4 3 H7) fun t15 =>
 Option.bind (aIndexAddr Tryd.prog 24 t15 x31 H7) fun t16 =>
 Option.bind (aFieldAddr Tryd.prog 23 t16 0 H7) fun t17 =>
 Option.bind (aStore Tryd.prog 3 t17 (stV t17 H7 t13) H7 lo) fun H18 =>
 Option.bind (aBin Tryd.prog BinOp.add 3 false true x31 (A.v (Value.int IntKind.i64 1))) fun t19 =>
 Option.bind (trim L H18) fun H20 => bif bif Nat.beq (List.length H18) L then true else keepsUnder L [(31, t19), (55, t19), (54, t17), (53, t16), (52, t15), (51, t14), (50, t13), (42, t12), (49, t12), (48, t11), (47, t10), (46, t9), (45, t8), (44, t1), (43, x31), (41, t6), (40, t5), (39, t4), (38, t3), (37, t2), (36, t1), (35, x31), (7, t1), (6, x31), (34, t1), (33, x31), (32, t0), (2, x2), (4, x4), (5, x5), (30, x30), (31, x31)] [2, 4, 5, 30, 31] then loopR (cx C) call rg n 14 lo 0 L kx kg kr kp m (St.mk [(2, x2), (4, x4), (5, x5), (30, x30), (31, t19)] H20) else none) (kx 0 (St.mk [(2, x2), (4, x4), (5, x5), (30, x30), (31, x31)] H)) := by kernel_rfl
theorem e16_0 (C : Nat → List A → Option A) (call : CallT) (rg : CallT → CallT) (n lo L : Nat) (kx kg : Nat → St → Option R) (kr : St → Option R) (kp : A → St → Option R) (m : Nat) (x2 x22 x23 : A) (H : Heap) : loopR (cx C) call rg n 16 lo 0 L kx kg kr kp (m + 1) (St.mk [(2, x2), (22, x22), (23, x23)] H) =
 Option.bind (aBin Tryd.prog BinOp.lss 3 false true x23 (A.v (Value.int IntKind.i64 5))) fun t0 => bIfN t0 (Option.bind (aIndex Tryd.prog 24 x22 x23) fun t1 =>
 Option.bind (aAlloc Tryd.prog 23 H) fun r2 =>
 Option.bind (aStore Tryd.prog 23 r2.1 (stV r2.1 r2.2 t1) r2.2 lo) fun H3 =>
 Option.bind (aLoad Tryd.prog 23 r2.1 H3) fun t4 =>
 Option.bind (aBuild Tryd.prog 23 []) fun t5 =>
 Option.bind (aBin Tryd.prog BinOp.neq 23 false false t4 t5) fun t6 =>
 Option.bind (bIf t6 (Option.bind (aFieldAddr Tryd.prog 23 r2.1 0 H3) fun t7 =>
 Option.bind (aLoad Tryd.prog 3 t7 H3) fun t8 =>
 Option.bind (C 29 [snap H3 t8, snap H3 (A.v (Value.int IntKind.i64 0)), snap H3 (A.v (Value.int IntKind.i64 8))]) fun t9 =>
 Option.bind (aUn Tryd.prog UnOp.not t9) fun t10 =>
 Option.bind (bIf t10 (some [A.v (Value.bool true), A.v undef, A.v undef, A.v undef, A.v undef]) (Option.bind (aFieldAddr Tryd.prog 23 r2.1 1 H3) fun t11 =>
 Option.bind (aLoad Tryd.prog 3 t11 H3) fun t12 =>
 Option.bind (C 29 [snap H3 t12, snap H3 (A.v (Value.int IntKind.i64 1)), snap H3 (A.v (Value.int IntKind.i64 3))]) fun t13 =>
 Option.bind (aUn Tryd.prog UnOp.not t13) fun t14 => some [t14, t14, t13, t12, t11])) fun l11 => unc l11 fun u12 l12 => unc l12 fun u13 l13 => unc l13 fun u14 l14 => unc l14 fun u15 l15 => unc l15 fun u16 l16 => some [u12, u12, u13, u14, u15, u16, t10, t10, t9, t8, t7]) (some [A.v (Value.bool false), A.v undef, A.v undef, A.v undef, A.v undef, A.v undef, A.v undef, A.v undef, A.v undef, A.v undef, A.v undef])) fun l7 => unc l7 fun u8 l8 => unc l8 fun u9 l9 => unc l9 fun u10 l10 => unc l10 fun u11 l11 => unc l11 fun u12 l12 => unc l12 fun u13 l13 => unc l13 fun u14 l14 => unc l14 fun u15 l15 => unc l15 fun u16 l16 => unc l16 fun u17 l17 => unc l17 fun u18 l18 => bIfN u8 (kr (St.mk [(2, A.v (Value.int IntKind.i64 260)), (22, x22), (23, x23)] H3)) (Option.bind (aBin Tryd.prog BinOp.add 3 false true x23 (A.v (Value.int IntKind.i64 1))) fun t19 =>
 Option.bind (trim L H3) fun H20 => bif bif Nat.beq (List.length H3) L then true else keepsUnder L [(23, t19), (41, t19), (40, u8), (39, u9), (38, u10), (37, u11), (36, u12), (35, u13), (34, u14), (33, u15), (32, u16), (31, u17), (30, u18), (29, t6), (28, t6), (27, t5), (26, t4), (4, r2.1), (25, t1), (24, t0), (2, x2), (22, x22), (23, x23)] [2, 22, 23] then loopR (cx C) call rg n 16 lo 0 L kx kg kr kp m (St.mk [(2, x2), (22, x22), (23, t19)] H20) else none)) (kx 0 (St.mk [(2, x2), (22, x22), (23, x23)] H)) := by kernel_rfl
theorem e18_0 (C : Nat → List A → Option A) (call : CallT) (rg : CallT → CallT) (n lo L : Nat) (kx kg : Nat → St → Option R) (kr : St → Option R) (kp : A → St → Option R) (m : Nat) (x3 x4 x5 x6 x7 x8 x9 x10 x41 x42 : A) (H : Heap) : loopR (cx C) call rg n 18 lo 0 L kx kg kr kp (m + 1) (St.mk [(3, x3), (4, x4), (5, x5), (6, x6), (7, x7), (8, x8), (9, x9), (10, x10), (41, x41), (42, x42)] H) =
 Option.bind (aBin Tryd.prog BinOp.lss 3 false true x42 (A.v (Value.int IntKind.i64 4))) fun t0 => bIfN t0 (Option.bind (aIndex Tryd.prog 89 x41 x42) fun t1 =>
 Option.bind (aFieldAddr Tryd.prog 84 x8 0 H) fun t2 =>
 Option.bind (aIndexAddr Tryd.prog 80 t2 x42 H) fun t3 =>
 Option.bind (aLoad Tryd.prog 58 t3 H) fun t4 => dynCall (cx C) call x10 [t1, t4] H lo (fun i5 h5 =>
 Option.bind (aBin Tryd.prog BinOp.add 3 false true x42 (A.v (Value.int IntKind.i64 1))) fun t6 =>
 Option.bind (trim L h5) fun H7 => bif bif Nat.beq (List.length h5) L then true else keepsUnder L [(42, t6), (53, t6), (52, i5), (51, t4), (50, t3), (49, t2), (48, x42), (47, t1), (46, x10), (12, t1), (11, x42), (45, t1), (44, x42), (43, t0), (3, x3), (4, x4), (5, x5), (6, x6), (7, x7), (8, x8), (9, x9), (10, x10), (41, x41), (42, x42)] [3, 4, 5, 6, 7, 8, 9, 10, 41, 42] then loopR (cx C) call rg n 18 lo 0 L kx kg kr kp m (St.mk [(3, x3), (4, x4), (5, x5), (6, x6), (7, x7), (8, x8), (9, x9), (10, x10), (41, x41), (42, t6)] H7) else none) fun i5 h5 => kp i5 (St.mk [(3, x3), (4, x4), (5, x5), (6, x6), (7, x7), (8, x8), (9, x9), (10, x10), (41, x41), (42, x42)] h5)) (kx 0 (St.mk [(3, x3), (4, x4), (5, x5), (6, x6), (7, x7), (8, x8), (9, x9), (10, x10), (41, x41), (42, x42)] H)) := by kernel_rfl
theorem e23_0 (C : Nat → List A → Option A) (call : CallT) (rg : CallT → CallT) (n lo L : Nat) (kx kg : Nat → St → Option R) (kr : St → Option R) (kp : A → St → Option R) (m : Nat) (x2 x3 x42 x43 x44 : A) (H : Heap) : loopR (cx C) call rg n 23 lo 0 L kx kg kr kp (m + 1) (St.mk [(2, x2), (3, x3), (42, x42), (43, x43), (44, x44)] H) =
 Option.bind (aBin Tryd.prog BinOp.lss 3 false false x44 x43) fun t0 => bIfN t0 (Option.bind (aIndexAddr Tryd.prog 113 x42 x44 H) fun t1 =>
 Option.bind (aLoad Tryd.prog 110 t1 H) fun t2 =>
 Option.bind (aAlloc Tryd.prog 110 H) fun r3 =>
 Option.bind (aStore Tryd.prog 110 r3.1 (stV r3.1 r3.2 t2) r3.2 lo) fun H4 =>
 Option.bind (aFieldAddr Tryd.prog 110 r3.1 3 H4) fun t5 =>
 Option.bind (aLoad Tryd.prog 3 t5 H4) fun t6 =>
 Option.bind (aBin Tryd.prog BinOp.add 3 false true t6 (A.v (Value.int IntKind.i64 1))) fun t7 => loopR (cx C) call rg n 23 lo 1 (List.length H4) (fun i8 s8 => bif Nat.beq i8 2 then
 Option.bind (aBin Tryd.prog BinOp.add 3 false true (look (St.fr s8) 44) (A.v (Value.int IntKind.i64 1))) fun t9 =>
 Option.bind (trim L (St.H s8)) fun H10 => bif bif Nat.beq (List.length (St.H s8)) L then true else keepsUnder L ((44, t9) :: (68, t9) :: St.fr s8) [2, 3, 42, 43, 44] then loopR (cx C) call rg n 23 lo 0 L kx kg kr kp m (St.mk [(2, look (St.fr s8) 2), (3, look (St.fr s8) 3), (42, look (St.fr s8) 42), (43, look (St.fr s8) 43), (44, t9)] H10) else none else bif Nat.beq i8 1 then
 Option.bind (aBin Tryd.prog BinOp.add 3 false true (look (St.fr s8) 44) (A.v (Value.int IntKind.i64 1))) fun t9 =>
 Option.bind (trim L (St.H s8)) fun H10 => bif bif Nat.beq (List.length (St.H s8)) L then true else keepsUnder L ((44, t9) :: (68, t9) :: St.fr s8) [2, 3, 42, 43, 44] then loopR (cx C) call rg n 23 lo 0 L kx kg kr kp m (St.mk [(2, look (St.fr s8) 2), (3, look (St.fr s8) 3), (42, look (St.fr s8) 42), (43, look (St.fr s8) 43), (44, t9)] H10) else none else kx i8 (St.mk [(2, look (St.fr s8) 2), (3, look (St.fr s8) 3), (42, look (St.fr s8) 42), (43, look (St.fr s8) 43), (44, look (St.fr s8) 44)] (St.H s8))) (fun i8 s8 => kg i8 (St.mk [(2, look (St.fr s8) 2), (3, look (St.fr s8) 3), (42, look (St.fr s8) 42), (43, look (St.fr s8) 43), (44, look (St.fr s8) 44)] (St.H s8))) (fun a8 => kr (St.mk [(2, look (St.fr a8) 2), (3, look (St.fr a8) 3), (42, look (St.fr a8) 42), (43, look (St.fr a8) 43), (44, look (St.fr a8) 44)] (St.H a8))) (fun i8 s8 => kp i8 (St.mk [(2, look (St.fr s8) 2), (3, look (St.fr s8) 3), (42, look (St.fr s8) 42), (43, look (St.fr s8) 43), (44, look (St.fr s8) 44)] (St.H s8))) n (St.mk [(2, x2), (3, x3), (6, r3.1), (42, x42), (43, x43), (44, x44), (50, t7), (51, A.v (Value.int IntKind.i64 0))] H4)) (kx 0 (St.mk [(2, x2), (3, x3), (42, x42), (43, x43), (44, x44)] H)) := by kernel_rfl
theorem e23_1 (C : Nat → List A → Option A) (call : CallT) (rg : CallT → CallT) (n lo L : Nat) (kx kg : Nat → St → Option R) (kr : St → Option R) (kp : A → St → Option R) (m : Nat) (x2 x3 x6 x42 x43 x44 x50 x51 : A) (H : Heap) : loopR (cx C) call rg n 23 lo 1 L kx kg kr kp (m + 1) (St.mk [(2, x2), (3, x3), (6, x6), (42, x42), (43, x43), (44, x44), (50, x50), (51, x51)] H) =
 Option.bind (aBin Tryd.prog BinOp.lss 3 false false x51 x50) fun t0 => bIfN t0 (Option.bind (aFieldAddr Tryd.prog 110 x6 1 H) fun t1 =>
 Option.bind (aLoad Tryd.prog 3 t1 H) fun t2 =>
 Option.bind (aFieldAddr Tryd.prog 110 x6 2 H) fun t3 =>
 Option.bind (aLoad Tryd.prog 3 t3 H) fun t4 =>
 Option.bind (aFieldAddr Tryd.prog 110 x6 0 H) fun t5 =>
 Option.bind (aLoad Tryd.prog 108 t5 H) fun t6 => dynV (cx C) call t6 [x3, x51] H fun a7 =>
 Option.bind (aNil a7 H) fun t8 =>
 Option.bind (aLoad Tryd.prog 3 t8 H) fun t9 =>
 Option.bind (aBuildSlice Tryd.prog 107 1 [(0, frzA H t9)]) fun t10 =>
 Option.bind (C 44 [snap H t2, snap H t4, snap H t10]) fun t11 =>
 Option.bind (aUn Tryd.prog UnOp.not t11) fun t12 => bIfN t12 (kr (St.mk [(2, A.v (Value.int IntKind.i64 250)), (3, x3), (6, x6), (42, x42), (43, x43), (44, x44), (50, x50), (51, x51)] H)) (Option.bind (aBin Tryd.prog BinOp.add 3 false true x51 (A.v (Value.int IntKind.i64 1))) fun t13 =>
 Option.bind (trim L H) fun H14 => bif bif Nat.beq (List.length H) L then true else keepsUnder L [(51, t13), (67, t13), (66, t12), (65, t11), (64, t10), (63, t9), (62, t8), (61, a7), (60, x51), (59, t6), (58, t5), (57, t4), (56, t3), (55, t2), (54, t1), (7, x51), (53, x51), (52, t0), (2, x2), (3, x3), (6, x6), (42, x42), (43, x43), (44, x44), (50, x50), (51, x51)] [2, 3, 6, 42, 43, 44, 50, 51] then loopR (cx C) call rg n 23 lo 1 L kx kg kr kp m (St.mk [(2, x2), (3, x3), (6, x6), (42, x42), (43, x43), (44, x44), (50, x50), (51, t13)] H14) else none)) (kx 2 (St.mk [(2, x2), (3, x3), (6, x6), (42, x42), (43, x43), (44, x44), (50, x50), (51, x51)] H)) := by kernel_rfl
theorem e43_0 (C : Nat → List A → Option A) (call : CallT) (rg : CallT → CallT) (n lo L : Nat) (kx kg : Nat → St → Option R) (kr : St → Option R) (kp : A → St → Option R) (m : Nat) (x0 x2 x19 x20 : A) (H : Heap) : loopR (cx C) call rg n 43 lo 0 L kx kg kr kp (m + 1) (St.mk [(0, x0), (2, x2), (19, x19), (20, x20)] H) =
 Option.bind (aBin Tryd.prog BinOp.lss 3 false false x20 x19) fun t0 => bIfN t0 (Option.bind (aIndex Tryd.prog 9 x0 x20) fun t1 =>
 Option.bind (C 72 [snap H t1]) fun t2 =>
 Option.bind (aBin Tryd.prog BinOp.neq 3 false true t2 (A.v (Value.int IntKind.i64 2))) fun t3 =>
 Option.bind (bIf t3 (Option.bind (aBin Tryd.prog BinOp.neq 3 false true t2 (A.v (Value.int IntKind.i64 3))) fun t4 => some [t4, t4, t2]) (some [A.v (Value.bool false), A.v undef, A.v undef])) fun l4 => unc l4 fun u5 l5 => unc l5 fun u6 l6 => unc l6 fun u7 l7 =>
 Option.bind (bIf u5 (Option.bind (aBin Tryd.prog BinOp.neq 3 false true t2 (A.v (Value.int IntKind.i64 5))) fun t8 => some [t8, t8, t2]) (some [A.v (Value.bool false), A.v undef, A.v undef])) fun l8 => unc l8 fun u9 l9 => unc l9 fun u10 l10 => unc l10 fun u11 l11 => bIfN u9 (kr (St.mk [(0, x0), (2, A.v (Value.bool false)), (19, x19), (20, x20)] H)) (Option.bind (aBin Tryd.prog BinOp.add 3 false true x20 (A.v (Value.int IntKind.i64 1))) fun t12 =>
 Option.bind (trim L H) fun H13 => bif bif Nat.beq (List.length H) L then true else keepsUnder L [(20, t12), (37, t12), (36, u9), (35, u10), (34, u11), (33, u5), (32, u5), (31, u6), (30, u7), (29, t3), (28, t3), (27, t2), (4, t2), (26, t2), (25, t1), (24, x20), (23, x0), (3, x20), (22, x20), (21, t0), (0, x0), (2, x2), (19, x19), (20, x20)] [0, 2, 19, 20] then loopR (cx C) call rg n 43 lo 0 L kx kg kr kp m (St.mk [(0, x0), (2, x2), (19, x19), (20, t12)] H13) else none)) (kx 0 (St.mk [(0, x0), (2, x2), (19, x19), (20, x20)] H)) := by kernel_rfl
theorem e44_0 (C : Nat → List A → Option A) (call : CallT) (rg : CallT → CallT) (n lo L : Nat) (kx kg : Nat → St → Option R) (kr : St → Option R) (kp : A → St → Option R) (m : Nat) (x0 x1 x6 x9 x10 x11 : A) (H : Heap) : loopR (cx C) call rg n 44 lo 0 L kx kg kr kp (m + 1) (St.mk [(0, x0), (1, x1), (6, x6), (9, x9), (10, x10), (11, x11)] H) =
 Option.bind (aBin Tryd.prog BinOp.lss 3 false false x11 x10) fun t0 => bIfN t0 (Option.bind (aIndexAddr Tryd.prog 107 x9 x11 H) fun t1 =>
 Option.bind (aLoad Tryd.prog 3 t1 H) fun t2 =>
 Option.bind (aBin Tryd.prog BinOp.lss 3 false false t2 x0) fun t3 =>
 Option.bind (bIf t3 (some [A.v (Value.bool true), A.v undef, A.v undef, A.v undef]) (Option.bind (aBin Tryd.prog BinOp.gtr 3 false false t2 x1) fun t4 => some [t4, t4, x1, t2])) fun l4 => unc l4 fun u5 l5 => unc l5 fun u6 l6 => unc l6 fun u7 l7 => unc l7 fun u8 l8 => bIfN u5 (kr (St.mk [(0, x0), (1, x1), (6, A.v (Value.bool false)), (9, x9), (10, x10), (11, x11)] H)) (Option.bind (aBin Tryd.prog BinOp.add 3 false true x11 (A.v (Value.int IntKind.i64 1))) fun t9 =>
 Option.bind (trim L H) fun H10 => bif bif Nat.beq (List.length H) L then true else keepsUnder L [(11, t9), (23, t9), (22, u5), (21, u6), (20, u7), (19, u8), (18, t3), (17, t3), (16, x0), (15, t2), (8, t2), (14, t2), (13, t1), (12, t0), (0, x0), (1, x1), (6, x6), (9, x9), (10, x10), (11, x11)] [0, 1, 6, 9, 10, 11] then loopR (cx C) call rg n 44 lo 0 L kx kg kr kp m (St.mk [(0, x0), (1, x1), (6, x6), (9, x9), (10, x10), (11, t9)] H10) else none)) (kx 0 (St.mk [(0, x0), (1, x1), (6, x6), (9, x9), (10, x10), (11, x11)] H)) := by kernel_rfl
theorem e64_0 (C : Nat → List A → Option A) (call : CallT) (rg : CallT → CallT) (n lo L : Nat) (kx kg : Nat → St → Option R) (kr : St → Option R) (kp : A → St → Option R) (m : Nat) (x0 x1 x2 x12 x13 : A) (H : Heap) : loopR (cx C) call rg n 64 lo 0 L kx kg kr kp (m + 1) (St.mk [(0, x0), (1, x1), (2, x2), (12, x12), (13, x13)] H) =
 Option.bind (aBin Tryd.prog BinOp.lss 3 false true x13 (A.v (Value.int IntKind.i64 5))) fun t0 => bIfN t0 (Option.bind (aIndex Tryd.prog 24 x12 x13) fun t1 =>
 Option.bind (aAlloc Tryd.prog 23 H) fun r2 =>
 Option.bind (aStore Tryd.prog 23 r2.1 (stV r2.1 r2.2 t1) r2.2 lo) fun H3 =>
 Option.bind (aFieldAddr Tryd.prog 23 r2.1 1 H3) fun t4 =>
 Option.bind (aLoad Tryd.prog 3 t4 H3) fun t5 =>
 Option.bind (aBin Tryd.prog BinOp.eql 3 false true t5 (A.v (Value.int IntKind.i64 0))) fun t6 => bIfN t6 (Option.bind (aBin Tryd.prog BinOp.add 3 false true x13 (A.v (Value.int IntKind.i64 1))) fun t7 =>
 Option.bind (trim L H3) fun H8 => bif bif Nat.beq (List.length H3) L then true else keepsUnder L [(13, t7), (59, t7), (19, t6), (18, t5), (17, t4), (4, x13), (5, r2.1), (16, t1), (15, x13), (14, t0), (0, x0), (1, x1), (2, x2), (12, x12), (13, x13)] [0, 1, 2, 12, 13] then loopR (cx C) call rg n 64 lo 0 L kx kg kr kp m (St.mk [(0, x0), (1, x1), (2, x2), (12, x12), (13, t7)] H8) else none) (Option.bind (aFieldAddr Tryd.prog 23 r2.1 0 H3) fun t7 =>
 Option.bind (aLoad Tryd.prog 3 t7 H3) fun t8 =>
 Option.bind (aFieldAddr Tryd.prog 26 x1 2 H3) fun t9 =>
 Option.bind (aLoad Tryd.prog 3 t9 H3) fun t10 =>
 Option.bind (C 24 [snap H3 t8, snap H3 t10]) fun t11 =>
 Option.bind (aExtract t11 0) fun t12 =>
 Option.bind (aExtract t11 1) fun t13 =>
 Option.bind (aFieldAddr Tryd.prog 23 r2.1 1 H3) fun t14 =>
 Option.bind (aLoad Tryd.prog 3 t14 H3) fun t15 =>
 Option.bind (C 25 [snap H3 t12, snap H3 t15]) fun t16 =>
 Option.bind (aExtract t16 0) fun t17 =>
 Option.bind (aExtract t16 1) fun t18 =>
 Option.bind (aAlloc Tryd.prog 63 H3) fun r19 =>
 Option.bind (aStore Tryd.prog 63 r19.1 (stV r19.1 r19.2 t17) r19.2 lo) fun H20 =>
 Option.bind (aBin Tryd.prog BinOp.quo 3 false true x13 (A.v (Value.int IntKind.i64 2))) fun t21 =>
 Option.bind (aFieldAddr Tryd.prog 46 x2 6 H20) fun t22 =>
 Option.bind (aIndexAddr Tryd.prog 44 t22 t21 H20) fun t23 =>
 Option.bind (aLoad Tryd.prog 3 t23 H20) fun t24 =>
 Option.bind (aFieldAddr Tryd.prog 26 x1 0 H20) fun t25 =>
 Option.bind (aLoad Tryd.prog 3 t25 H20) fun t26 =>
 Option.bind (aBin Tryd.prog BinOp.mul 3 true false (A.v (Value.int IntKind.i64 29)) t26) fun t27 =>
 Option.bind (aFieldAddr Tryd.prog 63 r19.1 0 H20) fun t28 =>
 Option.bind (aLoad Tryd.prog 3 t28 H20) fun t29 =>
 Option.bind (aBin Tryd.prog BinOp.mul 3 false false t24 t29) fun t30 =>
 Option.bind (aBin Tryd.prog BinOp.add 3 false false t27 t30) fun t31 =>
 Option.bind (aFieldAddr Tryd.prog 26 x1 1 H20) fun t32 =>
 Option.bind (aLoad Tryd.prog 3 t32 H20) fun t33 =>
 Option.bind (aBin Tryd.prog BinOp.mul 3 true false (A.v (Value.int IntKind.i64 29)) t33) fun t34 =>
 Option.bind (aFieldAddr Tryd.prog 63 r19.1 1 H20) fun t35 =>
 Option.bind (aLoad Tryd.prog 3 t35 H20) fun t36 =>
 Option.bind (aBin Tryd.prog BinOp.mul 3 false false t24 t36) fun t37 =>
 Option.bind (aBin Tryd.prog BinOp.add 3 false false t34 t37) fun t38 => dynCall (cx C) call x0 [t31, t38] H20 lo (fun i39 h39 =>
 Option.bind (aUn Tryd.prog UnOp.not i39) fun t40 => bIfN t40 (kr (St.mk [(0, x0), (1, x1), (2, x2), (12, x12), (13, x13)] h39)) (Option.bind (aBin Tryd.prog BinOp.add 3 false true x13 (A.v (Value.int IntKind.i64 1))) fun t41 =>
 Option.bind (trim L h39) fun H42 => bif bif Nat.beq (List.length h39) L then true else keepsUnder L [(13, t41), (59, t41), (58, t40), (57, i39), (56, t38), (55, t37), (54, t36), (53, t35), (52, t24), (51, t34), (50, t33), (49, t32), (48, t31), (47, t30), (46, t29), (45, t28), (44, t24), (43, t27), (42, t26), (41, t25), (40, x0), (10, t24), (39, t24), (38, t23), (37, t22), (36, t21), (35, x13), (9, t18), (8, r19.1), (34, t18), (33, t17), (28, t16), (32, t16), (31, t15), (30, t14), (29, t12), (7, t13), (6, t12), (27, t13), (26, t12), (20, t11), (25, t11), (24, t10), (23, t9), (22, t8), (21, t7), (19, t6), (18, t5), (17, t4), (4, x13), (5, r2.1), (16, t1), (15, x13), (14, t0), (0, x0), (1, x1), (2, x2), (12, x12), (13, x13)] [0, 1, 2, 12, 13] then loopR (cx C) call rg n 64 lo 0 L kx kg kr kp m (St.mk [(0, x0), (1, x1), (2, x2), (12, x12), (13, t41)] H42) else none)) fun i39 h39 => kp i39 (St.mk [(0, x0), (1, x1), (2, x2), (12, x12), (13, x13)] h39))) (kx 0 (St.mk [(0, x0), (1, x1), (2, x2), (12, x12), (13, x13)] H)) := by kernel_rfl
theorem e80_0 (C : Nat → List A → Option A) (call : CallT) (rg : CallT → CallT) (n lo L : Nat) (kx kg : Nat → St → Option R) (kr : St → Option R) (kp : A → St → Option R) (m : Nat) (x0 x6 x7 x8 : A) (H : Heap) : loopR (cx C) call rg n 80 lo 0 L kx kg kr kp (m + 1) (St.mk [(0, x0), (6, x6), (7, x7), (8, x8)] H) =
 Option.bind (aBin Tryd.prog BinOp.lss 3 false false x8 x7) fun t0 => bIfN t0 (Option.bind (aIndexAddr Tryd.prog 107 x6 x8 H) fun t1 =>
 Option.bind (aLoad Tryd.prog 3 t1 H) fun t2 =>
 Option.bind (aBuild Tryd.prog 23 []) fun t3 =>
 Option.bind (aNil x0 H) fun t4 =>
 Option.bind (aFieldAddr Tryd.prog 91 t4 0 H) fun t5 =>
 Option.bind (aFieldAddr Tryd.prog 26 t5 3 H) fun t6 =>
 Option.bind (aIndexAddr Tryd.prog 24 t6 t2 H) fun t7 =>
 Option.bind (aStore Tryd.prog 23 t7 (stV t7 H t3) H lo) fun H8 =>
 Option.bind (aBin Tryd.prog BinOp.add 3 false true x8 (A.v (Value.int IntKind.i64 1))) fun t9 =>
 Option.bind (trim L H8) fun H10 => bif bif Nat.beq (List.length H8) L then true else keepsUnder L [(8, t9), (19, t9), (18, t7), (17, t6), (16, t5), (15, t4), (14, t3), (13, t2), (12, x0), (5, t2), (11, t2), (10, t1), (9, t0), (0, x0), (6, x6), (7, x7), (8, x8)] [0, 6, 7, 8] then loopR (cx C) call rg n 80 lo 0 L kx kg kr kp m (St.mk [(0, x0), (6, x6), (7, x7), (8, t9)] H10) else none) (kx 0 (St.mk [(0, x0), (6, x6), (7, x7), (8, x8)] H)) := by kernel_rfl
theorem e20_r0 (C : Nat → List A → Option A) (call : CallT) (rg : CallT → CallT) (n lo b lo' : Nat) (x4 y0 y1 : A) (H : Heap) : roundR (cx C) call rg n 20 lo 0 b [(4, x4)] [y0, y1] H lo' = bif Nat.ble lo' lo then rdy H b (rdy H b (Option.bind (aFieldAddr Tryd.prog 50 x4 0 (List.set H b (Blk.rng RSt.busy))) fun t0 =>
 Option.bind (aFieldAddr Tryd.prog 48 t0 0 (List.set H b (Blk.rng RSt.busy))) fun t1 =>
 Option.bind (aLoad Tryd.prog 3 t1 (List.set H b (Blk.rng RSt.busy))) fun t2 =>
 Option.bind (aMM true t2 [y0]) fun t3 =>
 Option.bind (aFieldAddr Tryd.prog 50 x4 0 (List.set H b (Blk.rng RSt.busy))) fun t4 =>
 Option.bind (aFieldAddr Tryd.prog 48 t4 1 (List.set H b (Blk.rng RSt.busy))) fun t5 =>
 Option.bind (aLoad Tryd.prog 3 t5 (List.set H b (Blk.rng RSt.busy))) fun t6 =>
 Option.bind (aMM false t6 [y0]) fun t7 =>
 Option.bind (aBuild Tryd.prog 48 [(0, t3), (1, t7)]) fun t8 =>
 Option.bind (aFieldAddr Tryd.prog 50 x4 0 (List.set H b (Blk.rng RSt.busy))) fun t9 =>
 Option.bind (aStore Tryd.prog 48 t9 (stV t9 (List.set H b (Blk.rng RSt.busy)) t8) (List.set H b (Blk.rng RSt.busy)) lo) fun H10 =>
 Option.bind (aFieldAddr Tryd.prog 50 x4 1 H10) fun t11 =>
 Option.bind (aFieldAddr Tryd.prog 48 t11 0 H10) fun t12 =>
 Option.bind (aLoad Tryd.prog 3 t12 H10) fun t13 =>
 Option.bind (aMM true t13 [y1]) fun t14 =>
 Option.bind (aFieldAddr Tryd.prog 50 x4 1 H10) fun t15 =>
 Option.bind (aFieldAddr Tryd.prog 48 t15 1 H10) fun t16 =>
 Option.bind (aLoad Tryd.prog 3 t16 H10) fun t17 =>
 Option.bind (aMM false t17 [y1]) fun t18 =>
 Option.bind (aBuild Tryd.prog 48 [(0, t14), (1, t18)]) fun t19 =>
 Option.bind (aFieldAddr Tryd.prog 50 x4 1 H10) fun t20 =>
 Option.bind (aStore Tryd.prog 48 t20 (stV t20 H10 t19) H10 lo) fun H21 => bsy H21 b (some (Out.ret (A.v (Value.bool true)), List.set H21 b (Blk.rng RSt.ready))))) else none := by kernel_rfl
end Go.Proofs.YtooamdacfhfjoaaDoor
