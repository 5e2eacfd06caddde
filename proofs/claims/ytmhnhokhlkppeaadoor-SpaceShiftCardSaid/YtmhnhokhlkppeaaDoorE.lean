/-
  What the interpreter does with the program's functions: equations, by a tool; the kernel checks each.
-/
import Derived.Test.YtmhnhokhlkppeaaDoorEvTyped
import Derived.Test.YtmhnhokhlkppeaaDoorRows
import Derived.KernelRfl
namespace Go.Proofs.YtmhnhokhlkppeaaDoor
set_option linter.unusedVariables false
set_option linter.unusedSimpArgs false
set_option maxHeartbeats 4000000
set_option maxRecDepth 100000
/-- Slots kept at the loops' heads. -/
def keepTab : List ((Nat × Nat) × List Nat) := [((7, 7), [3, 4, 5, 6, 7, 8, 9, 14, 38, 39, 40, 50, 51, 52]), ((7, 4), [3, 4, 5, 6, 7, 8, 9, 14, 38, 39, 40]), ((32, 2), [0, 4, 7, 8, 9])]
def keepF (f r : Nat) : List Nat := keepOf f r keepTab
/-- What is done there. -/
def actTab : List ((Nat × Nat) × List (Nat × Nat × Nat)) := []
def actF (f r : Nat) : List (Nat × Nat × Nat) := actOf f r actTab
noncomputable def cx (C : Nat → List A → Option A) : Cx := { P := Tryd.prog, glob := fun g => if g = 0 then some [.int .i64 0, .int .i64 29, .int .i64 20, .int .i64 21, .int .i64 29, .int .i64 0, .int .i64 20, .int .i64 (-21), .int .i64 0, .int .i64 (-29), .int .i64 (-20), .int .i64 (-21), .int .i64 (-29), .int .i64 0, .int .i64 (-20), .int .i64 21] else none, isOrc := fun k => notIn k [31], C := C, keep := keepF, wrAt := fun _ _ => false, acts := actF }
@[simp] theorem un_2 : Program.underlying Tryd.prog 2 = some (TypeDesc.int IntKind.i64) := by kernel_rfl
@[simp] theorem sz_2 : sizeT Tryd.prog 2 = some 1 := by kernel_rfl
@[simp] theorem by_2 : bytesT Tryd.prog 2 = some 8 := by kernel_rfl
@[simp] theorem zr_2 : zeroT Tryd.prog 2 = some [A.v (Value.int IntKind.i64 0)] := by kernel_rfl
@[simp] theorem ag_2 : isAggT Tryd.prog 2 = false := by kernel_rfl
@[simp] theorem ni_2 : notInt Tryd.prog 2 = false := by kernel_rfl
@[simp] theorem un_3 : Program.underlying Tryd.prog 3 = some (TypeDesc.int IntKind.i64) := by kernel_rfl
@[simp] theorem sz_3 : sizeT Tryd.prog 3 = some 1 := by kernel_rfl
@[simp] theorem by_3 : bytesT Tryd.prog 3 = some 8 := by kernel_rfl
@[simp] theorem zr_3 : zeroT Tryd.prog 3 = some [A.v (Value.int IntKind.i64 0)] := by kernel_rfl
@[simp] theorem ag_3 : isAggT Tryd.prog 3 = false := by kernel_rfl
@[simp] theorem ni_3 : notInt Tryd.prog 3 = false := by kernel_rfl
@[simp] theorem un_5 : Program.underlying Tryd.prog 5 = some (TypeDesc.int IntKind.u8) := by kernel_rfl
@[simp] theorem sz_5 : sizeT Tryd.prog 5 = some 1 := by kernel_rfl
@[simp] theorem by_5 : bytesT Tryd.prog 5 = some 1 := by kernel_rfl
@[simp] theorem zr_5 : zeroT Tryd.prog 5 = some [A.v (Value.int IntKind.u8 0)] := by kernel_rfl
@[simp] theorem ag_5 : isAggT Tryd.prog 5 = false := by kernel_rfl
@[simp] theorem ni_5 : notInt Tryd.prog 5 = false := by kernel_rfl
@[simp] theorem un_24 : Program.underlying Tryd.prog 24 = some (TypeDesc.struct (Array.mk [Field.mk "X" 3 0 false "" "" 0, Field.mk "Y" 3 1 false "" "" 8, Field.mk "Z" 3 2 false "" "" 16])) := by kernel_rfl
@[simp] theorem sz_24 : sizeT Tryd.prog 24 = some 3 := by kernel_rfl
@[simp] theorem by_24 : bytesT Tryd.prog 24 = some 24 := by kernel_rfl
@[simp] theorem zr_24 : zeroT Tryd.prog 24 = some [A.v (Value.int IntKind.i64 0), A.v (Value.int IntKind.i64 0), A.v (Value.int IntKind.i64 0)] := by kernel_rfl
@[simp] theorem ag_24 : isAggT Tryd.prog 24 = true := by kernel_rfl
@[simp] theorem ni_24 : notInt Tryd.prog 24 = false := by kernel_rfl
@[simp] theorem un_25 : Program.underlying Tryd.prog 25 = some (TypeDesc.int IntKind.i64) := by kernel_rfl
@[simp] theorem sz_25 : sizeT Tryd.prog 25 = some 1 := by kernel_rfl
@[simp] theorem by_25 : bytesT Tryd.prog 25 = some 8 := by kernel_rfl
@[simp] theorem zr_25 : zeroT Tryd.prog 25 = some [A.v (Value.int IntKind.i64 0)] := by kernel_rfl
@[simp] theorem ag_25 : isAggT Tryd.prog 25 = false := by kernel_rfl
@[simp] theorem ni_25 : notInt Tryd.prog 25 = false := by kernel_rfl
@[simp] theorem un_35 : Program.underlying Tryd.prog 35 = some (TypeDesc.struct (Array.mk [Field.mk "Lo" 3 0 false "" "" 0, Field.mk "Hi" 3 1 false "" "" 8])) := by kernel_rfl
@[simp] theorem sz_35 : sizeT Tryd.prog 35 = some 2 := by kernel_rfl
@[simp] theorem by_35 : bytesT Tryd.prog 35 = some 16 := by kernel_rfl
@[simp] theorem zr_35 : zeroT Tryd.prog 35 = some [A.v (Value.int IntKind.i64 0), A.v (Value.int IntKind.i64 0)] := by kernel_rfl
@[simp] theorem ag_35 : isAggT Tryd.prog 35 = true := by kernel_rfl
@[simp] theorem ni_35 : notInt Tryd.prog 35 = false := by kernel_rfl
@[simp] theorem un_37 : Program.underlying Tryd.prog 37 = some (TypeDesc.struct (Array.mk [Field.mk "X" 35 0 false "" "" 0, Field.mk "Y" 35 2 false "" "" 16])) := by kernel_rfl
@[simp] theorem sz_37 : sizeT Tryd.prog 37 = some 4 := by kernel_rfl
@[simp] theorem by_37 : bytesT Tryd.prog 37 = some 32 := by kernel_rfl
@[simp] theorem zr_37 : zeroT Tryd.prog 37 = some [A.v (Value.int IntKind.i64 0), A.v (Value.int IntKind.i64 0), A.v (Value.int IntKind.i64 0), A.v (Value.int IntKind.i64 0)] := by kernel_rfl
@[simp] theorem ag_37 : isAggT Tryd.prog 37 = true := by kernel_rfl
@[simp] theorem ni_37 : notInt Tryd.prog 37 = false := by kernel_rfl
@[simp] theorem un_48 : Program.underlying Tryd.prog 48 = some (TypeDesc.slice 24) := by kernel_rfl
@[simp] theorem sz_48 : sizeT Tryd.prog 48 = some 1 := by kernel_rfl
@[simp] theorem by_48 : bytesT Tryd.prog 48 = some 24 := by kernel_rfl
@[simp] theorem zr_48 : zeroT Tryd.prog 48 = some [A.imm [] true] := by kernel_rfl
@[simp] theorem ag_48 : isAggT Tryd.prog 48 = false := by kernel_rfl
@[simp] theorem el_48 : elemT Tryd.prog 48 = some 24 := by kernel_rfl
@[simp] theorem ni_48 : notInt Tryd.prog 48 = true := by kernel_rfl
@[simp] theorem un_49 : Program.underlying Tryd.prog 49 = some (TypeDesc.slice 3) := by kernel_rfl
@[simp] theorem sz_49 : sizeT Tryd.prog 49 = some 1 := by kernel_rfl
@[simp] theorem by_49 : bytesT Tryd.prog 49 = some 24 := by kernel_rfl
@[simp] theorem zr_49 : zeroT Tryd.prog 49 = some [A.imm [] true] := by kernel_rfl
@[simp] theorem ag_49 : isAggT Tryd.prog 49 = false := by kernel_rfl
@[simp] theorem el_49 : elemT Tryd.prog 49 = some 3 := by kernel_rfl
@[simp] theorem ni_49 : notInt Tryd.prog 49 = true := by kernel_rfl
@[simp] theorem un_55 : Program.underlying Tryd.prog 55 = some (TypeDesc.array 2 3) := by kernel_rfl
@[simp] theorem sz_55 : sizeT Tryd.prog 55 = some 2 := by kernel_rfl
@[simp] theorem by_55 : bytesT Tryd.prog 55 = some 16 := by kernel_rfl
@[simp] theorem zr_55 : zeroT Tryd.prog 55 = some [A.v (Value.int IntKind.i64 0), A.v (Value.int IntKind.i64 0)] := by kernel_rfl
@[simp] theorem ag_55 : isAggT Tryd.prog 55 = true := by kernel_rfl
@[simp] theorem ni_55 : notInt Tryd.prog 55 = false := by kernel_rfl
@[simp] theorem un_56 : Program.underlying Tryd.prog 56 = some (TypeDesc.array 8 55) := by kernel_rfl
@[simp] theorem sz_56 : sizeT Tryd.prog 56 = some 16 := by kernel_rfl
@[simp] theorem by_56 : bytesT Tryd.prog 56 = some 128 := by kernel_rfl
@[simp] theorem zr_56 : zeroT Tryd.prog 56 = some [A.v (Value.int IntKind.i64 0), A.v (Value.int IntKind.i64 0), A.v (Value.int IntKind.i64 0), A.v (Value.int IntKind.i64 0), A.v (Value.int IntKind.i64 0), A.v (Value.int IntKind.i64 0), A.v (Value.int IntKind.i64 0), A.v (Value.int IntKind.i64 0), A.v (Value.int IntKind.i64 0), A.v (Value.int IntKind.i64 0), A.v (Value.int IntKind.i64 0), A.v (Value.int IntKind.i64 0), A.v (Value.int IntKind.i64 0), A.v (Value.int IntKind.i64 0), A.v (Value.int IntKind.i64 0), A.v (Value.int IntKind.i64 0)] := by kernel_rfl
@[simp] theorem ag_56 : isAggT Tryd.prog 56 = true := by kernel_rfl
@[simp] theorem ni_56 : notInt Tryd.prog 56 = false := by kernel_rfl
@[simp] theorem un_59 : Program.underlying Tryd.prog 59 = some (TypeDesc.struct (Array.mk [Field.mk "X" 35 0 false "" "" 0, Field.mk "Y" 35 2 false "" "" 16])) := by kernel_rfl
@[simp] theorem sz_59 : sizeT Tryd.prog 59 = some 4 := by kernel_rfl
@[simp] theorem by_59 : bytesT Tryd.prog 59 = some 32 := by kernel_rfl
@[simp] theorem zr_59 : zeroT Tryd.prog 59 = some [A.v (Value.int IntKind.i64 0), A.v (Value.int IntKind.i64 0), A.v (Value.int IntKind.i64 0), A.v (Value.int IntKind.i64 0)] := by kernel_rfl
@[simp] theorem ag_59 : isAggT Tryd.prog 59 = true := by kernel_rfl
@[simp] theorem ni_59 : notInt Tryd.prog 59 = false := by kernel_rfl
theorem e3 (C : Nat → List A → Option A) (call : CallT) (n lo : Nat) (x0 x1 : A) (H : Heap) : evCall1 (cx C) call n 3 [x0, x1] H lo =
 Option.bind (C 10 []) fun t0 =>
 Option.bind (aUn Tryd.prog UnOp.not t0) fun t1 =>
 bIf t1 (some (Out.ret (A.v (Value.bool false)), H)) (Option.bind (C 11 [snap H x0, snap H x1]) fun t2 =>
 Option.bind (aExtract t2 0) fun t3 =>
 Option.bind (aExtract t2 1) fun t4 =>
 Option.bind (aAlloc Tryd.prog 24 H) fun r5 =>
 Option.bind (aStore Tryd.prog 24 r5.1 t3 r5.2 lo) fun H6 =>
 Option.bind (C 12 [snap H6 x0, snap H6 x1]) fun t7 =>
 Option.bind (aExtract t7 0) fun t8 =>
 Option.bind (aExtract t7 1) fun t9 =>
 Option.bind (aAlloc Tryd.prog 24 H6) fun r10 =>
 Option.bind (aStore Tryd.prog 24 r10.1 t8 r10.2 lo) fun H11 =>
 Option.bind (C 13 [snap H11 x0]) fun t12 =>
 Option.bind (aExtract t12 0) fun t13 =>
 Option.bind (aExtract t12 1) fun t14 =>
 Option.bind (aExtract t12 2) fun t15 =>
 Option.bind (C 14 [snap H11 x0]) fun t16 =>
 Option.bind (aExtract t16 0) fun t17 =>
 Option.bind (aExtract t16 1) fun t18 =>
 Option.bind (aExtract t16 2) fun t19 =>
 Option.bind (C 15 [snap H11 x0, snap H11 x1]) fun t20 =>
 Option.bind (aExtract t20 0) fun t21 =>
 Option.bind (aExtract t20 1) fun t22 =>
 Option.bind (C 16 [snap H11 x0, snap H11 x1]) fun t23 =>
 Option.bind (aExtract t23 0) fun t24 =>
 Option.bind (aExtract t23 1) fun t25 =>
 Option.bind (C 17 [snap H11 x0]) fun t26 =>
 Option.bind (aExtract t26 0) fun t27 =>
 Option.bind (aExtract t26 1) fun t28 =>
 Option.bind (C 18 [snap H11 x0]) fun t29 =>
 Option.bind (aExtract t29 0) fun t30 =>
 Option.bind (aExtract t29 1) fun t31 =>
 Option.bind (aLoad Tryd.prog 24 r5.1 H11) fun t32 =>
 Option.bind (aLoad Tryd.prog 24 r10.1 H11) fun t33 =>
 Option.bind (aBin Tryd.prog BinOp.eql 24 false false t32 t33) fun t34 =>
 Option.bind (bIf t34 (Option.bind (aBin Tryd.prog BinOp.eql 25 false false t4 t9) fun t35 => some [t35, t35, t9, t4]) (some [A.v (Value.bool false), A.v undef, A.v undef, A.v undef])) fun l35 => unc l35 fun u36 l36 => unc l36 fun u37 l37 => unc l37 fun u38 l38 => unc l38 fun u39 l39 =>
 Option.bind (bIf u36 (Option.bind (aBin Tryd.prog BinOp.eql 3 false false t13 t17) fun t40 => some [t40, t40, t17, t13]) (some [A.v (Value.bool false), A.v undef, A.v undef, A.v undef])) fun l40 => unc l40 fun u41 l41 => unc l41 fun u42 l42 => unc l42 fun u43 l43 => unc l43 fun u44 l44 =>
 Option.bind (bIf u41 (Option.bind (aBin Tryd.prog BinOp.eql 3 false false t14 t18) fun t45 => some [t45, t45, t18, t14]) (some [A.v (Value.bool false), A.v undef, A.v undef, A.v undef])) fun l45 => unc l45 fun u46 l46 => unc l46 fun u47 l47 => unc l47 fun u48 l48 => unc l48 fun u49 l49 =>
 Option.bind (bIf u46 (Option.bind (aBin Tryd.prog BinOp.eql 25 false false t15 t19) fun t50 => some [t50, t50, t19, t15]) (some [A.v (Value.bool false), A.v undef, A.v undef, A.v undef])) fun l50 => unc l50 fun u51 l51 => unc l51 fun u52 l52 => unc l52 fun u53 l53 => unc l53 fun u54 l54 =>
 Option.bind (bIf u51 (Option.bind (aBin Tryd.prog BinOp.eql 3 false false t21 t24) fun t55 => some [t55, t55, t24, t21]) (some [A.v (Value.bool false), A.v undef, A.v undef, A.v undef])) fun l55 => unc l55 fun u56 l56 => unc l56 fun u57 l57 => unc l57 fun u58 l58 => unc l58 fun u59 l59 =>
 Option.bind (bIf u56 (Option.bind (aBin Tryd.prog BinOp.eql 25 false false t22 t25) fun t60 => some [t60, t60, t25, t22]) (some [A.v (Value.bool false), A.v undef, A.v undef, A.v undef])) fun l60 => unc l60 fun u61 l61 => unc l61 fun u62 l62 => unc l62 fun u63 l63 => unc l63 fun u64 l64 =>
 Option.bind (bIf u61 (Option.bind (aBin Tryd.prog BinOp.eql 3 false false t27 t30) fun t65 => some [t65, t65, t30, t27]) (some [A.v (Value.bool false), A.v undef, A.v undef, A.v undef])) fun l65 => unc l65 fun u66 l66 => unc l66 fun u67 l67 => unc l67 fun u68 l68 => unc l68 fun u69 l69 =>
 Option.bind (bIf u66 (Option.bind (aBin Tryd.prog BinOp.eql 25 false false t28 t31) fun t70 => some [t70, t70, t31, t28]) (some [A.v (Value.bool false), A.v undef, A.v undef, A.v undef])) fun l70 => unc l70 fun u71 l71 => unc l71 fun u72 l72 => unc l72 fun u73 l73 => unc l73 fun u74 l74 => some (Out.ret u71, H11)) := by kernel_rfl
theorem e4 (C : Nat → List A → Option A) (call : CallT) (n lo : Nat) (x0 x1 x2 x3 x4 x5 : A) (H : Heap) : evCall1 (cx C) call n 4 [x0, x1, x2, x3, x4, x5] H lo =
 Option.bind (aBox x0 H) fun r0 =>
 Option.bind (aBox x1 r0.2) fun r1 =>
 Option.bind (aBox x2 r1.2) fun r2 =>
 Option.bind (aBox x3 r2.2) fun r3 =>
 Option.bind (C 10 []) fun t4 =>
 Option.bind (aUn Tryd.prog UnOp.not t4) fun t5 =>
 bIf t5 (some (Out.ret (A.v (Value.bool false)), r3.2)) (Option.bind (aLoad Tryd.prog 24 r0.1 r3.2) fun t6 =>
 Option.bind (aLoad Tryd.prog 24 r1.1 r3.2) fun t7 =>
 Option.bind (C 19 [snap r3.2 t6, snap r3.2 t7]) fun t8 =>
 Option.bind (aExtract t8 0) fun t9 =>
 Option.bind (aExtract t8 1) fun t10 =>
 Option.bind (aLoad Tryd.prog 24 r0.1 r3.2) fun t11 =>
 Option.bind (aLoad Tryd.prog 24 r1.1 r3.2) fun t12 =>
 Option.bind (C 20 [snap r3.2 t11, snap r3.2 t12]) fun t13 =>
 Option.bind (aExtract t13 0) fun t14 =>
 Option.bind (aExtract t13 1) fun t15 =>
 Option.bind (aLoad Tryd.prog 37 r2.1 r3.2) fun t16 =>
 Option.bind (aLoad Tryd.prog 37 r3.1 r3.2) fun t17 =>
 Option.bind (C 21 [snap r3.2 t16, snap r3.2 t17]) fun t18 =>
 Option.bind (aExtract t18 0) fun t19 =>
 Option.bind (aExtract t18 1) fun t20 =>
 Option.bind (aAlloc Tryd.prog 37 r3.2) fun r21 =>
 Option.bind (aStore Tryd.prog 37 r21.1 t19 r21.2 lo) fun H22 =>
 Option.bind (aLoad Tryd.prog 37 r2.1 H22) fun t23 =>
 Option.bind (aLoad Tryd.prog 37 r3.1 H22) fun t24 =>
 Option.bind (C 22 [snap H22 t23, snap H22 t24]) fun t25 =>
 Option.bind (aExtract t25 0) fun t26 =>
 Option.bind (aExtract t25 1) fun t27 =>
 Option.bind (aAlloc Tryd.prog 37 H22) fun r28 =>
 Option.bind (aStore Tryd.prog 37 r28.1 t26 r28.2 lo) fun H29 =>
 Option.bind (aBin Tryd.prog BinOp.neq 3 false false t9 t14) fun t30 =>
 Option.bind (bIf t30 (some [A.v (Value.bool true), A.v undef, A.v undef, A.v undef]) (Option.bind (aBin Tryd.prog BinOp.neq 25 false false t10 t15) fun t31 => some [t31, t31, t15, t10])) fun l31 => unc l31 fun u32 l32 => unc l32 fun u33 l33 => unc l33 fun u34 l34 => unc l34 fun u35 l35 =>
 Option.bind (bIf u32 (some [A.v (Value.bool true), A.v undef, A.v undef, A.v undef]) (Option.bind (aLoad Tryd.prog 37 r21.1 H29) fun t36 =>
 Option.bind (aLoad Tryd.prog 37 r28.1 H29) fun t37 =>
 Option.bind (aBin Tryd.prog BinOp.neq 37 false false t36 t37) fun t38 => some [t38, t38, t37, t36])) fun l36 => unc l36 fun u37 l37 => unc l37 fun u38 l38 => unc l38 fun u39 l39 => unc l39 fun u40 l40 =>
 Option.bind (bIf u37 (some [A.v (Value.bool true), A.v undef, A.v undef, A.v undef]) (Option.bind (aBin Tryd.prog BinOp.neq 25 false false t20 t27) fun t41 => some [t41, t41, t27, t20])) fun l41 => unc l41 fun u42 l42 => unc l42 fun u43 l43 => unc l43 fun u44 l44 => unc l44 fun u45 l45 =>
 bIf u42 (some (Out.ret (A.v (Value.bool false)), H29)) (Option.bind (aLoad Tryd.prog 37 r2.1 H29) fun t46 =>
 Option.bind (aLoad Tryd.prog 37 r3.1 H29) fun t47 =>
 Option.bind (C 23 [snap H29 t46, snap H29 t47]) fun t48 =>
 Option.bind (aExtract t48 0) fun t49 =>
 Option.bind (aExtract t48 1) fun t50 =>
 Option.bind (aLoad Tryd.prog 37 r2.1 H29) fun t51 =>
 Option.bind (aLoad Tryd.prog 37 r3.1 H29) fun t52 =>
 Option.bind (C 24 [snap H29 t51, snap H29 t52]) fun t53 =>
 Option.bind (aExtract t53 0) fun t54 =>
 Option.bind (aExtract t53 1) fun t55 =>
 Option.bind (aLoad Tryd.prog 37 r2.1 H29) fun t56 =>
 Option.bind (aLoad Tryd.prog 37 r3.1 H29) fun t57 =>
 Option.bind (C 25 [snap H29 t56, snap H29 t57]) fun t58 =>
 Option.bind (aExtract t58 0) fun t59 =>
 Option.bind (aExtract t58 1) fun t60 =>
 Option.bind (aLoad Tryd.prog 37 r2.1 H29) fun t61 =>
 Option.bind (aLoad Tryd.prog 37 r3.1 H29) fun t62 =>
 Option.bind (C 26 [snap H29 t61, snap H29 t62]) fun t63 =>
 Option.bind (aExtract t63 0) fun t64 =>
 Option.bind (aExtract t63 1) fun t65 =>
 Option.bind (aLoad Tryd.prog 37 r2.1 H29) fun t66 =>
 Option.bind (C 27 [snap H29 t66, snap H29 x4, snap H29 x5]) fun t67 =>
 Option.bind (aExtract t67 0) fun t68 =>
 Option.bind (aExtract t67 1) fun t69 =>
 Option.bind (aAlloc Tryd.prog 37 H29) fun r70 =>
 Option.bind (aStore Tryd.prog 37 r70.1 t68 r70.2 lo) fun H71 =>
 Option.bind (aLoad Tryd.prog 37 r2.1 H71) fun t72 =>
 Option.bind (C 28 [snap H71 t72, snap H71 x4, snap H71 x5]) fun t73 =>
 Option.bind (aExtract t73 0) fun t74 =>
 Option.bind (aExtract t73 1) fun t75 =>
 Option.bind (aAlloc Tryd.prog 37 H71) fun r76 =>
 Option.bind (aStore Tryd.prog 37 r76.1 t74 r76.2 lo) fun H77 =>
 Option.bind (aBin Tryd.prog BinOp.eql 4 false false t49 t54) fun t78 =>
 Option.bind (bIf t78 (Option.bind (aBin Tryd.prog BinOp.eql 25 false false t50 t55) fun t79 => some [t79, t79, t55, t50]) (some [A.v (Value.bool false), A.v undef, A.v undef, A.v undef])) fun l79 => unc l79 fun u80 l80 => unc l80 fun u81 l81 => unc l81 fun u82 l82 => unc l82 fun u83 l83 =>
 Option.bind (bIf u80 (Option.bind (aBin Tryd.prog BinOp.eql 4 false false t59 t64) fun t84 => some [t84, t84, t64, t59]) (some [A.v (Value.bool false), A.v undef, A.v undef, A.v undef])) fun l84 => unc l84 fun u85 l85 => unc l85 fun u86 l86 => unc l86 fun u87 l87 => unc l87 fun u88 l88 =>
 Option.bind (bIf u85 (Option.bind (aBin Tryd.prog BinOp.eql 25 false false t60 t65) fun t89 => some [t89, t89, t65, t60]) (some [A.v (Value.bool false), A.v undef, A.v undef, A.v undef])) fun l89 => unc l89 fun u90 l90 => unc l90 fun u91 l91 => unc l91 fun u92 l92 => unc l92 fun u93 l93 =>
 Option.bind (bIf u90 (Option.bind (aLoad Tryd.prog 37 r70.1 H77) fun t94 =>
 Option.bind (aLoad Tryd.prog 37 r76.1 H77) fun t95 =>
 Option.bind (aBin Tryd.prog BinOp.eql 37 false false t94 t95) fun t96 => some [t96, t96, t95, t94]) (some [A.v (Value.bool false), A.v undef, A.v undef, A.v undef])) fun l94 => unc l94 fun u95 l95 => unc l95 fun u96 l96 => unc l96 fun u97 l97 => unc l97 fun u98 l98 =>
 Option.bind (bIf u95 (Option.bind (aBin Tryd.prog BinOp.eql 25 false false t69 t75) fun t99 => some [t99, t99, t75, t69]) (some [A.v (Value.bool false), A.v undef, A.v undef, A.v undef])) fun l99 => unc l99 fun u100 l100 => unc l100 fun u101 l101 => unc l101 fun u102 l102 => unc l102 fun u103 l103 => some (Out.ret u100, H77))) := by kernel_rfl
theorem e5 (C : Nat → List A → Option A) (call : CallT) (n lo : Nat) (x0 x1 x2 x3 : A) (H : Heap) : evCall1 (cx C) call n 5 [x0, x1, x2, x3] H lo =
 Option.bind (C 10 []) fun t0 =>
 Option.bind (aUn Tryd.prog UnOp.not t0) fun t1 =>
 bIf t1 (some (Out.ret (A.v (Value.bool false)), H)) (Option.bind (aConvert Tryd.prog 5 3 x0 H) fun t2 =>
 Option.bind (aBin Tryd.prog BinOp.rem 3 false true t2 (A.v (Value.int IntKind.i64 9))) fun t3 =>
 Option.bind (aConvert Tryd.prog 5 3 x1 H) fun t4 =>
 Option.bind (aBin Tryd.prog BinOp.rem 3 false true t4 (A.v (Value.int IntKind.i64 3))) fun t5 =>
 Option.bind (aBin Tryd.prog BinOp.add 3 true false (A.v (Value.int IntKind.i64 1)) t5) fun t6 =>
 Option.bind (aConvert Tryd.prog 5 3 x2 H) fun t7 =>
 Option.bind (aBin Tryd.prog BinOp.rem 3 false true t7 (A.v (Value.int IntKind.i64 9))) fun t8 =>
 Option.bind (aConvert Tryd.prog 5 3 x3 H) fun t9 =>
 Option.bind (aBin Tryd.prog BinOp.rem 3 false true t9 (A.v (Value.int IntKind.i64 3))) fun t10 =>
 Option.bind (aBin Tryd.prog BinOp.add 3 true false (A.v (Value.int IntKind.i64 1)) t10) fun t11 =>
 Option.bind (C 29 [snap H t3, snap H t6]) fun t12 =>
 Option.bind (aExtract t12 0) fun t13 =>
 Option.bind (aExtract t12 1) fun t14 =>
 Option.bind (aAlloc Tryd.prog 24 H) fun r15 =>
 Option.bind (aStore Tryd.prog 24 r15.1 t13 r15.2 lo) fun H16 =>
 Option.bind (C 29 [snap H16 t8, snap H16 t11]) fun t17 =>
 Option.bind (aExtract t17 0) fun t18 =>
 Option.bind (aExtract t17 1) fun t19 =>
 Option.bind (aAlloc Tryd.prog 24 H16) fun r20 =>
 Option.bind (aStore Tryd.prog 24 r20.1 t18 r20.2 lo) fun H21 =>
 Option.bind (aLoad Tryd.prog 24 r15.1 H21) fun t22 =>
 Option.bind (aLoad Tryd.prog 24 r15.1 H21) fun t23 =>
 Option.bind (C 19 [snap H21 t22, snap H21 t23]) fun t24 =>
 Option.bind (aExtract t24 0) fun t25 =>
 Option.bind (aExtract t24 1) fun t26 =>
 Option.bind (aUn Tryd.prog UnOp.not t14) fun t27 =>
 Option.bind (bIf t27 (some [A.v (Value.bool true), A.v undef, A.v undef]) (Option.bind (aUn Tryd.prog UnOp.not t19) fun t28 => some [t28, t28, t19])) fun l28 => unc l28 fun u29 l29 => unc l29 fun u30 l30 => unc l30 fun u31 l31 =>
 Option.bind (bIf u29 (some [A.v (Value.bool true), A.v undef, A.v undef]) (Option.bind (aBin Tryd.prog BinOp.neq 25 false true t26 (A.v (Value.int IntKind.i64 0))) fun t32 => some [t32, t32, t26])) fun l32 => unc l32 fun u33 l33 => unc l33 fun u34 l34 => unc l34 fun u35 l35 =>
 bIf u33 (some (Out.ret (A.v (Value.bool false)), H21)) (Option.bind (aBin Tryd.prog BinOp.eql 3 false true t3 (A.v (Value.int IntKind.i64 0))) fun t36 =>
 Option.bind (bIf t36 (Option.bind (aBin Tryd.prog BinOp.eql 3 false true t6 (A.v (Value.int IntKind.i64 2))) fun t37 => some [t37, t37, t6]) (some [A.v (Value.bool false), A.v undef, A.v undef])) fun l37 => unc l37 fun u38 l38 => unc l38 fun u39 l39 => unc l39 fun u40 l40 =>
 Option.bind (bIf u38 (Option.bind (aBin Tryd.prog BinOp.neq 3 false true t25 (A.v (Value.int IntKind.i64 0))) fun t41 => some [t41, t41, t25]) (some [A.v (Value.bool false), A.v undef, A.v undef])) fun l41 => unc l41 fun u42 l42 => unc l42 fun u43 l43 => unc l43 fun u44 l44 =>
 Option.bind (bIf u42 (some [A.v (Value.bool true), A.v undef, A.v undef, A.v undef, A.v undef, A.v undef, A.v undef]) (Option.bind (aUn Tryd.prog UnOp.not u38) fun t45 =>
 Option.bind (bIf t45 (Option.bind (aBin Tryd.prog BinOp.neq 3 false true t25 (A.v (Value.int IntKind.i64 707281))) fun t46 => some [t46, t46, t25]) (some [A.v (Value.bool false), A.v undef, A.v undef])) fun l46 => unc l46 fun u47 l47 => unc l47 fun u48 l48 => unc l48 fun u49 l49 => some [u47, u47, u48, u49, t45, t45, u38])) fun l45 => unc l45 fun u46 l46 => unc l46 fun u47 l47 => unc l47 fun u48 l48 => unc l48 fun u49 l49 => unc l49 fun u50 l50 => unc l50 fun u51 l51 => unc l51 fun u52 l52 =>
 bIf u46 (some (Out.ret (A.v (Value.bool false)), H21)) (Option.bind (aLoad Tryd.prog 24 r15.1 H21) fun t53 =>
 Option.bind (aLoad Tryd.prog 24 r20.1 H21) fun t54 =>
 Option.bind (aBin Tryd.prog BinOp.eql 24 false false t53 t54) fun t55 =>
 Option.bind (aBin Tryd.prog BinOp.eql 3 false false t3 t8) fun t56 =>
 Option.bind (bIf t56 (Option.bind (aBin Tryd.prog BinOp.eql 3 false false t6 t11) fun t57 => some [t57, t57, t11, t6]) (some [A.v (Value.bool false), A.v undef, A.v undef, A.v undef])) fun l57 => unc l57 fun u58 l58 => unc l58 fun u59 l59 => unc l59 fun u60 l60 => unc l60 fun u61 l61 =>
 Option.bind (aBin Tryd.prog BinOp.neq 4 false false t55 u58) fun t62 =>
 bIf t62 (some (Out.ret (A.v (Value.bool false)), H21)) (Option.bind (C 15 [snap H21 t3, snap H21 (A.v (Value.int IntKind.i64 4))]) fun t63 =>
 Option.bind (aExtract t63 0) fun t64 =>
 Option.bind (aExtract t63 1) fun t65 =>
 Option.bind (aBin Tryd.prog BinOp.sub 3 true false (A.v (Value.int IntKind.i64 4)) t6) fun t66 =>
 Option.bind (C 29 [snap H21 t64, snap H21 t66]) fun t67 =>
 Option.bind (aExtract t67 0) fun t68 =>
 Option.bind (aExtract t67 1) fun t69 =>
 Option.bind (aAlloc Tryd.prog 24 H21) fun r70 =>
 Option.bind (aStore Tryd.prog 24 r70.1 t68 r70.2 lo) fun H71 =>
 Option.bind (aBin Tryd.prog BinOp.eql 25 false true t65 (A.v (Value.int IntKind.i64 0))) fun t72 =>
 Option.bind (bIf t72 (some [t69, t69]) (some [A.v (Value.bool false), A.v undef])) fun l73 => unc l73 fun u74 l74 => unc l74 fun u75 l75 =>
 Option.bind (bIf u74 (Option.bind (aLoad Tryd.prog 24 r70.1 H71) fun t76 =>
 Option.bind (aFieldAddr Tryd.prog 24 r15.1 0 H71) fun t77 =>
 Option.bind (aLoad Tryd.prog 3 t77 H71) fun t78 =>
 Option.bind (aUn Tryd.prog UnOp.neg t78) fun t79 =>
 Option.bind (aFieldAddr Tryd.prog 24 r15.1 1 H71) fun t80 =>
 Option.bind (aLoad Tryd.prog 3 t80 H71) fun t81 =>
 Option.bind (aUn Tryd.prog UnOp.neg t81) fun t82 =>
 Option.bind (aFieldAddr Tryd.prog 24 r15.1 2 H71) fun t83 =>
 Option.bind (aLoad Tryd.prog 3 t83 H71) fun t84 =>
 Option.bind (aUn Tryd.prog UnOp.neg t84) fun t85 =>
 Option.bind (aBuild Tryd.prog 24 [(0, t79), (1, t82), (2, t85)]) fun t86 =>
 Option.bind (aBin Tryd.prog BinOp.eql 24 false false t76 t86) fun t87 => some [t87, t87, t86, t85, t84, t83, t82, t81, t80, t79, t78, t77, t76]) (some [A.v (Value.bool false), A.v undef, A.v undef, A.v undef, A.v undef, A.v undef, A.v undef, A.v undef, A.v undef, A.v undef, A.v undef, A.v undef, A.v undef])) fun l76 => unc l76 fun u77 l77 => unc l77 fun u78 l78 => unc l78 fun u79 l79 => unc l79 fun u80 l80 => unc l80 fun u81 l81 => unc l81 fun u82 l82 => unc l82 fun u83 l83 => unc l83 fun u84 l84 => unc l84 fun u85 l85 => unc l85 fun u86 l86 => unc l86 fun u87 l87 => unc l87 fun u88 l88 => unc l88 fun u89 l89 => some (Out.ret u77, H71))))) := by kernel_rfl
theorem e6 (C : Nat → List A → Option A) (call : CallT) (n lo : Nat) (x0 x1 x2 x3 : A) (H : Heap) : evCall1 (cx C) call n 6 [x0, x1, x2, x3] H lo =
 Option.bind (C 10 []) fun t0 =>
 Option.bind (aUn Tryd.prog UnOp.not t0) fun t1 =>
 bIf t1 (some (Out.ret (A.v (Value.bool false)), H)) (Option.bind (aConvert Tryd.prog 5 3 x0 H) fun t2 =>
 Option.bind (aBin Tryd.prog BinOp.rem 3 false true t2 (A.v (Value.int IntKind.i64 9))) fun t3 =>
 Option.bind (aConvert Tryd.prog 5 3 x1 H) fun t4 =>
 Option.bind (aBin Tryd.prog BinOp.rem 3 false true t4 (A.v (Value.int IntKind.i64 3))) fun t5 =>
 Option.bind (aBin Tryd.prog BinOp.add 3 true false (A.v (Value.int IntKind.i64 1)) t5) fun t6 =>
 Option.bind (aConvert Tryd.prog 5 3 x2 H) fun t7 =>
 Option.bind (aBin Tryd.prog BinOp.rem 3 false true t7 (A.v (Value.int IntKind.i64 8))) fun t8 =>
 Option.bind (aConvert Tryd.prog 5 3 x3 H) fun t9 =>
 Option.bind (aBin Tryd.prog BinOp.rem 3 false true t9 (A.v (Value.int IntKind.i64 8))) fun t10 =>
 Option.bind (C 15 [snap H t3, snap H t8]) fun t11 =>
 Option.bind (aExtract t11 0) fun t12 =>
 Option.bind (aExtract t11 1) fun t13 =>
 Option.bind (C 15 [snap H t12, snap H t10]) fun t14 =>
 Option.bind (aExtract t14 0) fun t15 =>
 Option.bind (aExtract t14 1) fun t16 =>
 Option.bind (aBin Tryd.prog BinOp.add 3 false false t8 t10) fun t17 =>
 Option.bind (aBin Tryd.prog BinOp.rem 3 false true t17 (A.v (Value.int IntKind.i64 8))) fun t18 =>
 Option.bind (C 15 [snap H t3, snap H t18]) fun t19 =>
 Option.bind (aExtract t19 0) fun t20 =>
 Option.bind (aExtract t19 1) fun t21 =>
 Option.bind (C 17 [snap H t3]) fun t22 =>
 Option.bind (aExtract t22 0) fun t23 =>
 Option.bind (aExtract t22 1) fun t24 =>
 Option.bind (C 17 [snap H t23]) fun t25 =>
 Option.bind (aExtract t25 0) fun t26 =>
 Option.bind (aExtract t25 1) fun t27 =>
 Option.bind (aBin Tryd.prog BinOp.neq 25 false true t13 (A.v (Value.int IntKind.i64 0))) fun t28 =>
 Option.bind (bIf t28 (some [A.v (Value.bool true), A.v undef, A.v undef]) (Option.bind (aBin Tryd.prog BinOp.neq 25 false true t16 (A.v (Value.int IntKind.i64 0))) fun t29 => some [t29, t29, t16])) fun l29 => unc l29 fun u30 l30 => unc l30 fun u31 l31 => unc l31 fun u32 l32 =>
 Option.bind (bIf u30 (some [A.v (Value.bool true), A.v undef, A.v undef]) (Option.bind (aBin Tryd.prog BinOp.neq 25 false true t21 (A.v (Value.int IntKind.i64 0))) fun t33 => some [t33, t33, t21])) fun l33 => unc l33 fun u34 l34 => unc l34 fun u35 l35 => unc l35 fun u36 l36 =>
 Option.bind (bIf u34 (some [A.v (Value.bool true), A.v undef, A.v undef]) (Option.bind (aBin Tryd.prog BinOp.neq 25 false true t24 (A.v (Value.int IntKind.i64 0))) fun t37 => some [t37, t37, t24])) fun l37 => unc l37 fun u38 l38 => unc l38 fun u39 l39 => unc l39 fun u40 l40 =>
 Option.bind (bIf u38 (some [A.v (Value.bool true), A.v undef, A.v undef]) (Option.bind (aBin Tryd.prog BinOp.neq 25 false true t27 (A.v (Value.int IntKind.i64 0))) fun t41 => some [t41, t41, t27])) fun l41 => unc l41 fun u42 l42 => unc l42 fun u43 l43 => unc l43 fun u44 l44 =>
 Option.bind (bIf u42 (some [A.v (Value.bool true), A.v undef, A.v undef, A.v undef]) (Option.bind (aBin Tryd.prog BinOp.neq 3 false false t15 t20) fun t45 => some [t45, t45, t20, t15])) fun l45 => unc l45 fun u46 l46 => unc l46 fun u47 l47 => unc l47 fun u48 l48 => unc l48 fun u49 l49 =>
 Option.bind (bIf u46 (some [A.v (Value.bool true), A.v undef, A.v undef, A.v undef]) (Option.bind (aBin Tryd.prog BinOp.neq 3 false false t26 t3) fun t50 => some [t50, t50, t3, t26])) fun l50 => unc l50 fun u51 l51 => unc l51 fun u52 l52 => unc l52 fun u53 l53 => unc l53 fun u54 l54 =>
 bIf u51 (some (Out.ret (A.v (Value.bool false)), H)) (Option.bind (C 17 [snap H t12]) fun t55 =>
 Option.bind (aExtract t55 0) fun t56 =>
 Option.bind (aExtract t55 1) fun t57 =>
 Option.bind (aBin Tryd.prog BinOp.sub 3 true false (A.v (Value.int IntKind.i64 8)) t8) fun t58 =>
 Option.bind (aBin Tryd.prog BinOp.rem 3 false true t58 (A.v (Value.int IntKind.i64 8))) fun t59 =>
 Option.bind (C 15 [snap H t23, snap H t59]) fun t60 =>
 Option.bind (aExtract t60 0) fun t61 =>
 Option.bind (aExtract t60 1) fun t62 =>
 Option.bind (C 29 [snap H t3, snap H t6]) fun t63 =>
 Option.bind (aExtract t63 0) fun t64 =>
 Option.bind (aExtract t63 1) fun t65 =>
 Option.bind (aAlloc Tryd.prog 24 H) fun r66 =>
 Option.bind (aStore Tryd.prog 24 r66.1 t64 r66.2 lo) fun H67 =>
 Option.bind (C 29 [snap H67 t23, snap H67 t6]) fun t68 =>
 Option.bind (aExtract t68 0) fun t69 =>
 Option.bind (aExtract t68 1) fun t70 =>
 Option.bind (aAlloc Tryd.prog 24 H67) fun r71 =>
 Option.bind (aStore Tryd.prog 24 r71.1 t69 r71.2 lo) fun H72 =>
 Option.bind (aBin Tryd.prog BinOp.eql 25 false true t57 (A.v (Value.int IntKind.i64 0))) fun t73 =>
 Option.bind (bIf t73 (Option.bind (aBin Tryd.prog BinOp.eql 25 false true t62 (A.v (Value.int IntKind.i64 0))) fun t74 => some [t74, t74, t62]) (some [A.v (Value.bool false), A.v undef, A.v undef])) fun l74 => unc l74 fun u75 l75 => unc l75 fun u76 l76 => unc l76 fun u77 l77 =>
 Option.bind (bIf u75 (Option.bind (aBin Tryd.prog BinOp.eql 3 false false t56 t61) fun t78 => some [t78, t78, t61, t56]) (some [A.v (Value.bool false), A.v undef, A.v undef, A.v undef])) fun l78 => unc l78 fun u79 l79 => unc l79 fun u80 l80 => unc l80 fun u81 l81 => unc l81 fun u82 l82 =>
 Option.bind (bIf u79 (some [t65, t65]) (some [A.v (Value.bool false), A.v undef])) fun l83 => unc l83 fun u84 l84 => unc l84 fun u85 l85 =>
 Option.bind (bIf u84 (some [t70, t70]) (some [A.v (Value.bool false), A.v undef])) fun l86 => unc l86 fun u87 l87 => unc l87 fun u88 l88 =>
 Option.bind (bIf u87 (Option.bind (aLoad Tryd.prog 24 r71.1 H72) fun t89 =>
 Option.bind (aFieldAddr Tryd.prog 24 r66.1 0 H72) fun t90 =>
 Option.bind (aLoad Tryd.prog 3 t90 H72) fun t91 =>
 Option.bind (aUn Tryd.prog UnOp.neg t91) fun t92 =>
 Option.bind (aFieldAddr Tryd.prog 24 r66.1 1 H72) fun t93 =>
 Option.bind (aLoad Tryd.prog 3 t93 H72) fun t94 =>
 Option.bind (aFieldAddr Tryd.prog 24 r66.1 2 H72) fun t95 =>
 Option.bind (aLoad Tryd.prog 3 t95 H72) fun t96 =>
 Option.bind (aBuild Tryd.prog 24 [(0, t92), (1, t94), (2, t96)]) fun t97 =>
 Option.bind (aBin Tryd.prog BinOp.eql 24 false false t89 t97) fun t98 => some [t98, t98, t97, t96, t95, t94, t93, t92, t91, t90, t89]) (some [A.v (Value.bool false), A.v undef, A.v undef, A.v undef, A.v undef, A.v undef, A.v undef, A.v undef, A.v undef, A.v undef, A.v undef])) fun l89 => unc l89 fun u90 l90 => unc l90 fun u91 l91 => unc l91 fun u92 l92 => unc l92 fun u93 l93 => unc l93 fun u94 l94 => unc l94 fun u95 l95 => unc l95 fun u96 l96 => unc l96 fun u97 l97 => unc l97 fun u98 l98 => unc l98 fun u99 l99 => unc l99 fun u100 l100 => some (Out.ret u90, H72))) := by kernel_rfl
theorem e7 (C : Nat → List A → Option A) (call : CallT) (n lo : Nat) (x0 x1 x2 x3 x4 x5 x6 : A) (H : Heap) : evCall1 (cx C) call n 7 [x0, x1, x2, x3, x4, x5, x6] H lo =
 Option.bind (aBox x0 H) fun r0 =>
 Option.bind (aBox x1 r0.2) fun r1 =>
 Option.bind (aBox x2 r1.2) fun r2 =>
 Option.bind (C 10 []) fun t3 =>
 Option.bind (aUn Tryd.prog UnOp.not t3) fun t4 =>
 bIf t4 (some (Out.ret (A.v (Value.bool false)), r2.2)) (Option.bind (aLoad Tryd.prog 24 r0.1 r2.2) fun t5 =>
 Option.bind (aLoad Tryd.prog 24 r1.1 r2.2) fun t6 =>
 Option.bind (aLoad Tryd.prog 24 r2.1 r2.2) fun t7 =>
 Option.bind (aBuildSlice Tryd.prog 48 3 [(0, frzA r2.2 t5), (1, frzA r2.2 t6), (2, frzA r2.2 t7)]) fun t8 =>
 Option.bind (aLen Tryd.prog 48 t8 r2.2) fun t9 => loopR (cx C) call n 7 lo 0 (List.length r2.2) (fun i10 s10 => bif Nat.beq i10 0 then
 Option.bind (aLoad Tryd.prog 24 (look (St.fr s10) 7) (St.H s10)) fun t11 =>
 Option.bind (aLoad Tryd.prog 24 (look (St.fr s10) 8) (St.H s10)) fun t12 =>
 Option.bind (C 19 [snap (St.H s10) t11, snap (St.H s10) t12]) fun t13 =>
 Option.bind (aExtract t13 0) fun t14 =>
 Option.bind (aExtract t13 1) fun t15 =>
 Option.bind (aLoad Tryd.prog 24 (look (St.fr s10) 8) (St.H s10)) fun t16 =>
 Option.bind (aLoad Tryd.prog 24 (look (St.fr s10) 7) (St.H s10)) fun t17 =>
 Option.bind (C 19 [snap (St.H s10) t16, snap (St.H s10) t17]) fun t18 =>
 Option.bind (aExtract t18 0) fun t19 =>
 Option.bind (aExtract t18 1) fun t20 =>
 Option.bind (aLoad Tryd.prog 24 (look (St.fr s10) 9) (St.H s10)) fun t21 =>
 Option.bind (aLoad Tryd.prog 24 (look (St.fr s10) 8) (St.H s10)) fun t22 =>
 Option.bind (C 19 [snap (St.H s10) t21, snap (St.H s10) t22]) fun t23 =>
 Option.bind (aExtract t23 0) fun t24 =>
 Option.bind (aExtract t23 1) fun t25 =>
 Option.bind (aFieldAddr Tryd.prog 24 (look (St.fr s10) 7) 0 (St.H s10)) fun t26 =>
 Option.bind (aLoad Tryd.prog 3 t26 (St.H s10)) fun t27 =>
 Option.bind (aFieldAddr Tryd.prog 24 (look (St.fr s10) 9) 0 (St.H s10)) fun t28 =>
 Option.bind (aLoad Tryd.prog 3 t28 (St.H s10)) fun t29 =>
 Option.bind (aBin Tryd.prog BinOp.add 3 false false t27 t29) fun t30 =>
 Option.bind (aFieldAddr Tryd.prog 24 (look (St.fr s10) 7) 1 (St.H s10)) fun t31 =>
 Option.bind (aLoad Tryd.prog 3 t31 (St.H s10)) fun t32 =>
 Option.bind (aFieldAddr Tryd.prog 24 (look (St.fr s10) 9) 1 (St.H s10)) fun t33 =>
 Option.bind (aLoad Tryd.prog 3 t33 (St.H s10)) fun t34 =>
 Option.bind (aBin Tryd.prog BinOp.add 3 false false t32 t34) fun t35 =>
 Option.bind (aFieldAddr Tryd.prog 24 (look (St.fr s10) 7) 2 (St.H s10)) fun t36 =>
 Option.bind (aLoad Tryd.prog 3 t36 (St.H s10)) fun t37 =>
 Option.bind (aFieldAddr Tryd.prog 24 (look (St.fr s10) 9) 2 (St.H s10)) fun t38 =>
 Option.bind (aLoad Tryd.prog 3 t38 (St.H s10)) fun t39 =>
 Option.bind (aBin Tryd.prog BinOp.add 3 false false t37 t39) fun t40 =>
 Option.bind (aBuild Tryd.prog 24 [(0, t30), (1, t35), (2, t40)]) fun t41 =>
 Option.bind (aLoad Tryd.prog 24 (look (St.fr s10) 8) (St.H s10)) fun t42 =>
 Option.bind (C 19 [snap (St.H s10) t41, snap (St.H s10) t42]) fun t43 =>
 Option.bind (aExtract t43 0) fun t44 =>
 Option.bind (aExtract t43 1) fun t45 =>
 Option.bind (aBin Tryd.prog BinOp.neq 25 false true t15 (A.v (Value.int IntKind.i64 0))) fun t46 =>
 Option.bind (bIf t46 (some [A.v (Value.bool true), A.v undef, A.v undef]) (Option.bind (aBin Tryd.prog BinOp.neq 25 false true t20 (A.v (Value.int IntKind.i64 0))) fun t47 => some [t47, t47, t20])) fun l47 => unc l47 fun u48 l48 => unc l48 fun u49 l49 => unc l49 fun u50 l50 =>
 Option.bind (bIf u48 (some [A.v (Value.bool true), A.v undef, A.v undef]) (Option.bind (aBin Tryd.prog BinOp.neq 25 false true t25 (A.v (Value.int IntKind.i64 0))) fun t51 => some [t51, t51, t25])) fun l51 => unc l51 fun u52 l52 => unc l52 fun u53 l53 => unc l53 fun u54 l54 =>
 Option.bind (bIf u52 (some [A.v (Value.bool true), A.v undef, A.v undef]) (Option.bind (aBin Tryd.prog BinOp.neq 25 false true t45 (A.v (Value.int IntKind.i64 0))) fun t55 => some [t55, t55, t45])) fun l55 => unc l55 fun u56 l56 => unc l56 fun u57 l57 => unc l57 fun u58 l58 =>
 Option.bind (bIf u56 (some [A.v (Value.bool true), A.v undef, A.v undef, A.v undef]) (Option.bind (aBin Tryd.prog BinOp.neq 3 false false t14 t19) fun t59 => some [t59, t59, t19, t14])) fun l59 => unc l59 fun u60 l60 => unc l60 fun u61 l61 => unc l61 fun u62 l62 => unc l62 fun u63 l63 =>
 Option.bind (bIf u60 (some [A.v (Value.bool true), A.v undef, A.v undef, A.v undef, A.v undef, A.v undef]) (Option.bind (aBin Tryd.prog BinOp.add 3 false false t14 t24) fun t64 =>
 Option.bind (aBin Tryd.prog BinOp.neq 3 false false t44 t64) fun t65 => some [t65, t65, t64, t24, t14, t44])) fun l64 => unc l64 fun u65 l65 => unc l65 fun u66 l66 => unc l66 fun u67 l67 => unc l67 fun u68 l68 => unc l68 fun u69 l69 => unc l69 fun u70 l70 =>
 bIf u65 (some (Out.ret (A.v (Value.bool false)), St.H s10)) (Option.bind (aConvert Tryd.prog 5 3 (look (St.fr s10) 3) (St.H s10)) fun t71 =>
 Option.bind (aBin Tryd.prog BinOp.rem 3 false true t71 (A.v (Value.int IntKind.i64 9))) fun t72 =>
 Option.bind (aConvert Tryd.prog 5 3 (look (St.fr s10) 4) (St.H s10)) fun t73 =>
 Option.bind (aBin Tryd.prog BinOp.rem 3 false true t73 (A.v (Value.int IntKind.i64 3))) fun t74 =>
 Option.bind (aBin Tryd.prog BinOp.add 3 true false (A.v (Value.int IntKind.i64 1)) t74) fun t75 =>
 Option.bind (C 29 [snap (St.H s10) t72, snap (St.H s10) t75]) fun t76 =>
 Option.bind (aExtract t76 0) fun t77 =>
 Option.bind (aExtract t76 1) fun t78 =>
 Option.bind (aAlloc Tryd.prog 24 (St.H s10)) fun r79 =>
 Option.bind (aStore Tryd.prog 24 r79.1 t77 r79.2 lo) fun H80 =>
 Option.bind (aConvert Tryd.prog 5 3 (look (St.fr s10) 5) H80) fun t81 =>
 Option.bind (aBin Tryd.prog BinOp.rem 3 false true t81 (A.v (Value.int IntKind.i64 9))) fun t82 =>
 Option.bind (aConvert Tryd.prog 5 3 (look (St.fr s10) 6) H80) fun t83 =>
 Option.bind (aBin Tryd.prog BinOp.rem 3 false true t83 (A.v (Value.int IntKind.i64 3))) fun t84 =>
 Option.bind (aBin Tryd.prog BinOp.add 3 true false (A.v (Value.int IntKind.i64 1)) t84) fun t85 =>
 Option.bind (C 29 [snap H80 t82, snap H80 t85]) fun t86 =>
 Option.bind (aExtract t86 0) fun t87 =>
 Option.bind (aExtract t86 1) fun t88 =>
 Option.bind (aAlloc Tryd.prog 24 H80) fun r89 =>
 Option.bind (aStore Tryd.prog 24 r89.1 t87 r89.2 lo) fun H90 =>
 Option.bind (aLoad Tryd.prog 24 r79.1 H90) fun t91 =>
 Option.bind (aLoad Tryd.prog 24 r89.1 H90) fun t92 =>
 Option.bind (C 19 [snap H90 t91, snap H90 t92]) fun t93 =>
 Option.bind (aExtract t93 0) fun t94 =>
 Option.bind (aExtract t93 1) fun t95 =>
 Option.bind (aUn Tryd.prog UnOp.not t78) fun t96 =>
 Option.bind (bIf t96 (some [A.v (Value.bool true), A.v undef, A.v undef]) (Option.bind (aUn Tryd.prog UnOp.not t88) fun t97 => some [t97, t97, t88])) fun l97 => unc l97 fun u98 l98 => unc l98 fun u99 l99 => unc l99 fun u100 l100 =>
 Option.bind (bIf u98 (some [A.v (Value.bool true), A.v undef, A.v undef]) (Option.bind (aBin Tryd.prog BinOp.neq 25 false true t95 (A.v (Value.int IntKind.i64 0))) fun t101 => some [t101, t101, t95])) fun l101 => unc l101 fun u102 l102 => unc l102 fun u103 l103 => unc l103 fun u104 l104 =>
 Option.bind (bIf u102 (some [A.v (Value.bool true), A.v undef, A.v undef]) (Option.bind (aBin Tryd.prog BinOp.gtr 3 false true t94 (A.v (Value.int IntKind.i64 707281))) fun t105 => some [t105, t105, t94])) fun l105 => unc l105 fun u106 l106 => unc l106 fun u107 l107 => unc l107 fun u108 l108 =>
 Option.bind (bIf u106 (some [A.v (Value.bool true), A.v undef, A.v undef]) (Option.bind (aBin Tryd.prog BinOp.lss 3 false true t94 (A.v (Value.int IntKind.i64 (-707281)))) fun t109 => some [t109, t109, t94])) fun l109 => unc l109 fun u110 l110 => unc l110 fun u111 l111 => unc l111 fun u112 l112 =>
 bIf u110 (some (Out.ret (A.v (Value.bool false)), H90)) (Option.bind (aBin Tryd.prog BinOp.eql 3 false true t94 (A.v (Value.int IntKind.i64 707281))) fun t113 =>
 Option.bind (aLoad Tryd.prog 24 r79.1 H90) fun t114 =>
 Option.bind (aLoad Tryd.prog 24 r89.1 H90) fun t115 =>
 Option.bind (aBin Tryd.prog BinOp.eql 24 false false t114 t115) fun t116 =>
 Option.bind (bIf t116 (Option.bind (aLoad Tryd.prog 24 r79.1 H90) fun t117 =>
 Option.bind (aBuild Tryd.prog 24 []) fun t118 =>
 Option.bind (aBin Tryd.prog BinOp.neq 24 false false t117 t118) fun t119 => some [t119, t119, t118, t117]) (some [A.v (Value.bool false), A.v undef, A.v undef, A.v undef])) fun l117 => unc l117 fun u118 l118 => unc l118 fun u119 l119 => unc l119 fun u120 l120 => unc l120 fun u121 l121 =>
 Option.bind (aBin Tryd.prog BinOp.eql 4 false false t113 u118) fun t122 => some (Out.ret t122, H90))) else none) (fun i10 s10 => none) (fun a10 => some (Out.ret (look (St.fr a10) 14), St.H a10)) (fun i10 s10 => some (Out.pan i10, St.H s10)) n (St.mk [(3, x3), (4, x4), (5, x5), (6, x6), (7, r0.1), (8, r1.1), (9, r2.1), (14, A.v (Value.bool false)), (38, t8), (39, t9), (40, A.v (Value.int IntKind.i64 0))] r2.2)) := by kernel_rfl
theorem e8 (C : Nat → List A → Option A) (call : CallT) (n lo : Nat) (x0 x1 x2 : A) (H : Heap) : evCall1 (cx C) call n 8 [x0, x1, x2] H lo =
 Option.bind (aBox x0 H) fun r0 =>
 Option.bind (aBox x1 r0.2) fun r1 =>
 Option.bind (aBox x2 r1.2) fun r2 =>
 Option.bind (C 10 []) fun t3 =>
 Option.bind (aUn Tryd.prog UnOp.not t3) fun t4 =>
 bIf t4 (some (Out.ret (A.v (Value.bool false)), r2.2)) (Option.bind (aLoad Tryd.prog 37 r0.1 r2.2) fun t5 =>
 Option.bind (aLoad Tryd.prog 37 r1.1 r2.2) fun t6 =>
 Option.bind (C 21 [snap r2.2 t5, snap r2.2 t6]) fun t7 =>
 Option.bind (aExtract t7 0) fun t8 =>
 Option.bind (aExtract t7 1) fun t9 =>
 Option.bind (aAlloc Tryd.prog 37 r2.2) fun r10 =>
 Option.bind (aStore Tryd.prog 37 r10.1 t8 r10.2 lo) fun H11 =>
 Option.bind (aLoad Tryd.prog 37 r0.1 H11) fun t12 =>
 Option.bind (aLoad Tryd.prog 37 r1.1 H11) fun t13 =>
 Option.bind (C 23 [snap H11 t12, snap H11 t13]) fun t14 =>
 Option.bind (aExtract t14 0) fun t15 =>
 Option.bind (aExtract t14 1) fun t16 =>
 Option.bind (aLoad Tryd.prog 37 r1.1 H11) fun t17 =>
 Option.bind (aLoad Tryd.prog 37 r0.1 H11) fun t18 =>
 Option.bind (C 23 [snap H11 t17, snap H11 t18]) fun t19 =>
 Option.bind (aExtract t19 0) fun t20 =>
 Option.bind (aExtract t19 1) fun t21 =>
 Option.bind (aBin Tryd.prog BinOp.neq 25 false true t9 (A.v (Value.int IntKind.i64 0))) fun t22 =>
 Option.bind (bIf t22 (some [A.v (Value.bool true), A.v undef, A.v undef]) (Option.bind (aBin Tryd.prog BinOp.neq 25 false true t16 (A.v (Value.int IntKind.i64 0))) fun t23 => some [t23, t23, t16])) fun l23 => unc l23 fun u24 l24 => unc l24 fun u25 l25 => unc l25 fun u26 l26 =>
 Option.bind (bIf u24 (some [A.v (Value.bool true), A.v undef, A.v undef]) (Option.bind (aBin Tryd.prog BinOp.neq 25 false true t21 (A.v (Value.int IntKind.i64 0))) fun t27 => some [t27, t27, t21])) fun l27 => unc l27 fun u28 l28 => unc l28 fun u29 l29 => unc l29 fun u30 l30 =>
 bIf u28 (Option.bind (aBin Tryd.prog BinOp.eql 25 false false t9 t16) fun t31 =>
 Option.bind (bIf t31 (Option.bind (aBin Tryd.prog BinOp.eql 25 false false t16 t21) fun t32 => some [t32, t32, t21, t16]) (some [A.v (Value.bool false), A.v undef, A.v undef, A.v undef])) fun l32 => unc l32 fun u33 l33 => unc l33 fun u34 l34 => unc l34 fun u35 l35 => unc l35 fun u36 l36 =>
 Option.bind (bIf u33 (Option.bind (aLoad Tryd.prog 37 r10.1 H11) fun t37 =>
 Option.bind (aBuild Tryd.prog 37 []) fun t38 =>
 Option.bind (aBin Tryd.prog BinOp.eql 37 false false t37 t38) fun t39 => some [t39, t39, t38, t37]) (some [A.v (Value.bool false), A.v undef, A.v undef, A.v undef])) fun l37 => unc l37 fun u38 l38 => unc l38 fun u39 l39 => unc l39 fun u40 l40 => unc l40 fun u41 l41 =>
 Option.bind (bIf u38 (Option.bind (aUn Tryd.prog UnOp.not t15) fun t42 => some [t42, t42, t15]) (some [A.v (Value.bool false), A.v undef, A.v undef])) fun l42 => unc l42 fun u43 l43 => unc l43 fun u44 l44 => unc l44 fun u45 l45 =>
 Option.bind (bIf u43 (Option.bind (aUn Tryd.prog UnOp.not t20) fun t46 => some [t46, t46, t20]) (some [A.v (Value.bool false), A.v undef, A.v undef])) fun l46 => unc l46 fun u47 l47 => unc l47 fun u48 l48 => unc l48 fun u49 l49 => some (Out.ret u47, H11)) (Option.bind (aLoad Tryd.prog 37 r0.1 H11) fun t31 =>
 Option.bind (aLoad Tryd.prog 37 r10.1 H11) fun t32 =>
 Option.bind (C 25 [snap H11 t31, snap H11 t32]) fun t33 =>
 Option.bind (aExtract t33 0) fun t34 =>
 Option.bind (aExtract t33 1) fun t35 =>
 Option.bind (aLoad Tryd.prog 37 r1.1 H11) fun t36 =>
 Option.bind (aLoad Tryd.prog 37 r10.1 H11) fun t37 =>
 Option.bind (C 25 [snap H11 t36, snap H11 t37]) fun t38 =>
 Option.bind (aExtract t38 0) fun t39 =>
 Option.bind (aExtract t38 1) fun t40 =>
 Option.bind (aBin Tryd.prog BinOp.neq 25 false true t35 (A.v (Value.int IntKind.i64 0))) fun t41 =>
 Option.bind (bIf t41 (some [A.v (Value.bool true), A.v undef, A.v undef]) (Option.bind (aBin Tryd.prog BinOp.neq 25 false true t40 (A.v (Value.int IntKind.i64 0))) fun t42 => some [t42, t42, t40])) fun l42 => unc l42 fun u43 l43 => unc l43 fun u44 l44 => unc l44 fun u45 l45 =>
 Option.bind (bIf u43 (some [A.v (Value.bool true), A.v undef, A.v undef]) (Option.bind (aUn Tryd.prog UnOp.not t34) fun t46 => some [t46, t46, t34])) fun l46 => unc l46 fun u47 l47 => unc l47 fun u48 l48 => unc l48 fun u49 l49 =>
 Option.bind (bIf u47 (some [A.v (Value.bool true), A.v undef, A.v undef]) (Option.bind (aUn Tryd.prog UnOp.not t39) fun t50 => some [t50, t50, t39])) fun l50 => unc l50 fun u51 l51 => unc l51 fun u52 l52 => unc l52 fun u53 l53 =>
 Option.bind (bIf u51 (some [A.v (Value.bool true), A.v undef, A.v undef, A.v undef]) (Option.bind (aBin Tryd.prog BinOp.neq 4 false false t15 t20) fun t54 => some [t54, t54, t20, t15])) fun l54 => unc l54 fun u55 l55 => unc l55 fun u56 l56 => unc l56 fun u57 l57 => unc l57 fun u58 l58 =>
 bIf u55 (some (Out.ret (A.v (Value.bool false)), H11)) (Option.bind (aFieldAddr Tryd.prog 37 r0.1 0 H11) fun t59 =>
 Option.bind (aFieldAddr Tryd.prog 35 t59 0 H11) fun t60 =>
 Option.bind (aLoad Tryd.prog 3 t60 H11) fun t61 =>
 Option.bind (aFieldAddr Tryd.prog 37 r1.1 0 H11) fun t62 =>
 Option.bind (aFieldAddr Tryd.prog 35 t62 0 H11) fun t63 =>
 Option.bind (aLoad Tryd.prog 3 t63 H11) fun t64 =>
 Option.bind (aMM false t61 [t64]) fun t65 =>
 Option.bind (aFieldAddr Tryd.prog 37 r0.1 0 H11) fun t66 =>
 Option.bind (aFieldAddr Tryd.prog 35 t66 1 H11) fun t67 =>
 Option.bind (aLoad Tryd.prog 3 t67 H11) fun t68 =>
 Option.bind (aFieldAddr Tryd.prog 37 r1.1 0 H11) fun t69 =>
 Option.bind (aFieldAddr Tryd.prog 35 t69 1 H11) fun t70 =>
 Option.bind (aLoad Tryd.prog 3 t70 H11) fun t71 =>
 Option.bind (aMM true t68 [t71]) fun t72 =>
 Option.bind (aBuild Tryd.prog 35 [(0, t65), (1, t72)]) fun t73 =>
 Option.bind (aFieldAddr Tryd.prog 37 r0.1 1 H11) fun t74 =>
 Option.bind (aFieldAddr Tryd.prog 35 t74 0 H11) fun t75 =>
 Option.bind (aLoad Tryd.prog 3 t75 H11) fun t76 =>
 Option.bind (aFieldAddr Tryd.prog 37 r1.1 1 H11) fun t77 =>
 Option.bind (aFieldAddr Tryd.prog 35 t77 0 H11) fun t78 =>
 Option.bind (aLoad Tryd.prog 3 t78 H11) fun t79 =>
 Option.bind (aMM false t76 [t79]) fun t80 =>
 Option.bind (aFieldAddr Tryd.prog 37 r0.1 1 H11) fun t81 =>
 Option.bind (aFieldAddr Tryd.prog 35 t81 1 H11) fun t82 =>
 Option.bind (aLoad Tryd.prog 3 t82 H11) fun t83 =>
 Option.bind (aFieldAddr Tryd.prog 37 r1.1 1 H11) fun t84 =>
 Option.bind (aFieldAddr Tryd.prog 35 t84 1 H11) fun t85 =>
 Option.bind (aLoad Tryd.prog 3 t85 H11) fun t86 =>
 Option.bind (aMM true t83 [t86]) fun t87 =>
 Option.bind (aBuild Tryd.prog 35 [(0, t80), (1, t87)]) fun t88 =>
 Option.bind (aBuild Tryd.prog 37 [(0, t73), (1, t88)]) fun t89 =>
 Option.bind (aAlloc Tryd.prog 37 H11) fun r90 =>
 Option.bind (aStore Tryd.prog 37 r90.1 t89 r90.2 lo) fun H91 =>
 Option.bind (aLoad Tryd.prog 37 r90.1 H91) fun t92 =>
 Option.bind (aLoad Tryd.prog 37 r0.1 H91) fun t93 =>
 Option.bind (C 25 [snap H91 t92, snap H91 t93]) fun t94 =>
 Option.bind (aExtract t94 0) fun t95 =>
 Option.bind (aExtract t94 1) fun t96 =>
 Option.bind (aLoad Tryd.prog 37 r90.1 H91) fun t97 =>
 Option.bind (aLoad Tryd.prog 37 r1.1 H91) fun t98 =>
 Option.bind (C 25 [snap H91 t97, snap H91 t98]) fun t99 =>
 Option.bind (aExtract t99 0) fun t100 =>
 Option.bind (aExtract t99 1) fun t101 =>
 Option.bind (aBin Tryd.prog BinOp.neq 25 false true t96 (A.v (Value.int IntKind.i64 0))) fun t102 =>
 Option.bind (aBin Tryd.prog BinOp.neq 4 false false t15 t102) fun t103 =>
 Option.bind (bIf t103 (some [A.v (Value.bool true), A.v undef, A.v undef, A.v undef]) (Option.bind (aBin Tryd.prog BinOp.neq 25 false false t96 t101) fun t104 => some [t104, t104, t101, t96])) fun l104 => unc l104 fun u105 l105 => unc l105 fun u106 l106 => unc l106 fun u107 l107 => unc l107 fun u108 l108 =>
 Option.bind (bIf u105 (some [A.v (Value.bool true), A.v undef, A.v undef, A.v undef, A.v undef, A.v undef, A.v undef, A.v undef, A.v undef, A.v undef, A.v undef]) (Option.bind (aUn Tryd.prog UnOp.not t15) fun t109 =>
 Option.bind (bIf t109 (Option.bind (aUn Tryd.prog UnOp.not t95) fun t110 =>
 Option.bind (bIf t110 (some [A.v (Value.bool true), A.v undef, A.v undef]) (Option.bind (aUn Tryd.prog UnOp.not t100) fun t111 => some [t111, t111, t100])) fun l111 => unc l111 fun u112 l112 => unc l112 fun u113 l113 => unc l113 fun u114 l114 => some [u112, u112, u113, u114, t110, t110, t95]) (some [A.v (Value.bool false), A.v undef, A.v undef, A.v undef, A.v undef, A.v undef, A.v undef])) fun l110 => unc l110 fun u111 l111 => unc l111 fun u112 l112 => unc l112 fun u113 l113 => unc l113 fun u114 l114 => unc l114 fun u115 l115 => unc l115 fun u116 l116 => unc l116 fun u117 l117 => some [u111, u111, u112, u113, u114, u115, u116, u117, t109, t109, t15])) fun l109 => unc l109 fun u110 l110 => unc l110 fun u111 l111 => unc l111 fun u112 l112 => unc l112 fun u113 l113 => unc l113 fun u114 l114 => unc l114 fun u115 l115 => unc l115 fun u116 l116 => unc l116 fun u117 l117 => unc l117 fun u118 l118 => unc l118 fun u119 l119 => unc l119 fun u120 l120 =>
 bIf u110 (some (Out.ret (A.v (Value.bool false)), H91)) (Option.bind (aLoad Tryd.prog 37 r0.1 H91) fun t121 =>
 Option.bind (aLoad Tryd.prog 37 r2.1 H91) fun t122 =>
 Option.bind (C 25 [snap H91 t121, snap H91 t122]) fun t123 =>
 Option.bind (aExtract t123 0) fun t124 =>
 Option.bind (aExtract t123 1) fun t125 =>
 Option.bind (aLoad Tryd.prog 37 r1.1 H91) fun t126 =>
 Option.bind (aLoad Tryd.prog 37 r2.1 H91) fun t127 =>
 Option.bind (C 25 [snap H91 t126, snap H91 t127]) fun t128 =>
 Option.bind (aExtract t128 0) fun t129 =>
 Option.bind (aExtract t128 1) fun t130 =>
 Option.bind (aBin Tryd.prog BinOp.neq 25 false true t125 (A.v (Value.int IntKind.i64 0))) fun t131 =>
 Option.bind (bIf t131 (some [A.v (Value.bool true), A.v undef, A.v undef]) (Option.bind (aBin Tryd.prog BinOp.neq 25 false true t130 (A.v (Value.int IntKind.i64 0))) fun t132 => some [t132, t132, t130])) fun l132 => unc l132 fun u133 l133 => unc l133 fun u134 l134 => unc l134 fun u135 l135 =>
 bIf u133 (Option.bind (aBin Tryd.prog BinOp.eql 25 false false t125 t130) fun t136 => some (Out.ret t136, H91)) (Option.bind (aLoad Tryd.prog 37 r10.1 H91) fun t136 =>
 Option.bind (aLoad Tryd.prog 37 r2.1 H91) fun t137 =>
 Option.bind (C 25 [snap H91 t136, snap H91 t137]) fun t138 =>
 Option.bind (aExtract t138 0) fun t139 =>
 Option.bind (aExtract t138 1) fun t140 =>
 Option.bind (aLoad Tryd.prog 37 r2.1 H91) fun t141 =>
 Option.bind (aLoad Tryd.prog 37 r0.1 H91) fun t142 =>
 Option.bind (C 25 [snap H91 t141, snap H91 t142]) fun t143 =>
 Option.bind (aExtract t143 0) fun t144 =>
 Option.bind (aExtract t143 1) fun t145 =>
 Option.bind (aLoad Tryd.prog 37 r2.1 H91) fun t146 =>
 Option.bind (aLoad Tryd.prog 37 r1.1 H91) fun t147 =>
 Option.bind (C 25 [snap H91 t146, snap H91 t147]) fun t148 =>
 Option.bind (aExtract t148 0) fun t149 =>
 Option.bind (aExtract t148 1) fun t150 =>
 Option.bind (aBin Tryd.prog BinOp.eql 25 false true t140 (A.v (Value.int IntKind.i64 0))) fun t151 =>
 Option.bind (bIf t151 (Option.bind (aBin Tryd.prog BinOp.eql 25 false true t145 (A.v (Value.int IntKind.i64 0))) fun t152 => some [t152, t152, t145]) (some [A.v (Value.bool false), A.v undef, A.v undef])) fun l152 => unc l152 fun u153 l153 => unc l153 fun u154 l154 => unc l154 fun u155 l155 =>
 Option.bind (bIf u153 (Option.bind (aBin Tryd.prog BinOp.eql 25 false true t150 (A.v (Value.int IntKind.i64 0))) fun t156 => some [t156, t156, t150]) (some [A.v (Value.bool false), A.v undef, A.v undef])) fun l156 => unc l156 fun u157 l157 => unc l157 fun u158 l158 => unc l158 fun u159 l159 =>
 Option.bind (bIf u157 (Option.bind (bIf t124 (some [t129, t129]) (some [A.v (Value.bool false), A.v undef])) fun l160 => unc l160 fun u161 l161 => unc l161 fun u162 l162 =>
 Option.bind (aBin Tryd.prog BinOp.eql 4 false false t139 u161) fun t163 => some [t163, t163, u161, u162, t124, t124, t139]) (some [A.v (Value.bool false), A.v undef, A.v undef, A.v undef, A.v undef, A.v undef, A.v undef])) fun l160 => unc l160 fun u161 l161 => unc l161 fun u162 l162 => unc l162 fun u163 l163 => unc l163 fun u164 l164 => unc l164 fun u165 l165 => unc l165 fun u166 l166 => unc l166 fun u167 l167 =>
 Option.bind (bIf u161 (Option.bind (bIf t15 (some [t144, t144]) (some [A.v (Value.bool false), A.v undef])) fun l168 => unc l168 fun u169 l169 => unc l169 fun u170 l170 =>
 Option.bind (bIf u169 (some [t149, t149]) (some [A.v (Value.bool false), A.v undef])) fun l171 => unc l171 fun u172 l172 => unc l172 fun u173 l173 =>
 Option.bind (aUn Tryd.prog UnOp.not u172) fun t174 => some [t174, t174, u172, u173, u169, u169, u170, t15, t15]) (some [A.v (Value.bool false), A.v undef, A.v undef, A.v undef, A.v undef, A.v undef, A.v undef, A.v undef, A.v undef])) fun l168 => unc l168 fun u169 l169 => unc l169 fun u170 l170 => unc l170 fun u171 l171 => unc l171 fun u172 l172 => unc l172 fun u173 l173 => unc l173 fun u174 l174 => unc l174 fun u175 l175 => unc l175 fun u176 l176 => unc l176 fun u177 l177 => some (Out.ret u169, H91)))))) := by kernel_rfl
theorem e9 (C : Nat → List A → Option A) (call : CallT) (n lo : Nat) (x0 x1 x2 x3 : A) (H : Heap) : evCall1 (cx C) call n 9 [x0, x1, x2, x3] H lo =
 Option.bind (aBox x0 H) fun r0 =>
 Option.bind (aBox x1 r0.2) fun r1 =>
 Option.bind (C 10 []) fun t2 =>
 Option.bind (aUn Tryd.prog UnOp.not t2) fun t3 =>
 bIf t3 (some (Out.ret (A.v (Value.bool false)), r1.2)) (Option.bind (aLoad Tryd.prog 37 r0.1 r1.2) fun t4 =>
 Option.bind (C 27 [snap r1.2 t4, snap r1.2 x2, snap r1.2 x3]) fun t5 =>
 Option.bind (aExtract t5 0) fun t6 =>
 Option.bind (aExtract t5 1) fun t7 =>
 Option.bind (aAlloc Tryd.prog 37 r1.2) fun r8 =>
 Option.bind (aStore Tryd.prog 37 r8.1 t6 r8.2 lo) fun H9 =>
 Option.bind (aLoad Tryd.prog 37 r1.1 H9) fun t10 =>
 Option.bind (C 27 [snap H9 t10, snap H9 x2, snap H9 x3]) fun t11 =>
 Option.bind (aExtract t11 0) fun t12 =>
 Option.bind (aExtract t11 1) fun t13 =>
 Option.bind (aAlloc Tryd.prog 37 H9) fun r14 =>
 Option.bind (aStore Tryd.prog 37 r14.1 t12 r14.2 lo) fun H15 =>
 Option.bind (aBin Tryd.prog BinOp.neq 25 false true t7 (A.v (Value.int IntKind.i64 0))) fun t16 =>
 Option.bind (bIf t16 (some [A.v (Value.bool true), A.v undef, A.v undef]) (Option.bind (aBin Tryd.prog BinOp.neq 25 false true t13 (A.v (Value.int IntKind.i64 0))) fun t17 => some [t17, t17, t13])) fun l17 => unc l17 fun u18 l18 => unc l18 fun u19 l19 => unc l19 fun u20 l20 =>
 bIf u18 (Option.bind (aBin Tryd.prog BinOp.eql 25 false true t7 (A.v (Value.int IntKind.i64 0))) fun t21 =>
 Option.bind (bIf t21 (some [A.v (Value.bool true), A.v undef, A.v undef, A.v undef]) (Option.bind (aLoad Tryd.prog 37 r8.1 H15) fun t22 =>
 Option.bind (aBuild Tryd.prog 37 []) fun t23 =>
 Option.bind (aBin Tryd.prog BinOp.eql 37 false false t22 t23) fun t24 => some [t24, t24, t23, t22])) fun l22 => unc l22 fun u23 l23 => unc l23 fun u24 l24 => unc l24 fun u25 l25 => unc l25 fun u26 l26 =>
 Option.bind (bIf u23 (Option.bind (aBin Tryd.prog BinOp.eql 25 false true t13 (A.v (Value.int IntKind.i64 0))) fun t27 =>
 Option.bind (bIf t27 (some [A.v (Value.bool true), A.v undef, A.v undef, A.v undef]) (Option.bind (aLoad Tryd.prog 37 r14.1 H15) fun t28 =>
 Option.bind (aBuild Tryd.prog 37 []) fun t29 =>
 Option.bind (aBin Tryd.prog BinOp.eql 37 false false t28 t29) fun t30 => some [t30, t30, t29, t28])) fun l28 => unc l28 fun u29 l29 => unc l29 fun u30 l30 => unc l30 fun u31 l31 => unc l31 fun u32 l32 => some [u29, u29, u30, u31, u32, t27, t27, t13]) (some [A.v (Value.bool false), A.v undef, A.v undef, A.v undef, A.v undef, A.v undef, A.v undef, A.v undef])) fun l27 => unc l27 fun u28 l28 => unc l28 fun u29 l29 => unc l29 fun u30 l30 => unc l30 fun u31 l31 => unc l31 fun u32 l32 => unc l32 fun u33 l33 => unc l33 fun u34 l34 => unc l34 fun u35 l35 => some (Out.ret u28, H15)) (Option.bind (aBin Tryd.prog BinOp.lss 3 false true x2 (A.v (Value.int IntKind.i64 (-2199023255552)))) fun t21 =>
 Option.bind (bIf t21 (some [A.v (Value.bool true), A.v undef, A.v undef]) (Option.bind (aBin Tryd.prog BinOp.gtr 3 false true x2 (A.v (Value.int IntKind.i64 2199023255552))) fun t22 => some [t22, t22, x2])) fun l22 => unc l22 fun u23 l23 => unc l23 fun u24 l24 => unc l24 fun u25 l25 =>
 Option.bind (bIf u23 (some [A.v (Value.bool true), A.v undef, A.v undef]) (Option.bind (aBin Tryd.prog BinOp.lss 3 false true x3 (A.v (Value.int IntKind.i64 (-2199023255552)))) fun t26 => some [t26, t26, x3])) fun l26 => unc l26 fun u27 l27 => unc l27 fun u28 l28 => unc l28 fun u29 l29 =>
 Option.bind (bIf u27 (some [A.v (Value.bool true), A.v undef, A.v undef]) (Option.bind (aBin Tryd.prog BinOp.gtr 3 false true x3 (A.v (Value.int IntKind.i64 2199023255552))) fun t30 => some [t30, t30, x3])) fun l30 => unc l30 fun u31 l31 => unc l31 fun u32 l32 => unc l32 fun u33 l33 =>
 bIf u31 (some (Out.ret (A.v (Value.bool false)), H15)) (Option.bind (aLoad Tryd.prog 37 r0.1 H15) fun t34 =>
 Option.bind (aLoad Tryd.prog 37 r1.1 H15) fun t35 =>
 Option.bind (C 23 [snap H15 t34, snap H15 t35]) fun t36 =>
 Option.bind (aExtract t36 0) fun t37 =>
 Option.bind (aExtract t36 1) fun t38 =>
 Option.bind (aLoad Tryd.prog 37 r8.1 H15) fun t39 =>
 Option.bind (aLoad Tryd.prog 37 r14.1 H15) fun t40 =>
 Option.bind (C 23 [snap H15 t39, snap H15 t40]) fun t41 =>
 Option.bind (aExtract t41 0) fun t42 =>
 Option.bind (aExtract t41 1) fun t43 =>
 Option.bind (aLoad Tryd.prog 37 r0.1 H15) fun t44 =>
 Option.bind (aLoad Tryd.prog 37 r1.1 H15) fun t45 =>
 Option.bind (C 25 [snap H15 t44, snap H15 t45]) fun t46 =>
 Option.bind (aExtract t46 0) fun t47 =>
 Option.bind (aExtract t46 1) fun t48 =>
 Option.bind (aLoad Tryd.prog 37 r8.1 H15) fun t49 =>
 Option.bind (aLoad Tryd.prog 37 r14.1 H15) fun t50 =>
 Option.bind (C 25 [snap H15 t49, snap H15 t50]) fun t51 =>
 Option.bind (aExtract t51 0) fun t52 =>
 Option.bind (aExtract t51 1) fun t53 =>
 Option.bind (aLoad Tryd.prog 37 r8.1 H15) fun t54 =>
 Option.bind (aUn Tryd.prog UnOp.neg x2) fun t55 =>
 Option.bind (aUn Tryd.prog UnOp.neg x3) fun t56 =>
 Option.bind (C 27 [snap H15 t54, snap H15 t55, snap H15 t56]) fun t57 =>
 Option.bind (aExtract t57 0) fun t58 =>
 Option.bind (aExtract t57 1) fun t59 =>
 Option.bind (aAlloc Tryd.prog 37 H15) fun r60 =>
 Option.bind (aStore Tryd.prog 37 r60.1 t58 r60.2 lo) fun H61 =>
 Option.bind (aBin Tryd.prog BinOp.eql 25 false true t38 (A.v (Value.int IntKind.i64 0))) fun t62 =>
 Option.bind (bIf t62 (Option.bind (aBin Tryd.prog BinOp.eql 25 false true t43 (A.v (Value.int IntKind.i64 0))) fun t63 => some [t63, t63, t43]) (some [A.v (Value.bool false), A.v undef, A.v undef])) fun l63 => unc l63 fun u64 l64 => unc l64 fun u65 l65 => unc l65 fun u66 l66 =>
 Option.bind (bIf u64 (Option.bind (aBin Tryd.prog BinOp.eql 25 false true t48 (A.v (Value.int IntKind.i64 0))) fun t67 => some [t67, t67, t48]) (some [A.v (Value.bool false), A.v undef, A.v undef])) fun l67 => unc l67 fun u68 l68 => unc l68 fun u69 l69 => unc l69 fun u70 l70 =>
 Option.bind (bIf u68 (Option.bind (aBin Tryd.prog BinOp.eql 25 false true t53 (A.v (Value.int IntKind.i64 0))) fun t71 => some [t71, t71, t53]) (some [A.v (Value.bool false), A.v undef, A.v undef])) fun l71 => unc l71 fun u72 l72 => unc l72 fun u73 l73 => unc l73 fun u74 l74 =>
 Option.bind (bIf u72 (Option.bind (aBin Tryd.prog BinOp.eql 25 false true t59 (A.v (Value.int IntKind.i64 0))) fun t75 => some [t75, t75, t59]) (some [A.v (Value.bool false), A.v undef, A.v undef])) fun l75 => unc l75 fun u76 l76 => unc l76 fun u77 l77 => unc l77 fun u78 l78 =>
 Option.bind (bIf u76 (Option.bind (aBin Tryd.prog BinOp.eql 4 false false t37 t42) fun t79 => some [t79, t79, t42, t37]) (some [A.v (Value.bool false), A.v undef, A.v undef, A.v undef])) fun l79 => unc l79 fun u80 l80 => unc l80 fun u81 l81 => unc l81 fun u82 l82 => unc l82 fun u83 l83 =>
 Option.bind (bIf u80 (Option.bind (aBin Tryd.prog BinOp.eql 4 false false t47 t52) fun t84 => some [t84, t84, t52, t47]) (some [A.v (Value.bool false), A.v undef, A.v undef, A.v undef])) fun l84 => unc l84 fun u85 l85 => unc l85 fun u86 l86 => unc l86 fun u87 l87 => unc l87 fun u88 l88 =>
 Option.bind (bIf u85 (Option.bind (aLoad Tryd.prog 37 r60.1 H61) fun t89 =>
 Option.bind (aLoad Tryd.prog 37 r0.1 H61) fun t90 =>
 Option.bind (aBin Tryd.prog BinOp.eql 37 false false t89 t90) fun t91 => some [t91, t91, t90, t89]) (some [A.v (Value.bool false), A.v undef, A.v undef, A.v undef])) fun l89 => unc l89 fun u90 l90 => unc l90 fun u91 l91 => unc l91 fun u92 l92 => unc l92 fun u93 l93 => some (Out.ret u90, H61)))) := by kernel_rfl
theorem e10 (C : Nat → List A → Option A) (call : CallT) (n lo : Nat) (H : Heap) : evCall1 (cx C) call n 10 [] H lo =
 Option.bind (C 11 [snap H (A.v (Value.int IntKind.i64 3)), snap H (A.v (Value.int IntKind.i64 3))]) fun t0 =>
 Option.bind (aExtract t0 0) fun t1 =>
 Option.bind (aExtract t0 1) fun t2 =>
 Option.bind (aAlloc Tryd.prog 24 H) fun r3 =>
 Option.bind (aStore Tryd.prog 24 r3.1 t1 r3.2 lo) fun H4 =>
 Option.bind (C 11 [snap H4 (A.v (Value.int IntKind.i64 0)), snap H4 (A.v (Value.int IntKind.i64 1))]) fun t5 =>
 Option.bind (aExtract t5 0) fun t6 =>
 Option.bind (aExtract t5 1) fun t7 =>
 Option.bind (aAlloc Tryd.prog 24 H4) fun r8 =>
 Option.bind (aStore Tryd.prog 24 r8.1 t6 r8.2 lo) fun H9 =>
 Option.bind (C 11 [snap H9 (A.v (Value.int IntKind.i64 9)), snap H9 (A.v (Value.int IntKind.i64 1))]) fun t10 =>
 Option.bind (aExtract t10 0) fun t11 =>
 Option.bind (aExtract t10 1) fun t12 =>
 Option.bind (aAlloc Tryd.prog 24 H9) fun r13 =>
 Option.bind (aStore Tryd.prog 24 r13.1 t11 r13.2 lo) fun H14 =>
 Option.bind (C 13 [snap H14 (A.v (Value.int IntKind.i64 0))]) fun t15 =>
 Option.bind (aExtract t15 0) fun t16 =>
 Option.bind (aExtract t15 1) fun t17 =>
 Option.bind (aExtract t15 2) fun t18 =>
 Option.bind (aBin Tryd.prog BinOp.neq 25 false true t2 (A.v (Value.int IntKind.i64 0))) fun t19 =>
 Option.bind (bIf t19 (some [A.v (Value.bool true), A.v undef, A.v undef]) (Option.bind (aBin Tryd.prog BinOp.neq 25 false true t7 (A.v (Value.int IntKind.i64 0))) fun t20 => some [t20, t20, t7])) fun l20 => unc l20 fun u21 l21 => unc l21 fun u22 l22 => unc l22 fun u23 l23 =>
 Option.bind (bIf u21 (some [A.v (Value.bool true), A.v undef, A.v undef]) (Option.bind (aBin Tryd.prog BinOp.neq 25 false true t12 (A.v (Value.int IntKind.i64 150))) fun t24 => some [t24, t24, t12])) fun l24 => unc l24 fun u25 l25 => unc l25 fun u26 l26 => unc l26 fun u27 l27 =>
 Option.bind (bIf u25 (some [A.v (Value.bool true), A.v undef, A.v undef]) (Option.bind (aBin Tryd.prog BinOp.neq 25 false true t18 (A.v (Value.int IntKind.i64 150))) fun t28 => some [t28, t28, t18])) fun l28 => unc l28 fun u29 l29 => unc l29 fun u30 l30 => unc l30 fun u31 l31 =>
 Option.bind (bIf u29 (some [A.v (Value.bool true), A.v undef, A.v undef, A.v undef]) (Option.bind (aLoad Tryd.prog 24 r3.1 H14) fun t32 =>
 Option.bind (aBuild Tryd.prog 24 [(0, A.v (Value.int IntKind.i64 580)), (2, A.v (Value.int IntKind.i64 609))]) fun t33 =>
 Option.bind (aBin Tryd.prog BinOp.neq 24 false false t32 t33) fun t34 => some [t34, t34, t33, t32])) fun l32 => unc l32 fun u33 l33 => unc l33 fun u34 l34 => unc l34 fun u35 l35 => unc l35 fun u36 l36 =>
 Option.bind (bIf u33 (some [A.v (Value.bool true), A.v undef, A.v undef, A.v undef]) (Option.bind (aLoad Tryd.prog 24 r8.1 H14) fun t37 =>
 Option.bind (aBuild Tryd.prog 24 [(2, A.v (Value.int IntKind.i64 (-841)))]) fun t38 =>
 Option.bind (aBin Tryd.prog BinOp.neq 24 false false t37 t38) fun t39 => some [t39, t39, t38, t37])) fun l37 => unc l37 fun u38 l38 => unc l38 fun u39 l39 => unc l39 fun u40 l40 => unc l40 fun u41 l41 =>
 bIf u38 (some (Out.ret (A.v (Value.bool false)), H14)) (Option.bind (C 15 [snap H14 (A.v (Value.int IntKind.i64 8)), snap H14 (A.v (Value.int IntKind.i64 3))]) fun t42 =>
 Option.bind (aExtract t42 0) fun t43 =>
 Option.bind (aExtract t42 1) fun t44 =>
 Option.bind (C 17 [snap H14 (A.v (Value.int IntKind.i64 3))]) fun t45 =>
 Option.bind (aExtract t45 0) fun t46 =>
 Option.bind (aExtract t45 1) fun t47 =>
 Option.bind (C 15 [snap H14 (A.v (Value.int IntKind.i64 5)), snap H14 (A.v (Value.int IntKind.i64 8))]) fun t48 =>
 Option.bind (aExtract t48 0) fun t49 =>
 Option.bind (aExtract t48 1) fun t50 =>
 Option.bind (C 13 [snap H14 (A.v (Value.int IntKind.i64 2))]) fun t51 =>
 Option.bind (aExtract t51 0) fun t52 =>
 Option.bind (aExtract t51 1) fun t53 =>
 Option.bind (aExtract t51 2) fun t54 =>
 Option.bind (aBuild Tryd.prog 24 [(1, A.v (Value.int IntKind.i64 841))]) fun t55 =>
 Option.bind (aBuild Tryd.prog 24 [(0, A.v (Value.int IntKind.i64 580)), (1, A.v (Value.int IntKind.i64 609))]) fun t56 =>
 Option.bind (C 19 [snap H14 t55, snap H14 t56]) fun t57 =>
 Option.bind (aExtract t57 0) fun t58 =>
 Option.bind (aExtract t57 1) fun t59 =>
 Option.bind (aBin Tryd.prog BinOp.neq 25 false true t44 (A.v (Value.int IntKind.i64 0))) fun t60 =>
 Option.bind (bIf t60 (some [A.v (Value.bool true), A.v undef, A.v undef]) (Option.bind (aBin Tryd.prog BinOp.neq 25 false true t47 (A.v (Value.int IntKind.i64 0))) fun t61 => some [t61, t61, t47])) fun l61 => unc l61 fun u62 l62 => unc l62 fun u63 l63 => unc l63 fun u64 l64 =>
 Option.bind (bIf u62 (some [A.v (Value.bool true), A.v undef, A.v undef]) (Option.bind (aBin Tryd.prog BinOp.neq 25 false true t50 (A.v (Value.int IntKind.i64 150))) fun t65 => some [t65, t65, t50])) fun l65 => unc l65 fun u66 l66 => unc l66 fun u67 l67 => unc l67 fun u68 l68 =>
 Option.bind (bIf u66 (some [A.v (Value.bool true), A.v undef, A.v undef]) (Option.bind (aBin Tryd.prog BinOp.neq 25 false true t54 (A.v (Value.int IntKind.i64 0))) fun t69 => some [t69, t69, t54])) fun l69 => unc l69 fun u70 l70 => unc l70 fun u71 l71 => unc l71 fun u72 l72 =>
 Option.bind (bIf u70 (some [A.v (Value.bool true), A.v undef, A.v undef]) (Option.bind (aBin Tryd.prog BinOp.neq 25 false true t59 (A.v (Value.int IntKind.i64 0))) fun t73 => some [t73, t73, t59])) fun l73 => unc l73 fun u74 l74 => unc l74 fun u75 l75 => unc l75 fun u76 l76 =>
 Option.bind (bIf u74 (some [A.v (Value.bool true), A.v undef, A.v undef]) (Option.bind (aBin Tryd.prog BinOp.neq 3 false true t43 (A.v (Value.int IntKind.i64 3))) fun t77 => some [t77, t77, t43])) fun l77 => unc l77 fun u78 l78 => unc l78 fun u79 l79 => unc l79 fun u80 l80 =>
 Option.bind (bIf u78 (some [A.v (Value.bool true), A.v undef, A.v undef]) (Option.bind (aBin Tryd.prog BinOp.neq 3 false true t46 (A.v (Value.int IntKind.i64 7))) fun t81 => some [t81, t81, t46])) fun l81 => unc l81 fun u82 l82 => unc l82 fun u83 l83 => unc l83 fun u84 l84 =>
 Option.bind (bIf u82 (some [A.v (Value.bool true), A.v undef, A.v undef]) (Option.bind (aBin Tryd.prog BinOp.neq 3 false true t52 (A.v (Value.int IntKind.i64 20))) fun t85 => some [t85, t85, t52])) fun l85 => unc l85 fun u86 l86 => unc l86 fun u87 l87 => unc l87 fun u88 l88 =>
 Option.bind (bIf u86 (some [A.v (Value.bool true), A.v undef, A.v undef]) (Option.bind (aBin Tryd.prog BinOp.neq 3 false true t53 (A.v (Value.int IntKind.i64 21))) fun t89 => some [t89, t89, t53])) fun l89 => unc l89 fun u90 l90 => unc l90 fun u91 l91 => unc l91 fun u92 l92 =>
 Option.bind (bIf u90 (some [A.v (Value.bool true), A.v undef, A.v undef]) (Option.bind (aBin Tryd.prog BinOp.neq 3 false true t58 (A.v (Value.int IntKind.i64 512169))) fun t93 => some [t93, t93, t58])) fun l93 => unc l93 fun u94 l94 => unc l94 fun u95 l95 => unc l95 fun u96 l96 =>
 bIf u94 (some (Out.ret (A.v (Value.bool false)), H14)) (Option.bind (C 30 [snap H14 (A.v (Value.int IntKind.i64 0)), snap H14 (A.v (Value.int IntKind.i64 1)), snap H14 (A.v (Value.int IntKind.i64 0)), snap H14 (A.v (Value.int IntKind.i64 1))]) fun t97 =>
 Option.bind (C 30 [snap H14 (A.v (Value.int IntKind.i64 5)), snap H14 (A.v (Value.int IntKind.i64 6)), snap H14 (A.v (Value.int IntKind.i64 (-2))), snap H14 (A.v (Value.int IntKind.i64 (-2)))]) fun t98 =>
 Option.bind (C 21 [snap H14 t97, snap H14 t98]) fun t99 =>
 Option.bind (aExtract t99 0) fun t100 =>
 Option.bind (aExtract t99 1) fun t101 =>
 Option.bind (aAlloc Tryd.prog 37 H14) fun r102 =>
 Option.bind (aStore Tryd.prog 37 r102.1 t100 r102.2 lo) fun H103 =>
 Option.bind (C 30 [snap H103 (A.v (Value.int IntKind.i64 0)), snap H103 (A.v (Value.int IntKind.i64 1)), snap H103 (A.v (Value.int IntKind.i64 0)), snap H103 (A.v (Value.int IntKind.i64 1))]) fun t104 =>
 Option.bind (C 30 [snap H103 (A.v (Value.int IntKind.i64 1)), snap H103 (A.v (Value.int IntKind.i64 2)), snap H103 (A.v (Value.int IntKind.i64 1)), snap H103 (A.v (Value.int IntKind.i64 2))]) fun t105 =>
 Option.bind (C 23 [snap H103 t104, snap H103 t105]) fun t106 =>
 Option.bind (aExtract t106 0) fun t107 =>
 Option.bind (aExtract t106 1) fun t108 =>
 Option.bind (C 30 [snap H103 (A.v (Value.int IntKind.i64 0)), snap H103 (A.v (Value.int IntKind.i64 1)), snap H103 (A.v (Value.int IntKind.i64 0)), snap H103 (A.v (Value.int IntKind.i64 1))]) fun t109 =>
 Option.bind (C 30 [snap H103 (A.v (Value.int IntKind.i64 2)), snap H103 (A.v (Value.int IntKind.i64 3)), snap H103 (A.v (Value.int IntKind.i64 0)), snap H103 (A.v (Value.int IntKind.i64 1))]) fun t110 =>
 Option.bind (C 23 [snap H103 t109, snap H103 t110]) fun t111 =>
 Option.bind (aExtract t111 0) fun t112 =>
 Option.bind (aExtract t111 1) fun t113 =>
 Option.bind (C 30 [snap H103 (A.v (Value.int IntKind.i64 0)), snap H103 (A.v (Value.int IntKind.i64 1)), snap H103 (A.v (Value.int IntKind.i64 0)), snap H103 (A.v (Value.int IntKind.i64 1))]) fun t114 =>
 Option.bind (C 30 [snap H103 (A.v (Value.int IntKind.i64 0)), snap H103 (A.v (Value.int IntKind.i64 1)), snap H103 (A.v (Value.int IntKind.i64 (-1))), snap H103 (A.v (Value.int IntKind.i64 2))]) fun t115 =>
 Option.bind (C 25 [snap H103 t114, snap H103 t115]) fun t116 =>
 Option.bind (aExtract t116 0) fun t117 =>
 Option.bind (aExtract t116 1) fun t118 =>
 Option.bind (C 30 [snap H103 (A.v (Value.int IntKind.i64 0)), snap H103 (A.v (Value.int IntKind.i64 1)), snap H103 (A.v (Value.int IntKind.i64 0)), snap H103 (A.v (Value.int IntKind.i64 1))]) fun t119 =>
 Option.bind (C 27 [snap H103 t119, snap H103 (A.v (Value.int IntKind.i64 (-3))), snap H103 (A.v (Value.int IntKind.i64 4))]) fun t120 =>
 Option.bind (aExtract t120 0) fun t121 =>
 Option.bind (aExtract t120 1) fun t122 =>
 Option.bind (aAlloc Tryd.prog 37 H103) fun r123 =>
 Option.bind (aStore Tryd.prog 37 r123.1 t121 r123.2 lo) fun H124 =>
 Option.bind (aBuild Tryd.prog 37 []) fun t125 =>
 Option.bind (C 30 [snap H124 (A.v (Value.int IntKind.i64 1)), snap H124 (A.v (Value.int IntKind.i64 0)), snap H124 (A.v (Value.int IntKind.i64 0)), snap H124 (A.v (Value.int IntKind.i64 0))]) fun t126 =>
 Option.bind (C 21 [snap H124 t125, snap H124 t126]) fun t127 =>
 Option.bind (aExtract t127 0) fun t128 =>
 Option.bind (aExtract t127 1) fun t129 =>
 Option.bind (aAlloc Tryd.prog 37 H124) fun r130 =>
 Option.bind (aStore Tryd.prog 37 r130.1 t128 r130.2 lo) fun H131 =>
 Option.bind (aBin Tryd.prog BinOp.neq 25 false true t101 (A.v (Value.int IntKind.i64 0))) fun t132 =>
 Option.bind (bIf t132 (some [A.v (Value.bool true), A.v undef, A.v undef]) (Option.bind (aBin Tryd.prog BinOp.neq 25 false true t108 (A.v (Value.int IntKind.i64 0))) fun t133 => some [t133, t133, t108])) fun l133 => unc l133 fun u134 l134 => unc l134 fun u135 l135 => unc l135 fun u136 l136 =>
 Option.bind (bIf u134 (some [A.v (Value.bool true), A.v undef, A.v undef]) (Option.bind (aBin Tryd.prog BinOp.neq 25 false true t113 (A.v (Value.int IntKind.i64 0))) fun t137 => some [t137, t137, t113])) fun l137 => unc l137 fun u138 l138 => unc l138 fun u139 l139 => unc l139 fun u140 l140 =>
 Option.bind (bIf u138 (some [A.v (Value.bool true), A.v undef, A.v undef]) (Option.bind (aBin Tryd.prog BinOp.neq 25 false true t118 (A.v (Value.int IntKind.i64 0))) fun t141 => some [t141, t141, t118])) fun l141 => unc l141 fun u142 l142 => unc l142 fun u143 l143 => unc l143 fun u144 l144 =>
 Option.bind (bIf u142 (some [A.v (Value.bool true), A.v undef, A.v undef]) (Option.bind (aBin Tryd.prog BinOp.neq 25 false true t122 (A.v (Value.int IntKind.i64 0))) fun t145 => some [t145, t145, t122])) fun l145 => unc l145 fun u146 l146 => unc l146 fun u147 l147 => unc l147 fun u148 l148 =>
 Option.bind (bIf u146 (some [A.v (Value.bool true), A.v undef, A.v undef]) (Option.bind (aBin Tryd.prog BinOp.neq 25 false true t129 (A.v (Value.int IntKind.i64 150))) fun t149 => some [t149, t149, t129])) fun l149 => unc l149 fun u150 l150 => unc l150 fun u151 l151 => unc l151 fun u152 l152 =>
 Option.bind (bIf u150 (some [A.v (Value.bool true), A.v undef]) (some [t107, t107])) fun l153 => unc l153 fun u154 l154 => unc l154 fun u155 l155 =>
 Option.bind (bIf u154 (some [A.v (Value.bool true), A.v undef, A.v undef]) (Option.bind (aUn Tryd.prog UnOp.not t112) fun t156 => some [t156, t156, t112])) fun l156 => unc l156 fun u157 l157 => unc l157 fun u158 l158 => unc l158 fun u159 l159 =>
 Option.bind (bIf u157 (some [A.v (Value.bool true), A.v undef, A.v undef]) (Option.bind (aUn Tryd.prog UnOp.not t117) fun t160 => some [t160, t160, t117])) fun l160 => unc l160 fun u161 l161 => unc l161 fun u162 l162 => unc l162 fun u163 l163 =>
 bIf u161 (some (Out.ret (A.v (Value.bool false)), H131)) (Option.bind (aLoad Tryd.prog 37 r102.1 H131) fun t164 =>
 Option.bind (C 30 [snap H131 (A.v (Value.int IntKind.i64 0)), snap H131 (A.v (Value.int IntKind.i64 6)), snap H131 (A.v (Value.int IntKind.i64 (-2))), snap H131 (A.v (Value.int IntKind.i64 1))]) fun t165 =>
 Option.bind (aBin Tryd.prog BinOp.eql 37 false false t164 t165) fun t166 =>
 Option.bind (gIf t166 true (Option.bind (aLoad Tryd.prog 37 r123.1 H131) fun t167 =>
 Option.bind (C 30 [snap H131 (A.v (Value.int IntKind.i64 (-3))), snap H131 (A.v (Value.int IntKind.i64 (-2))), snap H131 (A.v (Value.int IntKind.i64 4)), snap H131 (A.v (Value.int IntKind.i64 5))]) fun t168 => some [t168, t167]) (some [A.v undef, A.v undef])) fun l167 => unc l167 fun u168 l168 => unc l168 fun u169 l169 =>
 Option.bind (bIf t166 (Option.bind (aBin Tryd.prog BinOp.eql 37 false false u169 u168) fun t170 => some [t170, t170]) (some [A.v (Value.bool false), A.v undef])) fun l170 => unc l170 fun u171 l171 => unc l171 fun u172 l172 => some (Out.ret u171, H131)))) := by kernel_rfl
theorem e11 (C : Nat → List A → Option A) (call : CallT) (n lo : Nat) (x0 x1 : A) (H : Heap) : evCall1 (cx C) call n 11 [x0, x1] H lo =
 Option.bind (aAlloc Tryd.prog 24 H) fun r0 =>
 Option.bind (aBin Tryd.prog BinOp.lss 3 false true x0 (A.v (Value.int IntKind.i64 0))) fun t1 =>
 Option.bind (bIf t1 (some [A.v (Value.bool true), A.v undef, A.v undef]) (Option.bind (aBin Tryd.prog BinOp.gtr 3 false true x0 (A.v (Value.int IntKind.i64 8))) fun t2 => some [t2, t2, x0])) fun l2 => unc l2 fun u3 l3 => unc l3 fun u4 l4 => unc l4 fun u5 l5 =>
 Option.bind (bIf u3 (some [A.v (Value.bool true), A.v undef, A.v undef]) (Option.bind (aBin Tryd.prog BinOp.lss 3 false true x1 (A.v (Value.int IntKind.i64 1))) fun t6 => some [t6, t6, x1])) fun l6 => unc l6 fun u7 l7 => unc l7 fun u8 l8 => unc l8 fun u9 l9 =>
 Option.bind (bIf u7 (some [A.v (Value.bool true), A.v undef, A.v undef]) (Option.bind (aBin Tryd.prog BinOp.gtr 3 false true x1 (A.v (Value.int IntKind.i64 3))) fun t10 => some [t10, t10, x1])) fun l10 => unc l10 fun u11 l11 => unc l11 fun u12 l12 => unc l12 fun u13 l13 =>
 bIf u11 (Option.bind (aLoad Tryd.prog 24 r0.1 r0.2) fun t14 =>
 Option.bind (aStore Tryd.prog 24 r0.1 t14 r0.2 lo) fun H15 =>
 Option.bind (aLoad Tryd.prog 24 r0.1 H15) fun t16 => some (Out.ret (A.tup [t16, A.v (Value.int IntKind.i64 150)]), H15)) (Option.bind (aBin Tryd.prog BinOp.sub 3 false true x1 (A.v (Value.int IntKind.i64 2))) fun t14 =>
 Option.bind (aAlloc Tryd.prog 3 r0.2) fun r15 =>
 Option.bind (aStore Tryd.prog 3 r15.1 t14 r15.2 lo) fun H16 =>
 Option.bind (aBin Tryd.prog BinOp.eql 3 false true x0 (A.v (Value.int IntKind.i64 0))) fun t17 =>
 bIf t17 (Option.bind (aLoad Tryd.prog 3 r15.1 H16) fun t18 =>
 Option.bind (aBin Tryd.prog BinOp.mul 3 true false (A.v (Value.int IntKind.i64 841)) t18) fun t19 =>
 Option.bind (aFieldAddr Tryd.prog 24 r0.1 2 H16) fun t20 =>
 Option.bind (aStore Tryd.prog 3 t20 t19 H16 lo) fun H21 =>
 Option.bind (aLoad Tryd.prog 24 r0.1 H21) fun t22 =>
 Option.bind (aStore Tryd.prog 24 r0.1 t22 H21 lo) fun H23 =>
 Option.bind (aLoad Tryd.prog 24 r0.1 H23) fun t24 => some (Out.ret (A.tup [t24, A.v (Value.int IntKind.i64 0)]), H23)) (Option.bind (aBin Tryd.prog BinOp.sub 3 false true x0 (A.v (Value.int IntKind.i64 1))) fun t18 =>
 Option.bind (aIndexAddr Tryd.prog 56 (A.ip [A.v (Value.int IntKind.i64 0), A.v (Value.int IntKind.i64 29), A.v (Value.int IntKind.i64 20), A.v (Value.int IntKind.i64 21), A.v (Value.int IntKind.i64 29), A.v (Value.int IntKind.i64 0), A.v (Value.int IntKind.i64 20), A.v (Value.int IntKind.i64 (-21)), A.v (Value.int IntKind.i64 0), A.v (Value.int IntKind.i64 (-29)), A.v (Value.int IntKind.i64 (-20)), A.v (Value.int IntKind.i64 (-21)), A.v (Value.int IntKind.i64 (-29)), A.v (Value.int IntKind.i64 0), A.v (Value.int IntKind.i64 (-20)), A.v (Value.int IntKind.i64 21)]) t18 H16) fun t19 =>
 Option.bind (aLoad Tryd.prog 55 t19 H16) fun t20 =>
 Option.bind (aAlloc Tryd.prog 55 H16) fun r21 =>
 Option.bind (aStore Tryd.prog 55 r21.1 t20 r21.2 lo) fun H22 =>
 Option.bind (aIndexAddr Tryd.prog 55 r21.1 (A.v (Value.int IntKind.i64 0)) H22) fun t23 =>
 Option.bind (aLoad Tryd.prog 3 t23 H22) fun t24 =>
 Option.bind (Option.bind (call 31 [t24, r15.1] H22 (List.length H22)) fun H25 => retU (List.length H22) H25) fun t25 =>
 Option.bind (aIndexAddr Tryd.prog 55 r21.1 (A.v (Value.int IntKind.i64 1)) H22) fun t26 =>
 Option.bind (aLoad Tryd.prog 3 t26 H22) fun t27 =>
 Option.bind (Option.bind (call 31 [t27, r15.1] H22 (List.length H22)) fun H28 => retU (List.length H22) H28) fun t28 =>
 Option.bind (aLoad Tryd.prog 3 r15.1 H22) fun t29 =>
 Option.bind (aBin Tryd.prog BinOp.mul 3 true false (A.v (Value.int IntKind.i64 609)) t29) fun t30 =>
 Option.bind (aBuild Tryd.prog 24 [(0, t25), (1, t28), (2, t30)]) fun t31 =>
 Option.bind (aStore Tryd.prog 24 r0.1 t31 H22 lo) fun H32 =>
 Option.bind (aLoad Tryd.prog 24 r0.1 H32) fun t33 => some (Out.ret (A.tup [t33, A.v (Value.int IntKind.i64 0)]), H32))) := by kernel_rfl
theorem e12 (C : Nat → List A → Option A) (call : CallT) (n lo : Nat) (x0 x1 : A) (H : Heap) : evCall1 (cx C) call n 12 [x0, x1] H lo =
 Option.bind (aAlloc Tryd.prog 24 H) fun r0 =>
 Option.bind (aBin Tryd.prog BinOp.lss 3 false true x0 (A.v (Value.int IntKind.i64 0))) fun t1 =>
 Option.bind (bIf t1 (some [A.v (Value.bool true), A.v undef, A.v undef]) (Option.bind (aBin Tryd.prog BinOp.gtr 3 false true x0 (A.v (Value.int IntKind.i64 8))) fun t2 => some [t2, t2, x0])) fun l2 => unc l2 fun u3 l3 => unc l3 fun u4 l4 => unc l4 fun u5 l5 =>
 Option.bind (bIf u3 (some [A.v (Value.bool true), A.v undef, A.v undef]) (Option.bind (aBin Tryd.prog BinOp.lss 3 false true x1 (A.v (Value.int IntKind.i64 1))) fun t6 => some [t6, t6, x1])) fun l6 => unc l6 fun u7 l7 => unc l7 fun u8 l8 => unc l8 fun u9 l9 =>
 Option.bind (bIf u7 (some [A.v (Value.bool true), A.v undef, A.v undef]) (Option.bind (aBin Tryd.prog BinOp.gtr 3 false true x1 (A.v (Value.int IntKind.i64 3))) fun t10 => some [t10, t10, x1])) fun l10 => unc l10 fun u11 l11 => unc l11 fun u12 l12 => unc l12 fun u13 l13 =>
 bIf u11 (Option.bind (aBuild Tryd.prog 24 []) fun t14 =>
 Option.bind (aStore Tryd.prog 24 r0.1 t14 r0.2 lo) fun H15 =>
 Option.bind (aLoad Tryd.prog 24 r0.1 H15) fun t16 => some (Out.ret (A.tup [t16, A.v (Value.int IntKind.i64 150)]), H15)) (Option.bind (aBin Tryd.prog BinOp.eql 3 false true x0 (A.v (Value.int IntKind.i64 0))) fun t14 =>
 bIf t14 (Option.bind (aBin Tryd.prog BinOp.sub 3 false true x1 (A.v (Value.int IntKind.i64 2))) fun t15 =>
 Option.bind (aBin Tryd.prog BinOp.mul 3 true false (A.v (Value.int IntKind.i64 841)) t15) fun t16 =>
 Option.bind (aBuild Tryd.prog 24 [(2, t16)]) fun t17 =>
 Option.bind (aStore Tryd.prog 24 r0.1 t17 r0.2 lo) fun H18 =>
 Option.bind (aLoad Tryd.prog 24 r0.1 H18) fun t19 => some (Out.ret (A.tup [t19, A.v (Value.int IntKind.i64 0)]), H18)) (Option.bind (C 14 [snap r0.2 x0]) fun t15 =>
 Option.bind (aExtract t15 0) fun t16 =>
 Option.bind (aExtract t15 1) fun t17 =>
 Option.bind (aExtract t15 2) fun t18 =>
 Option.bind (aBin Tryd.prog BinOp.eql 3 false true x1 (A.v (Value.int IntKind.i64 2))) fun t19 =>
 bIf t19 (Option.bind (aBin Tryd.prog BinOp.mul 3 true false (A.v (Value.int IntKind.i64 29)) t16) fun t20 =>
 Option.bind (aBin Tryd.prog BinOp.mul 3 true false (A.v (Value.int IntKind.i64 29)) t17) fun t21 =>
 Option.bind (aBuild Tryd.prog 24 [(0, t20), (1, t21)]) fun t22 =>
 Option.bind (aStore Tryd.prog 24 r0.1 t22 r0.2 lo) fun H23 =>
 Option.bind (aLoad Tryd.prog 24 r0.1 H23) fun t24 => some (Out.ret (A.tup [t24, A.v (Value.int IntKind.i64 0)]), H23)) (Option.bind (aBin Tryd.prog BinOp.mul 3 true false (A.v (Value.int IntKind.i64 20)) t16) fun t20 =>
 Option.bind (aBin Tryd.prog BinOp.mul 3 true false (A.v (Value.int IntKind.i64 20)) t17) fun t21 =>
 Option.bind (aBin Tryd.prog BinOp.sub 3 false true x1 (A.v (Value.int IntKind.i64 2))) fun t22 =>
 Option.bind (aBin Tryd.prog BinOp.mul 3 true false (A.v (Value.int IntKind.i64 609)) t22) fun t23 =>
 Option.bind (aBuild Tryd.prog 24 [(0, t20), (1, t21), (2, t23)]) fun t24 =>
 Option.bind (aStore Tryd.prog 24 r0.1 t24 r0.2 lo) fun H25 =>
 Option.bind (aLoad Tryd.prog 24 r0.1 H25) fun t26 => some (Out.ret (A.tup [t26, A.v (Value.int IntKind.i64 0)]), H25)))) := by kernel_rfl
theorem e13 (C : Nat → List A → Option A) (call : CallT) (n lo : Nat) (x0 : A) (H : Heap) : evCall1 (cx C) call n 13 [x0] H lo =
 Option.bind (aBin Tryd.prog BinOp.lss 3 false true x0 (A.v (Value.int IntKind.i64 1))) fun t0 =>
 Option.bind (bIf t0 (some [A.v (Value.bool true), A.v undef, A.v undef]) (Option.bind (aBin Tryd.prog BinOp.gtr 3 false true x0 (A.v (Value.int IntKind.i64 8))) fun t1 => some [t1, t1, x0])) fun l1 => unc l1 fun u2 l2 => unc l2 fun u3 l3 => unc l3 fun u4 l4 =>
 bIf u2 (some (Out.ret (A.tup [A.v (Value.int IntKind.i64 0), A.v (Value.int IntKind.i64 0), A.v (Value.int IntKind.i64 150)]), H)) (Option.bind (aBin Tryd.prog BinOp.sub 3 false true x0 (A.v (Value.int IntKind.i64 1))) fun t5 =>
 Option.bind (aIndexAddr Tryd.prog 56 (A.ip [A.v (Value.int IntKind.i64 0), A.v (Value.int IntKind.i64 29), A.v (Value.int IntKind.i64 20), A.v (Value.int IntKind.i64 21), A.v (Value.int IntKind.i64 29), A.v (Value.int IntKind.i64 0), A.v (Value.int IntKind.i64 20), A.v (Value.int IntKind.i64 (-21)), A.v (Value.int IntKind.i64 0), A.v (Value.int IntKind.i64 (-29)), A.v (Value.int IntKind.i64 (-20)), A.v (Value.int IntKind.i64 (-21)), A.v (Value.int IntKind.i64 (-29)), A.v (Value.int IntKind.i64 0), A.v (Value.int IntKind.i64 (-20)), A.v (Value.int IntKind.i64 21)]) t5 H) fun t6 =>
 Option.bind (aIndexAddr Tryd.prog 55 t6 (A.v (Value.int IntKind.i64 0)) H) fun t7 =>
 Option.bind (aLoad Tryd.prog 3 t7 H) fun t8 =>
 Option.bind (aBin Tryd.prog BinOp.sub 3 false true x0 (A.v (Value.int IntKind.i64 1))) fun t9 =>
 Option.bind (aIndexAddr Tryd.prog 56 (A.ip [A.v (Value.int IntKind.i64 0), A.v (Value.int IntKind.i64 29), A.v (Value.int IntKind.i64 20), A.v (Value.int IntKind.i64 21), A.v (Value.int IntKind.i64 29), A.v (Value.int IntKind.i64 0), A.v (Value.int IntKind.i64 20), A.v (Value.int IntKind.i64 (-21)), A.v (Value.int IntKind.i64 0), A.v (Value.int IntKind.i64 (-29)), A.v (Value.int IntKind.i64 (-20)), A.v (Value.int IntKind.i64 (-21)), A.v (Value.int IntKind.i64 (-29)), A.v (Value.int IntKind.i64 0), A.v (Value.int IntKind.i64 (-20)), A.v (Value.int IntKind.i64 21)]) t9 H) fun t10 =>
 Option.bind (aIndexAddr Tryd.prog 55 t10 (A.v (Value.int IntKind.i64 1)) H) fun t11 =>
 Option.bind (aLoad Tryd.prog 3 t11 H) fun t12 => some (Out.ret (A.tup [t8, t12, A.v (Value.int IntKind.i64 0)]), H)) := by kernel_rfl
theorem e14 (C : Nat → List A → Option A) (call : CallT) (n lo : Nat) (x0 : A) (H : Heap) : evCall1 (cx C) call n 14 [x0] H lo =
 Option.bind (aBin Tryd.prog BinOp.eql 3 false true x0 (A.v (Value.int IntKind.i64 1))) fun t0 =>
 bIf t0 (some (Out.ret (A.tup [A.v (Value.int IntKind.i64 0), A.v (Value.int IntKind.i64 29), A.v (Value.int IntKind.i64 0)]), H)) (Option.bind (aBin Tryd.prog BinOp.eql 3 false true x0 (A.v (Value.int IntKind.i64 2))) fun t1 =>
 bIf t1 (some (Out.ret (A.tup [A.v (Value.int IntKind.i64 20), A.v (Value.int IntKind.i64 21), A.v (Value.int IntKind.i64 0)]), H)) (Option.bind (aBin Tryd.prog BinOp.eql 3 false true x0 (A.v (Value.int IntKind.i64 3))) fun t2 =>
 bIf t2 (some (Out.ret (A.tup [A.v (Value.int IntKind.i64 29), A.v (Value.int IntKind.i64 0), A.v (Value.int IntKind.i64 0)]), H)) (Option.bind (aBin Tryd.prog BinOp.eql 3 false true x0 (A.v (Value.int IntKind.i64 4))) fun t3 =>
 bIf t3 (some (Out.ret (A.tup [A.v (Value.int IntKind.i64 20), A.v (Value.int IntKind.i64 (-21)), A.v (Value.int IntKind.i64 0)]), H)) (Option.bind (aBin Tryd.prog BinOp.eql 3 false true x0 (A.v (Value.int IntKind.i64 5))) fun t4 =>
 bIf t4 (some (Out.ret (A.tup [A.v (Value.int IntKind.i64 0), A.v (Value.int IntKind.i64 (-29)), A.v (Value.int IntKind.i64 0)]), H)) (Option.bind (aBin Tryd.prog BinOp.eql 3 false true x0 (A.v (Value.int IntKind.i64 6))) fun t5 =>
 bIf t5 (some (Out.ret (A.tup [A.v (Value.int IntKind.i64 (-20)), A.v (Value.int IntKind.i64 (-21)), A.v (Value.int IntKind.i64 0)]), H)) (Option.bind (aBin Tryd.prog BinOp.eql 3 false true x0 (A.v (Value.int IntKind.i64 7))) fun t6 =>
 bIf t6 (some (Out.ret (A.tup [A.v (Value.int IntKind.i64 (-29)), A.v (Value.int IntKind.i64 0), A.v (Value.int IntKind.i64 0)]), H)) (Option.bind (aBin Tryd.prog BinOp.eql 3 false true x0 (A.v (Value.int IntKind.i64 8))) fun t7 =>
 bIf t7 (some (Out.ret (A.tup [A.v (Value.int IntKind.i64 (-20)), A.v (Value.int IntKind.i64 21), A.v (Value.int IntKind.i64 0)]), H)) (some (Out.ret (A.tup [A.v (Value.int IntKind.i64 0), A.v (Value.int IntKind.i64 0), A.v (Value.int IntKind.i64 150)]), H))))))))) := by kernel_rfl
theorem e15 (C : Nat → List A → Option A) (call : CallT) (n lo : Nat) (x0 x1 : A) (H : Heap) : evCall1 (cx C) call n 15 [x0, x1] H lo =
 Option.bind (aBin Tryd.prog BinOp.lss 3 false true x0 (A.v (Value.int IntKind.i64 0))) fun t0 =>
 Option.bind (bIf t0 (some [A.v (Value.bool true), A.v undef, A.v undef]) (Option.bind (aBin Tryd.prog BinOp.gtr 3 false true x0 (A.v (Value.int IntKind.i64 8))) fun t1 => some [t1, t1, x0])) fun l1 => unc l1 fun u2 l2 => unc l2 fun u3 l3 => unc l3 fun u4 l4 =>
 Option.bind (bIf u2 (some [A.v (Value.bool true), A.v undef, A.v undef]) (Option.bind (aBin Tryd.prog BinOp.lss 3 false true x1 (A.v (Value.int IntKind.i64 0))) fun t5 => some [t5, t5, x1])) fun l5 => unc l5 fun u6 l6 => unc l6 fun u7 l7 => unc l7 fun u8 l8 =>
 Option.bind (bIf u6 (some [A.v (Value.bool true), A.v undef, A.v undef]) (Option.bind (aBin Tryd.prog BinOp.gtr 3 false true x1 (A.v (Value.int IntKind.i64 7))) fun t9 => some [t9, t9, x1])) fun l9 => unc l9 fun u10 l10 => unc l10 fun u11 l11 => unc l11 fun u12 l12 =>
 bIf u10 (some (Out.ret (A.tup [A.v (Value.int IntKind.i64 0), A.v (Value.int IntKind.i64 150)]), H)) (Option.bind (aBin Tryd.prog BinOp.eql 3 false true x0 (A.v (Value.int IntKind.i64 0))) fun t13 =>
 bIf t13 (some (Out.ret (A.tup [A.v (Value.int IntKind.i64 0), A.v (Value.int IntKind.i64 0)]), H)) (Option.bind (aBin Tryd.prog BinOp.add 3 false false x0 x1) fun t14 =>
 Option.bind (aBin Tryd.prog BinOp.gtr 3 false true t14 (A.v (Value.int IntKind.i64 8))) fun t15 =>
 bIf t15 (Option.bind (aBin Tryd.prog BinOp.sub 3 false true t14 (A.v (Value.int IntKind.i64 8))) fun t16 => some (Out.ret (A.tup [t16, A.v (Value.int IntKind.i64 0)]), H)) (some (Out.ret (A.tup [t14, A.v (Value.int IntKind.i64 0)]), H)))) := by kernel_rfl
theorem e16 (C : Nat → List A → Option A) (call : CallT) (n lo : Nat) (x0 x1 : A) (H : Heap) : evCall1 (cx C) call n 16 [x0, x1] H lo =
 Option.bind (aBin Tryd.prog BinOp.lss 3 false true x0 (A.v (Value.int IntKind.i64 0))) fun t0 =>
 Option.bind (bIf t0 (some [A.v (Value.bool true), A.v undef, A.v undef]) (Option.bind (aBin Tryd.prog BinOp.gtr 3 false true x0 (A.v (Value.int IntKind.i64 8))) fun t1 => some [t1, t1, x0])) fun l1 => unc l1 fun u2 l2 => unc l2 fun u3 l3 => unc l3 fun u4 l4 =>
 Option.bind (bIf u2 (some [A.v (Value.bool true), A.v undef, A.v undef]) (Option.bind (aBin Tryd.prog BinOp.lss 3 false true x1 (A.v (Value.int IntKind.i64 0))) fun t5 => some [t5, t5, x1])) fun l5 => unc l5 fun u6 l6 => unc l6 fun u7 l7 => unc l7 fun u8 l8 =>
 Option.bind (bIf u6 (some [A.v (Value.bool true), A.v undef, A.v undef]) (Option.bind (aBin Tryd.prog BinOp.gtr 3 false true x1 (A.v (Value.int IntKind.i64 7))) fun t9 => some [t9, t9, x1])) fun l9 => unc l9 fun u10 l10 => unc l10 fun u11 l11 => unc l11 fun u12 l12 =>
 bIf u10 (some (Out.ret (A.tup [A.v (Value.int IntKind.i64 0), A.v (Value.int IntKind.i64 150)]), H)) (Option.bind (aBin Tryd.prog BinOp.eql 3 false true x0 (A.v (Value.int IntKind.i64 0))) fun t13 =>
 bIf t13 (some (Out.ret (A.tup [A.v (Value.int IntKind.i64 0), A.v (Value.int IntKind.i64 0)]), H)) (Option.bind (aBin Tryd.prog BinOp.sub 3 false true x0 (A.v (Value.int IntKind.i64 1))) fun t14 =>
 Option.bind (aBin Tryd.prog BinOp.add 3 false false t14 x1) fun t15 =>
 Option.bind (aBin Tryd.prog BinOp.rem 3 false true t15 (A.v (Value.int IntKind.i64 8))) fun t16 =>
 Option.bind (aBin Tryd.prog BinOp.add 3 false true t16 (A.v (Value.int IntKind.i64 1))) fun t17 => some (Out.ret (A.tup [t17, A.v (Value.int IntKind.i64 0)]), H))) := by kernel_rfl
theorem e17 (C : Nat → List A → Option A) (call : CallT) (n lo : Nat) (x0 : A) (H : Heap) : evCall1 (cx C) call n 17 [x0] H lo =
 Option.bind (aBin Tryd.prog BinOp.lss 3 false true x0 (A.v (Value.int IntKind.i64 0))) fun t0 =>
 Option.bind (bIf t0 (some [A.v (Value.bool true), A.v undef, A.v undef]) (Option.bind (aBin Tryd.prog BinOp.gtr 3 false true x0 (A.v (Value.int IntKind.i64 8))) fun t1 => some [t1, t1, x0])) fun l1 => unc l1 fun u2 l2 => unc l2 fun u3 l3 => unc l3 fun u4 l4 =>
 bIf u2 (some (Out.ret (A.tup [A.v (Value.int IntKind.i64 0), A.v (Value.int IntKind.i64 150)]), H)) (Option.bind (aBin Tryd.prog BinOp.leq 3 false true x0 (A.v (Value.int IntKind.i64 1))) fun t5 =>
 bIf t5 (some (Out.ret (A.tup [x0, A.v (Value.int IntKind.i64 0)]), H)) (Option.bind (aBin Tryd.prog BinOp.sub 3 true false (A.v (Value.int IntKind.i64 10)) x0) fun t6 => some (Out.ret (A.tup [t6, A.v (Value.int IntKind.i64 0)]), H))) := by kernel_rfl
theorem e18 (C : Nat → List A → Option A) (call : CallT) (n lo : Nat) (x0 : A) (H : Heap) : evCall1 (cx C) call n 18 [x0] H lo =
 Option.bind (aBin Tryd.prog BinOp.lss 3 false true x0 (A.v (Value.int IntKind.i64 0))) fun t0 =>
 Option.bind (bIf t0 (some [A.v (Value.bool true), A.v undef, A.v undef]) (Option.bind (aBin Tryd.prog BinOp.gtr 3 false true x0 (A.v (Value.int IntKind.i64 8))) fun t1 => some [t1, t1, x0])) fun l1 => unc l1 fun u2 l2 => unc l2 fun u3 l3 => unc l3 fun u4 l4 =>
 bIf u2 (some (Out.ret (A.tup [A.v (Value.int IntKind.i64 0), A.v (Value.int IntKind.i64 150)]), H)) (Option.bind (aBin Tryd.prog BinOp.lss 3 false true x0 (A.v (Value.int IntKind.i64 2))) fun t5 =>
 bIf t5 (some (Out.ret (A.tup [x0, A.v (Value.int IntKind.i64 0)]), H)) (Option.bind (aBin Tryd.prog BinOp.sub 3 true false (A.v (Value.int IntKind.i64 10)) x0) fun t6 => some (Out.ret (A.tup [t6, A.v (Value.int IntKind.i64 0)]), H))) := by kernel_rfl
theorem e19 (C : Nat → List A → Option A) (call : CallT) (n lo : Nat) (x0 x1 : A) (H : Heap) : evCall1 (cx C) call n 19 [x0, x1] H lo =
 Option.bind (aBox x0 H) fun r0 =>
 Option.bind (aBox x1 r0.2) fun r1 =>
 Option.bind (aFieldAddr Tryd.prog 24 r0.1 0 r1.2) fun t2 =>
 Option.bind (aLoad Tryd.prog 3 t2 r1.2) fun t3 =>
 Option.bind (aFieldAddr Tryd.prog 24 r0.1 1 r1.2) fun t4 =>
 Option.bind (aLoad Tryd.prog 3 t4 r1.2) fun t5 =>
 Option.bind (aFieldAddr Tryd.prog 24 r0.1 2 r1.2) fun t6 =>
 Option.bind (aLoad Tryd.prog 3 t6 r1.2) fun t7 =>
 Option.bind (aFieldAddr Tryd.prog 24 r1.1 0 r1.2) fun t8 =>
 Option.bind (aLoad Tryd.prog 3 t8 r1.2) fun t9 =>
 Option.bind (aFieldAddr Tryd.prog 24 r1.1 1 r1.2) fun t10 =>
 Option.bind (aLoad Tryd.prog 3 t10 r1.2) fun t11 =>
 Option.bind (aFieldAddr Tryd.prog 24 r1.1 2 r1.2) fun t12 =>
 Option.bind (aLoad Tryd.prog 3 t12 r1.2) fun t13 =>
 Option.bind (aBuildSlice Tryd.prog 49 6 [(0, frzA r1.2 t3), (1, frzA r1.2 t5), (2, frzA r1.2 t7), (3, frzA r1.2 t9), (4, frzA r1.2 t11), (5, frzA r1.2 t13)]) fun t14 =>
 Option.bind (C 32 [snap r1.2 (A.v (Value.int IntKind.i64 1048576)), snap r1.2 t14]) fun t15 =>
 Option.bind (aUn Tryd.prog UnOp.not t15) fun t16 =>
 bIf t16 (some (Out.ret (A.tup [A.v (Value.int IntKind.i64 0), A.v (Value.int IntKind.i64 2)]), r1.2)) (Option.bind (aFieldAddr Tryd.prog 24 r0.1 0 r1.2) fun t17 =>
 Option.bind (aLoad Tryd.prog 3 t17 r1.2) fun t18 =>
 Option.bind (aFieldAddr Tryd.prog 24 r1.1 0 r1.2) fun t19 =>
 Option.bind (aLoad Tryd.prog 3 t19 r1.2) fun t20 =>
 Option.bind (aBin Tryd.prog BinOp.mul 3 false false t18 t20) fun t21 =>
 Option.bind (aFieldAddr Tryd.prog 24 r0.1 1 r1.2) fun t22 =>
 Option.bind (aLoad Tryd.prog 3 t22 r1.2) fun t23 =>
 Option.bind (aFieldAddr Tryd.prog 24 r1.1 1 r1.2) fun t24 =>
 Option.bind (aLoad Tryd.prog 3 t24 r1.2) fun t25 =>
 Option.bind (aBin Tryd.prog BinOp.mul 3 false false t23 t25) fun t26 =>
 Option.bind (aBin Tryd.prog BinOp.add 3 false false t21 t26) fun t27 =>
 Option.bind (aFieldAddr Tryd.prog 24 r0.1 2 r1.2) fun t28 =>
 Option.bind (aLoad Tryd.prog 3 t28 r1.2) fun t29 =>
 Option.bind (aFieldAddr Tryd.prog 24 r1.1 2 r1.2) fun t30 =>
 Option.bind (aLoad Tryd.prog 3 t30 r1.2) fun t31 =>
 Option.bind (aBin Tryd.prog BinOp.mul 3 false false t29 t31) fun t32 =>
 Option.bind (aBin Tryd.prog BinOp.add 3 false false t27 t32) fun t33 => some (Out.ret (A.tup [t33, A.v (Value.int IntKind.i64 0)]), r1.2)) := by kernel_rfl
theorem e20 (C : Nat → List A → Option A) (call : CallT) (n lo : Nat) (x0 x1 : A) (H : Heap) : evCall1 (cx C) call n 20 [x0, x1] H lo =
 Option.bind (aBox x0 H) fun r0 =>
 Option.bind (aBox x1 r0.2) fun r1 =>
 Option.bind (aLoad Tryd.prog 24 r0.1 r1.2) fun t2 =>
 Option.bind (C 33 [snap r1.2 t2]) fun t3 =>
 Option.bind (aUn Tryd.prog UnOp.not t3) fun t4 =>
 Option.bind (bIf t4 (some [A.v (Value.bool true), A.v undef, A.v undef, A.v undef]) (Option.bind (aLoad Tryd.prog 24 r1.1 r1.2) fun t5 =>
 Option.bind (C 33 [snap r1.2 t5]) fun t6 =>
 Option.bind (aUn Tryd.prog UnOp.not t6) fun t7 => some [t7, t7, t6, t5])) fun l5 => unc l5 fun u6 l6 => unc l6 fun u7 l7 => unc l7 fun u8 l8 => unc l8 fun u9 l9 =>
 bIf u6 (some (Out.ret (A.tup [A.v (Value.int IntKind.i64 0), A.v (Value.int IntKind.i64 2)]), r1.2)) (Option.bind (aFieldAddr Tryd.prog 24 r0.1 0 r1.2) fun t10 =>
 Option.bind (aLoad Tryd.prog 3 t10 r1.2) fun t11 =>
 Option.bind (aFieldAddr Tryd.prog 24 r1.1 0 r1.2) fun t12 =>
 Option.bind (aLoad Tryd.prog 3 t12 r1.2) fun t13 =>
 Option.bind (aBin Tryd.prog BinOp.mul 3 false false t11 t13) fun t14 =>
 Option.bind (aFieldAddr Tryd.prog 24 r0.1 1 r1.2) fun t15 =>
 Option.bind (aLoad Tryd.prog 3 t15 r1.2) fun t16 =>
 Option.bind (aFieldAddr Tryd.prog 24 r1.1 1 r1.2) fun t17 =>
 Option.bind (aLoad Tryd.prog 3 t17 r1.2) fun t18 =>
 Option.bind (aBin Tryd.prog BinOp.mul 3 false false t16 t18) fun t19 =>
 Option.bind (aBin Tryd.prog BinOp.add 3 false false t14 t19) fun t20 =>
 Option.bind (aFieldAddr Tryd.prog 24 r0.1 2 r1.2) fun t21 =>
 Option.bind (aLoad Tryd.prog 3 t21 r1.2) fun t22 =>
 Option.bind (aFieldAddr Tryd.prog 24 r1.1 2 r1.2) fun t23 =>
 Option.bind (aLoad Tryd.prog 3 t23 r1.2) fun t24 =>
 Option.bind (aBin Tryd.prog BinOp.mul 3 false false t22 t24) fun t25 =>
 Option.bind (aBin Tryd.prog BinOp.add 3 false false t20 t25) fun t26 => some (Out.ret (A.tup [t26, A.v (Value.int IntKind.i64 0)]), r1.2)) := by kernel_rfl
theorem e21 (C : Nat → List A → Option A) (call : CallT) (n lo : Nat) (x0 x1 : A) (H : Heap) : evCall1 (cx C) call n 21 [x0, x1] H lo =
 Option.bind (aBox x0 H) fun r0 =>
 Option.bind (aBox x1 r0.2) fun r1 =>
 Option.bind (aAlloc Tryd.prog 37 r1.2) fun r2 =>
 Option.bind (aLoad Tryd.prog 37 r0.1 r2.2) fun t3 =>
 Option.bind (C 34 [snap r2.2 t3]) fun t4 =>
 Option.bind (aUn Tryd.prog UnOp.not t4) fun t5 =>
 Option.bind (bIf t5 (some [A.v (Value.bool true), A.v undef, A.v undef, A.v undef]) (Option.bind (aLoad Tryd.prog 37 r1.1 r2.2) fun t6 =>
 Option.bind (C 34 [snap r2.2 t6]) fun t7 =>
 Option.bind (aUn Tryd.prog UnOp.not t7) fun t8 => some [t8, t8, t7, t6])) fun l6 => unc l6 fun u7 l7 => unc l7 fun u8 l8 => unc l8 fun u9 l9 => unc l9 fun u10 l10 =>
 bIf u7 (Option.bind (aLoad Tryd.prog 37 r2.1 r2.2) fun t11 =>
 Option.bind (aStore Tryd.prog 37 r2.1 t11 r2.2 lo) fun H12 =>
 Option.bind (aLoad Tryd.prog 37 r2.1 H12) fun t13 => some (Out.ret (A.tup [t13, A.v (Value.int IntKind.i64 150)]), H12)) (Option.bind (aFieldAddr Tryd.prog 37 r0.1 0 r2.2) fun t11 =>
 Option.bind (aFieldAddr Tryd.prog 35 t11 0 r2.2) fun t12 =>
 Option.bind (aLoad Tryd.prog 3 t12 r2.2) fun t13 =>
 Option.bind (aFieldAddr Tryd.prog 37 r1.1 0 r2.2) fun t14 =>
 Option.bind (aFieldAddr Tryd.prog 35 t14 0 r2.2) fun t15 =>
 Option.bind (aLoad Tryd.prog 3 t15 r2.2) fun t16 =>
 Option.bind (aMM true t13 [t16]) fun t17 =>
 Option.bind (aFieldAddr Tryd.prog 37 r0.1 0 r2.2) fun t18 =>
 Option.bind (aFieldAddr Tryd.prog 35 t18 1 r2.2) fun t19 =>
 Option.bind (aLoad Tryd.prog 3 t19 r2.2) fun t20 =>
 Option.bind (aFieldAddr Tryd.prog 37 r1.1 0 r2.2) fun t21 =>
 Option.bind (aFieldAddr Tryd.prog 35 t21 1 r2.2) fun t22 =>
 Option.bind (aLoad Tryd.prog 3 t22 r2.2) fun t23 =>
 Option.bind (aMM false t20 [t23]) fun t24 =>
 Option.bind (aBuild Tryd.prog 35 [(0, t17), (1, t24)]) fun t25 =>
 Option.bind (aFieldAddr Tryd.prog 37 r2.1 0 r2.2) fun t26 =>
 Option.bind (aStore Tryd.prog 35 t26 t25 r2.2 lo) fun H27 =>
 Option.bind (aFieldAddr Tryd.prog 37 r0.1 1 H27) fun t28 =>
 Option.bind (aFieldAddr Tryd.prog 35 t28 0 H27) fun t29 =>
 Option.bind (aLoad Tryd.prog 3 t29 H27) fun t30 =>
 Option.bind (aFieldAddr Tryd.prog 37 r1.1 1 H27) fun t31 =>
 Option.bind (aFieldAddr Tryd.prog 35 t31 0 H27) fun t32 =>
 Option.bind (aLoad Tryd.prog 3 t32 H27) fun t33 =>
 Option.bind (aMM true t30 [t33]) fun t34 =>
 Option.bind (aFieldAddr Tryd.prog 37 r0.1 1 H27) fun t35 =>
 Option.bind (aFieldAddr Tryd.prog 35 t35 1 H27) fun t36 =>
 Option.bind (aLoad Tryd.prog 3 t36 H27) fun t37 =>
 Option.bind (aFieldAddr Tryd.prog 37 r1.1 1 H27) fun t38 =>
 Option.bind (aFieldAddr Tryd.prog 35 t38 1 H27) fun t39 =>
 Option.bind (aLoad Tryd.prog 3 t39 H27) fun t40 =>
 Option.bind (aMM false t37 [t40]) fun t41 =>
 Option.bind (aBuild Tryd.prog 35 [(0, t34), (1, t41)]) fun t42 =>
 Option.bind (aFieldAddr Tryd.prog 37 r2.1 1 H27) fun t43 =>
 Option.bind (aStore Tryd.prog 35 t43 t42 H27 lo) fun H44 =>
 Option.bind (aLoad Tryd.prog 37 r2.1 H44) fun t45 =>
 Option.bind (aStore Tryd.prog 37 r2.1 t45 H44 lo) fun H46 =>
 Option.bind (aLoad Tryd.prog 37 r2.1 H46) fun t47 => some (Out.ret (A.tup [t47, A.v (Value.int IntKind.i64 0)]), H46)) := by kernel_rfl
theorem e22 (C : Nat → List A → Option A) (call : CallT) (n lo : Nat) (x0 x1 : A) (H : Heap) : evCall1 (cx C) call n 22 [x0, x1] H lo =
 Option.bind (aBox x0 H) fun r0 =>
 Option.bind (aBox x1 r0.2) fun r1 =>
 Option.bind (aAlloc Tryd.prog 37 r1.2) fun r2 =>
 Option.bind (aLoad Tryd.prog 37 r0.1 r2.2) fun t3 =>
 Option.bind (C 35 [snap r2.2 t3]) fun t4 =>
 Option.bind (aUn Tryd.prog UnOp.not t4) fun t5 =>
 Option.bind (bIf t5 (some [A.v (Value.bool true), A.v undef, A.v undef, A.v undef]) (Option.bind (aLoad Tryd.prog 37 r1.1 r2.2) fun t6 =>
 Option.bind (C 35 [snap r2.2 t6]) fun t7 =>
 Option.bind (aUn Tryd.prog UnOp.not t7) fun t8 => some [t8, t8, t7, t6])) fun l6 => unc l6 fun u7 l7 => unc l7 fun u8 l8 => unc l8 fun u9 l9 => unc l9 fun u10 l10 =>
 bIf u7 (Option.bind (aBuild Tryd.prog 37 []) fun t11 =>
 Option.bind (aStore Tryd.prog 37 r2.1 t11 r2.2 lo) fun H12 =>
 Option.bind (aLoad Tryd.prog 37 r2.1 H12) fun t13 => some (Out.ret (A.tup [t13, A.v (Value.int IntKind.i64 150)]), H12)) (Option.bind (aFieldAddr Tryd.prog 37 r0.1 0 r2.2) fun t11 =>
 Option.bind (aLoad Tryd.prog 35 t11 r2.2) fun t12 =>
 Option.bind (aFieldAddr Tryd.prog 37 r1.1 0 r2.2) fun t13 =>
 Option.bind (aLoad Tryd.prog 35 t13 r2.2) fun t14 =>
 Option.bind (C 36 [snap r2.2 t12, snap r2.2 t14]) fun t15 =>
 Option.bind (aFieldAddr Tryd.prog 37 r0.1 1 r2.2) fun t16 =>
 Option.bind (aLoad Tryd.prog 35 t16 r2.2) fun t17 =>
 Option.bind (aFieldAddr Tryd.prog 37 r1.1 1 r2.2) fun t18 =>
 Option.bind (aLoad Tryd.prog 35 t18 r2.2) fun t19 =>
 Option.bind (C 36 [snap r2.2 t17, snap r2.2 t19]) fun t20 =>
 Option.bind (aBuild Tryd.prog 37 [(0, t15), (1, t20)]) fun t21 =>
 Option.bind (aStore Tryd.prog 37 r2.1 t21 r2.2 lo) fun H22 =>
 Option.bind (aLoad Tryd.prog 37 r2.1 H22) fun t23 => some (Out.ret (A.tup [t23, A.v (Value.int IntKind.i64 0)]), H22)) := by kernel_rfl
theorem e23 (C : Nat → List A → Option A) (call : CallT) (n lo : Nat) (x0 x1 : A) (H : Heap) : evCall1 (cx C) call n 23 [x0, x1] H lo =
 Option.bind (aBox x0 H) fun r0 =>
 Option.bind (aBox x1 r0.2) fun r1 =>
 Option.bind (aLoad Tryd.prog 37 r0.1 r1.2) fun t2 =>
 Option.bind (C 34 [snap r1.2 t2]) fun t3 =>
 Option.bind (aUn Tryd.prog UnOp.not t3) fun t4 =>
 Option.bind (bIf t4 (some [A.v (Value.bool true), A.v undef, A.v undef, A.v undef]) (Option.bind (aLoad Tryd.prog 37 r1.1 r1.2) fun t5 =>
 Option.bind (C 34 [snap r1.2 t5]) fun t6 =>
 Option.bind (aUn Tryd.prog UnOp.not t6) fun t7 => some [t7, t7, t6, t5])) fun l5 => unc l5 fun u6 l6 => unc l6 fun u7 l7 => unc l7 fun u8 l8 => unc l8 fun u9 l9 =>
 bIf u6 (some (Out.ret (A.tup [A.v (Value.bool false), A.v (Value.int IntKind.i64 150)]), r1.2)) (Option.bind (aLoad Tryd.prog 37 r0.1 r1.2) fun t10 =>
 Option.bind (aLoad Tryd.prog 37 r1.1 r1.2) fun t11 =>
 Option.bind (C 37 [snap r1.2 t10, snap r1.2 t11, snap r1.2 (A.fn (Fn.func 38) [] [])]) fun t12 =>
 Option.bind (aUn Tryd.prog UnOp.not t12) fun t13 => some (Out.ret (A.tup [t13, A.v (Value.int IntKind.i64 0)]), r1.2)) := by kernel_rfl
theorem e24 (C : Nat → List A → Option A) (call : CallT) (n lo : Nat) (x0 x1 : A) (H : Heap) : evCall1 (cx C) call n 24 [x0, x1] H lo =
 Option.bind (aBox x0 H) fun r0 =>
 Option.bind (aBox x1 r0.2) fun r1 =>
 Option.bind (aLoad Tryd.prog 37 r0.1 r1.2) fun t2 =>
 Option.bind (C 35 [snap r1.2 t2]) fun t3 =>
 Option.bind (aUn Tryd.prog UnOp.not t3) fun t4 =>
 Option.bind (bIf t4 (some [A.v (Value.bool true), A.v undef, A.v undef, A.v undef]) (Option.bind (aLoad Tryd.prog 37 r1.1 r1.2) fun t5 =>
 Option.bind (C 35 [snap r1.2 t5]) fun t6 =>
 Option.bind (aUn Tryd.prog UnOp.not t6) fun t7 => some [t7, t7, t6, t5])) fun l5 => unc l5 fun u6 l6 => unc l6 fun u7 l7 => unc l7 fun u8 l8 => unc l8 fun u9 l9 =>
 bIf u6 (some (Out.ret (A.tup [A.v (Value.bool false), A.v (Value.int IntKind.i64 150)]), r1.2)) (Option.bind (aFieldAddr Tryd.prog 37 r0.1 0 r1.2) fun t10 =>
 Option.bind (aLoad Tryd.prog 35 t10 r1.2) fun t11 =>
 Option.bind (aFieldAddr Tryd.prog 37 r1.1 0 r1.2) fun t12 =>
 Option.bind (aLoad Tryd.prog 35 t12 r1.2) fun t13 =>
 Option.bind (C 39 [snap r1.2 t11, snap r1.2 t13]) fun t14 =>
 Option.bind (aUn Tryd.prog UnOp.not t14) fun t15 =>
 Option.bind (bIf t15 (some [A.v (Value.bool true), A.v undef, A.v undef, A.v undef, A.v undef, A.v undef, A.v undef]) (Option.bind (aFieldAddr Tryd.prog 37 r0.1 1 r1.2) fun t16 =>
 Option.bind (aLoad Tryd.prog 35 t16 r1.2) fun t17 =>
 Option.bind (aFieldAddr Tryd.prog 37 r1.1 1 r1.2) fun t18 =>
 Option.bind (aLoad Tryd.prog 35 t18 r1.2) fun t19 =>
 Option.bind (C 39 [snap r1.2 t17, snap r1.2 t19]) fun t20 =>
 Option.bind (aUn Tryd.prog UnOp.not t20) fun t21 => some [t21, t21, t20, t19, t18, t17, t16])) fun l16 => unc l16 fun u17 l17 => unc l17 fun u18 l18 => unc l18 fun u19 l19 => unc l19 fun u20 l20 => unc l20 fun u21 l21 => unc l21 fun u22 l22 => unc l22 fun u23 l23 => some (Out.ret (A.tup [u17, A.v (Value.int IntKind.i64 0)]), r1.2)) := by kernel_rfl
theorem e25 (C : Nat → List A → Option A) (call : CallT) (n lo : Nat) (x0 x1 : A) (H : Heap) : evCall1 (cx C) call n 25 [x0, x1] H lo =
 Option.bind (aBox x0 H) fun r0 =>
 Option.bind (aBox x1 r0.2) fun r1 =>
 Option.bind (aLoad Tryd.prog 37 r0.1 r1.2) fun t2 =>
 Option.bind (C 34 [snap r1.2 t2]) fun t3 =>
 Option.bind (aUn Tryd.prog UnOp.not t3) fun t4 =>
 Option.bind (bIf t4 (some [A.v (Value.bool true), A.v undef, A.v undef, A.v undef]) (Option.bind (aLoad Tryd.prog 37 r1.1 r1.2) fun t5 =>
 Option.bind (C 34 [snap r1.2 t5]) fun t6 =>
 Option.bind (aUn Tryd.prog UnOp.not t6) fun t7 => some [t7, t7, t6, t5])) fun l5 => unc l5 fun u6 l6 => unc l6 fun u7 l7 => unc l7 fun u8 l8 => unc l8 fun u9 l9 =>
 bIf u6 (some (Out.ret (A.tup [A.v (Value.bool false), A.v (Value.int IntKind.i64 150)]), r1.2)) (Option.bind (aLoad Tryd.prog 37 r0.1 r1.2) fun t10 =>
 Option.bind (aLoad Tryd.prog 37 r1.1 r1.2) fun t11 =>
 Option.bind (C 37 [snap r1.2 t10, snap r1.2 t11, snap r1.2 (A.fn (Fn.func 40) [] [])]) fun t12 => some (Out.ret (A.tup [t12, A.v (Value.int IntKind.i64 0)]), r1.2)) := by kernel_rfl
theorem e26 (C : Nat → List A → Option A) (call : CallT) (n lo : Nat) (x0 x1 : A) (H : Heap) : evCall1 (cx C) call n 26 [x0, x1] H lo =
 Option.bind (aBox x0 H) fun r0 =>
 Option.bind (aBox x1 r0.2) fun r1 =>
 Option.bind (aLoad Tryd.prog 37 r0.1 r1.2) fun t2 =>
 Option.bind (C 35 [snap r1.2 t2]) fun t3 =>
 Option.bind (aUn Tryd.prog UnOp.not t3) fun t4 =>
 Option.bind (bIf t4 (some [A.v (Value.bool true), A.v undef, A.v undef, A.v undef]) (Option.bind (aLoad Tryd.prog 37 r1.1 r1.2) fun t5 =>
 Option.bind (C 35 [snap r1.2 t5]) fun t6 =>
 Option.bind (aUn Tryd.prog UnOp.not t6) fun t7 => some [t7, t7, t6, t5])) fun l5 => unc l5 fun u6 l6 => unc l6 fun u7 l7 => unc l7 fun u8 l8 => unc l8 fun u9 l9 =>
 bIf u6 (some (Out.ret (A.tup [A.v (Value.bool false), A.v (Value.int IntKind.i64 150)]), r1.2)) (Option.bind (aFieldAddr Tryd.prog 37 r0.1 0 r1.2) fun t10 =>
 Option.bind (aLoad Tryd.prog 35 t10 r1.2) fun t11 =>
 Option.bind (aFieldAddr Tryd.prog 37 r1.1 0 r1.2) fun t12 =>
 Option.bind (aLoad Tryd.prog 35 t12 r1.2) fun t13 =>
 Option.bind (C 41 [snap r1.2 t11, snap r1.2 t13]) fun t14 =>
 Option.bind (bIf t14 (Option.bind (aFieldAddr Tryd.prog 37 r0.1 1 r1.2) fun t15 =>
 Option.bind (aLoad Tryd.prog 35 t15 r1.2) fun t16 =>
 Option.bind (aFieldAddr Tryd.prog 37 r1.1 1 r1.2) fun t17 =>
 Option.bind (aLoad Tryd.prog 35 t17 r1.2) fun t18 =>
 Option.bind (C 41 [snap r1.2 t16, snap r1.2 t18]) fun t19 => some [t19, t19, t18, t17, t16, t15]) (some [A.v (Value.bool false), A.v undef, A.v undef, A.v undef, A.v undef, A.v undef])) fun l15 => unc l15 fun u16 l16 => unc l16 fun u17 l17 => unc l17 fun u18 l18 => unc l18 fun u19 l19 => unc l19 fun u20 l20 => unc l20 fun u21 l21 => some (Out.ret (A.tup [u16, A.v (Value.int IntKind.i64 0)]), r1.2)) := by kernel_rfl
theorem e27 (C : Nat → List A → Option A) (call : CallT) (n lo : Nat) (x0 x1 x2 : A) (H : Heap) : evCall1 (cx C) call n 27 [x0, x1, x2] H lo =
 Option.bind (aBox x0 H) fun r0 =>
 Option.bind (aAlloc Tryd.prog 37 r0.2) fun r1 =>
 Option.bind (aLoad Tryd.prog 37 r0.1 r1.2) fun t2 =>
 Option.bind (C 34 [snap r1.2 t2]) fun t3 =>
 Option.bind (aUn Tryd.prog UnOp.not t3) fun t4 =>
 bIf t4 (Option.bind (aLoad Tryd.prog 37 r1.1 r1.2) fun t5 =>
 Option.bind (aStore Tryd.prog 37 r1.1 t5 r1.2 lo) fun H6 =>
 Option.bind (aLoad Tryd.prog 37 r1.1 H6) fun t7 => some (Out.ret (A.tup [t7, A.v (Value.int IntKind.i64 150)]), H6)) (Option.bind (aBuildSlice Tryd.prog 49 2 [(0, frzA r1.2 x1), (1, frzA r1.2 x2)]) fun t5 =>
 Option.bind (C 32 [snap r1.2 (A.v (Value.int IntKind.i64 2199023255552)), snap r1.2 t5]) fun t6 =>
 Option.bind (aUn Tryd.prog UnOp.not t6) fun t7 =>
 bIf t7 (Option.bind (aLoad Tryd.prog 37 r1.1 r1.2) fun t8 =>
 Option.bind (aStore Tryd.prog 37 r1.1 t8 r1.2 lo) fun H9 =>
 Option.bind (aLoad Tryd.prog 37 r1.1 H9) fun t10 => some (Out.ret (A.tup [t10, A.v (Value.int IntKind.i64 2)]), H9)) (Option.bind (aFieldAddr Tryd.prog 37 r0.1 0 r1.2) fun t8 =>
 Option.bind (aFieldAddr Tryd.prog 35 t8 0 r1.2) fun t9 =>
 Option.bind (aLoad Tryd.prog 3 t9 r1.2) fun t10 =>
 Option.bind (aBin Tryd.prog BinOp.add 3 false false t10 x1) fun t11 =>
 Option.bind (aFieldAddr Tryd.prog 37 r0.1 0 r1.2) fun t12 =>
 Option.bind (aFieldAddr Tryd.prog 35 t12 1 r1.2) fun t13 =>
 Option.bind (aLoad Tryd.prog 3 t13 r1.2) fun t14 =>
 Option.bind (aBin Tryd.prog BinOp.add 3 false false t14 x1) fun t15 =>
 Option.bind (aBuild Tryd.prog 35 [(0, t11), (1, t15)]) fun t16 =>
 Option.bind (aFieldAddr Tryd.prog 37 r0.1 1 r1.2) fun t17 =>
 Option.bind (aFieldAddr Tryd.prog 35 t17 0 r1.2) fun t18 =>
 Option.bind (aLoad Tryd.prog 3 t18 r1.2) fun t19 =>
 Option.bind (aBin Tryd.prog BinOp.add 3 false false t19 x2) fun t20 =>
 Option.bind (aFieldAddr Tryd.prog 37 r0.1 1 r1.2) fun t21 =>
 Option.bind (aFieldAddr Tryd.prog 35 t21 1 r1.2) fun t22 =>
 Option.bind (aLoad Tryd.prog 3 t22 r1.2) fun t23 =>
 Option.bind (aBin Tryd.prog BinOp.add 3 false false t23 x2) fun t24 =>
 Option.bind (aBuild Tryd.prog 35 [(0, t20), (1, t24)]) fun t25 =>
 Option.bind (aBuild Tryd.prog 37 [(0, t16), (1, t25)]) fun t26 =>
 Option.bind (aStore Tryd.prog 37 r1.1 t26 r1.2 lo) fun H27 =>
 Option.bind (aLoad Tryd.prog 37 r1.1 H27) fun t28 =>
 Option.bind (C 34 [snap H27 t28]) fun t29 =>
 Option.bind (aUn Tryd.prog UnOp.not t29) fun t30 =>
 bIf t30 (Option.bind (aBuild Tryd.prog 37 []) fun t31 =>
 Option.bind (aStore Tryd.prog 37 r1.1 t31 H27 lo) fun H32 =>
 Option.bind (aLoad Tryd.prog 37 r1.1 H32) fun t33 => some (Out.ret (A.tup [t33, A.v (Value.int IntKind.i64 2)]), H32)) (Option.bind (aLoad Tryd.prog 37 r1.1 H27) fun t31 =>
 Option.bind (aStore Tryd.prog 37 r1.1 t31 H27 lo) fun H32 =>
 Option.bind (aLoad Tryd.prog 37 r1.1 H32) fun t33 => some (Out.ret (A.tup [t33, A.v (Value.int IntKind.i64 0)]), H32)))) := by kernel_rfl
theorem e28 (C : Nat → List A → Option A) (call : CallT) (n lo : Nat) (x0 x1 x2 : A) (H : Heap) : evCall1 (cx C) call n 28 [x0, x1, x2] H lo =
 Option.bind (aBox x0 H) fun r0 =>
 Option.bind (aAlloc Tryd.prog 37 r0.2) fun r1 =>
 Option.bind (aLoad Tryd.prog 37 r0.1 r1.2) fun t2 =>
 Option.bind (C 35 [snap r1.2 t2]) fun t3 =>
 Option.bind (aUn Tryd.prog UnOp.not t3) fun t4 =>
 bIf t4 (Option.bind (aBuild Tryd.prog 37 []) fun t5 =>
 Option.bind (aStore Tryd.prog 37 r1.1 t5 r1.2 lo) fun H6 =>
 Option.bind (aLoad Tryd.prog 37 r1.1 H6) fun t7 => some (Out.ret (A.tup [t7, A.v (Value.int IntKind.i64 150)]), H6)) (Option.bind (aFieldAddr Tryd.prog 37 r0.1 0 r1.2) fun t5 =>
 Option.bind (aLoad Tryd.prog 35 t5 r1.2) fun t6 =>
 Option.bind (C 42 [snap r1.2 t6, snap r1.2 x1]) fun t7 =>
 Option.bind (aExtract t7 0) fun t8 =>
 Option.bind (aExtract t7 1) fun t9 =>
 Option.bind (aAlloc Tryd.prog 35 r1.2) fun r10 =>
 Option.bind (aStore Tryd.prog 35 r10.1 t8 r10.2 lo) fun H11 =>
 Option.bind (aFieldAddr Tryd.prog 37 r0.1 1 H11) fun t12 =>
 Option.bind (aLoad Tryd.prog 35 t12 H11) fun t13 =>
 Option.bind (C 42 [snap H11 t13, snap H11 x2]) fun t14 =>
 Option.bind (aExtract t14 0) fun t15 =>
 Option.bind (aExtract t14 1) fun t16 =>
 Option.bind (aAlloc Tryd.prog 35 H11) fun r17 =>
 Option.bind (aStore Tryd.prog 35 r17.1 t15 r17.2 lo) fun H18 =>
 Option.bind (aUn Tryd.prog UnOp.not t9) fun t19 =>
 Option.bind (bIf t19 (some [A.v (Value.bool true), A.v undef, A.v undef]) (Option.bind (aUn Tryd.prog UnOp.not t16) fun t20 => some [t20, t20, t16])) fun l20 => unc l20 fun u21 l21 => unc l21 fun u22 l22 => unc l22 fun u23 l23 =>
 bIf u21 (Option.bind (aBuild Tryd.prog 37 []) fun t24 =>
 Option.bind (aStore Tryd.prog 37 r1.1 t24 H18 lo) fun H25 =>
 Option.bind (aLoad Tryd.prog 37 r1.1 H25) fun t26 => some (Out.ret (A.tup [t26, A.v (Value.int IntKind.i64 2)]), H25)) (Option.bind (aLoad Tryd.prog 35 r10.1 H18) fun t24 =>
 Option.bind (aLoad Tryd.prog 35 r17.1 H18) fun t25 =>
 Option.bind (aBuild Tryd.prog 37 [(0, t24), (1, t25)]) fun t26 =>
 Option.bind (aStore Tryd.prog 37 r1.1 t26 H18 lo) fun H27 =>
 Option.bind (aLoad Tryd.prog 37 r1.1 H27) fun t28 => some (Out.ret (A.tup [t28, A.v (Value.int IntKind.i64 0)]), H27))) := by kernel_rfl
theorem e29 (C : Nat → List A → Option A) (call : CallT) (n lo : Nat) (x0 x1 : A) (H : Heap) : evCall1 (cx C) call n 29 [x0, x1] H lo =
 Option.bind (aAlloc Tryd.prog 24 H) fun r0 =>
 Option.bind (C 11 [snap r0.2 x0, snap r0.2 x1]) fun t1 =>
 Option.bind (aExtract t1 0) fun t2 =>
 Option.bind (aExtract t1 1) fun t3 =>
 Option.bind (aStore Tryd.prog 24 r0.1 t2 r0.2 lo) fun H4 =>
 Option.bind (aLoad Tryd.prog 24 r0.1 H4) fun t5 =>
 Option.bind (aBin Tryd.prog BinOp.eql 25 false true t3 (A.v (Value.int IntKind.i64 0))) fun t6 =>
 Option.bind (aStore Tryd.prog 24 r0.1 t5 H4 lo) fun H7 =>
 Option.bind (aLoad Tryd.prog 24 r0.1 H7) fun t8 => some (Out.ret (A.tup [t8, t6]), H7) := by kernel_rfl
theorem e30 (C : Nat → List A → Option A) (call : CallT) (n lo : Nat) (x0 x1 x2 x3 : A) (H : Heap) : evCall1 (cx C) call n 30 [x0, x1, x2, x3] H lo =
 Option.bind (aAlloc Tryd.prog 37 H) fun r0 =>
 Option.bind (aBuild Tryd.prog 35 [(0, x0), (1, x1)]) fun t1 =>
 Option.bind (aBuild Tryd.prog 35 [(0, x2), (1, x3)]) fun t2 =>
 Option.bind (aBuild Tryd.prog 37 [(0, t1), (1, t2)]) fun t3 =>
 Option.bind (aStore Tryd.prog 37 r0.1 t3 r0.2 lo) fun H4 =>
 Option.bind (aLoad Tryd.prog 37 r0.1 H4) fun t5 => some (Out.ret t5, H4) := by kernel_rfl
theorem e31 (C : Nat → List A → Option A) (call : CallT) (n lo : Nat) (x0 x1 : A) (H : Heap) : evCall1 (cx C) call n 31 [x0, x1] H lo =
 Option.bind (aLoad Tryd.prog 3 x1 H) fun t0 =>
 Option.bind (aBin Tryd.prog BinOp.eql 3 false true t0 (A.v (Value.int IntKind.i64 0))) fun t1 =>
 bIf t1 (Option.bind (aBin Tryd.prog BinOp.mul 3 true false (A.v (Value.int IntKind.i64 29)) x0) fun t2 => some (Out.ret t2, H)) (Option.bind (aBin Tryd.prog BinOp.mul 3 true false (A.v (Value.int IntKind.i64 20)) x0) fun t2 => some (Out.ret t2, H)) := by kernel_rfl
theorem e32 (C : Nat → List A → Option A) (call : CallT) (n lo : Nat) (x0 x1 : A) (H : Heap) : evCall1 (cx C) call n 32 [x0, x1] H lo =
 Option.bind (aLen Tryd.prog 49 x1 H) fun t0 => loopR (cx C) call n 32 lo 0 (List.length H) (fun i1 s1 => bif Nat.beq i1 0 then some (Out.ret (A.v (Value.bool true)), St.H s1) else none) (fun i1 s1 => none) (fun a1 => some (Out.ret (look (St.fr a1) 4), St.H a1)) (fun i1 s1 => some (Out.pan i1, St.H s1)) n (St.mk [(0, x0), (4, A.v (Value.bool false)), (7, x1), (8, t0), (9, A.v (Value.int IntKind.i64 0))] H) := by kernel_rfl
theorem e33 (C : Nat → List A → Option A) (call : CallT) (n lo : Nat) (x0 : A) (H : Heap) : evCall1 (cx C) call n 33 [x0] H lo =
 Option.bind (aBox x0 H) fun r0 =>
 Option.bind (aFieldAddr Tryd.prog 24 r0.1 0 r0.2) fun t1 =>
 Option.bind (aLoad Tryd.prog 3 t1 r0.2) fun t2 =>
 Option.bind (aUn Tryd.prog UnOp.neg (A.v (Value.int IntKind.i64 1048576))) fun t3 =>
 Option.bind (aBin Tryd.prog BinOp.geq 3 false false t2 t3) fun t4 =>
 Option.bind (bIf t4 (Option.bind (aFieldAddr Tryd.prog 24 r0.1 0 r0.2) fun t5 =>
 Option.bind (aLoad Tryd.prog 3 t5 r0.2) fun t6 =>
 Option.bind (aBin Tryd.prog BinOp.leq 3 false false t6 (A.v (Value.int IntKind.i64 1048576))) fun t7 => some [t7, t7, A.v (Value.int IntKind.i64 1048576), t6, t5]) (some [A.v (Value.bool false), A.v undef, A.v undef, A.v undef, A.v undef])) fun l5 => unc l5 fun u6 l6 => unc l6 fun u7 l7 => unc l7 fun u8 l8 => unc l8 fun u9 l9 => unc l9 fun u10 l10 =>
 Option.bind (bIf u6 (Option.bind (aFieldAddr Tryd.prog 24 r0.1 1 r0.2) fun t11 =>
 Option.bind (aLoad Tryd.prog 3 t11 r0.2) fun t12 =>
 Option.bind (aUn Tryd.prog UnOp.neg (A.v (Value.int IntKind.i64 1048576))) fun t13 =>
 Option.bind (aBin Tryd.prog BinOp.geq 3 false false t12 t13) fun t14 => some [t14, t14, t13, A.v (Value.int IntKind.i64 1048576), t12, t11]) (some [A.v (Value.bool false), A.v undef, A.v undef, A.v undef, A.v undef, A.v undef])) fun l11 => unc l11 fun u12 l12 => unc l12 fun u13 l13 => unc l13 fun u14 l14 => unc l14 fun u15 l15 => unc l15 fun u16 l16 => unc l16 fun u17 l17 =>
 Option.bind (bIf u12 (Option.bind (aFieldAddr Tryd.prog 24 r0.1 1 r0.2) fun t18 =>
 Option.bind (aLoad Tryd.prog 3 t18 r0.2) fun t19 =>
 Option.bind (aBin Tryd.prog BinOp.leq 3 false false t19 (A.v (Value.int IntKind.i64 1048576))) fun t20 => some [t20, t20, A.v (Value.int IntKind.i64 1048576), t19, t18]) (some [A.v (Value.bool false), A.v undef, A.v undef, A.v undef, A.v undef])) fun l18 => unc l18 fun u19 l19 => unc l19 fun u20 l20 => unc l20 fun u21 l21 => unc l21 fun u22 l22 => unc l22 fun u23 l23 =>
 Option.bind (bIf u19 (Option.bind (aFieldAddr Tryd.prog 24 r0.1 2 r0.2) fun t24 =>
 Option.bind (aLoad Tryd.prog 3 t24 r0.2) fun t25 =>
 Option.bind (aUn Tryd.prog UnOp.neg (A.v (Value.int IntKind.i64 1048576))) fun t26 =>
 Option.bind (aBin Tryd.prog BinOp.geq 3 false false t25 t26) fun t27 => some [t27, t27, t26, A.v (Value.int IntKind.i64 1048576), t25, t24]) (some [A.v (Value.bool false), A.v undef, A.v undef, A.v undef, A.v undef, A.v undef])) fun l24 => unc l24 fun u25 l25 => unc l25 fun u26 l26 => unc l26 fun u27 l27 => unc l27 fun u28 l28 => unc l28 fun u29 l29 => unc l29 fun u30 l30 =>
 Option.bind (bIf u25 (Option.bind (aFieldAddr Tryd.prog 24 r0.1 2 r0.2) fun t31 =>
 Option.bind (aLoad Tryd.prog 3 t31 r0.2) fun t32 =>
 Option.bind (aBin Tryd.prog BinOp.leq 3 false false t32 (A.v (Value.int IntKind.i64 1048576))) fun t33 => some [t33, t33, A.v (Value.int IntKind.i64 1048576), t32, t31]) (some [A.v (Value.bool false), A.v undef, A.v undef, A.v undef, A.v undef])) fun l31 => unc l31 fun u32 l32 => unc l32 fun u33 l33 => unc l33 fun u34 l34 => unc l34 fun u35 l35 => unc l35 fun u36 l36 => some (Out.ret u32, r0.2) := by kernel_rfl
theorem e34 (C : Nat → List A → Option A) (call : CallT) (n lo : Nat) (x0 : A) (H : Heap) : evCall1 (cx C) call n 34 [x0] H lo =
 Option.bind (aBox x0 H) fun r0 =>
 Option.bind (aFieldAddr Tryd.prog 59 r0.1 0 r0.2) fun t1 =>
 Option.bind (aFieldAddr Tryd.prog 35 t1 0 r0.2) fun t2 =>
 Option.bind (aLoad Tryd.prog 3 t2 r0.2) fun t3 =>
 Option.bind (aFieldAddr Tryd.prog 59 r0.1 0 r0.2) fun t4 =>
 Option.bind (aFieldAddr Tryd.prog 35 t4 1 r0.2) fun t5 =>
 Option.bind (aLoad Tryd.prog 3 t5 r0.2) fun t6 =>
 Option.bind (aFieldAddr Tryd.prog 59 r0.1 1 r0.2) fun t7 =>
 Option.bind (aFieldAddr Tryd.prog 35 t7 0 r0.2) fun t8 =>
 Option.bind (aLoad Tryd.prog 3 t8 r0.2) fun t9 =>
 Option.bind (aFieldAddr Tryd.prog 59 r0.1 1 r0.2) fun t10 =>
 Option.bind (aFieldAddr Tryd.prog 35 t10 1 r0.2) fun t11 =>
 Option.bind (aLoad Tryd.prog 3 t11 r0.2) fun t12 =>
 Option.bind (aBuildSlice Tryd.prog 49 4 [(0, frzA r0.2 t3), (1, frzA r0.2 t6), (2, frzA r0.2 t9), (3, frzA r0.2 t12)]) fun t13 =>
 Option.bind (C 32 [snap r0.2 (A.v (Value.int IntKind.i64 1099511627776)), snap r0.2 t13]) fun t14 =>
 Option.bind (bIf t14 (Option.bind (aFieldAddr Tryd.prog 59 r0.1 0 r0.2) fun t15 =>
 Option.bind (aFieldAddr Tryd.prog 35 t15 0 r0.2) fun t16 =>
 Option.bind (aLoad Tryd.prog 3 t16 r0.2) fun t17 =>
 Option.bind (aFieldAddr Tryd.prog 59 r0.1 0 r0.2) fun t18 =>
 Option.bind (aFieldAddr Tryd.prog 35 t18 1 r0.2) fun t19 =>
 Option.bind (aLoad Tryd.prog 3 t19 r0.2) fun t20 =>
 Option.bind (aBin Tryd.prog BinOp.leq 3 false false t17 t20) fun t21 => some [t21, t21, t20, t19, t18, t17, t16, t15]) (some [A.v (Value.bool false), A.v undef, A.v undef, A.v undef, A.v undef, A.v undef, A.v undef, A.v undef])) fun l15 => unc l15 fun u16 l16 => unc l16 fun u17 l17 => unc l17 fun u18 l18 => unc l18 fun u19 l19 => unc l19 fun u20 l20 => unc l20 fun u21 l21 => unc l21 fun u22 l22 => unc l22 fun u23 l23 =>
 Option.bind (bIf u16 (Option.bind (aFieldAddr Tryd.prog 59 r0.1 1 r0.2) fun t24 =>
 Option.bind (aFieldAddr Tryd.prog 35 t24 0 r0.2) fun t25 =>
 Option.bind (aLoad Tryd.prog 3 t25 r0.2) fun t26 =>
 Option.bind (aFieldAddr Tryd.prog 59 r0.1 1 r0.2) fun t27 =>
 Option.bind (aFieldAddr Tryd.prog 35 t27 1 r0.2) fun t28 =>
 Option.bind (aLoad Tryd.prog 3 t28 r0.2) fun t29 =>
 Option.bind (aBin Tryd.prog BinOp.leq 3 false false t26 t29) fun t30 => some [t30, t30, t29, t28, t27, t26, t25, t24]) (some [A.v (Value.bool false), A.v undef, A.v undef, A.v undef, A.v undef, A.v undef, A.v undef, A.v undef])) fun l24 => unc l24 fun u25 l25 => unc l25 fun u26 l26 => unc l26 fun u27 l27 => unc l27 fun u28 l28 => unc l28 fun u29 l29 => unc l29 fun u30 l30 => unc l30 fun u31 l31 => unc l31 fun u32 l32 => some (Out.ret u25, r0.2) := by kernel_rfl
theorem e35 (C : Nat → List A → Option A) (call : CallT) (n lo : Nat) (x0 : A) (H : Heap) : evCall1 (cx C) call n 35 [x0] H lo =
 Option.bind (aBox x0 H) fun r0 =>
 Option.bind (aFieldAddr Tryd.prog 37 r0.1 0 r0.2) fun t1 =>
 Option.bind (aLoad Tryd.prog 35 t1 r0.2) fun t2 =>
 Option.bind (C 43 [snap r0.2 t2]) fun t3 =>
 Option.bind (bIf t3 (Option.bind (aFieldAddr Tryd.prog 37 r0.1 1 r0.2) fun t4 =>
 Option.bind (aLoad Tryd.prog 35 t4 r0.2) fun t5 =>
 Option.bind (C 43 [snap r0.2 t5]) fun t6 => some [t6, t6, t5, t4]) (some [A.v (Value.bool false), A.v undef, A.v undef, A.v undef])) fun l4 => unc l4 fun u5 l5 => unc l5 fun u6 l6 => unc l6 fun u7 l7 => unc l7 fun u8 l8 => some (Out.ret u5, r0.2) := by kernel_rfl
theorem e36 (C : Nat → List A → Option A) (call : CallT) (n lo : Nat) (x0 x1 : A) (H : Heap) : evCall1 (cx C) call n 36 [x0, x1] H lo =
 Option.bind (aBox x0 H) fun r0 =>
 Option.bind (aBox x1 r0.2) fun r1 =>
 Option.bind (aAlloc Tryd.prog 35 r1.2) fun r2 =>
 Option.bind (aFieldAddr Tryd.prog 35 r0.1 0 r2.2) fun t3 =>
 Option.bind (aLoad Tryd.prog 3 t3 r2.2) fun t4 =>
 Option.bind (aFieldAddr Tryd.prog 35 r1.1 0 r2.2) fun t5 =>
 Option.bind (aLoad Tryd.prog 3 t5 r2.2) fun t6 =>
 Option.bind (aMM true t4 [t6]) fun t7 =>
 Option.bind (aFieldAddr Tryd.prog 35 r0.1 1 r2.2) fun t8 =>
 Option.bind (aLoad Tryd.prog 3 t8 r2.2) fun t9 =>
 Option.bind (aFieldAddr Tryd.prog 35 r1.1 1 r2.2) fun t10 =>
 Option.bind (aLoad Tryd.prog 3 t10 r2.2) fun t11 =>
 Option.bind (aMM false t9 [t11]) fun t12 =>
 Option.bind (aBuild Tryd.prog 35 [(0, t7), (1, t12)]) fun t13 =>
 Option.bind (aStore Tryd.prog 35 r2.1 t13 r2.2 lo) fun H14 =>
 Option.bind (aLoad Tryd.prog 35 r2.1 H14) fun t15 => some (Out.ret t15, H14) := by kernel_rfl
theorem e38 (C : Nat → List A → Option A) (call : CallT) (n lo : Nat) (x0 x1 : A) (H : Heap) : evCall1 (cx C) call n 38 [x0, x1] H lo =
 Option.bind (aBox x0 H) fun r0 =>
 Option.bind (aBox x1 r0.2) fun r1 =>
 Option.bind (aFieldAddr Tryd.prog 35 r0.1 0 r1.2) fun t2 =>
 Option.bind (aLoad Tryd.prog 3 t2 r1.2) fun t3 =>
 Option.bind (aFieldAddr Tryd.prog 35 r1.1 1 r1.2) fun t4 =>
 Option.bind (aLoad Tryd.prog 3 t4 r1.2) fun t5 =>
 Option.bind (aBin Tryd.prog BinOp.leq 3 false false t3 t5) fun t6 =>
 Option.bind (bIf t6 (Option.bind (aFieldAddr Tryd.prog 35 r1.1 0 r1.2) fun t7 =>
 Option.bind (aLoad Tryd.prog 3 t7 r1.2) fun t8 =>
 Option.bind (aFieldAddr Tryd.prog 35 r0.1 1 r1.2) fun t9 =>
 Option.bind (aLoad Tryd.prog 3 t9 r1.2) fun t10 =>
 Option.bind (aBin Tryd.prog BinOp.leq 3 false false t8 t10) fun t11 => some [t11, t11, t10, t9, t8, t7]) (some [A.v (Value.bool false), A.v undef, A.v undef, A.v undef, A.v undef, A.v undef])) fun l7 => unc l7 fun u8 l8 => unc l8 fun u9 l9 => unc l9 fun u10 l10 => unc l10 fun u11 l11 => unc l11 fun u12 l12 => unc l12 fun u13 l13 => some (Out.ret u8, r1.2) := by kernel_rfl
theorem e39 (C : Nat → List A → Option A) (call : CallT) (n lo : Nat) (x0 x1 : A) (H : Heap) : evCall1 (cx C) call n 39 [x0, x1] H lo =
 Option.bind (aBox x0 H) fun r0 =>
 Option.bind (aBox x1 r0.2) fun r1 =>
 Option.bind (aFieldAddr Tryd.prog 35 r0.1 0 r1.2) fun t2 =>
 Option.bind (aLoad Tryd.prog 3 t2 r1.2) fun t3 =>
 Option.bind (aFieldAddr Tryd.prog 35 r1.1 1 r1.2) fun t4 =>
 Option.bind (aLoad Tryd.prog 3 t4 r1.2) fun t5 =>
 Option.bind (aBin Tryd.prog BinOp.leq 3 false false t3 t5) fun t6 =>
 Option.bind (bIf t6 (Option.bind (aFieldAddr Tryd.prog 35 r1.1 0 r1.2) fun t7 =>
 Option.bind (aLoad Tryd.prog 3 t7 r1.2) fun t8 =>
 Option.bind (aFieldAddr Tryd.prog 35 r0.1 1 r1.2) fun t9 =>
 Option.bind (aLoad Tryd.prog 3 t9 r1.2) fun t10 =>
 Option.bind (aBin Tryd.prog BinOp.leq 3 false false t8 t10) fun t11 => some [t11, t11, t10, t9, t8, t7]) (some [A.v (Value.bool false), A.v undef, A.v undef, A.v undef, A.v undef, A.v undef])) fun l7 => unc l7 fun u8 l8 => unc l8 fun u9 l9 => unc l9 fun u10 l10 => unc l10 fun u11 l11 => unc l11 fun u12 l12 => unc l12 fun u13 l13 => some (Out.ret u8, r1.2) := by kernel_rfl
theorem e40 (C : Nat → List A → Option A) (call : CallT) (n lo : Nat) (x0 x1 : A) (H : Heap) : evCall1 (cx C) call n 40 [x0, x1] H lo =
 Option.bind (aBox x0 H) fun r0 =>
 Option.bind (aBox x1 r0.2) fun r1 =>
 Option.bind (aFieldAddr Tryd.prog 35 r0.1 0 r1.2) fun t2 =>
 Option.bind (aLoad Tryd.prog 3 t2 r1.2) fun t3 =>
 Option.bind (aFieldAddr Tryd.prog 35 r1.1 0 r1.2) fun t4 =>
 Option.bind (aLoad Tryd.prog 3 t4 r1.2) fun t5 =>
 Option.bind (aBin Tryd.prog BinOp.geq 3 false false t3 t5) fun t6 =>
 Option.bind (bIf t6 (Option.bind (aFieldAddr Tryd.prog 35 r0.1 1 r1.2) fun t7 =>
 Option.bind (aLoad Tryd.prog 3 t7 r1.2) fun t8 =>
 Option.bind (aFieldAddr Tryd.prog 35 r1.1 1 r1.2) fun t9 =>
 Option.bind (aLoad Tryd.prog 3 t9 r1.2) fun t10 =>
 Option.bind (aBin Tryd.prog BinOp.leq 3 false false t8 t10) fun t11 => some [t11, t11, t10, t9, t8, t7]) (some [A.v (Value.bool false), A.v undef, A.v undef, A.v undef, A.v undef, A.v undef])) fun l7 => unc l7 fun u8 l8 => unc l8 fun u9 l9 => unc l9 fun u10 l10 => unc l10 fun u11 l11 => unc l11 fun u12 l12 => unc l12 fun u13 l13 => some (Out.ret u8, r1.2) := by kernel_rfl
theorem e41 (C : Nat → List A → Option A) (call : CallT) (n lo : Nat) (x0 x1 : A) (H : Heap) : evCall1 (cx C) call n 41 [x0, x1] H lo =
 Option.bind (aBox x0 H) fun r0 =>
 Option.bind (aBox x1 r0.2) fun r1 =>
 Option.bind (aFieldAddr Tryd.prog 35 r0.1 0 r1.2) fun t2 =>
 Option.bind (aLoad Tryd.prog 3 t2 r1.2) fun t3 =>
 Option.bind (aFieldAddr Tryd.prog 35 r1.1 0 r1.2) fun t4 =>
 Option.bind (aLoad Tryd.prog 3 t4 r1.2) fun t5 =>
 Option.bind (aBin Tryd.prog BinOp.geq 3 false false t3 t5) fun t6 =>
 Option.bind (bIf t6 (Option.bind (aFieldAddr Tryd.prog 35 r0.1 1 r1.2) fun t7 =>
 Option.bind (aLoad Tryd.prog 3 t7 r1.2) fun t8 =>
 Option.bind (aFieldAddr Tryd.prog 35 r1.1 1 r1.2) fun t9 =>
 Option.bind (aLoad Tryd.prog 3 t9 r1.2) fun t10 =>
 Option.bind (aBin Tryd.prog BinOp.leq 3 false false t8 t10) fun t11 => some [t11, t11, t10, t9, t8, t7]) (some [A.v (Value.bool false), A.v undef, A.v undef, A.v undef, A.v undef, A.v undef])) fun l7 => unc l7 fun u8 l8 => unc l8 fun u9 l9 => unc l9 fun u10 l10 => unc l10 fun u11 l11 => unc l11 fun u12 l12 => unc l12 fun u13 l13 => some (Out.ret u8, r1.2) := by kernel_rfl
theorem e42 (C : Nat → List A → Option A) (call : CallT) (n lo : Nat) (x0 x1 : A) (H : Heap) : evCall1 (cx C) call n 42 [x0, x1] H lo =
 Option.bind (aBox x0 H) fun r0 =>
 Option.bind (aAlloc Tryd.prog 35 r0.2) fun r1 =>
 Option.bind (aBin Tryd.prog BinOp.lss 3 false true x1 (A.v (Value.int IntKind.i64 (-2199023255552)))) fun t2 =>
 Option.bind (bIf t2 (some [A.v (Value.bool true), A.v undef, A.v undef]) (Option.bind (aBin Tryd.prog BinOp.gtr 3 false true x1 (A.v (Value.int IntKind.i64 2199023255552))) fun t3 => some [t3, t3, x1])) fun l3 => unc l3 fun u4 l4 => unc l4 fun u5 l5 => unc l5 fun u6 l6 =>
 bIf u4 (Option.bind (aLoad Tryd.prog 35 r0.1 r1.2) fun t7 =>
 Option.bind (aStore Tryd.prog 35 r1.1 t7 r1.2 lo) fun H8 =>
 Option.bind (aLoad Tryd.prog 35 r1.1 H8) fun t9 => some (Out.ret (A.tup [t9, A.v (Value.bool false)]), H8)) (Option.bind (aFieldAddr Tryd.prog 35 r0.1 0 r1.2) fun t7 =>
 Option.bind (aLoad Tryd.prog 3 t7 r1.2) fun t8 =>
 Option.bind (aBin Tryd.prog BinOp.add 3 false false t8 x1) fun t9 =>
 Option.bind (aFieldAddr Tryd.prog 35 r0.1 1 r1.2) fun t10 =>
 Option.bind (aLoad Tryd.prog 3 t10 r1.2) fun t11 =>
 Option.bind (aBin Tryd.prog BinOp.add 3 false false t11 x1) fun t12 =>
 Option.bind (aBuild Tryd.prog 35 [(0, t9), (1, t12)]) fun t13 =>
 Option.bind (aAlloc Tryd.prog 35 r1.2) fun r14 =>
 Option.bind (aStore Tryd.prog 35 r14.1 t13 r14.2 lo) fun H15 =>
 Option.bind (aLoad Tryd.prog 35 r14.1 H15) fun t16 =>
 Option.bind (aLoad Tryd.prog 35 r14.1 H15) fun t17 =>
 Option.bind (C 43 [snap H15 t17]) fun t18 =>
 Option.bind (aStore Tryd.prog 35 r1.1 t16 H15 lo) fun H19 =>
 Option.bind (aLoad Tryd.prog 35 r1.1 H19) fun t20 => some (Out.ret (A.tup [t20, t18]), H19)) := by kernel_rfl
theorem e43 (C : Nat → List A → Option A) (call : CallT) (n lo : Nat) (x0 : A) (H : Heap) : evCall1 (cx C) call n 43 [x0] H lo =
 Option.bind (aBox x0 H) fun r0 =>
 Option.bind (aFieldAddr Tryd.prog 35 r0.1 0 r0.2) fun t1 =>
 Option.bind (aLoad Tryd.prog 3 t1 r0.2) fun t2 =>
 Option.bind (aBin Tryd.prog BinOp.geq 3 false true t2 (A.v (Value.int IntKind.i64 (-1099511627776)))) fun t3 =>
 Option.bind (bIf t3 (Option.bind (aFieldAddr Tryd.prog 35 r0.1 0 r0.2) fun t4 =>
 Option.bind (aLoad Tryd.prog 3 t4 r0.2) fun t5 =>
 Option.bind (aFieldAddr Tryd.prog 35 r0.1 1 r0.2) fun t6 =>
 Option.bind (aLoad Tryd.prog 3 t6 r0.2) fun t7 =>
 Option.bind (aBin Tryd.prog BinOp.leq 3 false false t5 t7) fun t8 => some [t8, t8, t7, t6, t5, t4]) (some [A.v (Value.bool false), A.v undef, A.v undef, A.v undef, A.v undef, A.v undef])) fun l4 => unc l4 fun u5 l5 => unc l5 fun u6 l6 => unc l6 fun u7 l7 => unc l7 fun u8 l8 => unc l8 fun u9 l9 => unc l9 fun u10 l10 =>
 Option.bind (bIf u5 (Option.bind (aFieldAddr Tryd.prog 35 r0.1 1 r0.2) fun t11 =>
 Option.bind (aLoad Tryd.prog 3 t11 r0.2) fun t12 =>
 Option.bind (aBin Tryd.prog BinOp.leq 3 false true t12 (A.v (Value.int IntKind.i64 1099511627776))) fun t13 => some [t13, t13, t12, t11]) (some [A.v (Value.bool false), A.v undef, A.v undef, A.v undef])) fun l11 => unc l11 fun u12 l12 => unc l12 fun u13 l13 => unc l13 fun u14 l14 => unc l14 fun u15 l15 => some (Out.ret u12, r0.2) := by kernel_rfl
theorem e37_38 (C : Nat → List A → Option A) (call : CallT) (n lo : Nat) (x0 x1 : A) (H : Heap) : evCall1 (cx C) call n 37 [x0, x1, A.fn (Fn.func 38) [] []] H lo =
 Option.bind (aBox x0 H) fun r0 =>
 Option.bind (aBox x1 r0.2) fun r1 =>
 Option.bind (aFieldAddr Tryd.prog 59 r0.1 0 r1.2) fun t2 =>
 Option.bind (aLoad Tryd.prog 35 t2 r1.2) fun t3 =>
 Option.bind (aFieldAddr Tryd.prog 59 r1.1 0 r1.2) fun t4 =>
 Option.bind (aLoad Tryd.prog 35 t4 r1.2) fun t5 =>
 Option.bind (C 38 [snap r1.2 t3, snap r1.2 t5]) fun t6 =>
 Option.bind (bIf t6 (Option.bind (aFieldAddr Tryd.prog 59 r0.1 1 r1.2) fun t7 =>
 Option.bind (aLoad Tryd.prog 35 t7 r1.2) fun t8 =>
 Option.bind (aFieldAddr Tryd.prog 59 r1.1 1 r1.2) fun t9 =>
 Option.bind (aLoad Tryd.prog 35 t9 r1.2) fun t10 =>
 Option.bind (C 38 [snap r1.2 t8, snap r1.2 t10]) fun t11 => some [t11, t11, t10, t9, t8, t7, A.fn (Fn.func 38) [] []]) (some [A.v (Value.bool false), A.v undef, A.v undef, A.v undef, A.v undef, A.v undef, A.v undef])) fun l7 => unc l7 fun u8 l8 => unc l8 fun u9 l9 => unc l9 fun u10 l10 => unc l10 fun u11 l11 => unc l11 fun u12 l12 => unc l12 fun u13 l13 => unc l13 fun u14 l14 => some (Out.ret u8, r1.2) := by kernel_rfl
theorem e37_40 (C : Nat → List A → Option A) (call : CallT) (n lo : Nat) (x0 x1 : A) (H : Heap) : evCall1 (cx C) call n 37 [x0, x1, A.fn (Fn.func 40) [] []] H lo =
 Option.bind (aBox x0 H) fun r0 =>
 Option.bind (aBox x1 r0.2) fun r1 =>
 Option.bind (aFieldAddr Tryd.prog 59 r0.1 0 r1.2) fun t2 =>
 Option.bind (aLoad Tryd.prog 35 t2 r1.2) fun t3 =>
 Option.bind (aFieldAddr Tryd.prog 59 r1.1 0 r1.2) fun t4 =>
 Option.bind (aLoad Tryd.prog 35 t4 r1.2) fun t5 =>
 Option.bind (C 40 [snap r1.2 t3, snap r1.2 t5]) fun t6 =>
 Option.bind (bIf t6 (Option.bind (aFieldAddr Tryd.prog 59 r0.1 1 r1.2) fun t7 =>
 Option.bind (aLoad Tryd.prog 35 t7 r1.2) fun t8 =>
 Option.bind (aFieldAddr Tryd.prog 59 r1.1 1 r1.2) fun t9 =>
 Option.bind (aLoad Tryd.prog 35 t9 r1.2) fun t10 =>
 Option.bind (C 40 [snap r1.2 t8, snap r1.2 t10]) fun t11 => some [t11, t11, t10, t9, t8, t7, A.fn (Fn.func 40) [] []]) (some [A.v (Value.bool false), A.v undef, A.v undef, A.v undef, A.v undef, A.v undef, A.v undef])) fun l7 => unc l7 fun u8 l8 => unc l8 fun u9 l9 => unc l9 fun u10 l10 => unc l10 fun u11 l11 => unc l11 fun u12 l12 => unc l12 fun u13 l13 => unc l13 fun u14 l14 => some (Out.ret u8, r1.2) := by kernel_rfl
theorem e7_0 (C : Nat → List A → Option A) (call : CallT) (n lo L : Nat) (kx kg : Nat → St → Option R) (kr : St → Option R) (kp : A → St → Option R) (m : Nat) (x3 x4 x5 x6 x7 x8 x9 x14 x38 x39 x40 : A) (H : Heap) : loopR (cx C) call n 7 lo 0 L kx kg kr kp (m + 1) (St.mk [(3, x3), (4, x4), (5, x5), (6, x6), (7, x7), (8, x8), (9, x9), (14, x14), (38, x38), (39, x39), (40, x40)] H) =
 Option.bind (aBin Tryd.prog BinOp.lss 3 false false x40 x39) fun t0 =>
 bIf t0 (Option.bind (aIndexAddr Tryd.prog 48 x38 x40 H) fun t1 =>
 Option.bind (aLoad Tryd.prog 24 t1 H) fun t2 =>
 Option.bind (aAlloc Tryd.prog 24 H) fun r3 =>
 Option.bind (aStore Tryd.prog 24 r3.1 t2 r3.2 lo) fun H4 =>
 Option.bind (aFieldAddr Tryd.prog 24 r3.1 0 H4) fun t5 =>
 Option.bind (aLoad Tryd.prog 3 t5 H4) fun t6 =>
 Option.bind (aFieldAddr Tryd.prog 24 r3.1 1 H4) fun t7 =>
 Option.bind (aLoad Tryd.prog 3 t7 H4) fun t8 =>
 Option.bind (aFieldAddr Tryd.prog 24 r3.1 2 H4) fun t9 =>
 Option.bind (aLoad Tryd.prog 3 t9 H4) fun t10 =>
 Option.bind (aBuildSlice Tryd.prog 49 3 [(0, frzA H4 t6), (1, frzA H4 t8), (2, frzA H4 t10)]) fun t11 =>
 Option.bind (aLen Tryd.prog 49 t11 H4) fun t12 => loopR (cx C) call n 7 lo 1 (List.length H4) (fun i13 s13 => bif Nat.beq i13 2 then
 Option.bind (aBin Tryd.prog BinOp.add 3 false true (look (St.fr s13) 40) (A.v (Value.int IntKind.i64 1))) fun t14 =>
 Option.bind (trim L (St.H s13)) fun H15 => bif bif Nat.beq (List.length (St.H s13)) L then true else keepsUnder L ((40, t14) :: (63, t14) :: St.fr s13) [3, 4, 5, 6, 7, 8, 9, 14, 38, 39, 40] then loopR (cx C) call n 7 lo 0 L kx kg kr kp m (St.mk [(3, look (St.fr s13) 3), (4, look (St.fr s13) 4), (5, look (St.fr s13) 5), (6, look (St.fr s13) 6), (7, look (St.fr s13) 7), (8, look (St.fr s13) 8), (9, look (St.fr s13) 9), (14, look (St.fr s13) 14), (38, look (St.fr s13) 38), (39, look (St.fr s13) 39), (40, t14)] H15) else none else bif Nat.beq i13 1 then
 Option.bind (aBin Tryd.prog BinOp.add 3 false true (look (St.fr s13) 40) (A.v (Value.int IntKind.i64 1))) fun t14 =>
 Option.bind (trim L (St.H s13)) fun H15 => bif bif Nat.beq (List.length (St.H s13)) L then true else keepsUnder L ((40, t14) :: (63, t14) :: St.fr s13) [3, 4, 5, 6, 7, 8, 9, 14, 38, 39, 40] then loopR (cx C) call n 7 lo 0 L kx kg kr kp m (St.mk [(3, look (St.fr s13) 3), (4, look (St.fr s13) 4), (5, look (St.fr s13) 5), (6, look (St.fr s13) 6), (7, look (St.fr s13) 7), (8, look (St.fr s13) 8), (9, look (St.fr s13) 9), (14, look (St.fr s13) 14), (38, look (St.fr s13) 38), (39, look (St.fr s13) 39), (40, t14)] H15) else none else kx i13 (St.mk [(3, look (St.fr s13) 3), (4, look (St.fr s13) 4), (5, look (St.fr s13) 5), (6, look (St.fr s13) 6), (7, look (St.fr s13) 7), (8, look (St.fr s13) 8), (9, look (St.fr s13) 9), (14, look (St.fr s13) 14), (38, look (St.fr s13) 38), (39, look (St.fr s13) 39), (40, look (St.fr s13) 40)] (St.H s13))) (fun i13 s13 => kg i13 (St.mk [(3, look (St.fr s13) 3), (4, look (St.fr s13) 4), (5, look (St.fr s13) 5), (6, look (St.fr s13) 6), (7, look (St.fr s13) 7), (8, look (St.fr s13) 8), (9, look (St.fr s13) 9), (14, look (St.fr s13) 14), (38, look (St.fr s13) 38), (39, look (St.fr s13) 39), (40, look (St.fr s13) 40)] (St.H s13))) (fun a13 => kr (St.mk [(3, look (St.fr a13) 3), (4, look (St.fr a13) 4), (5, look (St.fr a13) 5), (6, look (St.fr a13) 6), (7, look (St.fr a13) 7), (8, look (St.fr a13) 8), (9, look (St.fr a13) 9), (14, look (St.fr a13) 14), (38, look (St.fr a13) 38), (39, look (St.fr a13) 39), (40, look (St.fr a13) 40)] (St.H a13))) (fun i13 s13 => kp i13 (St.mk [(3, look (St.fr s13) 3), (4, look (St.fr s13) 4), (5, look (St.fr s13) 5), (6, look (St.fr s13) 6), (7, look (St.fr s13) 7), (8, look (St.fr s13) 8), (9, look (St.fr s13) 9), (14, look (St.fr s13) 14), (38, look (St.fr s13) 38), (39, look (St.fr s13) 39), (40, look (St.fr s13) 40)] (St.H s13))) n (St.mk [(3, x3), (4, x4), (5, x5), (6, x6), (7, x7), (8, x8), (9, x9), (14, x14), (38, x38), (39, x39), (40, x40), (50, t11), (51, t12), (52, A.v (Value.int IntKind.i64 0))] H4)) (kx 0 (St.mk [(3, x3), (4, x4), (5, x5), (6, x6), (7, x7), (8, x8), (9, x9), (14, x14), (38, x38), (39, x39), (40, x40)] H)) := by kernel_rfl
theorem e7_1 (C : Nat → List A → Option A) (call : CallT) (n lo L : Nat) (kx kg : Nat → St → Option R) (kr : St → Option R) (kp : A → St → Option R) (m : Nat) (x3 x4 x5 x6 x7 x8 x9 x14 x38 x39 x40 x50 x51 x52 : A) (H : Heap) : loopR (cx C) call n 7 lo 1 L kx kg kr kp (m + 1) (St.mk [(3, x3), (4, x4), (5, x5), (6, x6), (7, x7), (8, x8), (9, x9), (14, x14), (38, x38), (39, x39), (40, x40), (50, x50), (51, x51), (52, x52)] H) =
 Option.bind (aBin Tryd.prog BinOp.lss 3 false false x52 x51) fun t0 =>
 bIf t0 (Option.bind (aIndexAddr Tryd.prog 49 x50 x52 H) fun t1 =>
 Option.bind (aLoad Tryd.prog 3 t1 H) fun t2 =>
 Option.bind (aBin Tryd.prog BinOp.lss 3 false true t2 (A.v (Value.int IntKind.i64 (-524288)))) fun t3 =>
 Option.bind (bIf t3 (some [A.v (Value.bool true), A.v undef, A.v undef]) (Option.bind (aBin Tryd.prog BinOp.gtr 3 false true t2 (A.v (Value.int IntKind.i64 524288))) fun t4 => some [t4, t4, t2])) fun l4 => unc l4 fun u5 l5 => unc l5 fun u6 l6 => unc l6 fun u7 l7 =>
 bIf u5 (kr (St.mk [(3, x3), (4, x4), (5, x5), (6, x6), (7, x7), (8, x8), (9, x9), (14, A.v (Value.bool true)), (38, x38), (39, x39), (40, x40), (50, x50), (51, x51), (52, x52)] H)) (Option.bind (aBin Tryd.prog BinOp.add 3 false true x52 (A.v (Value.int IntKind.i64 1))) fun t8 =>
 Option.bind (trim L H) fun H9 => bif bif Nat.beq (List.length H) L then true else keepsUnder L [(52, t8), (62, t8), (61, u5), (60, u6), (59, u7), (58, t3), (57, t3), (56, t2), (18, t2), (55, t2), (54, t1), (53, t0), (3, x3), (4, x4), (5, x5), (6, x6), (7, x7), (8, x8), (9, x9), (14, x14), (38, x38), (39, x39), (40, x40), (50, x50), (51, x51), (52, x52)] [3, 4, 5, 6, 7, 8, 9, 14, 38, 39, 40, 50, 51, 52] then loopR (cx C) call n 7 lo 1 L kx kg kr kp m (St.mk [(3, x3), (4, x4), (5, x5), (6, x6), (7, x7), (8, x8), (9, x9), (14, x14), (38, x38), (39, x39), (40, x40), (50, x50), (51, x51), (52, t8)] H9) else none)) (kx 2 (St.mk [(3, x3), (4, x4), (5, x5), (6, x6), (7, x7), (8, x8), (9, x9), (14, x14), (38, x38), (39, x39), (40, x40), (50, x50), (51, x51), (52, x52)] H)) := by kernel_rfl
theorem e32_0 (C : Nat → List A → Option A) (call : CallT) (n lo L : Nat) (kx kg : Nat → St → Option R) (kr : St → Option R) (kp : A → St → Option R) (m : Nat) (x0 x4 x7 x8 x9 : A) (H : Heap) : loopR (cx C) call n 32 lo 0 L kx kg kr kp (m + 1) (St.mk [(0, x0), (4, x4), (7, x7), (8, x8), (9, x9)] H) =
 Option.bind (aBin Tryd.prog BinOp.lss 3 false false x9 x8) fun t0 =>
 bIf t0 (Option.bind (aIndexAddr Tryd.prog 49 x7 x9 H) fun t1 =>
 Option.bind (aLoad Tryd.prog 3 t1 H) fun t2 =>
 Option.bind (aUn Tryd.prog UnOp.neg x0) fun t3 =>
 Option.bind (aBin Tryd.prog BinOp.lss 3 false false t2 t3) fun t4 =>
 Option.bind (bIf t4 (some [A.v (Value.bool true), A.v undef, A.v undef, A.v undef]) (Option.bind (aBin Tryd.prog BinOp.gtr 3 false false t2 x0) fun t5 => some [t5, t5, x0, t2])) fun l5 => unc l5 fun u6 l6 => unc l6 fun u7 l7 => unc l7 fun u8 l8 => unc l8 fun u9 l9 =>
 bIf u6 (kr (St.mk [(0, x0), (4, A.v (Value.bool false)), (7, x7), (8, x8), (9, x9)] H)) (Option.bind (aBin Tryd.prog BinOp.add 3 false true x9 (A.v (Value.int IntKind.i64 1))) fun t10 =>
 Option.bind (trim L H) fun H11 => bif bif Nat.beq (List.length H) L then true else keepsUnder L [(9, t10), (22, t10), (21, u6), (20, u7), (19, u8), (18, u9), (17, t4), (16, t4), (15, t3), (14, x0), (13, t2), (6, t2), (12, t2), (11, t1), (10, t0), (0, x0), (4, x4), (7, x7), (8, x8), (9, x9)] [0, 4, 7, 8, 9] then loopR (cx C) call n 32 lo 0 L kx kg kr kp m (St.mk [(0, x0), (4, x4), (7, x7), (8, x8), (9, t10)] H11) else none)) (kx 0 (St.mk [(0, x0), (4, x4), (7, x7), (8, x8), (9, x9)] H)) := by kernel_rfl
end Go.Proofs.YtmhnhokhlkppeaaDoor
