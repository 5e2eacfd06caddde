/-
  What the interpreter does with the program's functions: equations, by a tool; the kernel checks each.
-/
import Derived.Test.YthoomfjliekbdaaEvTyped
import Derived.Test.YthoomfjliekbdaaRows
import Derived.KernelRfl
namespace Go.Proofs.Ythoomfjliekbdaa
set_option linter.unusedVariables false
set_option linter.unusedSimpArgs false
set_option maxHeartbeats 4000000
set_option maxRecDepth 100000
/-- Slots kept at the loops' heads. -/
def keepTab : List ((Nat × Nat) × List Nat) := [((7, 20), [5, 10, 19, 21, 23]), ((8, 16), [1, 2, 4, 5, 6, 7, 12]), ((8, 8), [1, 2, 4, 5, 6, 7, 8]), ((9, 10), [1, 2, 3, 4, 8, 9, 11]), ((11, 7), [1, 2, 3, 5]), ((11, 3), [1, 2, 3, 4]), ((13, 5), [0, 2, 3, 4, 5]), ((14, 9), [2, 3, 4, 6]), ((14, 4), [2, 3, 4, 5]), ((16, 10), [1, 2, 3, 5]), ((16, 5), [1, 2, 3, 4]), ((20, 8), [1, 3, 6, 7, 8]), ((21, 1000005), [3, 4, 5]), ((22, 5), [1, 2, 4, 5, 6, 7]), ((24, 9), [1, 2, 3, 4, 5, 6, 7]), ((29, 8), [4, 7, 8]), ((40, 3), [4, 5, 10, 11, 12]), ((43, 2), [0, 1, 4, 7, 8]), ((44, 2), [0, 1, 4, 7, 8]), ((45, 1), [0, 1, 3])]
def keepF (f r : Nat) : List Nat := keepOf f r keepTab
/-- What is done there. -/
def actTab : List ((Nat × Nat) × List (Nat × Nat × Nat)) := [((12, 2000004), [(4, 0, 0)]), ((19, 2000009), [(8, 0, 0)]), ((23, 2000010), [(7, 0, 0)]), ((38, 3000000), [(2, 0, 3)]), ((41, 3000000), [(2, 0, 500002)]), ((46, 3000000), [(2, 0, 500002)]), ((13, 5), [(4, 1, 2)])]
def actF (f r : Nat) : List (Nat × Nat × Nat) := actOf f r actTab
/-- Variables that are kept as rows: by function and type. -/
def arrTab : List (Nat × Nat) := []
def arrF (f t : Nat) : Bool := inTab f t arrTab
/-- Rows that are written to; what is made and never written to: by function and slot. -/
def wrTab : List (Nat × Nat) := [(41, 7), (46, 7), (24, 35)]
def wrF (f t : Nat) : Bool := inTab f t wrTab
def loudTab : List (Nat × Nat) := [(13, 21), (10, 50)]
def loudF (f t : Nat) : Bool := inTab f t loudTab
noncomputable def cx (C : Nat → List A → Option A) : Cx := { P := Try.prog, glob := fun _ => none, isOrc := fun k => notIn k [37, 39, 45, 40, 41, 46, 32, 43, 30], isOrcV := fun k => notIn k [37, 39, 45, 41, 46, 32, 43, 30], C := C, keep := keepF, wrAt := wrF, acts := actF, loud := loudF, arr := arrF }
@[simp] theorem un_0 : Program.underlying Try.prog 0 = some (TypeDesc.tuple (Array.mk [])) := by kernel_rfl
@[simp] theorem sz_0 : sizeT Try.prog 0 = some 1 := by kernel_rfl
@[simp] theorem by_0 : bytesT Try.prog 0 = some 0 := by kernel_rfl
@[simp] theorem zr_0 : zeroT Try.prog 0 = some [A.v (Value.tuple (Array.mk []))] := by kernel_rfl
@[simp] theorem ag_0 : isAggT Try.prog 0 = false := by kernel_rfl
@[simp] theorem ni_0 : notInt Try.prog 0 = false := by kernel_rfl
@[simp] theorem un_1 : Program.underlying Try.prog 1 = some (TypeDesc.func (Array.mk []) (Array.mk []) false) := by kernel_rfl
@[simp] theorem sz_1 : sizeT Try.prog 1 = some 1 := by kernel_rfl
@[simp] theorem by_1 : bytesT Try.prog 1 = some 8 := by kernel_rfl
@[simp] theorem zr_1 : zeroT Try.prog 1 = some [A.v Value.nilFunc] := by kernel_rfl
@[simp] theorem ag_1 : isAggT Try.prog 1 = false := by kernel_rfl
@[simp] theorem ni_1 : notInt Try.prog 1 = false := by kernel_rfl
@[simp] theorem un_3 : Program.underlying Try.prog 3 = some (TypeDesc.int IntKind.i64) := by kernel_rfl
@[simp] theorem sz_3 : sizeT Try.prog 3 = some 1 := by kernel_rfl
@[simp] theorem by_3 : bytesT Try.prog 3 = some 8 := by kernel_rfl
@[simp] theorem zr_3 : zeroT Try.prog 3 = some [A.v (Value.int IntKind.i64 0)] := by kernel_rfl
@[simp] theorem ag_3 : isAggT Try.prog 3 = false := by kernel_rfl
@[simp] theorem ni_3 : notInt Try.prog 3 = false := by kernel_rfl
@[simp] theorem un_4 : Program.underlying Try.prog 4 = some TypeDesc.bool := by kernel_rfl
@[simp] theorem sz_4 : sizeT Try.prog 4 = some 1 := by kernel_rfl
@[simp] theorem by_4 : bytesT Try.prog 4 = some 1 := by kernel_rfl
@[simp] theorem zr_4 : zeroT Try.prog 4 = some [A.v (Value.bool false)] := by kernel_rfl
@[simp] theorem ag_4 : isAggT Try.prog 4 = false := by kernel_rfl
@[simp] theorem ni_4 : notInt Try.prog 4 = false := by kernel_rfl
@[simp] theorem un_5 : Program.underlying Try.prog 5 = some (TypeDesc.int IntKind.u8) := by kernel_rfl
@[simp] theorem sz_5 : sizeT Try.prog 5 = some 1 := by kernel_rfl
@[simp] theorem by_5 : bytesT Try.prog 5 = some 1 := by kernel_rfl
@[simp] theorem zr_5 : zeroT Try.prog 5 = some [A.v (Value.int IntKind.u8 0)] := by kernel_rfl
@[simp] theorem ag_5 : isAggT Try.prog 5 = false := by kernel_rfl
@[simp] theorem ni_5 : notInt Try.prog 5 = false := by kernel_rfl
@[simp] theorem un_9 : Program.underlying Try.prog 9 = some TypeDesc.string := by kernel_rfl
@[simp] theorem sz_9 : sizeT Try.prog 9 = some 1 := by kernel_rfl
@[simp] theorem by_9 : bytesT Try.prog 9 = some 16 := by kernel_rfl
@[simp] theorem zr_9 : zeroT Try.prog 9 = some [A.v (Value.string (ByteArray.mk #[]))] := by kernel_rfl
@[simp] theorem ag_9 : isAggT Try.prog 9 = false := by kernel_rfl
@[simp] theorem ni_9 : notInt Try.prog 9 = true := by kernel_rfl
@[simp] theorem un_22 : Program.underlying Try.prog 22 = some (TypeDesc.slice 35) := by kernel_rfl
@[simp] theorem sz_22 : sizeT Try.prog 22 = some 1 := by kernel_rfl
@[simp] theorem by_22 : bytesT Try.prog 22 = some 24 := by kernel_rfl
@[simp] theorem zr_22 : zeroT Try.prog 22 = some [A.imm [] true] := by kernel_rfl
@[simp] theorem ag_22 : isAggT Try.prog 22 = false := by kernel_rfl
@[simp] theorem el_22 : elemT Try.prog 22 = some 35 := by kernel_rfl
@[simp] theorem ni_22 : notInt Try.prog 22 = true := by kernel_rfl
@[simp] theorem un_23 : Program.underlying Try.prog 23 = some (TypeDesc.slice 54) := by kernel_rfl
@[simp] theorem sz_23 : sizeT Try.prog 23 = some 1 := by kernel_rfl
@[simp] theorem by_23 : bytesT Try.prog 23 = some 24 := by kernel_rfl
@[simp] theorem zr_23 : zeroT Try.prog 23 = some [A.imm [] true] := by kernel_rfl
@[simp] theorem ag_23 : isAggT Try.prog 23 = false := by kernel_rfl
@[simp] theorem el_23 : elemT Try.prog 23 = some 54 := by kernel_rfl
@[simp] theorem ni_23 : notInt Try.prog 23 = true := by kernel_rfl
@[simp] theorem un_25 : Program.underlying Try.prog 25 = some (TypeDesc.struct (Array.mk [Field.mk "Sectors" 22 0 false "" "" 0, Field.mk "Pending" 23 1 false "" "" 24, Field.mk "Left" 3 2 false "" "" 48, Field.mk "Stopped" 4 3 false "" "" 56])) := by kernel_rfl
@[simp] theorem sz_25 : sizeT Try.prog 25 = some 4 := by kernel_rfl
@[simp] theorem by_25 : bytesT Try.prog 25 = some 64 := by kernel_rfl
@[simp] theorem zr_25 : zeroT Try.prog 25 = some [A.imm [] true, A.imm [] true, A.v (Value.int IntKind.i64 0), A.v (Value.bool false)] := by kernel_rfl
@[simp] theorem ag_25 : isAggT Try.prog 25 = true := by kernel_rfl
@[simp] theorem ni_25 : notInt Try.prog 25 = false := by kernel_rfl
@[simp] theorem un_28 : Program.underlying Try.prog 28 = some (TypeDesc.int IntKind.i64) := by kernel_rfl
@[simp] theorem sz_28 : sizeT Try.prog 28 = some 1 := by kernel_rfl
@[simp] theorem by_28 : bytesT Try.prog 28 = some 8 := by kernel_rfl
@[simp] theorem zr_28 : zeroT Try.prog 28 = some [A.v (Value.int IntKind.i64 0)] := by kernel_rfl
@[simp] theorem ag_28 : isAggT Try.prog 28 = false := by kernel_rfl
@[simp] theorem ni_28 : notInt Try.prog 28 = false := by kernel_rfl
@[simp] theorem un_35 : Program.underlying Try.prog 35 = some (TypeDesc.slice 5) := by kernel_rfl
@[simp] theorem sz_35 : sizeT Try.prog 35 = some 1 := by kernel_rfl
@[simp] theorem by_35 : bytesT Try.prog 35 = some 24 := by kernel_rfl
@[simp] theorem zr_35 : zeroT Try.prog 35 = some [A.imm [] true] := by kernel_rfl
@[simp] theorem ag_35 : isAggT Try.prog 35 = false := by kernel_rfl
@[simp] theorem el_35 : elemT Try.prog 35 = some 5 := by kernel_rfl
@[simp] theorem ni_35 : notInt Try.prog 35 = true := by kernel_rfl
@[simp] theorem un_43 : Program.underlying Try.prog 43 = some (TypeDesc.slice 46) := by kernel_rfl
@[simp] theorem sz_43 : sizeT Try.prog 43 = some 1 := by kernel_rfl
@[simp] theorem by_43 : bytesT Try.prog 43 = some 24 := by kernel_rfl
@[simp] theorem zr_43 : zeroT Try.prog 43 = some [A.imm [] true] := by kernel_rfl
@[simp] theorem ag_43 : isAggT Try.prog 43 = false := by kernel_rfl
@[simp] theorem el_43 : elemT Try.prog 43 = some 46 := by kernel_rfl
@[simp] theorem ni_43 : notInt Try.prog 43 = true := by kernel_rfl
@[simp] theorem un_46 : Program.underlying Try.prog 46 = some (TypeDesc.struct (Array.mk [Field.mk "Sync" 4 0 false "" "" 0, Field.mk "At" 5 1 false "" "" 1, Field.mk "Byte" 5 2 false "" "" 2])) := by kernel_rfl
@[simp] theorem sz_46 : sizeT Try.prog 46 = some 3 := by kernel_rfl
@[simp] theorem by_46 : bytesT Try.prog 46 = some 3 := by kernel_rfl
@[simp] theorem zr_46 : zeroT Try.prog 46 = some [A.v (Value.bool false), A.v (Value.int IntKind.u8 0), A.v (Value.int IntKind.u8 0)] := by kernel_rfl
@[simp] theorem ag_46 : isAggT Try.prog 46 = true := by kernel_rfl
@[simp] theorem ni_46 : notInt Try.prog 46 = false := by kernel_rfl
@[simp] theorem un_54 : Program.underlying Try.prog 54 = some (TypeDesc.struct (Array.mk [Field.mk "At" 3 0 false "" "" 0, Field.mk "Data" 35 1 false "" "" 8])) := by kernel_rfl
@[simp] theorem sz_54 : sizeT Try.prog 54 = some 2 := by kernel_rfl
@[simp] theorem by_54 : bytesT Try.prog 54 = some 32 := by kernel_rfl
@[simp] theorem zr_54 : zeroT Try.prog 54 = some [A.v (Value.int IntKind.i64 0), A.imm [] true] := by kernel_rfl
@[simp] theorem ag_54 : isAggT Try.prog 54 = true := by kernel_rfl
@[simp] theorem ni_54 : notInt Try.prog 54 = false := by kernel_rfl
@[simp] theorem un_66 : Program.underlying Try.prog 66 = some (TypeDesc.int IntKind.u64) := by kernel_rfl
@[simp] theorem sz_66 : sizeT Try.prog 66 = some 1 := by kernel_rfl
@[simp] theorem by_66 : bytesT Try.prog 66 = some 8 := by kernel_rfl
@[simp] theorem zr_66 : zeroT Try.prog 66 = some [A.v (Value.int IntKind.u64 0)] := by kernel_rfl
@[simp] theorem ag_66 : isAggT Try.prog 66 = false := by kernel_rfl
@[simp] theorem ni_66 : notInt Try.prog 66 = false := by kernel_rfl
@[simp] theorem un_73 : Program.underlying Try.prog 73 = some (TypeDesc.int IntKind.u32) := by kernel_rfl
@[simp] theorem sz_73 : sizeT Try.prog 73 = some 1 := by kernel_rfl
@[simp] theorem by_73 : bytesT Try.prog 73 = some 4 := by kernel_rfl
@[simp] theorem zr_73 : zeroT Try.prog 73 = some [A.v (Value.int IntKind.u32 0)] := by kernel_rfl
@[simp] theorem ag_73 : isAggT Try.prog 73 = false := by kernel_rfl
@[simp] theorem ni_73 : notInt Try.prog 73 = false := by kernel_rfl
@[simp] theorem un_76 : Program.underlying Try.prog 76 = some (TypeDesc.int IntKind.u64) := by kernel_rfl
@[simp] theorem sz_76 : sizeT Try.prog 76 = some 1 := by kernel_rfl
@[simp] theorem by_76 : bytesT Try.prog 76 = some 8 := by kernel_rfl
@[simp] theorem zr_76 : zeroT Try.prog 76 = some [A.v (Value.int IntKind.u64 0)] := by kernel_rfl
@[simp] theorem ag_76 : isAggT Try.prog 76 = false := by kernel_rfl
@[simp] theorem ni_76 : notInt Try.prog 76 = false := by kernel_rfl
theorem qsz (C : Nat → List A → Option A) : Array.size (Program.funcs (Cx.P (cx C))) = 65 := by kernel_rfl
theorem yq {C : Nat → List A → Option A} {m b : Nat} {base : CallT} {args : List A} {H : Heap} {lo : Nat} : evCallY (cx C) m base (Array.size (Program.funcs (Cx.P (cx C))) + b) args H lo = base (65 + b) args H lo := evCallY_y.trans (congrArg (fun q => base (q + b) args H lo) (qsz C))
theorem lt_30 : Nat.ble Try.prog.funcs.size 30 = false := by kernel_rfl
theorem lt_32 : Nat.ble Try.prog.funcs.size 32 = false := by kernel_rfl
theorem lt_37 : Nat.ble Try.prog.funcs.size 37 = false := by kernel_rfl
theorem lt_39 : Nat.ble Try.prog.funcs.size 39 = false := by kernel_rfl
theorem lt_40 : Nat.ble Try.prog.funcs.size 40 = false := by kernel_rfl
theorem lt_41 : Nat.ble Try.prog.funcs.size 41 = false := by kernel_rfl
theorem lt_43 : Nat.ble Try.prog.funcs.size 43 = false := by kernel_rfl
theorem lt_45 : Nat.ble Try.prog.funcs.size 45 = false := by kernel_rfl
theorem lt_46 : Nat.ble Try.prog.funcs.size 46 = false := by kernel_rfl
theorem e7 (C : Nat → List A → Option A) (call : CallT) (rg : CallT → CallT) (n lo : Nat) (x0 x1 x2 x3 x4 : A) (H : Heap) : evCall1 (cx C) call rg n 7 [x0, x1, x2, x3, x4] H lo =
 Option.bind (aBox x0 H) fun r0 =>
 Option.bind (C 10 []) fun t1 =>
 Option.bind (aUn Try.prog UnOp.not t1) fun t2 => bIfN t2 (some (Out.ret (A.v (Value.bool false)), r0.2)) (Option.bind (aLoad Try.prog 25 r0.1 r0.2) fun t3 =>
 Option.bind (C 11 [snap r0.2 t3]) fun t4 =>
 Option.bind (aUn Try.prog UnOp.not t4) fun t5 =>
 Option.bind (bIf t5 (some [A.v (Value.bool true), A.v undef, A.v undef, A.v undef]) (Option.bind (aLen Try.prog 35 x3 r0.2) fun t6 =>
 Option.bind (aBin Try.prog BinOp.gtr 3 false true t6 (A.v (Value.int IntKind.i64 128))) fun t7 => some [t7, t7, t6, x3])) fun l6 => unc l6 fun u7 l7 => unc l7 fun u8 l8 => unc l8 fun u9 l9 => unc l9 fun u10 l10 =>
 Option.bind (bIf u7 (some [A.v (Value.bool true), A.v undef, A.v undef, A.v undef]) (Option.bind (aLen Try.prog 35 x4 r0.2) fun t11 =>
 Option.bind (aBin Try.prog BinOp.gtr 3 false true t11 (A.v (Value.int IntKind.i64 128))) fun t12 => some [t12, t12, t11, x4])) fun l11 => unc l11 fun u12 l12 => unc l12 fun u13 l13 => unc l13 fun u14 l14 => unc l14 fun u15 l15 => bIfN u12 (some (Out.ret (A.v (Value.bool true)), r0.2)) (Option.bind (aLoad Try.prog 25 r0.1 r0.2) fun t16 =>
 Option.bind (C 21 [snap r0.2 t16, snap r0.2 x2]) fun t17 =>
 Option.bind (aExtract t17 0) fun t18 =>
 Option.bind (aExtract t17 1) fun t19 =>
 Option.bind (aLoad Try.prog 25 r0.1 r0.2) fun t20 =>
 Option.bind (C 19 [snap r0.2 t20, snap r0.2 x1, snap r0.2 x3]) fun t21 =>
 Option.bind (aExtract t21 0) fun t22 =>
 Option.bind (aExtract t21 1) fun t23 =>
 Option.bind (aAlloc Try.prog 25 r0.2) fun r24 =>
 Option.bind (aStore Try.prog 25 r24.1 (stV r24.1 r24.2 t22) r24.2 lo) fun H25 =>
 Option.bind (aBin Try.prog BinOp.neq 28 false true t19 (A.v (Value.int IntKind.i64 0))) fun t26 =>
 Option.bind (bIf t26 (some [A.v (Value.bool true), A.v undef, A.v undef]) (Option.bind (aBin Try.prog BinOp.neq 28 false true t23 (A.v (Value.int IntKind.i64 0))) fun t27 => some [t27, t27, t23])) fun l27 => unc l27 fun u28 l28 => unc l28 fun u29 l29 => unc l29 fun u30 l30 => bIfN u28 (some (Out.ret (A.v (Value.bool true)), H25)) (Option.bind (aLoad Try.prog 25 r24.1 H25) fun t31 =>
 Option.bind (C 21 [snap H25 t31, snap H25 x2]) fun t32 =>
 Option.bind (aExtract t32 0) fun t33 =>
 Option.bind (aExtract t32 1) fun t34 =>
 Option.bind (aLoad Try.prog 25 r24.1 H25) fun t35 =>
 Option.bind (C 21 [snap H25 t35, snap H25 x1]) fun t36 =>
 Option.bind (aExtract t36 0) fun t37 =>
 Option.bind (aExtract t36 1) fun t38 =>
 Option.bind (aBin Try.prog BinOp.neq 28 false true t34 (A.v (Value.int IntKind.i64 0))) fun t39 =>
 Option.bind (bIf t39 (some [A.v (Value.bool true), A.v undef, A.v undef]) (Option.bind (aBin Try.prog BinOp.neq 28 false true t38 (A.v (Value.int IntKind.i64 0))) fun t40 => some [t40, t40, t38])) fun l40 => unc l40 fun u41 l41 => unc l41 fun u42 l42 => unc l42 fun u43 l43 =>
 Option.bind (bIf u41 (some [A.v (Value.bool true), A.v undef, A.v undef, A.v undef]) (Option.bind (aLen Try.prog 35 t37 H25) fun t44 =>
 Option.bind (aBin Try.prog BinOp.neq 3 false true t44 (A.v (Value.int IntKind.i64 128))) fun t45 => some [t45, t45, t44, t37])) fun l44 => unc l44 fun u45 l45 => unc l45 fun u46 l46 => unc l46 fun u47 l47 => unc l47 fun u48 l48 =>
 Option.bind (bIf u45 (some [A.v (Value.bool true), A.v undef, A.v undef, A.v undef, A.v undef, A.v undef, A.v undef, A.v undef, A.v undef]) (Option.bind (aLen Try.prog 35 x3 H25) fun t49 =>
 Option.bind (aSlice Try.prog 35 t37 none (some t49) none H25) fun t50 =>
 Option.bind (aConvert Try.prog 35 9 t50 H25) fun t51 =>
 Option.bind (aConvert Try.prog 35 9 x3 H25) fun t52 =>
 Option.bind (aBin Try.prog BinOp.neq 9 false false t51 t52) fun t53 => some [t53, t53, t52, x3, t51, t50, t49, x3, t37])) fun l49 => unc l49 fun u50 l50 => unc l50 fun u51 l51 => unc l51 fun u52 l52 => unc l52 fun u53 l53 => unc l53 fun u54 l54 => unc l54 fun u55 l55 => unc l55 fun u56 l56 => unc l56 fun u57 l57 => unc l57 fun u58 l58 =>
 Option.bind (gIf u50 false (Option.bind (aBin Try.prog BinOp.neq 3 false false x1 x2) fun t59 =>
 Option.bind (gIf t59 true (Option.bind (aConvert Try.prog 35 9 t18 H25) fun t60 =>
 Option.bind (aConvert Try.prog 35 9 t33 H25) fun t61 => some [t61, t33, t60, t18]) (some [A.v undef, A.v undef, A.v undef, A.v undef])) fun l60 => unc l60 fun u61 l61 => unc l61 fun u62 l62 => unc l62 fun u63 l63 => unc l63 fun u64 l64 => some [u61, u62, u63, u64, t59, t59, x2, x1]) (some [A.v undef, A.v undef, A.v undef, A.v undef, A.v undef, A.v undef, A.v undef, A.v undef])) fun l59 => unc l59 fun u60 l60 => unc l60 fun u61 l61 => unc l61 fun u62 l62 => unc l62 fun u63 l63 => unc l63 fun u64 l64 => unc l64 fun u65 l65 => unc l65 fun u66 l66 => unc l66 fun u67 l67 =>
 Option.bind (gIf u64 true (Option.bind (aBin Try.prog BinOp.neq 9 false false u62 u60) fun t68 => some [t68]) (some [A.v undef])) fun l68 => unc l68 fun u69 l69 =>
 Option.bind (bIf u50 (some [A.v (Value.bool true), A.v undef]) (Option.bind (bIf u64 (some u69) (some (A.v (Value.bool false)))) fun t70 => some [t70, t70])) fun l70 => unc l70 fun u71 l71 => unc l71 fun u72 l72 => bIfN u71 (some (Out.ret (A.v (Value.bool false)), H25)) (Option.bind (aLoad Try.prog 25 r24.1 H25) fun t73 =>
 Option.bind (C 19 [snap H25 t73, snap H25 x2, snap H25 x4]) fun t74 =>
 Option.bind (aExtract t74 0) fun t75 =>
 Option.bind (aExtract t74 1) fun t76 =>
 Option.bind (aAlloc Try.prog 25 H25) fun r77 =>
 Option.bind (aStore Try.prog 25 r77.1 (stV r77.1 r77.2 t75) r77.2 lo) fun H78 =>
 Option.bind (aBin Try.prog BinOp.neq 28 false true t76 (A.v (Value.int IntKind.i64 0))) fun t79 => bIfN t79 (Option.bind (aBin Try.prog BinOp.eql 28 false true t76 (A.v (Value.int IntKind.i64 2))) fun t80 => some (Out.ret t80, H78)) (Option.bind (aLoad Try.prog 25 r77.1 H78) fun t80 =>
 Option.bind (C 23 [snap H78 t80]) fun t81 =>
 Option.bind (aExtract t81 0) fun t82 =>
 Option.bind (aExtract t81 1) fun t83 =>
 Option.bind (aAlloc Try.prog 25 H78) fun r84 =>
 Option.bind (aStore Try.prog 25 r84.1 (stV r84.1 r84.2 t82) r84.2 lo) fun H85 =>
 Option.bind (aBin Try.prog BinOp.neq 28 false true t83 (A.v (Value.int IntKind.i64 0))) fun t86 => bIfN t86 (Option.bind (aBin Try.prog BinOp.eql 28 false true t83 (A.v (Value.int IntKind.i64 40))) fun t87 =>
 Option.bind (bIf t87 (Option.bind (aFieldAddr Try.prog 25 r84.1 3 H85) fun t88 =>
 Option.bind (aLoad Try.prog 4 t88 H85) fun t89 => some [t89, t89, t88]) (some [A.v (Value.bool false), A.v undef, A.v undef])) fun l88 => unc l88 fun u89 l89 => unc l89 fun u90 l90 => unc l90 fun u91 l91 => some (Out.ret u89, H85)) (loopR (cx C) call rg n 7 lo 0 (List.length H85) (fun i87 s87 => bif Nat.beq i87 0 then
 Option.bind (aFieldAddr Try.prog 25 (look (St.fr s87) 21) 1 (St.H s87)) fun t88 =>
 Option.bind (aLoad Try.prog 23 t88 (St.H s87)) fun t89 =>
 Option.bind (aLen Try.prog 23 t89 (St.H s87)) fun t90 =>
 Option.bind (aBin Try.prog BinOp.eql 3 false true t90 (A.v (Value.int IntKind.i64 0))) fun t91 =>
 Option.bind (bIf t91 (Option.bind (aLoad Try.prog 25 (look (St.fr s87) 21) (St.H s87)) fun t92 =>
 Option.bind (C 15 [snap (St.H s87) t92]) fun t93 =>
 Option.bind (aBin Try.prog BinOp.eql 28 false true t93 (A.v (Value.int IntKind.i64 0))) fun t94 => some [t94, t94, t93, t92]) (some [A.v (Value.bool false), A.v undef, A.v undef, A.v undef])) fun l92 => unc l92 fun u93 l93 => unc l93 fun u94 l94 => unc l94 fun u95 l95 => unc l95 fun u96 l96 => some (Out.ret u93, St.H s87) else none) (fun i87 s87 => none) (fun a87 => some (Out.ret (look (St.fr a87) 10), St.H a87)) (fun i87 s87 => some (Out.pan i87, St.H s87)) n (St.mk [(5, r0.1), (10, A.v (Value.bool false)), (19, r77.1), (21, r84.1), (23, A.v (Value.int IntKind.i64 0))] H85))))))) := by kernel_rfl
theorem e8 (C : Nat → List A → Option A) (call : CallT) (rg : CallT → CallT) (n lo : Nat) (x0 x1 : A) (H : Heap) : evCall1 (cx C) call rg n 8 [x0, x1] H lo =
 Option.bind (aBox x0 H) fun r0 =>
 Option.bind (C 10 []) fun t1 =>
 Option.bind (aUn Try.prog UnOp.not t1) fun t2 => bIfN t2 (some (Out.ret (A.v (Value.bool false)), r0.2)) (Option.bind (aLoad Try.prog 25 r0.1 r0.2) fun t3 =>
 Option.bind (C 11 [snap r0.2 t3]) fun t4 =>
 Option.bind (aUn Try.prog UnOp.not t4) fun t5 =>
 Option.bind (bIf t5 (some [A.v (Value.bool true), A.v undef, A.v undef, A.v undef]) (Option.bind (aLen Try.prog 43 x1 r0.2) fun t6 =>
 Option.bind (aBin Try.prog BinOp.gtr 3 false true t6 (A.v (Value.int IntKind.i64 20))) fun t7 => some [t7, t7, t6, x1])) fun l6 => unc l6 fun u7 l7 => unc l7 fun u8 l8 => unc l8 fun u9 l9 => unc l9 fun u10 l10 =>
 Option.bind (bIf u7 (some [A.v (Value.bool true), A.v undef, A.v undef, A.v undef, A.v undef]) (Option.bind (aFieldAddr Try.prog 25 r0.1 1 r0.2) fun t11 =>
 Option.bind (aLoad Try.prog 23 t11 r0.2) fun t12 =>
 Option.bind (aLen Try.prog 23 t12 r0.2) fun t13 =>
 Option.bind (aBin Try.prog BinOp.gtr 3 false true t13 (A.v (Value.int IntKind.i64 0))) fun t14 => some [t14, t14, t13, t12, t11])) fun l11 => unc l11 fun u12 l12 => unc l12 fun u13 l13 => unc l13 fun u14 l14 => unc l14 fun u15 l15 => unc l15 fun u16 l16 =>
 Option.bind (bIf u12 (some [A.v (Value.bool true), A.v undef, A.v undef, A.v undef, A.v undef]) (Option.bind (aFieldAddr Try.prog 25 r0.1 0 r0.2) fun t17 =>
 Option.bind (aLoad Try.prog 22 t17 r0.2) fun t18 =>
 Option.bind (aLen Try.prog 22 t18 r0.2) fun t19 =>
 Option.bind (aBin Try.prog BinOp.eql 3 false true t19 (A.v (Value.int IntKind.i64 0))) fun t20 => some [t20, t20, t19, t18, t17])) fun l17 => unc l17 fun u18 l18 => unc l18 fun u19 l19 => unc l19 fun u20 l20 => unc l20 fun u21 l21 => unc l21 fun u22 l22 =>
 Option.bind (bIf u18 (some [A.v (Value.bool true), A.v undef, A.v undef, A.v undef]) (Option.bind (aLoad Try.prog 25 r0.1 r0.2) fun t23 =>
 Option.bind (C 15 [snap r0.2 t23]) fun t24 =>
 Option.bind (aBin Try.prog BinOp.neq 28 false true t24 (A.v (Value.int IntKind.i64 0))) fun t25 => some [t25, t25, t24, t23])) fun l23 => unc l23 fun u24 l24 => unc l24 fun u25 l25 => unc l25 fun u26 l26 => unc l26 fun u27 l27 =>
 Option.bind (bIf u24 (some [A.v (Value.bool true), A.v undef, A.v undef]) (Option.bind (aFieldAddr Try.prog 25 r0.1 3 r0.2) fun t28 =>
 Option.bind (aLoad Try.prog 4 t28 r0.2) fun t29 => some [t29, t29, t28])) fun l28 => unc l28 fun u29 l29 => unc l29 fun u30 l30 => unc l30 fun u31 l31 => bIfN u29 (some (Out.ret (A.v (Value.bool true)), r0.2)) (Option.bind (aAlloc Try.prog 25 r0.2) fun r32 =>
 Option.bind (aAlloc Try.prog 25 r32.2) fun r33 =>
 Option.bind (aLoad Try.prog 25 r0.1 r33.2) fun t34 =>
 Option.bind (aLoad Try.prog 25 r0.1 r33.2) fun t35 => bif bif apart r0.1 r32.1 then true else false then
 Option.bind (aStore Try.prog 25 r32.1 (stV r32.1 r33.2 t34) r33.2 lo) fun H36 =>
 Option.bind (aStore Try.prog 25 r33.1 (stV r33.1 H36 t35) H36 lo) fun H37 => loopR (cx C) call rg n 8 lo 0 (List.length H37) (fun i38 s38 => bif Nat.beq i38 0 then loopR (cx C) call rg n 8 lo 1 (List.length (St.H s38)) (fun i39 s39 => bif Nat.beq i39 2 then
 Option.bind (aLoad Try.prog 25 (look (St.fr s39) 6) (St.H s39)) fun t40 =>
 Option.bind (C 23 [snap (St.H s39) t40]) fun t41 =>
 Option.bind (aExtract t41 0) fun t42 =>
 Option.bind (aExtract t41 1) fun t43 =>
 Option.bind (aStore Try.prog 25 (look (St.fr s39) 6) (stV (look (St.fr s39) 6) (St.H s39) t42) (St.H s39) lo) fun H44 =>
 Option.bind (aBin Try.prog BinOp.eql 28 false false (look (St.fr s39) 7) t43) fun t45 =>
 Option.bind (bIf t45 (Option.bind (aLoad Try.prog 25 (look (St.fr s39) 5) H44) fun t46 =>
 Option.bind (aLoad Try.prog 25 (look (St.fr s39) 6) H44) fun t47 =>
 Option.bind (C 14 [snap H44 t46, snap H44 t47]) fun t48 => some [t48, t48, t47, t46]) (some [A.v (Value.bool false), A.v undef, A.v undef, A.v undef])) fun l46 => unc l46 fun u47 l47 => unc l47 fun u48 l48 => unc l48 fun u49 l49 => unc l49 fun u50 l50 => some (Out.ret u47, H44) else none) (fun i39 s39 => none) (fun a39 => some (Out.ret (look (St.fr a39) 4), St.H a39)) (fun i39 s39 => some (Out.pan i39, St.H s39)) n (St.mk [(1, look (St.fr s38) 1), (2, look (St.fr s38) 2), (4, look (St.fr s38) 4), (5, look (St.fr s38) 5), (6, look (St.fr s38) 6), (7, look (St.fr s38) 7), (12, A.v (Value.int IntKind.i64 0))] (St.H s38)) else none) (fun i38 s38 => none) (fun a38 => some (Out.ret (look (St.fr a38) 4), St.H a38)) (fun i38 s38 => some (Out.pan i38, St.H s38)) n (St.mk [(1, x1), (2, r0.1), (4, A.v (Value.bool false)), (5, r32.1), (6, r33.1), (7, A.v (Value.int IntKind.i64 0)), (8, A.v (Value.int IntKind.i64 0))] H37) else none)) := by kernel_rfl
theorem e9 (C : Nat → List A → Option A) (call : CallT) (rg : CallT → CallT) (n lo : Nat) (x0 x1 x2 x3 : A) (H : Heap) : evCall1 (cx C) call rg n 9 [x0, x1, x2, x3] H lo =
 Option.bind (aBox x0 H) fun r0 =>
 Option.bind (C 10 []) fun t1 =>
 Option.bind (aUn Try.prog UnOp.not t1) fun t2 => bIfN t2 (some (Out.ret (A.v (Value.bool false)), r0.2)) (Option.bind (aLoad Try.prog 25 r0.1 r0.2) fun t3 =>
 Option.bind (C 11 [snap r0.2 t3]) fun t4 =>
 Option.bind (aUn Try.prog UnOp.not t4) fun t5 =>
 Option.bind (bIf t5 (some [A.v (Value.bool true), A.v undef, A.v undef, A.v undef]) (Option.bind (aLen Try.prog 35 x3 r0.2) fun t6 =>
 Option.bind (aBin Try.prog BinOp.gtr 3 false true t6 (A.v (Value.int IntKind.i64 1000))) fun t7 => some [t7, t7, t6, x3])) fun l6 => unc l6 fun u7 l7 => unc l7 fun u8 l8 => unc l8 fun u9 l9 => unc l9 fun u10 l10 => bIfN u7 (some (Out.ret (A.v (Value.bool true)), r0.2)) (Option.bind (aLoad Try.prog 25 r0.1 r0.2) fun t11 =>
 Option.bind (C 17 [snap r0.2 t11]) fun t12 =>
 Option.bind (aAlloc Try.prog 25 r0.2) fun r13 =>
 Option.bind (aStore Try.prog 25 r13.1 (stV r13.1 r13.2 t12) r13.2 lo) fun H14 =>
 Option.bind (aLoad Try.prog 25 r13.1 H14) fun t15 =>
 Option.bind (C 17 [snap H14 t15]) fun t16 =>
 Option.bind (aAlloc Try.prog 25 H14) fun r17 =>
 Option.bind (aStore Try.prog 25 r17.1 (stV r17.1 r17.2 t16) r17.2 lo) fun H18 =>
 Option.bind (aFieldAddr Try.prog 25 r13.1 3 H18) fun t19 =>
 Option.bind (aLoad Try.prog 4 t19 H18) fun t20 =>
 Option.bind (bIf t20 (some [A.v (Value.bool true), A.v undef, A.v undef, A.v undef]) (Option.bind (aFieldAddr Try.prog 25 r13.1 2 H18) fun t21 =>
 Option.bind (aLoad Try.prog 3 t21 H18) fun t22 =>
 Option.bind (aBin Try.prog BinOp.neq 3 false true t22 (A.v (Value.int IntKind.i64 (-1)))) fun t23 => some [t23, t23, t22, t21])) fun l21 => unc l21 fun u22 l22 => unc l22 fun u23 l23 => unc l23 fun u24 l24 => unc l24 fun u25 l25 =>
 Option.bind (bIf u22 (some [A.v (Value.bool true), A.v undef, A.v undef, A.v undef, A.v undef]) (Option.bind (aFieldAddr Try.prog 25 r13.1 1 H18) fun t26 =>
 Option.bind (aLoad Try.prog 23 t26 H18) fun t27 =>
 Option.bind (aLen Try.prog 23 t27 H18) fun t28 =>
 Option.bind (aBin Try.prog BinOp.neq 3 false true t28 (A.v (Value.int IntKind.i64 0))) fun t29 => some [t29, t29, t28, t27, t26])) fun l26 => unc l26 fun u27 l27 => unc l27 fun u28 l28 => unc l28 fun u29 l29 => unc l29 fun u30 l30 => unc l30 fun u31 l31 =>
 Option.bind (bIf u27 (some [A.v (Value.bool true), A.v undef, A.v undef, A.v undef, A.v undef]) (Option.bind (aLoad Try.prog 25 r13.1 H18) fun t32 =>
 Option.bind (aLoad Try.prog 25 r17.1 H18) fun t33 =>
 Option.bind (C 14 [snap H18 t32, snap H18 t33]) fun t34 =>
 Option.bind (aUn Try.prog UnOp.not t34) fun t35 => some [t35, t35, t34, t33, t32])) fun l32 => unc l32 fun u33 l33 => unc l33 fun u34 l34 => unc l34 fun u35 l35 => unc l35 fun u36 l36 => unc l36 fun u37 l37 =>
 Option.bind (bIf u33 (some [A.v (Value.bool true), A.v undef, A.v undef, A.v undef, A.v undef, A.v undef, A.v undef, A.v undef]) (Option.bind (aFieldAddr Try.prog 25 r13.1 0 H18) fun t38 =>
 Option.bind (aLoad Try.prog 22 t38 H18) fun t39 =>
 Option.bind (aLen Try.prog 22 t39 H18) fun t40 =>
 Option.bind (aFieldAddr Try.prog 25 r0.1 0 H18) fun t41 =>
 Option.bind (aLoad Try.prog 22 t41 H18) fun t42 =>
 Option.bind (aLen Try.prog 22 t42 H18) fun t43 =>
 Option.bind (aBin Try.prog BinOp.neq 3 false false t40 t43) fun t44 => some [t44, t44, t43, t42, t41, t40, t39, t38])) fun l38 => unc l38 fun u39 l39 => unc l39 fun u40 l40 => unc l40 fun u41 l41 => unc l41 fun u42 l42 => unc l42 fun u43 l43 => unc l43 fun u44 l44 => unc l44 fun u45 l45 => unc l45 fun u46 l46 => bIfN u39 (some (Out.ret (A.v (Value.bool false)), H18)) (loopR (cx C) call rg n 9 lo 0 (List.length H18) (fun i47 s47 => bif Nat.beq i47 0 then
 Option.bind (aFieldAddr Try.prog 25 (look (St.fr s47) 4) 3 (St.H s47)) fun t48 =>
 Option.bind (aStore Try.prog 4 t48 (stV t48 (St.H s47) (A.v (Value.bool true))) (St.H s47) lo) fun H49 =>
 Option.bind (aLoad Try.prog 25 (look (St.fr s47) 4) H49) fun t50 =>
 Option.bind (C 21 [snap H49 t50, snap H49 (look (St.fr s47) 1)]) fun t51 =>
 Option.bind (aExtract t51 0) fun t52 =>
 Option.bind (aExtract t51 1) fun t53 =>
 Option.bind (aLoad Try.prog 25 (look (St.fr s47) 4) H49) fun t54 =>
 Option.bind (C 19 [snap H49 t54, snap H49 (look (St.fr s47) 1), snap H49 (look (St.fr s47) 3)]) fun t55 =>
 Option.bind (aExtract t55 0) fun t56 =>
 Option.bind (aExtract t55 1) fun t57 =>
 Option.bind (aAlloc Try.prog 25 H49) fun r58 =>
 Option.bind (aStore Try.prog 25 r58.1 (stV r58.1 r58.2 t56) r58.2 lo) fun H59 =>
 Option.bind (aLoad Try.prog 25 (look (St.fr s47) 4) H59) fun t60 =>
 Option.bind (C 23 [snap H59 t60]) fun t61 =>
 Option.bind (aExtract t61 0) fun t62 =>
 Option.bind (aExtract t61 1) fun t63 =>
 Option.bind (aAlloc Try.prog 25 H59) fun r64 =>
 Option.bind (aStore Try.prog 25 r64.1 (stV r64.1 r64.2 t62) r64.2 lo) fun H65 =>
 Option.bind (aLoad Try.prog 25 (look (St.fr s47) 4) H65) fun t66 =>
 Option.bind (C 25 [snap H65 t66, snap H65 (look (St.fr s47) 2)]) fun t67 =>
 Option.bind (aExtract t67 0) fun t68 =>
 Option.bind (aExtract t67 1) fun t69 =>
 Option.bind (aAlloc Try.prog 25 H65) fun r70 =>
 Option.bind (aStore Try.prog 25 r70.1 (stV r70.1 r70.2 t68) r70.2 lo) fun H71 =>
 Option.bind (aBin Try.prog BinOp.eql 28 false true t53 (A.v (Value.int IntKind.i64 40))) fun t72 =>
 Option.bind (bIf t72 (Option.bind (aBin Try.prog BinOp.eql 28 false true t57 (A.v (Value.int IntKind.i64 40))) fun t73 => some [t73, t73, t57]) (some [A.v (Value.bool false), A.v undef, A.v undef])) fun l73 => unc l73 fun u74 l74 => unc l74 fun u75 l75 => unc l75 fun u76 l76 =>
 Option.bind (bIf u74 (Option.bind (aBin Try.prog BinOp.eql 28 false true t63 (A.v (Value.int IntKind.i64 40))) fun t77 => some [t77, t77, t63]) (some [A.v (Value.bool false), A.v undef, A.v undef])) fun l77 => unc l77 fun u78 l78 => unc l78 fun u79 l79 => unc l79 fun u80 l80 =>
 Option.bind (bIf u78 (Option.bind (aBin Try.prog BinOp.eql 28 false true t69 (A.v (Value.int IntKind.i64 40))) fun t81 => some [t81, t81, t69]) (some [A.v (Value.bool false), A.v undef, A.v undef])) fun l81 => unc l81 fun u82 l82 => unc l82 fun u83 l83 => unc l83 fun u84 l84 => some (Out.ret u82, H71) else none) (fun i47 s47 => none) (fun a47 => some (Out.ret (look (St.fr a47) 8), St.H a47)) (fun i47 s47 => some (Out.pan i47, St.H s47)) n (St.mk [(1, x1), (2, x2), (3, x3), (4, r0.1), (8, A.v (Value.bool false)), (9, r13.1), (11, A.v (Value.int IntKind.i64 0))] H18)))) := by kernel_rfl
theorem e10 (C : Nat → List A → Option A) (call : CallT) (rg : CallT → CallT) (n lo : Nat) (H : Heap) : evCall1 (cx C) call rg n 10 [] H lo =
 Option.bind (C 12 [snap H (A.v (Value.int IntKind.i64 0))]) fun t0 =>
 Option.bind (aExtract t0 0) fun t1 =>
 Option.bind (aExtract t0 1) fun t2 =>
 Option.bind (aAlloc Try.prog 25 H) fun r3 =>
 Option.bind (aStore Try.prog 25 r3.1 (stV r3.1 r3.2 t1) r3.2 lo) fun H4 =>
 Option.bind (C 12 [snap H4 (A.v (Value.int IntKind.i64 2))]) fun t5 =>
 Option.bind (aExtract t5 0) fun t6 =>
 Option.bind (aExtract t5 1) fun t7 =>
 Option.bind (aAlloc Try.prog 25 H4) fun r8 =>
 Option.bind (aStore Try.prog 25 r8.1 (stV r8.1 r8.2 t6) r8.2 lo) fun H9 =>
 Option.bind (aLoad Try.prog 25 r8.1 H9) fun t10 =>
 Option.bind (aBuildSlice Try.prog 35 1 [(0, frzA H9 (A.v (Value.int IntKind.u8 7)))]) fun t11 =>
 Option.bind (C 19 [snap H9 t10, snap H9 (A.v (Value.int IntKind.i64 1)), snap H9 t11]) fun t12 =>
 Option.bind (aExtract t12 0) fun t13 =>
 Option.bind (aExtract t12 1) fun t14 =>
 Option.bind (aAlloc Try.prog 25 H9) fun r15 =>
 Option.bind (aStore Try.prog 25 r15.1 (stV r15.1 r15.2 t13) r15.2 lo) fun H16 =>
 Option.bind (aLoad Try.prog 25 r15.1 H16) fun t17 =>
 Option.bind (C 21 [snap H16 t17, snap H16 (A.v (Value.int IntKind.i64 1))]) fun t18 =>
 Option.bind (aExtract t18 0) fun t19 =>
 Option.bind (aExtract t18 1) fun t20 =>
 Option.bind (aLoad Try.prog 25 r8.1 H16) fun t21 =>
 Option.bind (C 21 [snap H16 t21, snap H16 (A.v (Value.int IntKind.i64 2))]) fun t22 =>
 Option.bind (aExtract t22 0) fun t23 =>
 Option.bind (aExtract t22 1) fun t24 =>
 Option.bind (aAlloc Try.prog 25 H16) fun r25 =>
 Option.bind (aLoad Try.prog 25 r8.1 r25.2) fun t26 => bif bif apart r8.1 A.any then true else false then
 Option.bind (aMakeImm Try.prog 35 (A.v (Value.int IntKind.i64 129)) (A.v (Value.int IntKind.i64 129)) r25.2) fun r27 =>
 Option.bind (C 19 [snap r27.2 t26, snap r27.2 (A.v (Value.int IntKind.i64 0)), snap r27.2 r27.1]) fun t28 =>
 Option.bind (aExtract t28 0) fun t29 =>
 Option.bind (aExtract t28 1) fun t30 =>
 Option.bind (aStore Try.prog 25 r25.1 (stV r25.1 r27.2 t29) r27.2 lo) fun H31 =>
 Option.bind (aLoad Try.prog 25 r15.1 H31) fun t32 =>
 Option.bind (C 25 [snap H31 t32, snap H31 (A.v (Value.int IntKind.i64 1))]) fun t33 =>
 Option.bind (aExtract t33 0) fun t34 =>
 Option.bind (aExtract t33 1) fun t35 =>
 Option.bind (aAlloc Try.prog 25 H31) fun r36 =>
 Option.bind (aStore Try.prog 25 r36.1 (stV r36.1 r36.2 t34) r36.2 lo) fun H37 =>
 Option.bind (aLoad Try.prog 25 r36.1 H37) fun t38 =>
 Option.bind (C 27 [snap H37 (A.v (Value.int IntKind.u8 8))]) fun t39 =>
 Option.bind (C 19 [snap H37 t38, snap H37 (A.v (Value.int IntKind.i64 0)), snap H37 t39]) fun t40 =>
 Option.bind (aExtract t40 0) fun t41 =>
 Option.bind (aExtract t40 1) fun t42 =>
 Option.bind (aStore Try.prog 25 r36.1 (stV r36.1 H37 t41) H37 lo) fun H43 =>
 Option.bind (aLoad Try.prog 25 r36.1 H43) fun t44 =>
 Option.bind (C 23 [snap H43 t44]) fun t45 =>
 Option.bind (aExtract t45 0) fun t46 =>
 Option.bind (aExtract t45 1) fun t47 =>
 Option.bind (aAlloc Try.prog 25 H43) fun r48 =>
 Option.bind (aStore Try.prog 25 r48.1 (stV r48.1 r48.2 t46) r48.2 lo) fun H49 =>
 Option.bind (aBin Try.prog BinOp.neq 28 false true t2 (A.v (Value.int IntKind.i64 1))) fun t50 =>
 Option.bind (bIf t50 (some [A.v (Value.bool true), A.v undef, A.v undef]) (Option.bind (aBin Try.prog BinOp.neq 28 false true t7 (A.v (Value.int IntKind.i64 0))) fun t51 => some [t51, t51, t7])) fun l51 => unc l51 fun u52 l52 => unc l52 fun u53 l53 => unc l53 fun u54 l54 =>
 Option.bind (bIf u52 (some [A.v (Value.bool true), A.v undef, A.v undef]) (Option.bind (aBin Try.prog BinOp.neq 28 false true t14 (A.v (Value.int IntKind.i64 0))) fun t55 => some [t55, t55, t14])) fun l55 => unc l55 fun u56 l56 => unc l56 fun u57 l57 => unc l57 fun u58 l58 =>
 Option.bind (bIf u56 (some [A.v (Value.bool true), A.v undef, A.v undef]) (Option.bind (aBin Try.prog BinOp.neq 28 false true t20 (A.v (Value.int IntKind.i64 0))) fun t59 => some [t59, t59, t20])) fun l59 => unc l59 fun u60 l60 => unc l60 fun u61 l61 => unc l61 fun u62 l62 =>
 Option.bind (bIf u60 (some [A.v (Value.bool true), A.v undef, A.v undef]) (Option.bind (aBin Try.prog BinOp.neq 28 false true t24 (A.v (Value.int IntKind.i64 40))) fun t63 => some [t63, t63, t24])) fun l63 => unc l63 fun u64 l64 => unc l64 fun u65 l65 => unc l65 fun u66 l66 =>
 Option.bind (bIf u64 (some [A.v (Value.bool true), A.v undef, A.v undef]) (Option.bind (aBin Try.prog BinOp.neq 28 false true t30 (A.v (Value.int IntKind.i64 1))) fun t67 => some [t67, t67, t30])) fun l67 => unc l67 fun u68 l68 => unc l68 fun u69 l69 => unc l69 fun u70 l70 =>
 Option.bind (bIf u68 (some [A.v (Value.bool true), A.v undef, A.v undef]) (Option.bind (aBin Try.prog BinOp.neq 28 false true t35 (A.v (Value.int IntKind.i64 0))) fun t71 => some [t71, t71, t35])) fun l71 => unc l71 fun u72 l72 => unc l72 fun u73 l73 => unc l73 fun u74 l74 =>
 Option.bind (bIf u72 (some [A.v (Value.bool true), A.v undef, A.v undef]) (Option.bind (aBin Try.prog BinOp.neq 28 false true t42 (A.v (Value.int IntKind.i64 0))) fun t75 => some [t75, t75, t42])) fun l75 => unc l75 fun u76 l76 => unc l76 fun u77 l77 => unc l77 fun u78 l78 =>
 Option.bind (bIf u76 (some [A.v (Value.bool true), A.v undef, A.v undef]) (Option.bind (aBin Try.prog BinOp.neq 28 false true t47 (A.v (Value.int IntKind.i64 40))) fun t79 => some [t79, t79, t47])) fun l79 => unc l79 fun u80 l80 => unc l80 fun u81 l81 => unc l81 fun u82 l82 =>
 Option.bind (bIf u80 (some [A.v (Value.bool true), A.v undef, A.v undef, A.v undef]) (Option.bind (aFieldAddr Try.prog 25 r48.1 3 H49) fun t83 =>
 Option.bind (aLoad Try.prog 4 t83 H49) fun t84 =>
 Option.bind (aUn Try.prog UnOp.not t84) fun t85 => some [t85, t85, t84, t83])) fun l83 => unc l83 fun u84 l84 => unc l84 fun u85 l85 => unc l85 fun u86 l86 => unc l86 fun u87 l87 => bIfN u84 (some (Out.ret (A.v (Value.bool false)), H49)) (Option.bind (aLoad Try.prog 25 r48.1 H49) fun t88 =>
 Option.bind (C 17 [snap H49 t88]) fun t89 =>
 Option.bind (aStore Try.prog 25 r48.1 (stV r48.1 H49 t89) H49 lo) fun H90 =>
 Option.bind (aLoad Try.prog 25 r48.1 H90) fun t91 =>
 Option.bind (C 21 [snap H90 t91, snap H90 (A.v (Value.int IntKind.i64 1))]) fun t92 =>
 Option.bind (aExtract t92 0) fun t93 =>
 Option.bind (aExtract t92 1) fun t94 =>
 Option.bind (aLoad Try.prog 25 r48.1 H90) fun t95 =>
 Option.bind (C 21 [snap H90 t95, snap H90 (A.v (Value.int IntKind.i64 0))]) fun t96 =>
 Option.bind (aExtract t96 0) fun t97 =>
 Option.bind (aExtract t96 1) fun t98 =>
 Option.bind (aLoad Try.prog 25 r15.1 H90) fun t99 =>
 Option.bind (C 17 [snap H90 t99]) fun t100 =>
 Option.bind (C 21 [snap H90 t100, snap H90 (A.v (Value.int IntKind.i64 1))]) fun t101 =>
 Option.bind (aExtract t101 0) fun t102 =>
 Option.bind (aExtract t101 1) fun t103 =>
 Option.bind (aBin Try.prog BinOp.eql 28 false true t94 (A.v (Value.int IntKind.i64 0))) fun t104 =>
 Option.bind (bIf t104 (Option.bind (aBin Try.prog BinOp.eql 28 false true t98 (A.v (Value.int IntKind.i64 0))) fun t105 => some [t105, t105, t98]) (some [A.v (Value.bool false), A.v undef, A.v undef])) fun l105 => unc l105 fun u106 l106 => unc l106 fun u107 l107 => unc l107 fun u108 l108 =>
 Option.bind (bIf u106 (Option.bind (aBin Try.prog BinOp.eql 28 false true t103 (A.v (Value.int IntKind.i64 0))) fun t109 => some [t109, t109, t103]) (some [A.v (Value.bool false), A.v undef, A.v undef])) fun l109 => unc l109 fun u110 l110 => unc l110 fun u111 l111 => unc l111 fun u112 l112 =>
 Option.bind (bIf u110 (Option.bind (aLen Try.prog 35 t19 H90) fun t113 =>
 Option.bind (aBin Try.prog BinOp.eql 3 false true t113 (A.v (Value.int IntKind.i64 128))) fun t114 => some [t114, t114, t113, t19]) (some [A.v (Value.bool false), A.v undef, A.v undef, A.v undef])) fun l113 => unc l113 fun u114 l114 => unc l114 fun u115 l115 => unc l115 fun u116 l116 => unc l116 fun u117 l117 =>
 Option.bind (bIf u114 (Option.bind (aIndexAddr Try.prog 35 t19 (A.v (Value.int IntKind.i64 0)) H90) fun t118 =>
 Option.bind (aLoad Try.prog 5 t118 H90) fun t119 =>
 Option.bind (aBin Try.prog BinOp.eql 5 false true t119 (A.v (Value.int IntKind.u8 7))) fun t120 => some [t120, t120, t119, t118, t19]) (some [A.v (Value.bool false), A.v undef, A.v undef, A.v undef, A.v undef])) fun l118 => unc l118 fun u119 l119 => unc l119 fun u120 l120 => unc l120 fun u121 l121 => unc l121 fun u122 l122 => unc l122 fun u123 l123 =>
 Option.bind (bIf u119 (Option.bind (aLen Try.prog 35 t93 H90) fun t124 =>
 Option.bind (aBin Try.prog BinOp.eql 3 false true t124 (A.v (Value.int IntKind.i64 128))) fun t125 => some [t125, t125, t124, t93]) (some [A.v (Value.bool false), A.v undef, A.v undef, A.v undef])) fun l124 => unc l124 fun u125 l125 => unc l125 fun u126 l126 => unc l126 fun u127 l127 => unc l127 fun u128 l128 =>
 Option.bind (bIf u125 (Option.bind (aIndexAddr Try.prog 35 t93 (A.v (Value.int IntKind.i64 0)) H90) fun t129 =>
 Option.bind (aLoad Try.prog 5 t129 H90) fun t130 =>
 Option.bind (aBin Try.prog BinOp.eql 5 false true t130 (A.v (Value.int IntKind.u8 7))) fun t131 => some [t131, t131, t130, t129, t93]) (some [A.v (Value.bool false), A.v undef, A.v undef, A.v undef, A.v undef])) fun l129 => unc l129 fun u130 l130 => unc l130 fun u131 l131 => unc l131 fun u132 l132 => unc l132 fun u133 l133 => unc l133 fun u134 l134 =>
 Option.bind (bIf u130 (Option.bind (aLen Try.prog 35 t97 H90) fun t135 =>
 Option.bind (aBin Try.prog BinOp.eql 3 false true t135 (A.v (Value.int IntKind.i64 128))) fun t136 => some [t136, t136, t135, t97]) (some [A.v (Value.bool false), A.v undef, A.v undef, A.v undef])) fun l135 => unc l135 fun u136 l136 => unc l136 fun u137 l137 => unc l137 fun u138 l138 => unc l138 fun u139 l139 =>
 Option.bind (bIf u136 (Option.bind (aIndexAddr Try.prog 35 t97 (A.v (Value.int IntKind.i64 0)) H90) fun t140 =>
 Option.bind (aLoad Try.prog 5 t140 H90) fun t141 =>
 Option.bind (aBin Try.prog BinOp.eql 5 false true t141 (A.v (Value.int IntKind.u8 8))) fun t142 => some [t142, t142, t141, t140, t97]) (some [A.v (Value.bool false), A.v undef, A.v undef, A.v undef, A.v undef])) fun l140 => unc l140 fun u141 l141 => unc l141 fun u142 l142 => unc l142 fun u143 l143 => unc l143 fun u144 l144 => unc l144 fun u145 l145 =>
 Option.bind (bIf u141 (Option.bind (aIndexAddr Try.prog 35 t97 (A.v (Value.int IntKind.i64 64)) H90) fun t146 =>
 Option.bind (aLoad Try.prog 5 t146 H90) fun t147 =>
 Option.bind (aBin Try.prog BinOp.eql 5 false true t147 (A.v (Value.int IntKind.u8 0))) fun t148 => some [t148, t148, t147, t146, t97]) (some [A.v (Value.bool false), A.v undef, A.v undef, A.v undef, A.v undef])) fun l146 => unc l146 fun u147 l147 => unc l147 fun u148 l148 => unc l148 fun u149 l149 => unc l149 fun u150 l150 => unc l150 fun u151 l151 =>
 Option.bind (bIf u147 (Option.bind (aLen Try.prog 35 t102 H90) fun t152 =>
 Option.bind (aBin Try.prog BinOp.eql 3 false true t152 (A.v (Value.int IntKind.i64 128))) fun t153 => some [t153, t153, t152, t102]) (some [A.v (Value.bool false), A.v undef, A.v undef, A.v undef])) fun l152 => unc l152 fun u153 l153 => unc l153 fun u154 l154 => unc l154 fun u155 l155 => unc l155 fun u156 l156 =>
 Option.bind (bIf u153 (Option.bind (aIndexAddr Try.prog 35 t102 (A.v (Value.int IntKind.i64 0)) H90) fun t157 =>
 Option.bind (aLoad Try.prog 5 t157 H90) fun t158 =>
 Option.bind (aBin Try.prog BinOp.eql 5 false true t158 (A.v (Value.int IntKind.u8 0))) fun t159 => some [t159, t159, t158, t157, t102]) (some [A.v (Value.bool false), A.v undef, A.v undef, A.v undef, A.v undef])) fun l157 => unc l157 fun u158 l158 => unc l158 fun u159 l159 => unc l159 fun u160 l160 => unc l160 fun u161 l161 => unc l161 fun u162 l162 =>
 Option.bind (bIf u158 (Option.bind (aBuild Try.prog 25 []) fun t163 =>
 Option.bind (C 15 [snap H90 t163]) fun t164 =>
 Option.bind (aBin Try.prog BinOp.eql 28 false true t164 (A.v (Value.int IntKind.i64 40))) fun t165 => some [t165, t165, t164, t163]) (some [A.v (Value.bool false), A.v undef, A.v undef, A.v undef])) fun l163 => unc l163 fun u164 l164 => unc l164 fun u165 l165 => unc l165 fun u166 l166 => unc l166 fun u167 l167 =>
 Option.bind (bIf u164 (Option.bind (aBuild Try.prog 25 []) fun t168 =>
 Option.bind (C 17 [snap H90 t168]) fun t169 =>
 Option.bind (aField Try.prog 25 t169 2) fun t170 =>
 Option.bind (aBin Try.prog BinOp.eql 3 false true t170 (A.v (Value.int IntKind.i64 (-1)))) fun t171 => some [t171, t171, t170, t169, t168]) (some [A.v (Value.bool false), A.v undef, A.v undef, A.v undef, A.v undef])) fun l168 => unc l168 fun u169 l169 => unc l169 fun u170 l170 => unc l170 fun u171 l171 => unc l171 fun u172 l172 => unc l172 fun u173 l173 => some (Out.ret u169, H90)) else none := by kernel_rfl
theorem e11 (C : Nat → List A → Option A) (call : CallT) (rg : CallT → CallT) (n lo : Nat) (x0 : A) (H : Heap) : evCall1 (cx C) call rg n 11 [x0] H lo =
 Option.bind (aBox x0 H) fun r0 => loopR (cx C) call rg n 11 lo 0 (List.length r0.2) (fun i1 s1 => bif Nat.beq i1 0 then loopR (cx C) call rg n 11 lo 1 (List.length (St.H s1)) (fun i2 s2 => bif Nat.beq i2 2 then
 Option.bind (aBin Try.prog BinOp.leq 3 false true (look (St.fr s2) 3) (A.v (Value.int IntKind.i64 9000))) fun t3 => some (Out.ret t3, St.H s2) else none) (fun i2 s2 => none) (fun a2 => some (Out.ret (look (St.fr a2) 2), St.H a2)) (fun i2 s2 => some (Out.pan i2, St.H s2)) n (St.mk [(1, look (St.fr s1) 1), (2, look (St.fr s1) 2), (3, look (St.fr s1) 3), (5, A.v (Value.int IntKind.i64 0))] (St.H s1)) else none) (fun i1 s1 => none) (fun a1 => some (Out.ret (look (St.fr a1) 2), St.H a1)) (fun i1 s1 => some (Out.pan i1, St.H s1)) n (St.mk [(1, r0.1), (2, A.v (Value.bool false)), (3, A.v (Value.int IntKind.i64 0)), (4, A.v (Value.int IntKind.i64 0))] r0.2) := by kernel_rfl
theorem e12 (C : Nat → List A → Option A) (call : CallT) (rg : CallT → CallT) (n lo : Nat) (x0 : A) (H : Heap) : evCall1 (cx C) call rg n 12 [x0] H lo =
 Option.bind (aAlloc Try.prog 25 H) fun r0 =>
 Option.bind (aBin Try.prog BinOp.lss 3 false true x0 (A.v (Value.int IntKind.i64 1))) fun t1 =>
 Option.bind (bIf t1 (some [A.v (Value.bool true), A.v undef, A.v undef]) (Option.bind (aBin Try.prog BinOp.gtr 3 false true x0 (A.v (Value.int IntKind.i64 4096))) fun t2 => some [t2, t2, x0])) fun l2 => unc l2 fun u3 l3 => unc l3 fun u4 l4 => unc l4 fun u5 l5 => bIfN u3 (Option.bind (aLoad Try.prog 25 r0.1 r0.2) fun t6 =>
 Option.bind (aStore Try.prog 25 r0.1 (stV r0.1 r0.2 t6) r0.2 lo) fun H7 =>
 Option.bind (aLoad Try.prog 25 r0.1 H7) fun t8 => some (Out.ret (A.tup [t8, A.v (Value.int IntKind.i64 1)]), H7)) (Option.bind (aMakeSlice Try.prog 35 (A.v (Value.int IntKind.i64 128)) (A.v (Value.int IntKind.i64 128)) r0.2) fun r6 =>
 Option.bind (aKill lo r6.1 r6.2) fun r7 =>
 Option.bind (aBuildSlice Try.prog 22 1 [(0, frzA r7.2 r7.1)]) fun t8 =>
 Option.bind (C 29 [snap r7.2 t8, snap r7.2 x0]) fun t9 =>
 Option.bind (aBuild Try.prog 25 [(0, t9), (2, A.v (Value.int IntKind.i64 (-1)))]) fun t10 =>
 Option.bind (aStore Try.prog 25 r0.1 (stV r0.1 r7.2 t10) r7.2 lo) fun H11 =>
 Option.bind (aLoad Try.prog 25 r0.1 H11) fun t12 => some (Out.ret (A.tup [t12, A.v (Value.int IntKind.i64 0)]), H11)) := by kernel_rfl
theorem e13 (C : Nat → List A → Option A) (call : CallT) (rg : CallT → CallT) (n lo : Nat) (x0 : A) (H : Heap) : evCall1 (cx C) call rg n 13 [x0] H lo =
 Option.bind (aAlloc Try.prog 25 H) fun r0 =>
 Option.bind (aBin Try.prog BinOp.lss 3 false true x0 (A.v (Value.int IntKind.i64 1))) fun t1 =>
 Option.bind (bIf t1 (some [A.v (Value.bool true), A.v undef, A.v undef]) (Option.bind (aBin Try.prog BinOp.gtr 3 false true x0 (A.v (Value.int IntKind.i64 4096))) fun t2 => some [t2, t2, x0])) fun l2 => unc l2 fun u3 l3 => unc l3 fun u4 l4 => unc l4 fun u5 l5 => bIfN u3 (Option.bind (aBuild Try.prog 25 []) fun t6 =>
 Option.bind (aStore Try.prog 25 r0.1 (stV r0.1 r0.2 t6) r0.2 lo) fun H7 =>
 Option.bind (aLoad Try.prog 25 r0.1 H7) fun t8 => some (Out.ret (A.tup [t8, A.v (Value.int IntKind.i64 1)]), H7)) (Option.bind (aBuild Try.prog 25 [(2, A.v (Value.int IntKind.i64 (-1)))]) fun t6 =>
 Option.bind (aAlloc Try.prog 25 r0.2) fun r7 =>
 Option.bind (aStore Try.prog 25 r7.1 (stV r7.1 r7.2 t6) r7.2 lo) fun H8 => loopR (cx C) call rg n 13 lo 0 (List.length (actC lo 0 2 r7.1 H8)) (fun i9 s9 => bif Nat.beq i9 0 then
 Option.bind (aLoad Try.prog 25 (look (St.fr s9) 4) (St.H s9)) fun t10 =>
 Option.bind (aStore Try.prog 25 (look (St.fr s9) 2) (stV (look (St.fr s9) 2) (St.H s9) t10) (St.H s9) lo) fun H11 =>
 Option.bind (aLoad Try.prog 25 (look (St.fr s9) 2) H11) fun t12 => some (Out.ret (A.tup [t12, A.v (Value.int IntKind.i64 0)]), H11) else none) (fun i9 s9 => none) (fun a9 =>
 Option.bind (aLoad Try.prog 25 (look (St.fr a9) 2) (St.H a9)) fun t10 => some (Out.ret (A.tup [t10, look (St.fr a9) 3]), St.H a9)) (fun i9 s9 => some (Out.pan i9, St.H s9)) n (St.mk [(0, x0), (2, r0.1), (3, A.v (Value.int IntKind.i64 0)), (4, r7.1), (5, A.v (Value.int IntKind.i64 0))] (actC lo 0 2 r7.1 H8))) := by kernel_rfl
theorem e14 (C : Nat → List A → Option A) (call : CallT) (rg : CallT → CallT) (n lo : Nat) (x0 x1 : A) (H : Heap) : evCall1 (cx C) call rg n 14 [x0, x1] H lo =
 Option.bind (aBox x0 H) fun r0 =>
 Option.bind (aBox x1 r0.2) fun r1 =>
 Option.bind (aFieldAddr Try.prog 25 r0.1 0 r1.2) fun t2 =>
 Option.bind (aLoad Try.prog 22 t2 r1.2) fun t3 =>
 Option.bind (aLen Try.prog 22 t3 r1.2) fun t4 =>
 Option.bind (aFieldAddr Try.prog 25 r1.1 0 r1.2) fun t5 =>
 Option.bind (aLoad Try.prog 22 t5 r1.2) fun t6 =>
 Option.bind (aLen Try.prog 22 t6 r1.2) fun t7 =>
 Option.bind (aBin Try.prog BinOp.neq 3 false false t4 t7) fun t8 =>
 Option.bind (bIf t8 (some [A.v (Value.bool true), A.v undef, A.v undef, A.v undef, A.v undef, A.v undef, A.v undef, A.v undef]) (Option.bind (aFieldAddr Try.prog 25 r0.1 1 r1.2) fun t9 =>
 Option.bind (aLoad Try.prog 23 t9 r1.2) fun t10 =>
 Option.bind (aLen Try.prog 23 t10 r1.2) fun t11 =>
 Option.bind (aFieldAddr Try.prog 25 r1.1 1 r1.2) fun t12 =>
 Option.bind (aLoad Try.prog 23 t12 r1.2) fun t13 =>
 Option.bind (aLen Try.prog 23 t13 r1.2) fun t14 =>
 Option.bind (aBin Try.prog BinOp.neq 3 false false t11 t14) fun t15 => some [t15, t15, t14, t13, t12, t11, t10, t9])) fun l9 => unc l9 fun u10 l10 => unc l10 fun u11 l11 => unc l11 fun u12 l12 => unc l12 fun u13 l13 => unc l13 fun u14 l14 => unc l14 fun u15 l15 => unc l15 fun u16 l16 => unc l16 fun u17 l17 =>
 Option.bind (bIf u10 (some [A.v (Value.bool true), A.v undef, A.v undef, A.v undef, A.v undef, A.v undef]) (Option.bind (aFieldAddr Try.prog 25 r0.1 2 r1.2) fun t18 =>
 Option.bind (aLoad Try.prog 3 t18 r1.2) fun t19 =>
 Option.bind (aFieldAddr Try.prog 25 r1.1 2 r1.2) fun t20 =>
 Option.bind (aLoad Try.prog 3 t20 r1.2) fun t21 =>
 Option.bind (aBin Try.prog BinOp.neq 3 false false t19 t21) fun t22 => some [t22, t22, t21, t20, t19, t18])) fun l18 => unc l18 fun u19 l19 => unc l19 fun u20 l20 => unc l20 fun u21 l21 => unc l21 fun u22 l22 => unc l22 fun u23 l23 => unc l23 fun u24 l24 =>
 Option.bind (bIf u19 (some [A.v (Value.bool true), A.v undef, A.v undef, A.v undef, A.v undef, A.v undef]) (Option.bind (aFieldAddr Try.prog 25 r0.1 3 r1.2) fun t25 =>
 Option.bind (aLoad Try.prog 4 t25 r1.2) fun t26 =>
 Option.bind (aFieldAddr Try.prog 25 r1.1 3 r1.2) fun t27 =>
 Option.bind (aLoad Try.prog 4 t27 r1.2) fun t28 =>
 Option.bind (aBin Try.prog BinOp.neq 4 false false t26 t28) fun t29 => some [t29, t29, t28, t27, t26, t25])) fun l25 => unc l25 fun u26 l26 => unc l26 fun u27 l27 => unc l27 fun u28 l28 => unc l28 fun u29 l29 => unc l29 fun u30 l30 => unc l30 fun u31 l31 => bIfN u26 (some (Out.ret (A.v (Value.bool false)), r1.2)) (loopR (cx C) call rg n 14 lo 0 (List.length r1.2) (fun i32 s32 => bif Nat.beq i32 0 then loopR (cx C) call rg n 14 lo 1 (List.length (St.H s32)) (fun i33 s33 => bif Nat.beq i33 2 then some (Out.ret (A.v (Value.bool true)), St.H s33) else none) (fun i33 s33 => none) (fun a33 => some (Out.ret (look (St.fr a33) 4), St.H a33)) (fun i33 s33 => some (Out.pan i33, St.H s33)) n (St.mk [(2, look (St.fr s32) 2), (3, look (St.fr s32) 3), (4, look (St.fr s32) 4), (6, A.v (Value.int IntKind.i64 0))] (St.H s32)) else none) (fun i32 s32 => none) (fun a32 => some (Out.ret (look (St.fr a32) 4), St.H a32)) (fun i32 s32 => some (Out.pan i32, St.H s32)) n (St.mk [(2, r0.1), (3, r1.1), (4, A.v (Value.bool false)), (5, A.v (Value.int IntKind.i64 0))] r1.2)) := by kernel_rfl
theorem e15 (C : Nat → List A → Option A) (call : CallT) (rg : CallT → CallT) (n lo : Nat) (x0 : A) (H : Heap) : evCall1 (cx C) call rg n 15 [x0] H lo =
 Option.bind (aBox x0 H) fun r0 =>
 Option.bind (aFieldAddr Try.prog 25 r0.1 0 r0.2) fun t1 =>
 Option.bind (aLoad Try.prog 22 t1 r0.2) fun t2 =>
 Option.bind (aLen Try.prog 22 t2 r0.2) fun t3 =>
 Option.bind (aAlloc Try.prog 3 r0.2) fun r4 =>
 Option.bind (aStore Try.prog 3 r4.1 (stV r4.1 r4.2 t3) r4.2 lo) fun H5 =>
 Option.bind (aLoad Try.prog 3 r4.1 H5) fun t6 =>
 Option.bind (aBin Try.prog BinOp.lss 3 false true t6 (A.v (Value.int IntKind.i64 1))) fun t7 =>
 Option.bind (bIf t7 (some [A.v (Value.bool true), A.v undef, A.v undef]) (Option.bind (aLoad Try.prog 3 r4.1 H5) fun t8 =>
 Option.bind (aBin Try.prog BinOp.gtr 3 false true t8 (A.v (Value.int IntKind.i64 4096))) fun t9 => some [t9, t9, t8])) fun l8 => unc l8 fun u9 l9 => unc l9 fun u10 l10 => unc l10 fun u11 l11 =>
 Option.bind (bIf u9 (some [A.v (Value.bool true), A.v undef, A.v undef, A.v undef, A.v undef]) (Option.bind (aFieldAddr Try.prog 25 r0.1 1 H5) fun t12 =>
 Option.bind (aLoad Try.prog 23 t12 H5) fun t13 =>
 Option.bind (aLen Try.prog 23 t13 H5) fun t14 =>
 Option.bind (aBin Try.prog BinOp.gtr 3 false true t14 (A.v (Value.int IntKind.i64 4096))) fun t15 => some [t15, t15, t14, t13, t12])) fun l12 => unc l12 fun u13 l13 => unc l13 fun u14 l14 => unc l14 fun u15 l15 => unc l15 fun u16 l16 => unc l16 fun u17 l17 =>
 Option.bind (bIf u13 (some [A.v (Value.bool true), A.v undef, A.v undef, A.v undef]) (Option.bind (aFieldAddr Try.prog 25 r0.1 2 H5) fun t18 =>
 Option.bind (aLoad Try.prog 3 t18 H5) fun t19 =>
 Option.bind (aBin Try.prog BinOp.lss 3 false true t19 (A.v (Value.int IntKind.i64 (-1)))) fun t20 => some [t20, t20, t19, t18])) fun l18 => unc l18 fun u19 l19 => unc l19 fun u20 l20 => unc l20 fun u21 l21 => unc l21 fun u22 l22 =>
 Option.bind (bIf u19 (some [A.v (Value.bool true), A.v undef, A.v undef, A.v undef]) (Option.bind (aFieldAddr Try.prog 25 r0.1 2 H5) fun t23 =>
 Option.bind (aLoad Try.prog 3 t23 H5) fun t24 =>
 Option.bind (aBin Try.prog BinOp.gtr 3 false true t24 (A.v (Value.int IntKind.i64 65536))) fun t25 => some [t25, t25, t24, t23])) fun l23 => unc l23 fun u24 l24 => unc l24 fun u25 l25 => unc l25 fun u26 l26 => unc l26 fun u27 l27 =>
 Option.bind (gIf u24 false (Option.bind (aFieldAddr Try.prog 25 r0.1 1 H5) fun t28 => some t28) (some (A.v undef))) fun t28 =>
 Option.bind (gIf u24 false (Option.bind (aLoad Try.prog 23 t28 H5) fun t29 => some t29) (some (A.v undef))) fun t29 =>
 Option.bind (gIf u24 false (some (A.fn (Fn.func 30) [] [r4.1])) (some (A.v undef))) fun t30 => gIf u24 false (Option.bind (call 32 [t29, t30] H5 lo) fun H31 => outK H31.1 (fun a32 =>
 Option.bind (bIf u24 (some (A.v (Value.bool true))) (some a32)) fun t33 => bIfN t33 (some (Out.ret (A.v (Value.int IntKind.i64 40)), H31.2)) (Option.bind (aFieldAddr Try.prog 25 r0.1 0 H31.2) fun t34 =>
 Option.bind (aLoad Try.prog 22 t34 H31.2) fun t35 =>
 Option.bind (C 33 [snap H31.2 t35, snap H31.2 (A.fn (Fn.func 34) [] [])]) fun t36 => bIfN t36 (some (Out.ret (A.v (Value.int IntKind.i64 40)), H31.2)) (some (Out.ret (A.v (Value.int IntKind.i64 0)), H31.2)))) fun a32 => some (Out.pan a32, H31.2)) (Option.bind (bIf u24 (some (A.v (Value.bool true))) (some (A.v undef))) fun t31 => bIfN t31 (some (Out.ret (A.v (Value.int IntKind.i64 40)), H5)) (Option.bind (aFieldAddr Try.prog 25 r0.1 0 H5) fun t32 =>
 Option.bind (aLoad Try.prog 22 t32 H5) fun t33 =>
 Option.bind (C 33 [snap H5 t33, snap H5 (A.fn (Fn.func 34) [] [])]) fun t34 => bIfN t34 (some (Out.ret (A.v (Value.int IntKind.i64 40)), H5)) (some (Out.ret (A.v (Value.int IntKind.i64 0)), H5)))) := by kernel_rfl
theorem e16 (C : Nat → List A → Option A) (call : CallT) (rg : CallT → CallT) (n lo : Nat) (x0 : A) (H : Heap) : evCall1 (cx C) call rg n 16 [x0] H lo =
 Option.bind (aBox x0 H) fun r0 =>
 Option.bind (aFieldAddr Try.prog 25 r0.1 0 r0.2) fun t1 =>
 Option.bind (aLoad Try.prog 22 t1 r0.2) fun t2 =>
 Option.bind (aLen Try.prog 22 t2 r0.2) fun t3 =>
 Option.bind (aBin Try.prog BinOp.lss 3 false true t3 (A.v (Value.int IntKind.i64 1))) fun t4 =>
 Option.bind (bIf t4 (some [A.v (Value.bool true), A.v undef, A.v undef]) (Option.bind (aBin Try.prog BinOp.gtr 3 false true t3 (A.v (Value.int IntKind.i64 4096))) fun t5 => some [t5, t5, t3])) fun l5 => unc l5 fun u6 l6 => unc l6 fun u7 l7 => unc l7 fun u8 l8 =>
 Option.bind (bIf u6 (some [A.v (Value.bool true), A.v undef, A.v undef, A.v undef, A.v undef]) (Option.bind (aFieldAddr Try.prog 25 r0.1 1 r0.2) fun t9 =>
 Option.bind (aLoad Try.prog 23 t9 r0.2) fun t10 =>
 Option.bind (aLen Try.prog 23 t10 r0.2) fun t11 =>
 Option.bind (aBin Try.prog BinOp.gtr 3 false true t11 (A.v (Value.int IntKind.i64 4096))) fun t12 => some [t12, t12, t11, t10, t9])) fun l9 => unc l9 fun u10 l10 => unc l10 fun u11 l11 => unc l11 fun u12 l12 => unc l12 fun u13 l13 => unc l13 fun u14 l14 =>
 Option.bind (bIf u10 (some [A.v (Value.bool true), A.v undef, A.v undef, A.v undef]) (Option.bind (aFieldAddr Try.prog 25 r0.1 2 r0.2) fun t15 =>
 Option.bind (aLoad Try.prog 3 t15 r0.2) fun t16 =>
 Option.bind (aBin Try.prog BinOp.lss 3 false true t16 (A.v (Value.int IntKind.i64 (-1)))) fun t17 => some [t17, t17, t16, t15])) fun l15 => unc l15 fun u16 l16 => unc l16 fun u17 l17 => unc l17 fun u18 l18 => unc l18 fun u19 l19 =>
 Option.bind (bIf u16 (some [A.v (Value.bool true), A.v undef, A.v undef, A.v undef]) (Option.bind (aFieldAddr Try.prog 25 r0.1 2 r0.2) fun t20 =>
 Option.bind (aLoad Try.prog 3 t20 r0.2) fun t21 =>
 Option.bind (aBin Try.prog BinOp.gtr 3 false true t21 (A.v (Value.int IntKind.i64 65536))) fun t22 => some [t22, t22, t21, t20])) fun l20 => unc l20 fun u21 l21 => unc l21 fun u22 l22 => unc l22 fun u23 l23 => unc l23 fun u24 l24 => bIfN u21 (some (Out.ret (A.v (Value.int IntKind.i64 40)), r0.2)) (loopR (cx C) call rg n 16 lo 0 (List.length r0.2) (fun i25 s25 => bif Nat.beq i25 0 then loopR (cx C) call rg n 16 lo 1 (List.length (St.H s25)) (fun i26 s26 => bif Nat.beq i26 2 then some (Out.ret (A.v (Value.int IntKind.i64 0)), St.H s26) else none) (fun i26 s26 => none) (fun a26 => some (Out.ret (look (St.fr a26) 2), St.H a26)) (fun i26 s26 => some (Out.pan i26, St.H s26)) n (St.mk [(1, look (St.fr s25) 1), (2, look (St.fr s25) 2), (3, look (St.fr s25) 3), (5, A.v (Value.int IntKind.i64 0))] (St.H s25)) else none) (fun i25 s25 => none) (fun a25 => some (Out.ret (look (St.fr a25) 2), St.H a25)) (fun i25 s25 => some (Out.pan i25, St.H s25)) n (St.mk [(1, r0.1), (2, A.v (Value.int IntKind.i64 0)), (3, t3), (4, A.v (Value.int IntKind.i64 0))] r0.2)) := by kernel_rfl
theorem e17 (C : Nat → List A → Option A) (call : CallT) (rg : CallT → CallT) (n lo : Nat) (x0 : A) (H : Heap) : evCall1 (cx C) call rg n 17 [x0] H lo =
 Option.bind (aBox x0 H) fun r0 =>
 Option.bind (aAlloc Try.prog 25 r0.2) fun r1 =>
 Option.bind (aFieldAddr Try.prog 25 r0.1 0 r1.2) fun t2 =>
 Option.bind (aLoad Try.prog 22 t2 r1.2) fun t3 =>
 Option.bind (aBuild Try.prog 25 [(0, t3), (2, A.v (Value.int IntKind.i64 (-1)))]) fun t4 =>
 Option.bind (aStore Try.prog 25 r1.1 (stV r1.1 r1.2 t4) r1.2 lo) fun H5 =>
 Option.bind (aLoad Try.prog 25 r1.1 H5) fun t6 => some (Out.ret t6, H5) := by kernel_rfl
theorem e18 (C : Nat → List A → Option A) (call : CallT) (rg : CallT → CallT) (n lo : Nat) (x0 : A) (H : Heap) : evCall1 (cx C) call rg n 18 [x0] H lo =
 Option.bind (aBox x0 H) fun r0 =>
 Option.bind (aAlloc Try.prog 25 r0.2) fun r1 =>
 Option.bind (aFieldAddr Try.prog 25 r0.1 0 r1.2) fun t2 =>
 Option.bind (aLoad Try.prog 22 t2 r1.2) fun t3 =>
 Option.bind (aBuild Try.prog 25 [(0, t3), (2, A.v (Value.int IntKind.i64 (-1)))]) fun t4 =>
 Option.bind (aStore Try.prog 25 r1.1 (stV r1.1 r1.2 t4) r1.2 lo) fun H5 =>
 Option.bind (aLoad Try.prog 25 r1.1 H5) fun t6 => some (Out.ret t6, H5) := by kernel_rfl
theorem e19 (C : Nat → List A → Option A) (call : CallT) (rg : CallT → CallT) (n lo : Nat) (x0 x1 x2 : A) (H : Heap) : evCall1 (cx C) call rg n 19 [x0, x1, x2] H lo =
 Option.bind (aBox x0 H) fun r0 =>
 Option.bind (aAlloc Try.prog 25 r0.2) fun r1 =>
 Option.bind (aLoad Try.prog 25 r0.1 r1.2) fun t2 =>
 Option.bind (C 35 [snap r1.2 t2]) fun t3 =>
 Option.bind (aUn Try.prog UnOp.not t3) fun t4 =>
 Option.bind (bIf t4 (some [A.v (Value.bool true), A.v undef, A.v undef, A.v undef, A.v undef]) (Option.bind (aLoad Try.prog 25 r0.1 r1.2) fun t5 =>
 Option.bind (C 36 [snap r1.2 t5, snap r1.2 x1]) fun t6 =>
 Option.bind (aUn Try.prog UnOp.not t6) fun t7 => some [t7, t7, t6, x1, t5])) fun l5 => unc l5 fun u6 l6 => unc l6 fun u7 l7 => unc l7 fun u8 l8 => unc l8 fun u9 l9 => unc l9 fun u10 l10 => bIfN u6 (Option.bind (aLoad Try.prog 25 r1.1 r1.2) fun t11 =>
 Option.bind (aStore Try.prog 25 r1.1 (stV r1.1 r1.2 t11) r1.2 lo) fun H12 =>
 Option.bind (aLoad Try.prog 25 r1.1 H12) fun t13 => some (Out.ret (A.tup [t13, A.v (Value.int IntKind.i64 40)]), H12)) (Option.bind (aLen Try.prog 35 x2 r1.2) fun t11 =>
 Option.bind (aBin Try.prog BinOp.gtr 3 false true t11 (A.v (Value.int IntKind.i64 128))) fun t12 => bIfN t12 (Option.bind (aLoad Try.prog 25 r1.1 r1.2) fun t13 =>
 Option.bind (aStore Try.prog 25 r1.1 (stV r1.1 r1.2 t13) r1.2 lo) fun H14 =>
 Option.bind (aLoad Try.prog 25 r1.1 H14) fun t15 => some (Out.ret (A.tup [t15, A.v (Value.int IntKind.i64 1)]), H14)) (Option.bind (aFieldAddr Try.prog 25 r0.1 1 r1.2) fun t13 =>
 Option.bind (aLoad Try.prog 23 t13 r1.2) fun t14 =>
 Option.bind (aLen Try.prog 23 t14 r1.2) fun t15 =>
 Option.bind (aBin Try.prog BinOp.eql 3 false true t15 (A.v (Value.int IntKind.i64 4096))) fun t16 => bIfN t16 (Option.bind (aLoad Try.prog 25 r1.1 r1.2) fun t17 =>
 Option.bind (aStore Try.prog 25 r1.1 (stV r1.1 r1.2 t17) r1.2 lo) fun H18 =>
 Option.bind (aLoad Try.prog 25 r1.1 H18) fun t19 => some (Out.ret (A.tup [t19, A.v (Value.int IntKind.i64 2)]), H18)) (Option.bind (aMakeSlice Try.prog 35 (A.v (Value.int IntKind.i64 128)) (A.v (Value.int IntKind.i64 128)) r1.2) fun r17 =>
 Option.bind (aCopy Try.prog 35 r17.1 x2 r17.2 lo) fun r18 =>
 Option.bind (aKill lo r17.1 r18.2) fun r19 =>
 Option.bind (aFieldAddr Try.prog 25 r0.1 1 r19.2) fun t20 =>
 Option.bind (aLoad Try.prog 23 t20 r19.2) fun t21 =>
 Option.bind (C 38 [snap r19.2 t21]) fun t22 =>
 Option.bind (call 37 [t22] r19.2 lo) fun H23 => outK H23.1 (fun a24 =>
 Option.bind (aBuild Try.prog 54 [(0, x1), (1, r19.1)]) fun t25 =>
 Option.bind (aBuildSlice Try.prog 23 1 [(0, frzA H23.2 t25)]) fun t26 =>
 Option.bind (aAppend Try.prog 23 23 false a24 t26 H23.2 lo) fun r27 =>
 Option.bind (aFieldAddr Try.prog 25 r0.1 1 r27.2) fun t28 =>
 Option.bind (aStore Try.prog 23 t28 (stV t28 r27.2 r27.1) r27.2 lo) fun H29 =>
 Option.bind (aLoad Try.prog 25 r0.1 H29) fun t30 =>
 Option.bind (aStore Try.prog 25 r1.1 (stV r1.1 H29 t30) H29 lo) fun H31 =>
 Option.bind (aLoad Try.prog 25 r1.1 H31) fun t32 => some (Out.ret (A.tup [t32, A.v (Value.int IntKind.i64 0)]), H31)) fun a24 => some (Out.pan a24, H23.2)))) := by kernel_rfl
theorem e20 (C : Nat → List A → Option A) (call : CallT) (rg : CallT → CallT) (n lo : Nat) (x0 x1 x2 : A) (H : Heap) : evCall1 (cx C) call rg n 20 [x0, x1, x2] H lo =
 Option.bind (aBox x0 H) fun r0 =>
 Option.bind (aAlloc Try.prog 25 r0.2) fun r1 =>
 Option.bind (aLoad Try.prog 25 r0.1 r1.2) fun t2 =>
 Option.bind (C 16 [snap r1.2 t2]) fun t3 =>
 Option.bind (aBin Try.prog BinOp.neq 28 false true t3 (A.v (Value.int IntKind.i64 0))) fun t4 =>
 Option.bind (bIf t4 (some [A.v (Value.bool true), A.v undef, A.v undef]) (Option.bind (aFieldAddr Try.prog 25 r0.1 3 r1.2) fun t5 =>
 Option.bind (aLoad Try.prog 4 t5 r1.2) fun t6 => some [t6, t6, t5])) fun l5 => unc l5 fun u6 l6 => unc l6 fun u7 l7 => unc l7 fun u8 l8 =>
 Option.bind (bIf u6 (some [A.v (Value.bool true), A.v undef, A.v undef]) (Option.bind (aBin Try.prog BinOp.lss 3 false true x1 (A.v (Value.int IntKind.i64 0))) fun t9 => some [t9, t9, x1])) fun l9 => unc l9 fun u10 l10 => unc l10 fun u11 l11 => unc l11 fun u12 l12 =>
 Option.bind (bIf u10 (some [A.v (Value.bool true), A.v undef, A.v undef, A.v undef, A.v undef, A.v undef]) (Option.bind (aFieldAddr Try.prog 25 r0.1 0 r1.2) fun t13 =>
 Option.bind (aLoad Try.prog 22 t13 r1.2) fun t14 =>
 Option.bind (aLen Try.prog 22 t14 r1.2) fun t15 =>
 Option.bind (aBin Try.prog BinOp.geq 3 false false x1 t15) fun t16 => some [t16, t16, t15, t14, t13, x1])) fun l13 => unc l13 fun u14 l14 => unc l14 fun u15 l15 => unc l15 fun u16 l16 => unc l16 fun u17 l17 => unc l17 fun u18 l18 => unc l18 fun u19 l19 => bIfN u14 (Option.bind (aBuild Try.prog 25 []) fun t20 =>
 Option.bind (aStore Try.prog 25 r1.1 (stV r1.1 r1.2 t20) r1.2 lo) fun H21 =>
 Option.bind (aLoad Try.prog 25 r1.1 H21) fun t22 => some (Out.ret (A.tup [t22, A.v (Value.int IntKind.i64 40)]), H21)) (Option.bind (aLen Try.prog 35 x2 r1.2) fun t20 =>
 Option.bind (aBin Try.prog BinOp.gtr 3 false true t20 (A.v (Value.int IntKind.i64 128))) fun t21 => bIfN t21 (Option.bind (aBuild Try.prog 25 []) fun t22 =>
 Option.bind (aStore Try.prog 25 r1.1 (stV r1.1 r1.2 t22) r1.2 lo) fun H23 =>
 Option.bind (aLoad Try.prog 25 r1.1 H23) fun t24 => some (Out.ret (A.tup [t24, A.v (Value.int IntKind.i64 1)]), H23)) (Option.bind (aFieldAddr Try.prog 25 r0.1 1 r1.2) fun t22 =>
 Option.bind (aLoad Try.prog 23 t22 r1.2) fun t23 =>
 Option.bind (aLen Try.prog 23 t23 r1.2) fun t24 =>
 Option.bind (aBin Try.prog BinOp.eql 3 false true t24 (A.v (Value.int IntKind.i64 4096))) fun t25 => bIfN t25 (Option.bind (aBuild Try.prog 25 []) fun t26 =>
 Option.bind (aStore Try.prog 25 r1.1 (stV r1.1 r1.2 t26) r1.2 lo) fun H27 =>
 Option.bind (aLoad Try.prog 25 r1.1 H27) fun t28 => some (Out.ret (A.tup [t28, A.v (Value.int IntKind.i64 2)]), H27)) (Option.bind (aBuildSlice Try.prog 35 0 []) fun t26 =>
 Option.bind (aAppend Try.prog 35 35 false t26 x2 r1.2 lo) fun r27 => loopR (cx C) call rg n 20 lo 0 (List.length r27.2) (fun i28 s28 => bif Nat.beq i28 0 then
 Option.bind (aBuildSlice Try.prog 23 0 []) fun t29 =>
 Option.bind (aFieldAddr Try.prog 25 (look (St.fr s28) 3) 1 (St.H s28)) fun t30 =>
 Option.bind (aLoad Try.prog 23 t30 (St.H s28)) fun t31 =>
 Option.bind (aAppend Try.prog 23 23 false t29 t31 (St.H s28) lo) fun r32 =>
 Option.bind (aBuild Try.prog 54 [(0, look (St.fr s28) 1), (1, look (St.fr s28) 8)]) fun t33 =>
 Option.bind (aBuildSlice Try.prog 23 1 [(0, frzA r32.2 t33)]) fun t34 =>
 Option.bind (aAppend Try.prog 23 23 false r32.1 t34 r32.2 lo) fun r35 =>
 Option.bind (aFieldAddr Try.prog 25 (look (St.fr s28) 3) 1 r35.2) fun t36 =>
 Option.bind (aStore Try.prog 23 t36 (stV t36 r35.2 r35.1) r35.2 lo) fun H37 =>
 Option.bind (aLoad Try.prog 25 (look (St.fr s28) 3) H37) fun t38 =>
 Option.bind (aStore Try.prog 25 (look (St.fr s28) 6) (stV (look (St.fr s28) 6) H37 t38) H37 lo) fun H39 =>
 Option.bind (aLoad Try.prog 25 (look (St.fr s28) 6) H39) fun t40 => some (Out.ret (A.tup [t40, A.v (Value.int IntKind.i64 0)]), H39) else none) (fun i28 s28 => none) (fun a28 =>
 Option.bind (aLoad Try.prog 25 (look (St.fr a28) 6) (St.H a28)) fun t29 => some (Out.ret (A.tup [t29, look (St.fr a28) 7]), St.H a28)) (fun i28 s28 => some (Out.pan i28, St.H s28)) n (St.mk [(1, x1), (3, r0.1), (6, r1.1), (7, A.v (Value.int IntKind.i64 0)), (8, r27.1)] r27.2)))) := by kernel_rfl
theorem e21 (C : Nat → List A → Option A) (call : CallT) (rg : CallT → CallT) (n lo : Nat) (x0 x1 : A) (H : Heap) : evCall1 (cx C) call rg n 21 [x0, x1] H lo =
 Option.bind (aBox x0 H) fun r0 =>
 Option.bind (aBox x1 r0.2) fun r1 =>
 Option.bind (aAlloc Try.prog 35 r1.2) fun r2 =>
 Option.bind (aAlloc Try.prog 28 r2.2) fun r3 =>
 Option.bind (aLoad Try.prog 25 r0.1 r3.2) fun t4 =>
 Option.bind (C 35 [snap r3.2 t4]) fun t5 =>
 Option.bind (aUn Try.prog UnOp.not t5) fun t6 =>
 Option.bind (bIf t6 (some [A.v (Value.bool true), A.v undef, A.v undef, A.v undef, A.v undef]) (Option.bind (aLoad Try.prog 25 r0.1 r3.2) fun t7 =>
 Option.bind (aLoad Try.prog 3 r1.1 r3.2) fun t8 =>
 Option.bind (C 36 [snap r3.2 t7, snap r3.2 t8]) fun t9 =>
 Option.bind (aUn Try.prog UnOp.not t9) fun t10 => some [t10, t10, t9, t8, t7])) fun l7 => unc l7 fun u8 l8 => unc l8 fun u9 l9 => unc l9 fun u10 l10 => unc l10 fun u11 l11 => unc l11 fun u12 l12 => bIfN u8 (Option.bind (aStore Try.prog 35 r2.1 (stV r2.1 r3.2 (A.imm [] true)) r3.2 lo) fun H13 =>
 Option.bind (aStore Try.prog 28 r3.1 (stV r3.1 H13 (A.v (Value.int IntKind.i64 40))) H13 lo) fun H14 =>
 Option.bind (aLoad Try.prog 35 r2.1 H14) fun t15 =>
 Option.bind (aLoad Try.prog 28 r3.1 H14) fun t16 => some (Out.ret (A.tup [t15, t16]), H14)) (Option.bind (aFieldAddr Try.prog 25 r0.1 1 r3.2) fun t13 =>
 Option.bind (aLoad Try.prog 23 t13 r3.2) fun t14 =>
 Option.bind (call 39 [t14] r3.2 lo) fun H15 => outK H15.1 (fun a16 =>
 Option.bind (fnOf Try.prog a16) fun r17 => bif Nat.ble lo (List.length H15.2) then
 Option.bind (rg (yext 65 call (List.length H15.2) (roundR (cx C) call rg n 21 lo 0 (List.length H15.2) [(3, r1.1), (4, r2.1), (5, r3.1)])) r17.1 (A.yld (List.length H15.2) :: r17.2) (H15.2 ++ [Blk.rng RSt.ready]) lo) fun H18 => outK H18.1 (fun a19 => rngSel (List.length H15.2) H18.2 (fun h20 =>
 Option.bind (aFieldAddr Try.prog 25 r0.1 0 h20) fun t21 =>
 Option.bind (aLoad Try.prog 22 t21 h20) fun t22 =>
 Option.bind (aLoad Try.prog 3 r1.1 h20) fun t23 =>
 Option.bind (aIndexAddr Try.prog 22 t22 t23 h20) fun t24 =>
 Option.bind (aLoad Try.prog 35 t24 h20) fun t25 =>
 Option.bind (aStore Try.prog 35 r2.1 (stV r2.1 h20 t25) h20 lo) fun H26 =>
 Option.bind (aStore Try.prog 28 r3.1 (stV r3.1 H26 (A.v (Value.int IntKind.i64 0))) H26 lo) fun H27 =>
 Option.bind (aLoad Try.prog 35 r2.1 H27) fun t28 =>
 Option.bind (aLoad Try.prog 28 r3.1 H27) fun t29 => some (Out.ret (A.tup [t28, t29]), H27)) (fun i20 h20 => bif Nat.beq i20 0 then
 Option.bind (aFieldAddr Try.prog 25 r0.1 0 h20) fun t21 =>
 Option.bind (aLoad Try.prog 22 t21 h20) fun t22 =>
 Option.bind (aLoad Try.prog 3 r1.1 h20) fun t23 =>
 Option.bind (aIndexAddr Try.prog 22 t22 t23 h20) fun t24 =>
 Option.bind (aLoad Try.prog 35 t24 h20) fun t25 =>
 Option.bind (aStore Try.prog 35 r2.1 (stV r2.1 h20 t25) h20 lo) fun H26 =>
 Option.bind (aStore Try.prog 28 r3.1 (stV r3.1 H26 (A.v (Value.int IntKind.i64 0))) H26 lo) fun H27 =>
 Option.bind (aLoad Try.prog 35 r2.1 H27) fun t28 =>
 Option.bind (aLoad Try.prog 28 r3.1 H27) fun t29 => some (Out.ret (A.tup [t28, t29]), H27) else none) (fun i20 h20 => none) fun h20 =>
 Option.bind (aLoad Try.prog 35 r2.1 h20) fun t21 =>
 Option.bind (aLoad Try.prog 28 r3.1 h20) fun t22 => some (Out.ret (A.tup [t21, t22]), h20)) fun a19 => none else none) fun a16 => some (Out.pan a16, H15.2)) := by kernel_rfl
theorem e22 (C : Nat → List A → Option A) (call : CallT) (rg : CallT → CallT) (n lo : Nat) (x0 x1 : A) (H : Heap) : evCall1 (cx C) call rg n 22 [x0, x1] H lo =
 Option.bind (aBox x0 H) fun r0 =>
 Option.bind (aLoad Try.prog 25 r0.1 r0.2) fun t1 =>
 Option.bind (C 16 [snap r0.2 t1]) fun t2 =>
 Option.bind (aBin Try.prog BinOp.neq 28 false true t2 (A.v (Value.int IntKind.i64 0))) fun t3 =>
 Option.bind (bIf t3 (some [A.v (Value.bool true), A.v undef, A.v undef]) (Option.bind (aFieldAddr Try.prog 25 r0.1 3 r0.2) fun t4 =>
 Option.bind (aLoad Try.prog 4 t4 r0.2) fun t5 => some [t5, t5, t4])) fun l4 => unc l4 fun u5 l5 => unc l5 fun u6 l6 => unc l6 fun u7 l7 =>
 Option.bind (bIf u5 (some [A.v (Value.bool true), A.v undef, A.v undef]) (Option.bind (aBin Try.prog BinOp.lss 3 false true x1 (A.v (Value.int IntKind.i64 0))) fun t8 => some [t8, t8, x1])) fun l8 => unc l8 fun u9 l9 => unc l9 fun u10 l10 => unc l10 fun u11 l11 =>
 Option.bind (bIf u9 (some [A.v (Value.bool true), A.v undef, A.v undef, A.v undef, A.v undef, A.v undef]) (Option.bind (aFieldAddr Try.prog 25 r0.1 0 r0.2) fun t12 =>
 Option.bind (aLoad Try.prog 22 t12 r0.2) fun t13 =>
 Option.bind (aLen Try.prog 22 t13 r0.2) fun t14 =>
 Option.bind (aBin Try.prog BinOp.geq 3 false false x1 t14) fun t15 => some [t15, t15, t14, t13, t12, x1])) fun l12 => unc l12 fun u13 l13 => unc l13 fun u14 l14 => unc l14 fun u15 l15 => unc l15 fun u16 l16 => unc l16 fun u17 l17 => unc l17 fun u18 l18 => bIfN u13 (some (Out.ret (A.tup [A.imm [] true, A.v (Value.int IntKind.i64 40)]), r0.2)) (Option.bind (aFieldAddr Try.prog 25 r0.1 0 r0.2) fun t19 =>
 Option.bind (aLoad Try.prog 22 t19 r0.2) fun t20 =>
 Option.bind (aIndexAddr Try.prog 22 t20 x1 r0.2) fun t21 =>
 Option.bind (aLoad Try.prog 35 t21 r0.2) fun t22 => loopR (cx C) call rg n 22 lo 0 (List.length r0.2) (fun i23 s23 => bif Nat.beq i23 0 then some (Out.ret (A.tup [look (St.fr s23) 6, A.v (Value.int IntKind.i64 0)]), St.H s23) else none) (fun i23 s23 => none) (fun a23 => some (Out.ret (A.tup [look (St.fr a23) 4, look (St.fr a23) 5]), St.H a23)) (fun i23 s23 => some (Out.pan i23, St.H s23)) n (St.mk [(1, x1), (2, r0.1), (4, A.imm [] true), (5, A.v (Value.int IntKind.i64 0)), (6, t22), (7, A.v (Value.int IntKind.i64 0))] r0.2)) := by kernel_rfl
theorem e23 (C : Nat → List A → Option A) (call : CallT) (rg : CallT → CallT) (n lo : Nat) (x0 : A) (H : Heap) : evCall1 (cx C) call rg n 23 [x0] H lo =
 Option.bind (aBox x0 H) fun r0 =>
 Option.bind (aAlloc Try.prog 25 r0.2) fun r1 =>
 Option.bind (aLoad Try.prog 25 r0.1 r1.2) fun t2 =>
 Option.bind (C 35 [snap r1.2 t2]) fun t3 =>
 Option.bind (aUn Try.prog UnOp.not t3) fun t4 => bIfN t4 (Option.bind (aLoad Try.prog 25 r1.1 r1.2) fun t5 =>
 Option.bind (aStore Try.prog 25 r1.1 (stV r1.1 r1.2 t5) r1.2 lo) fun H6 =>
 Option.bind (aLoad Try.prog 25 r1.1 H6) fun t7 => some (Out.ret (A.tup [t7, A.v (Value.int IntKind.i64 40)]), H6)) (Option.bind (aFieldAddr Try.prog 25 r0.1 1 r1.2) fun t5 =>
 Option.bind (aLoad Try.prog 23 t5 r1.2) fun t6 =>
 Option.bind (aLen Try.prog 23 t6 r1.2) fun t7 =>
 Option.bind (aFieldAddr Try.prog 25 r0.1 2 r1.2) fun t8 =>
 Option.bind (aLoad Try.prog 3 t8 r1.2) fun t9 =>
 Option.bind (aBin Try.prog BinOp.geq 3 false true t9 (A.v (Value.int IntKind.i64 0))) fun t10 =>
 Option.bind (bIf t10 (Option.bind (aFieldAddr Try.prog 25 r0.1 2 r1.2) fun t11 =>
 Option.bind (aLoad Try.prog 3 t11 r1.2) fun t12 =>
 Option.bind (aBin Try.prog BinOp.lss 3 false false t12 t7) fun t13 => some [t13, t13, t7, t12, t11]) (some [A.v (Value.bool false), A.v undef, A.v undef, A.v undef, A.v undef])) fun l11 => unc l11 fun u12 l12 => unc l12 fun u13 l13 => unc l13 fun u14 l14 => unc l14 fun u15 l15 => unc l15 fun u16 l16 => bIfN u12 (Option.bind (aFieldAddr Try.prog 25 r0.1 1 r1.2) fun t17 =>
 Option.bind (aLoad Try.prog 23 t17 r1.2) fun t18 =>
 Option.bind (aFieldAddr Try.prog 25 r0.1 2 r1.2) fun t19 =>
 Option.bind (aLoad Try.prog 3 t19 r1.2) fun t20 =>
 Option.bind (aFieldAddr Try.prog 25 r0.1 2 r1.2) fun t21 =>
 Option.bind (aLoad Try.prog 3 t21 r1.2) fun t22 =>
 Option.bind (aSlice Try.prog 23 t18 none (some t20) (some t22) r1.2) fun t23 =>
 Option.bind (aFieldAddr Try.prog 25 r0.1 0 r1.2) fun t24 =>
 Option.bind (aLoad Try.prog 22 t24 r1.2) fun t25 =>
 Option.bind (call 40 [t25, t23] r1.2 lo) fun H26 => outK H26.1 (fun a27 =>
 Option.bind (aBuild Try.prog 25 [(0, a27), (3, A.v (Value.bool true))]) fun t28 =>
 Option.bind (aStore Try.prog 25 r1.1 (stV r1.1 H26.2 t28) H26.2 lo) fun H29 =>
 Option.bind (aFieldAddr Try.prog 25 r0.1 1 H29) fun t30 =>
 Option.bind (aLoad Try.prog 23 t30 H29) fun t31 =>
 Option.bind (aFieldAddr Try.prog 25 r0.1 2 H29) fun t32 =>
 Option.bind (aLoad Try.prog 3 t32 H29) fun t33 =>
 Option.bind (aIndexAddr Try.prog 23 t31 t33 H29) fun t34 =>
 Option.bind (aLoad Try.prog 54 t34 H29) fun t35 =>
 Option.bind (aAlloc Try.prog 54 H29) fun r36 =>
 Option.bind (aStore Try.prog 54 r36.1 (stV r36.1 r36.2 t35) r36.2 lo) fun H37 =>
 Option.bind (aFieldAddr Try.prog 25 r1.1 0 H37) fun t38 =>
 Option.bind (aLoad Try.prog 22 t38 H37) fun t39 =>
 Option.bind (aFieldAddr Try.prog 54 r36.1 0 H37) fun t40 =>
 Option.bind (aLoad Try.prog 3 t40 H37) fun t41 =>
 Option.bind (aIndexAddr Try.prog 22 t39 t41 H37) fun t42 =>
 Option.bind (aLoad Try.prog 35 t42 H37) fun t43 =>
 Option.bind (call 41 [t43] H37 lo) fun H44 => outK H44.1 (fun a45 =>
 Option.bind (aSlice Try.prog 35 a45 none (some (A.v (Value.int IntKind.i64 64))) none H44.2) fun t46 =>
 Option.bind (aFieldAddr Try.prog 54 r36.1 1 H44.2) fun t47 =>
 Option.bind (aLoad Try.prog 35 t47 H44.2) fun t48 =>
 Option.bind (aCopy Try.prog 35 t46 t48 H44.2 lo) fun r49 =>
 Option.bind (aKill lo a45 r49.2) fun r50 =>
 Option.bind (aFieldAddr Try.prog 25 r1.1 0 r50.2) fun t51 =>
 Option.bind (aLoad Try.prog 22 t51 r50.2) fun t52 =>
 Option.bind (aFieldAddr Try.prog 54 r36.1 0 r50.2) fun t53 =>
 Option.bind (aLoad Try.prog 3 t53 r50.2) fun t54 =>
 Option.bind (aIndexAddr Try.prog 22 t52 t54 r50.2) fun t55 =>
 Option.bind (aStore Try.prog 35 t55 (stV t55 r50.2 r50.1) r50.2 lo) fun H56 =>
 Option.bind (aLoad Try.prog 25 r1.1 H56) fun t57 =>
 Option.bind (aStore Try.prog 25 r1.1 (stV r1.1 H56 t57) H56 lo) fun H58 =>
 Option.bind (aLoad Try.prog 25 r1.1 H58) fun t59 => some (Out.ret (A.tup [t59, A.v (Value.int IntKind.i64 40)]), H58)) fun a45 => some (Out.pan a45, H44.2)) fun a27 => some (Out.pan a27, H26.2)) (Option.bind (aFieldAddr Try.prog 25 r0.1 0 r1.2) fun t17 =>
 Option.bind (aLoad Try.prog 22 t17 r1.2) fun t18 =>
 Option.bind (aFieldAddr Try.prog 25 r0.1 1 r1.2) fun t19 =>
 Option.bind (aLoad Try.prog 23 t19 r1.2) fun t20 =>
 Option.bind (C 40 [snap r1.2 t18, snap r1.2 t20]) fun t21 =>
 Option.bind (aFieldAddr Try.prog 25 r0.1 2 r1.2) fun t22 =>
 Option.bind (aLoad Try.prog 3 t22 r1.2) fun t23 =>
 Option.bind (aBuild Try.prog 25 [(0, t21), (2, t23)]) fun t24 =>
 Option.bind (aStore Try.prog 25 r1.1 (stV r1.1 r1.2 t24) r1.2 lo) fun H25 =>
 Option.bind (aFieldAddr Try.prog 25 r1.1 2 H25) fun t26 =>
 Option.bind (aLoad Try.prog 3 t26 H25) fun t27 =>
 Option.bind (aBin Try.prog BinOp.geq 3 false true t27 (A.v (Value.int IntKind.i64 0))) fun t28 => bIfN t28 (Option.bind (aFieldAddr Try.prog 25 r1.1 2 H25) fun t29 =>
 Option.bind (aLoad Try.prog 3 t29 H25) fun t30 =>
 Option.bind (aBin Try.prog BinOp.sub 3 false false t30 t7) fun t31 =>
 Option.bind (aFieldAddr Try.prog 25 r1.1 2 H25) fun t32 =>
 Option.bind (aStore Try.prog 3 t32 (stV t32 H25 t31) H25 lo) fun H33 =>
 Option.bind (aLoad Try.prog 25 r1.1 H33) fun t34 =>
 Option.bind (aStore Try.prog 25 r1.1 (stV r1.1 H33 t34) H33 lo) fun H35 =>
 Option.bind (aLoad Try.prog 25 r1.1 H35) fun t36 => some (Out.ret (A.tup [t36, A.v (Value.int IntKind.i64 0)]), H35)) (Option.bind (aLoad Try.prog 25 r1.1 H25) fun t29 =>
 Option.bind (aStore Try.prog 25 r1.1 (stV r1.1 H25 t29) H25 lo) fun H30 =>
 Option.bind (aLoad Try.prog 25 r1.1 H30) fun t31 => some (Out.ret (A.tup [t31, A.v (Value.int IntKind.i64 0)]), H30)))) := by kernel_rfl
theorem e24 (C : Nat → List A → Option A) (call : CallT) (rg : CallT → CallT) (n lo : Nat) (x0 : A) (H : Heap) : evCall1 (cx C) call rg n 24 [x0] H lo =
 Option.bind (aBox x0 H) fun r0 =>
 Option.bind (aAlloc Try.prog 25 r0.2) fun r1 =>
 Option.bind (aLoad Try.prog 25 r0.1 r1.2) fun t2 =>
 Option.bind (C 16 [snap r1.2 t2]) fun t3 =>
 Option.bind (aBin Try.prog BinOp.neq 28 false true t3 (A.v (Value.int IntKind.i64 0))) fun t4 =>
 Option.bind (bIf t4 (some [A.v (Value.bool true), A.v undef, A.v undef]) (Option.bind (aFieldAddr Try.prog 25 r0.1 3 r1.2) fun t5 =>
 Option.bind (aLoad Try.prog 4 t5 r1.2) fun t6 => some [t6, t6, t5])) fun l5 => unc l5 fun u6 l6 => unc l6 fun u7 l7 => unc l7 fun u8 l8 => bIfN u6 (Option.bind (aBuild Try.prog 25 []) fun t9 =>
 Option.bind (aStore Try.prog 25 r1.1 (stV r1.1 r1.2 t9) r1.2 lo) fun H10 =>
 Option.bind (aLoad Try.prog 25 r1.1 H10) fun t11 => some (Out.ret (A.tup [t11, A.v (Value.int IntKind.i64 40)]), H10)) (Option.bind (aFieldAddr Try.prog 25 r0.1 1 r1.2) fun t9 =>
 Option.bind (aLoad Try.prog 23 t9 r1.2) fun t10 =>
 Option.bind (aLen Try.prog 23 t10 r1.2) fun t11 =>
 Option.bind (aFieldAddr Try.prog 25 r0.1 2 r1.2) fun t12 =>
 Option.bind (aLoad Try.prog 3 t12 r1.2) fun t13 =>
 Option.bind (aBin Try.prog BinOp.geq 3 false true t13 (A.v (Value.int IntKind.i64 0))) fun t14 =>
 Option.bind (bIf t14 (Option.bind (aFieldAddr Try.prog 25 r0.1 2 r1.2) fun t15 =>
 Option.bind (aLoad Try.prog 3 t15 r1.2) fun t16 =>
 Option.bind (aBin Try.prog BinOp.lss 3 false false t16 t11) fun t17 => some [t17, t17, t11, t16, t15]) (some [A.v (Value.bool false), A.v undef, A.v undef, A.v undef, A.v undef])) fun l15 => unc l15 fun u16 l16 => unc l16 fun u17 l17 => unc l17 fun u18 l18 => unc l18 fun u19 l19 => unc l19 fun u20 l20 => bIfN u16 (Option.bind (aFieldAddr Try.prog 25 r0.1 2 r1.2) fun t21 =>
 Option.bind (aLoad Try.prog 3 t21 r1.2) fun t22 =>
 Option.bind (aAlloc Try.prog 25 r1.2) fun r23 =>
 Option.bind (aBuildSlice Try.prog 22 0 []) fun t24 =>
 Option.bind (aFieldAddr Try.prog 25 r0.1 0 r23.2) fun t25 =>
 Option.bind (aLoad Try.prog 22 t25 r23.2) fun t26 =>
 Option.bind (aAppend Try.prog 22 22 true t24 t26 r23.2 lo) fun r27 => bif bif apart r0.1 t24 then true else false then
 Option.bind (aFieldAddr Try.prog 25 r0.1 2 r27.2) fun t28 => bif bif apart t28 t24 then true else false then
 Option.bind (aLoad Try.prog 3 t28 r27.2) fun t29 =>
 Option.bind (aBuild Try.prog 25 [(0, r27.1), (2, t29)]) fun t30 =>
 Option.bind (aStore Try.prog 25 r23.1 (stV r23.1 r27.2 t30) r27.2 lo) fun H31 => loopR (cx C) call rg n 24 lo 0 (List.length H31) (fun i32 s32 => bif Nat.beq i32 0 then bIfN (look (St.fr s32) 5) (Option.bind (aFieldAddr Try.prog 25 (look (St.fr s32) 1) 1 (St.H s32)) fun t33 =>
 Option.bind (aLoad Try.prog 23 t33 (St.H s32)) fun t34 =>
 Option.bind (aIndexAddr Try.prog 23 t34 (look (St.fr s32) 4) (St.H s32)) fun t35 =>
 Option.bind (aLoad Try.prog 54 t35 (St.H s32)) fun t36 =>
 Option.bind (aAlloc Try.prog 54 (St.H s32)) fun r37 =>
 Option.bind (aStore Try.prog 54 r37.1 (stV r37.1 r37.2 t36) r37.2 lo) fun H38 =>
 Option.bind (aFieldAddr Try.prog 25 (look (St.fr s32) 6) 0 H38) fun t39 =>
 Option.bind (aLoad Try.prog 22 t39 H38) fun t40 =>
 Option.bind (aFieldAddr Try.prog 54 r37.1 0 H38) fun t41 =>
 Option.bind (aLoad Try.prog 3 t41 H38) fun t42 =>
 Option.bind (aBuildSlice Try.prog 35 0 []) fun t43 =>
 Option.bind (aFieldAddr Try.prog 54 r37.1 1 H38) fun t44 =>
 Option.bind (aLoad Try.prog 35 t44 H38) fun t45 =>
 Option.bind (aSlice Try.prog 35 t45 none (some (A.v (Value.int IntKind.i64 64))) none H38) fun t46 => bif bif apart t41 t43 then bif apart r37.1 t43 then bif apart t39 t43 then bif apart (look (St.fr s32) 6) t43 then true else false else false else false else false then
 Option.bind (aAppend Try.prog 35 35 false t43 t46 H38 lo) fun r47 => bif bif apart (look (St.fr s32) 6) t43 then true else false then
 Option.bind (aFieldAddr Try.prog 25 (look (St.fr s32) 6) 0 r47.2) fun t48 => bif bif apart t48 t43 then true else false then
 Option.bind (aLoad Try.prog 22 t48 r47.2) fun t49 => bif bif apart r37.1 t43 then true else false then
 Option.bind (aFieldAddr Try.prog 54 r37.1 0 r47.2) fun t50 => bif bif apart t50 t43 then true else false then
 Option.bind (aLoad Try.prog 3 t50 r47.2) fun t51 => bif bif apart t49 t43 then true else false then
 Option.bind (aIndexAddr Try.prog 22 t49 t51 r47.2) fun t52 => bif bif apart t52 t43 then true else false then
 Option.bind (aLoad Try.prog 35 t52 r47.2) fun t53 => bif bif apart t53 t43 then true else false then
 Option.bind (aSlice Try.prog 35 t53 (some (A.v (Value.int IntKind.i64 64))) none none r47.2) fun t54 => bif bif apart t41 r47.1 then bif apart r37.1 r47.1 then bif apart t39 r47.1 then bif apart (look (St.fr s32) 6) r47.1 then true else false else false else false else false then
 Option.bind (aAppend Try.prog 35 35 false r47.1 t54 r47.2 lo) fun r55 =>
 Option.bind (aIndexAddr Try.prog 22 t40 t42 r55.2) fun t56 =>
 Option.bind (aStore Try.prog 35 t56 (stV t56 r55.2 r55.1) r55.2 lo) fun H57 =>
 Option.bind (aFieldAddr Try.prog 25 (look (St.fr s32) 6) 2 H57) fun t58 =>
 Option.bind (aStore Try.prog 3 t58 (stV t58 H57 (A.v (Value.int IntKind.i64 0))) H57 lo) fun H59 =>
 Option.bind (aFieldAddr Try.prog 25 (look (St.fr s32) 6) 3 H59) fun t60 =>
 Option.bind (aStore Try.prog 4 t60 (stV t60 H59 (A.v (Value.bool true))) H59 lo) fun H61 =>
 Option.bind (aLoad Try.prog 25 (look (St.fr s32) 6) H61) fun t62 =>
 Option.bind (aStore Try.prog 25 (look (St.fr s32) 2) (stV (look (St.fr s32) 2) H61 t62) H61 lo) fun H63 =>
 Option.bind (aLoad Try.prog 25 (look (St.fr s32) 2) H63) fun t64 => some (Out.ret (A.tup [t64, A.v (Value.int IntKind.i64 40)]), H63) else none else none else none else none else none else none else none else none else none) (Option.bind (aFieldAddr Try.prog 25 (look (St.fr s32) 6) 2 (St.H s32)) fun t33 =>
 Option.bind (aLoad Try.prog 3 t33 (St.H s32)) fun t34 =>
 Option.bind (aBin Try.prog BinOp.geq 3 false true t34 (A.v (Value.int IntKind.i64 0))) fun t35 => bIfN t35 (Option.bind (aFieldAddr Try.prog 25 (look (St.fr s32) 6) 2 (St.H s32)) fun t36 =>
 Option.bind (aLoad Try.prog 3 t36 (St.H s32)) fun t37 =>
 Option.bind (aBin Try.prog BinOp.sub 3 false false t37 (look (St.fr s32) 4)) fun t38 =>
 Option.bind (aFieldAddr Try.prog 25 (look (St.fr s32) 6) 2 (St.H s32)) fun t39 =>
 Option.bind (aStore Try.prog 3 t39 (stV t39 (St.H s32) t38) (St.H s32) lo) fun H40 =>
 Option.bind (aLoad Try.prog 25 (look (St.fr s32) 6) H40) fun t41 =>
 Option.bind (aStore Try.prog 25 (look (St.fr s32) 2) (stV (look (St.fr s32) 2) H40 t41) H40 lo) fun H42 =>
 Option.bind (aLoad Try.prog 25 (look (St.fr s32) 2) H42) fun t43 => some (Out.ret (A.tup [t43, A.v (Value.int IntKind.i64 0)]), H42)) (Option.bind (aLoad Try.prog 25 (look (St.fr s32) 6) (St.H s32)) fun t36 =>
 Option.bind (aStore Try.prog 25 (look (St.fr s32) 2) (stV (look (St.fr s32) 2) (St.H s32) t36) (St.H s32) lo) fun H37 =>
 Option.bind (aLoad Try.prog 25 (look (St.fr s32) 2) H37) fun t38 => some (Out.ret (A.tup [t38, A.v (Value.int IntKind.i64 0)]), H37))) else none) (fun i32 s32 => none) (fun a32 =>
 Option.bind (aLoad Try.prog 25 (look (St.fr a32) 2) (St.H a32)) fun t33 => some (Out.ret (A.tup [t33, look (St.fr a32) 3]), St.H a32)) (fun i32 s32 => some (Out.pan i32, St.H s32)) n (St.mk [(1, r0.1), (2, r1.1), (3, A.v (Value.int IntKind.i64 0)), (4, t22), (5, u16), (6, r23.1), (7, A.v (Value.int IntKind.i64 0))] H31) else none else none) (Option.bind (aAlloc Try.prog 25 r1.2) fun r21 =>
 Option.bind (aBuildSlice Try.prog 22 0 []) fun t22 =>
 Option.bind (aFieldAddr Try.prog 25 r0.1 0 r21.2) fun t23 =>
 Option.bind (aLoad Try.prog 22 t23 r21.2) fun t24 =>
 Option.bind (aAppend Try.prog 22 22 true t22 t24 r21.2 lo) fun r25 => bif bif apart r0.1 t22 then true else false then
 Option.bind (aFieldAddr Try.prog 25 r0.1 2 r25.2) fun t26 => bif bif apart t26 t22 then true else false then
 Option.bind (aLoad Try.prog 3 t26 r25.2) fun t27 =>
 Option.bind (aBuild Try.prog 25 [(0, r25.1), (2, t27)]) fun t28 =>
 Option.bind (aStore Try.prog 25 r21.1 (stV r21.1 r25.2 t28) r25.2 lo) fun H29 => loopR (cx C) call rg n 24 lo 0 (List.length H29) (fun i30 s30 => bif Nat.beq i30 0 then bIfN (look (St.fr s30) 5) (Option.bind (aFieldAddr Try.prog 25 (look (St.fr s30) 1) 1 (St.H s30)) fun t31 =>
 Option.bind (aLoad Try.prog 23 t31 (St.H s30)) fun t32 =>
 Option.bind (aIndexAddr Try.prog 23 t32 (look (St.fr s30) 4) (St.H s30)) fun t33 =>
 Option.bind (aLoad Try.prog 54 t33 (St.H s30)) fun t34 =>
 Option.bind (aAlloc Try.prog 54 (St.H s30)) fun r35 =>
 Option.bind (aStore Try.prog 54 r35.1 (stV r35.1 r35.2 t34) r35.2 lo) fun H36 =>
 Option.bind (aFieldAddr Try.prog 25 (look (St.fr s30) 6) 0 H36) fun t37 =>
 Option.bind (aLoad Try.prog 22 t37 H36) fun t38 =>
 Option.bind (aFieldAddr Try.prog 54 r35.1 0 H36) fun t39 =>
 Option.bind (aLoad Try.prog 3 t39 H36) fun t40 =>
 Option.bind (aBuildSlice Try.prog 35 0 []) fun t41 =>
 Option.bind (aFieldAddr Try.prog 54 r35.1 1 H36) fun t42 =>
 Option.bind (aLoad Try.prog 35 t42 H36) fun t43 =>
 Option.bind (aSlice Try.prog 35 t43 none (some (A.v (Value.int IntKind.i64 64))) none H36) fun t44 => bif bif apart t39 t41 then bif apart r35.1 t41 then bif apart t37 t41 then bif apart (look (St.fr s30) 6) t41 then true else false else false else false else false then
 Option.bind (aAppend Try.prog 35 35 false t41 t44 H36 lo) fun r45 => bif bif apart (look (St.fr s30) 6) t41 then true else false then
 Option.bind (aFieldAddr Try.prog 25 (look (St.fr s30) 6) 0 r45.2) fun t46 => bif bif apart t46 t41 then true else false then
 Option.bind (aLoad Try.prog 22 t46 r45.2) fun t47 => bif bif apart r35.1 t41 then true else false then
 Option.bind (aFieldAddr Try.prog 54 r35.1 0 r45.2) fun t48 => bif bif apart t48 t41 then true else false then
 Option.bind (aLoad Try.prog 3 t48 r45.2) fun t49 => bif bif apart t47 t41 then true else false then
 Option.bind (aIndexAddr Try.prog 22 t47 t49 r45.2) fun t50 => bif bif apart t50 t41 then true else false then
 Option.bind (aLoad Try.prog 35 t50 r45.2) fun t51 => bif bif apart t51 t41 then true else false then
 Option.bind (aSlice Try.prog 35 t51 (some (A.v (Value.int IntKind.i64 64))) none none r45.2) fun t52 => bif bif apart t39 r45.1 then bif apart r35.1 r45.1 then bif apart t37 r45.1 then bif apart (look (St.fr s30) 6) r45.1 then true else false else false else false else false then
 Option.bind (aAppend Try.prog 35 35 false r45.1 t52 r45.2 lo) fun r53 =>
 Option.bind (aIndexAddr Try.prog 22 t38 t40 r53.2) fun t54 =>
 Option.bind (aStore Try.prog 35 t54 (stV t54 r53.2 r53.1) r53.2 lo) fun H55 =>
 Option.bind (aFieldAddr Try.prog 25 (look (St.fr s30) 6) 2 H55) fun t56 =>
 Option.bind (aStore Try.prog 3 t56 (stV t56 H55 (A.v (Value.int IntKind.i64 0))) H55 lo) fun H57 =>
 Option.bind (aFieldAddr Try.prog 25 (look (St.fr s30) 6) 3 H57) fun t58 =>
 Option.bind (aStore Try.prog 4 t58 (stV t58 H57 (A.v (Value.bool true))) H57 lo) fun H59 =>
 Option.bind (aLoad Try.prog 25 (look (St.fr s30) 6) H59) fun t60 =>
 Option.bind (aStore Try.prog 25 (look (St.fr s30) 2) (stV (look (St.fr s30) 2) H59 t60) H59 lo) fun H61 =>
 Option.bind (aLoad Try.prog 25 (look (St.fr s30) 2) H61) fun t62 => some (Out.ret (A.tup [t62, A.v (Value.int IntKind.i64 40)]), H61) else none else none else none else none else none else none else none else none else none) (Option.bind (aFieldAddr Try.prog 25 (look (St.fr s30) 6) 2 (St.H s30)) fun t31 =>
 Option.bind (aLoad Try.prog 3 t31 (St.H s30)) fun t32 =>
 Option.bind (aBin Try.prog BinOp.geq 3 false true t32 (A.v (Value.int IntKind.i64 0))) fun t33 => bIfN t33 (Option.bind (aFieldAddr Try.prog 25 (look (St.fr s30) 6) 2 (St.H s30)) fun t34 =>
 Option.bind (aLoad Try.prog 3 t34 (St.H s30)) fun t35 =>
 Option.bind (aBin Try.prog BinOp.sub 3 false false t35 (look (St.fr s30) 4)) fun t36 =>
 Option.bind (aFieldAddr Try.prog 25 (look (St.fr s30) 6) 2 (St.H s30)) fun t37 =>
 Option.bind (aStore Try.prog 3 t37 (stV t37 (St.H s30) t36) (St.H s30) lo) fun H38 =>
 Option.bind (aLoad Try.prog 25 (look (St.fr s30) 6) H38) fun t39 =>
 Option.bind (aStore Try.prog 25 (look (St.fr s30) 2) (stV (look (St.fr s30) 2) H38 t39) H38 lo) fun H40 =>
 Option.bind (aLoad Try.prog 25 (look (St.fr s30) 2) H40) fun t41 => some (Out.ret (A.tup [t41, A.v (Value.int IntKind.i64 0)]), H40)) (Option.bind (aLoad Try.prog 25 (look (St.fr s30) 6) (St.H s30)) fun t34 =>
 Option.bind (aStore Try.prog 25 (look (St.fr s30) 2) (stV (look (St.fr s30) 2) (St.H s30) t34) (St.H s30) lo) fun H35 =>
 Option.bind (aLoad Try.prog 25 (look (St.fr s30) 2) H35) fun t36 => some (Out.ret (A.tup [t36, A.v (Value.int IntKind.i64 0)]), H35))) else none) (fun i30 s30 => none) (fun a30 =>
 Option.bind (aLoad Try.prog 25 (look (St.fr a30) 2) (St.H a30)) fun t31 => some (Out.ret (A.tup [t31, look (St.fr a30) 3]), St.H a30)) (fun i30 s30 => some (Out.pan i30, St.H s30)) n (St.mk [(1, r0.1), (2, r1.1), (3, A.v (Value.int IntKind.i64 0)), (4, t11), (5, u16), (6, r21.1), (7, A.v (Value.int IntKind.i64 0))] H29) else none else none)) := by kernel_rfl
theorem e25 (C : Nat → List A → Option A) (call : CallT) (rg : CallT → CallT) (n lo : Nat) (x0 x1 : A) (H : Heap) : evCall1 (cx C) call rg n 25 [x0, x1] H lo =
 Option.bind (aBox x0 H) fun r0 =>
 Option.bind (aAlloc Try.prog 25 r0.2) fun r1 =>
 Option.bind (aLoad Try.prog 25 r0.1 r1.2) fun t2 =>
 Option.bind (C 35 [snap r1.2 t2]) fun t3 =>
 Option.bind (aUn Try.prog UnOp.not t3) fun t4 => bIfN t4 (Option.bind (aLoad Try.prog 25 r1.1 r1.2) fun t5 =>
 Option.bind (aStore Try.prog 25 r1.1 (stV r1.1 r1.2 t5) r1.2 lo) fun H6 =>
 Option.bind (aLoad Try.prog 25 r1.1 H6) fun t7 => some (Out.ret (A.tup [t7, A.v (Value.int IntKind.i64 40)]), H6)) (Option.bind (aBin Try.prog BinOp.lss 3 false true x1 (A.v (Value.int IntKind.i64 0))) fun t5 =>
 Option.bind (bIf t5 (some [A.v (Value.bool true), A.v undef, A.v undef]) (Option.bind (aBin Try.prog BinOp.gtr 3 false true x1 (A.v (Value.int IntKind.i64 65536))) fun t6 => some [t6, t6, x1])) fun l6 => unc l6 fun u7 l7 => unc l7 fun u8 l8 => unc l8 fun u9 l9 => bIfN u7 (Option.bind (aLoad Try.prog 25 r1.1 r1.2) fun t10 =>
 Option.bind (aStore Try.prog 25 r1.1 (stV r1.1 r1.2 t10) r1.2 lo) fun H11 =>
 Option.bind (aLoad Try.prog 25 r1.1 H11) fun t12 => some (Out.ret (A.tup [t12, A.v (Value.int IntKind.i64 1)]), H11)) (Option.bind (aFieldAddr Try.prog 25 r0.1 2 r1.2) fun t10 =>
 Option.bind (aStore Try.prog 3 t10 (stV t10 r1.2 x1) r1.2 lo) fun H11 =>
 Option.bind (aLoad Try.prog 25 r0.1 H11) fun t12 =>
 Option.bind (aStore Try.prog 25 r1.1 (stV r1.1 H11 t12) H11 lo) fun H13 =>
 Option.bind (aLoad Try.prog 25 r1.1 H13) fun t14 => some (Out.ret (A.tup [t14, A.v (Value.int IntKind.i64 0)]), H13))) := by kernel_rfl
theorem e26 (C : Nat → List A → Option A) (call : CallT) (rg : CallT → CallT) (n lo : Nat) (x0 x1 : A) (H : Heap) : evCall1 (cx C) call rg n 26 [x0, x1] H lo =
 Option.bind (aBox x0 H) fun r0 =>
 Option.bind (aAlloc Try.prog 25 r0.2) fun r1 =>
 Option.bind (aLoad Try.prog 25 r0.1 r1.2) fun t2 =>
 Option.bind (C 16 [snap r1.2 t2]) fun t3 =>
 Option.bind (aBin Try.prog BinOp.neq 28 false true t3 (A.v (Value.int IntKind.i64 0))) fun t4 =>
 Option.bind (bIf t4 (some [A.v (Value.bool true), A.v undef, A.v undef]) (Option.bind (aFieldAddr Try.prog 25 r0.1 3 r1.2) fun t5 =>
 Option.bind (aLoad Try.prog 4 t5 r1.2) fun t6 => some [t6, t6, t5])) fun l5 => unc l5 fun u6 l6 => unc l6 fun u7 l7 => unc l7 fun u8 l8 => bIfN u6 (Option.bind (aBuild Try.prog 25 []) fun t9 =>
 Option.bind (aStore Try.prog 25 r1.1 (stV r1.1 r1.2 t9) r1.2 lo) fun H10 =>
 Option.bind (aLoad Try.prog 25 r1.1 H10) fun t11 => some (Out.ret (A.tup [t11, A.v (Value.int IntKind.i64 40)]), H10)) (Option.bind (aBin Try.prog BinOp.lss 3 false true x1 (A.v (Value.int IntKind.i64 0))) fun t9 =>
 Option.bind (bIf t9 (some [A.v (Value.bool true), A.v undef, A.v undef]) (Option.bind (aBin Try.prog BinOp.gtr 3 false true x1 (A.v (Value.int IntKind.i64 65536))) fun t10 => some [t10, t10, x1])) fun l10 => unc l10 fun u11 l11 => unc l11 fun u12 l12 => unc l12 fun u13 l13 => bIfN u11 (Option.bind (aBuild Try.prog 25 []) fun t14 =>
 Option.bind (aStore Try.prog 25 r1.1 (stV r1.1 r1.2 t14) r1.2 lo) fun H15 =>
 Option.bind (aLoad Try.prog 25 r1.1 H15) fun t16 => some (Out.ret (A.tup [t16, A.v (Value.int IntKind.i64 1)]), H15)) (Option.bind (aFieldAddr Try.prog 25 r0.1 2 r1.2) fun t14 =>
 Option.bind (aStore Try.prog 3 t14 (stV t14 r1.2 x1) r1.2 lo) fun H15 =>
 Option.bind (aLoad Try.prog 25 r0.1 H15) fun t16 =>
 Option.bind (aStore Try.prog 25 r1.1 (stV r1.1 H15 t16) H15 lo) fun H17 =>
 Option.bind (aLoad Try.prog 25 r1.1 H17) fun t18 => some (Out.ret (A.tup [t18, A.v (Value.int IntKind.i64 0)]), H17))) := by kernel_rfl
theorem e27 (C : Nat → List A → Option A) (call : CallT) (rg : CallT → CallT) (n lo : Nat) (x0 : A) (H : Heap) : evCall1 (cx C) call rg n 27 [x0] H lo =
 Option.bind (aMakeSlice Try.prog 35 (A.v (Value.int IntKind.i64 128)) (A.v (Value.int IntKind.i64 128)) H) fun r0 =>
 Option.bind (aIndexAddr Try.prog 35 r0.1 (A.v (Value.int IntKind.i64 0)) r0.2) fun t1 =>
 Option.bind (aStore Try.prog 5 t1 (stV t1 r0.2 x0) r0.2 lo) fun H2 =>
 Option.bind (aIndexAddr Try.prog 35 r0.1 (A.v (Value.int IntKind.i64 64)) H2) fun t3 =>
 Option.bind (aStore Try.prog 5 t3 (stV t3 H2 x0) H2 lo) fun H4 => some (Out.ret r0.1, H4) := by kernel_rfl
theorem e29 (C : Nat → List A → Option A) (call : CallT) (rg : CallT → CallT) (n lo : Nat) (x0 x1 : A) (H : Heap) : evCall1 (cx C) call rg n 29 [x0, x1] H lo =
 Option.bind (aBin Try.prog BinOp.lss 3 false true x1 (A.v (Value.int IntKind.i64 0))) fun t0 => bIfN t0 (Option.bind (aIfc Try.prog 9 (A.v (Value.string (ByteArray.mk #[99, 97, 110, 110, 111, 116, 32, 98, 101, 32, 110, 101, 103, 97, 116, 105, 118, 101])))) fun t1 => panK t1 fun a2 => some (Out.pan a2, H)) (Option.bind (aLen Try.prog 22 x0 H) fun t1 =>
 Option.bind (aConvert Try.prog 3 66 t1 H) fun t2 =>
 Option.bind (aConvert Try.prog 3 66 x1 H) fun t3 =>
 Option.bind (C 42 [snap H t2, snap H t3]) fun t4 =>
 Option.bind (aExtract t4 0) fun t5 =>
 Option.bind (aExtract t4 1) fun t6 =>
 Option.bind (aBin Try.prog BinOp.gtr 66 false true t5 (A.v (Value.int IntKind.u64 0))) fun t7 =>
 Option.bind (bIf t7 (some [A.v (Value.bool true), A.v undef, A.v undef]) (Option.bind (aBin Try.prog BinOp.gtr 66 false true t6 (A.v (Value.int IntKind.u64 9223372036854775807))) fun t8 => some [t8, t8, t6])) fun l8 => unc l8 fun u9 l9 => unc l9 fun u10 l10 => unc l10 fun u11 l11 => bIfN u9 (Option.bind (aIfc Try.prog 9 (A.v (Value.string (ByteArray.mk #[116, 104, 101, 32, 114, 101, 115, 117, 108, 116, 32, 111, 102, 32, 40, 108, 101, 110, 40, 120, 41, 32, 42, 32, 99, 111, 117, 110, 116, 41, 32, 111, 118, 101, 114, 102, 108, 111, 119, 115])))) fun t12 => panK t12 fun a13 => some (Out.pan a13, H)) (Option.bind (aConvert Try.prog 66 3 t6 H) fun t12 =>
 Option.bind (aMakeSlice Try.prog 22 t12 t12 H) fun r13 =>
 Option.bind (aCopy Try.prog 22 r13.1 x0 r13.2 lo) fun r14 => loopR (cx C) call rg n 29 lo 0 (List.length r14.2) (fun i15 s15 => bif Nat.beq i15 0 then some (Out.ret (look (St.fr s15) 7), St.H s15) else none) (fun i15 s15 => none) (fun a15 => some (Out.ret (look (St.fr a15) 4), St.H a15)) (fun i15 s15 => some (Out.pan i15, St.H s15)) n (St.mk [(4, A.imm [] true), (7, r13.1), (8, r14.1)] r14.2))) := by kernel_rfl
theorem e30 (C : Nat → List A → Option A) (call : CallT) (rg : CallT → CallT) (n lo : Nat) (x0 x1 : A) (H : Heap) : evCall1 (cx C) call rg n 30 [x0, x1] H lo =
 Option.bind (aBox x0 H) fun r0 =>
 Option.bind (aFieldAddr Try.prog 54 r0.1 0 r0.2) fun t1 =>
 Option.bind (aLoad Try.prog 3 t1 r0.2) fun t2 =>
 Option.bind (aBin Try.prog BinOp.lss 3 false true t2 (A.v (Value.int IntKind.i64 0))) fun t3 =>
 Option.bind (bIf t3 (some [A.v (Value.bool true), A.v undef, A.v undef, A.v undef, A.v undef]) (Option.bind (aFieldAddr Try.prog 54 r0.1 0 r0.2) fun t4 =>
 Option.bind (aLoad Try.prog 3 t4 r0.2) fun t5 =>
 Option.bind (aLoad Try.prog 3 x1 r0.2) fun t6 =>
 Option.bind (aBin Try.prog BinOp.geq 3 false false t5 t6) fun t7 => some [t7, t7, t6, t5, t4])) fun l4 => unc l4 fun u5 l5 => unc l5 fun u6 l6 => unc l6 fun u7 l7 => unc l7 fun u8 l8 => unc l8 fun u9 l9 =>
 Option.bind (bIf u5 (some [A.v (Value.bool true), A.v undef, A.v undef, A.v undef, A.v undef]) (Option.bind (aFieldAddr Try.prog 54 r0.1 1 r0.2) fun t10 =>
 Option.bind (aLoad Try.prog 35 t10 r0.2) fun t11 =>
 Option.bind (C 31 [snap r0.2 t11]) fun t12 =>
 Option.bind (aUn Try.prog UnOp.not t12) fun t13 => some [t13, t13, t12, t11, t10])) fun l10 => unc l10 fun u11 l11 => unc l11 fun u12 l12 => unc l12 fun u13 l13 => unc l13 fun u14 l14 => unc l14 fun u15 l15 => some (Out.ret u11, r0.2) := by kernel_rfl
theorem e31 (C : Nat → List A → Option A) (call : CallT) (rg : CallT → CallT) (n lo : Nat) (x0 : A) (H : Heap) : evCall1 (cx C) call rg n 31 [x0] H lo =
 Option.bind (aLen Try.prog 35 x0 H) fun t0 =>
 Option.bind (aBin Try.prog BinOp.eql 3 false true t0 (A.v (Value.int IntKind.i64 128))) fun t1 => some (Out.ret t1, H) := by kernel_rfl
theorem e32 (C : Nat → List A → Option A) (call : CallT) (rg : CallT → CallT) (n lo : Nat) (x0 x1 : A) (H : Heap) : evCall1 (cx C) call rg n 32 [x0, x1] H lo =
 Option.bind (call 43 [x0, x1] H lo) fun H0 => outK H0.1 (fun a1 =>
 Option.bind (aBin Try.prog BinOp.geq 3 false true a1 (A.v (Value.int IntKind.i64 0))) fun t2 => some (Out.ret t2, H0.2)) fun a1 => some (Out.pan a1, H0.2) := by kernel_rfl
theorem e33 (C : Nat → List A → Option A) (call : CallT) (rg : CallT → CallT) (n lo : Nat) (x0 x1 : A) (H : Heap) : evCall1 (cx C) call rg n 33 [x0, x1] H lo =
 Option.bind (C 44 [snap H x0, snap H x1]) fun t0 =>
 Option.bind (aBin Try.prog BinOp.geq 3 false true t0 (A.v (Value.int IntKind.i64 0))) fun t1 => some (Out.ret t1, H) := by kernel_rfl
theorem e34 (C : Nat → List A → Option A) (call : CallT) (rg : CallT → CallT) (n lo : Nat) (x0 : A) (H : Heap) : evCall1 (cx C) call rg n 34 [x0] H lo =
 Option.bind (C 31 [snap H x0]) fun t0 =>
 Option.bind (aUn Try.prog UnOp.not t0) fun t1 => some (Out.ret t1, H) := by kernel_rfl
theorem e35 (C : Nat → List A → Option A) (call : CallT) (rg : CallT → CallT) (n lo : Nat) (x0 : A) (H : Heap) : evCall1 (cx C) call rg n 35 [x0] H lo =
 Option.bind (aBox x0 H) fun r0 =>
 Option.bind (aLoad Try.prog 25 r0.1 r0.2) fun t1 =>
 Option.bind (C 15 [snap r0.2 t1]) fun t2 =>
 Option.bind (aBin Try.prog BinOp.eql 28 false true t2 (A.v (Value.int IntKind.i64 0))) fun t3 =>
 Option.bind (bIf t3 (Option.bind (aFieldAddr Try.prog 25 r0.1 3 r0.2) fun t4 =>
 Option.bind (aLoad Try.prog 4 t4 r0.2) fun t5 =>
 Option.bind (aUn Try.prog UnOp.not t5) fun t6 => some [t6, t6, t5, t4]) (some [A.v (Value.bool false), A.v undef, A.v undef, A.v undef])) fun l4 => unc l4 fun u5 l5 => unc l5 fun u6 l6 => unc l6 fun u7 l7 => unc l7 fun u8 l8 => some (Out.ret u5, r0.2) := by kernel_rfl
theorem e36 (C : Nat → List A → Option A) (call : CallT) (rg : CallT → CallT) (n lo : Nat) (x0 x1 : A) (H : Heap) : evCall1 (cx C) call rg n 36 [x0, x1] H lo =
 Option.bind (aBox x0 H) fun r0 =>
 Option.bind (aBin Try.prog BinOp.geq 3 false true x1 (A.v (Value.int IntKind.i64 0))) fun t1 =>
 Option.bind (bIf t1 (Option.bind (aFieldAddr Try.prog 25 r0.1 0 r0.2) fun t2 =>
 Option.bind (aLoad Try.prog 22 t2 r0.2) fun t3 =>
 Option.bind (aLen Try.prog 22 t3 r0.2) fun t4 =>
 Option.bind (aBin Try.prog BinOp.lss 3 false false x1 t4) fun t5 => some [t5, t5, t4, t3, t2, x1]) (some [A.v (Value.bool false), A.v undef, A.v undef, A.v undef, A.v undef, A.v undef])) fun l2 => unc l2 fun u3 l3 => unc l3 fun u4 l4 => unc l4 fun u5 l5 => unc l5 fun u6 l6 => unc l6 fun u7 l7 => unc l7 fun u8 l8 => some (Out.ret u3, r0.2) := by kernel_rfl
theorem e37 (C : Nat → List A → Option A) (call : CallT) (rg : CallT → CallT) (n lo : Nat) (x0 : A) (H : Heap) : evCall1 (cx C) call rg n 37 [x0] H lo =
 Option.bind (aLen Try.prog 23 x0 H) fun t0 =>
 Option.bind (aLen Try.prog 23 x0 H) fun t1 =>
 Option.bind (aSlice Try.prog 23 x0 none (some t0) (some t1) H) fun t2 => some (Out.ret t2, H) := by kernel_rfl
theorem e38 (C : Nat → List A → Option A) (call : CallT) (rg : CallT → CallT) (n lo : Nat) (x0 : A) (H : Heap) : evCall1 (cx C) call rg n 38 [x0] H lo =
 Option.bind (aNq Try.prog 23 x0) fun t0 => bIfN t0 (some (Out.ret (seed1 2 (St.H (St.mk [(2, A.imm [] true), (4, t0), (3, x0), (2, A.imm [] true), (0, x0)] H)) (look (St.fr (St.mk [(2, A.imm [] true), (4, t0), (3, x0), (2, A.imm [] true), (0, x0)] H)) (Prod.fst (2, 0, 3)))).1, (seed1 2 (St.H (St.mk [(2, A.imm [] true), (4, t0), (3, x0), (2, A.imm [] true), (0, x0)] H)) (look (St.fr (St.mk [(2, A.imm [] true), (4, t0), (3, x0), (2, A.imm [] true), (0, x0)] H)) (Prod.fst (2, 0, 3)))).2)) (Option.bind (aBuildSlice Try.prog 23 0 []) fun t1 =>
 Option.bind (aAppend Try.prog 23 23 false t1 x0 H lo) fun r2 => some (Out.ret (seed1 2 (St.H (St.mk [(2, r2.1), (7, r2.1), (6, x0), (5, t1), (4, t0), (3, x0), (2, A.imm [] true), (0, x0)] r2.2)) (look (St.fr (St.mk [(2, r2.1), (7, r2.1), (6, x0), (5, t1), (4, t0), (3, x0), (2, A.imm [] true), (0, x0)] r2.2)) (Prod.fst (2, 0, 3)))).1, (seed1 2 (St.H (St.mk [(2, r2.1), (7, r2.1), (6, x0), (5, t1), (4, t0), (3, x0), (2, A.imm [] true), (0, x0)] r2.2)) (look (St.fr (St.mk [(2, r2.1), (7, r2.1), (6, x0), (5, t1), (4, t0), (3, x0), (2, A.imm [] true), (0, x0)] r2.2)) (Prod.fst (2, 0, 3)))).2)) := by kernel_rfl
theorem e39 (C : Nat → List A → Option A) (call : CallT) (rg : CallT → CallT) (n lo : Nat) (x0 : A) (H : Heap) : evCall1 (cx C) call rg n 39 [x0] H lo =
 Option.bind (aBox x0 H) fun r0 => some (Out.ret (A.fn (Fn.func 45) [] [r0.1]), r0.2) := by kernel_rfl
theorem e40 (C : Nat → List A → Option A) (call : CallT) (rg : CallT → CallT) (n lo : Nat) (x0 x1 : A) (H : Heap) : evCall1 (cx C) call rg n 40 [x0, x1] H lo =
 Option.bind (call 46 [x0] H lo) fun H0 => outK H0.1 (fun a1 =>
 Option.bind (aLen Try.prog 23 x1 H0.2) fun t2 => loopR (cx C) call rg n 40 lo 0 (List.length H0.2) (fun i3 s3 => bif Nat.beq i3 0 then some (Out.ret (look (St.fr s3) 5), St.H s3) else none) (fun i3 s3 => none) (fun a3 => some (Out.ret (look (St.fr a3) 4), St.H a3)) (fun i3 s3 => some (Out.pan i3, St.H s3)) n (St.mk [(4, A.imm [] true), (5, a1), (10, x1), (11, t2), (12, A.v (Value.int IntKind.i64 0))] H0.2)) fun a1 => some (Out.pan a1, H0.2) := by kernel_rfl
theorem e41 (C : Nat → List A → Option A) (call : CallT) (rg : CallT → CallT) (n lo : Nat) (x0 : A) (H : Heap) : evCall1 (cx C) call rg n 41 [x0] H lo =
 Option.bind (aNq Try.prog 35 x0) fun t0 => bIfN t0 (some (Out.ret (seedW (500001 - 500000) (St.H (St.mk [(2, A.imm [] true), (4, t0), (3, x0), (2, A.imm [] true), (0, x0)] H)) (look (St.fr (St.mk [(2, A.imm [] true), (4, t0), (3, x0), (2, A.imm [] true), (0, x0)] H)) (Prod.fst (2, 0, 500002)))).1, (seedW (500001 - 500000) (St.H (St.mk [(2, A.imm [] true), (4, t0), (3, x0), (2, A.imm [] true), (0, x0)] H)) (look (St.fr (St.mk [(2, A.imm [] true), (4, t0), (3, x0), (2, A.imm [] true), (0, x0)] H)) (Prod.fst (2, 0, 500002)))).2)) (Option.bind (aBuildSlice Try.prog 35 0 []) fun t1 =>
 Option.bind (aAppend Try.prog 35 35 true t1 x0 H lo) fun r2 => some (Out.ret (seedW (500001 - 500000) (St.H (St.mk [(2, r2.1), (7, r2.1), (6, x0), (5, t1), (4, t0), (3, x0), (2, A.imm [] true), (0, x0)] r2.2)) (look (St.fr (St.mk [(2, r2.1), (7, r2.1), (6, x0), (5, t1), (4, t0), (3, x0), (2, A.imm [] true), (0, x0)] r2.2)) (Prod.fst (2, 0, 500002)))).1, (seedW (500001 - 500000) (St.H (St.mk [(2, r2.1), (7, r2.1), (6, x0), (5, t1), (4, t0), (3, x0), (2, A.imm [] true), (0, x0)] r2.2)) (look (St.fr (St.mk [(2, r2.1), (7, r2.1), (6, x0), (5, t1), (4, t0), (3, x0), (2, A.imm [] true), (0, x0)] r2.2)) (Prod.fst (2, 0, 500002)))).2)) := by kernel_rfl
theorem e42 (C : Nat → List A → Option A) (call : CallT) (rg : CallT → CallT) (n lo : Nat) (x0 x1 : A) (H : Heap) : evCall1 (cx C) call rg n 42 [x0, x1] H lo =
 Option.bind (C 48 [snap H x0, snap H x1]) fun t0 =>
 Option.bind (aExtract t0 0) fun t1 =>
 Option.bind (aExtract t0 1) fun t2 => some (Out.ret (A.tup [t1, t2]), H) := by kernel_rfl
theorem e43 (C : Nat → List A → Option A) (call : CallT) (rg : CallT → CallT) (n lo : Nat) (x0 x1 : A) (H : Heap) : evCall1 (cx C) call rg n 43 [x0, x1] H lo =
 Option.bind (aLen Try.prog 23 x0 H) fun t0 => loopR (cx C) call rg n 43 lo 0 (List.length H) (fun i1 s1 => bif Nat.beq i1 0 then some (Out.ret (A.v (Value.int IntKind.i64 (-1))), St.H s1) else none) (fun i1 s1 => none) (fun a1 => some (Out.ret (look (St.fr a1) 4), St.H a1)) (fun i1 s1 => some (Out.pan i1, St.H s1)) n (St.mk [(0, x0), (1, x1), (4, A.v (Value.int IntKind.i64 0)), (7, t0), (8, A.v (Value.int IntKind.i64 0))] H) := by kernel_rfl
theorem e44 (C : Nat → List A → Option A) (call : CallT) (rg : CallT → CallT) (n lo : Nat) (x0 x1 : A) (H : Heap) : evCall1 (cx C) call rg n 44 [x0, x1] H lo =
 Option.bind (aLen Try.prog 22 x0 H) fun t0 => loopR (cx C) call rg n 44 lo 0 (List.length H) (fun i1 s1 => bif Nat.beq i1 0 then some (Out.ret (A.v (Value.int IntKind.i64 (-1))), St.H s1) else none) (fun i1 s1 => none) (fun a1 => some (Out.ret (look (St.fr a1) 4), St.H a1)) (fun i1 s1 => some (Out.pan i1, St.H s1)) n (St.mk [(0, x0), (1, x1), (4, A.v (Value.int IntKind.i64 0)), (7, t0), (8, A.v (Value.int IntKind.i64 0))] H) := by kernel_rfl
theorem e45 (C : Nat → List A → Option A) (call : CallT) (rg : CallT → CallT) (n lo : Nat) (x0 x1 : A) (H : Heap) : evCall1 (cx C) call rg n 45 [x0, x1] H lo =
 Option.bind (aLoad Try.prog 23 x1 H) fun t0 =>
 Option.bind (aLen Try.prog 23 t0 H) fun t1 =>
 Option.bind (aBin Try.prog BinOp.sub 3 false true t1 (A.v (Value.int IntKind.i64 1))) fun t2 => loopR (cx C) call rg n 45 lo 0 (List.length H) (fun i3 s3 => bif Nat.beq i3 0 then some (Out.ret (A.tup []), St.H s3) else none) (fun i3 s3 => none) (fun a3 => some (Out.ret (A.tup []), St.H a3)) (fun i3 s3 => some (Out.pan i3, St.H s3)) n (St.mk [(0, x0), (1, x1), (3, t2)] H) := by kernel_rfl
theorem e46 (C : Nat → List A → Option A) (call : CallT) (rg : CallT → CallT) (n lo : Nat) (x0 : A) (H : Heap) : evCall1 (cx C) call rg n 46 [x0] H lo =
 Option.bind (aNq Try.prog 22 x0) fun t0 => bIfN t0 (some (Out.ret (seedW (500001 - 500000) (St.H (St.mk [(2, A.imm [] true), (4, t0), (3, x0), (2, A.imm [] true), (0, x0)] H)) (look (St.fr (St.mk [(2, A.imm [] true), (4, t0), (3, x0), (2, A.imm [] true), (0, x0)] H)) (Prod.fst (2, 0, 500002)))).1, (seedW (500001 - 500000) (St.H (St.mk [(2, A.imm [] true), (4, t0), (3, x0), (2, A.imm [] true), (0, x0)] H)) (look (St.fr (St.mk [(2, A.imm [] true), (4, t0), (3, x0), (2, A.imm [] true), (0, x0)] H)) (Prod.fst (2, 0, 500002)))).2)) (Option.bind (aBuildSlice Try.prog 22 0 []) fun t1 =>
 Option.bind (aAppend Try.prog 22 22 true t1 x0 H lo) fun r2 => some (Out.ret (seedW (500001 - 500000) (St.H (St.mk [(2, r2.1), (7, r2.1), (6, x0), (5, t1), (4, t0), (3, x0), (2, A.imm [] true), (0, x0)] r2.2)) (look (St.fr (St.mk [(2, r2.1), (7, r2.1), (6, x0), (5, t1), (4, t0), (3, x0), (2, A.imm [] true), (0, x0)] r2.2)) (Prod.fst (2, 0, 500002)))).1, (seedW (500001 - 500000) (St.H (St.mk [(2, r2.1), (7, r2.1), (6, x0), (5, t1), (4, t0), (3, x0), (2, A.imm [] true), (0, x0)] r2.2)) (look (St.fr (St.mk [(2, r2.1), (7, r2.1), (6, x0), (5, t1), (4, t0), (3, x0), (2, A.imm [] true), (0, x0)] r2.2)) (Prod.fst (2, 0, 500002)))).2)) := by kernel_rfl
theorem e47 (C : Nat → List A → Option A) (call : CallT) (rg : CallT → CallT) (n lo : Nat) (x0 x1 : A) (H : Heap) : evCall1 (cx C) call rg n 47 [x0, x1] H lo =
 Option.bind (aConvert Try.prog 73 76 x0 H) fun t0 =>
 Option.bind (aConvert Try.prog 73 76 x1 H) fun t1 =>
 Option.bind (aBin Try.prog BinOp.mul 76 false false t0 t1) fun t2 =>
 Option.bind (aBin Try.prog BinOp.shr 76 false true t2 (A.v (Value.int IntKind.u64 32))) fun t3 =>
 Option.bind (aConvert Try.prog 76 73 t3 H) fun t4 =>
 Option.bind (aConvert Try.prog 76 73 t2 H) fun t5 => some (Out.ret (A.tup [t4, t5]), H) := by kernel_rfl
theorem e48 (C : Nat → List A → Option A) (call : CallT) (rg : CallT → CallT) (n lo : Nat) (x0 x1 : A) (H : Heap) : evCall1 (cx C) call rg n 48 [x0, x1] H lo =
 Option.bind (aBin Try.prog BinOp.and 76 false true x0 (A.v (Value.int IntKind.u64 4294967295))) fun t0 =>
 Option.bind (aBin Try.prog BinOp.shr 76 false true x0 (A.v (Value.int IntKind.u64 32))) fun t1 =>
 Option.bind (aBin Try.prog BinOp.and 76 false true x1 (A.v (Value.int IntKind.u64 4294967295))) fun t2 =>
 Option.bind (aBin Try.prog BinOp.shr 76 false true x1 (A.v (Value.int IntKind.u64 32))) fun t3 =>
 Option.bind (aBin Try.prog BinOp.mul 76 false false t0 t2) fun t4 =>
 Option.bind (aBin Try.prog BinOp.mul 76 false false t1 t2) fun t5 =>
 Option.bind (aBin Try.prog BinOp.shr 76 false true t4 (A.v (Value.int IntKind.u64 32))) fun t6 =>
 Option.bind (aBin Try.prog BinOp.add 76 false false t5 t6) fun t7 =>
 Option.bind (aBin Try.prog BinOp.and 76 false true t7 (A.v (Value.int IntKind.u64 4294967295))) fun t8 =>
 Option.bind (aBin Try.prog BinOp.shr 76 false true t7 (A.v (Value.int IntKind.u64 32))) fun t9 =>
 Option.bind (aBin Try.prog BinOp.mul 76 false false t0 t3) fun t10 =>
 Option.bind (aBin Try.prog BinOp.add 76 false false t8 t10) fun t11 =>
 Option.bind (aBin Try.prog BinOp.mul 76 false false t1 t3) fun t12 =>
 Option.bind (aBin Try.prog BinOp.add 76 false false t12 t9) fun t13 =>
 Option.bind (aBin Try.prog BinOp.shr 76 false true t11 (A.v (Value.int IntKind.u64 32))) fun t14 =>
 Option.bind (aBin Try.prog BinOp.add 76 false false t13 t14) fun t15 =>
 Option.bind (aBin Try.prog BinOp.mul 76 false false x0 x1) fun t16 => some (Out.ret (A.tup [t15, t16]), H) := by kernel_rfl
theorem e7_0 (C : Nat → List A → Option A) (call : CallT) (rg : CallT → CallT) (n lo L : Nat) (kx kg : Nat → St → Option R) (kr : St → Option R) (kp : A → St → Option R) (m : Nat) (x5 x10 x19 x21 x23 : A) (H : Heap) : loopR (cx C) call rg n 7 lo 0 L kx kg kr kp (m + 1) (St.mk [(5, x5), (10, x10), (19, x19), (21, x21), (23, x23)] H) =
 Option.bind (aFieldAddr Try.prog 25 x5 0 H) fun t0 =>
 Option.bind (aLoad Try.prog 22 t0 H) fun t1 =>
 Option.bind (aLen Try.prog 22 t1 H) fun t2 =>
 Option.bind (aBin Try.prog BinOp.lss 3 false false x23 t2) fun t3 => bIfN t3 (Option.bind (aLoad Try.prog 25 x19 H) fun t4 =>
 Option.bind (C 21 [snap H t4, snap H x23]) fun t5 =>
 Option.bind (aExtract t5 0) fun t6 =>
 Option.bind (aExtract t5 1) fun t7 =>
 Option.bind (aLoad Try.prog 25 x21 H) fun t8 =>
 Option.bind (C 21 [snap H t8, snap H x23]) fun t9 =>
 Option.bind (aExtract t9 0) fun t10 =>
 Option.bind (aExtract t9 1) fun t11 =>
 Option.bind (aBin Try.prog BinOp.neq 28 false true t7 (A.v (Value.int IntKind.i64 0))) fun t12 =>
 Option.bind (bIf t12 (some [A.v (Value.bool true), A.v undef, A.v undef]) (Option.bind (aBin Try.prog BinOp.neq 28 false true t11 (A.v (Value.int IntKind.i64 0))) fun t13 => some [t13, t13, t11])) fun l13 => unc l13 fun u14 l14 => unc l14 fun u15 l15 => unc l15 fun u16 l16 =>
 Option.bind (bIf u14 (some [A.v (Value.bool true), A.v undef, A.v undef, A.v undef, A.v undef, A.v undef]) (Option.bind (aConvert Try.prog 35 9 t6 H) fun t17 =>
 Option.bind (aConvert Try.prog 35 9 t10 H) fun t18 =>
 Option.bind (aBin Try.prog BinOp.neq 9 false false t17 t18) fun t19 => some [t19, t19, t18, t10, t17, t6])) fun l17 => unc l17 fun u18 l18 => unc l18 fun u19 l19 => unc l19 fun u20 l20 => unc l20 fun u21 l21 => unc l21 fun u22 l22 => unc l22 fun u23 l23 => bIfN u18 (kr (St.mk [(5, x5), (10, A.v (Value.bool false)), (19, x19), (21, x21), (23, x23)] H)) (Option.bind (aBin Try.prog BinOp.add 3 false true x23 (A.v (Value.int IntKind.i64 1))) fun t24 =>
 Option.bind (trim L H) fun H25 => bif bif Nat.beq (List.length H) L then true else keepsUnder L [(23, t24), (137, t24), (136, x23), (162, u18), (161, u19), (160, u20), (159, u21), (158, u22), (157, u23), (156, u14), (155, u14), (154, u15), (153, u16), (152, t12), (151, t12), (150, t7), (27, t11), (26, t10), (149, t11), (148, t10), (144, t9), (147, t9), (146, x23), (145, t8), (25, t7), (24, t6), (143, t7), (142, t6), (138, t5), (141, t5), (140, x23), (139, t4), (135, t3), (134, t2), (133, t1), (132, t0), (131, x23), (5, x5), (10, x10), (19, x19), (21, x21), (23, x23)] [5, 10, 19, 21, 23] then loopR (cx C) call rg n 7 lo 0 L kx kg kr kp m (St.mk [(5, x5), (10, x10), (19, x19), (21, x21), (23, t24)] H25) else none)) (kx 0 (St.mk [(5, x5), (10, x10), (19, x19), (21, x21), (23, x23)] H)) := by kernel_rfl
theorem e8_0 (C : Nat → List A → Option A) (call : CallT) (rg : CallT → CallT) (n lo L : Nat) (kx kg : Nat → St → Option R) (kr : St → Option R) (kp : A → St → Option R) (m : Nat) (x1 x2 x4 x5 x6 x7 x8 : A) (H : Heap) : loopR (cx C) call rg n 8 lo 0 L kx kg kr kp (m + 1) (St.mk [(1, x1), (2, x2), (4, x4), (5, x5), (6, x6), (7, x7), (8, x8)] H) =
 Option.bind (aLen Try.prog 43 x1 H) fun t0 =>
 Option.bind (aBin Try.prog BinOp.lss 3 false false x8 t0) fun t1 =>
 Option.bind (bIf t1 (Option.bind (aBin Try.prog BinOp.eql 28 false true x7 (A.v (Value.int IntKind.i64 0))) fun t2 => some [t2, t2, x7]) (some [A.v (Value.bool false), A.v undef, A.v undef])) fun l2 => unc l2 fun u3 l3 => unc l3 fun u4 l4 => unc l4 fun u5 l5 => bIfN u3 (Option.bind (aIndexAddr Try.prog 43 x1 x8 H) fun t6 =>
 Option.bind (aFieldAddr Try.prog 46 t6 1 H) fun t7 =>
 Option.bind (aLoad Try.prog 5 t7 H) fun t8 =>
 Option.bind (aConvert Try.prog 5 3 t8 H) fun t9 =>
 Option.bind (aFieldAddr Try.prog 25 x2 0 H) fun t10 =>
 Option.bind (aLoad Try.prog 22 t10 H) fun t11 =>
 Option.bind (aLen Try.prog 22 t11 H) fun t12 =>
 Option.bind (aBin Try.prog BinOp.rem 3 false false t9 t12) fun t13 =>
 Option.bind (aLoad Try.prog 25 x5 H) fun t14 =>
 Option.bind (aIndexAddr Try.prog 43 x1 x8 H) fun t15 =>
 Option.bind (aFieldAddr Try.prog 46 t15 2 H) fun t16 =>
 Option.bind (aLoad Try.prog 5 t16 H) fun t17 =>
 Option.bind (aBuildSlice Try.prog 35 1 [(0, frzA H t17)]) fun t18 =>
 Option.bind (C 19 [snap H t14, snap H t13, snap H t18]) fun t19 =>
 Option.bind (aExtract t19 0) fun t20 =>
 Option.bind (aExtract t19 1) fun t21 => bif bif apart t16 A.any then bif apart t15 A.any then bif apart x1 A.any then bif apart x5 A.any then true else false else false else false else false then
 Option.bind (aAlloc Try.prog 25 H) fun r22 =>
 Option.bind (aStore Try.prog 25 r22.1 (stV r22.1 r22.2 t20) r22.2 lo) fun H23 =>
 Option.bind (aBin Try.prog BinOp.neq 28 false true t21 (A.v (Value.int IntKind.i64 0))) fun t24 => bIfN t24 (kr (St.mk [(1, x1), (2, x2), (4, A.v (Value.bool false)), (5, x5), (6, x6), (7, x7), (8, x8)] H23)) (Option.bind (aLoad Try.prog 25 r22.1 H23) fun t25 =>
 Option.bind (C 23 [snap H23 t25]) fun t26 =>
 Option.bind (aExtract t26 0) fun t27 =>
 Option.bind (aExtract t26 1) fun t28 =>
 Option.bind (aStore Try.prog 25 x5 (stV x5 H23 t27) H23 lo) fun H29 =>
 Option.bind (aBin Try.prog BinOp.add 3 false true x8 (A.v (Value.int IntKind.i64 1))) fun t30 =>
 Option.bind (trim L H29) fun H31 => bif bif Nat.beq (List.length H29) L then true else keepsUnder L [(8, t30), (58, t30), (57, x8), (7, t28), (87, t28), (86, t27), (83, t26), (85, t26), (84, t25), (82, t24), (81, t21), (11, t21), (10, r22.1), (80, t21), (79, t20), (69, t19), (78, t19), (77, t18), (76, t17), (75, t16), (74, t15), (73, x8), (72, x1), (71, t13), (70, t14), (9, t13), (68, t13), (67, t12), (66, t11), (65, t10), (64, t9), (63, t8), (62, t7), (61, t6), (60, x8), (59, x1), (56, u3), (55, u4), (54, u5), (53, t1), (52, t1), (51, t0), (50, x1), (49, x8), (1, x1), (2, x2), (4, x4), (5, x5), (6, x6), (7, x7), (8, x8)] [1, 2, 4, 5, 6, 7, 8] then loopR (cx C) call rg n 8 lo 0 L kx kg kr kp m (St.mk [(1, x1), (2, x2), (4, x4), (5, x5), (6, x6), (7, t28), (8, t30)] H31) else none) else none) (kx 0 (St.mk [(1, x1), (2, x2), (4, x4), (5, x5), (6, x6), (7, x7), (8, x8)] H)) := by kernel_rfl
theorem e8_1 (C : Nat → List A → Option A) (call : CallT) (rg : CallT → CallT) (n lo L : Nat) (kx kg : Nat → St → Option R) (kr : St → Option R) (kp : A → St → Option R) (m : Nat) (x1 x2 x4 x5 x6 x7 x12 : A) (H : Heap) : loopR (cx C) call rg n 8 lo 1 L kx kg kr kp (m + 1) (St.mk [(1, x1), (2, x2), (4, x4), (5, x5), (6, x6), (7, x7), (12, x12)] H) =
 Option.bind (aLen Try.prog 43 x1 H) fun t0 =>
 Option.bind (aBin Try.prog BinOp.lss 3 false false x12 t0) fun t1 => bIfN t1 (Option.bind (aLoad Try.prog 25 x6 H) fun t2 =>
 Option.bind (aIndexAddr Try.prog 43 x1 x12 H) fun t3 =>
 Option.bind (aFieldAddr Try.prog 46 t3 1 H) fun t4 =>
 Option.bind (aLoad Try.prog 5 t4 H) fun t5 =>
 Option.bind (aConvert Try.prog 5 3 t5 H) fun t6 =>
 Option.bind (aFieldAddr Try.prog 25 x2 0 H) fun t7 =>
 Option.bind (aLoad Try.prog 22 t7 H) fun t8 =>
 Option.bind (aLen Try.prog 22 t8 H) fun t9 =>
 Option.bind (aBin Try.prog BinOp.rem 3 false false t6 t9) fun t10 =>
 Option.bind (aIndexAddr Try.prog 43 x1 x12 H) fun t11 =>
 Option.bind (aFieldAddr Try.prog 46 t11 2 H) fun t12 =>
 Option.bind (aLoad Try.prog 5 t12 H) fun t13 =>
 Option.bind (aBuildSlice Try.prog 35 1 [(0, frzA H t13)]) fun t14 =>
 Option.bind (C 19 [snap H t2, snap H t10, snap H t14]) fun t15 =>
 Option.bind (aExtract t15 0) fun t16 =>
 Option.bind (aExtract t15 1) fun t17 => bif bif apart t12 A.any then bif apart t11 A.any then bif apart x1 A.any then bif apart t8 A.any then bif apart t7 A.any then bif apart x2 A.any then bif apart t5 A.any then bif apart t4 A.any then bif apart t3 A.any then bif apart x1 A.any then bif apart x6 A.any then true else false else false else false else false else false else false else false else false else false else false else false then
 Option.bind (aAlloc Try.prog 25 H) fun r18 =>
 Option.bind (aStore Try.prog 25 r18.1 (stV r18.1 r18.2 t16) r18.2 lo) fun H19 =>
 Option.bind (aBin Try.prog BinOp.neq 28 false true t17 (A.v (Value.int IntKind.i64 0))) fun t20 => bIfN t20 (kr (St.mk [(1, x1), (2, x2), (4, A.v (Value.bool false)), (5, x5), (6, x6), (7, x7), (12, x12)] H19)) (Option.bind (aLoad Try.prog 25 r18.1 H19) fun t21 =>
 Option.bind (aStore Try.prog 25 x6 (stV x6 H19 t21) H19 lo) fun H22 =>
 Option.bind (aBin Try.prog BinOp.add 3 false true x12 (A.v (Value.int IntKind.i64 1))) fun t23 =>
 Option.bind (trim L H22) fun H24 => bif bif Nat.beq (List.length H22) L then true else keepsUnder L [(12, t23), (93, t23), (92, x12), (117, t21), (116, t20), (115, t17), (14, t17), (13, r18.1), (114, t17), (113, t16), (94, t15), (112, t15), (111, t14), (110, t13), (109, t12), (108, t11), (107, x12), (106, x1), (105, t10), (104, t9), (103, t8), (102, t7), (101, t6), (100, t5), (99, t4), (98, t3), (97, x12), (96, x1), (95, t2), (91, t1), (90, t0), (89, x1), (88, x12), (1, x1), (2, x2), (4, x4), (5, x5), (6, x6), (7, x7), (12, x12)] [1, 2, 4, 5, 6, 7, 12] then loopR (cx C) call rg n 8 lo 1 L kx kg kr kp m (St.mk [(1, x1), (2, x2), (4, x4), (5, x5), (6, x6), (7, x7), (12, t23)] H24) else none) else none) (kx 2 (St.mk [(1, x1), (2, x2), (4, x4), (5, x5), (6, x6), (7, x7), (12, x12)] H)) := by kernel_rfl
theorem e9_0 (C : Nat → List A → Option A) (call : CallT) (rg : CallT → CallT) (n lo L : Nat) (kx kg : Nat → St → Option R) (kr : St → Option R) (kp : A → St → Option R) (m : Nat) (x1 x2 x3 x4 x8 x9 x11 : A) (H : Heap) : loopR (cx C) call rg n 9 lo 0 L kx kg kr kp (m + 1) (St.mk [(1, x1), (2, x2), (3, x3), (4, x4), (8, x8), (9, x9), (11, x11)] H) =
 Option.bind (aFieldAddr Try.prog 25 x4 0 H) fun t0 =>
 Option.bind (aLoad Try.prog 22 t0 H) fun t1 =>
 Option.bind (aLen Try.prog 22 t1 H) fun t2 =>
 Option.bind (aBin Try.prog BinOp.lss 3 false false x11 t2) fun t3 => bIfN t3 (Option.bind (aFieldAddr Try.prog 25 x9 0 H) fun t4 =>
 Option.bind (aLoad Try.prog 22 t4 H) fun t5 =>
 Option.bind (aIndexAddr Try.prog 22 t5 x11 H) fun t6 =>
 Option.bind (aLoad Try.prog 35 t6 H) fun t7 =>
 Option.bind (aConvert Try.prog 35 9 t7 H) fun t8 =>
 Option.bind (aFieldAddr Try.prog 25 x4 0 H) fun t9 =>
 Option.bind (aLoad Try.prog 22 t9 H) fun t10 =>
 Option.bind (aIndexAddr Try.prog 22 t10 x11 H) fun t11 =>
 Option.bind (aLoad Try.prog 35 t11 H) fun t12 =>
 Option.bind (aConvert Try.prog 35 9 t12 H) fun t13 =>
 Option.bind (aBin Try.prog BinOp.neq 9 false false t8 t13) fun t14 => bIfN t14 (kr (St.mk [(1, x1), (2, x2), (3, x3), (4, x4), (8, A.v (Value.bool false)), (9, x9), (11, x11)] H)) (Option.bind (aBin Try.prog BinOp.add 3 false true x11 (A.v (Value.int IntKind.i64 1))) fun t15 =>
 Option.bind (trim L H) fun H16 => bif bif Nat.beq (List.length H) L then true else keepsUnder L [(11, t15), (68, t15), (67, x11), (81, t14), (80, t13), (79, t12), (78, t11), (77, x11), (76, t10), (75, t9), (74, t8), (73, t7), (72, t6), (71, x11), (70, t5), (69, t4), (66, t3), (65, t2), (64, t1), (63, t0), (62, x11), (1, x1), (2, x2), (3, x3), (4, x4), (8, x8), (9, x9), (11, x11)] [1, 2, 3, 4, 8, 9, 11] then loopR (cx C) call rg n 9 lo 0 L kx kg kr kp m (St.mk [(1, x1), (2, x2), (3, x3), (4, x4), (8, x8), (9, x9), (11, t15)] H16) else none)) (kx 0 (St.mk [(1, x1), (2, x2), (3, x3), (4, x4), (8, x8), (9, x9), (11, x11)] H)) := by kernel_rfl
theorem e11_0 (C : Nat → List A → Option A) (call : CallT) (rg : CallT → CallT) (n lo L : Nat) (kx kg : Nat → St → Option R) (kr : St → Option R) (kp : A → St → Option R) (m : Nat) (x1 x2 x3 x4 : A) (H : Heap) : loopR (cx C) call rg n 11 lo 0 L kx kg kr kp (m + 1) (St.mk [(1, x1), (2, x2), (3, x3), (4, x4)] H) =
 Option.bind (aFieldAddr Try.prog 25 x1 0 H) fun t0 =>
 Option.bind (aLoad Try.prog 22 t0 H) fun t1 =>
 Option.bind (aLen Try.prog 22 t1 H) fun t2 =>
 Option.bind (aBin Try.prog BinOp.lss 3 false false x4 t2) fun t3 =>
 Option.bind (bIf t3 (Option.bind (aBin Try.prog BinOp.leq 3 false true x3 (A.v (Value.int IntKind.i64 9000))) fun t4 => some [t4, t4, x3]) (some [A.v (Value.bool false), A.v undef, A.v undef])) fun l4 => unc l4 fun u5 l5 => unc l5 fun u6 l6 => unc l6 fun u7 l7 => bIfN u5 (Option.bind (aBin Try.prog BinOp.add 3 false true x3 (A.v (Value.int IntKind.i64 1))) fun t8 =>
 Option.bind (aFieldAddr Try.prog 25 x1 0 H) fun t9 =>
 Option.bind (aLoad Try.prog 22 t9 H) fun t10 =>
 Option.bind (aIndexAddr Try.prog 22 t10 x4 H) fun t11 =>
 Option.bind (aLoad Try.prog 35 t11 H) fun t12 =>
 Option.bind (aLen Try.prog 35 t12 H) fun t13 =>
 Option.bind (aBin Try.prog BinOp.add 3 false false t8 t13) fun t14 =>
 Option.bind (aBin Try.prog BinOp.add 3 false true x4 (A.v (Value.int IntKind.i64 1))) fun t15 =>
 Option.bind (trim L H) fun H16 => bif bif Nat.beq (List.length H) L then true else keepsUnder L [(4, t15), (16, t15), (15, x4), (3, t14), (25, t14), (24, t13), (23, t12), (22, t11), (21, x4), (20, t10), (19, t9), (18, t8), (17, x3), (14, u5), (13, u6), (12, u7), (11, t3), (10, t3), (9, t2), (8, t1), (7, t0), (6, x4), (1, x1), (2, x2), (3, x3), (4, x4)] [1, 2, 3, 4] then loopR (cx C) call rg n 11 lo 0 L kx kg kr kp m (St.mk [(1, x1), (2, x2), (3, t14), (4, t15)] H16) else none) (kx 0 (St.mk [(1, x1), (2, x2), (3, x3), (4, x4)] H)) := by kernel_rfl
theorem e11_1 (C : Nat → List A → Option A) (call : CallT) (rg : CallT → CallT) (n lo L : Nat) (kx kg : Nat → St → Option R) (kr : St → Option R) (kp : A → St → Option R) (m : Nat) (x1 x2 x3 x5 : A) (H : Heap) : loopR (cx C) call rg n 11 lo 1 L kx kg kr kp (m + 1) (St.mk [(1, x1), (2, x2), (3, x3), (5, x5)] H) =
 Option.bind (aFieldAddr Try.prog 25 x1 1 H) fun t0 =>
 Option.bind (aLoad Try.prog 23 t0 H) fun t1 =>
 Option.bind (aLen Try.prog 23 t1 H) fun t2 =>
 Option.bind (aBin Try.prog BinOp.lss 3 false false x5 t2) fun t3 =>
 Option.bind (bIf t3 (Option.bind (aBin Try.prog BinOp.leq 3 false true x3 (A.v (Value.int IntKind.i64 9000))) fun t4 => some [t4, t4, x3]) (some [A.v (Value.bool false), A.v undef, A.v undef])) fun l4 => unc l4 fun u5 l5 => unc l5 fun u6 l6 => unc l6 fun u7 l7 => bIfN u5 (Option.bind (aBin Try.prog BinOp.add 3 false true x3 (A.v (Value.int IntKind.i64 1))) fun t8 =>
 Option.bind (aFieldAddr Try.prog 25 x1 1 H) fun t9 =>
 Option.bind (aLoad Try.prog 23 t9 H) fun t10 =>
 Option.bind (aIndexAddr Try.prog 23 t10 x5 H) fun t11 =>
 Option.bind (aFieldAddr Try.prog 54 t11 1 H) fun t12 =>
 Option.bind (aLoad Try.prog 35 t12 H) fun t13 =>
 Option.bind (aLen Try.prog 35 t13 H) fun t14 =>
 Option.bind (aBin Try.prog BinOp.add 3 false false t8 t14) fun t15 =>
 Option.bind (aBin Try.prog BinOp.add 3 false true x5 (A.v (Value.int IntKind.i64 1))) fun t16 =>
 Option.bind (trim L H) fun H17 => bif bif Nat.beq (List.length H) L then true else keepsUnder L [(5, t16), (36, t16), (35, x5), (3, t15), (46, t15), (45, t14), (44, t13), (43, t12), (42, t11), (41, x5), (40, t10), (39, t9), (38, t8), (37, x3), (34, u5), (33, u6), (32, u7), (31, t3), (30, t3), (29, t2), (28, t1), (27, t0), (26, x5), (1, x1), (2, x2), (3, x3), (5, x5)] [1, 2, 3, 5] then loopR (cx C) call rg n 11 lo 1 L kx kg kr kp m (St.mk [(1, x1), (2, x2), (3, t15), (5, t16)] H17) else none) (kx 2 (St.mk [(1, x1), (2, x2), (3, x3), (5, x5)] H)) := by kernel_rfl
theorem e13_0 (C : Nat → List A → Option A) (call : CallT) (rg : CallT → CallT) (n lo L : Nat) (kx kg : Nat → St → Option R) (kr : St → Option R) (kp : A → St → Option R) (m : Nat) (x0 x2 x3 x4 x5 : A) (H : Heap) : loopR (cx C) call rg n 13 lo 0 L kx kg kr kp (m + 1) (St.mk [(0, x0), (2, x2), (3, x3), (4, x4), (5, x5)] H) =
 Option.bind (aBin Try.prog BinOp.lss 3 false false x5 x0) fun t0 => bIfN t0 (Option.bind (aFieldAddr Try.prog 25 x4 0 H) fun t1 =>
 Option.bind (aLoad Try.prog 22 t1 H) fun t2 => bif bif apart t1 A.any then bif apart x4 A.any then true else false else false then
 Option.bind (aMakeImm Try.prog 35 (A.v (Value.int IntKind.i64 128)) (A.v (Value.int IntKind.i64 128)) H) fun r3 =>
 Option.bind (aBuildSlice Try.prog 22 1 [(0, frzA r3.2 r3.1)]) fun t4 =>
 Option.bind (aAppend Try.prog 22 22 false t2 t4 r3.2 lo) fun r5 =>
 Option.bind (aFieldAddr Try.prog 25 x4 0 r5.2) fun t6 =>
 Option.bind (aStore Try.prog 22 t6 (stV t6 r5.2 r5.1) r5.2 lo) fun H7 =>
 Option.bind (aBin Try.prog BinOp.add 3 false true x5 (A.v (Value.int IntKind.i64 1))) fun t8 =>
 Option.bind (trim L H7) fun H9 => bif bif Nat.beq (List.length H7) L then true else keepsUnder L [(5, t8), (18, t8), (17, x5), (24, t6), (23, r5.1), (22, t4), (21, r3.1), (20, t2), (19, t1), (16, t0), (15, x0), (14, x5), (0, x0), (2, x2), (3, x3), (4, x4), (5, x5)] [0, 2, 3, 4, 5] then loopR (cx C) call rg n 13 lo 0 L kx kg kr kp m (St.mk [(0, x0), (2, x2), (3, x3), (4, x4), (5, t8)] H9) else none else none) (kx 0 (St.mk [(0, x0), (2, x2), (3, x3), (4, x4), (5, x5)] H)) := by kernel_rfl
theorem e14_0 (C : Nat → List A → Option A) (call : CallT) (rg : CallT → CallT) (n lo L : Nat) (kx kg : Nat → St → Option R) (kr : St → Option R) (kp : A → St → Option R) (m : Nat) (x2 x3 x4 x5 : A) (H : Heap) : loopR (cx C) call rg n 14 lo 0 L kx kg kr kp (m + 1) (St.mk [(2, x2), (3, x3), (4, x4), (5, x5)] H) =
 Option.bind (aFieldAddr Try.prog 25 x2 0 H) fun t0 =>
 Option.bind (aLoad Try.prog 22 t0 H) fun t1 =>
 Option.bind (aLen Try.prog 22 t1 H) fun t2 =>
 Option.bind (aBin Try.prog BinOp.lss 3 false false x5 t2) fun t3 => bIfN t3 (Option.bind (aFieldAddr Try.prog 25 x2 0 H) fun t4 =>
 Option.bind (aLoad Try.prog 22 t4 H) fun t5 =>
 Option.bind (aIndexAddr Try.prog 22 t5 x5 H) fun t6 =>
 Option.bind (aLoad Try.prog 35 t6 H) fun t7 =>
 Option.bind (aConvert Try.prog 35 9 t7 H) fun t8 =>
 Option.bind (aFieldAddr Try.prog 25 x3 0 H) fun t9 =>
 Option.bind (aLoad Try.prog 22 t9 H) fun t10 =>
 Option.bind (aIndexAddr Try.prog 22 t10 x5 H) fun t11 =>
 Option.bind (aLoad Try.prog 35 t11 H) fun t12 =>
 Option.bind (aConvert Try.prog 35 9 t12 H) fun t13 =>
 Option.bind (aBin Try.prog BinOp.neq 9 false false t8 t13) fun t14 => bIfN t14 (kr (St.mk [(2, x2), (3, x3), (4, A.v (Value.bool false)), (5, x5)] H)) (Option.bind (aBin Try.prog BinOp.add 3 false true x5 (A.v (Value.int IntKind.i64 1))) fun t15 =>
 Option.bind (trim L H) fun H16 => bif bif Nat.beq (List.length H) L then true else keepsUnder L [(5, t15), (43, t15), (42, x5), (56, t14), (55, t13), (54, t12), (53, t11), (52, x5), (51, t10), (50, t9), (49, t8), (48, t7), (47, t6), (46, x5), (45, t5), (44, t4), (41, t3), (40, t2), (39, t1), (38, t0), (37, x5), (2, x2), (3, x3), (4, x4), (5, x5)] [2, 3, 4, 5] then loopR (cx C) call rg n 14 lo 0 L kx kg kr kp m (St.mk [(2, x2), (3, x3), (4, x4), (5, t15)] H16) else none)) (kx 0 (St.mk [(2, x2), (3, x3), (4, x4), (5, x5)] H)) := by kernel_rfl
theorem e14_1 (C : Nat → List A → Option A) (call : CallT) (rg : CallT → CallT) (n lo L : Nat) (kx kg : Nat → St → Option R) (kr : St → Option R) (kp : A → St → Option R) (m : Nat) (x2 x3 x4 x6 : A) (H : Heap) : loopR (cx C) call rg n 14 lo 1 L kx kg kr kp (m + 1) (St.mk [(2, x2), (3, x3), (4, x4), (6, x6)] H) =
 Option.bind (aFieldAddr Try.prog 25 x2 1 H) fun t0 =>
 Option.bind (aLoad Try.prog 23 t0 H) fun t1 =>
 Option.bind (aLen Try.prog 23 t1 H) fun t2 =>
 Option.bind (aBin Try.prog BinOp.lss 3 false false x6 t2) fun t3 => bIfN t3 (Option.bind (aFieldAddr Try.prog 25 x2 1 H) fun t4 =>
 Option.bind (aLoad Try.prog 23 t4 H) fun t5 =>
 Option.bind (aIndexAddr Try.prog 23 t5 x6 H) fun t6 =>
 Option.bind (aFieldAddr Try.prog 54 t6 0 H) fun t7 =>
 Option.bind (aLoad Try.prog 3 t7 H) fun t8 =>
 Option.bind (aFieldAddr Try.prog 25 x3 1 H) fun t9 =>
 Option.bind (aLoad Try.prog 23 t9 H) fun t10 =>
 Option.bind (aIndexAddr Try.prog 23 t10 x6 H) fun t11 =>
 Option.bind (aFieldAddr Try.prog 54 t11 0 H) fun t12 =>
 Option.bind (aLoad Try.prog 3 t12 H) fun t13 =>
 Option.bind (aBin Try.prog BinOp.neq 3 false false t8 t13) fun t14 =>
 Option.bind (gIf t14 false (Option.bind (aFieldAddr Try.prog 25 x2 1 H) fun t15 =>
 Option.bind (aLoad Try.prog 23 t15 H) fun t16 =>
 Option.bind (aIndexAddr Try.prog 23 t16 x6 H) fun t17 =>
 Option.bind (aFieldAddr Try.prog 54 t17 1 H) fun t18 =>
 Option.bind (aLoad Try.prog 35 t18 H) fun t19 =>
 Option.bind (aConvert Try.prog 35 9 t19 H) fun t20 =>
 Option.bind (aFieldAddr Try.prog 25 x3 1 H) fun t21 =>
 Option.bind (aLoad Try.prog 23 t21 H) fun t22 =>
 Option.bind (aIndexAddr Try.prog 23 t22 x6 H) fun t23 =>
 Option.bind (aFieldAddr Try.prog 54 t23 1 H) fun t24 =>
 Option.bind (aLoad Try.prog 35 t24 H) fun t25 =>
 Option.bind (aConvert Try.prog 35 9 t25 H) fun t26 => some [t26, t25, t24, t23, x6, t22, t21, t20, t19, t18, t17, x6, t16, t15]) (some [A.v undef, A.v undef, A.v undef, A.v undef, A.v undef, A.v undef, A.v undef, A.v undef, A.v undef, A.v undef, A.v undef, A.v undef, A.v undef, A.v undef])) fun l15 => unc l15 fun u16 l16 => unc l16 fun u17 l17 => unc l17 fun u18 l18 => unc l18 fun u19 l19 => unc l19 fun u20 l20 => unc l20 fun u21 l21 => unc l21 fun u22 l22 => unc l22 fun u23 l23 => unc l23 fun u24 l24 => unc l24 fun u25 l25 => unc l25 fun u26 l26 => unc l26 fun u27 l27 => unc l27 fun u28 l28 => unc l28 fun u29 l29 =>
 Option.bind (bIf t14 (some [A.v (Value.bool true), A.v undef]) (Option.bind (aBin Try.prog BinOp.neq 9 false false u23 u16) fun t30 => some [t30, t30])) fun l30 => unc l30 fun u31 l31 => unc l31 fun u32 l32 => bIfN u31 (kr (St.mk [(2, x2), (3, x3), (4, A.v (Value.bool false)), (6, x6)] H)) (Option.bind (aBin Try.prog BinOp.add 3 false true x6 (A.v (Value.int IntKind.i64 1))) fun t33 =>
 Option.bind (trim L H) fun H34 => bif bif Nat.beq (List.length H) L then true else keepsUnder L [(6, t33), (63, t33), (62, x6), (93, u31), (92, u32), (91, u16), (90, u17), (89, u18), (88, u19), (87, u20), (86, u21), (85, u22), (84, u23), (83, u24), (82, u25), (81, u26), (80, u27), (79, u28), (78, u29), (77, t14), (76, t14), (75, t13), (74, t12), (73, t11), (72, x6), (71, t10), (70, t9), (69, t8), (68, t7), (67, t6), (66, x6), (65, t5), (64, t4), (61, t3), (60, t2), (59, t1), (58, t0), (57, x6), (2, x2), (3, x3), (4, x4), (6, x6)] [2, 3, 4, 6] then loopR (cx C) call rg n 14 lo 1 L kx kg kr kp m (St.mk [(2, x2), (3, x3), (4, x4), (6, t33)] H34) else none)) (kx 2 (St.mk [(2, x2), (3, x3), (4, x4), (6, x6)] H)) := by kernel_rfl
theorem e16_0 (C : Nat → List A → Option A) (call : CallT) (rg : CallT → CallT) (n lo L : Nat) (kx kg : Nat → St → Option R) (kr : St → Option R) (kp : A → St → Option R) (m : Nat) (x1 x2 x3 x4 : A) (H : Heap) : loopR (cx C) call rg n 16 lo 0 L kx kg kr kp (m + 1) (St.mk [(1, x1), (2, x2), (3, x3), (4, x4)] H) =
 Option.bind (aBin Try.prog BinOp.lss 3 false false x4 x3) fun t0 => bIfN t0 (Option.bind (aFieldAddr Try.prog 25 x1 0 H) fun t1 =>
 Option.bind (aLoad Try.prog 22 t1 H) fun t2 =>
 Option.bind (aIndexAddr Try.prog 22 t2 x4 H) fun t3 =>
 Option.bind (aLoad Try.prog 35 t3 H) fun t4 =>
 Option.bind (aLen Try.prog 35 t4 H) fun t5 =>
 Option.bind (aBin Try.prog BinOp.neq 3 false true t5 (A.v (Value.int IntKind.i64 128))) fun t6 => bIfN t6 (kr (St.mk [(1, x1), (2, A.v (Value.int IntKind.i64 40)), (3, x3), (4, x4)] H)) (Option.bind (aBin Try.prog BinOp.add 3 false true x4 (A.v (Value.int IntKind.i64 1))) fun t7 =>
 Option.bind (trim L H) fun H8 => bif bif Nat.beq (List.length H) L then true else keepsUnder L [(4, t7), (36, t7), (35, x4), (43, t6), (42, t5), (41, t4), (40, t3), (39, x4), (38, t2), (37, t1), (34, t0), (33, x3), (32, x4), (1, x1), (2, x2), (3, x3), (4, x4)] [1, 2, 3, 4] then loopR (cx C) call rg n 16 lo 0 L kx kg kr kp m (St.mk [(1, x1), (2, x2), (3, x3), (4, t7)] H8) else none)) (kx 0 (St.mk [(1, x1), (2, x2), (3, x3), (4, x4)] H)) := by kernel_rfl
theorem e16_1 (C : Nat → List A → Option A) (call : CallT) (rg : CallT → CallT) (n lo L : Nat) (kx kg : Nat → St → Option R) (kr : St → Option R) (kp : A → St → Option R) (m : Nat) (x1 x2 x3 x5 : A) (H : Heap) : loopR (cx C) call rg n 16 lo 1 L kx kg kr kp (m + 1) (St.mk [(1, x1), (2, x2), (3, x3), (5, x5)] H) =
 Option.bind (aFieldAddr Try.prog 25 x1 1 H) fun t0 =>
 Option.bind (aLoad Try.prog 23 t0 H) fun t1 =>
 Option.bind (aLen Try.prog 23 t1 H) fun t2 =>
 Option.bind (aBin Try.prog BinOp.lss 3 false false x5 t2) fun t3 => bIfN t3 (Option.bind (aFieldAddr Try.prog 25 x1 1 H) fun t4 =>
 Option.bind (aLoad Try.prog 23 t4 H) fun t5 =>
 Option.bind (aIndexAddr Try.prog 23 t5 x5 H) fun t6 =>
 Option.bind (aLoad Try.prog 54 t6 H) fun t7 =>
 Option.bind (aAlloc Try.prog 54 H) fun r8 =>
 Option.bind (aStore Try.prog 54 r8.1 (stV r8.1 r8.2 t7) r8.2 lo) fun H9 =>
 Option.bind (aFieldAddr Try.prog 54 r8.1 0 H9) fun t10 =>
 Option.bind (aLoad Try.prog 3 t10 H9) fun t11 =>
 Option.bind (aBin Try.prog BinOp.lss 3 false true t11 (A.v (Value.int IntKind.i64 0))) fun t12 =>
 Option.bind (bIf t12 (some [A.v (Value.bool true), A.v undef, A.v undef, A.v undef, A.v undef]) (Option.bind (aFieldAddr Try.prog 54 r8.1 0 H9) fun t13 =>
 Option.bind (aLoad Try.prog 3 t13 H9) fun t14 =>
 Option.bind (aBin Try.prog BinOp.geq 3 false false t14 x3) fun t15 => some [t15, t15, x3, t14, t13])) fun l13 => unc l13 fun u14 l14 => unc l14 fun u15 l15 => unc l15 fun u16 l16 => unc l16 fun u17 l17 => unc l17 fun u18 l18 =>
 Option.bind (bIf u14 (some [A.v (Value.bool true), A.v undef, A.v undef, A.v undef, A.v undef]) (Option.bind (aFieldAddr Try.prog 54 r8.1 1 H9) fun t19 =>
 Option.bind (aLoad Try.prog 35 t19 H9) fun t20 =>
 Option.bind (aLen Try.prog 35 t20 H9) fun t21 =>
 Option.bind (aBin Try.prog BinOp.neq 3 false true t21 (A.v (Value.int IntKind.i64 128))) fun t22 => some [t22, t22, t21, t20, t19])) fun l19 => unc l19 fun u20 l20 => unc l20 fun u21 l21 => unc l21 fun u22 l22 => unc l22 fun u23 l23 => unc l23 fun u24 l24 => bIfN u20 (kr (St.mk [(1, x1), (2, A.v (Value.int IntKind.i64 40)), (3, x3), (5, x5)] H9)) (Option.bind (aBin Try.prog BinOp.add 3 false true x5 (A.v (Value.int IntKind.i64 1))) fun t25 =>
 Option.bind (trim L H9) fun H26 => bif bif Nat.beq (List.length H9) L then true else keepsUnder L [(5, t25), (50, t25), (49, x5), (70, u20), (69, u21), (68, u22), (67, u23), (66, u24), (65, u14), (64, u14), (63, u15), (62, u16), (61, u17), (60, u18), (59, t12), (58, t12), (57, t11), (56, t10), (6, r8.1), (55, t7), (54, t6), (53, x5), (52, t5), (51, t4), (48, t3), (47, t2), (46, t1), (45, t0), (44, x5), (1, x1), (2, x2), (3, x3), (5, x5)] [1, 2, 3, 5] then loopR (cx C) call rg n 16 lo 1 L kx kg kr kp m (St.mk [(1, x1), (2, x2), (3, x3), (5, t25)] H26) else none)) (kx 2 (St.mk [(1, x1), (2, x2), (3, x3), (5, x5)] H)) := by kernel_rfl
theorem e20_0 (C : Nat → List A → Option A) (call : CallT) (rg : CallT → CallT) (n lo L : Nat) (kx kg : Nat → St → Option R) (kr : St → Option R) (kp : A → St → Option R) (m : Nat) (x1 x3 x6 x7 x8 : A) (H : Heap) : loopR (cx C) call rg n 20 lo 0 L kx kg kr kp (m + 1) (St.mk [(1, x1), (3, x3), (6, x6), (7, x7), (8, x8)] H) =
 Option.bind (aLen Try.prog 35 x8 H) fun t0 =>
 Option.bind (aBin Try.prog BinOp.lss 3 false true t0 (A.v (Value.int IntKind.i64 128))) fun t1 => bIfN t1 (Option.bind (aBuildSlice Try.prog 35 1 [(0, frzA H (A.v (Value.int IntKind.u8 0)))]) fun t2 =>
 Option.bind (aAppend Try.prog 35 35 false x8 t2 H lo) fun r3 =>
 Option.bind (trim L r3.2) fun H4 => bif bif Nat.beq (List.length r3.2) L then true else keepsUnder L [(8, r3.1), (45, r3.1), (44, t2), (43, x8), (42, t1), (41, t0), (40, x8), (1, x1), (3, x3), (6, x6), (7, x7), (8, x8)] [1, 3, 6, 7, 8] then loopR (cx C) call rg n 20 lo 0 L kx kg kr kp m (St.mk [(1, x1), (3, x3), (6, x6), (7, x7), (8, r3.1)] H4) else none) (kx 0 (St.mk [(1, x1), (3, x3), (6, x6), (7, x7), (8, x8)] H)) := by kernel_rfl
theorem e22_0 (C : Nat → List A → Option A) (call : CallT) (rg : CallT → CallT) (n lo L : Nat) (kx kg : Nat → St → Option R) (kr : St → Option R) (kp : A → St → Option R) (m : Nat) (x1 x2 x4 x5 x6 x7 : A) (H : Heap) : loopR (cx C) call rg n 22 lo 0 L kx kg kr kp (m + 1) (St.mk [(1, x1), (2, x2), (4, x4), (5, x5), (6, x6), (7, x7)] H) =
 Option.bind (aFieldAddr Try.prog 25 x2 1 H) fun t0 =>
 Option.bind (aLoad Try.prog 23 t0 H) fun t1 =>
 Option.bind (aLen Try.prog 23 t1 H) fun t2 =>
 Option.bind (aBin Try.prog BinOp.lss 3 false false x7 t2) fun t3 => bIfN t3 (Option.bind (aFieldAddr Try.prog 25 x2 1 H) fun t4 =>
 Option.bind (aLoad Try.prog 23 t4 H) fun t5 =>
 Option.bind (aIndexAddr Try.prog 23 t5 x7 H) fun t6 =>
 Option.bind (aFieldAddr Try.prog 54 t6 0 H) fun t7 =>
 Option.bind (aLoad Try.prog 3 t7 H) fun t8 =>
 Option.bind (aBin Try.prog BinOp.eql 3 false false t8 x1) fun t9 => bIfN t9 (Option.bind (aFieldAddr Try.prog 25 x2 1 H) fun t10 =>
 Option.bind (aLoad Try.prog 23 t10 H) fun t11 =>
 Option.bind (aIndexAddr Try.prog 23 t11 x7 H) fun t12 =>
 Option.bind (aFieldAddr Try.prog 54 t12 1 H) fun t13 =>
 Option.bind (aLoad Try.prog 35 t13 H) fun t14 =>
 Option.bind (aBin Try.prog BinOp.add 3 false true x7 (A.v (Value.int IntKind.i64 1))) fun t15 =>
 Option.bind (trim L H) fun H16 => bif bif Nat.beq (List.length H) L then true else keepsUnder L [(7, t15), (37, t15), (36, x7), (6, t14), (51, t14), (50, t13), (49, t12), (48, x7), (47, t11), (46, t10), (45, t9), (44, x1), (43, t8), (42, t7), (41, t6), (40, x7), (39, t5), (38, t4), (35, t3), (34, t2), (33, t1), (32, t0), (31, x7), (1, x1), (2, x2), (4, x4), (5, x5), (6, x6), (7, x7)] [1, 2, 4, 5, 6, 7] then loopR (cx C) call rg n 22 lo 0 L kx kg kr kp m (St.mk [(1, x1), (2, x2), (4, x4), (5, x5), (6, t14), (7, t15)] H16) else none) (Option.bind (aBin Try.prog BinOp.add 3 false true x7 (A.v (Value.int IntKind.i64 1))) fun t10 =>
 Option.bind (trim L H) fun H11 => bif bif Nat.beq (List.length H) L then true else keepsUnder L [(7, t10), (37, t10), (36, x7), (45, t9), (44, x1), (43, t8), (42, t7), (41, t6), (40, x7), (39, t5), (38, t4), (35, t3), (34, t2), (33, t1), (32, t0), (31, x7), (1, x1), (2, x2), (4, x4), (5, x5), (6, x6), (7, x7)] [1, 2, 4, 5, 6, 7] then loopR (cx C) call rg n 22 lo 0 L kx kg kr kp m (St.mk [(1, x1), (2, x2), (4, x4), (5, x5), (6, x6), (7, t10)] H11) else none)) (kx 0 (St.mk [(1, x1), (2, x2), (4, x4), (5, x5), (6, x6), (7, x7)] H)) := by kernel_rfl
theorem e24_0 (C : Nat → List A → Option A) (call : CallT) (rg : CallT → CallT) (n lo L : Nat) (kx kg : Nat → St → Option R) (kr : St → Option R) (kp : A → St → Option R) (m : Nat) (x1 x2 x3 x4 x5 x6 x7 : A) (H : Heap) : loopR (cx C) call rg n 24 lo 0 L kx kg kr kp (m + 1) (St.mk [(1, x1), (2, x2), (3, x3), (4, x4), (5, x5), (6, x6), (7, x7)] H) =
 Option.bind (aBin Try.prog BinOp.lss 3 false false x7 x4) fun t0 => bIfN t0 (Option.bind (aFieldAddr Try.prog 25 x6 0 H) fun t1 =>
 Option.bind (aLoad Try.prog 22 t1 H) fun t2 =>
 Option.bind (aFieldAddr Try.prog 25 x1 1 H) fun t3 =>
 Option.bind (aLoad Try.prog 23 t3 H) fun t4 =>
 Option.bind (aIndexAddr Try.prog 23 t4 x7 H) fun t5 =>
 Option.bind (aFieldAddr Try.prog 54 t5 0 H) fun t6 =>
 Option.bind (aLoad Try.prog 3 t6 H) fun t7 =>
 Option.bind (aFieldAddr Try.prog 25 x1 1 H) fun t8 =>
 Option.bind (aLoad Try.prog 23 t8 H) fun t9 =>
 Option.bind (aIndexAddr Try.prog 23 t9 x7 H) fun t10 =>
 Option.bind (aFieldAddr Try.prog 54 t10 1 H) fun t11 =>
 Option.bind (aLoad Try.prog 35 t11 H) fun t12 =>
 Option.bind (aIndexAddr Try.prog 22 t2 t7 H) fun t13 =>
 Option.bind (aStore Try.prog 35 t13 (stV t13 H t12) H lo) fun H14 =>
 Option.bind (aBin Try.prog BinOp.add 3 false true x7 (A.v (Value.int IntKind.i64 1))) fun t15 =>
 Option.bind (trim L H14) fun H16 => bif bif Nat.beq (List.length H14) L then true else keepsUnder L [(7, t15), (43, t15), (42, x7), (58, t13), (57, t12), (56, t11), (55, t10), (54, x7), (53, t9), (52, t8), (51, t7), (50, t6), (49, t5), (48, x7), (47, t4), (46, t3), (45, t2), (44, t1), (41, t0), (40, x4), (39, x7), (1, x1), (2, x2), (3, x3), (4, x4), (5, x5), (6, x6), (7, x7)] [1, 2, 3, 4, 5, 6, 7] then loopR (cx C) call rg n 24 lo 0 L kx kg kr kp m (St.mk [(1, x1), (2, x2), (3, x3), (4, x4), (5, x5), (6, x6), (7, t15)] H16) else none) (kx 0 (St.mk [(1, x1), (2, x2), (3, x3), (4, x4), (5, x5), (6, x6), (7, x7)] H)) := by kernel_rfl
theorem e29_0 (C : Nat → List A → Option A) (call : CallT) (rg : CallT → CallT) (n lo L : Nat) (kx kg : Nat → St → Option R) (kr : St → Option R) (kp : A → St → Option R) (m : Nat) (x4 x7 x8 : A) (H : Heap) : loopR (cx C) call rg n 29 lo 0 L kx kg kr kp (m + 1) (St.mk [(4, x4), (7, x7), (8, x8)] H) =
 Option.bind (aLen Try.prog 22 x7 H) fun t0 =>
 Option.bind (aBin Try.prog BinOp.lss 3 false false x8 t0) fun t1 => bIfN t1 (Option.bind (aSlice Try.prog 22 x7 (some x8) none none H) fun t2 =>
 Option.bind (aSlice Try.prog 22 x7 none (some x8) none H) fun t3 =>
 Option.bind (aCopy Try.prog 22 t2 t3 H lo) fun r4 =>
 Option.bind (aBin Try.prog BinOp.add 3 false false x8 r4.1) fun t5 =>
 Option.bind (trim L r4.2) fun H6 => bif bif Nat.beq (List.length r4.2) L then true else keepsUnder L [(8, t5), (46, t5), (45, r4.1), (44, t3), (43, x8), (42, x7), (41, t2), (40, x8), (39, x7), (38, x8), (37, t1), (36, t0), (35, x7), (34, x8), (4, x4), (7, x7), (8, x8)] [4, 7, 8] then loopR (cx C) call rg n 29 lo 0 L kx kg kr kp m (St.mk [(4, x4), (7, x7), (8, t5)] H6) else none) (kx 0 (St.mk [(4, x4), (7, x7), (8, x8)] H)) := by kernel_rfl
theorem e40_0 (C : Nat → List A → Option A) (call : CallT) (rg : CallT → CallT) (n lo L : Nat) (kx kg : Nat → St → Option R) (kr : St → Option R) (kp : A → St → Option R) (m : Nat) (x4 x5 x10 x11 x12 : A) (H : Heap) : loopR (cx C) call rg n 40 lo 0 L kx kg kr kp (m + 1) (St.mk [(4, x4), (5, x5), (10, x10), (11, x11), (12, x12)] H) =
 Option.bind (aBin Try.prog BinOp.lss 3 false false x12 x11) fun t0 => bIfN t0 (Option.bind (aIndexAddr Try.prog 23 x10 x12 H) fun t1 =>
 Option.bind (aLoad Try.prog 54 t1 H) fun t2 =>
 Option.bind (aAlloc Try.prog 54 H) fun r3 =>
 Option.bind (aStore Try.prog 54 r3.1 (stV r3.1 r3.2 t2) r3.2 lo) fun H4 =>
 Option.bind (aFieldAddr Try.prog 54 r3.1 0 H4) fun t5 =>
 Option.bind (aLoad Try.prog 3 t5 H4) fun t6 =>
 Option.bind (aFieldAddr Try.prog 54 r3.1 1 H4) fun t7 =>
 Option.bind (aLoad Try.prog 35 t7 H4) fun t8 =>
 Option.bind (aIndexAddr Try.prog 22 x5 t6 H4) fun t9 =>
 Option.bind (aStore Try.prog 35 t9 (stV t9 H4 t8) H4 lo) fun H10 =>
 Option.bind (aBin Try.prog BinOp.add 3 false true x12 (A.v (Value.int IntKind.i64 1))) fun t11 =>
 Option.bind (trim L H10) fun H12 => bif bif Nat.beq (List.length H10) L then true else keepsUnder L [(12, t11), (22, t11), (21, t9), (20, t8), (19, t7), (18, t6), (17, t5), (16, x5), (7, r3.1), (15, t2), (14, t1), (13, t0), (4, x4), (5, x5), (10, x10), (11, x11), (12, x12)] [4, 5, 10, 11, 12] then loopR (cx C) call rg n 40 lo 0 L kx kg kr kp m (St.mk [(4, x4), (5, x5), (10, x10), (11, x11), (12, t11)] H12) else none) (kx 0 (St.mk [(4, x4), (5, x5), (10, x10), (11, x11), (12, x12)] H)) := by kernel_rfl
theorem e43_0 (C : Nat → List A → Option A) (call : CallT) (rg : CallT → CallT) (n lo L : Nat) (kx kg : Nat → St → Option R) (kr : St → Option R) (kp : A → St → Option R) (m : Nat) (x0 x1 x4 x7 x8 : A) (H : Heap) : loopR (cx C) call rg n 43 lo 0 L kx kg kr kp (m + 1) (St.mk [(0, x0), (1, x1), (4, x4), (7, x7), (8, x8)] H) =
 Option.bind (aBin Try.prog BinOp.lss 3 false false x8 x7) fun t0 => bIfN t0 (Option.bind (aIndexAddr Try.prog 23 x0 x8 H) fun t1 =>
 Option.bind (aLoad Try.prog 54 t1 H) fun t2 => dynCall (cx C) call x1 [t2] H lo (fun i3 h3 => bIfN i3 (kr (St.mk [(0, x0), (1, x1), (4, x8), (7, x7), (8, x8)] h3)) (Option.bind (aBin Try.prog BinOp.add 3 false true x8 (A.v (Value.int IntKind.i64 1))) fun t4 =>
 Option.bind (trim L h3) fun H5 => bif bif Nat.beq (List.length h3) L then true else keepsUnder L [(8, t4), (18, t4), (16, i3), (15, t2), (14, t1), (13, x8), (12, x0), (11, x1), (5, x8), (10, x8), (9, t0), (0, x0), (1, x1), (4, x4), (7, x7), (8, x8)] [0, 1, 4, 7, 8] then loopR (cx C) call rg n 43 lo 0 L kx kg kr kp m (St.mk [(0, x0), (1, x1), (4, x4), (7, x7), (8, t4)] H5) else none)) fun i3 h3 => kp i3 (St.mk [(0, x0), (1, x1), (4, x4), (7, x7), (8, x8)] h3)) (kx 0 (St.mk [(0, x0), (1, x1), (4, x4), (7, x7), (8, x8)] H)) := by kernel_rfl
theorem e44_0 (C : Nat → List A → Option A) (call : CallT) (rg : CallT → CallT) (n lo L : Nat) (kx kg : Nat → St → Option R) (kr : St → Option R) (kp : A → St → Option R) (m : Nat) (x0 x1 x4 x7 x8 : A) (H : Heap) : loopR (cx C) call rg n 44 lo 0 L kx kg kr kp (m + 1) (St.mk [(0, x0), (1, x1), (4, x4), (7, x7), (8, x8)] H) =
 Option.bind (aBin Try.prog BinOp.lss 3 false false x8 x7) fun t0 => bIfN t0 (Option.bind (aIndexAddr Try.prog 22 x0 x8 H) fun t1 =>
 Option.bind (aLoad Try.prog 35 t1 H) fun t2 => dynCall (cx C) call x1 [t2] H lo (fun i3 h3 => bIfN i3 (kr (St.mk [(0, x0), (1, x1), (4, x8), (7, x7), (8, x8)] h3)) (Option.bind (aBin Try.prog BinOp.add 3 false true x8 (A.v (Value.int IntKind.i64 1))) fun t4 =>
 Option.bind (trim L h3) fun H5 => bif bif Nat.beq (List.length h3) L then true else keepsUnder L [(8, t4), (18, t4), (16, i3), (15, t2), (14, t1), (13, x8), (12, x0), (11, x1), (5, x8), (10, x8), (9, t0), (0, x0), (1, x1), (4, x4), (7, x7), (8, x8)] [0, 1, 4, 7, 8] then loopR (cx C) call rg n 44 lo 0 L kx kg kr kp m (St.mk [(0, x0), (1, x1), (4, x4), (7, x7), (8, t4)] H5) else none)) fun i3 h3 => kp i3 (St.mk [(0, x0), (1, x1), (4, x4), (7, x7), (8, x8)] h3)) (kx 0 (St.mk [(0, x0), (1, x1), (4, x4), (7, x7), (8, x8)] H)) := by kernel_rfl
theorem e45_0 (C : Nat → List A → Option A) (call : CallT) (rg : CallT → CallT) (n lo L : Nat) (kx kg : Nat → St → Option R) (kr : St → Option R) (kp : A → St → Option R) (m : Nat) (x0 x1 x3 : A) (H : Heap) : loopR (cx C) call rg n 45 lo 0 L kx kg kr kp (m + 1) (St.mk [(0, x0), (1, x1), (3, x3)] H) =
 Option.bind (aBin Try.prog BinOp.geq 3 false true x3 (A.v (Value.int IntKind.i64 0))) fun t0 => bIfN t0 (Option.bind (aLoad Try.prog 23 x1 H) fun t1 =>
 Option.bind (aIndexAddr Try.prog 23 t1 x3 H) fun t2 =>
 Option.bind (aLoad Try.prog 54 t2 H) fun t3 => dynCall (cx C) call x0 [x3, t3] H lo (fun i4 h4 =>
 Option.bind (aUn Try.prog UnOp.not i4) fun t5 => bIfN t5 (kr (St.mk [(0, x0), (1, x1), (3, x3)] h4)) (Option.bind (aBin Try.prog BinOp.sub 3 false true x3 (A.v (Value.int IntKind.i64 1))) fun t6 =>
 Option.bind (trim L h4) fun H7 => bif bif Nat.beq (List.length h4) L then true else keepsUnder L [(3, t6), (10, t6), (9, x3), (18, t5), (17, i4), (16, t3), (15, t2), (14, x3), (13, t1), (12, x3), (11, x0), (8, t0), (7, x3), (0, x0), (1, x1), (3, x3)] [0, 1, 3] then loopR (cx C) call rg n 45 lo 0 L kx kg kr kp m (St.mk [(0, x0), (1, x1), (3, t6)] H7) else none)) fun i4 h4 => kp i4 (St.mk [(0, x0), (1, x1), (3, x3)] h4)) (kx 0 (St.mk [(0, x0), (1, x1), (3, x3)] H)) := by kernel_rfl
theorem e21_r0 (C : Nat → List A → Option A) (call : CallT) (rg : CallT → CallT) (n lo b lo' : Nat) (x3 x4 x5 y0 y1 : A) (H : Heap) : roundR (cx C) call rg n 21 lo 0 b [(3, x3), (4, x4), (5, x5)] [y0, y1] H lo' = bif Nat.ble lo' lo then rdy H b (Option.bind (aAlloc Try.prog 54 H) fun r0 =>
 Option.bind (aStore Try.prog 54 r0.1 (stV r0.1 r0.2 y1) r0.2 lo) fun H1 => rdy H1 b (Option.bind (aFieldAddr Try.prog 54 r0.1 0 (List.set H1 b (Blk.rng RSt.busy))) fun t2 =>
 Option.bind (aLoad Try.prog 3 t2 (List.set H1 b (Blk.rng RSt.busy))) fun t3 =>
 Option.bind (aLoad Try.prog 3 x3 (List.set H1 b (Blk.rng RSt.busy))) fun t4 =>
 Option.bind (aBin Try.prog BinOp.eql 3 false false t3 t4) fun t5 => bIfN t5 (Option.bind (aFieldAddr Try.prog 54 r0.1 1 (List.set H1 b (Blk.rng RSt.busy))) fun t6 =>
 Option.bind (aLoad Try.prog 35 t6 (List.set H1 b (Blk.rng RSt.busy))) fun t7 =>
 Option.bind (aStore Try.prog 35 x4 (stV x4 (List.set H1 b (Blk.rng RSt.busy)) t7) (List.set H1 b (Blk.rng RSt.busy)) lo) fun H8 =>
 Option.bind (aStore Try.prog 28 x5 (stV x5 H8 (A.v (Value.int IntKind.i64 0))) H8 lo) fun H9 => bsy H9 b (some (Out.ret (A.v (Value.bool false)), List.set H9 b (Blk.rng (RSt.done Jmp.ret))))) (bsy (List.set H1 b (Blk.rng RSt.busy)) b (some (Out.ret (A.v (Value.bool true)), List.set (List.set H1 b (Blk.rng RSt.busy)) b (Blk.rng RSt.ready)))))) else none := by kernel_rfl
end Go.Proofs.Ythoomfjliekbdaa
