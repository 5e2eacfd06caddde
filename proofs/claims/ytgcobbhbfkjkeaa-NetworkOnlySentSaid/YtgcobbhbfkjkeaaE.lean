/-
  What the interpreter does with the program's functions: equations, by a tool; the kernel checks each.
-/
import Derived.Test.YtgcobbhbfkjkeaaEvTyped
import Derived.Test.YtgcobbhbfkjkeaaRows
import Derived.KernelRfl
namespace Go.Proofs.Ytgcobbhbfkjkeaa
set_option linter.unusedVariables false
set_option linter.unusedSimpArgs false
set_option maxHeartbeats 4000000
set_option maxRecDepth 100000
/-- Slots kept at the loops' heads. -/
def keepTab : List ((Nat × Nat) × List Nat) := [((7, 23), [0, 2, 3, 4, 5, 6, 7, 8, 10, 11]), ((7, 9), [0, 2, 3, 4, 5, 6]), ((13, 4), [1, 2, 15, 16, 17]), ((15, 9), [2, 3, 4, 6]), ((15, 4), [2, 3, 4, 5]), ((20, 1000009), [8]), ((33, 2), [0, 1, 4, 9, 10, 11]), ((43, 2), [0, 1, 4, 7, 8]), ((45, 2), [0, 3, 4, 7, 8]), ((46, 4), [0, 1, 2, 3, 5, 6, 8]), ((46, 1), [0, 1, 2, 3, 8])]
def keepF (f r : Nat) : List Nat := keepOf f r keepTab
/-- What is done there. -/
def actTab : List ((Nat × Nat) × List (Nat × Nat × Nat)) := [((20, 1000009), [(8, 2, 3)]), ((4, 8), [(6, 0, 4)]), ((4, 15), [(6, 0, 0)]), ((21, 7), [(10, 0, 3)]), ((21, 10), [(10, 0, 3)]), ((6, 11), [(15, 0, 2)]), ((7, 9), [(4, 0, 4)])]
def actF (f r : Nat) : List (Nat × Nat × Nat) := actOf f r actTab
/-- Variables that are kept as rows: by function and type. -/
def arrTab : List (Nat × Nat) := [(13, 55)]
def arrF (f t : Nat) : Bool := inTab f t arrTab
/-- Rows that are written to; what is made and never written to: by function and slot. -/
def wrTab : List (Nat × Nat) := []
def wrF (f t : Nat) : Bool := inTab f t wrTab
def loudTab : List (Nat × Nat) := []
def loudF (f t : Nat) : Bool := inTab f t loudTab
noncomputable def cx (C : Nat → List A → Option A) : Cx := { P := Try.prog, glob := fun _ => none, isOrc := fun k => notIn k [39, 46, 33, 44], C := C, keep := keepF, wrAt := wrF, acts := actF, loud := loudF, arr := arrF }
@[simp] theorem un_1 : Program.underlying Try.prog 1 = some (TypeDesc.func (Array.mk []) (Array.mk []) false) := by kernel_rfl
@[simp] theorem sz_1 : sizeT Try.prog 1 = some 1 := by kernel_rfl
@[simp] theorem by_1 : bytesT Try.prog 1 = some 8 := by kernel_rfl
@[simp] theorem zr_1 : zeroT Try.prog 1 = some [A.v Value.nilFunc] := by kernel_rfl
@[simp] theorem ag_1 : isAggT Try.prog 1 = false := by kernel_rfl
@[simp] theorem ni_1 : notInt Try.prog 1 = false := by kernel_rfl
@[simp] theorem un_3 : Program.underlying Try.prog 3 = some (TypeDesc.int IntKind.i64) := by kernel_rfl
@[simp] theorem sz_3 : sizeT Try.prog 3 = some 1 := by kernel_rfl
@[simp] theorem by_3 : bytesT Try.prog 3 = some 8 := by kernel_rfl
@[simp] theorem zr_3 : zeroT Try.prog 3 = some [A.v (Value.int IntKind.i64 0)] := by kernel_rfl
@[simp] theorem ag_3 : isAggT Try.prog 3 = false := by kernel_rfl
@[simp] theorem ni_3 : notInt Try.prog 3 = false := by kernel_rfl
@[simp] theorem un_4 : Program.underlying Try.prog 4 = some TypeDesc.bool := by kernel_rfl
@[simp] theorem sz_4 : sizeT Try.prog 4 = some 1 := by kernel_rfl
@[simp] theorem by_4 : bytesT Try.prog 4 = some 1 := by kernel_rfl
@[simp] theorem zr_4 : zeroT Try.prog 4 = some [A.v (Value.bool false)] := by kernel_rfl
@[simp] theorem ag_4 : isAggT Try.prog 4 = false := by kernel_rfl
@[simp] theorem ni_4 : notInt Try.prog 4 = false := by kernel_rfl
@[simp] theorem un_5 : Program.underlying Try.prog 5 = some (TypeDesc.int IntKind.u8) := by kernel_rfl
@[simp] theorem sz_5 : sizeT Try.prog 5 = some 1 := by kernel_rfl
@[simp] theorem by_5 : bytesT Try.prog 5 = some 1 := by kernel_rfl
@[simp] theorem zr_5 : zeroT Try.prog 5 = some [A.v (Value.int IntKind.u8 0)] := by kernel_rfl
@[simp] theorem ag_5 : isAggT Try.prog 5 = false := by kernel_rfl
@[simp] theorem ni_5 : notInt Try.prog 5 = false := by kernel_rfl
@[simp] theorem un_9 : Program.underlying Try.prog 9 = some TypeDesc.string := by kernel_rfl
@[simp] theorem sz_9 : sizeT Try.prog 9 = some 1 := by kernel_rfl
@[simp] theorem by_9 : bytesT Try.prog 9 = some 16 := by kernel_rfl
@[simp] theorem zr_9 : zeroT Try.prog 9 = some [A.v (Value.string (ByteArray.mk #[]))] := by kernel_rfl
@[simp] theorem ag_9 : isAggT Try.prog 9 = false := by kernel_rfl
@[simp] theorem ni_9 : notInt Try.prog 9 = true := by kernel_rfl
@[simp] theorem un_22 : Program.underlying Try.prog 22 = some (TypeDesc.slice 28) := by kernel_rfl
@[simp] theorem sz_22 : sizeT Try.prog 22 = some 1 := by kernel_rfl
@[simp] theorem by_22 : bytesT Try.prog 22 = some 24 := by kernel_rfl
@[simp] theorem zr_22 : zeroT Try.prog 22 = some [A.imm [] true] := by kernel_rfl
@[simp] theorem ag_22 : isAggT Try.prog 22 = false := by kernel_rfl
@[simp] theorem el_22 : elemT Try.prog 22 = some 28 := by kernel_rfl
@[simp] theorem ni_22 : notInt Try.prog 22 = true := by kernel_rfl
@[simp] theorem un_23 : Program.underlying Try.prog 23 = some (TypeDesc.slice 55) := by kernel_rfl
@[simp] theorem sz_23 : sizeT Try.prog 23 = some 1 := by kernel_rfl
@[simp] theorem by_23 : bytesT Try.prog 23 = some 24 := by kernel_rfl
@[simp] theorem zr_23 : zeroT Try.prog 23 = some [A.imm [] true] := by kernel_rfl
@[simp] theorem ag_23 : isAggT Try.prog 23 = false := by kernel_rfl
@[simp] theorem el_23 : elemT Try.prog 23 = some 55 := by kernel_rfl
@[simp] theorem ni_23 : notInt Try.prog 23 = true := by kernel_rfl
@[simp] theorem un_25 : Program.underlying Try.prog 25 = some (TypeDesc.struct (Array.mk [Field.mk "Queue" 22 0 false "" "" 0, Field.mk "Apart" 23 1 false "" "" 24])) := by kernel_rfl
@[simp] theorem sz_25 : sizeT Try.prog 25 = some 2 := by kernel_rfl
@[simp] theorem by_25 : bytesT Try.prog 25 = some 48 := by kernel_rfl
@[simp] theorem zr_25 : zeroT Try.prog 25 = some [A.imm [] true, A.imm [] true] := by kernel_rfl
@[simp] theorem ag_25 : isAggT Try.prog 25 = true := by kernel_rfl
@[simp] theorem ni_25 : notInt Try.prog 25 = false := by kernel_rfl
@[simp] theorem un_26 : Program.underlying Try.prog 26 = some (TypeDesc.slice 5) := by kernel_rfl
@[simp] theorem sz_26 : sizeT Try.prog 26 = some 1 := by kernel_rfl
@[simp] theorem by_26 : bytesT Try.prog 26 = some 24 := by kernel_rfl
@[simp] theorem zr_26 : zeroT Try.prog 26 = some [A.imm [] true] := by kernel_rfl
@[simp] theorem ag_26 : isAggT Try.prog 26 = false := by kernel_rfl
@[simp] theorem el_26 : elemT Try.prog 26 = some 5 := by kernel_rfl
@[simp] theorem ni_26 : notInt Try.prog 26 = true := by kernel_rfl
@[simp] theorem un_28 : Program.underlying Try.prog 28 = some (TypeDesc.struct (Array.mk [Field.mk "From" 3 0 false "" "" 0, Field.mk "To" 3 1 false "" "" 8, Field.mk "Data" 26 2 false "" "" 16])) := by kernel_rfl
@[simp] theorem sz_28 : sizeT Try.prog 28 = some 3 := by kernel_rfl
@[simp] theorem by_28 : bytesT Try.prog 28 = some 40 := by kernel_rfl
@[simp] theorem zr_28 : zeroT Try.prog 28 = some [A.v (Value.int IntKind.i64 0), A.v (Value.int IntKind.i64 0), A.imm [] true] := by kernel_rfl
@[simp] theorem ag_28 : isAggT Try.prog 28 = true := by kernel_rfl
@[simp] theorem ni_28 : notInt Try.prog 28 = false := by kernel_rfl
@[simp] theorem un_31 : Program.underlying Try.prog 31 = some (TypeDesc.int IntKind.i64) := by kernel_rfl
@[simp] theorem sz_31 : sizeT Try.prog 31 = some 1 := by kernel_rfl
@[simp] theorem by_31 : bytesT Try.prog 31 = some 8 := by kernel_rfl
@[simp] theorem zr_31 : zeroT Try.prog 31 = some [A.v (Value.int IntKind.i64 0)] := by kernel_rfl
@[simp] theorem ag_31 : isAggT Try.prog 31 = false := by kernel_rfl
@[simp] theorem ni_31 : notInt Try.prog 31 = false := by kernel_rfl
@[simp] theorem un_45 : Program.underlying Try.prog 45 = some (TypeDesc.slice 3) := by kernel_rfl
@[simp] theorem sz_45 : sizeT Try.prog 45 = some 1 := by kernel_rfl
@[simp] theorem by_45 : bytesT Try.prog 45 = some 24 := by kernel_rfl
@[simp] theorem zr_45 : zeroT Try.prog 45 = some [A.imm [] true] := by kernel_rfl
@[simp] theorem ag_45 : isAggT Try.prog 45 = false := by kernel_rfl
@[simp] theorem el_45 : elemT Try.prog 45 = some 3 := by kernel_rfl
@[simp] theorem ni_45 : notInt Try.prog 45 = true := by kernel_rfl
@[simp] theorem un_48 : Program.underlying Try.prog 48 = some (TypeDesc.slice 52) := by kernel_rfl
@[simp] theorem sz_48 : sizeT Try.prog 48 = some 1 := by kernel_rfl
@[simp] theorem by_48 : bytesT Try.prog 48 = some 24 := by kernel_rfl
@[simp] theorem zr_48 : zeroT Try.prog 48 = some [A.imm [] true] := by kernel_rfl
@[simp] theorem ag_48 : isAggT Try.prog 48 = false := by kernel_rfl
@[simp] theorem el_48 : elemT Try.prog 48 = some 52 := by kernel_rfl
@[simp] theorem ni_48 : notInt Try.prog 48 = true := by kernel_rfl
@[simp] theorem un_52 : Program.underlying Try.prog 52 = some (TypeDesc.struct (Array.mk [Field.mk "Kind" 5 0 false "" "" 0, Field.mk "At" 5 1 false "" "" 1, Field.mk "A" 5 2 false "" "" 2, Field.mk "B" 5 3 false "" "" 3, Field.mk "Data" 5 4 false "" "" 4])) := by kernel_rfl
@[simp] theorem sz_52 : sizeT Try.prog 52 = some 5 := by kernel_rfl
@[simp] theorem by_52 : bytesT Try.prog 52 = some 5 := by kernel_rfl
@[simp] theorem zr_52 : zeroT Try.prog 52 = some [A.v (Value.int IntKind.u8 0), A.v (Value.int IntKind.u8 0), A.v (Value.int IntKind.u8 0), A.v (Value.int IntKind.u8 0), A.v (Value.int IntKind.u8 0)] := by kernel_rfl
@[simp] theorem ag_52 : isAggT Try.prog 52 = true := by kernel_rfl
@[simp] theorem ni_52 : notInt Try.prog 52 = false := by kernel_rfl
@[simp] theorem un_55 : Program.underlying Try.prog 55 = some (TypeDesc.array 2 3) := by kernel_rfl
@[simp] theorem sz_55 : sizeT Try.prog 55 = some 2 := by kernel_rfl
@[simp] theorem by_55 : bytesT Try.prog 55 = some 16 := by kernel_rfl
@[simp] theorem zr_55 : zeroT Try.prog 55 = some [A.v (Value.int IntKind.i64 0), A.v (Value.int IntKind.i64 0)] := by kernel_rfl
@[simp] theorem ag_55 : isAggT Try.prog 55 = true := by kernel_rfl
@[simp] theorem ni_55 : notInt Try.prog 55 = false := by kernel_rfl
@[simp] theorem un_58 : Program.underlying Try.prog 58 = some (TypeDesc.array 2 3) := by kernel_rfl
@[simp] theorem sz_58 : sizeT Try.prog 58 = some 2 := by kernel_rfl
@[simp] theorem by_58 : bytesT Try.prog 58 = some 16 := by kernel_rfl
@[simp] theorem zr_58 : zeroT Try.prog 58 = some [A.v (Value.int IntKind.i64 0), A.v (Value.int IntKind.i64 0)] := by kernel_rfl
@[simp] theorem ag_58 : isAggT Try.prog 58 = true := by kernel_rfl
@[simp] theorem ni_58 : notInt Try.prog 58 = false := by kernel_rfl
theorem qsz (C : Nat → List A → Option A) : Array.size (Program.funcs (Cx.P (cx C))) = 64 := by kernel_rfl
theorem yq {C : Nat → List A → Option A} {m b : Nat} {base : CallT} {args : List A} {H : Heap} {lo : Nat} : evCallY (cx C) m base (Array.size (Program.funcs (Cx.P (cx C))) + b) args H lo = base (64 + b) args H lo := evCallY_y.trans (congrArg (fun q => base (q + b) args H lo) (qsz C))
theorem lt_33 : Nat.ble Try.prog.funcs.size 33 = false := by kernel_rfl
theorem lt_39 : Nat.ble Try.prog.funcs.size 39 = false := by kernel_rfl
theorem lt_44 : Nat.ble Try.prog.funcs.size 44 = false := by kernel_rfl
theorem lt_46 : Nat.ble Try.prog.funcs.size 46 = false := by kernel_rfl
theorem e7 (C : Nat → List A → Option A) (call : CallT) (rg : CallT → CallT) (n lo : Nat) (x0 : A) (H : Heap) : evCall1 (cx C) call rg n 7 [x0] H lo =
 Option.bind (C 9 []) fun t0 =>
 Option.bind (aUn Try.prog UnOp.not t0) fun t1 =>
 bIf t1 (some (Out.ret (A.v (Value.bool false)), H)) (Option.bind (aLen Try.prog 48 x0 H) fun t2 =>
 Option.bind (aBin Try.prog BinOp.gtr 3 false true t2 (A.v (Value.int IntKind.i64 60))) fun t3 =>
 bIf t3 (some (Out.ret (A.v (Value.bool true)), H)) (Option.bind (C 16 []) fun t4 =>
 Option.bind (aAlloc Try.prog 25 H) fun r5 =>
 Option.bind (aStore Try.prog 25 r5.1 (stV r5.1 r5.2 t4) r5.2 lo) fun H6 => loopR (cx C) call rg n 7 lo 0 (List.length (seed1 3 (St.H (St.mk [(0, x0), (2, A.v (Value.bool false)), (3, r5.1), (4, A.imm [] true), (5, A.v (Value.int IntKind.i64 0)), (6, A.v (Value.int IntKind.i64 0))] H6)) (look (St.fr (St.mk [(0, x0), (2, A.v (Value.bool false)), (3, r5.1), (4, A.imm [] true), (5, A.v (Value.int IntKind.i64 0)), (6, A.v (Value.int IntKind.i64 0))] H6)) (Prod.fst (4, 0, 4)))).2) (fun i7 s7 => bif Nat.beq i7 0 then some (Out.ret (A.v (Value.bool true)), St.H s7) else none) (fun i7 s7 => none) (fun a7 => some (Out.ret (look (St.fr a7) 2), St.H a7)) (fun i7 s7 => some (Out.pan i7, St.H s7)) n (St.mk [(0, x0), (2, A.v (Value.bool false)), (3, r5.1), (4, (seed1 3 (St.H (St.mk [(0, x0), (2, A.v (Value.bool false)), (3, r5.1), (4, A.imm [] true), (5, A.v (Value.int IntKind.i64 0)), (6, A.v (Value.int IntKind.i64 0))] H6)) (look (St.fr (St.mk [(0, x0), (2, A.v (Value.bool false)), (3, r5.1), (4, A.imm [] true), (5, A.v (Value.int IntKind.i64 0)), (6, A.v (Value.int IntKind.i64 0))] H6)) (Prod.fst (4, 0, 4)))).1), (5, A.v (Value.int IntKind.i64 0)), (6, A.v (Value.int IntKind.i64 0))] (seed1 3 (St.H (St.mk [(0, x0), (2, A.v (Value.bool false)), (3, r5.1), (4, A.imm [] true), (5, A.v (Value.int IntKind.i64 0)), (6, A.v (Value.int IntKind.i64 0))] H6)) (look (St.fr (St.mk [(0, x0), (2, A.v (Value.bool false)), (3, r5.1), (4, A.imm [] true), (5, A.v (Value.int IntKind.i64 0)), (6, A.v (Value.int IntKind.i64 0))] H6)) (Prod.fst (4, 0, 4)))).2))) := by kernel_rfl
theorem e9 (C : Nat → List A → Option A) (call : CallT) (rg : CallT → CallT) (n lo : Nat) (H : Heap) : evCall1 (cx C) call rg n 9 [] H lo =
 Option.bind (C 16 []) fun t0 =>
 Option.bind (aAlloc Try.prog 25 H) fun r1 =>
 Option.bind (aStore Try.prog 25 r1.1 (stV r1.1 r1.2 t0) r1.2 lo) fun H2 =>
 Option.bind (aLoad Try.prog 25 r1.1 H2) fun t3 =>
 Option.bind (C 18 [snap H2 t3, snap H2 (A.v (Value.int IntKind.i64 0))]) fun t4 =>
 Option.bind (aExtract t4 0) fun t5 =>
 Option.bind (aExtract t4 1) fun t6 =>
 Option.bind (aExtract t4 2) fun t7 =>
 Option.bind (aAlloc Try.prog 28 H2) fun r8 =>
 Option.bind (aAlloc Try.prog 25 r8.2) fun r9 =>
 Option.bind (aStore Try.prog 28 r8.1 (stV r8.1 r9.2 t5) r9.2 lo) fun H10 =>
 Option.bind (aStore Try.prog 25 r9.1 (stV r9.1 H10 t6) H10 lo) fun H11 =>
 Option.bind (aLoad Try.prog 25 r1.1 H11) fun t12 =>
 Option.bind (aBuild Try.prog 28 [(0, A.v (Value.int IntKind.i64 3)), (1, A.v (Value.int IntKind.i64 3))]) fun t13 =>
 Option.bind (C 11 [snap H11 t12, snap H11 t13]) fun t14 =>
 Option.bind (aExtract t14 0) fun t15 =>
 Option.bind (aExtract t14 1) fun t16 =>
 Option.bind (aAlloc Try.prog 25 H11) fun r17 =>
 Option.bind (aStore Try.prog 25 r17.1 (stV r17.1 r17.2 t15) r17.2 lo) fun H18 =>
 Option.bind (aLoad Try.prog 25 r1.1 H18) fun t19 =>
 Option.bind (C 20 [snap H18 t19, snap H18 (A.v (Value.int IntKind.i64 2)), snap H18 (A.v (Value.int IntKind.i64 2)), snap H18 (A.v (Value.bool true))]) fun t20 =>
 Option.bind (aExtract t20 0) fun t21 =>
 Option.bind (aExtract t20 1) fun t22 =>
 Option.bind (aAlloc Try.prog 25 H18) fun r23 =>
 Option.bind (aStore Try.prog 25 r23.1 (stV r23.1 r23.2 t21) r23.2 lo) fun H24 =>
 Option.bind (aBuildSlice Try.prog 26 1 [(0, frzA H24 (A.v (Value.int IntKind.u8 7)))]) fun t25 =>
 Option.bind (aBuild Try.prog 28 [(0, A.v (Value.int IntKind.i64 1)), (1, A.v (Value.int IntKind.i64 3)), (2, t25)]) fun t26 =>
 Option.bind (aAlloc Try.prog 28 H24) fun r27 =>
 Option.bind (aStore Try.prog 28 r27.1 (stV r27.1 r27.2 t26) r27.2 lo) fun H28 =>
 Option.bind (aLoad Try.prog 25 r1.1 H28) fun t29 =>
 Option.bind (aLoad Try.prog 28 r27.1 H28) fun t30 =>
 Option.bind (C 11 [snap H28 t29, snap H28 t30]) fun t31 =>
 Option.bind (aExtract t31 0) fun t32 =>
 Option.bind (aExtract t31 1) fun t33 =>
 Option.bind (aAlloc Try.prog 25 H28) fun r34 =>
 Option.bind (aStore Try.prog 25 r34.1 (stV r34.1 r34.2 t32) r34.2 lo) fun H35 =>
 Option.bind (aLoad Try.prog 25 r34.1 H35) fun t36 =>
 Option.bind (C 25 [snap H35 t36, snap H35 (A.v (Value.int IntKind.i64 0))]) fun t37 =>
 Option.bind (aExtract t37 0) fun t38 =>
 Option.bind (aExtract t37 1) fun t39 =>
 Option.bind (aAlloc Try.prog 25 H35) fun r40 =>
 Option.bind (aStore Try.prog 25 r40.1 (stV r40.1 r40.2 t38) r40.2 lo) fun H41 =>
 Option.bind (aLoad Try.prog 25 r40.1 H41) fun t42 =>
 Option.bind (C 20 [snap H41 t42, snap H41 (A.v (Value.int IntKind.i64 3)), snap H41 (A.v (Value.int IntKind.i64 1)), snap H41 (A.v (Value.bool true))]) fun t43 =>
 Option.bind (aExtract t43 0) fun t44 =>
 Option.bind (aExtract t43 1) fun t45 =>
 Option.bind (aAlloc Try.prog 25 H41) fun r46 =>
 Option.bind (aStore Try.prog 25 r46.1 (stV r46.1 r46.2 t44) r46.2 lo) fun H47 =>
 Option.bind (aLoad Try.prog 25 r40.1 H47) fun t48 =>
 Option.bind (C 18 [snap H47 t48, snap H47 (A.v (Value.int IntKind.i64 0))]) fun t49 =>
 Option.bind (aExtract t49 0) fun t50 =>
 Option.bind (aExtract t49 1) fun t51 =>
 Option.bind (aExtract t49 2) fun t52 =>
 Option.bind (aAlloc Try.prog 28 H47) fun r53 =>
 Option.bind (aAlloc Try.prog 25 r53.2) fun r54 =>
 Option.bind (aStore Try.prog 28 r53.1 (stV r53.1 r54.2 t50) r54.2 lo) fun H55 =>
 Option.bind (aStore Try.prog 25 r54.1 (stV r54.1 H55 t51) H55 lo) fun H56 =>
 Option.bind (aLoad Try.prog 25 r46.1 H56) fun t57 =>
 Option.bind (C 18 [snap H56 t57, snap H56 (A.v (Value.int IntKind.i64 1))]) fun t58 =>
 Option.bind (aExtract t58 0) fun t59 =>
 Option.bind (aExtract t58 1) fun t60 =>
 Option.bind (aExtract t58 2) fun t61 =>
 Option.bind (aAlloc Try.prog 28 H56) fun r62 =>
 Option.bind (aAlloc Try.prog 25 r62.2) fun r63 =>
 Option.bind (aStore Try.prog 28 r62.1 (stV r62.1 r63.2 t59) r63.2 lo) fun H64 =>
 Option.bind (aStore Try.prog 25 r63.1 (stV r63.1 H64 t60) H64 lo) fun H65 =>
 Option.bind (aLoad Try.prog 25 r1.1 H65) fun t66 =>
 Option.bind (C 13 [snap H65 t66]) fun t67 =>
 Option.bind (aBin Try.prog BinOp.eql 31 false true t67 (A.v (Value.int IntKind.i64 0))) fun t68 =>
 Option.bind (bIf t68 (Option.bind (aBin Try.prog BinOp.eql 31 false true t7 (A.v (Value.int IntKind.i64 1))) fun t69 => some [t69, t69, t7]) (some [A.v (Value.bool false), A.v undef, A.v undef])) fun l69 => unc l69 fun u70 l70 => unc l70 fun u71 l71 => unc l71 fun u72 l72 =>
 Option.bind (bIf u70 (Option.bind (aBin Try.prog BinOp.eql 31 false true t16 (A.v (Value.int IntKind.i64 60))) fun t73 => some [t73, t73, t16]) (some [A.v (Value.bool false), A.v undef, A.v undef])) fun l73 => unc l73 fun u74 l74 => unc l74 fun u75 l75 => unc l75 fun u76 l76 =>
 Option.bind (bIf u74 (Option.bind (aBin Try.prog BinOp.eql 31 false true t22 (A.v (Value.int IntKind.i64 1))) fun t77 => some [t77, t77, t22]) (some [A.v (Value.bool false), A.v undef, A.v undef])) fun l77 => unc l77 fun u78 l78 => unc l78 fun u79 l79 => unc l79 fun u80 l80 =>
 Option.bind (bIf u78 (Option.bind (aBin Try.prog BinOp.eql 31 false true t33 (A.v (Value.int IntKind.i64 0))) fun t81 => some [t81, t81, t33]) (some [A.v (Value.bool false), A.v undef, A.v undef])) fun l81 => unc l81 fun u82 l82 => unc l82 fun u83 l83 => unc l83 fun u84 l84 =>
 Option.bind (bIf u82 (Option.bind (aBin Try.prog BinOp.eql 31 false true t39 (A.v (Value.int IntKind.i64 0))) fun t85 => some [t85, t85, t39]) (some [A.v (Value.bool false), A.v undef, A.v undef])) fun l85 => unc l85 fun u86 l86 => unc l86 fun u87 l87 => unc l87 fun u88 l88 =>
 Option.bind (bIf u86 (Option.bind (aBin Try.prog BinOp.eql 31 false true t45 (A.v (Value.int IntKind.i64 0))) fun t89 => some [t89, t89, t45]) (some [A.v (Value.bool false), A.v undef, A.v undef])) fun l89 => unc l89 fun u90 l90 => unc l90 fun u91 l91 => unc l91 fun u92 l92 =>
 Option.bind (bIf u90 (Option.bind (aBin Try.prog BinOp.eql 31 false true t52 (A.v (Value.int IntKind.i64 0))) fun t93 => some [t93, t93, t52]) (some [A.v (Value.bool false), A.v undef, A.v undef])) fun l93 => unc l93 fun u94 l94 => unc l94 fun u95 l95 => unc l95 fun u96 l96 =>
 Option.bind (bIf u94 (Option.bind (aBin Try.prog BinOp.eql 31 false true t61 (A.v (Value.int IntKind.i64 0))) fun t97 => some [t97, t97, t61]) (some [A.v (Value.bool false), A.v undef, A.v undef])) fun l97 => unc l97 fun u98 l98 => unc l98 fun u99 l99 => unc l99 fun u100 l100 =>
 Option.bind (bIf u98 (Option.bind (aLoad Try.prog 28 r27.1 H65) fun t101 =>
 Option.bind (aLoad Try.prog 28 r53.1 H65) fun t102 =>
 Option.bind (C 19 [snap H65 t101, snap H65 t102]) fun t103 => some [t103, t103, t102, t101]) (some [A.v (Value.bool false), A.v undef, A.v undef, A.v undef])) fun l101 => unc l101 fun u102 l102 => unc l102 fun u103 l103 => unc l103 fun u104 l104 => unc l104 fun u105 l105 =>
 Option.bind (bIf u102 (Option.bind (aLoad Try.prog 28 r62.1 H65) fun t106 =>
 Option.bind (aBuild Try.prog 28 []) fun t107 =>
 Option.bind (C 19 [snap H65 t106, snap H65 t107]) fun t108 => some [t108, t108, t107, t106]) (some [A.v (Value.bool false), A.v undef, A.v undef, A.v undef])) fun l106 => unc l106 fun u107 l107 => unc l107 fun u108 l108 => unc l108 fun u109 l109 => unc l109 fun u110 l110 =>
 Option.bind (bIf u107 (Option.bind (aLoad Try.prog 25 r54.1 H65) fun t111 =>
 Option.bind (aLoad Try.prog 25 r34.1 H65) fun t112 =>
 Option.bind (C 15 [snap H65 t111, snap H65 t112]) fun t113 => some [t113, t113, t112, t111]) (some [A.v (Value.bool false), A.v undef, A.v undef, A.v undef])) fun l111 => unc l111 fun u112 l112 => unc l112 fun u113 l113 => unc l113 fun u114 l114 => unc l114 fun u115 l115 =>
 Option.bind (bIf u112 (Option.bind (aFieldAddr Try.prog 25 r46.1 1 H65) fun t116 =>
 Option.bind (aLoad Try.prog 23 t116 H65) fun t117 =>
 Option.bind (aLen Try.prog 23 t117 H65) fun t118 =>
 Option.bind (aBin Try.prog BinOp.eql 3 false true t118 (A.v (Value.int IntKind.i64 1))) fun t119 => some [t119, t119, t118, t117, t116]) (some [A.v (Value.bool false), A.v undef, A.v undef, A.v undef, A.v undef])) fun l116 => unc l116 fun u117 l117 => unc l117 fun u118 l118 => unc l118 fun u119 l119 => unc l119 fun u120 l120 => unc l120 fun u121 l121 =>
 Option.bind (bIf u117 (Option.bind (aFieldAddr Try.prog 25 r46.1 1 H65) fun t122 =>
 Option.bind (aLoad Try.prog 23 t122 H65) fun t123 =>
 Option.bind (aIndexAddr Try.prog 23 t123 (A.v (Value.int IntKind.i64 0)) H65) fun t124 =>
 Option.bind (aLoad Try.prog 55 t124 H65) fun t125 =>
 Option.bind (aBuild Try.prog 55 [(0, A.v (Value.int IntKind.i64 1)), (1, A.v (Value.int IntKind.i64 3))]) fun t126 =>
 Option.bind (aBin Try.prog BinOp.eql 55 false false t125 t126) fun t127 => some [t127, t127, t126, t125, t124, t123, t122]) (some [A.v (Value.bool false), A.v undef, A.v undef, A.v undef, A.v undef, A.v undef, A.v undef])) fun l122 => unc l122 fun u123 l123 => unc l123 fun u124 l124 => unc l124 fun u125 l125 => unc l125 fun u126 l126 => unc l126 fun u127 l127 => unc l127 fun u128 l128 => unc l128 fun u129 l129 =>
 Option.bind (bIf u123 (Option.bind (aFieldAddr Try.prog 25 r46.1 0 H65) fun t130 =>
 Option.bind (aLoad Try.prog 22 t130 H65) fun t131 =>
 Option.bind (aLen Try.prog 22 t131 H65) fun t132 =>
 Option.bind (aBin Try.prog BinOp.eql 3 false true t132 (A.v (Value.int IntKind.i64 2))) fun t133 => some [t133, t133, t132, t131, t130]) (some [A.v (Value.bool false), A.v undef, A.v undef, A.v undef, A.v undef])) fun l130 => unc l130 fun u131 l131 => unc l131 fun u132 l132 => unc l132 fun u133 l133 => unc l133 fun u134 l134 => unc l134 fun u135 l135 => some (Out.ret u131, H65) := by kernel_rfl
theorem e11 (C : Nat → List A → Option A) (call : CallT) (rg : CallT → CallT) (n lo : Nat) (x0 x1 : A) (H : Heap) : evCall1 (cx C) call rg n 11 [x0, x1] H lo =
 Option.bind (aBox x0 H) fun r0 =>
 Option.bind (aBox x1 r0.2) fun r1 =>
 Option.bind (aAlloc Try.prog 25 r1.2) fun r2 =>
 Option.bind (aLoad Try.prog 25 r0.1 r2.2) fun t3 =>
 Option.bind (C 13 [snap r2.2 t3]) fun t4 =>
 Option.bind (aBin Try.prog BinOp.neq 31 false true t4 (A.v (Value.int IntKind.i64 0))) fun t5 =>
 Option.bind (bIf t5 (some [A.v (Value.bool true), A.v undef, A.v undef, A.v undef]) (Option.bind (aLoad Try.prog 28 r1.1 r2.2) fun t6 =>
 Option.bind (C 28 [snap r2.2 t6]) fun t7 =>
 Option.bind (aUn Try.prog UnOp.not t7) fun t8 => some [t8, t8, t7, t6])) fun l6 => unc l6 fun u7 l7 => unc l7 fun u8 l8 => unc l8 fun u9 l9 => unc l9 fun u10 l10 =>
 bIf u7 (Option.bind (aLoad Try.prog 25 r2.1 r2.2) fun t11 =>
 Option.bind (aStore Try.prog 25 r2.1 (stV r2.1 r2.2 t11) r2.2 lo) fun H12 =>
 Option.bind (aLoad Try.prog 25 r2.1 H12) fun t13 => some (Out.ret (A.tup [t13, A.v (Value.int IntKind.i64 60)]), H12)) (Option.bind (aFieldAddr Try.prog 25 r0.1 0 r2.2) fun t11 =>
 Option.bind (aLoad Try.prog 22 t11 r2.2) fun t12 =>
 Option.bind (aLen Try.prog 22 t12 r2.2) fun t13 =>
 Option.bind (aBin Try.prog BinOp.eql 3 false true t13 (A.v (Value.int IntKind.i64 4096))) fun t14 =>
 bIf t14 (Option.bind (aLoad Try.prog 25 r2.1 r2.2) fun t15 =>
 Option.bind (aStore Try.prog 25 r2.1 (stV r2.1 r2.2 t15) r2.2 lo) fun H16 =>
 Option.bind (aLoad Try.prog 25 r2.1 H16) fun t17 => some (Out.ret (A.tup [t17, A.v (Value.int IntKind.i64 2)]), H16)) (Option.bind (aFieldAddr Try.prog 25 r0.1 0 r2.2) fun t15 =>
 Option.bind (aLoad Try.prog 22 t15 r2.2) fun t16 =>
 Option.bind (aFieldAddr Try.prog 25 r0.1 0 r2.2) fun t17 =>
 Option.bind (aLoad Try.prog 22 t17 r2.2) fun t18 =>
 Option.bind (aLen Try.prog 22 t18 r2.2) fun t19 =>
 Option.bind (aFieldAddr Try.prog 25 r0.1 0 r2.2) fun t20 =>
 Option.bind (aLoad Try.prog 22 t20 r2.2) fun t21 =>
 Option.bind (aLen Try.prog 22 t21 r2.2) fun t22 =>
 Option.bind (aSlice Try.prog 22 t16 none (some t19) (some t22) r2.2) fun t23 =>
 Option.bind (aLoad Try.prog 28 r1.1 r2.2) fun t24 =>
 Option.bind (aBuildSlice Try.prog 22 1 [(0, frzA r2.2 t24)]) fun t25 =>
 Option.bind (aAppend Try.prog 22 22 false t23 t25 r2.2 lo) fun r26 =>
 Option.bind (aFieldAddr Try.prog 25 r0.1 0 r26.2) fun t27 =>
 Option.bind (aStore Try.prog 22 t27 (stV t27 r26.2 r26.1) r26.2 lo) fun H28 =>
 Option.bind (aLoad Try.prog 25 r0.1 H28) fun t29 =>
 Option.bind (aStore Try.prog 25 r2.1 (stV r2.1 H28 t29) H28 lo) fun H30 =>
 Option.bind (aLoad Try.prog 25 r2.1 H30) fun t31 => some (Out.ret (A.tup [t31, A.v (Value.int IntKind.i64 0)]), H30))) := by kernel_rfl
theorem e13 (C : Nat → List A → Option A) (call : CallT) (rg : CallT → CallT) (n lo : Nat) (x0 : A) (H : Heap) : evCall1 (cx C) call rg n 13 [x0] H lo =
 Option.bind (aBox x0 H) fun r0 =>
 Option.bind (aFieldAddr Try.prog 25 r0.1 0 r0.2) fun t1 =>
 Option.bind (aLoad Try.prog 22 t1 r0.2) fun t2 =>
 Option.bind (aLen Try.prog 22 t2 r0.2) fun t3 =>
 Option.bind (aBin Try.prog BinOp.gtr 3 false true t3 (A.v (Value.int IntKind.i64 4096))) fun t4 =>
 Option.bind (bIf t4 (some [A.v (Value.bool true), A.v undef, A.v undef, A.v undef]) (Option.bind (aFieldAddr Try.prog 25 r0.1 0 r0.2) fun t5 =>
 Option.bind (aLoad Try.prog 22 t5 r0.2) fun t6 =>
 Option.bind (C 30 [snap r0.2 t6, snap r0.2 (A.fn (Fn.func 31) [] [])]) fun t7 => some [t7, t7, t6, t5])) fun l5 => unc l5 fun u6 l6 => unc l6 fun u7 l7 => unc l7 fun u8 l8 => unc l8 fun u9 l9 =>
 bIf u6 (some (Out.ret (A.v (Value.int IntKind.i64 60)), r0.2)) (Option.bind (aFieldAddr Try.prog 25 r0.1 1 r0.2) fun t10 =>
 Option.bind (aLoad Try.prog 23 t10 r0.2) fun t11 =>
 Option.bind (aLen Try.prog 23 t11 r0.2) fun t12 => loopR (cx C) call rg n 13 lo 0 (List.length r0.2) (fun i13 s13 => bif Nat.beq i13 0 then some (Out.ret (A.v (Value.int IntKind.i64 0)), St.H s13) else none) (fun i13 s13 => none) (fun a13 => some (Out.ret (look (St.fr a13) 2), St.H a13)) (fun i13 s13 => some (Out.pan i13, St.H s13)) n (St.mk [(1, r0.1), (2, A.v (Value.int IntKind.i64 0)), (15, t11), (16, t12), (17, A.v (Value.int IntKind.i64 0))] r0.2)) := by kernel_rfl
theorem e15 (C : Nat → List A → Option A) (call : CallT) (rg : CallT → CallT) (n lo : Nat) (x0 x1 : A) (H : Heap) : evCall1 (cx C) call rg n 15 [x0, x1] H lo =
 Option.bind (aBox x0 H) fun r0 =>
 Option.bind (aBox x1 r0.2) fun r1 =>
 Option.bind (aFieldAddr Try.prog 25 r0.1 0 r1.2) fun t2 =>
 Option.bind (aLoad Try.prog 22 t2 r1.2) fun t3 =>
 Option.bind (aLen Try.prog 22 t3 r1.2) fun t4 =>
 Option.bind (aFieldAddr Try.prog 25 r1.1 0 r1.2) fun t5 =>
 Option.bind (aLoad Try.prog 22 t5 r1.2) fun t6 =>
 Option.bind (aLen Try.prog 22 t6 r1.2) fun t7 =>
 Option.bind (aBin Try.prog BinOp.neq 3 false false t4 t7) fun t8 =>
 Option.bind (bIf t8 (some [A.v (Value.bool true), A.v undef, A.v undef, A.v undef, A.v undef, A.v undef, A.v undef, A.v undef]) (Option.bind (aFieldAddr Try.prog 25 r0.1 1 r1.2) fun t9 =>
 Option.bind (aLoad Try.prog 23 t9 r1.2) fun t10 =>
 Option.bind (aLen Try.prog 23 t10 r1.2) fun t11 =>
 Option.bind (aFieldAddr Try.prog 25 r1.1 1 r1.2) fun t12 =>
 Option.bind (aLoad Try.prog 23 t12 r1.2) fun t13 =>
 Option.bind (aLen Try.prog 23 t13 r1.2) fun t14 =>
 Option.bind (aBin Try.prog BinOp.neq 3 false false t11 t14) fun t15 => some [t15, t15, t14, t13, t12, t11, t10, t9])) fun l9 => unc l9 fun u10 l10 => unc l10 fun u11 l11 => unc l11 fun u12 l12 => unc l12 fun u13 l13 => unc l13 fun u14 l14 => unc l14 fun u15 l15 => unc l15 fun u16 l16 => unc l16 fun u17 l17 =>
 bIf u10 (some (Out.ret (A.v (Value.bool false)), r1.2)) (loopR (cx C) call rg n 15 lo 0 (List.length r1.2) (fun i18 s18 => bif Nat.beq i18 0 then loopR (cx C) call rg n 15 lo 1 (List.length (St.H s18)) (fun i19 s19 => bif Nat.beq i19 2 then some (Out.ret (A.v (Value.bool true)), St.H s19) else none) (fun i19 s19 => none) (fun a19 => some (Out.ret (look (St.fr a19) 4), St.H a19)) (fun i19 s19 => some (Out.pan i19, St.H s19)) n (St.mk [(2, look (St.fr s18) 2), (3, look (St.fr s18) 3), (4, look (St.fr s18) 4), (6, A.v (Value.int IntKind.i64 0))] (St.H s18)) else none) (fun i18 s18 => none) (fun a18 => some (Out.ret (look (St.fr a18) 4), St.H a18)) (fun i18 s18 => some (Out.pan i18, St.H s18)) n (St.mk [(2, r0.1), (3, r1.1), (4, A.v (Value.bool false)), (5, A.v (Value.int IntKind.i64 0))] r1.2)) := by kernel_rfl
theorem e16 (C : Nat → List A → Option A) (call : CallT) (rg : CallT → CallT) (n lo : Nat) (H : Heap) : evCall1 (cx C) call rg n 16 [] H lo =
 Option.bind (aAlloc Try.prog 25 H) fun r0 =>
 Option.bind (aLoad Try.prog 25 r0.1 r0.2) fun t1 =>
 Option.bind (aStore Try.prog 25 r0.1 (stV r0.1 r0.2 t1) r0.2 lo) fun H2 =>
 Option.bind (aLoad Try.prog 25 r0.1 H2) fun t3 => some (Out.ret t3, H2) := by kernel_rfl
theorem e18 (C : Nat → List A → Option A) (call : CallT) (rg : CallT → CallT) (n lo : Nat) (x0 x1 : A) (H : Heap) : evCall1 (cx C) call rg n 18 [x0, x1] H lo =
 Option.bind (aBox x0 H) fun r0 =>
 Option.bind (aAlloc Try.prog 28 r0.2) fun r1 =>
 Option.bind (aAlloc Try.prog 25 r1.2) fun r2 =>
 Option.bind (aLoad Try.prog 25 r0.1 r2.2) fun t3 =>
 Option.bind (C 35 [snap r2.2 t3, snap r2.2 x1]) fun t4 =>
 Option.bind (aExtract t4 0) fun t5 =>
 Option.bind (aExtract t4 1) fun t6 =>
 Option.bind (aStore Try.prog 28 r1.1 (stV r1.1 r2.2 t5) r2.2 lo) fun H7 =>
 Option.bind (aBin Try.prog BinOp.neq 31 false true t6 (A.v (Value.int IntKind.i64 0))) fun t8 =>
 bIf t8 (Option.bind (aLoad Try.prog 28 r1.1 H7) fun t9 =>
 Option.bind (aLoad Try.prog 25 r2.1 H7) fun t10 => bif bif apart r2.1 r1.1 then true else false then
 Option.bind (aStore Try.prog 28 r1.1 (stV r1.1 H7 t9) H7 lo) fun H11 =>
 Option.bind (aStore Try.prog 25 r2.1 (stV r2.1 H11 t10) H11 lo) fun H12 =>
 Option.bind (aLoad Try.prog 28 r1.1 H12) fun t13 =>
 Option.bind (aLoad Try.prog 25 r2.1 H12) fun t14 => some (Out.ret (A.tup [t13, t14, t6]), H12) else none) (Option.bind (aFieldAddr Try.prog 25 r0.1 1 H7) fun t9 =>
 Option.bind (aLoad Try.prog 23 t9 H7) fun t10 =>
 Option.bind (aFieldAddr Try.prog 28 r1.1 0 H7) fun t11 =>
 Option.bind (aLoad Try.prog 3 t11 H7) fun t12 =>
 Option.bind (aFieldAddr Try.prog 28 r1.1 1 H7) fun t13 =>
 Option.bind (aLoad Try.prog 3 t13 H7) fun t14 =>
 Option.bind (C 37 [snap H7 t12, snap H7 t14]) fun t15 =>
 Option.bind (C 36 [snap H7 t10, snap H7 t15]) fun t16 =>
 bIf t16 (Option.bind (aBuild Try.prog 28 []) fun t17 =>
 Option.bind (aStore Try.prog 28 r1.1 (stV r1.1 H7 t17) H7 lo) fun H18 =>
 Option.bind (aLoad Try.prog 28 r1.1 H18) fun t19 =>
 Option.bind (aLoad Try.prog 25 r0.1 H18) fun t20 =>
 Option.bind (C 38 [snap H18 t20, snap H18 x1]) fun t21 =>
 Option.bind (aStore Try.prog 28 r1.1 (stV r1.1 H18 t19) H18 lo) fun H22 =>
 Option.bind (aStore Try.prog 25 r2.1 (stV r2.1 H22 t21) H22 lo) fun H23 =>
 Option.bind (aLoad Try.prog 28 r1.1 H23) fun t24 =>
 Option.bind (aLoad Try.prog 25 r2.1 H23) fun t25 => some (Out.ret (A.tup [t24, t25, A.v (Value.int IntKind.i64 0)]), H23)) (Option.bind (aLoad Try.prog 28 r1.1 H7) fun t17 =>
 Option.bind (aLoad Try.prog 25 r0.1 H7) fun t18 =>
 Option.bind (C 38 [snap H7 t18, snap H7 x1]) fun t19 =>
 Option.bind (aStore Try.prog 28 r1.1 (stV r1.1 H7 t17) H7 lo) fun H20 =>
 Option.bind (aStore Try.prog 25 r2.1 (stV r2.1 H20 t19) H20 lo) fun H21 =>
 Option.bind (aLoad Try.prog 28 r1.1 H21) fun t22 =>
 Option.bind (aLoad Try.prog 25 r2.1 H21) fun t23 => some (Out.ret (A.tup [t22, t23, A.v (Value.int IntKind.i64 0)]), H21))) := by kernel_rfl
theorem e19 (C : Nat → List A → Option A) (call : CallT) (rg : CallT → CallT) (n lo : Nat) (x0 x1 : A) (H : Heap) : evCall1 (cx C) call rg n 19 [x0, x1] H lo =
 Option.bind (aBox x0 H) fun r0 =>
 Option.bind (aBox x1 r0.2) fun r1 =>
 Option.bind (aFieldAddr Try.prog 28 r0.1 0 r1.2) fun t2 =>
 Option.bind (aLoad Try.prog 3 t2 r1.2) fun t3 =>
 Option.bind (aFieldAddr Try.prog 28 r1.1 0 r1.2) fun t4 =>
 Option.bind (aLoad Try.prog 3 t4 r1.2) fun t5 =>
 Option.bind (aBin Try.prog BinOp.eql 3 false false t3 t5) fun t6 =>
 Option.bind (bIf t6 (Option.bind (aFieldAddr Try.prog 28 r0.1 1 r1.2) fun t7 =>
 Option.bind (aLoad Try.prog 3 t7 r1.2) fun t8 =>
 Option.bind (aFieldAddr Try.prog 28 r1.1 1 r1.2) fun t9 =>
 Option.bind (aLoad Try.prog 3 t9 r1.2) fun t10 =>
 Option.bind (aBin Try.prog BinOp.eql 3 false false t8 t10) fun t11 => some [t11, t11, t10, t9, t8, t7]) (some [A.v (Value.bool false), A.v undef, A.v undef, A.v undef, A.v undef, A.v undef])) fun l7 => unc l7 fun u8 l8 => unc l8 fun u9 l9 => unc l9 fun u10 l10 => unc l10 fun u11 l11 => unc l11 fun u12 l12 => unc l12 fun u13 l13 =>
 Option.bind (bIf u8 (Option.bind (aFieldAddr Try.prog 28 r0.1 2 r1.2) fun t14 =>
 Option.bind (aLoad Try.prog 26 t14 r1.2) fun t15 =>
 Option.bind (aConvert Try.prog 26 9 t15 r1.2) fun t16 =>
 Option.bind (aFieldAddr Try.prog 28 r1.1 2 r1.2) fun t17 =>
 Option.bind (aLoad Try.prog 26 t17 r1.2) fun t18 =>
 Option.bind (aConvert Try.prog 26 9 t18 r1.2) fun t19 =>
 Option.bind (aBin Try.prog BinOp.eql 9 false false t16 t19) fun t20 => some [t20, t20, t19, t18, t17, t16, t15, t14]) (some [A.v (Value.bool false), A.v undef, A.v undef, A.v undef, A.v undef, A.v undef, A.v undef, A.v undef])) fun l14 => unc l14 fun u15 l15 => unc l15 fun u16 l16 => unc l16 fun u17 l17 => unc l17 fun u18 l18 => unc l18 fun u19 l19 => unc l19 fun u20 l20 => unc l20 fun u21 l21 => unc l21 fun u22 l22 => some (Out.ret u15, r1.2) := by kernel_rfl
theorem e20 (C : Nat → List A → Option A) (call : CallT) (rg : CallT → CallT) (n lo : Nat) (x0 x1 x2 x3 : A) (H : Heap) : evCall1 (cx C) call rg n 20 [x0, x1, x2, x3] H lo =
 Option.bind (aBox x0 H) fun r0 =>
 Option.bind (aAlloc Try.prog 25 r0.2) fun r1 =>
 Option.bind (aLoad Try.prog 25 r0.1 r1.2) fun t2 =>
 Option.bind (C 13 [snap r1.2 t2]) fun t3 =>
 Option.bind (aBin Try.prog BinOp.neq 31 false true t3 (A.v (Value.int IntKind.i64 0))) fun t4 =>
 bIf t4 (Option.bind (aLoad Try.prog 25 r1.1 r1.2) fun t5 =>
 Option.bind (aStore Try.prog 25 r1.1 (stV r1.1 r1.2 t5) r1.2 lo) fun H6 =>
 Option.bind (aLoad Try.prog 25 r1.1 H6) fun t7 => some (Out.ret (A.tup [t7, A.v (Value.int IntKind.i64 60)]), H6)) (Option.bind (C 37 [snap r1.2 x1, snap r1.2 x2]) fun t5 =>
 Option.bind (aAlloc Try.prog 58 r1.2) fun r6 =>
 Option.bind (aStore Try.prog 58 r6.1 (stV r6.1 r6.2 t5) r6.2 lo) fun H7 =>
 Option.bind (aLoad Try.prog 58 r6.1 H7) fun t8 =>
 Option.bind (C 32 [snap H7 t8]) fun t9 =>
 Option.bind (aUn Try.prog UnOp.not t9) fun t10 =>
 bIf t10 (Option.bind (aLoad Try.prog 25 r1.1 H7) fun t11 =>
 Option.bind (aStore Try.prog 25 r1.1 (stV r1.1 H7 t11) H7 lo) fun H12 =>
 Option.bind (aLoad Try.prog 25 r1.1 H12) fun t13 => some (Out.ret (A.tup [t13, A.v (Value.int IntKind.i64 1)]), H12)) (Option.bind (aFieldAddr Try.prog 25 r0.1 0 H7) fun t11 =>
 Option.bind (aLoad Try.prog 22 t11 H7) fun t12 =>
 Option.bind (aBuild Try.prog 25 [(0, t12)]) fun t13 =>
 Option.bind (aStore Try.prog 25 r1.1 (stV r1.1 H7 t13) H7 lo) fun H14 =>
 Option.bind (aFieldAddr Try.prog 25 r0.1 1 H14) fun t15 =>
 Option.bind (aLoad Try.prog 23 t15 H14) fun t16 =>
 Option.bind (aLoad Try.prog 58 r6.1 H14) fun t17 =>
 Option.bind (call 39 [t16, t17, x3] H14 lo) fun H18 => outK H18.1 (fun a19 =>
 Option.bind (fnOf Try.prog a19) fun r20 => bif Nat.ble lo (List.length (actC lo 1 3 r1.1 H18.2)) then
 Option.bind (rg (yext 64 call (List.length (actC lo 1 3 r1.1 H18.2)) (roundR (cx C) call rg n 20 lo 0 (List.length (actC lo 1 3 r1.1 H18.2)) [(8, r1.1)])) r20.1 (A.yld (List.length (actC lo 1 3 r1.1 H18.2)) :: r20.2) (actC lo 1 3 r1.1 H18.2 ++ [Blk.rng RSt.ready]) lo) fun H21 => outK H21.1 (fun a22 => rngSel (List.length (actC lo 1 3 r1.1 H18.2)) H21.2 (fun h23 =>
 Option.bind (aLoad Try.prog 25 r1.1 h23) fun t24 =>
 Option.bind (aStore Try.prog 25 r1.1 (stV r1.1 h23 t24) h23 lo) fun H25 =>
 Option.bind (aLoad Try.prog 25 r1.1 H25) fun t26 => some (Out.ret (A.tup [t26, A.v (Value.int IntKind.i64 0)]), H25)) (fun i23 h23 => bif Nat.beq i23 0 then
 Option.bind (aLoad Try.prog 25 r1.1 h23) fun t24 =>
 Option.bind (aStore Try.prog 25 r1.1 (stV r1.1 h23 t24) h23 lo) fun H25 =>
 Option.bind (aLoad Try.prog 25 r1.1 H25) fun t26 => some (Out.ret (A.tup [t26, A.v (Value.int IntKind.i64 0)]), H25) else none) (fun i23 h23 => none) fun h23 =>
 Option.bind (aLoad Try.prog 25 r1.1 h23) fun t24 => some (Out.ret (A.tup [t24, A.v (Value.int IntKind.i64 0)]), h23)) fun a22 => none else none) fun a19 => some (Out.pan a19, H18.2))) := by kernel_rfl
theorem e23 (C : Nat → List A → Option A) (call : CallT) (rg : CallT → CallT) (n lo : Nat) (x0 x1 : A) (H : Heap) : evCall1 (cx C) call rg n 23 [x0, x1] H lo =
 Option.bind (aBox x0 H) fun r0 =>
 Option.bind (aAlloc Try.prog 25 r0.2) fun r1 =>
 Option.bind (aLoad Try.prog 25 r0.1 r1.2) fun t2 =>
 Option.bind (C 35 [snap r1.2 t2, snap r1.2 x1]) fun t3 =>
 Option.bind (aExtract t3 0) fun t4 =>
 Option.bind (aExtract t3 1) fun t5 =>
 Option.bind (aBin Try.prog BinOp.neq 31 false true t5 (A.v (Value.int IntKind.i64 0))) fun t6 =>
 bIf t6 (Option.bind (aLoad Try.prog 25 r1.1 r1.2) fun t7 =>
 Option.bind (aStore Try.prog 25 r1.1 (stV r1.1 r1.2 t7) r1.2 lo) fun H8 =>
 Option.bind (aLoad Try.prog 25 r1.1 H8) fun t9 => some (Out.ret (A.tup [t9, t5]), H8)) (Option.bind (aLoad Try.prog 25 r0.1 r1.2) fun t7 =>
 Option.bind (C 38 [snap r1.2 t7, snap r1.2 x1]) fun t8 =>
 Option.bind (aStore Try.prog 25 r1.1 (stV r1.1 r1.2 t8) r1.2 lo) fun H9 =>
 Option.bind (aLoad Try.prog 25 r1.1 H9) fun t10 => some (Out.ret (A.tup [t10, A.v (Value.int IntKind.i64 0)]), H9)) := by kernel_rfl
theorem e25 (C : Nat → List A → Option A) (call : CallT) (rg : CallT → CallT) (n lo : Nat) (x0 x1 : A) (H : Heap) : evCall1 (cx C) call rg n 25 [x0, x1] H lo =
 Option.bind (aBox x0 H) fun r0 =>
 Option.bind (aAlloc Try.prog 25 r0.2) fun r1 =>
 Option.bind (aLoad Try.prog 25 r0.1 r1.2) fun t2 =>
 Option.bind (C 35 [snap r1.2 t2, snap r1.2 x1]) fun t3 =>
 Option.bind (aExtract t3 0) fun t4 =>
 Option.bind (aExtract t3 1) fun t5 =>
 Option.bind (aAlloc Try.prog 28 r1.2) fun r6 =>
 Option.bind (aStore Try.prog 28 r6.1 (stV r6.1 r6.2 t4) r6.2 lo) fun H7 =>
 Option.bind (aBin Try.prog BinOp.neq 31 false true t5 (A.v (Value.int IntKind.i64 0))) fun t8 =>
 bIf t8 (Option.bind (aLoad Try.prog 25 r1.1 H7) fun t9 =>
 Option.bind (aStore Try.prog 25 r1.1 (stV r1.1 H7 t9) H7 lo) fun H10 =>
 Option.bind (aLoad Try.prog 25 r1.1 H10) fun t11 => some (Out.ret (A.tup [t11, t5]), H10)) (Option.bind (aLoad Try.prog 25 r0.1 H7) fun t9 =>
 Option.bind (aLoad Try.prog 28 r6.1 H7) fun t10 =>
 Option.bind (C 11 [snap H7 t9, snap H7 t10]) fun t11 =>
 Option.bind (aExtract t11 0) fun t12 =>
 Option.bind (aExtract t11 1) fun t13 =>
 Option.bind (aStore Try.prog 25 r1.1 (stV r1.1 H7 t12) H7 lo) fun H14 =>
 Option.bind (aLoad Try.prog 25 r1.1 H14) fun t15 => some (Out.ret (A.tup [t15, t13]), H14)) := by kernel_rfl
theorem e27 (C : Nat → List A → Option A) (call : CallT) (rg : CallT → CallT) (n lo : Nat) (x0 x1 : A) (H : Heap) : evCall1 (cx C) call rg n 27 [x0, x1] H lo =
 Option.bind (aBox x0 H) fun r0 =>
 Option.bind (aBox x1 r0.2) fun r1 =>
 Option.bind (aAlloc Try.prog 25 r1.2) fun r2 =>
 Option.bind (aAlloc Try.prog 28 r2.2) fun r3 =>
 Option.bind (aFieldAddr Try.prog 25 r0.1 0 r3.2) fun t4 =>
 Option.bind (aLoad Try.prog 22 t4 r3.2) fun t5 =>
 Option.bind (aLen Try.prog 22 t5 r3.2) fun t6 =>
 Option.bind (aBin Try.prog BinOp.gtr 3 false true t6 (A.v (Value.int IntKind.i64 0))) fun t7 =>
 bIf t7 (Option.bind (aFieldAddr Try.prog 52 r1.1 1 r3.2) fun t8 =>
 Option.bind (aLoad Try.prog 5 t8 r3.2) fun t9 =>
 Option.bind (aConvert Try.prog 5 3 t9 r3.2) fun t10 =>
 Option.bind (aFieldAddr Try.prog 25 r0.1 0 r3.2) fun t11 =>
 Option.bind (aLoad Try.prog 22 t11 r3.2) fun t12 =>
 Option.bind (aLen Try.prog 22 t12 r3.2) fun t13 =>
 Option.bind (aBin Try.prog BinOp.rem 3 false false t10 t13) fun t14 =>
 Option.bind (aFieldAddr Try.prog 52 r1.1 2 r3.2) fun t15 =>
 Option.bind (aLoad Try.prog 5 t15 r3.2) fun t16 =>
 Option.bind (aConvert Try.prog 5 3 t16 r3.2) fun t17 =>
 Option.bind (aBin Try.prog BinOp.rem 3 false true t17 (A.v (Value.int IntKind.i64 24))) fun t18 =>
 Option.bind (aFieldAddr Try.prog 52 r1.1 3 r3.2) fun t19 =>
 Option.bind (aLoad Try.prog 5 t19 r3.2) fun t20 =>
 Option.bind (aConvert Try.prog 5 3 t20 r3.2) fun t21 =>
 Option.bind (aBin Try.prog BinOp.rem 3 false true t21 (A.v (Value.int IntKind.i64 24))) fun t22 =>
 Option.bind (aFieldAddr Try.prog 52 r1.1 0 r3.2) fun t23 =>
 Option.bind (aLoad Try.prog 5 t23 r3.2) fun t24 =>
 Option.bind (aBin Try.prog BinOp.rem 5 false true t24 (A.v (Value.int IntKind.u8 6))) fun t25 =>
 Option.bind (aBin Try.prog BinOp.eql 5 false true t25 (A.v (Value.int IntKind.u8 0))) fun t26 =>
 bIf t26 (Option.bind (aLoad Try.prog 25 r0.1 r3.2) fun t27 =>
 Option.bind (aFieldAddr Try.prog 52 r1.1 4 r3.2) fun t28 =>
 Option.bind (aLoad Try.prog 5 t28 r3.2) fun t29 =>
 Option.bind (aBuildSlice Try.prog 26 1 [(0, frzA r3.2 t29)]) fun t30 =>
 Option.bind (aBuild Try.prog 28 [(0, t18), (1, t22), (2, t30)]) fun t31 =>
 Option.bind (C 11 [snap r3.2 t27, snap r3.2 t31]) fun t32 =>
 Option.bind (aExtract t32 0) fun t33 =>
 Option.bind (aExtract t32 1) fun t34 =>
 Option.bind (aStore Try.prog 25 r2.1 (stV r2.1 r3.2 t33) r3.2 lo) fun H35 =>
 Option.bind (aLoad Try.prog 25 r2.1 H35) fun t36 =>
 Option.bind (aLoad Try.prog 28 r3.1 H35) fun t37 => bif bif apart r3.1 r2.1 then true else false then
 Option.bind (aStore Try.prog 25 r2.1 (stV r2.1 H35 t36) H35 lo) fun H38 =>
 Option.bind (aStore Try.prog 28 r3.1 (stV r3.1 H38 t37) H38 lo) fun H39 =>
 Option.bind (aLoad Try.prog 25 r2.1 H39) fun t40 =>
 Option.bind (aLoad Try.prog 28 r3.1 H39) fun t41 => some (Out.ret (A.tup [t40, t41, t34]), H39) else none) (Option.bind (aBin Try.prog BinOp.eql 5 false true t25 (A.v (Value.int IntKind.u8 1))) fun t27 =>
 bIf t27 (Option.bind (aLoad Try.prog 25 r0.1 r3.2) fun t28 =>
 Option.bind (C 18 [snap r3.2 t28, snap r3.2 t14]) fun t29 =>
 Option.bind (aExtract t29 0) fun t30 =>
 Option.bind (aExtract t29 1) fun t31 =>
 Option.bind (aExtract t29 2) fun t32 =>
 Option.bind (aStore Try.prog 28 r3.1 (stV r3.1 r3.2 t30) r3.2 lo) fun H33 =>
 Option.bind (aStore Try.prog 25 r2.1 (stV r2.1 H33 t31) H33 lo) fun H34 =>
 Option.bind (aLoad Try.prog 25 r2.1 H34) fun t35 =>
 Option.bind (aLoad Try.prog 28 r3.1 H34) fun t36 => bif bif apart r3.1 r2.1 then true else false then
 Option.bind (aStore Try.prog 25 r2.1 (stV r2.1 H34 t35) H34 lo) fun H37 =>
 Option.bind (aStore Try.prog 28 r3.1 (stV r3.1 H37 t36) H37 lo) fun H38 =>
 Option.bind (aLoad Try.prog 25 r2.1 H38) fun t39 =>
 Option.bind (aLoad Try.prog 28 r3.1 H38) fun t40 => some (Out.ret (A.tup [t39, t40, t32]), H38) else none) (Option.bind (aBin Try.prog BinOp.eql 5 false true t25 (A.v (Value.int IntKind.u8 2))) fun t28 =>
 bIf t28 (Option.bind (aLoad Try.prog 25 r0.1 r3.2) fun t29 =>
 Option.bind (C 23 [snap r3.2 t29, snap r3.2 t14]) fun t30 =>
 Option.bind (aExtract t30 0) fun t31 =>
 Option.bind (aExtract t30 1) fun t32 =>
 Option.bind (aStore Try.prog 25 r2.1 (stV r2.1 r3.2 t31) r3.2 lo) fun H33 =>
 Option.bind (aLoad Try.prog 25 r2.1 H33) fun t34 =>
 Option.bind (aLoad Try.prog 28 r3.1 H33) fun t35 => bif bif apart r3.1 r2.1 then true else false then
 Option.bind (aStore Try.prog 25 r2.1 (stV r2.1 H33 t34) H33 lo) fun H36 =>
 Option.bind (aStore Try.prog 28 r3.1 (stV r3.1 H36 t35) H36 lo) fun H37 =>
 Option.bind (aLoad Try.prog 25 r2.1 H37) fun t38 =>
 Option.bind (aLoad Try.prog 28 r3.1 H37) fun t39 => some (Out.ret (A.tup [t38, t39, t32]), H37) else none) (Option.bind (aBin Try.prog BinOp.eql 5 false true t25 (A.v (Value.int IntKind.u8 3))) fun t29 =>
 bIf t29 (Option.bind (aLoad Try.prog 25 r0.1 r3.2) fun t30 =>
 Option.bind (C 25 [snap r3.2 t30, snap r3.2 t14]) fun t31 =>
 Option.bind (aExtract t31 0) fun t32 =>
 Option.bind (aExtract t31 1) fun t33 =>
 Option.bind (aStore Try.prog 25 r2.1 (stV r2.1 r3.2 t32) r3.2 lo) fun H34 =>
 Option.bind (aLoad Try.prog 25 r2.1 H34) fun t35 =>
 Option.bind (aLoad Try.prog 28 r3.1 H34) fun t36 => bif bif apart r3.1 r2.1 then true else false then
 Option.bind (aStore Try.prog 25 r2.1 (stV r2.1 H34 t35) H34 lo) fun H37 =>
 Option.bind (aStore Try.prog 28 r3.1 (stV r3.1 H37 t36) H37 lo) fun H38 =>
 Option.bind (aLoad Try.prog 25 r2.1 H38) fun t39 =>
 Option.bind (aLoad Try.prog 28 r3.1 H38) fun t40 => some (Out.ret (A.tup [t39, t40, t33]), H38) else none) (Option.bind (aBin Try.prog BinOp.eql 5 false true t25 (A.v (Value.int IntKind.u8 4))) fun t30 =>
 bIf t30 (Option.bind (aLoad Try.prog 25 r0.1 r3.2) fun t31 =>
 Option.bind (C 20 [snap r3.2 t31, snap r3.2 t18, snap r3.2 t22, snap r3.2 (A.v (Value.bool true))]) fun t32 =>
 Option.bind (aExtract t32 0) fun t33 =>
 Option.bind (aExtract t32 1) fun t34 =>
 Option.bind (aStore Try.prog 25 r2.1 (stV r2.1 r3.2 t33) r3.2 lo) fun H35 =>
 Option.bind (aLoad Try.prog 25 r2.1 H35) fun t36 =>
 Option.bind (aLoad Try.prog 28 r3.1 H35) fun t37 => bif bif apart r3.1 r2.1 then true else false then
 Option.bind (aStore Try.prog 25 r2.1 (stV r2.1 H35 t36) H35 lo) fun H38 =>
 Option.bind (aStore Try.prog 28 r3.1 (stV r3.1 H38 t37) H38 lo) fun H39 =>
 Option.bind (aLoad Try.prog 25 r2.1 H39) fun t40 =>
 Option.bind (aLoad Try.prog 28 r3.1 H39) fun t41 => some (Out.ret (A.tup [t40, t41, t34]), H39) else none) (Option.bind (aBin Try.prog BinOp.eql 5 false true t25 (A.v (Value.int IntKind.u8 5))) fun t31 =>
 bIf t31 (Option.bind (aLoad Try.prog 25 r0.1 r3.2) fun t32 =>
 Option.bind (C 20 [snap r3.2 t32, snap r3.2 t18, snap r3.2 t22, snap r3.2 (A.v (Value.bool false))]) fun t33 =>
 Option.bind (aExtract t33 0) fun t34 =>
 Option.bind (aExtract t33 1) fun t35 =>
 Option.bind (aStore Try.prog 25 r2.1 (stV r2.1 r3.2 t34) r3.2 lo) fun H36 =>
 Option.bind (aLoad Try.prog 25 r2.1 H36) fun t37 =>
 Option.bind (aLoad Try.prog 28 r3.1 H36) fun t38 => bif bif apart r3.1 r2.1 then true else false then
 Option.bind (aStore Try.prog 25 r2.1 (stV r2.1 H36 t37) H36 lo) fun H39 =>
 Option.bind (aStore Try.prog 28 r3.1 (stV r3.1 H39 t38) H39 lo) fun H40 =>
 Option.bind (aLoad Try.prog 25 r2.1 H40) fun t41 =>
 Option.bind (aLoad Try.prog 28 r3.1 H40) fun t42 => some (Out.ret (A.tup [t41, t42, t35]), H40) else none) (Option.bind (aLoad Try.prog 25 r2.1 r3.2) fun t32 =>
 Option.bind (aLoad Try.prog 28 r3.1 r3.2) fun t33 => bif bif apart r3.1 r2.1 then true else false then
 Option.bind (aStore Try.prog 25 r2.1 (stV r2.1 r3.2 t32) r3.2 lo) fun H34 =>
 Option.bind (aStore Try.prog 28 r3.1 (stV r3.1 H34 t33) H34 lo) fun H35 =>
 Option.bind (aLoad Try.prog 25 r2.1 H35) fun t36 =>
 Option.bind (aLoad Try.prog 28 r3.1 H35) fun t37 => some (Out.ret (A.tup [t36, t37, A.v (Value.int IntKind.i64 0)]), H35) else none))))))) (Option.bind (aFieldAddr Try.prog 52 r1.1 2 r3.2) fun t8 =>
 Option.bind (aLoad Try.prog 5 t8 r3.2) fun t9 =>
 Option.bind (aConvert Try.prog 5 3 t9 r3.2) fun t10 =>
 Option.bind (aBin Try.prog BinOp.rem 3 false true t10 (A.v (Value.int IntKind.i64 24))) fun t11 =>
 Option.bind (aFieldAddr Try.prog 52 r1.1 3 r3.2) fun t12 =>
 Option.bind (aLoad Try.prog 5 t12 r3.2) fun t13 =>
 Option.bind (aConvert Try.prog 5 3 t13 r3.2) fun t14 =>
 Option.bind (aBin Try.prog BinOp.rem 3 false true t14 (A.v (Value.int IntKind.i64 24))) fun t15 =>
 Option.bind (aFieldAddr Try.prog 52 r1.1 0 r3.2) fun t16 =>
 Option.bind (aLoad Try.prog 5 t16 r3.2) fun t17 =>
 Option.bind (aBin Try.prog BinOp.rem 5 false true t17 (A.v (Value.int IntKind.u8 6))) fun t18 =>
 Option.bind (aBin Try.prog BinOp.eql 5 false true t18 (A.v (Value.int IntKind.u8 0))) fun t19 =>
 bIf t19 (Option.bind (aLoad Try.prog 25 r0.1 r3.2) fun t20 =>
 Option.bind (aFieldAddr Try.prog 52 r1.1 4 r3.2) fun t21 =>
 Option.bind (aLoad Try.prog 5 t21 r3.2) fun t22 =>
 Option.bind (aBuildSlice Try.prog 26 1 [(0, frzA r3.2 t22)]) fun t23 =>
 Option.bind (aBuild Try.prog 28 [(0, t11), (1, t15), (2, t23)]) fun t24 =>
 Option.bind (C 11 [snap r3.2 t20, snap r3.2 t24]) fun t25 =>
 Option.bind (aExtract t25 0) fun t26 =>
 Option.bind (aExtract t25 1) fun t27 =>
 Option.bind (aStore Try.prog 25 r2.1 (stV r2.1 r3.2 t26) r3.2 lo) fun H28 =>
 Option.bind (aLoad Try.prog 25 r2.1 H28) fun t29 =>
 Option.bind (aLoad Try.prog 28 r3.1 H28) fun t30 => bif bif apart r3.1 r2.1 then true else false then
 Option.bind (aStore Try.prog 25 r2.1 (stV r2.1 H28 t29) H28 lo) fun H31 =>
 Option.bind (aStore Try.prog 28 r3.1 (stV r3.1 H31 t30) H31 lo) fun H32 =>
 Option.bind (aLoad Try.prog 25 r2.1 H32) fun t33 =>
 Option.bind (aLoad Try.prog 28 r3.1 H32) fun t34 => some (Out.ret (A.tup [t33, t34, t27]), H32) else none) (Option.bind (aBin Try.prog BinOp.eql 5 false true t18 (A.v (Value.int IntKind.u8 1))) fun t20 =>
 bIf t20 (Option.bind (aLoad Try.prog 25 r0.1 r3.2) fun t21 =>
 Option.bind (C 18 [snap r3.2 t21, snap r3.2 (A.v (Value.int IntKind.i64 0))]) fun t22 =>
 Option.bind (aExtract t22 0) fun t23 =>
 Option.bind (aExtract t22 1) fun t24 =>
 Option.bind (aExtract t22 2) fun t25 =>
 Option.bind (aStore Try.prog 28 r3.1 (stV r3.1 r3.2 t23) r3.2 lo) fun H26 =>
 Option.bind (aStore Try.prog 25 r2.1 (stV r2.1 H26 t24) H26 lo) fun H27 =>
 Option.bind (aLoad Try.prog 25 r2.1 H27) fun t28 =>
 Option.bind (aLoad Try.prog 28 r3.1 H27) fun t29 => bif bif apart r3.1 r2.1 then true else false then
 Option.bind (aStore Try.prog 25 r2.1 (stV r2.1 H27 t28) H27 lo) fun H30 =>
 Option.bind (aStore Try.prog 28 r3.1 (stV r3.1 H30 t29) H30 lo) fun H31 =>
 Option.bind (aLoad Try.prog 25 r2.1 H31) fun t32 =>
 Option.bind (aLoad Try.prog 28 r3.1 H31) fun t33 => some (Out.ret (A.tup [t32, t33, t25]), H31) else none) (Option.bind (aBin Try.prog BinOp.eql 5 false true t18 (A.v (Value.int IntKind.u8 2))) fun t21 =>
 bIf t21 (Option.bind (aLoad Try.prog 25 r0.1 r3.2) fun t22 =>
 Option.bind (C 23 [snap r3.2 t22, snap r3.2 (A.v (Value.int IntKind.i64 0))]) fun t23 =>
 Option.bind (aExtract t23 0) fun t24 =>
 Option.bind (aExtract t23 1) fun t25 =>
 Option.bind (aStore Try.prog 25 r2.1 (stV r2.1 r3.2 t24) r3.2 lo) fun H26 =>
 Option.bind (aLoad Try.prog 25 r2.1 H26) fun t27 =>
 Option.bind (aLoad Try.prog 28 r3.1 H26) fun t28 => bif bif apart r3.1 r2.1 then true else false then
 Option.bind (aStore Try.prog 25 r2.1 (stV r2.1 H26 t27) H26 lo) fun H29 =>
 Option.bind (aStore Try.prog 28 r3.1 (stV r3.1 H29 t28) H29 lo) fun H30 =>
 Option.bind (aLoad Try.prog 25 r2.1 H30) fun t31 =>
 Option.bind (aLoad Try.prog 28 r3.1 H30) fun t32 => some (Out.ret (A.tup [t31, t32, t25]), H30) else none) (Option.bind (aBin Try.prog BinOp.eql 5 false true t18 (A.v (Value.int IntKind.u8 3))) fun t22 =>
 bIf t22 (Option.bind (aLoad Try.prog 25 r0.1 r3.2) fun t23 =>
 Option.bind (C 25 [snap r3.2 t23, snap r3.2 (A.v (Value.int IntKind.i64 0))]) fun t24 =>
 Option.bind (aExtract t24 0) fun t25 =>
 Option.bind (aExtract t24 1) fun t26 =>
 Option.bind (aStore Try.prog 25 r2.1 (stV r2.1 r3.2 t25) r3.2 lo) fun H27 =>
 Option.bind (aLoad Try.prog 25 r2.1 H27) fun t28 =>
 Option.bind (aLoad Try.prog 28 r3.1 H27) fun t29 => bif bif apart r3.1 r2.1 then true else false then
 Option.bind (aStore Try.prog 25 r2.1 (stV r2.1 H27 t28) H27 lo) fun H30 =>
 Option.bind (aStore Try.prog 28 r3.1 (stV r3.1 H30 t29) H30 lo) fun H31 =>
 Option.bind (aLoad Try.prog 25 r2.1 H31) fun t32 =>
 Option.bind (aLoad Try.prog 28 r3.1 H31) fun t33 => some (Out.ret (A.tup [t32, t33, t26]), H31) else none) (Option.bind (aBin Try.prog BinOp.eql 5 false true t18 (A.v (Value.int IntKind.u8 4))) fun t23 =>
 bIf t23 (Option.bind (aLoad Try.prog 25 r0.1 r3.2) fun t24 =>
 Option.bind (C 20 [snap r3.2 t24, snap r3.2 t11, snap r3.2 t15, snap r3.2 (A.v (Value.bool true))]) fun t25 =>
 Option.bind (aExtract t25 0) fun t26 =>
 Option.bind (aExtract t25 1) fun t27 =>
 Option.bind (aStore Try.prog 25 r2.1 (stV r2.1 r3.2 t26) r3.2 lo) fun H28 =>
 Option.bind (aLoad Try.prog 25 r2.1 H28) fun t29 =>
 Option.bind (aLoad Try.prog 28 r3.1 H28) fun t30 => bif bif apart r3.1 r2.1 then true else false then
 Option.bind (aStore Try.prog 25 r2.1 (stV r2.1 H28 t29) H28 lo) fun H31 =>
 Option.bind (aStore Try.prog 28 r3.1 (stV r3.1 H31 t30) H31 lo) fun H32 =>
 Option.bind (aLoad Try.prog 25 r2.1 H32) fun t33 =>
 Option.bind (aLoad Try.prog 28 r3.1 H32) fun t34 => some (Out.ret (A.tup [t33, t34, t27]), H32) else none) (Option.bind (aBin Try.prog BinOp.eql 5 false true t18 (A.v (Value.int IntKind.u8 5))) fun t24 =>
 bIf t24 (Option.bind (aLoad Try.prog 25 r0.1 r3.2) fun t25 =>
 Option.bind (C 20 [snap r3.2 t25, snap r3.2 t11, snap r3.2 t15, snap r3.2 (A.v (Value.bool false))]) fun t26 =>
 Option.bind (aExtract t26 0) fun t27 =>
 Option.bind (aExtract t26 1) fun t28 =>
 Option.bind (aStore Try.prog 25 r2.1 (stV r2.1 r3.2 t27) r3.2 lo) fun H29 =>
 Option.bind (aLoad Try.prog 25 r2.1 H29) fun t30 =>
 Option.bind (aLoad Try.prog 28 r3.1 H29) fun t31 => bif bif apart r3.1 r2.1 then true else false then
 Option.bind (aStore Try.prog 25 r2.1 (stV r2.1 H29 t30) H29 lo) fun H32 =>
 Option.bind (aStore Try.prog 28 r3.1 (stV r3.1 H32 t31) H32 lo) fun H33 =>
 Option.bind (aLoad Try.prog 25 r2.1 H33) fun t34 =>
 Option.bind (aLoad Try.prog 28 r3.1 H33) fun t35 => some (Out.ret (A.tup [t34, t35, t28]), H33) else none) (Option.bind (aLoad Try.prog 25 r2.1 r3.2) fun t25 =>
 Option.bind (aLoad Try.prog 28 r3.1 r3.2) fun t26 => bif bif apart r3.1 r2.1 then true else false then
 Option.bind (aStore Try.prog 25 r2.1 (stV r2.1 r3.2 t25) r3.2 lo) fun H27 =>
 Option.bind (aStore Try.prog 28 r3.1 (stV r3.1 H27 t26) H27 lo) fun H28 =>
 Option.bind (aLoad Try.prog 25 r2.1 H28) fun t29 =>
 Option.bind (aLoad Try.prog 28 r3.1 H28) fun t30 => some (Out.ret (A.tup [t29, t30, A.v (Value.int IntKind.i64 0)]), H28) else none))))))) := by kernel_rfl
theorem e28 (C : Nat → List A → Option A) (call : CallT) (rg : CallT → CallT) (n lo : Nat) (x0 : A) (H : Heap) : evCall1 (cx C) call rg n 28 [x0] H lo =
 Option.bind (aBox x0 H) fun r0 =>
 Option.bind (aFieldAddr Try.prog 28 r0.1 0 r0.2) fun t1 =>
 Option.bind (aLoad Try.prog 3 t1 r0.2) fun t2 =>
 Option.bind (aFieldAddr Try.prog 28 r0.1 1 r0.2) fun t3 =>
 Option.bind (aLoad Try.prog 3 t3 r0.2) fun t4 =>
 Option.bind (C 37 [snap r0.2 t2, snap r0.2 t4]) fun t5 =>
 Option.bind (C 32 [snap r0.2 t5]) fun t6 =>
 Option.bind (bIf t6 (Option.bind (aFieldAddr Try.prog 28 r0.1 2 r0.2) fun t7 =>
 Option.bind (aLoad Try.prog 26 t7 r0.2) fun t8 =>
 Option.bind (aLen Try.prog 26 t8 r0.2) fun t9 =>
 Option.bind (aBin Try.prog BinOp.leq 3 false true t9 (A.v (Value.int IntKind.i64 1048576))) fun t10 => some [t10, t10, t9, t8, t7]) (some [A.v (Value.bool false), A.v undef, A.v undef, A.v undef, A.v undef])) fun l7 => unc l7 fun u8 l8 => unc l8 fun u9 l9 => unc l9 fun u10 l10 => unc l10 fun u11 l11 => unc l11 fun u12 l12 => some (Out.ret u8, r0.2) := by kernel_rfl
theorem e30 (C : Nat → List A → Option A) (call : CallT) (rg : CallT → CallT) (n lo : Nat) (x0 x1 : A) (H : Heap) : evCall1 (cx C) call rg n 30 [x0, x1] H lo =
 Option.bind (C 43 [snap H x0, snap H x1]) fun t0 =>
 Option.bind (aBin Try.prog BinOp.geq 3 false true t0 (A.v (Value.int IntKind.i64 0))) fun t1 => some (Out.ret t1, H) := by kernel_rfl
theorem e31 (C : Nat → List A → Option A) (call : CallT) (rg : CallT → CallT) (n lo : Nat) (x0 : A) (H : Heap) : evCall1 (cx C) call rg n 31 [x0] H lo =
 Option.bind (aBox x0 H) fun r0 =>
 Option.bind (aLoad Try.prog 28 r0.1 r0.2) fun t1 =>
 Option.bind (C 28 [snap r0.2 t1]) fun t2 =>
 Option.bind (aUn Try.prog UnOp.not t2) fun t3 => some (Out.ret t3, r0.2) := by kernel_rfl
theorem e32 (C : Nat → List A → Option A) (call : CallT) (rg : CallT → CallT) (n lo : Nat) (x0 : A) (H : Heap) : evCall1 (cx C) call rg n 32 [x0] H lo =
 Option.bind (aBox x0 H) fun r0 =>
 Option.bind (aIndexAddr Try.prog 58 r0.1 (A.v (Value.int IntKind.i64 0)) r0.2) fun t1 =>
 Option.bind (aLoad Try.prog 3 t1 r0.2) fun t2 =>
 Option.bind (aBin Try.prog BinOp.geq 3 false true t2 (A.v (Value.int IntKind.i64 0))) fun t3 =>
 Option.bind (bIf t3 (Option.bind (aIndexAddr Try.prog 58 r0.1 (A.v (Value.int IntKind.i64 0)) r0.2) fun t4 =>
 Option.bind (aLoad Try.prog 3 t4 r0.2) fun t5 =>
 Option.bind (aIndexAddr Try.prog 58 r0.1 (A.v (Value.int IntKind.i64 1)) r0.2) fun t6 =>
 Option.bind (aLoad Try.prog 3 t6 r0.2) fun t7 =>
 Option.bind (aBin Try.prog BinOp.lss 3 false false t5 t7) fun t8 => some [t8, t8, t7, t6, t5, t4]) (some [A.v (Value.bool false), A.v undef, A.v undef, A.v undef, A.v undef, A.v undef])) fun l4 => unc l4 fun u5 l5 => unc l5 fun u6 l6 => unc l6 fun u7 l7 => unc l7 fun u8 l8 => unc l8 fun u9 l9 => unc l9 fun u10 l10 =>
 Option.bind (bIf u5 (Option.bind (aIndexAddr Try.prog 58 r0.1 (A.v (Value.int IntKind.i64 1)) r0.2) fun t11 =>
 Option.bind (aLoad Try.prog 3 t11 r0.2) fun t12 =>
 Option.bind (aBin Try.prog BinOp.lss 3 false true t12 (A.v (Value.int IntKind.i64 24))) fun t13 => some [t13, t13, t12, t11]) (some [A.v (Value.bool false), A.v undef, A.v undef, A.v undef])) fun l11 => unc l11 fun u12 l12 => unc l12 fun u13 l13 => unc l13 fun u14 l14 => unc l14 fun u15 l15 => some (Out.ret u12, r0.2) := by kernel_rfl
theorem e33 (C : Nat → List A → Option A) (call : CallT) (rg : CallT → CallT) (n lo : Nat) (x0 x1 : A) (H : Heap) : evCall1 (cx C) call rg n 33 [x0, x1] H lo =
 Option.bind (aLen Try.prog 45 x0 H) fun t0 => loopR (cx C) call rg n 33 lo 0 (List.length H) (fun i1 s1 => bif Nat.beq i1 0 then
 Option.bind (aLen Try.prog 45 (look (St.fr s1) 0) (St.H s1)) fun t2 =>
 Option.bind (aLen Try.prog 45 (look (St.fr s1) 1) (St.H s1)) fun t3 =>
 Option.bind (aBin Try.prog BinOp.lss 3 false false t2 t3) fun t4 =>
 bIf t4 (some (Out.ret (A.v (Value.int IntKind.i64 (-1))), St.H s1)) (some (Out.ret (A.v (Value.int IntKind.i64 0)), St.H s1)) else none) (fun i1 s1 => none) (fun a1 => some (Out.ret (look (St.fr a1) 4), St.H a1)) (fun i1 s1 => some (Out.pan i1, St.H s1)) n (St.mk [(0, x0), (1, x1), (4, A.v (Value.int IntKind.i64 0)), (9, x0), (10, t0), (11, A.v (Value.int IntKind.i64 0))] H) := by kernel_rfl
theorem e35 (C : Nat → List A → Option A) (call : CallT) (rg : CallT → CallT) (n lo : Nat) (x0 x1 : A) (H : Heap) : evCall1 (cx C) call rg n 35 [x0, x1] H lo =
 Option.bind (aBox x0 H) fun r0 =>
 Option.bind (aAlloc Try.prog 28 r0.2) fun r1 =>
 Option.bind (aLoad Try.prog 25 r0.1 r1.2) fun t2 =>
 Option.bind (C 13 [snap r1.2 t2]) fun t3 =>
 Option.bind (aBin Try.prog BinOp.neq 31 false true t3 (A.v (Value.int IntKind.i64 0))) fun t4 =>
 bIf t4 (Option.bind (aLoad Try.prog 28 r1.1 r1.2) fun t5 =>
 Option.bind (aStore Try.prog 28 r1.1 (stV r1.1 r1.2 t5) r1.2 lo) fun H6 =>
 Option.bind (aLoad Try.prog 28 r1.1 H6) fun t7 => some (Out.ret (A.tup [t7, A.v (Value.int IntKind.i64 60)]), H6)) (Option.bind (aBin Try.prog BinOp.lss 3 false true x1 (A.v (Value.int IntKind.i64 0))) fun t5 =>
 Option.bind (bIf t5 (some [A.v (Value.bool true), A.v undef, A.v undef, A.v undef, A.v undef, A.v undef]) (Option.bind (aFieldAddr Try.prog 25 r0.1 0 r1.2) fun t6 =>
 Option.bind (aLoad Try.prog 22 t6 r1.2) fun t7 =>
 Option.bind (aLen Try.prog 22 t7 r1.2) fun t8 =>
 Option.bind (aBin Try.prog BinOp.geq 3 false false x1 t8) fun t9 => some [t9, t9, t8, t7, t6, x1])) fun l6 => unc l6 fun u7 l7 => unc l7 fun u8 l8 => unc l8 fun u9 l9 => unc l9 fun u10 l10 => unc l10 fun u11 l11 => unc l11 fun u12 l12 =>
 bIf u7 (Option.bind (aLoad Try.prog 28 r1.1 r1.2) fun t13 =>
 Option.bind (aStore Try.prog 28 r1.1 (stV r1.1 r1.2 t13) r1.2 lo) fun H14 =>
 Option.bind (aLoad Try.prog 28 r1.1 H14) fun t15 => some (Out.ret (A.tup [t15, A.v (Value.int IntKind.i64 1)]), H14)) (Option.bind (aFieldAddr Try.prog 25 r0.1 0 r1.2) fun t13 =>
 Option.bind (aLoad Try.prog 22 t13 r1.2) fun t14 =>
 Option.bind (aIndexAddr Try.prog 22 t14 x1 r1.2) fun t15 =>
 Option.bind (aLoad Try.prog 28 t15 r1.2) fun t16 =>
 Option.bind (aStore Try.prog 28 r1.1 (stV r1.1 r1.2 t16) r1.2 lo) fun H17 =>
 Option.bind (aLoad Try.prog 28 r1.1 H17) fun t18 => some (Out.ret (A.tup [t18, A.v (Value.int IntKind.i64 0)]), H17))) := by kernel_rfl
theorem e36 (C : Nat → List A → Option A) (call : CallT) (rg : CallT → CallT) (n lo : Nat) (x0 x1 : A) (H : Heap) : evCall1 (cx C) call rg n 36 [x0, x1] H lo =
 Option.bind (aBox x1 H) fun r0 =>
 Option.bind (aLoad Try.prog 55 r0.1 r0.2) fun t1 =>
 Option.bind (C 45 [snap r0.2 x0, snap r0.2 t1]) fun t2 =>
 Option.bind (aBin Try.prog BinOp.geq 3 false true t2 (A.v (Value.int IntKind.i64 0))) fun t3 => some (Out.ret t3, r0.2) := by kernel_rfl
theorem e37 (C : Nat → List A → Option A) (call : CallT) (rg : CallT → CallT) (n lo : Nat) (x0 x1 : A) (H : Heap) : evCall1 (cx C) call rg n 37 [x0, x1] H lo =
 Option.bind (aAlloc Try.prog 58 H) fun r0 =>
 Option.bind (aMM true x0 [x1]) fun t1 =>
 Option.bind (aMM false x0 [x1]) fun t2 =>
 Option.bind (aBuild Try.prog 58 [(0, t1), (1, t2)]) fun t3 =>
 Option.bind (aStore Try.prog 58 r0.1 (stV r0.1 r0.2 t3) r0.2 lo) fun H4 =>
 Option.bind (aLoad Try.prog 58 r0.1 H4) fun t5 => some (Out.ret t5, H4) := by kernel_rfl
theorem e38 (C : Nat → List A → Option A) (call : CallT) (rg : CallT → CallT) (n lo : Nat) (x0 x1 : A) (H : Heap) : evCall1 (cx C) call rg n 38 [x0, x1] H lo =
 Option.bind (aBox x0 H) fun r0 =>
 Option.bind (aAlloc Try.prog 25 r0.2) fun r1 =>
 Option.bind (aFieldAddr Try.prog 25 r0.1 0 r1.2) fun t2 =>
 Option.bind (aLoad Try.prog 22 t2 r1.2) fun t3 =>
 Option.bind (aSlice Try.prog 22 t3 none (some x1) (some x1) r1.2) fun t4 =>
 Option.bind (aFieldAddr Try.prog 25 r0.1 0 r1.2) fun t5 =>
 Option.bind (aLoad Try.prog 22 t5 r1.2) fun t6 =>
 Option.bind (aBin Try.prog BinOp.add 3 false true x1 (A.v (Value.int IntKind.i64 1))) fun t7 =>
 Option.bind (aSlice Try.prog 22 t6 (some t7) none none r1.2) fun t8 =>
 Option.bind (aAppend Try.prog 22 22 false t4 t8 r1.2 lo) fun r9 =>
 Option.bind (aFieldAddr Try.prog 25 r0.1 0 r9.2) fun t10 =>
 Option.bind (aStore Try.prog 22 t10 (stV t10 r9.2 r9.1) r9.2 lo) fun H11 =>
 Option.bind (aLoad Try.prog 25 r0.1 H11) fun t12 =>
 Option.bind (aStore Try.prog 25 r1.1 (stV r1.1 H11 t12) H11 lo) fun H13 =>
 Option.bind (aLoad Try.prog 25 r1.1 H13) fun t14 => some (Out.ret t14, H13) := by kernel_rfl
theorem e43 (C : Nat → List A → Option A) (call : CallT) (rg : CallT → CallT) (n lo : Nat) (x0 x1 : A) (H : Heap) : evCall1 (cx C) call rg n 43 [x0, x1] H lo =
 Option.bind (aLen Try.prog 22 x0 H) fun t0 => loopR (cx C) call rg n 43 lo 0 (List.length H) (fun i1 s1 => bif Nat.beq i1 0 then some (Out.ret (A.v (Value.int IntKind.i64 (-1))), St.H s1) else none) (fun i1 s1 => none) (fun a1 => some (Out.ret (look (St.fr a1) 4), St.H a1)) (fun i1 s1 => some (Out.pan i1, St.H s1)) n (St.mk [(0, x0), (1, x1), (4, A.v (Value.int IntKind.i64 0)), (7, t0), (8, A.v (Value.int IntKind.i64 0))] H) := by kernel_rfl
theorem e44 (C : Nat → List A → Option A) (call : CallT) (rg : CallT → CallT) (n lo : Nat) (x0 x1 : A) (H : Heap) : evCall1 (cx C) call rg n 44 [x0, x1] H lo =
 Option.bind (C 47 [snap H x0]) fun t0 =>
 Option.bind (C 47 [snap H x1]) fun t1 =>
 bIf t0 (bIf t1 (some (Out.ret (A.v (Value.int IntKind.i64 0)), H)) (some (Out.ret (A.v (Value.int IntKind.i64 (-1))), H))) (bIf t1 (some (Out.ret (A.v (Value.int IntKind.i64 1)), H)) (Option.bind (aBin Try.prog BinOp.lss 3 false false x0 x1) fun t2 =>
 bIf t2 (some (Out.ret (A.v (Value.int IntKind.i64 (-1))), H)) (Option.bind (aBin Try.prog BinOp.gtr 3 false false x0 x1) fun t3 =>
 bIf t3 (some (Out.ret (A.v (Value.int IntKind.i64 1)), H)) (some (Out.ret (A.v (Value.int IntKind.i64 0)), H))))) := by kernel_rfl
theorem e45 (C : Nat → List A → Option A) (call : CallT) (rg : CallT → CallT) (n lo : Nat) (x0 x1 : A) (H : Heap) : evCall1 (cx C) call rg n 45 [x0, x1] H lo =
 Option.bind (aBox x1 H) fun r0 =>
 Option.bind (aLen Try.prog 23 x0 r0.2) fun t1 => loopR (cx C) call rg n 45 lo 0 (List.length r0.2) (fun i2 s2 => bif Nat.beq i2 0 then some (Out.ret (A.v (Value.int IntKind.i64 (-1))), St.H s2) else none) (fun i2 s2 => none) (fun a2 => some (Out.ret (look (St.fr a2) 4), St.H a2)) (fun i2 s2 => some (Out.pan i2, St.H s2)) n (St.mk [(0, x0), (3, r0.1), (4, A.v (Value.int IntKind.i64 0)), (7, t1), (8, A.v (Value.int IntKind.i64 0))] r0.2) := by kernel_rfl
theorem e46 (C : Nat → List A → Option A) (call : CallT) (rg : CallT → CallT) (n lo : Nat) (x0 x1 x2 x3 : A) (H : Heap) : evCall1 (cx C) call rg n 46 [x0, x1, x2, x3] H lo = loopR (cx C) call rg n 46 lo 0 (List.length H) (fun i0 s0 => bif Nat.beq i0 0 then some (Out.ret (A.tup []), St.H s0) else none) (fun i0 s0 => none) (fun a0 => some (Out.ret (A.tup []), St.H a0)) (fun i0 s0 => some (Out.pan i0, St.H s0)) n (St.mk [(0, x0), (1, x1), (2, x2), (3, x3), (8, A.v (Value.int IntKind.i64 0))] H) := by kernel_rfl
theorem e47 (C : Nat → List A → Option A) (call : CallT) (rg : CallT → CallT) (n lo : Nat) (x0 : A) (H : Heap) : evCall1 (cx C) call rg n 47 [x0] H lo =
 Option.bind (aBin Try.prog BinOp.neq 3 false false x0 x0) fun t0 => some (Out.ret t0, H) := by kernel_rfl
theorem e39 (C : Nat → List A → Option A) (call : CallT) (rg : CallT → CallT) (n lo : Nat) (x0 x1 x2 : A) (H : Heap) : evCall1 (cx C) call rg n 39 [x0, x1, x2] H lo =
 Option.bind (aBox x0 H) fun r0 =>
 Option.bind (aBox x1 r0.2) fun r1 =>
 Option.bind (aBox x2 r1.2) fun r2 => some (Out.ret (A.fn (Fn.func 46) [] [r1.1, r2.1, r0.1]), r2.2) := by kernel_rfl
theorem e7_0 (C : Nat → List A → Option A) (call : CallT) (rg : CallT → CallT) (n lo L : Nat) (kx kg : Nat → St → Option R) (kr : St → Option R) (kp : A → St → Option R) (m : Nat) (x0 x2 x3 x4 x5 x6 : A) (H : Heap) : loopR (cx C) call rg n 7 lo 0 L kx kg kr kp (m + 1) (St.mk [(0, x0), (2, x2), (3, x3), (4, x4), (5, x5), (6, x6)] H) =
 Option.bind (aLen Try.prog 48 x0 H) fun t0 =>
 Option.bind (aBin Try.prog BinOp.lss 3 false false x6 t0) fun t1 =>
 bIf t1 (Option.bind (aAlloc Try.prog 25 H) fun r2 =>
 Option.bind (aAlloc Try.prog 28 r2.2) fun r3 =>
 Option.bind (aLoad Try.prog 25 x3 r3.2) fun t4 =>
 Option.bind (aIndexAddr Try.prog 48 x0 x6 r3.2) fun t5 =>
 Option.bind (aLoad Try.prog 52 t5 r3.2) fun t6 =>
 Option.bind (C 27 [snap r3.2 t4, snap r3.2 t6]) fun t7 =>
 Option.bind (aExtract t7 0) fun t8 =>
 Option.bind (aExtract t7 1) fun t9 =>
 Option.bind (aExtract t7 2) fun t10 =>
 Option.bind (aStore Try.prog 25 r2.1 (stV r2.1 r3.2 t8) r3.2 lo) fun H11 =>
 Option.bind (aStore Try.prog 28 r3.1 (stV r3.1 H11 t9) H11 lo) fun H12 =>
 Option.bind (aBin Try.prog BinOp.neq 31 false true t10 (A.v (Value.int IntKind.i64 0))) fun t13 =>
 bIf t13 (Option.bind (aLoad Try.prog 25 x3 H12) fun t14 =>
 Option.bind (C 13 [snap H12 t14]) fun t15 =>
 Option.bind (aBin Try.prog BinOp.neq 31 false true t15 (A.v (Value.int IntKind.i64 0))) fun t16 =>
 Option.bind (bIf t16 (some [A.v (Value.bool true), A.v undef, A.v undef, A.v undef, A.v undef]) (Option.bind (aLoad Try.prog 25 r2.1 H12) fun t17 =>
 Option.bind (aBuild Try.prog 25 []) fun t18 =>
 Option.bind (C 15 [snap H12 t17, snap H12 t18]) fun t19 =>
 Option.bind (aUn Try.prog UnOp.not t19) fun t20 => some [t20, t20, t19, t18, t17])) fun l17 => unc l17 fun u18 l18 => unc l18 fun u19 l19 => unc l19 fun u20 l20 => unc l20 fun u21 l21 => unc l21 fun u22 l22 =>
 bIf u18 (kr (St.mk [(0, x0), (2, A.v (Value.bool false)), (3, x3), (4, x4), (5, x5), (6, x6)] H12)) (Option.bind (aBin Try.prog BinOp.add 3 false true x6 (A.v (Value.int IntKind.i64 1))) fun t23 =>
 Option.bind (trim L H12) fun H24 => bif bif Nat.beq (List.length H12) L then true else keepsUnder L [(6, t23), (23, t23), (22, x6), (44, u18), (43, u19), (42, u20), (41, u21), (40, u22), (39, t16), (38, t16), (37, t15), (36, t14), (35, t13), (34, t10), (9, t10), (8, r3.1), (7, r2.1), (33, t10), (32, t9), (31, t8), (24, t7), (30, t7), (29, t6), (28, t5), (27, x6), (26, x0), (25, t4), (21, t1), (20, t0), (19, x0), (18, x6), (0, x0), (2, x2), (3, x3), (4, x4), (5, x5), (6, x6)] [0, 2, 3, 4, 5, 6] then loopR (cx C) call rg n 7 lo 0 L kx kg kr kp m (St.mk [(0, x0), (2, x2), (3, x3), (4, x4), (5, x5), (6, t23)] H24) else none)) (Option.bind (aIndexAddr Try.prog 48 x0 x6 H12) fun t14 =>
 Option.bind (aFieldAddr Try.prog 52 t14 0 H12) fun t15 =>
 Option.bind (aLoad Try.prog 5 t15 H12) fun t16 =>
 Option.bind (aBin Try.prog BinOp.rem 5 false true t16 (A.v (Value.int IntKind.u8 6))) fun t17 =>
 Option.bind (aBin Try.prog BinOp.eql 5 false true t17 (A.v (Value.int IntKind.u8 0))) fun t18 =>
 bIf t18 (Option.bind (aFieldAddr Try.prog 25 r2.1 0 H12) fun t19 =>
 Option.bind (aLoad Try.prog 22 t19 H12) fun t20 =>
 Option.bind (aLen Try.prog 22 t20 H12) fun t21 =>
 Option.bind (aBin Try.prog BinOp.eql 3 false true t21 (A.v (Value.int IntKind.i64 0))) fun t22 =>
 bIf t22 (kr (St.mk [(0, x0), (2, A.v (Value.bool false)), (3, x3), (4, x4), (5, x5), (6, x6)] H12)) (Option.bind (aFieldAddr Try.prog 25 r2.1 0 H12) fun t23 =>
 Option.bind (aLoad Try.prog 22 t23 H12) fun t24 =>
 Option.bind (aFieldAddr Try.prog 25 r2.1 0 H12) fun t25 =>
 Option.bind (aLoad Try.prog 22 t25 H12) fun t26 =>
 Option.bind (aLen Try.prog 22 t26 H12) fun t27 =>
 Option.bind (aBin Try.prog BinOp.sub 3 false true t27 (A.v (Value.int IntKind.i64 1))) fun t28 =>
 Option.bind (aIndexAddr Try.prog 22 t24 t28 H12) fun t29 =>
 Option.bind (aLoad Try.prog 28 t29 H12) fun t30 =>
 Option.bind (aBuildSlice Try.prog 22 1 [(0, frzA H12 t30)]) fun t31 =>
 Option.bind (aAppend Try.prog 22 22 false x4 t31 H12 lo) fun r32 =>
 Option.bind (aLoad Try.prog 25 r2.1 r32.2) fun t33 =>
 Option.bind (aStore Try.prog 25 x3 (stV x3 r32.2 t33) r32.2 lo) fun H34 =>
 Option.bind (aLoad Try.prog 25 x3 H34) fun t35 =>
 Option.bind (C 13 [snap H34 t35]) fun t36 =>
 Option.bind (aBin Try.prog BinOp.neq 31 false true t36 (A.v (Value.int IntKind.i64 0))) fun t37 =>
 bIf t37 (kr (St.mk [(0, x0), (2, A.v (Value.bool false)), (3, x3), (4, r32.1), (5, x5), (6, x6)] H34)) (Option.bind (aBin Try.prog BinOp.add 3 false true x6 (A.v (Value.int IntKind.i64 1))) fun t38 =>
 Option.bind (trim L H34) fun H39 => bif bif Nat.beq (List.length H34) L then true else keepsUnder L [(6, t38), (23, t38), (22, x6), (101, t37), (100, t36), (99, t35), (98, t33), (4, r32.1), (67, r32.1), (66, t31), (65, t30), (64, t29), (63, t28), (62, t27), (61, t26), (60, t25), (59, t24), (58, t23), (57, x4), (56, t22), (55, t21), (54, t20), (53, t19), (51, t18), (52, t18), (50, t17), (49, t16), (48, t15), (47, t14), (46, x6), (45, x0), (35, t13), (34, t10), (9, t10), (8, r3.1), (7, r2.1), (33, t10), (32, t9), (31, t8), (24, t7), (30, t7), (29, t6), (28, t5), (27, x6), (26, x0), (25, t4), (21, t1), (20, t0), (19, x0), (18, x6), (0, x0), (2, x2), (3, x3), (4, x4), (5, x5), (6, x6)] [0, 2, 3, 4, 5, 6] then loopR (cx C) call rg n 7 lo 0 L kx kg kr kp m (St.mk [(0, x0), (2, x2), (3, x3), (4, r32.1), (5, x5), (6, t38)] H39) else none))) (Option.bind (aBin Try.prog BinOp.eql 5 false true t17 (A.v (Value.int IntKind.u8 1))) fun t19 =>
 bIf t19 (Option.bind (aLoad Try.prog 28 r3.1 H12) fun t20 =>
 Option.bind (aBuild Try.prog 28 []) fun t21 =>
 Option.bind (C 19 [snap H12 t20, snap H12 t21]) fun t22 =>
 Option.bind (bIf t22 (Option.bind (aBin Try.prog BinOp.gtr 3 false true x5 (A.v (Value.int IntKind.i64 0))) fun t23 => some [t23, t23, x5]) (some [A.v (Value.bool false), A.v undef, A.v undef])) fun l23 => unc l23 fun u24 l24 => unc l24 fun u25 l25 => unc l25 fun u26 l26 => loopR (cx C) call rg n 7 lo 1 (List.length H12) (fun i27 s27 => bif Nat.beq i27 3 then
 Option.bind (aUn Try.prog UnOp.not (look (St.fr s27) 10)) fun t28 =>
 bIf t28 (kr (St.mk [(0, look (St.fr s27) 0), (2, A.v (Value.bool false)), (3, look (St.fr s27) 3), (4, look (St.fr s27) 4), (5, look (St.fr s27) 5), (6, look (St.fr s27) 6)] (St.H s27))) (Option.bind (aLoad Try.prog 25 (look (St.fr s27) 7) (St.H s27)) fun t29 =>
 Option.bind (aStore Try.prog 25 (look (St.fr s27) 3) (stV (look (St.fr s27) 3) (St.H s27) t29) (St.H s27) lo) fun H30 =>
 Option.bind (aLoad Try.prog 25 (look (St.fr s27) 3) H30) fun t31 =>
 Option.bind (C 13 [snap H30 t31]) fun t32 =>
 Option.bind (aBin Try.prog BinOp.neq 31 false true t32 (A.v (Value.int IntKind.i64 0))) fun t33 =>
 bIf t33 (kr (St.mk [(0, look (St.fr s27) 0), (2, A.v (Value.bool false)), (3, look (St.fr s27) 3), (4, look (St.fr s27) 4), (5, look (St.fr s27) 5), (6, look (St.fr s27) 6)] H30)) (Option.bind (aBin Try.prog BinOp.add 3 false true (look (St.fr s27) 6) (A.v (Value.int IntKind.i64 1))) fun t34 =>
 Option.bind (trim L H30) fun H35 => bif bif Nat.beq (List.length H30) L then true else keepsUnder L ((6, t34) :: (23, t34) :: (22, look (St.fr s27) 6) :: (101, t33) :: (100, t32) :: (99, t31) :: (98, t29) :: (93, t28) :: (92, look (St.fr s27) 10) :: St.fr s27) [0, 2, 3, 4, 5, 6] then loopR (cx C) call rg n 7 lo 0 L kx kg kr kp m (St.mk [(0, look (St.fr s27) 0), (2, look (St.fr s27) 2), (3, look (St.fr s27) 3), (4, look (St.fr s27) 4), (5, look (St.fr s27) 5), (6, t34)] H35) else none)) else bif Nat.beq i27 2 then
 Option.bind (aLoad Try.prog 25 (look (St.fr s27) 7) (St.H s27)) fun t28 =>
 Option.bind (aStore Try.prog 25 (look (St.fr s27) 3) (stV (look (St.fr s27) 3) (St.H s27) t28) (St.H s27) lo) fun H29 =>
 Option.bind (aLoad Try.prog 25 (look (St.fr s27) 3) H29) fun t30 =>
 Option.bind (C 13 [snap H29 t30]) fun t31 =>
 Option.bind (aBin Try.prog BinOp.neq 31 false true t31 (A.v (Value.int IntKind.i64 0))) fun t32 =>
 bIf t32 (kr (St.mk [(0, look (St.fr s27) 0), (2, A.v (Value.bool false)), (3, look (St.fr s27) 3), (4, look (St.fr s27) 4), (5, look (St.fr s27) 5), (6, look (St.fr s27) 6)] H29)) (Option.bind (aBin Try.prog BinOp.add 3 false true (look (St.fr s27) 6) (A.v (Value.int IntKind.i64 1))) fun t33 =>
 Option.bind (trim L H29) fun H34 => bif bif Nat.beq (List.length H29) L then true else keepsUnder L ((6, t33) :: (23, t33) :: (22, look (St.fr s27) 6) :: (101, t32) :: (100, t31) :: (99, t30) :: (98, t28) :: St.fr s27) [0, 2, 3, 4, 5, 6] then loopR (cx C) call rg n 7 lo 0 L kx kg kr kp m (St.mk [(0, look (St.fr s27) 0), (2, look (St.fr s27) 2), (3, look (St.fr s27) 3), (4, look (St.fr s27) 4), (5, look (St.fr s27) 5), (6, t33)] H34) else none) else bif Nat.beq i27 1 then
 Option.bind (aBin Try.prog BinOp.add 3 false true (look (St.fr s27) 6) (A.v (Value.int IntKind.i64 1))) fun t28 =>
 Option.bind (trim L (St.H s27)) fun H29 => bif bif Nat.beq (List.length (St.H s27)) L then true else keepsUnder L ((6, t28) :: (23, t28) :: (22, look (St.fr s27) 6) :: St.fr s27) [0, 2, 3, 4, 5, 6] then loopR (cx C) call rg n 7 lo 0 L kx kg kr kp m (St.mk [(0, look (St.fr s27) 0), (2, look (St.fr s27) 2), (3, look (St.fr s27) 3), (4, look (St.fr s27) 4), (5, look (St.fr s27) 5), (6, t28)] H29) else none else kx i27 (St.mk [(0, look (St.fr s27) 0), (2, look (St.fr s27) 2), (3, look (St.fr s27) 3), (4, look (St.fr s27) 4), (5, look (St.fr s27) 5), (6, look (St.fr s27) 6)] (St.H s27))) (fun i27 s27 => kg i27 (St.mk [(0, look (St.fr s27) 0), (2, look (St.fr s27) 2), (3, look (St.fr s27) 3), (4, look (St.fr s27) 4), (5, look (St.fr s27) 5), (6, look (St.fr s27) 6)] (St.H s27))) (fun a27 => kr (St.mk [(0, look (St.fr a27) 0), (2, look (St.fr a27) 2), (3, look (St.fr a27) 3), (4, look (St.fr a27) 4), (5, look (St.fr a27) 5), (6, look (St.fr a27) 6)] (St.H a27))) (fun i27 s27 => kp i27 (St.mk [(0, look (St.fr s27) 0), (2, look (St.fr s27) 2), (3, look (St.fr s27) 3), (4, look (St.fr s27) 4), (5, look (St.fr s27) 5), (6, look (St.fr s27) 6)] (St.H s27))) n (St.mk [(0, x0), (2, x2), (3, x3), (4, x4), (5, x5), (6, x6), (7, r2.1), (8, r3.1), (10, u24), (11, A.v (Value.int IntKind.i64 0))] H12)) (Option.bind (aBin Try.prog BinOp.eql 5 false true t17 (A.v (Value.int IntKind.u8 4))) fun t20 =>
 bIf t20 (Option.bind (aBin Try.prog BinOp.add 3 false true x5 (A.v (Value.int IntKind.i64 1))) fun t21 =>
 Option.bind (aLoad Try.prog 25 r2.1 H12) fun t22 =>
 Option.bind (aStore Try.prog 25 x3 (stV x3 H12 t22) H12 lo) fun H23 =>
 Option.bind (aLoad Try.prog 25 x3 H23) fun t24 =>
 Option.bind (C 13 [snap H23 t24]) fun t25 =>
 Option.bind (aBin Try.prog BinOp.neq 31 false true t25 (A.v (Value.int IntKind.i64 0))) fun t26 =>
 bIf t26 (kr (St.mk [(0, x0), (2, A.v (Value.bool false)), (3, x3), (4, x4), (5, t21), (6, x6)] H23)) (Option.bind (aBin Try.prog BinOp.add 3 false true x6 (A.v (Value.int IntKind.i64 1))) fun t27 =>
 Option.bind (trim L H23) fun H28 => bif bif Nat.beq (List.length H23) L then true else keepsUnder L [(6, t27), (23, t27), (22, x6), (101, t26), (100, t25), (99, t24), (98, t22), (5, t21), (97, t21), (96, x5), (94, t20), (95, t20), (68, t19), (69, t19), (51, t18), (52, t18), (50, t17), (49, t16), (48, t15), (47, t14), (46, x6), (45, x0), (35, t13), (34, t10), (9, t10), (8, r3.1), (7, r2.1), (33, t10), (32, t9), (31, t8), (24, t7), (30, t7), (29, t6), (28, t5), (27, x6), (26, x0), (25, t4), (21, t1), (20, t0), (19, x0), (18, x6), (0, x0), (2, x2), (3, x3), (4, x4), (5, x5), (6, x6)] [0, 2, 3, 4, 5, 6] then loopR (cx C) call rg n 7 lo 0 L kx kg kr kp m (St.mk [(0, x0), (2, x2), (3, x3), (4, x4), (5, t21), (6, t27)] H28) else none)) (Option.bind (aLoad Try.prog 25 r2.1 H12) fun t21 =>
 Option.bind (aStore Try.prog 25 x3 (stV x3 H12 t21) H12 lo) fun H22 =>
 Option.bind (aLoad Try.prog 25 x3 H22) fun t23 =>
 Option.bind (C 13 [snap H22 t23]) fun t24 =>
 Option.bind (aBin Try.prog BinOp.neq 31 false true t24 (A.v (Value.int IntKind.i64 0))) fun t25 =>
 bIf t25 (kr (St.mk [(0, x0), (2, A.v (Value.bool false)), (3, x3), (4, x4), (5, x5), (6, x6)] H22)) (Option.bind (aBin Try.prog BinOp.add 3 false true x6 (A.v (Value.int IntKind.i64 1))) fun t26 =>
 Option.bind (trim L H22) fun H27 => bif bif Nat.beq (List.length H22) L then true else keepsUnder L [(6, t26), (23, t26), (22, x6), (101, t25), (100, t24), (99, t23), (98, t21), (94, t20), (95, t20), (68, t19), (69, t19), (51, t18), (52, t18), (50, t17), (49, t16), (48, t15), (47, t14), (46, x6), (45, x0), (35, t13), (34, t10), (9, t10), (8, r3.1), (7, r2.1), (33, t10), (32, t9), (31, t8), (24, t7), (30, t7), (29, t6), (28, t5), (27, x6), (26, x0), (25, t4), (21, t1), (20, t0), (19, x0), (18, x6), (0, x0), (2, x2), (3, x3), (4, x4), (5, x5), (6, x6)] [0, 2, 3, 4, 5, 6] then loopR (cx C) call rg n 7 lo 0 L kx kg kr kp m (St.mk [(0, x0), (2, x2), (3, x3), (4, x4), (5, x5), (6, t26)] H27) else none)))))) (kx 0 (St.mk [(0, x0), (2, x2), (3, x3), (4, x4), (5, x5), (6, x6)] H)) := by kernel_rfl
theorem e7_1 (C : Nat → List A → Option A) (call : CallT) (rg : CallT → CallT) (n lo L : Nat) (kx kg : Nat → St → Option R) (kr : St → Option R) (kp : A → St → Option R) (m : Nat) (x0 x2 x3 x4 x5 x6 x7 x8 x10 x11 : A) (H : Heap) : loopR (cx C) call rg n 7 lo 1 L kx kg kr kp (m + 1) (St.mk [(0, x0), (2, x2), (3, x3), (4, x4), (5, x5), (6, x6), (7, x7), (8, x8), (10, x10), (11, x11)] H) =
 Option.bind (aLen Try.prog 22 x4 H) fun t0 =>
 Option.bind (aBin Try.prog BinOp.lss 3 false false x11 t0) fun t1 =>
 bIf t1 (Option.bind (gIf x10 false (Option.bind (aIndexAddr Try.prog 22 x4 x11 H) fun t2 =>
 Option.bind (aLoad Try.prog 28 t2 H) fun t3 =>
 Option.bind (aLoad Try.prog 28 x8 H) fun t4 => some [t4, t3, t2, x11, x4]) (some [A.v undef, A.v undef, A.v undef, A.v undef, A.v undef])) fun l2 => unc l2 fun u3 l3 => unc l3 fun u4 l4 => unc l4 fun u5 l5 => unc l5 fun u6 l6 => unc l6 fun u7 l7 =>
 Option.bind (bIf x10 (some [A.v (Value.bool true), A.v undef]) (Option.bind (C 19 [snap H u4, snap H u3]) fun t8 => some [t8, t8])) fun l8 => unc l8 fun u9 l9 => unc l9 fun u10 l10 =>
 Option.bind (aBin Try.prog BinOp.add 3 false true x11 (A.v (Value.int IntKind.i64 1))) fun t11 =>
 Option.bind (trim L H) fun H12 => bif bif Nat.beq (List.length H) L then true else keepsUnder L [(11, t11), (82, t11), (81, x11), (10, u9), (91, u9), (90, u10), (89, u3), (88, u4), (87, u5), (86, u6), (85, u7), (84, x10), (83, x10), (80, t1), (79, t0), (78, x4), (77, x11), (0, x0), (2, x2), (3, x3), (4, x4), (5, x5), (6, x6), (7, x7), (8, x8), (10, x10), (11, x11)] [0, 2, 3, 4, 5, 6, 7, 8, 10, 11] then loopR (cx C) call rg n 7 lo 1 L kx kg kr kp m (St.mk [(0, x0), (2, x2), (3, x3), (4, x4), (5, x5), (6, x6), (7, x7), (8, x8), (10, u9), (11, t11)] H12) else none) (kx 3 (St.mk [(0, x0), (2, x2), (3, x3), (4, x4), (5, x5), (6, x6), (7, x7), (8, x8), (10, x10), (11, x11)] H)) := by kernel_rfl
theorem e13_0 (C : Nat → List A → Option A) (call : CallT) (rg : CallT → CallT) (n lo L : Nat) (kx kg : Nat → St → Option R) (kr : St → Option R) (kp : A → St → Option R) (m : Nat) (x1 x2 x15 x16 x17 : A) (H : Heap) : loopR (cx C) call rg n 13 lo 0 L kx kg kr kp (m + 1) (St.mk [(1, x1), (2, x2), (15, x15), (16, x16), (17, x17)] H) =
 Option.bind (aBin Try.prog BinOp.lss 3 false false x17 x16) fun t0 =>
 bIf t0 (Option.bind (aIndexAddr Try.prog 23 x15 x17 H) fun t1 =>
 Option.bind (aLoad Try.prog 55 t1 H) fun t2 =>
 Option.bind (aAllocR Try.prog 55 H) fun r3 =>
 Option.bind (aStore Try.prog 55 r3.1 (stV r3.1 r3.2 t2) r3.2 lo) fun H4 =>
 Option.bind (aLoad Try.prog 55 r3.1 H4) fun t5 =>
 Option.bind (C 32 [snap H4 t5]) fun t6 =>
 Option.bind (aUn Try.prog UnOp.not t6) fun t7 =>
 Option.bind (gIf t7 false (Option.bind (aBin Try.prog BinOp.gtr 3 false true x17 (A.v (Value.int IntKind.i64 0))) fun t8 =>
 Option.bind (gIf t8 true (Option.bind (aFieldAddr Try.prog 25 x1 1 H4) fun t9 =>
 Option.bind (aLoad Try.prog 23 t9 H4) fun t10 =>
 Option.bind (aBin Try.prog BinOp.sub 3 false true x17 (A.v (Value.int IntKind.i64 1))) fun t11 =>
 Option.bind (aIndexAddr Try.prog 23 t10 t11 H4) fun t12 =>
 Option.bind (aSlice Try.prog 55 t12 none none none H4) fun t13 =>
 Option.bind (aSlice Try.prog 55 r3.1 none none none H4) fun t14 => some [t14, t13, t12, t11, x17, t10, t9]) (some [A.v undef, A.v undef, A.v undef, A.v undef, A.v undef, A.v undef, A.v undef])) fun l9 => unc l9 fun u10 l10 => unc l10 fun u11 l11 => unc l11 fun u12 l12 => unc l12 fun u13 l13 => unc l13 fun u14 l14 => unc l14 fun u15 l15 => unc l15 fun u16 l16 => some [u10, u11, u12, u13, u14, u15, u16, t8, t8, x17]) (some [A.v undef, A.v undef, A.v undef, A.v undef, A.v undef, A.v undef, A.v undef, A.v undef, A.v undef, A.v undef])) fun l8 => unc l8 fun u9 l9 => unc l9 fun u10 l10 => unc l10 fun u11 l11 => unc l11 fun u12 l12 => unc l12 fun u13 l13 => unc l13 fun u14 l14 => unc l14 fun u15 l15 => unc l15 fun u16 l16 => unc l16 fun u17 l17 => unc l17 fun u18 l18 => gIf u16 true (Option.bind (call 33 [u10, u9] H4 lo) fun H19 => outK H19.1 (fun a20 =>
 Option.bind (gIf u16 true (Option.bind (aBin Try.prog BinOp.geq 3 false true a20 (A.v (Value.int IntKind.i64 0))) fun t21 => some [t21]) (some [A.v undef])) fun l21 => unc l21 fun u22 l22 =>
 Option.bind (bIf t7 (some [A.v (Value.bool true), A.v undef]) (Option.bind (bIf u16 (some u22) (some (A.v (Value.bool false)))) fun t23 => some [t23, t23])) fun l23 => unc l23 fun u24 l24 => unc l24 fun u25 l25 =>
 bIf u24 (kr (St.mk [(1, x1), (2, A.v (Value.int IntKind.i64 60)), (15, x15), (16, x16), (17, x17)] H19.2)) (Option.bind (aBin Try.prog BinOp.add 3 false true x17 (A.v (Value.int IntKind.i64 1))) fun t26 =>
 Option.bind (trim L H19.2) fun H27 => bif bif Nat.beq (List.length H19.2) L then true else keepsUnder L [(17, t26), (40, t26), (39, u24), (38, u25), (37, u22), (36, a20), (35, u9), (34, u10), (33, u11), (32, u12), (31, u13), (30, u14), (29, u15), (28, u16), (27, u17), (26, u18), (25, t7), (24, t7), (23, t6), (22, t5), (3, x17), (4, r3.1), (21, t2), (20, t1), (19, x17), (18, t0), (1, x1), (2, x2), (15, x15), (16, x16), (17, x17)] [1, 2, 15, 16, 17] then loopR (cx C) call rg n 13 lo 0 L kx kg kr kp m (St.mk [(1, x1), (2, x2), (15, x15), (16, x16), (17, t26)] H27) else none)) fun a20 => kp a20 (St.mk [(1, x1), (2, x2), (15, x15), (16, x16), (17, x17)] H19.2)) (Option.bind (gIf u16 true (Option.bind (aBin Try.prog BinOp.geq 3 false true (A.v undef) (A.v (Value.int IntKind.i64 0))) fun t19 => some [t19]) (some [A.v undef])) fun l19 => unc l19 fun u20 l20 =>
 Option.bind (bIf t7 (some [A.v (Value.bool true), A.v undef]) (Option.bind (bIf u16 (some u20) (some (A.v (Value.bool false)))) fun t21 => some [t21, t21])) fun l21 => unc l21 fun u22 l22 => unc l22 fun u23 l23 =>
 bIf u22 (kr (St.mk [(1, x1), (2, A.v (Value.int IntKind.i64 60)), (15, x15), (16, x16), (17, x17)] H4)) (Option.bind (aBin Try.prog BinOp.add 3 false true x17 (A.v (Value.int IntKind.i64 1))) fun t24 =>
 Option.bind (trim L H4) fun H25 => bif bif Nat.beq (List.length H4) L then true else keepsUnder L [(17, t24), (40, t24), (39, u22), (38, u23), (37, u20), (36, A.v undef), (35, u9), (34, u10), (33, u11), (32, u12), (31, u13), (30, u14), (29, u15), (28, u16), (27, u17), (26, u18), (25, t7), (24, t7), (23, t6), (22, t5), (3, x17), (4, r3.1), (21, t2), (20, t1), (19, x17), (18, t0), (1, x1), (2, x2), (15, x15), (16, x16), (17, x17)] [1, 2, 15, 16, 17] then loopR (cx C) call rg n 13 lo 0 L kx kg kr kp m (St.mk [(1, x1), (2, x2), (15, x15), (16, x16), (17, t24)] H25) else none))) (kx 0 (St.mk [(1, x1), (2, x2), (15, x15), (16, x16), (17, x17)] H)) := by kernel_rfl
theorem e15_0 (C : Nat → List A → Option A) (call : CallT) (rg : CallT → CallT) (n lo L : Nat) (kx kg : Nat → St → Option R) (kr : St → Option R) (kp : A → St → Option R) (m : Nat) (x2 x3 x4 x5 : A) (H : Heap) : loopR (cx C) call rg n 15 lo 0 L kx kg kr kp (m + 1) (St.mk [(2, x2), (3, x3), (4, x4), (5, x5)] H) =
 Option.bind (aFieldAddr Try.prog 25 x2 0 H) fun t0 =>
 Option.bind (aLoad Try.prog 22 t0 H) fun t1 =>
 Option.bind (aLen Try.prog 22 t1 H) fun t2 =>
 Option.bind (aBin Try.prog BinOp.lss 3 false false x5 t2) fun t3 =>
 bIf t3 (Option.bind (aFieldAddr Try.prog 25 x2 0 H) fun t4 =>
 Option.bind (aLoad Try.prog 22 t4 H) fun t5 =>
 Option.bind (aIndexAddr Try.prog 22 t5 x5 H) fun t6 =>
 Option.bind (aLoad Try.prog 28 t6 H) fun t7 =>
 Option.bind (aFieldAddr Try.prog 25 x3 0 H) fun t8 =>
 Option.bind (aLoad Try.prog 22 t8 H) fun t9 =>
 Option.bind (aIndexAddr Try.prog 22 t9 x5 H) fun t10 =>
 Option.bind (aLoad Try.prog 28 t10 H) fun t11 =>
 Option.bind (C 19 [snap H t7, snap H t11]) fun t12 =>
 Option.bind (aUn Try.prog UnOp.not t12) fun t13 =>
 bIf t13 (kr (St.mk [(2, x2), (3, x3), (4, A.v (Value.bool false)), (5, x5)] H)) (Option.bind (aBin Try.prog BinOp.add 3 false true x5 (A.v (Value.int IntKind.i64 1))) fun t14 =>
 Option.bind (trim L H) fun H15 => bif bif Nat.beq (List.length H) L then true else keepsUnder L [(5, t14), (29, t14), (28, x5), (41, t13), (40, t12), (39, t11), (38, t10), (37, x5), (36, t9), (35, t8), (34, t7), (33, t6), (32, x5), (31, t5), (30, t4), (27, t3), (26, t2), (25, t1), (24, t0), (23, x5), (2, x2), (3, x3), (4, x4), (5, x5)] [2, 3, 4, 5] then loopR (cx C) call rg n 15 lo 0 L kx kg kr kp m (St.mk [(2, x2), (3, x3), (4, x4), (5, t14)] H15) else none)) (kx 0 (St.mk [(2, x2), (3, x3), (4, x4), (5, x5)] H)) := by kernel_rfl
theorem e15_1 (C : Nat → List A → Option A) (call : CallT) (rg : CallT → CallT) (n lo L : Nat) (kx kg : Nat → St → Option R) (kr : St → Option R) (kp : A → St → Option R) (m : Nat) (x2 x3 x4 x6 : A) (H : Heap) : loopR (cx C) call rg n 15 lo 1 L kx kg kr kp (m + 1) (St.mk [(2, x2), (3, x3), (4, x4), (6, x6)] H) =
 Option.bind (aFieldAddr Try.prog 25 x2 1 H) fun t0 =>
 Option.bind (aLoad Try.prog 23 t0 H) fun t1 =>
 Option.bind (aLen Try.prog 23 t1 H) fun t2 =>
 Option.bind (aBin Try.prog BinOp.lss 3 false false x6 t2) fun t3 =>
 bIf t3 (Option.bind (aFieldAddr Try.prog 25 x2 1 H) fun t4 =>
 Option.bind (aLoad Try.prog 23 t4 H) fun t5 =>
 Option.bind (aIndexAddr Try.prog 23 t5 x6 H) fun t6 =>
 Option.bind (aLoad Try.prog 55 t6 H) fun t7 =>
 Option.bind (aFieldAddr Try.prog 25 x3 1 H) fun t8 =>
 Option.bind (aLoad Try.prog 23 t8 H) fun t9 =>
 Option.bind (aIndexAddr Try.prog 23 t9 x6 H) fun t10 =>
 Option.bind (aLoad Try.prog 55 t10 H) fun t11 =>
 Option.bind (aBin Try.prog BinOp.neq 55 false false t7 t11) fun t12 =>
 bIf t12 (kr (St.mk [(2, x2), (3, x3), (4, A.v (Value.bool false)), (6, x6)] H)) (Option.bind (aBin Try.prog BinOp.add 3 false true x6 (A.v (Value.int IntKind.i64 1))) fun t13 =>
 Option.bind (trim L H) fun H14 => bif bif Nat.beq (List.length H) L then true else keepsUnder L [(6, t13), (48, t13), (47, x6), (59, t12), (58, t11), (57, t10), (56, x6), (55, t9), (54, t8), (53, t7), (52, t6), (51, x6), (50, t5), (49, t4), (46, t3), (45, t2), (44, t1), (43, t0), (42, x6), (2, x2), (3, x3), (4, x4), (6, x6)] [2, 3, 4, 6] then loopR (cx C) call rg n 15 lo 1 L kx kg kr kp m (St.mk [(2, x2), (3, x3), (4, x4), (6, t13)] H14) else none)) (kx 2 (St.mk [(2, x2), (3, x3), (4, x4), (6, x6)] H)) := by kernel_rfl
theorem e33_0 (C : Nat → List A → Option A) (call : CallT) (rg : CallT → CallT) (n lo L : Nat) (kx kg : Nat → St → Option R) (kr : St → Option R) (kp : A → St → Option R) (m : Nat) (x0 x1 x4 x9 x10 x11 : A) (H : Heap) : loopR (cx C) call rg n 33 lo 0 L kx kg kr kp (m + 1) (St.mk [(0, x0), (1, x1), (4, x4), (9, x9), (10, x10), (11, x11)] H) =
 Option.bind (aBin Try.prog BinOp.lss 3 false false x11 x10) fun t0 =>
 bIf t0 (Option.bind (aIndexAddr Try.prog 45 x9 x11 H) fun t1 =>
 Option.bind (aLoad Try.prog 3 t1 H) fun t2 =>
 Option.bind (aLen Try.prog 45 x1 H) fun t3 =>
 Option.bind (aBin Try.prog BinOp.geq 3 false false x11 t3) fun t4 =>
 bIf t4 (kr (St.mk [(0, x0), (1, x1), (4, A.v (Value.int IntKind.i64 1)), (9, x9), (10, x10), (11, x11)] H)) (Option.bind (aIndexAddr Try.prog 45 x1 x11 H) fun t5 =>
 Option.bind (aLoad Try.prog 3 t5 H) fun t6 =>
 Option.bind (call 44 [t2, t6] H lo) fun H7 => outK H7.1 (fun a8 =>
 Option.bind (aBin Try.prog BinOp.neq 3 false true a8 (A.v (Value.int IntKind.i64 0))) fun t9 =>
 bIf t9 (kr (St.mk [(0, x0), (1, x1), (4, a8), (9, x9), (10, x10), (11, x11)] H7.2)) (Option.bind (aBin Try.prog BinOp.add 3 false true x11 (A.v (Value.int IntKind.i64 1))) fun t10 =>
 Option.bind (trim L H7.2) fun H11 => bif bif Nat.beq (List.length H7.2) L then true else keepsUnder L [(11, t10), (30, t10), (28, t9), (27, a8), (8, a8), (26, a8), (25, t6), (24, t2), (7, t6), (23, t6), (22, t5), (21, x11), (20, x1), (19, t4), (18, t3), (17, x1), (16, x11), (6, t2), (5, x11), (15, t2), (14, t1), (13, x11), (12, t0), (0, x0), (1, x1), (4, x4), (9, x9), (10, x10), (11, x11)] [0, 1, 4, 9, 10, 11] then loopR (cx C) call rg n 33 lo 0 L kx kg kr kp m (St.mk [(0, x0), (1, x1), (4, x4), (9, x9), (10, x10), (11, t10)] H11) else none)) fun a8 => kp a8 (St.mk [(0, x0), (1, x1), (4, x4), (9, x9), (10, x10), (11, x11)] H7.2))) (kx 0 (St.mk [(0, x0), (1, x1), (4, x4), (9, x9), (10, x10), (11, x11)] H)) := by kernel_rfl
theorem e43_0 (C : Nat → List A → Option A) (call : CallT) (rg : CallT → CallT) (n lo L : Nat) (kx kg : Nat → St → Option R) (kr : St → Option R) (kp : A → St → Option R) (m : Nat) (x0 x1 x4 x7 x8 : A) (H : Heap) : loopR (cx C) call rg n 43 lo 0 L kx kg kr kp (m + 1) (St.mk [(0, x0), (1, x1), (4, x4), (7, x7), (8, x8)] H) =
 Option.bind (aBin Try.prog BinOp.lss 3 false false x8 x7) fun t0 =>
 bIf t0 (Option.bind (aIndexAddr Try.prog 22 x0 x8 H) fun t1 =>
 Option.bind (aLoad Try.prog 28 t1 H) fun t2 => dynCall (cx C) call x1 [t2] H lo (fun i3 h3 =>
 bIf i3 (kr (St.mk [(0, x0), (1, x1), (4, x8), (7, x7), (8, x8)] h3)) (Option.bind (aBin Try.prog BinOp.add 3 false true x8 (A.v (Value.int IntKind.i64 1))) fun t4 =>
 Option.bind (trim L h3) fun H5 => bif bif Nat.beq (List.length h3) L then true else keepsUnder L [(8, t4), (18, t4), (16, i3), (15, t2), (14, t1), (13, x8), (12, x0), (11, x1), (5, x8), (10, x8), (9, t0), (0, x0), (1, x1), (4, x4), (7, x7), (8, x8)] [0, 1, 4, 7, 8] then loopR (cx C) call rg n 43 lo 0 L kx kg kr kp m (St.mk [(0, x0), (1, x1), (4, x4), (7, x7), (8, t4)] H5) else none)) fun i3 h3 => kp i3 (St.mk [(0, x0), (1, x1), (4, x4), (7, x7), (8, x8)] h3)) (kx 0 (St.mk [(0, x0), (1, x1), (4, x4), (7, x7), (8, x8)] H)) := by kernel_rfl
theorem e45_0 (C : Nat → List A → Option A) (call : CallT) (rg : CallT → CallT) (n lo L : Nat) (kx kg : Nat → St → Option R) (kr : St → Option R) (kp : A → St → Option R) (m : Nat) (x0 x3 x4 x7 x8 : A) (H : Heap) : loopR (cx C) call rg n 45 lo 0 L kx kg kr kp (m + 1) (St.mk [(0, x0), (3, x3), (4, x4), (7, x7), (8, x8)] H) =
 Option.bind (aBin Try.prog BinOp.lss 3 false false x8 x7) fun t0 =>
 bIf t0 (Option.bind (aLoad Try.prog 55 x3 H) fun t1 =>
 Option.bind (aIndexAddr Try.prog 23 x0 x8 H) fun t2 =>
 Option.bind (aLoad Try.prog 55 t2 H) fun t3 =>
 Option.bind (aBin Try.prog BinOp.eql 55 false false t1 t3) fun t4 =>
 bIf t4 (kr (St.mk [(0, x0), (3, x3), (4, x8), (7, x7), (8, x8)] H)) (Option.bind (aBin Try.prog BinOp.add 3 false true x8 (A.v (Value.int IntKind.i64 1))) fun t5 =>
 Option.bind (trim L H) fun H6 => bif bif Nat.beq (List.length H) L then true else keepsUnder L [(8, t5), (18, t5), (16, t4), (15, t3), (14, t2), (13, x8), (12, x0), (11, t1), (5, x8), (10, x8), (9, t0), (0, x0), (3, x3), (4, x4), (7, x7), (8, x8)] [0, 3, 4, 7, 8] then loopR (cx C) call rg n 45 lo 0 L kx kg kr kp m (St.mk [(0, x0), (3, x3), (4, x4), (7, x7), (8, t5)] H6) else none)) (kx 0 (St.mk [(0, x0), (3, x3), (4, x4), (7, x7), (8, x8)] H)) := by kernel_rfl
theorem e46_0 (C : Nat → List A → Option A) (call : CallT) (rg : CallT → CallT) (n lo L : Nat) (kx kg : Nat → St → Option R) (kr : St → Option R) (kp : A → St → Option R) (m : Nat) (x0 x1 x2 x3 x8 : A) (H : Heap) : loopR (cx C) call rg n 46 lo 0 L kx kg kr kp (m + 1) (St.mk [(0, x0), (1, x1), (2, x2), (3, x3), (8, x8)] H) =
 Option.bind (aBin Try.prog BinOp.lss 3 false true x8 (A.v (Value.int IntKind.i64 24))) fun t0 =>
 bIf t0 (Option.bind (aBin Try.prog BinOp.add 3 false true x8 (A.v (Value.int IntKind.i64 1))) fun t1 => loopR (cx C) call rg n 46 lo 1 (List.length H) (fun i2 s2 => bif Nat.beq i2 2 then
 Option.bind (aBin Try.prog BinOp.add 3 false true (look (St.fr s2) 8) (A.v (Value.int IntKind.i64 1))) fun t3 =>
 Option.bind (trim L (St.H s2)) fun H4 => bif bif Nat.beq (List.length (St.H s2)) L then true else keepsUnder L ((8, t3) :: (42, t3) :: St.fr s2) [0, 1, 2, 3, 8] then loopR (cx C) call rg n 46 lo 0 L kx kg kr kp m (St.mk [(0, look (St.fr s2) 0), (1, look (St.fr s2) 1), (2, look (St.fr s2) 2), (3, look (St.fr s2) 3), (8, t3)] H4) else none else bif Nat.beq i2 1 then
 Option.bind (aBin Try.prog BinOp.add 3 false true (look (St.fr s2) 8) (A.v (Value.int IntKind.i64 1))) fun t3 =>
 Option.bind (trim L (St.H s2)) fun H4 => bif bif Nat.beq (List.length (St.H s2)) L then true else keepsUnder L ((8, t3) :: (42, t3) :: St.fr s2) [0, 1, 2, 3, 8] then loopR (cx C) call rg n 46 lo 0 L kx kg kr kp m (St.mk [(0, look (St.fr s2) 0), (1, look (St.fr s2) 1), (2, look (St.fr s2) 2), (3, look (St.fr s2) 3), (8, t3)] H4) else none else kx i2 (St.mk [(0, look (St.fr s2) 0), (1, look (St.fr s2) 1), (2, look (St.fr s2) 2), (3, look (St.fr s2) 3), (8, look (St.fr s2) 8)] (St.H s2))) (fun i2 s2 => kg i2 (St.mk [(0, look (St.fr s2) 0), (1, look (St.fr s2) 1), (2, look (St.fr s2) 2), (3, look (St.fr s2) 3), (8, look (St.fr s2) 8)] (St.H s2))) (fun a2 => kr (St.mk [(0, look (St.fr a2) 0), (1, look (St.fr a2) 1), (2, look (St.fr a2) 2), (3, look (St.fr a2) 3), (8, look (St.fr a2) 8)] (St.H a2))) (fun i2 s2 => kp i2 (St.mk [(0, look (St.fr s2) 0), (1, look (St.fr s2) 1), (2, look (St.fr s2) 2), (3, look (St.fr s2) 3), (8, look (St.fr s2) 8)] (St.H s2))) n (St.mk [(0, x0), (1, x1), (2, x2), (3, x3), (5, x8), (6, t1), (8, x8)] H)) (kx 0 (St.mk [(0, x0), (1, x1), (2, x2), (3, x3), (8, x8)] H)) := by kernel_rfl
theorem e46_1 (C : Nat → List A → Option A) (call : CallT) (rg : CallT → CallT) (n lo L : Nat) (kx kg : Nat → St → Option R) (kr : St → Option R) (kp : A → St → Option R) (m : Nat) (x0 x1 x2 x3 x5 x6 x8 : A) (H : Heap) : loopR (cx C) call rg n 46 lo 1 L kx kg kr kp (m + 1) (St.mk [(0, x0), (1, x1), (2, x2), (3, x3), (5, x5), (6, x6), (8, x8)] H) =
 Option.bind (aBin Try.prog BinOp.lss 3 false true x6 (A.v (Value.int IntKind.i64 24))) fun t0 =>
 bIf t0 (Option.bind (aBuild Try.prog 58 [(0, x5), (1, x6)]) fun t1 =>
 Option.bind (aAlloc Try.prog 58 H) fun r2 =>
 Option.bind (aStore Try.prog 58 r2.1 (stV r2.1 r2.2 t1) r2.2 lo) fun H3 =>
 Option.bind (aLoad Try.prog 58 r2.1 H3) fun t4 =>
 Option.bind (aLoad Try.prog 58 x1 H3) fun t5 =>
 Option.bind (aBin Try.prog BinOp.eql 58 false false t4 t5) fun t6 =>
 Option.bind (bIf t6 (Option.bind (aLoad Try.prog 4 x2 H3) fun t7 =>
 Option.bind (aUn Try.prog UnOp.not t7) fun t8 => some [t8, t8, t7]) (some [A.v (Value.bool false), A.v undef, A.v undef])) fun l7 => unc l7 fun u8 l8 => unc l8 fun u9 l9 => unc l9 fun u10 l10 =>
 Option.bind (bIf u8 (some [A.v (Value.bool true), A.v undef, A.v undef, A.v undef, A.v undef, A.v undef, A.v undef, A.v undef, A.v undef, A.v undef]) (Option.bind (aLoad Try.prog 58 r2.1 H3) fun t11 =>
 Option.bind (aLoad Try.prog 58 x1 H3) fun t12 =>
 Option.bind (aBin Try.prog BinOp.neq 58 false false t11 t12) fun t13 =>
 Option.bind (bIf t13 (Option.bind (aLoad Try.prog 23 x3 H3) fun t14 =>
 Option.bind (aLoad Try.prog 58 r2.1 H3) fun t15 =>
 Option.bind (C 36 [snap H3 t14, snap H3 t15]) fun t16 =>
 Option.bind (aUn Try.prog UnOp.not t16) fun t17 => some [t17, t17, t16, t15, t14]) (some [A.v (Value.bool false), A.v undef, A.v undef, A.v undef, A.v undef])) fun l14 => unc l14 fun u15 l15 => unc l15 fun u16 l16 => unc l16 fun u17 l17 => unc l17 fun u18 l18 => unc l18 fun u19 l19 => some [u15, u15, u16, u17, u18, u19, t13, t13, t12, t11])) fun l11 => unc l11 fun u12 l12 => unc l12 fun u13 l13 => unc l13 fun u14 l14 => unc l14 fun u15 l15 => unc l15 fun u16 l16 => unc l16 fun u17 l17 => unc l17 fun u18 l18 => unc l18 fun u19 l19 => unc l19 fun u20 l20 => unc l20 fun u21 l21 =>
 bIf u12 (Option.bind (aBin Try.prog BinOp.add 3 false true x6 (A.v (Value.int IntKind.i64 1))) fun t22 =>
 Option.bind (trim L H3) fun H23 => bif bif Nat.beq (List.length H3) L then true else keepsUnder L [(6, t22), (16, t22), (15, x6), (37, u12), (36, u13), (35, u14), (34, u15), (33, u16), (32, u17), (31, u18), (30, u19), (29, u20), (28, u21), (27, u8), (26, u8), (25, u9), (24, u10), (23, t6), (22, t6), (21, t5), (20, t4), (7, r2.1), (19, t1), (18, x6), (17, x5), (14, t0), (13, x6), (0, x0), (1, x1), (2, x2), (3, x3), (5, x5), (6, x6), (8, x8)] [0, 1, 2, 3, 5, 6, 8] then loopR (cx C) call rg n 46 lo 1 L kx kg kr kp m (St.mk [(0, x0), (1, x1), (2, x2), (3, x3), (5, x5), (6, t22), (8, x8)] H23) else none) (Option.bind (aLoad Try.prog 58 r2.1 H3) fun t22 => dynCall (cx C) call x0 [t22] H3 lo (fun i23 h23 =>
 Option.bind (aUn Try.prog UnOp.not i23) fun t24 =>
 bIf t24 (kr (St.mk [(0, x0), (1, x1), (2, x2), (3, x3), (5, x5), (6, x6), (8, x8)] h23)) (Option.bind (aBin Try.prog BinOp.add 3 false true x6 (A.v (Value.int IntKind.i64 1))) fun t25 =>
 Option.bind (trim L h23) fun H26 => bif bif Nat.beq (List.length h23) L then true else keepsUnder L [(6, t25), (16, t25), (15, x6), (41, t24), (40, i23), (39, t22), (38, x0), (37, u12), (36, u13), (35, u14), (34, u15), (33, u16), (32, u17), (31, u18), (30, u19), (29, u20), (28, u21), (27, u8), (26, u8), (25, u9), (24, u10), (23, t6), (22, t6), (21, t5), (20, t4), (7, r2.1), (19, t1), (18, x6), (17, x5), (14, t0), (13, x6), (0, x0), (1, x1), (2, x2), (3, x3), (5, x5), (6, x6), (8, x8)] [0, 1, 2, 3, 5, 6, 8] then loopR (cx C) call rg n 46 lo 1 L kx kg kr kp m (St.mk [(0, x0), (1, x1), (2, x2), (3, x3), (5, x5), (6, t25), (8, x8)] H26) else none)) fun i23 h23 => kp i23 (St.mk [(0, x0), (1, x1), (2, x2), (3, x3), (5, x5), (6, x6), (8, x8)] h23))) (kx 2 (St.mk [(0, x0), (1, x1), (2, x2), (3, x3), (5, x5), (6, x6), (8, x8)] H)) := by kernel_rfl
theorem e20_r0 (C : Nat → List A → Option A) (call : CallT) (rg : CallT → CallT) (n lo b lo' : Nat) (x8 y0 : A) (H : Heap) : roundR (cx C) call rg n 20 lo 0 b [(8, x8)] [y0] H lo' = bif Nat.ble lo' lo then rdy H b (Option.bind (aAlloc Try.prog 55 H) fun r0 =>
 Option.bind (aStore Try.prog 55 r0.1 (stV r0.1 r0.2 y0) r0.2 lo) fun H1 => rdy H1 b (Option.bind (aFieldAddr Try.prog 25 x8 1 (List.set H1 b (Blk.rng RSt.busy))) fun t2 =>
 Option.bind (aLoad Try.prog 23 t2 (List.set H1 b (Blk.rng RSt.busy))) fun t3 =>
 Option.bind (aLoad Try.prog 55 r0.1 (List.set H1 b (Blk.rng RSt.busy))) fun t4 =>
 Option.bind (aBuildSlice Try.prog 23 1 [(0, frzA (List.set H1 b (Blk.rng RSt.busy)) t4)]) fun t5 =>
 Option.bind (aAppend Try.prog 23 23 false t3 t5 (List.set H1 b (Blk.rng RSt.busy)) lo) fun r6 =>
 Option.bind (aFieldAddr Try.prog 25 x8 1 r6.2) fun t7 =>
 Option.bind (aStore Try.prog 23 t7 (stV t7 r6.2 r6.1) r6.2 lo) fun H8 => bsy H8 b (some (Out.ret (A.v (Value.bool true)), List.set H8 b (Blk.rng RSt.ready))))) else none := by kernel_rfl
end Go.Proofs.Ytgcobbhbfkjkeaa
