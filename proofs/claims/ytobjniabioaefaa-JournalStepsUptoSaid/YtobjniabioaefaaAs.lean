/-
 What is proved of the functions, put together: by a tool.
-/
import Derived.Test.YtobjniabioaefaaT
namespace Go.Proofs.Ytobjniabioaefaa
open Go.Proofs.Try (prog)
set_option linter.unusedVariables false
set_option linter.unusedSimpArgs false
set_option maxHeartbeats 4000000
set_option maxRecDepth 100000
theorem in_S_Write : Inj c_S_Write := fun x y h => by
 obtain ⟨xAt, xData⟩ := x; obtain ⟨yAt, yData⟩ := y
 simp only [c_S_Write, List.cons.injEq, A.v.injEq, A.imm.injEq, Value.int.injEq, Value.bool.injEq, Value.string.injEq, and_true, true_and, map_inj (in_c8)] at h
 simp_all
noncomputable def C0 : Nat -> List A -> Option A := fun _ _ => none
def AllOK (C : Nat -> List A -> Option A) : Prop := ∀ (k : Nat) (args : List A) (r : A), C k args = some r -> CallOK prog (cx C0).glob k args r
theorem orc0 : AllOK C0 := fun k args r h => (by cases h)
theorem orc_upd {C : Nat -> List A -> Option A} {k : Nat} {c : List A -> Option A} (h : AllOK C) (hc : ∀ args r, c args = some r -> CallOK prog (cx C0).glob k args r) : AllOK (upd C k c) := fun j args r hr => by
 simp only [upd] at hr
 rw [bcond] at hr
 split at hr
 ·rename_i hj
  rw [Nat.eq_of_beq_eq_true hj]; exact hc args r hr
 ·exact h j args r hr
def x74 (x : Int × Int) : List A := [(A.v (.int .u64 x.1)), (A.v (.int .u64 x.2))]
theorem ix74 : Inj x74 := fun x y h => by
 simp only [x74, in0] at h
 obtain ⟨xa0, xa1⟩ := x
 obtain ⟨ya0, ya1⟩ := y
 simp_all
noncomputable def o74 (args : List A) : Option A := orcOf x74 (fun x => (G74 x.1 x.2).map fun y => (A.tup [(A.v (.int .u64 y.1)), (A.v (.int .u64 y.2))])) args
theorem ok74 (args : List A) (r : A) (h : o74 args = some r) : CallOK prog (cx C0).glob 74 args r := by
 obtain ⟨x, y, rfl, hy, rfl⟩ := orcOf_map h
 exact ok_J (f := fun (y : (Int × Int)) => (A.tup [(A.v (.int .u64 y.1)), (A.v (.int .u64 y.2))])) (cx := cx C0) (fun k args r _ h => orc0 k args r h) (by kernel_rfl) (T74 C0 fuel0  x.1 x.2) hy
noncomputable def C1 : Nat -> List A -> Option A := upd C0 74 o74
theorem orc_C1 : AllOK C1 := orc_upd orc0 ok74
def x68 (x : Int × Int) : List A := [(A.v (.int .u64 x.1)), (A.v (.int .u64 x.2))]
theorem ix68 : Inj x68 := fun x y h => by
 simp only [x68, in0] at h
 obtain ⟨xa0, xa1⟩ := x
 obtain ⟨ya0, ya1⟩ := y
 simp_all
noncomputable def o68 (args : List A) : Option A := orcOf x68 (fun x => (G68 x.1 x.2).map fun y => (A.tup [(A.v (.int .u64 y.1)), (A.v (.int .u64 y.2))])) args
theorem r74_C1 : Orc74 C1 := fun a0 a1 => (by kernel_rfl : _ = o74 (x74 (a0, a1))).trans (orcOf_eq _ ix74 (a0, a1))
theorem ok68 (args : List A) (r : A) (h : o68 args = some r) : CallOK prog (cx C0).glob 68 args r := by
 obtain ⟨x, y, rfl, hy, rfl⟩ := orcOf_map h
 exact ok_J (f := fun (y : (Int × Int)) => (A.tup [(A.v (.int .u64 y.1)), (A.v (.int .u64 y.2))])) (cx := cx C1) (fun k args r _ h => orc_C1 k args r h) (by kernel_rfl) (T68 C1 fuel0 (r74_C1) x.1 x.2) hy
noncomputable def C2 : Nat -> List A -> Option A := upd C1 68 o68
theorem orc_C2 : AllOK C2 := orc_upd orc_C1 ok68
def x49 (x : (List (List UInt8)) × Int) : List A := [(A.imm (List.map (cL c8) x.1) false), (iA x.2)]
theorem ix49 : Inj x49 := fun x y h => by
 simp only [x49, in0, map_inj (in_c8), map_inj (in_cL (in_c8))] at h
 obtain ⟨xa0, xa1⟩ := x
 obtain ⟨ya0, ya1⟩ := y
 simp_all
noncomputable def o49 (args : List A) : Option A := orcOf x49 (fun x => (G49 x.1 x.2).map fun y => (A.imm (List.map (cL c8) y) false)) args
theorem r68_C2 : Orc68 C2 := fun a0 a1 => (by kernel_rfl : _ = o68 (x68 (a0, a1))).trans (orcOf_eq _ ix68 (a0, a1))
theorem ok49 (args : List A) (r : A) (h : o49 args = some r) : CallOK prog (cx C0).glob 49 args r := by
 obtain ⟨x, y, rfl, hy, rfl⟩ := orcOf_map h
 exact ok_J (f := fun (y : (List (List UInt8))) => (A.imm (List.map (cL c8) y) false)) (cx := cx C2) (fun k args r _ h => orc_C2 k args r h) (by kernel_rfl) (T49 C2 fuel0 (r68_C2) x.1 x.2) hy
noncomputable def C3 : Nat -> List A -> Option A := upd C2 49 o49
theorem orc_C3 : AllOK C3 := orc_upd orc_C2 ok49
def x25 (x : Int) : List A := [(iA x)]
theorem ix25 : Inj x25 := fun x y h => by
 simp only [x25, in0] at h
 exact h
noncomputable def o25 (args : List A) : Option A := orcOf x25 (fun x => (G25 x).map fun y => (A.tup [(A.agg [(A.imm (List.map (cL c8) y.1.Sectors) false), (A.imm (List.map c_S_Write y.1.Pending) false), (iA y.1.Left), (bA y.1.Stopped)]), (iA y.2)])) args
theorem r49_C3 : Orc49 C3 := fun a0 a1 => (by kernel_rfl : _ = o49 (x49 (a0, a1))).trans (orcOf_eq _ ix49 (a0, a1))
theorem ok25 (args : List A) (r : A) (h : o25 args = some r) : CallOK prog (cx C0).glob 25 args r := by
 obtain ⟨x, y, rfl, hy, rfl⟩ := orcOf_map h
 exact ok_J (f := fun (y : (S_Disk × Int)) => (A.tup [(A.agg [(A.imm (List.map (cL c8) y.1.Sectors) false), (A.imm (List.map c_S_Write y.1.Pending) false), (iA y.1.Left), (bA y.1.Stopped)]), (iA y.2)])) (cx := cx C3) (fun k args r _ h => orc_C3 k args r h) (by kernel_rfl) (T25 C3 fuel0 (r49_C3) x) hy
noncomputable def C4 : Nat -> List A -> Option A := upd C3 25 o25
theorem orc_C4 : AllOK C4 := orc_upd orc_C3 ok25
def x56 (x : (List UInt8)) : List A := [(A.imm (List.map c8 x) false)]
theorem ix56 : Inj x56 := fun x y h => by
 simp only [x56, in0, map_inj (in_c8)] at h
 exact h
noncomputable def o56 (args : List A) : Option A := orcOf x56 (fun x => (G56 x).map fun y => (bA y)) args
theorem ok56 (args : List A) (r : A) (h : o56 args = some r) : CallOK prog (cx C0).glob 56 args r := by
 obtain ⟨x, y, rfl, hy, rfl⟩ := orcOf_map h
 exact ok_J (f := fun (y : Bool) => (bA y)) (cx := cx C4) (fun k args r _ h => orc_C4 k args r h) (by kernel_rfl) (T56 C4 fuel0  x) hy
noncomputable def C5 : Nat -> List A -> Option A := upd C4 56 o56
theorem orc_C5 : AllOK C5 := orc_upd orc_C4 ok56
def x59 (x : (List UInt8)) : List A := [(A.imm (List.map c8 x) false)]
theorem ix59 : Inj x59 := fun x y h => by
 simp only [x59, in0, map_inj (in_c8)] at h
 exact h
noncomputable def o59 (args : List A) : Option A := orcOf x59 (fun x => (G59 x).map fun y => (bA y)) args
theorem r56_C5 : Orc56 C5 := fun a0 => (by kernel_rfl : _ = o56 (x56 a0)).trans (orcOf_eq _ ix56 a0)
theorem ok59 (args : List A) (r : A) (h : o59 args = some r) : CallOK prog (cx C0).glob 59 args r := by
 obtain ⟨x, y, rfl, hy, rfl⟩ := orcOf_map h
 exact ok_J (f := fun (y : Bool) => (bA y)) (cx := cx C5) (fun k args r _ h => orc_C5 k args r h) (by kernel_rfl) (T59 C5 fuel0 (r56_C5) x) hy
noncomputable def C6 : Nat -> List A -> Option A := upd C5 59 o59
theorem orc_C6 : AllOK C6 := orc_upd orc_C5 ok59
def x71_59 (x : (List (List UInt8))) : List A := [(A.imm (List.map (cL c8) x) false), (A.fn (Fn.func 59) [] [])]
theorem ix71_59 : Inj x71_59 := fun x y h => by
 simp only [x71_59, in0, map_inj (in_c8), map_inj (in_cL (in_c8))] at h
 exact h
noncomputable def o71_59 (args : List A) : Option A := orcOf x71_59 (fun x => (G71_59 x).map fun y => (iA y)) args
theorem r59_C6 : Orc59 C6 := fun a0 => (by kernel_rfl : _ = o59 (x59 a0)).trans (orcOf_eq _ ix59 a0)
theorem ok71_59 (args : List A) (r : A) (h : o71_59 args = some r) : CallOK prog (cx C0).glob 71 args r := by
 obtain ⟨x, y, rfl, hy, rfl⟩ := orcOf_map h
 exact ok_J (f := fun (y : Int) => (iA y)) (cx := cx C6) (fun k args r _ h => orc_C6 k args r h) (by kernel_rfl) (T71_59 C6 fuel0 (r59_C6) x) hy
noncomputable def C7 : Nat -> List A -> Option A := upd C6 71 o71_59
theorem orc_C7 : AllOK C7 := orc_upd orc_C6 ok71_59
def x58_59 (x : (List (List UInt8))) : List A := [(A.imm (List.map (cL c8) x) false), (A.fn (Fn.func 59) [] [])]
theorem ix58_59 : Inj x58_59 := fun x y h => by
 simp only [x58_59, in0, map_inj (in_c8), map_inj (in_cL (in_c8))] at h
 exact h
noncomputable def o58_59 (args : List A) : Option A := orcOf x58_59 (fun x => (G58_59 x).map fun y => (bA y)) args
theorem r71_59_C7 : Orc71_59 C7 := fun a0 => (by kernel_rfl : _ = o71_59 (x71_59 a0)).trans (orcOf_eq _ ix71_59 a0)
theorem ok58_59 (args : List A) (r : A) (h : o58_59 args = some r) : CallOK prog (cx C0).glob 58 args r := by
 obtain ⟨x, y, rfl, hy, rfl⟩ := orcOf_map h
 exact ok_J (f := fun (y : Bool) => (bA y)) (cx := cx C7) (fun k args r _ h => orc_C7 k args r h) (by kernel_rfl) (T58_59 C7 fuel0 (r71_59_C7) x) hy
noncomputable def C8 : Nat -> List A -> Option A := upd C7 58 o58_59
theorem orc_C8 : AllOK C8 := orc_upd orc_C7 ok58_59
def x31 (x : S_Disk) : List A := [(A.agg [(A.imm (List.map (cL c8) x.Sectors) false), (A.imm (List.map c_S_Write x.Pending) false), (iA x.Left), (bA x.Stopped)])]
theorem ix31 : Inj x31 := fun x y h => by
 simp only [x31, in0, map_inj (in_S_Write), map_inj (in_c8), map_inj (in_cL (in_c8))] at h
 obtain ⟨xa0Sectors, xa0Pending, xa0Left, xa0Stopped⟩ := x
 obtain ⟨ya0Sectors, ya0Pending, ya0Left, ya0Stopped⟩ := y
 simp_all
noncomputable def o31 (args : List A) : Option A := orcOf x31 (fun x => (G31 x).map fun y => (iA y)) args
theorem r56_C8 : Orc56 C8 := fun a0 => (by kernel_rfl : _ = o56 (x56 a0)).trans (orcOf_eq _ ix56 a0)
theorem r58_59_C8 : Orc58_59 C8 := fun a0 => (by kernel_rfl : _ = o58_59 (x58_59 a0)).trans (orcOf_eq _ ix58_59 a0)
theorem ok31 (args : List A) (r : A) (h : o31 args = some r) : CallOK prog (cx C0).glob 31 args r := by
 obtain ⟨x, y, rfl, hy, rfl⟩ := orcOf_map h
 exact ok_J (f := fun (y : Int) => (iA y)) (cx := cx C8) (fun k args r _ h => orc_C8 k args r h) (by kernel_rfl) (T31 C8 fuel0 (r56_C8) (r58_59_C8) x) hy
noncomputable def C9 : Nat -> List A -> Option A := upd C8 31 o31
theorem orc_C9 : AllOK C9 := orc_upd orc_C8 ok31
def x41 (x : (List UInt8)) : List A := [(A.imm (List.map c8 x) false)]
theorem ix41 : Inj x41 := fun x y h => by
 simp only [x41, in0, map_inj (in_c8)] at h
 exact h
noncomputable def o41 (args : List A) : Option A := orcOf x41 (fun x => (G41 x).map fun y => (A.v (.int .u64 y))) args
theorem ok41 (args : List A) (r : A) (h : o41 args = some r) : CallOK prog (cx C0).glob 41 args r := by
 obtain ⟨x, y, rfl, hy, rfl⟩ := orcOf_map h
 exact ok_J (f := fun (y : Int) => (A.v (.int .u64 y))) (cx := cx C9) (fun k args r _ h => orc_C9 k args r h) (by kernel_rfl) (T41 C9 fuel0  x) hy
noncomputable def C10 : Nat -> List A -> Option A := upd C9 41 o41
theorem orc_C10 : AllOK C10 := orc_upd orc_C9 ok41
def x44 (x : Int × Int × Int × (List UInt8)) : List A := [(A.v (.int .u64 x.1)), (iA x.2.1), (uA x.2.2.1), (A.imm (List.map c8 x.2.2.2) false)]
theorem ix44 : Inj x44 := fun x y h => by
 simp only [x44, in0, map_inj (in_c8)] at h
 obtain ⟨xa0, xa1, xa2, xa3⟩ := x
 obtain ⟨ya0, ya1, ya2, ya3⟩ := y
 simp_all
noncomputable def o44 (args : List A) : Option A := orcOf x44 (fun x => (G44 x.1 x.2.1 x.2.2.1 x.2.2.2).map fun y => (A.imm (List.map c8 y) false)) args
theorem ok44 (args : List A) (r : A) (h : o44 args = some r) : CallOK prog (cx C0).glob 44 args r := by
 obtain ⟨x, y, rfl, hy, rfl⟩ := orcOf_map h
 exact ok_J (f := fun (y : (List UInt8)) => (A.imm (List.map c8 y) false)) (cx := cx C10) (fun k args r _ h => orc_C10 k args r h) (by kernel_rfl) (T44 C10 fuel0  x.1 x.2.1 x.2.2.1 x.2.2.2) hy
noncomputable def C11 : Nat -> List A -> Option A := upd C10 44 o44
theorem orc_C11 : AllOK C11 := orc_upd orc_C10 ok44
def x43 (x : (List UInt8) × (List UInt8)) : List A := [(A.imm (List.map c8 x.1) false), (A.imm (List.map c8 x.2) false)]
theorem ix43 : Inj x43 := fun x y h => by
 simp only [x43, in0, map_inj (in_c8)] at h
 obtain ⟨xa0, xa1⟩ := x
 obtain ⟨ya0, ya1⟩ := y
 simp_all
noncomputable def o43 (args : List A) : Option A := orcOf x43 (fun x => (G43 x.1 x.2).map fun y => (bA y)) args
theorem ok43 (args : List A) (r : A) (h : o43 args = some r) : CallOK prog (cx C0).glob 43 args r := by
 obtain ⟨x, y, rfl, hy, rfl⟩ := orcOf_map h
 exact ok_J (f := fun (y : Bool) => (bA y)) (cx := cx C11) (fun k args r _ h => orc_C11 k args r h) (by kernel_rfl) (T43 C11 fuel0  x.1 x.2) hy
noncomputable def C12 : Nat -> List A -> Option A := upd C11 43 o43
theorem orc_C12 : AllOK C12 := orc_upd orc_C11 ok43
def x61 (x : (List UInt8) × Int) : List A := [(A.imm (List.map c8 x.1) false), (iA x.2)]
theorem ix61 : Inj x61 := fun x y h => by
 simp only [x61, in0, map_inj (in_c8)] at h
 obtain ⟨xa0, xa1⟩ := x
 obtain ⟨ya0, ya1⟩ := y
 simp_all
noncomputable def o61 (args : List A) : Option A := orcOf x61 (fun x => (G61 x.1 x.2).map fun y => (bA y)) args
theorem r41_C12 : Orc41 C12 := fun a0 => (by kernel_rfl : _ = o41 (x41 a0)).trans (orcOf_eq _ ix41 a0)
theorem r43_C12 : Orc43 C12 := fun a0 a1 => (by kernel_rfl : _ = o43 (x43 (a0, a1))).trans (orcOf_eq _ ix43 (a0, a1))
theorem r44_C12 : Orc44 C12 := fun a0 a1 a2 a3 => (by kernel_rfl : _ = o44 (x44 (a0, a1, a2, a3))).trans (orcOf_eq _ ix44 (a0, a1, a2, a3))
theorem ok61 (args : List A) (r : A) (h : o61 args = some r) : CallOK prog (cx C0).glob 61 args r := by
 obtain ⟨x, y, rfl, hy, rfl⟩ := orcOf_map h
 exact ok_J (f := fun (y : Bool) => (bA y)) (cx := cx C12) (fun k args r _ h => orc_C12 k args r h) (by kernel_rfl) (T61 C12 fuel0 (r41_C12) (r43_C12) (r44_C12) x.1 x.2) hy
noncomputable def C13 : Nat -> List A -> Option A := upd C12 61 o61
theorem orc_C13 : AllOK C13 := orc_upd orc_C12 ok61
def x12 (x : S_Disk) : List A := [(A.agg [(A.imm (List.map (cL c8) x.Sectors) false), (A.imm (List.map c_S_Write x.Pending) false), (iA x.Left), (bA x.Stopped)])]
theorem ix12 : Inj x12 := fun x y h => by
 simp only [x12, in0, map_inj (in_S_Write), map_inj (in_c8), map_inj (in_cL (in_c8))] at h
 obtain ⟨xa0Sectors, xa0Pending, xa0Left, xa0Stopped⟩ := x
 obtain ⟨ya0Sectors, ya0Pending, ya0Left, ya0Stopped⟩ := y
 simp_all
noncomputable def o12 (args : List A) : Option A := orcOf x12 (fun x => (G12 x).map fun y => (A.tup [(A.agg [(A.imm (List.map (cL c8) y.1.Records) false), (iA y.1.Many), (iA y.1.Synced)]), (iA y.2)])) args
theorem r31_C13 : Orc31 C13 := fun a0 => (by kernel_rfl : _ = o31 (x31 a0)).trans (orcOf_eq _ ix31 a0)
theorem r41_C13 : Orc41 C13 := fun a0 => (by kernel_rfl : _ = o41 (x41 a0)).trans (orcOf_eq _ ix41 a0)
theorem r61_C13 : Orc61 C13 := fun a0 a1 => (by kernel_rfl : _ = o61 (x61 (a0, a1))).trans (orcOf_eq _ ix61 (a0, a1))
theorem ok12 (args : List A) (r : A) (h : o12 args = some r) : CallOK prog (cx C0).glob 12 args r := by
 obtain ⟨x, y, rfl, hy, rfl⟩ := orcOf_map h
 exact ok_J (f := fun (y : (S_Journal × Int)) => (A.tup [(A.agg [(A.imm (List.map (cL c8) y.1.Records) false), (iA y.1.Many), (iA y.1.Synced)]), (iA y.2)])) (cx := cx C13) (fun k args r _ h => orc_C13 k args r h) (by kernel_rfl) (T12 C13 fuel0 (r31_C13) (r41_C13) (r61_C13) x) hy
noncomputable def C14 : Nat -> List A -> Option A := upd C13 12 o12
theorem orc_C14 : AllOK C14 := orc_upd orc_C13 ok12
def x35 (x : (List UInt8)) : List A := [(A.imm (List.map c8 x) false)]
theorem ix35 : Inj x35 := fun x y h => by
 simp only [x35, in0, map_inj (in_c8)] at h
 exact h
noncomputable def o35 (args : List A) : Option A := orcOf x35 (fun x => (G35 x).map fun y => (iA y)) args
theorem ok35 (args : List A) (r : A) (h : o35 args = some r) : CallOK prog (cx C0).glob 35 args r := by
 obtain ⟨x, y, rfl, hy, rfl⟩ := orcOf_map h
 exact ok_J (f := fun (y : Int) => (iA y)) (cx := cx C14) (fun k args r _ h => orc_C14 k args r h) (by kernel_rfl) (T35 C14 fuel0  x) hy
noncomputable def C15 : Nat -> List A -> Option A := upd C14 35 o35
theorem orc_C15 : AllOK C15 := orc_upd orc_C14 ok35
def x36 (x : (List (List UInt8))) : List A := [(A.imm (List.map (cL c8) x) false)]
theorem ix36 : Inj x36 := fun x y h => by
 simp only [x36, in0, map_inj (in_c8), map_inj (in_cL (in_c8))] at h
 exact h
noncomputable def o36 (args : List A) : Option A := orcOf x36 (fun x => (G36 x).map fun y => (iA y)) args
theorem r35_C15 : Orc35 C15 := fun a0 => (by kernel_rfl : _ = o35 (x35 a0)).trans (orcOf_eq _ ix35 a0)
theorem ok36 (args : List A) (r : A) (h : o36 args = some r) : CallOK prog (cx C0).glob 36 args r := by
 obtain ⟨x, y, rfl, hy, rfl⟩ := orcOf_map h
 exact ok_J (f := fun (y : Int) => (iA y)) (cx := cx C15) (fun k args r _ h => orc_C15 k args r h) (by kernel_rfl) (T36 C15 fuel0 (r35_C15) x) hy
noncomputable def C16 : Nat -> List A -> Option A := upd C15 36 o36
theorem orc_C16 : AllOK C16 := orc_upd orc_C15 ok36
def x17 (x : S_Journal) : List A := [(A.agg [(A.imm (List.map (cL c8) x.Records) false), (iA x.Many), (iA x.Synced)])]
theorem ix17 : Inj x17 := fun x y h => by
 simp only [x17, in0, map_inj (in_c8), map_inj (in_cL (in_c8))] at h
 obtain ⟨xa0Records, xa0Many, xa0Synced⟩ := x
 obtain ⟨ya0Records, ya0Many, ya0Synced⟩ := y
 simp_all
noncomputable def o17 (args : List A) : Option A := orcOf x17 (fun x => (G17 x).map fun y => (iA y)) args
theorem r36_C16 : Orc36 C16 := fun a0 => (by kernel_rfl : _ = o36 (x36 a0)).trans (orcOf_eq _ ix36 a0)
theorem ok17 (args : List A) (r : A) (h : o17 args = some r) : CallOK prog (cx C0).glob 17 args r := by
 obtain ⟨x, y, rfl, hy, rfl⟩ := orcOf_map h
 exact ok_J (f := fun (y : Int) => (iA y)) (cx := cx C16) (fun k args r _ h => orc_C16 k args r h) (by kernel_rfl) (T17 C16 fuel0 (r36_C16) x) hy
noncomputable def C17 : Nat -> List A -> Option A := upd C16 17 o17
theorem orc_C17 : AllOK C17 := orc_upd orc_C16 ok17
def x38 (x : (List UInt8)) : List A := [(A.imm (List.map c8 x) false)]
theorem ix38 : Inj x38 := fun x y h => by
 simp only [x38, in0, map_inj (in_c8)] at h
 exact h
noncomputable def o38 (args : List A) : Option A := orcOf x38 (fun x => (G38 x).map fun y => (A.imm (List.map c8 y) false)) args
theorem ok38 (args : List A) (r : A) (h : o38 args = some r) : CallOK prog (cx C0).glob 38 args r := by
 obtain ⟨x, y, rfl, hy, rfl⟩ := orcOf_map h
 exact ok_J (f := fun (y : (List UInt8)) => (A.imm (List.map c8 y) false)) (cx := cx C17) (fun k args r _ h => orc_C17 k args r h) (by kernel_rfl) (T38 C17 fuel0  x) hy
noncomputable def C18 : Nat -> List A -> Option A := upd C17 38 o38
theorem orc_C18 : AllOK C18 := orc_upd orc_C17 ok38
def x15 (x : S_Journal × (List UInt8)) : List A := [(A.agg [(A.imm (List.map (cL c8) x.1.Records) false), (iA x.1.Many), (iA x.1.Synced)]), (A.imm (List.map c8 x.2) false)]
theorem ix15 : Inj x15 := fun x y h => by
 simp only [x15, in0, map_inj (in_c8), map_inj (in_cL (in_c8))] at h
 obtain ⟨⟨xa0Records, xa0Many, xa0Synced⟩, xa1⟩ := x
 obtain ⟨⟨ya0Records, ya0Many, ya0Synced⟩, ya1⟩ := y
 simp_all
noncomputable def o15 (args : List A) : Option A := orcOf x15 (fun x => (G15 x.1 x.2).map fun y => (A.tup [(A.agg [(A.imm (List.map (cL c8) y.1.Records) false), (iA y.1.Many), (iA y.1.Synced)]), (iA y.2)])) args
theorem r17_C18 : Orc17 C18 := fun a0 => (by kernel_rfl : _ = o17 (x17 a0)).trans (orcOf_eq _ ix17 a0)
theorem r35_C18 : Orc35 C18 := fun a0 => (by kernel_rfl : _ = o35 (x35 a0)).trans (orcOf_eq _ ix35 a0)
theorem r36_C18 : Orc36 C18 := fun a0 => (by kernel_rfl : _ = o36 (x36 a0)).trans (orcOf_eq _ ix36 a0)
theorem r38_C18 : Orc38 C18 := fun a0 => (by kernel_rfl : _ = o38 (x38 a0)).trans (orcOf_eq _ ix38 a0)
theorem ok15 (args : List A) (r : A) (h : o15 args = some r) : CallOK prog (cx C0).glob 15 args r := by
 obtain ⟨x, y, rfl, hy, rfl⟩ := orcOf_map h
 exact ok_J (f := fun (y : (S_Journal × Int)) => (A.tup [(A.agg [(A.imm (List.map (cL c8) y.1.Records) false), (iA y.1.Many), (iA y.1.Synced)]), (iA y.2)])) (cx := cxz C18) (fun k args r _ h => orc_C18 k args r h) (by kernel_rfl) (T15 C18 fuel0 (r17_C18) (r35_C18) (r36_C18) (r38_C18) x.1 x.2) hy
noncomputable def C19 : Nat -> List A -> Option A := upd C18 15 o15
theorem orc_C19 : AllOK C19 := orc_upd orc_C18 ok15
def x42_43 (x : (List (List UInt8)) × (List (List UInt8))) : List A := [(A.imm (List.map (cL c8) x.1) false), (A.imm (List.map (cL c8) x.2) false), (A.fn (Fn.func 43) [] [])]
theorem ix42_43 : Inj x42_43 := fun x y h => by
 simp only [x42_43, in0, map_inj (in_c8), map_inj (in_cL (in_c8))] at h
 obtain ⟨xa0, xa1⟩ := x
 obtain ⟨ya0, ya1⟩ := y
 simp_all
noncomputable def o42_43 (args : List A) : Option A := orcOf x42_43 (fun x => (G42_43 x.1 x.2).map fun y => (bA y)) args
theorem r43_C19 : Orc43 C19 := fun a0 a1 => (by kernel_rfl : _ = o43 (x43 (a0, a1))).trans (orcOf_eq _ ix43 (a0, a1))
theorem ok42_43 (args : List A) (r : A) (h : o42_43 args = some r) : CallOK prog (cx C0).glob 42 args r := by
 obtain ⟨x, y, rfl, hy, rfl⟩ := orcOf_map h
 exact ok_J (f := fun (y : Bool) => (bA y)) (cx := cx C19) (fun k args r _ h => orc_C19 k args r h) (by kernel_rfl) (T42_43 C19 fuel0 (r43_C19) x.1 x.2) hy
noncomputable def C20 : Nat -> List A -> Option A := upd C19 42 o42_43
theorem orc_C20 : AllOK C20 := orc_upd orc_C19 ok42_43
def x50 (x : S_Disk) : List A := [(A.agg [(A.imm (List.map (cL c8) x.Sectors) false), (A.imm (List.map c_S_Write x.Pending) false), (iA x.Left), (bA x.Stopped)])]
theorem ix50 : Inj x50 := fun x y h => by
 simp only [x50, in0, map_inj (in_S_Write), map_inj (in_c8), map_inj (in_cL (in_c8))] at h
 obtain ⟨xa0Sectors, xa0Pending, xa0Left, xa0Stopped⟩ := x
 obtain ⟨ya0Sectors, ya0Pending, ya0Left, ya0Stopped⟩ := y
 simp_all
noncomputable def o50 (args : List A) : Option A := orcOf x50 (fun x => (G50 x).map fun y => (bA y)) args
theorem r31_C20 : Orc31 C20 := fun a0 => (by kernel_rfl : _ = o31 (x31 a0)).trans (orcOf_eq _ ix31 a0)
theorem ok50 (args : List A) (r : A) (h : o50 args = some r) : CallOK prog (cx C0).glob 50 args r := by
 obtain ⟨x, y, rfl, hy, rfl⟩ := orcOf_map h
 exact ok_J (f := fun (y : Bool) => (bA y)) (cx := cx C20) (fun k args r _ h => orc_C20 k args r h) (by kernel_rfl) (T50 C20 fuel0 (r31_C20) x) hy
noncomputable def C21 : Nat -> List A -> Option A := upd C20 50 o50
theorem orc_C21 : AllOK C21 := orc_upd orc_C20 ok50
def x51 (x : S_Disk × Int) : List A := [(A.agg [(A.imm (List.map (cL c8) x.1.Sectors) false), (A.imm (List.map c_S_Write x.1.Pending) false), (iA x.1.Left), (bA x.1.Stopped)]), (iA x.2)]
theorem ix51 : Inj x51 := fun x y h => by
 simp only [x51, in0, map_inj (in_S_Write), map_inj (in_c8), map_inj (in_cL (in_c8))] at h
 obtain ⟨⟨xa0Sectors, xa0Pending, xa0Left, xa0Stopped⟩, xa1⟩ := x
 obtain ⟨⟨ya0Sectors, ya0Pending, ya0Left, ya0Stopped⟩, ya1⟩ := y
 simp_all
noncomputable def o51 (args : List A) : Option A := orcOf x51 (fun x => (G51 x.1 x.2).map fun y => (bA y)) args
theorem ok51 (args : List A) (r : A) (h : o51 args = some r) : CallOK prog (cx C0).glob 51 args r := by
 obtain ⟨x, y, rfl, hy, rfl⟩ := orcOf_map h
 exact ok_J (f := fun (y : Bool) => (bA y)) (cx := cx C21) (fun k args r _ h => orc_C21 k args r h) (by kernel_rfl) (T51 C21 fuel0  x.1 x.2) hy
noncomputable def C22 : Nat -> List A -> Option A := upd C21 51 o51
theorem orc_C22 : AllOK C22 := orc_upd orc_C21 ok51
def x53 (x : (List S_Write)) : List A := [(A.imm (List.map c_S_Write x) false)]
theorem ix53 : Inj x53 := fun x y h => by
 simp only [x53, in0, map_inj (in_S_Write), map_inj (in_c8)] at h
 exact h
noncomputable def o53 (args : List A) : Option A := orcOf x53 (fun x => (G53 x).map fun y => (A.imm (List.map c_S_Write y) false)) args
theorem ok53 (args : List A) (r : A) (h : o53 args = some r) : CallOK prog (cx C0).glob 53 args r := by
 obtain ⟨x, y, rfl, hy, rfl⟩ := orcOf_map h
 exact ok_J (f := fun (y : (List S_Write)) => (A.imm (List.map c_S_Write y) false)) (cx := cx C22) (fun k args r _ h => orc_C22 k args r h) (by kernel_rfl) (T53 C22 fuel0  x) hy
noncomputable def C23 : Nat -> List A -> Option A := upd C22 53 o53
theorem orc_C23 : AllOK C23 := orc_upd orc_C22 ok53
def x26 (x : S_Disk × Int × (List UInt8)) : List A := [(A.agg [(A.imm (List.map (cL c8) x.1.Sectors) false), (A.imm (List.map c_S_Write x.1.Pending) false), (iA x.1.Left), (bA x.1.Stopped)]), (iA x.2.1), (A.imm (List.map c8 x.2.2) false)]
theorem ix26 : Inj x26 := fun x y h => by
 simp only [x26, in0, map_inj (in_S_Write), map_inj (in_c8), map_inj (in_cL (in_c8))] at h
 obtain ⟨⟨xa0Sectors, xa0Pending, xa0Left, xa0Stopped⟩, xa1, xa2⟩ := x
 obtain ⟨⟨ya0Sectors, ya0Pending, ya0Left, ya0Stopped⟩, ya1, ya2⟩ := y
 simp_all
noncomputable def o26 (args : List A) : Option A := orcOf x26 (fun x => (G26 x.1 x.2.1 x.2.2).map fun y => (A.tup [(A.agg [(A.imm (List.map (cL c8) y.1.Sectors) false), (A.imm (List.map c_S_Write y.1.Pending) false), (iA y.1.Left), (bA y.1.Stopped)]), (iA y.2)])) args
theorem r50_C23 : Orc50 C23 := fun a0 => (by kernel_rfl : _ = o50 (x50 a0)).trans (orcOf_eq _ ix50 a0)
theorem r51_C23 : Orc51 C23 := fun a0 a1 => (by kernel_rfl : _ = o51 (x51 (a0, a1))).trans (orcOf_eq _ ix51 (a0, a1))
theorem r53_C23 : Orc53 C23 := fun a0 => (by kernel_rfl : _ = o53 (x53 a0)).trans (orcOf_eq _ ix53 a0)
theorem ok26 (args : List A) (r : A) (h : o26 args = some r) : CallOK prog (cx C0).glob 26 args r := by
 obtain ⟨x, y, rfl, hy, rfl⟩ := orcOf_map h
 exact ok_J (f := fun (y : (S_Disk × Int)) => (A.tup [(A.agg [(A.imm (List.map (cL c8) y.1.Sectors) false), (A.imm (List.map c_S_Write y.1.Pending) false), (iA y.1.Left), (bA y.1.Stopped)]), (iA y.2)])) (cx := cx C23) (fun k args r _ h => orc_C23 k args r h) (by kernel_rfl) (T26 C23 fuel0 (r50_C23) (r51_C23) (r53_C23) x.1 x.2.1 x.2.2) hy
noncomputable def C24 : Nat -> List A -> Option A := upd C23 26 o26
theorem orc_C24 : AllOK C24 := orc_upd orc_C23 ok26
def x54 (x : (List (List UInt8)) × (List S_Write)) : List A := [(A.imm (List.map (cL c8) x.1) false), (A.imm (List.map c_S_Write x.2) false)]
theorem ix54 : Inj x54 := fun x y h => by
 simp only [x54, in0, map_inj (in_S_Write), map_inj (in_c8), map_inj (in_cL (in_c8))] at h
 obtain ⟨xa0, xa1⟩ := x
 obtain ⟨ya0, ya1⟩ := y
 simp_all
noncomputable def o54 (args : List A) : Option A := orcOf x54 (fun x => (G54 x.1 x.2).map fun y => (A.imm (List.map (cL c8) y) false)) args
theorem ok54 (args : List A) (r : A) (h : o54 args = some r) : CallOK prog (cx C0).glob 54 args r := by
 obtain ⟨x, y, rfl, hy, rfl⟩ := orcOf_map h
 exact ok_J (f := fun (y : (List (List UInt8))) => (A.imm (List.map (cL c8) y) false)) (cx := cx C24) (fun k args r _ h => orc_C24 k args r h) (by kernel_rfl) (T54 C24 fuel0  x.1 x.2) hy
noncomputable def C25 : Nat -> List A -> Option A := upd C24 54 o54
theorem orc_C25 : AllOK C25 := orc_upd orc_C24 ok54
def x27 (x : S_Disk) : List A := [(A.agg [(A.imm (List.map (cL c8) x.Sectors) false), (A.imm (List.map c_S_Write x.Pending) false), (iA x.Left), (bA x.Stopped)])]
theorem ix27 : Inj x27 := fun x y h => by
 simp only [x27, in0, map_inj (in_S_Write), map_inj (in_c8), map_inj (in_cL (in_c8))] at h
 obtain ⟨xa0Sectors, xa0Pending, xa0Left, xa0Stopped⟩ := x
 obtain ⟨ya0Sectors, ya0Pending, ya0Left, ya0Stopped⟩ := y
 simp_all
noncomputable def o27 (args : List A) : Option A := orcOf x27 (fun x => (G27 x).map fun y => (A.tup [(A.agg [(A.imm (List.map (cL c8) y.1.Sectors) false), (A.imm (List.map c_S_Write y.1.Pending) false), (iA y.1.Left), (bA y.1.Stopped)]), (iA y.2)])) args
theorem r50_C25 : Orc50 C25 := fun a0 => (by kernel_rfl : _ = o50 (x50 a0)).trans (orcOf_eq _ ix50 a0)
theorem r54_C25 : Orc54 C25 := fun a0 a1 => (by kernel_rfl : _ = o54 (x54 (a0, a1))).trans (orcOf_eq _ ix54 (a0, a1))
theorem ok27 (args : List A) (r : A) (h : o27 args = some r) : CallOK prog (cx C0).glob 27 args r := by
 obtain ⟨x, y, rfl, hy, rfl⟩ := orcOf_map h
 exact ok_J (f := fun (y : (S_Disk × Int)) => (A.tup [(A.agg [(A.imm (List.map (cL c8) y.1.Sectors) false), (A.imm (List.map c_S_Write y.1.Pending) false), (iA y.1.Left), (bA y.1.Stopped)]), (iA y.2)])) (cx := cx C25) (fun k args r _ h => orc_C25 k args r h) (by kernel_rfl) (T27 C25 fuel0 (r50_C25) (r54_C25) x) hy
noncomputable def C26 : Nat -> List A -> Option A := upd C25 27 o27
theorem orc_C26 : AllOK C26 := orc_upd orc_C25 ok27
def x21 (x : S_Journal × S_Disk) : List A := [(A.agg [(A.imm (List.map (cL c8) x.1.Records) false), (iA x.1.Many), (iA x.1.Synced)]), (A.agg [(A.imm (List.map (cL c8) x.2.Sectors) false), (A.imm (List.map c_S_Write x.2.Pending) false), (iA x.2.Left), (bA x.2.Stopped)])]
theorem ix21 : Inj x21 := fun x y h => by
 simp only [x21, in0, map_inj (in_S_Write), map_inj (in_c8), map_inj (in_cL (in_c8))] at h
 obtain ⟨⟨xa0Records, xa0Many, xa0Synced⟩, ⟨xa1Sectors, xa1Pending, xa1Left, xa1Stopped⟩⟩ := x
 obtain ⟨⟨ya0Records, ya0Many, ya0Synced⟩, ⟨ya1Sectors, ya1Pending, ya1Left, ya1Stopped⟩⟩ := y
 simp_all
noncomputable def o21 (args : List A) : Option A := orcOf x21 (fun x => (G21 x.1 x.2).map fun y => (A.tup [(A.agg [(A.imm (List.map (cL c8) y.1.Records) false), (iA y.1.Many), (iA y.1.Synced)]), (A.agg [(A.imm (List.map (cL c8) y.2.1.Sectors) false), (A.imm (List.map c_S_Write y.2.1.Pending) false), (iA y.2.1.Left), (bA y.2.1.Stopped)]), (iA y.2.2)])) args
theorem r12_C26 : Orc12 C26 := fun a0 => (by kernel_rfl : _ = o12 (x12 a0)).trans (orcOf_eq _ ix12 a0)
theorem r17_C26 : Orc17 C26 := fun a0 => (by kernel_rfl : _ = o17 (x17 a0)).trans (orcOf_eq _ ix17 a0)
theorem r26_C26 : Orc26 C26 := fun a0 a1 a2 => (by kernel_rfl : _ = o26 (x26 (a0, a1, a2))).trans (orcOf_eq _ ix26 (a0, a1, a2))
theorem r27_C26 : Orc27 C26 := fun a0 => (by kernel_rfl : _ = o27 (x27 a0)).trans (orcOf_eq _ ix27 a0)
theorem r31_C26 : Orc31 C26 := fun a0 => (by kernel_rfl : _ = o31 (x31 a0)).trans (orcOf_eq _ ix31 a0)
theorem r35_C26 : Orc35 C26 := fun a0 => (by kernel_rfl : _ = o35 (x35 a0)).trans (orcOf_eq _ ix35 a0)
theorem r36_C26 : Orc36 C26 := fun a0 => (by kernel_rfl : _ = o36 (x36 a0)).trans (orcOf_eq _ ix36 a0)
theorem r41_C26 : Orc41 C26 := fun a0 => (by kernel_rfl : _ = o41 (x41 a0)).trans (orcOf_eq _ ix41 a0)
theorem r42_43_C26 : Orc42_43 C26 := fun a0 a1 => (by kernel_rfl : _ = o42_43 (x42_43 (a0, a1))).trans (orcOf_eq _ ix42_43 (a0, a1))
theorem r44_C26 : Orc44 C26 := fun a0 a1 a2 a3 => (by kernel_rfl : _ = o44 (x44 (a0, a1, a2, a3))).trans (orcOf_eq _ ix44 (a0, a1, a2, a3))
theorem ok21 (args : List A) (r : A) (h : o21 args = some r) : CallOK prog (cx C0).glob 21 args r := by
 obtain ⟨x, y, rfl, hy, rfl⟩ := orcOf_map h
 exact ok_J (f := fun (y : (S_Journal × S_Disk × Int)) => (A.tup [(A.agg [(A.imm (List.map (cL c8) y.1.Records) false), (iA y.1.Many), (iA y.1.Synced)]), (A.agg [(A.imm (List.map (cL c8) y.2.1.Sectors) false), (A.imm (List.map c_S_Write y.2.1.Pending) false), (iA y.2.1.Left), (bA y.2.1.Stopped)]), (iA y.2.2)])) (cx := cx C26) (fun k args r _ h => orc_C26 k args r h) (by kernel_rfl) (T21 C26 fuel0 (r12_C26) (r17_C26) (r26_C26) (r27_C26) (r31_C26) (r35_C26) (r36_C26) (r41_C26) (r42_43_C26) (r44_C26) x.1 x.2) hy
noncomputable def C27 : Nat -> List A -> Option A := upd C26 21 o21
theorem orc_C27 : AllOK C27 := orc_upd orc_C26 ok21
def x19 (x : S_Journal) : List A := [(A.agg [(A.imm (List.map (cL c8) x.Records) false), (iA x.Many), (iA x.Synced)])]
theorem ix19 : Inj x19 := fun x y h => by
 simp only [x19, in0, map_inj (in_c8), map_inj (in_cL (in_c8))] at h
 obtain ⟨xa0Records, xa0Many, xa0Synced⟩ := x
 obtain ⟨ya0Records, ya0Many, ya0Synced⟩ := y
 simp_all
noncomputable def o19 (args : List A) : Option A := orcOf x19 (fun x => (G19 x).map fun y => (iA y)) args
theorem r17_C27 : Orc17 C27 := fun a0 => (by kernel_rfl : _ = o17 (x17 a0)).trans (orcOf_eq _ ix17 a0)
theorem r36_C27 : Orc36 C27 := fun a0 => (by kernel_rfl : _ = o36 (x36 a0)).trans (orcOf_eq _ ix36 a0)
theorem ok19 (args : List A) (r : A) (h : o19 args = some r) : CallOK prog (cx C0).glob 19 args r := by
 obtain ⟨x, y, rfl, hy, rfl⟩ := orcOf_map h
 exact ok_J (f := fun (y : Int) => (iA y)) (cx := cx C27) (fun k args r _ h => orc_C27 k args r h) (by kernel_rfl) (T19 C27 fuel0 (r17_C27) (r36_C27) x) hy
noncomputable def C28 : Nat -> List A -> Option A := upd C27 19 o19
theorem orc_C28 : AllOK C28 := orc_upd orc_C27 ok19
def x10 (x : Unit) : List A := []
theorem ix10 : Inj x10 := fun _ _ _ => rfl
noncomputable def o10 (args : List A) : Option A := orcOf x10 (fun x => (G10 ).map fun y => (bA y)) args
theorem r12_C28 : Orc12 C28 := fun a0 => (by kernel_rfl : _ = o12 (x12 a0)).trans (orcOf_eq _ ix12 a0)
theorem r15_C28 : Orc15 C28 := fun a0 a1 => (by kernel_rfl : _ = o15 (x15 (a0, a1))).trans (orcOf_eq _ ix15 (a0, a1))
theorem r17_C28 : Orc17 C28 := fun a0 => (by kernel_rfl : _ = o17 (x17 a0)).trans (orcOf_eq _ ix17 a0)
theorem r19_C28 : Orc19 C28 := fun a0 => (by kernel_rfl : _ = o19 (x19 a0)).trans (orcOf_eq _ ix19 a0)
theorem r21_C28 : Orc21 C28 := fun a0 a1 => (by kernel_rfl : _ = o21 (x21 (a0, a1))).trans (orcOf_eq _ ix21 (a0, a1))
theorem r25_C28 : Orc25 C28 := fun a0 => (by kernel_rfl : _ = o25 (x25 a0)).trans (orcOf_eq _ ix25 a0)
theorem ok10 (args : List A) (r : A) (h : o10 args = some r) : CallOK prog (cx C0).glob 10 args r := by
 obtain ⟨x, y, rfl, hy, rfl⟩ := orcOf_map h
 exact ok_J (f := fun (y : Bool) => (bA y)) (cx := cx C28) (fun k args r _ h => orc_C28 k args r h) (by kernel_rfl) (T10 C28 fuel0 (r12_C28) (r15_C28) (r17_C28) (r19_C28) (r21_C28) (r25_C28) ) hy
noncomputable def C29 : Nat -> List A -> Option A := upd C28 10 o10
theorem orc_C29 : AllOK C29 := orc_upd orc_C28 ok10
def x11 (x : S_Disk × (List (List UInt8))) : List A := [(A.agg [(A.imm (List.map (cL c8) x.1.Sectors) false), (A.imm (List.map c_S_Write x.1.Pending) false), (iA x.1.Left), (bA x.1.Stopped)]), (A.imm (List.map (cL c8) x.2) false)]
theorem ix11 : Inj x11 := fun x y h => by
 simp only [x11, in0, map_inj (in_S_Write), map_inj (in_c8), map_inj (in_cL (in_c8))] at h
 obtain ⟨⟨xa0Sectors, xa0Pending, xa0Left, xa0Stopped⟩, xa1⟩ := x
 obtain ⟨⟨ya0Sectors, ya0Pending, ya0Left, ya0Stopped⟩, ya1⟩ := y
 simp_all
noncomputable def o11 (args : List A) : Option A := orcOf x11 (fun x => (G11 x.1 x.2).map fun y => (bA y)) args
theorem ok11 (args : List A) (r : A) (h : o11 args = some r) : CallOK prog (cx C0).glob 11 args r := by
 obtain ⟨x, y, rfl, hy, rfl⟩ := orcOf_map h
 exact ok_J (f := fun (y : Bool) => (bA y)) (cx := cx C29) (fun k args r _ h => orc_C29 k args r h) (by kernel_rfl) (T11 C29 fuel0  x.1 x.2) hy
noncomputable def C30 : Nat -> List A -> Option A := upd C29 11 o11
theorem orc_C30 : AllOK C30 := orc_upd orc_C29 ok11
def x28 (x : S_Journal × (List (List UInt8))) : List A := [(A.agg [(A.imm (List.map (cL c8) x.1.Records) false), (iA x.1.Many), (iA x.1.Synced)]), (A.imm (List.map (cL c8) x.2) false)]
theorem ix28 : Inj x28 := fun x y h => by
 simp only [x28, in0, map_inj (in_c8), map_inj (in_cL (in_c8))] at h
 obtain ⟨⟨xa0Records, xa0Many, xa0Synced⟩, xa1⟩ := x
 obtain ⟨⟨ya0Records, ya0Many, ya0Synced⟩, ya1⟩ := y
 simp_all
noncomputable def o28 (args : List A) : Option A := orcOf x28 (fun x => (G28 x.1 x.2).map fun y => (A.agg [(A.imm (List.map (cL c8) y.Records) false), (iA y.Many), (iA y.Synced)])) args
theorem r15_C30 : Orc15 C30 := fun a0 a1 => (by kernel_rfl : _ = o15 (x15 (a0, a1))).trans (orcOf_eq _ ix15 (a0, a1))
theorem ok28 (args : List A) (r : A) (h : o28 args = some r) : CallOK prog (cx C0).glob 28 args r := by
 obtain ⟨x, y, rfl, hy, rfl⟩ := orcOf_map h
 exact ok_J (f := fun (y : S_Journal) => (A.agg [(A.imm (List.map (cL c8) y.Records) false), (iA y.Many), (iA y.Synced)])) (cx := cx C30) (fun k args r _ h => orc_C30 k args r h) (by kernel_rfl) (T28 C30 fuel0 (r15_C30) x.1 x.2) hy
noncomputable def C31 : Nat -> List A -> Option A := upd C30 28 o28
theorem orc_C31 : AllOK C31 := orc_upd orc_C30 ok28
def x24 (x : (List (List UInt8)) × (List (List UInt8))) : List A := [(A.imm (List.map (cL c8) x.1) false), (A.imm (List.map (cL c8) x.2) false)]
theorem ix24 : Inj x24 := fun x y h => by
 simp only [x24, in0, map_inj (in_c8), map_inj (in_cL (in_c8))] at h
 obtain ⟨xa0, xa1⟩ := x
 obtain ⟨ya0, ya1⟩ := y
 simp_all
noncomputable def o24 (args : List A) : Option A := orcOf x24 (fun x => (G24 x.1 x.2).map fun y => (bA y)) args
theorem ok24 (args : List A) (r : A) (h : o24 args = some r) : CallOK prog (cx C0).glob 24 args r := by
 obtain ⟨x, y, rfl, hy, rfl⟩ := orcOf_map h
 exact ok_J (f := fun (y : Bool) => (bA y)) (cx := cx C31) (fun k args r _ h => orc_C31 k args r h) (by kernel_rfl) (T24 C31 fuel0  x.1 x.2) hy
noncomputable def C32 : Nat -> List A -> Option A := upd C31 24 o24
theorem orc_C32 : AllOK C32 := orc_upd orc_C31 ok24
def x14 (x : S_Journal × S_Journal) : List A := [(A.agg [(A.imm (List.map (cL c8) x.1.Records) false), (iA x.1.Many), (iA x.1.Synced)]), (A.agg [(A.imm (List.map (cL c8) x.2.Records) false), (iA x.2.Many), (iA x.2.Synced)])]
theorem ix14 : Inj x14 := fun x y h => by
 simp only [x14, in0, map_inj (in_c8), map_inj (in_cL (in_c8))] at h
 obtain ⟨⟨xa0Records, xa0Many, xa0Synced⟩, ⟨xa1Records, xa1Many, xa1Synced⟩⟩ := x
 obtain ⟨⟨ya0Records, ya0Many, ya0Synced⟩, ⟨ya1Records, ya1Many, ya1Synced⟩⟩ := y
 simp_all
noncomputable def o14 (args : List A) : Option A := orcOf x14 (fun x => (G14 x.1 x.2).map fun y => (bA y)) args
theorem r24_C32 : Orc24 C32 := fun a0 a1 => (by kernel_rfl : _ = o24 (x24 (a0, a1))).trans (orcOf_eq _ ix24 (a0, a1))
theorem ok14 (args : List A) (r : A) (h : o14 args = some r) : CallOK prog (cx C0).glob 14 args r := by
 obtain ⟨x, y, rfl, hy, rfl⟩ := orcOf_map h
 exact ok_J (f := fun (y : Bool) => (bA y)) (cx := cx C32) (fun k args r _ h => orc_C32 k args r h) (by kernel_rfl) (T14 C32 fuel0 (r24_C32) x.1 x.2) hy
noncomputable def C33 : Nat -> List A -> Option A := upd C32 14 o14
theorem orc_C33 : AllOK C33 := orc_upd orc_C32 ok14
def x23 (x : S_Disk × S_Disk) : List A := [(A.agg [(A.imm (List.map (cL c8) x.1.Sectors) false), (A.imm (List.map c_S_Write x.1.Pending) false), (iA x.1.Left), (bA x.1.Stopped)]), (A.agg [(A.imm (List.map (cL c8) x.2.Sectors) false), (A.imm (List.map c_S_Write x.2.Pending) false), (iA x.2.Left), (bA x.2.Stopped)])]
theorem ix23 : Inj x23 := fun x y h => by
 simp only [x23, in0, map_inj (in_S_Write), map_inj (in_c8), map_inj (in_cL (in_c8))] at h
 obtain ⟨⟨xa0Sectors, xa0Pending, xa0Left, xa0Stopped⟩, ⟨xa1Sectors, xa1Pending, xa1Left, xa1Stopped⟩⟩ := x
 obtain ⟨⟨ya0Sectors, ya0Pending, ya0Left, ya0Stopped⟩, ⟨ya1Sectors, ya1Pending, ya1Left, ya1Stopped⟩⟩ := y
 simp_all
noncomputable def o23 (args : List A) : Option A := orcOf x23 (fun x => (G23 x.1 x.2).map fun y => (bA y)) args
theorem ok23 (args : List A) (r : A) (h : o23 args = some r) : CallOK prog (cx C0).glob 23 args r := by
 obtain ⟨x, y, rfl, hy, rfl⟩ := orcOf_map h
 exact ok_J (f := fun (y : Bool) => (bA y)) (cx := cx C33) (fun k args r _ h => orc_C33 k args r h) (by kernel_rfl) (T23 C33 fuel0  x.1 x.2) hy
noncomputable def C34 : Nat -> List A -> Option A := upd C33 23 o23
theorem orc_C34 : AllOK C34 := orc_upd orc_C33 ok23
def x8 (x : (List (List UInt8)) × (List (List UInt8))) : List A := [(A.imm (List.map (cL c8) x.1) false), (A.imm (List.map (cL c8) x.2) false)]
theorem ix8 : Inj x8 := fun x y h => by
 simp only [x8, in0, map_inj (in_c8), map_inj (in_cL (in_c8))] at h
 obtain ⟨xa0, xa1⟩ := x
 obtain ⟨ya0, ya1⟩ := y
 simp_all
noncomputable def o8 (args : List A) : Option A := orcOf x8 (fun x => (G8 x.1 x.2).map fun y => (bA y)) args
theorem r10_C34 : Orc10 C34 := fun _ => (by kernel_rfl : _ = o10 (x10 ())).trans (orcOf_eq _ ix10 ())
theorem r11_C34 : Orc11 C34 := fun a0 a1 => (by kernel_rfl : _ = o11 (x11 (a0, a1))).trans (orcOf_eq _ ix11 (a0, a1))
theorem r12_C34 : Orc12 C34 := fun a0 => (by kernel_rfl : _ = o12 (x12 a0)).trans (orcOf_eq _ ix12 a0)
theorem r14_C34 : Orc14 C34 := fun a0 a1 => (by kernel_rfl : _ = o14 (x14 (a0, a1))).trans (orcOf_eq _ ix14 (a0, a1))
theorem r21_C34 : Orc21 C34 := fun a0 a1 => (by kernel_rfl : _ = o21 (x21 (a0, a1))).trans (orcOf_eq _ ix21 (a0, a1))
theorem r23_C34 : Orc23 C34 := fun a0 a1 => (by kernel_rfl : _ = o23 (x23 (a0, a1))).trans (orcOf_eq _ ix23 (a0, a1))
theorem r24_C34 : Orc24 C34 := fun a0 a1 => (by kernel_rfl : _ = o24 (x24 (a0, a1))).trans (orcOf_eq _ ix24 (a0, a1))
theorem r25_C34 : Orc25 C34 := fun a0 => (by kernel_rfl : _ = o25 (x25 a0)).trans (orcOf_eq _ ix25 a0)
theorem r28_C34 : Orc28 C34 := fun a0 a1 => (by kernel_rfl : _ = o28 (x28 (a0, a1))).trans (orcOf_eq _ ix28 (a0, a1))
theorem ok8 (args : List A) (r : A) (h : o8 args = some r) : CallOK prog (cx C0).glob 8 args r := by
 obtain ⟨x, y, rfl, hy, rfl⟩ := orcOf_map h
 exact ok_J (f := fun (y : Bool) => (bA y)) (cx := cx C34) (fun k args r _ h => orc_C34 k args r h) (by kernel_rfl) (T8 C34 fuel0 (r10_C34) (r11_C34) (r12_C34) (r14_C34) (r21_C34) (r23_C34) (r24_C34) (r25_C34) (r28_C34) x.1 x.2) hy
end Go.Proofs.Ytobjniabioaefaa
