/-
 What is proved of the functions, put together: by a tool.
-/
import Derived.Test.YthoomfjliekbdaaT
namespace Go.Proofs.Ythoomfjliekbdaa
open Go.Proofs.Try (prog)
set_option linter.unusedVariables false
set_option linter.unusedSimpArgs false
set_option maxHeartbeats 4000000
set_option maxRecDepth 100000
theorem in_S_kinespherelaw04_Act : Inj c_S_kinespherelaw04_Act := fun x y h => by
 obtain ⟨xSync, xAt, xByte⟩ := x; obtain ⟨ySync, yAt, yByte⟩ := y
 simp only [c_S_kinespherelaw04_Act, List.cons.injEq, A.v.injEq, A.imm.injEq, Value.int.injEq, Value.bool.injEq, Value.string.injEq, and_true, true_and] at h
 simp_all
theorem in_S_Write : Inj c_S_Write := fun x y h => by
 obtain ⟨xAt, xData⟩ := x; obtain ⟨yAt, yData⟩ := y
 simp only [c_S_Write, List.cons.injEq, A.v.injEq, A.imm.injEq, Value.int.injEq, Value.bool.injEq, Value.string.injEq, and_true, true_and, map_inj (in_c8)] at h
 simp_all
noncomputable def C0 : Nat -> List A -> Option A := fun _ _ => none
def AllOK (C : Nat -> List A -> Option A) : Prop := ∀ (k : Nat) (args : List A) (r : A), C k args = some r -> CallOK prog (cx C0).glob k args r
theorem orc0 : AllOK C0 := fun k args r h => (by cases h)
theorem orc_upd {C : Nat -> List A -> Option A} {k : Nat} {c : List A -> Option A} (h : AllOK C) (hc : ∀ args r, c args = some r -> CallOK prog (cx C0).glob k args r) : AllOK (upd C k c) := fun j args r hr => by
 simp only [upd] at hr
 rw [bcond] at hr
 split at hr
 ·rename_i hj
  rw [Nat.eq_of_beq_eq_true hj]; exact hc args r hr
 ·exact h j args r hr
def x48 (x : Int × Int) : List A := [(A.v (.int .u64 x.1)), (A.v (.int .u64 x.2))]
theorem ix48 : Inj x48 := fun x y h => by
 simp only [x48, in0] at h
 obtain ⟨xa0, xa1⟩ := x
 obtain ⟨ya0, ya1⟩ := y
 simp_all
noncomputable def o48 (args : List A) : Option A := orcOf x48 (fun x => (G48 x.1 x.2).map fun y => (A.tup [(A.v (.int .u64 y.1)), (A.v (.int .u64 y.2))])) args
theorem ok48 (args : List A) (r : A) (h : o48 args = some r) : CallOK prog (cx C0).glob 48 args r := by
 obtain ⟨x, y, rfl, hy, rfl⟩ := orcOf_map h
 exact ok_J (f := fun (y : (Int × Int)) => (A.tup [(A.v (.int .u64 y.1)), (A.v (.int .u64 y.2))])) (cx := cx C0) (fun k args r _ h => orc0 k args r h) (by kernel_rfl) (T48 C0 fuel0  x.1 x.2) hy
noncomputable def C1 : Nat -> List A -> Option A := upd C0 48 o48
theorem orc_C1 : AllOK C1 := orc_upd orc0 ok48
def x42 (x : Int × Int) : List A := [(A.v (.int .u64 x.1)), (A.v (.int .u64 x.2))]
theorem ix42 : Inj x42 := fun x y h => by
 simp only [x42, in0] at h
 obtain ⟨xa0, xa1⟩ := x
 obtain ⟨ya0, ya1⟩ := y
 simp_all
noncomputable def o42 (args : List A) : Option A := orcOf x42 (fun x => (G42 x.1 x.2).map fun y => (A.tup [(A.v (.int .u64 y.1)), (A.v (.int .u64 y.2))])) args
theorem r48_C1 : Orc48 C1 := fun a0 a1 => (by kernel_rfl : _ = o48 (x48 (a0, a1))).trans (orcOf_eq _ ix48 (a0, a1))
theorem ok42 (args : List A) (r : A) (h : o42 args = some r) : CallOK prog (cx C0).glob 42 args r := by
 obtain ⟨x, y, rfl, hy, rfl⟩ := orcOf_map h
 exact ok_J (f := fun (y : (Int × Int)) => (A.tup [(A.v (.int .u64 y.1)), (A.v (.int .u64 y.2))])) (cx := cx C1) (fun k args r _ h => orc_C1 k args r h) (by kernel_rfl) (T42 C1 fuel0 (r48_C1) x.1 x.2) hy
noncomputable def C2 : Nat -> List A -> Option A := upd C1 42 o42
theorem orc_C2 : AllOK C2 := orc_upd orc_C1 ok42
def x29 (x : (List (List UInt8)) × Int) : List A := [(A.imm (List.map (cL c8) x.1) false), (iA x.2)]
theorem ix29 : Inj x29 := fun x y h => by
 simp only [x29, in0, map_inj (in_c8), map_inj (in_cL (in_c8))] at h
 obtain ⟨xa0, xa1⟩ := x
 obtain ⟨ya0, ya1⟩ := y
 simp_all
noncomputable def o29 (args : List A) : Option A := orcOf x29 (fun x => (G29 x.1 x.2).map fun y => (A.imm (List.map (cL c8) y) false)) args
theorem r42_C2 : Orc42 C2 := fun a0 a1 => (by kernel_rfl : _ = o42 (x42 (a0, a1))).trans (orcOf_eq _ ix42 (a0, a1))
theorem ok29 (args : List A) (r : A) (h : o29 args = some r) : CallOK prog (cx C0).glob 29 args r := by
 obtain ⟨x, y, rfl, hy, rfl⟩ := orcOf_map h
 exact ok_J (f := fun (y : (List (List UInt8))) => (A.imm (List.map (cL c8) y) false)) (cx := cx C2) (fun k args r _ h => orc_C2 k args r h) (by kernel_rfl) (T29 C2 fuel0 (r42_C2) x.1 x.2) hy
noncomputable def C3 : Nat -> List A -> Option A := upd C2 29 o29
theorem orc_C3 : AllOK C3 := orc_upd orc_C2 ok29
def x12 (x : Int) : List A := [(iA x)]
theorem ix12 : Inj x12 := fun x y h => by
 simp only [x12, in0] at h
 exact h
noncomputable def o12 (args : List A) : Option A := orcOf x12 (fun x => (G12 x).map fun y => (A.tup [(A.agg [(A.imm (List.map (cL c8) y.1.Sectors) false), (A.imm (List.map c_S_Write y.1.Pending) false), (iA y.1.Left), (bA y.1.Stopped)]), (iA y.2)])) args
theorem r29_C3 : Orc29 C3 := fun a0 a1 => (by kernel_rfl : _ = o29 (x29 (a0, a1))).trans (orcOf_eq _ ix29 (a0, a1))
theorem ok12 (args : List A) (r : A) (h : o12 args = some r) : CallOK prog (cx C0).glob 12 args r := by
 obtain ⟨x, y, rfl, hy, rfl⟩ := orcOf_map h
 exact ok_J (f := fun (y : (S_Disk × Int)) => (A.tup [(A.agg [(A.imm (List.map (cL c8) y.1.Sectors) false), (A.imm (List.map c_S_Write y.1.Pending) false), (iA y.1.Left), (bA y.1.Stopped)]), (iA y.2)])) (cx := cx C3) (fun k args r _ h => orc_C3 k args r h) (by kernel_rfl) (T12 C3 fuel0 (r29_C3) x) hy
noncomputable def C4 : Nat -> List A -> Option A := upd C3 12 o12
theorem orc_C4 : AllOK C4 := orc_upd orc_C3 ok12
def x31 (x : (List UInt8)) : List A := [(A.imm (List.map c8 x) false)]
theorem ix31 : Inj x31 := fun x y h => by
 simp only [x31, in0, map_inj (in_c8)] at h
 exact h
noncomputable def o31 (args : List A) : Option A := orcOf x31 (fun x => (G31 x).map fun y => (bA y)) args
theorem ok31 (args : List A) (r : A) (h : o31 args = some r) : CallOK prog (cx C0).glob 31 args r := by
 obtain ⟨x, y, rfl, hy, rfl⟩ := orcOf_map h
 exact ok_J (f := fun (y : Bool) => (bA y)) (cx := cx C4) (fun k args r _ h => orc_C4 k args r h) (by kernel_rfl) (T31 C4 fuel0  x) hy
noncomputable def C5 : Nat -> List A -> Option A := upd C4 31 o31
theorem orc_C5 : AllOK C5 := orc_upd orc_C4 ok31
def x34 (x : (List UInt8)) : List A := [(A.imm (List.map c8 x) false)]
theorem ix34 : Inj x34 := fun x y h => by
 simp only [x34, in0, map_inj (in_c8)] at h
 exact h
noncomputable def o34 (args : List A) : Option A := orcOf x34 (fun x => (G34 x).map fun y => (bA y)) args
theorem r31_C5 : Orc31 C5 := fun a0 => (by kernel_rfl : _ = o31 (x31 a0)).trans (orcOf_eq _ ix31 a0)
theorem ok34 (args : List A) (r : A) (h : o34 args = some r) : CallOK prog (cx C0).glob 34 args r := by
 obtain ⟨x, y, rfl, hy, rfl⟩ := orcOf_map h
 exact ok_J (f := fun (y : Bool) => (bA y)) (cx := cx C5) (fun k args r _ h => orc_C5 k args r h) (by kernel_rfl) (T34 C5 fuel0 (r31_C5) x) hy
noncomputable def C6 : Nat -> List A -> Option A := upd C5 34 o34
theorem orc_C6 : AllOK C6 := orc_upd orc_C5 ok34
def x44_34 (x : (List (List UInt8))) : List A := [(A.imm (List.map (cL c8) x) false), (A.fn (Fn.func 34) [] [])]
theorem ix44_34 : Inj x44_34 := fun x y h => by
 simp only [x44_34, in0, map_inj (in_c8), map_inj (in_cL (in_c8))] at h
 exact h
noncomputable def o44_34 (args : List A) : Option A := orcOf x44_34 (fun x => (G44_34 x).map fun y => (iA y)) args
theorem r34_C6 : Orc34 C6 := fun a0 => (by kernel_rfl : _ = o34 (x34 a0)).trans (orcOf_eq _ ix34 a0)
theorem ok44_34 (args : List A) (r : A) (h : o44_34 args = some r) : CallOK prog (cx C0).glob 44 args r := by
 obtain ⟨x, y, rfl, hy, rfl⟩ := orcOf_map h
 exact ok_J (f := fun (y : Int) => (iA y)) (cx := cx C6) (fun k args r _ h => orc_C6 k args r h) (by kernel_rfl) (T44_34 C6 fuel0 (r34_C6) x) hy
noncomputable def C7 : Nat -> List A -> Option A := upd C6 44 o44_34
theorem orc_C7 : AllOK C7 := orc_upd orc_C6 ok44_34
def x33_34 (x : (List (List UInt8))) : List A := [(A.imm (List.map (cL c8) x) false), (A.fn (Fn.func 34) [] [])]
theorem ix33_34 : Inj x33_34 := fun x y h => by
 simp only [x33_34, in0, map_inj (in_c8), map_inj (in_cL (in_c8))] at h
 exact h
noncomputable def o33_34 (args : List A) : Option A := orcOf x33_34 (fun x => (G33_34 x).map fun y => (bA y)) args
theorem r44_34_C7 : Orc44_34 C7 := fun a0 => (by kernel_rfl : _ = o44_34 (x44_34 a0)).trans (orcOf_eq _ ix44_34 a0)
theorem ok33_34 (args : List A) (r : A) (h : o33_34 args = some r) : CallOK prog (cx C0).glob 33 args r := by
 obtain ⟨x, y, rfl, hy, rfl⟩ := orcOf_map h
 exact ok_J (f := fun (y : Bool) => (bA y)) (cx := cx C7) (fun k args r _ h => orc_C7 k args r h) (by kernel_rfl) (T33_34 C7 fuel0 (r44_34_C7) x) hy
noncomputable def C8 : Nat -> List A -> Option A := upd C7 33 o33_34
theorem orc_C8 : AllOK C8 := orc_upd orc_C7 ok33_34
def x15 (x : S_Disk) : List A := [(A.agg [(A.imm (List.map (cL c8) x.Sectors) false), (A.imm (List.map c_S_Write x.Pending) false), (iA x.Left), (bA x.Stopped)])]
theorem ix15 : Inj x15 := fun x y h => by
 simp only [x15, in0, map_inj (in_S_Write), map_inj (in_c8), map_inj (in_cL (in_c8))] at h
 obtain ⟨xa0Sectors, xa0Pending, xa0Left, xa0Stopped⟩ := x
 obtain ⟨ya0Sectors, ya0Pending, ya0Left, ya0Stopped⟩ := y
 simp_all
noncomputable def o15 (args : List A) : Option A := orcOf x15 (fun x => (G15 x).map fun y => (iA y)) args
theorem r31_C8 : Orc31 C8 := fun a0 => (by kernel_rfl : _ = o31 (x31 a0)).trans (orcOf_eq _ ix31 a0)
theorem r33_34_C8 : Orc33_34 C8 := fun a0 => (by kernel_rfl : _ = o33_34 (x33_34 a0)).trans (orcOf_eq _ ix33_34 a0)
theorem ok15 (args : List A) (r : A) (h : o15 args = some r) : CallOK prog (cx C0).glob 15 args r := by
 obtain ⟨x, y, rfl, hy, rfl⟩ := orcOf_map h
 exact ok_J (f := fun (y : Int) => (iA y)) (cx := cx C8) (fun k args r _ h => orc_C8 k args r h) (by kernel_rfl) (T15 C8 fuel0 (r31_C8) (r33_34_C8) x) hy
noncomputable def C9 : Nat -> List A -> Option A := upd C8 15 o15
theorem orc_C9 : AllOK C9 := orc_upd orc_C8 ok15
def x35 (x : S_Disk) : List A := [(A.agg [(A.imm (List.map (cL c8) x.Sectors) false), (A.imm (List.map c_S_Write x.Pending) false), (iA x.Left), (bA x.Stopped)])]
theorem ix35 : Inj x35 := fun x y h => by
 simp only [x35, in0, map_inj (in_S_Write), map_inj (in_c8), map_inj (in_cL (in_c8))] at h
 obtain ⟨xa0Sectors, xa0Pending, xa0Left, xa0Stopped⟩ := x
 obtain ⟨ya0Sectors, ya0Pending, ya0Left, ya0Stopped⟩ := y
 simp_all
noncomputable def o35 (args : List A) : Option A := orcOf x35 (fun x => (G35 x).map fun y => (bA y)) args
theorem r15_C9 : Orc15 C9 := fun a0 => (by kernel_rfl : _ = o15 (x15 a0)).trans (orcOf_eq _ ix15 a0)
theorem ok35 (args : List A) (r : A) (h : o35 args = some r) : CallOK prog (cx C0).glob 35 args r := by
 obtain ⟨x, y, rfl, hy, rfl⟩ := orcOf_map h
 exact ok_J (f := fun (y : Bool) => (bA y)) (cx := cx C9) (fun k args r _ h => orc_C9 k args r h) (by kernel_rfl) (T35 C9 fuel0 (r15_C9) x) hy
noncomputable def C10 : Nat -> List A -> Option A := upd C9 35 o35
theorem orc_C10 : AllOK C10 := orc_upd orc_C9 ok35
def x36 (x : S_Disk × Int) : List A := [(A.agg [(A.imm (List.map (cL c8) x.1.Sectors) false), (A.imm (List.map c_S_Write x.1.Pending) false), (iA x.1.Left), (bA x.1.Stopped)]), (iA x.2)]
theorem ix36 : Inj x36 := fun x y h => by
 simp only [x36, in0, map_inj (in_S_Write), map_inj (in_c8), map_inj (in_cL (in_c8))] at h
 obtain ⟨⟨xa0Sectors, xa0Pending, xa0Left, xa0Stopped⟩, xa1⟩ := x
 obtain ⟨⟨ya0Sectors, ya0Pending, ya0Left, ya0Stopped⟩, ya1⟩ := y
 simp_all
noncomputable def o36 (args : List A) : Option A := orcOf x36 (fun x => (G36 x.1 x.2).map fun y => (bA y)) args
theorem ok36 (args : List A) (r : A) (h : o36 args = some r) : CallOK prog (cx C0).glob 36 args r := by
 obtain ⟨x, y, rfl, hy, rfl⟩ := orcOf_map h
 exact ok_J (f := fun (y : Bool) => (bA y)) (cx := cx C10) (fun k args r _ h => orc_C10 k args r h) (by kernel_rfl) (T36 C10 fuel0  x.1 x.2) hy
noncomputable def C11 : Nat -> List A -> Option A := upd C10 36 o36
theorem orc_C11 : AllOK C11 := orc_upd orc_C10 ok36
def x38 (x : (List S_Write)) : List A := [(A.imm (List.map c_S_Write x) false)]
theorem ix38 : Inj x38 := fun x y h => by
 simp only [x38, in0, map_inj (in_S_Write), map_inj (in_c8)] at h
 exact h
noncomputable def o38 (args : List A) : Option A := orcOf x38 (fun x => (G38 x).map fun y => (A.imm (List.map c_S_Write y) false)) args
theorem ok38 (args : List A) (r : A) (h : o38 args = some r) : CallOK prog (cx C0).glob 38 args r := by
 obtain ⟨x, y, rfl, hy, rfl⟩ := orcOf_map h
 exact ok_J (f := fun (y : (List S_Write)) => (A.imm (List.map c_S_Write y) false)) (cx := cx C11) (fun k args r _ h => orc_C11 k args r h) (by kernel_rfl) (T38 C11 fuel0  x) hy
noncomputable def C12 : Nat -> List A -> Option A := upd C11 38 o38
theorem orc_C12 : AllOK C12 := orc_upd orc_C11 ok38
def x19 (x : S_Disk × Int × (List UInt8)) : List A := [(A.agg [(A.imm (List.map (cL c8) x.1.Sectors) false), (A.imm (List.map c_S_Write x.1.Pending) false), (iA x.1.Left), (bA x.1.Stopped)]), (iA x.2.1), (A.imm (List.map c8 x.2.2) false)]
theorem ix19 : Inj x19 := fun x y h => by
 simp only [x19, in0, map_inj (in_S_Write), map_inj (in_c8), map_inj (in_cL (in_c8))] at h
 obtain ⟨⟨xa0Sectors, xa0Pending, xa0Left, xa0Stopped⟩, xa1, xa2⟩ := x
 obtain ⟨⟨ya0Sectors, ya0Pending, ya0Left, ya0Stopped⟩, ya1, ya2⟩ := y
 simp_all
noncomputable def o19 (args : List A) : Option A := orcOf x19 (fun x => (G19 x.1 x.2.1 x.2.2).map fun y => (A.tup [(A.agg [(A.imm (List.map (cL c8) y.1.Sectors) false), (A.imm (List.map c_S_Write y.1.Pending) false), (iA y.1.Left), (bA y.1.Stopped)]), (iA y.2)])) args
theorem r35_C12 : Orc35 C12 := fun a0 => (by kernel_rfl : _ = o35 (x35 a0)).trans (orcOf_eq _ ix35 a0)
theorem r36_C12 : Orc36 C12 := fun a0 a1 => (by kernel_rfl : _ = o36 (x36 (a0, a1))).trans (orcOf_eq _ ix36 (a0, a1))
theorem r38_C12 : Orc38 C12 := fun a0 => (by kernel_rfl : _ = o38 (x38 a0)).trans (orcOf_eq _ ix38 a0)
theorem ok19 (args : List A) (r : A) (h : o19 args = some r) : CallOK prog (cx C0).glob 19 args r := by
 obtain ⟨x, y, rfl, hy, rfl⟩ := orcOf_map h
 exact ok_J (f := fun (y : (S_Disk × Int)) => (A.tup [(A.agg [(A.imm (List.map (cL c8) y.1.Sectors) false), (A.imm (List.map c_S_Write y.1.Pending) false), (iA y.1.Left), (bA y.1.Stopped)]), (iA y.2)])) (cx := cx C12) (fun k args r _ h => orc_C12 k args r h) (by kernel_rfl) (T19 C12 fuel0 (r35_C12) (r36_C12) (r38_C12) x.1 x.2.1 x.2.2) hy
noncomputable def C13 : Nat -> List A -> Option A := upd C12 19 o19
theorem orc_C13 : AllOK C13 := orc_upd orc_C12 ok19
def x21 (x : S_Disk × Int) : List A := [(A.agg [(A.imm (List.map (cL c8) x.1.Sectors) false), (A.imm (List.map c_S_Write x.1.Pending) false), (iA x.1.Left), (bA x.1.Stopped)]), (iA x.2)]
theorem ix21 : Inj x21 := fun x y h => by
 simp only [x21, in0, map_inj (in_S_Write), map_inj (in_c8), map_inj (in_cL (in_c8))] at h
 obtain ⟨⟨xa0Sectors, xa0Pending, xa0Left, xa0Stopped⟩, xa1⟩ := x
 obtain ⟨⟨ya0Sectors, ya0Pending, ya0Left, ya0Stopped⟩, ya1⟩ := y
 simp_all
noncomputable def o21 (args : List A) : Option A := orcOf x21 (fun x => (G21 x.1 x.2).map fun y => (A.tup [(A.imm (List.map c8 y.1) false), (iA y.2)])) args
theorem r35_C13 : Orc35 C13 := fun a0 => (by kernel_rfl : _ = o35 (x35 a0)).trans (orcOf_eq _ ix35 a0)
theorem r36_C13 : Orc36 C13 := fun a0 a1 => (by kernel_rfl : _ = o36 (x36 (a0, a1))).trans (orcOf_eq _ ix36 (a0, a1))
theorem ok21 (args : List A) (r : A) (h : o21 args = some r) : CallOK prog (cx C0).glob 21 args r := by
 obtain ⟨x, y, rfl, hy, rfl⟩ := orcOf_map h
 exact ok_J (f := fun (y : ((List UInt8) × Int)) => (A.tup [(A.imm (List.map c8 y.1) false), (iA y.2)])) (cx := cx C13) (fun k args r _ h => orc_C13 k args r h) (by kernel_rfl) (T21 C13 fuel0 (r35_C13) (r36_C13) x.1 x.2) hy
noncomputable def C14 : Nat -> List A -> Option A := upd C13 21 o21
theorem orc_C14 : AllOK C14 := orc_upd orc_C13 ok21
def x25 (x : S_Disk × Int) : List A := [(A.agg [(A.imm (List.map (cL c8) x.1.Sectors) false), (A.imm (List.map c_S_Write x.1.Pending) false), (iA x.1.Left), (bA x.1.Stopped)]), (iA x.2)]
theorem ix25 : Inj x25 := fun x y h => by
 simp only [x25, in0, map_inj (in_S_Write), map_inj (in_c8), map_inj (in_cL (in_c8))] at h
 obtain ⟨⟨xa0Sectors, xa0Pending, xa0Left, xa0Stopped⟩, xa1⟩ := x
 obtain ⟨⟨ya0Sectors, ya0Pending, ya0Left, ya0Stopped⟩, ya1⟩ := y
 simp_all
noncomputable def o25 (args : List A) : Option A := orcOf x25 (fun x => (G25 x.1 x.2).map fun y => (A.tup [(A.agg [(A.imm (List.map (cL c8) y.1.Sectors) false), (A.imm (List.map c_S_Write y.1.Pending) false), (iA y.1.Left), (bA y.1.Stopped)]), (iA y.2)])) args
theorem r35_C14 : Orc35 C14 := fun a0 => (by kernel_rfl : _ = o35 (x35 a0)).trans (orcOf_eq _ ix35 a0)
theorem ok25 (args : List A) (r : A) (h : o25 args = some r) : CallOK prog (cx C0).glob 25 args r := by
 obtain ⟨x, y, rfl, hy, rfl⟩ := orcOf_map h
 exact ok_J (f := fun (y : (S_Disk × Int)) => (A.tup [(A.agg [(A.imm (List.map (cL c8) y.1.Sectors) false), (A.imm (List.map c_S_Write y.1.Pending) false), (iA y.1.Left), (bA y.1.Stopped)]), (iA y.2)])) (cx := cx C14) (fun k args r _ h => orc_C14 k args r h) (by kernel_rfl) (T25 C14 fuel0 (r35_C14) x.1 x.2) hy
noncomputable def C15 : Nat -> List A -> Option A := upd C14 25 o25
theorem orc_C15 : AllOK C15 := orc_upd orc_C14 ok25
def x27 (x : Int) : List A := [(uA x)]
theorem ix27 : Inj x27 := fun x y h => by
 simp only [x27, in0] at h
 exact h
noncomputable def o27 (args : List A) : Option A := orcOf x27 (fun x => (G27 x).map fun y => (A.imm (List.map c8 y) false)) args
theorem ok27 (args : List A) (r : A) (h : o27 args = some r) : CallOK prog (cx C0).glob 27 args r := by
 obtain ⟨x, y, rfl, hy, rfl⟩ := orcOf_map h
 exact ok_J (f := fun (y : (List UInt8)) => (A.imm (List.map c8 y) false)) (cx := cx C15) (fun k args r _ h => orc_C15 k args r h) (by kernel_rfl) (T27 C15 fuel0  x) hy
noncomputable def C16 : Nat -> List A -> Option A := upd C15 27 o27
theorem orc_C16 : AllOK C16 := orc_upd orc_C15 ok27
def x40 (x : (List (List UInt8)) × (List S_Write)) : List A := [(A.imm (List.map (cL c8) x.1) false), (A.imm (List.map c_S_Write x.2) false)]
theorem ix40 : Inj x40 := fun x y h => by
 simp only [x40, in0, map_inj (in_S_Write), map_inj (in_c8), map_inj (in_cL (in_c8))] at h
 obtain ⟨xa0, xa1⟩ := x
 obtain ⟨ya0, ya1⟩ := y
 simp_all
noncomputable def o40 (args : List A) : Option A := orcOf x40 (fun x => (G40 x.1 x.2).map fun y => (A.imm (List.map (cL c8) y) false)) args
theorem ok40 (args : List A) (r : A) (h : o40 args = some r) : CallOK prog (cx C0).glob 40 args r := by
 obtain ⟨x, y, rfl, hy, rfl⟩ := orcOf_map h
 exact ok_J (f := fun (y : (List (List UInt8))) => (A.imm (List.map (cL c8) y) false)) (cx := cx C16) (fun k args r _ h => orc_C16 k args r h) (by kernel_rfl) (T40 C16 fuel0  x.1 x.2) hy
noncomputable def C17 : Nat -> List A -> Option A := upd C16 40 o40
theorem orc_C17 : AllOK C17 := orc_upd orc_C16 ok40
def x23 (x : S_Disk) : List A := [(A.agg [(A.imm (List.map (cL c8) x.Sectors) false), (A.imm (List.map c_S_Write x.Pending) false), (iA x.Left), (bA x.Stopped)])]
theorem ix23 : Inj x23 := fun x y h => by
 simp only [x23, in0, map_inj (in_S_Write), map_inj (in_c8), map_inj (in_cL (in_c8))] at h
 obtain ⟨xa0Sectors, xa0Pending, xa0Left, xa0Stopped⟩ := x
 obtain ⟨ya0Sectors, ya0Pending, ya0Left, ya0Stopped⟩ := y
 simp_all
noncomputable def o23 (args : List A) : Option A := orcOf x23 (fun x => (G23 x).map fun y => (A.tup [(A.agg [(A.imm (List.map (cL c8) y.1.Sectors) false), (A.imm (List.map c_S_Write y.1.Pending) false), (iA y.1.Left), (bA y.1.Stopped)]), (iA y.2)])) args
theorem r35_C17 : Orc35 C17 := fun a0 => (by kernel_rfl : _ = o35 (x35 a0)).trans (orcOf_eq _ ix35 a0)
theorem r40_C17 : Orc40 C17 := fun a0 a1 => (by kernel_rfl : _ = o40 (x40 (a0, a1))).trans (orcOf_eq _ ix40 (a0, a1))
theorem ok23 (args : List A) (r : A) (h : o23 args = some r) : CallOK prog (cx C0).glob 23 args r := by
 obtain ⟨x, y, rfl, hy, rfl⟩ := orcOf_map h
 exact ok_J (f := fun (y : (S_Disk × Int)) => (A.tup [(A.agg [(A.imm (List.map (cL c8) y.1.Sectors) false), (A.imm (List.map c_S_Write y.1.Pending) false), (iA y.1.Left), (bA y.1.Stopped)]), (iA y.2)])) (cx := cx C17) (fun k args r _ h => orc_C17 k args r h) (by kernel_rfl) (T23 C17 fuel0 (r35_C17) (r40_C17) x) hy
noncomputable def C18 : Nat -> List A -> Option A := upd C17 23 o23
theorem orc_C18 : AllOK C18 := orc_upd orc_C17 ok23
def x17 (x : S_Disk) : List A := [(A.agg [(A.imm (List.map (cL c8) x.Sectors) false), (A.imm (List.map c_S_Write x.Pending) false), (iA x.Left), (bA x.Stopped)])]
theorem ix17 : Inj x17 := fun x y h => by
 simp only [x17, in0, map_inj (in_S_Write), map_inj (in_c8), map_inj (in_cL (in_c8))] at h
 obtain ⟨xa0Sectors, xa0Pending, xa0Left, xa0Stopped⟩ := x
 obtain ⟨ya0Sectors, ya0Pending, ya0Left, ya0Stopped⟩ := y
 simp_all
noncomputable def o17 (args : List A) : Option A := orcOf x17 (fun x => (G17 x).map fun y => (A.agg [(A.imm (List.map (cL c8) y.Sectors) false), (A.imm (List.map c_S_Write y.Pending) false), (iA y.Left), (bA y.Stopped)])) args
theorem ok17 (args : List A) (r : A) (h : o17 args = some r) : CallOK prog (cx C0).glob 17 args r := by
 obtain ⟨x, y, rfl, hy, rfl⟩ := orcOf_map h
 exact ok_J (f := fun (y : S_Disk) => (A.agg [(A.imm (List.map (cL c8) y.Sectors) false), (A.imm (List.map c_S_Write y.Pending) false), (iA y.Left), (bA y.Stopped)])) (cx := cx C18) (fun k args r _ h => orc_C18 k args r h) (by kernel_rfl) (T17 C18 fuel0  x) hy
noncomputable def C19 : Nat -> List A -> Option A := upd C18 17 o17
theorem orc_C19 : AllOK C19 := orc_upd orc_C18 ok17
def x10 (x : Unit) : List A := []
theorem ix10 : Inj x10 := fun _ _ _ => rfl
noncomputable def o10 (args : List A) : Option A := orcOf x10 (fun x => (G10 ).map fun y => (bA y)) args
theorem r12_C19 : Orc12 C19 := fun a0 => (by kernel_rfl : _ = o12 (x12 a0)).trans (orcOf_eq _ ix12 a0)
theorem r15_C19 : Orc15 C19 := fun a0 => (by kernel_rfl : _ = o15 (x15 a0)).trans (orcOf_eq _ ix15 a0)
theorem r17_C19 : Orc17 C19 := fun a0 => (by kernel_rfl : _ = o17 (x17 a0)).trans (orcOf_eq _ ix17 a0)
theorem r19_C19 : Orc19 C19 := fun a0 a1 a2 => (by kernel_rfl : _ = o19 (x19 (a0, a1, a2))).trans (orcOf_eq _ ix19 (a0, a1, a2))
theorem r21_C19 : Orc21 C19 := fun a0 a1 => (by kernel_rfl : _ = o21 (x21 (a0, a1))).trans (orcOf_eq _ ix21 (a0, a1))
theorem r23_C19 : Orc23 C19 := fun a0 => (by kernel_rfl : _ = o23 (x23 a0)).trans (orcOf_eq _ ix23 a0)
theorem r25_C19 : Orc25 C19 := fun a0 a1 => (by kernel_rfl : _ = o25 (x25 (a0, a1))).trans (orcOf_eq _ ix25 (a0, a1))
theorem r27_C19 : Orc27 C19 := fun a0 => (by kernel_rfl : _ = o27 (x27 a0)).trans (orcOf_eq _ ix27 a0)
theorem ok10 (args : List A) (r : A) (h : o10 args = some r) : CallOK prog (cx C0).glob 10 args r := by
 obtain ⟨x, y, rfl, hy, rfl⟩ := orcOf_map h
 exact ok_J (f := fun (y : Bool) => (bA y)) (cx := cx C19) (fun k args r _ h => orc_C19 k args r h) (by kernel_rfl) (T10 C19 fuel0 (r12_C19) (r15_C19) (r17_C19) (r19_C19) (r21_C19) (r23_C19) (r25_C19) (r27_C19) ) hy
noncomputable def C20 : Nat -> List A -> Option A := upd C19 10 o10
theorem orc_C20 : AllOK C20 := orc_upd orc_C19 ok10
def x28 (x : S_Disk × (Int × Int × Int × Int) × (Int × Int × Int × Int)) : List A := [(A.agg [(A.imm (List.map (cL c8) x.1.Sectors) false), (A.imm (List.map c_S_Write x.1.Pending) false), (iA x.1.Left), (bA x.1.Stopped)]), (A.agg [(uA x.2.1.1), (uA x.2.1.2.1), (uA x.2.1.2.2.1), (uA x.2.1.2.2.2)]), (A.agg [(uA x.2.2.1), (uA x.2.2.2.1), (uA x.2.2.2.2.1), (uA x.2.2.2.2.2)])]
theorem ix28 : Inj x28 := fun x y h => by
 simp only [x28, in0, map_inj (in_S_Write), map_inj (in_c8), map_inj (in_cL (in_c8))] at h
 obtain ⟨⟨xa0Sectors, xa0Pending, xa0Left, xa0Stopped⟩, ⟨xa10, xa11, xa12, xa13⟩, ⟨xa20, xa21, xa22, xa23⟩⟩ := x
 obtain ⟨⟨ya0Sectors, ya0Pending, ya0Left, ya0Stopped⟩, ⟨ya10, ya11, ya12, ya13⟩, ⟨ya20, ya21, ya22, ya23⟩⟩ := y
 simp_all
noncomputable def o28 (args : List A) : Option A := orcOf x28 (fun x => (G28 x.1 x.2.1 x.2.2).map fun y => (bA y)) args
theorem r21_C20 : Orc21 C20 := fun a0 a1 => (by kernel_rfl : _ = o21 (x21 (a0, a1))).trans (orcOf_eq _ ix21 (a0, a1))
theorem ok28 (args : List A) (r : A) (h : o28 args = some r) : CallOK prog (cx C0).glob 28 args r := by
 obtain ⟨x, y, rfl, hy, rfl⟩ := orcOf_map h
 exact ok_J (f := fun (y : Bool) => (bA y)) (cx := cx C20) (fun k args r _ h => orc_C20 k args r h) (by kernel_rfl) (T28 C20 fuel0 (r21_C20) x.1 x.2.1 x.2.2) hy
noncomputable def C21 : Nat -> List A -> Option A := upd C20 28 o28
theorem orc_C21 : AllOK C21 := orc_upd orc_C20 ok28
def x6 (x : (List S_kinespherelaw04_Act) × Int) : List A := [(A.imm (List.map c_S_kinespherelaw04_Act x.1) false), (uA x.2)]
theorem ix6 : Inj x6 := fun x y h => by
 simp only [x6, in0, map_inj (in_S_kinespherelaw04_Act)] at h
 obtain ⟨xa0, xa1⟩ := x
 obtain ⟨ya0, ya1⟩ := y
 simp_all
noncomputable def o6 (args : List A) : Option A := orcOf x6 (fun x => (G6 x.1 x.2).map fun y => (bA y)) args
theorem r10_C21 : Orc10 C21 := fun _ => (by kernel_rfl : _ = o10 (x10 ())).trans (orcOf_eq _ ix10 ())
theorem r12_C21 : Orc12 C21 := fun a0 => (by kernel_rfl : _ = o12 (x12 a0)).trans (orcOf_eq _ ix12 a0)
theorem r17_C21 : Orc17 C21 := fun a0 => (by kernel_rfl : _ = o17 (x17 a0)).trans (orcOf_eq _ ix17 a0)
theorem r19_C21 : Orc19 C21 := fun a0 a1 a2 => (by kernel_rfl : _ = o19 (x19 (a0, a1, a2))).trans (orcOf_eq _ ix19 (a0, a1, a2))
theorem r23_C21 : Orc23 C21 := fun a0 => (by kernel_rfl : _ = o23 (x23 a0)).trans (orcOf_eq _ ix23 a0)
theorem r25_C21 : Orc25 C21 := fun a0 a1 => (by kernel_rfl : _ = o25 (x25 (a0, a1))).trans (orcOf_eq _ ix25 (a0, a1))
theorem r27_C21 : Orc27 C21 := fun a0 => (by kernel_rfl : _ = o27 (x27 a0)).trans (orcOf_eq _ ix27 a0)
theorem r28_C21 : Orc28 C21 := fun a0 a1 a2 => (by kernel_rfl : _ = o28 (x28 (a0, a1, a2))).trans (orcOf_eq _ ix28 (a0, a1, a2))
theorem ok6 (args : List A) (r : A) (h : o6 args = some r) : CallOK prog (cx C0).glob 6 args r := by
 obtain ⟨x, y, rfl, hy, rfl⟩ := orcOf_map h
 exact ok_J (f := fun (y : Bool) => (bA y)) (cx := cx C21) (fun k args r _ h => orc_C21 k args r h) (by kernel_rfl) (T6 C21 fuel0 (r10_C21) (r12_C21) (r17_C21) (r19_C21) (r23_C21) (r25_C21) (r27_C21) (r28_C21) x.1 x.2) hy
end Go.Proofs.Ythoomfjliekbdaa
