/-
  What is proved of the functions, put together: by a tool.
-/
import Derived.Test.YtmhnhokhlkppeaaDoorT
namespace Go.Proofs.YtmhnhokhlkppeaaDoor
set_option linter.unusedVariables false
set_option linter.unusedSimpArgs false
set_option maxHeartbeats 4000000
set_option maxRecDepth 100000
/-! ### Put together -/
theorem in_S_Vec : Inj c_S_Vec := fun x y h => by
  obtain ⟨xX, xY, xZ⟩ := x; obtain ⟨yX, yY, yZ⟩ := y
  simp only [c_S_Vec, List.cons.injEq, A.v.injEq, A.imm.injEq, Value.int.injEq, Value.bool.injEq, Value.string.injEq, and_true, true_and] at h
  simp_all

theorem in_S_Range : Inj c_S_Range := fun x y h => by
  obtain ⟨xLo, xHi⟩ := x; obtain ⟨yLo, yHi⟩ := y
  simp only [c_S_Range, List.cons.injEq, A.v.injEq, A.imm.injEq, Value.int.injEq, Value.bool.injEq, Value.string.injEq, and_true, true_and] at h
  simp_all

theorem in_S_Box : Inj c_S_Box := fun x y h => by
  obtain ⟨⟨xXLo, xXHi⟩, ⟨xYLo, xYHi⟩⟩ := x; obtain ⟨⟨yXLo, yXHi⟩, ⟨yYLo, yYHi⟩⟩ := y
  simp only [c_S_Box, List.cons.injEq, A.v.injEq, A.imm.injEq, Value.int.injEq, Value.bool.injEq, Value.string.injEq, and_true, true_and] at h
  simp_all

noncomputable def C0 : Nat → List A → Option A := fun _ _ => none
theorem orc0 : OrcOK (cx C0) := fun k args r _ h => (by cases h)
theorem orc_upd {C : Nat → List A → Option A} {k : Nat} {c : List A → Option A} (h : OrcOK (cx C)) (hc : ∀ args r, c args = some r → CallOK Tryd.prog (cx C0).glob k args r) : OrcOK (cx (upd C k c)) := fun j args r hi hr => by
  simp only [cx, upd] at hr
  rw [bcond] at hr
  split at hr
  · rename_i hj
    rw [Nat.eq_of_beq_eq_true hj]; exact hc args r hr
  · exact h j args r hi hr
def x11 (x : Int × Int) : List A := [(A.v (Value.int .i64 x.1)), (A.v (Value.int .i64 x.2))]
theorem ix11 : Inj x11 := fun x y h => by
  simp only [x11, List.cons.injEq, A.v.injEq, A.agg.injEq, A.imm.injEq, Value.int.injEq, Value.bool.injEq, Value.string.injEq, and_true, true_and] at h
  obtain ⟨xa0, xa1⟩ := x
  obtain ⟨ya0, ya1⟩ := y
  simp_all
noncomputable def o11 (args : List A) : Option A := orcOf x11 (fun x => (G11 x.1 x.2).map fun y => (A.tup [(A.agg [(A.v (Value.int .i64 y.1.X)), (A.v (Value.int .i64 y.1.Y)), (A.v (Value.int .i64 y.1.Z))]), (A.v (Value.int .i64 y.2))])) args
theorem ok11 (args : List A) (r : A) (h : o11 args = some r) : CallOK Tryd.prog (cx C0).glob 11 args r := by
  obtain ⟨x, rfl, hx⟩ := orcOf_ok h
  simp only [Option.map_eq_some_iff] at hx
  obtain ⟨y, hy, rfl⟩ := hx
  exact ok_J (f := fun (y : (S_Vec × Int)) => (A.tup [(A.agg [(A.v (Value.int .i64 y.1.X)), (A.v (Value.int .i64 y.1.Y)), (A.v (Value.int .i64 y.1.Z))]), (A.v (Value.int .i64 y.2))])) orc0 (by kernel_rfl) (T11 C0 fuel0  x.1 x.2) hy
noncomputable def C1 : Nat → List A → Option A := upd C0 11 o11
theorem orc_C1 : OrcOK (cx C1) := orc_upd orc0 ok11
def x32 (x : Int × (List Int)) : List A := [(A.v (Value.int .i64 x.1)), (A.imm (List.map (cI .i64) x.2) false)]
theorem ix32 : Inj x32 := fun x y h => by
  simp only [x32, List.cons.injEq, A.v.injEq, A.agg.injEq, A.imm.injEq, Value.int.injEq, Value.bool.injEq, Value.string.injEq, and_true, true_and, map_inj (in_cI .i64)] at h
  obtain ⟨xa0, xa1⟩ := x
  obtain ⟨ya0, ya1⟩ := y
  simp_all
noncomputable def o32 (args : List A) : Option A := orcOf x32 (fun x => (G32 x.1 x.2).map fun y => (A.v (Value.bool y))) args
theorem ok32 (args : List A) (r : A) (h : o32 args = some r) : CallOK Tryd.prog (cx C0).glob 32 args r := by
  obtain ⟨x, rfl, hx⟩ := orcOf_ok h
  simp only [Option.map_eq_some_iff] at hx
  obtain ⟨y, hy, rfl⟩ := hx
  exact ok_J (f := fun (y : Bool) => (A.v (Value.bool y))) orc_C1 (by kernel_rfl) (T32 C1 fuel0  x.1 x.2) hy
noncomputable def C2 : Nat → List A → Option A := upd C1 32 o32
theorem orc_C2 : OrcOK (cx C2) := orc_upd orc_C1 ok32
def x33 (x : S_Vec) : List A := [(A.agg [(A.v (Value.int .i64 x.X)), (A.v (Value.int .i64 x.Y)), (A.v (Value.int .i64 x.Z))])]
theorem ix33 : Inj x33 := fun x y h => by
  simp only [x33, List.cons.injEq, A.v.injEq, A.agg.injEq, A.imm.injEq, Value.int.injEq, Value.bool.injEq, Value.string.injEq, and_true, true_and] at h
  obtain ⟨xa0X, xa0Y, xa0Z⟩ := x
  obtain ⟨ya0X, ya0Y, ya0Z⟩ := y
  simp_all
noncomputable def o33 (args : List A) : Option A := orcOf x33 (fun x => (G33 x).map fun y => (A.v (Value.bool y))) args
theorem ok33 (args : List A) (r : A) (h : o33 args = some r) : CallOK Tryd.prog (cx C0).glob 33 args r := by
  obtain ⟨x, rfl, hx⟩ := orcOf_ok h
  simp only [Option.map_eq_some_iff] at hx
  obtain ⟨y, hy, rfl⟩ := hx
  exact ok_J (f := fun (y : Bool) => (A.v (Value.bool y))) orc_C2 (by kernel_rfl) (T33 C2 fuel0  x) hy
noncomputable def C3 : Nat → List A → Option A := upd C2 33 o33
theorem orc_C3 : OrcOK (cx C3) := orc_upd orc_C2 ok33
def x13 (x : Int) : List A := [(A.v (Value.int .i64 x))]
theorem ix13 : Inj x13 := fun x y h => by
  simp only [x13, List.cons.injEq, A.v.injEq, A.agg.injEq, A.imm.injEq, Value.int.injEq, Value.bool.injEq, Value.string.injEq, and_true, true_and] at h
  exact h
noncomputable def o13 (args : List A) : Option A := orcOf x13 (fun x => (G13 x).map fun y => (A.tup [(A.v (Value.int .i64 y.1)), (A.v (Value.int .i64 y.2.1)), (A.v (Value.int .i64 y.2.2))])) args
theorem ok13 (args : List A) (r : A) (h : o13 args = some r) : CallOK Tryd.prog (cx C0).glob 13 args r := by
  obtain ⟨x, rfl, hx⟩ := orcOf_ok h
  simp only [Option.map_eq_some_iff] at hx
  obtain ⟨y, hy, rfl⟩ := hx
  exact ok_J (f := fun (y : (Int × Int × Int)) => (A.tup [(A.v (Value.int .i64 y.1)), (A.v (Value.int .i64 y.2.1)), (A.v (Value.int .i64 y.2.2))])) orc_C3 (by kernel_rfl) (T13 C3 fuel0  x) hy
noncomputable def C4 : Nat → List A → Option A := upd C3 13 o13
theorem orc_C4 : OrcOK (cx C4) := orc_upd orc_C3 ok13
def x14 (x : Int) : List A := [(A.v (Value.int .i64 x))]
theorem ix14 : Inj x14 := fun x y h => by
  simp only [x14, List.cons.injEq, A.v.injEq, A.agg.injEq, A.imm.injEq, Value.int.injEq, Value.bool.injEq, Value.string.injEq, and_true, true_and] at h
  exact h
noncomputable def o14 (args : List A) : Option A := orcOf x14 (fun x => (G14 x).map fun y => (A.tup [(A.v (Value.int .i64 y.1)), (A.v (Value.int .i64 y.2.1)), (A.v (Value.int .i64 y.2.2))])) args
theorem ok14 (args : List A) (r : A) (h : o14 args = some r) : CallOK Tryd.prog (cx C0).glob 14 args r := by
  obtain ⟨x, rfl, hx⟩ := orcOf_ok h
  simp only [Option.map_eq_some_iff] at hx
  obtain ⟨y, hy, rfl⟩ := hx
  exact ok_J (f := fun (y : (Int × Int × Int)) => (A.tup [(A.v (Value.int .i64 y.1)), (A.v (Value.int .i64 y.2.1)), (A.v (Value.int .i64 y.2.2))])) orc_C4 (by kernel_rfl) (T14 C4 fuel0  x) hy
noncomputable def C5 : Nat → List A → Option A := upd C4 14 o14
theorem orc_C5 : OrcOK (cx C5) := orc_upd orc_C4 ok14
def x15 (x : Int × Int) : List A := [(A.v (Value.int .i64 x.1)), (A.v (Value.int .i64 x.2))]
theorem ix15 : Inj x15 := fun x y h => by
  simp only [x15, List.cons.injEq, A.v.injEq, A.agg.injEq, A.imm.injEq, Value.int.injEq, Value.bool.injEq, Value.string.injEq, and_true, true_and] at h
  obtain ⟨xa0, xa1⟩ := x
  obtain ⟨ya0, ya1⟩ := y
  simp_all
noncomputable def o15 (args : List A) : Option A := orcOf x15 (fun x => (G15 x.1 x.2).map fun y => (A.tup [(A.v (Value.int .i64 y.1)), (A.v (Value.int .i64 y.2))])) args
theorem ok15 (args : List A) (r : A) (h : o15 args = some r) : CallOK Tryd.prog (cx C0).glob 15 args r := by
  obtain ⟨x, rfl, hx⟩ := orcOf_ok h
  simp only [Option.map_eq_some_iff] at hx
  obtain ⟨y, hy, rfl⟩ := hx
  exact ok_J (f := fun (y : (Int × Int)) => (A.tup [(A.v (Value.int .i64 y.1)), (A.v (Value.int .i64 y.2))])) orc_C5 (by kernel_rfl) (T15 C5 fuel0  x.1 x.2) hy
noncomputable def C6 : Nat → List A → Option A := upd C5 15 o15
theorem orc_C6 : OrcOK (cx C6) := orc_upd orc_C5 ok15
def x16 (x : Int × Int) : List A := [(A.v (Value.int .i64 x.1)), (A.v (Value.int .i64 x.2))]
theorem ix16 : Inj x16 := fun x y h => by
  simp only [x16, List.cons.injEq, A.v.injEq, A.agg.injEq, A.imm.injEq, Value.int.injEq, Value.bool.injEq, Value.string.injEq, and_true, true_and] at h
  obtain ⟨xa0, xa1⟩ := x
  obtain ⟨ya0, ya1⟩ := y
  simp_all
noncomputable def o16 (args : List A) : Option A := orcOf x16 (fun x => (G16 x.1 x.2).map fun y => (A.tup [(A.v (Value.int .i64 y.1)), (A.v (Value.int .i64 y.2))])) args
theorem ok16 (args : List A) (r : A) (h : o16 args = some r) : CallOK Tryd.prog (cx C0).glob 16 args r := by
  obtain ⟨x, rfl, hx⟩ := orcOf_ok h
  simp only [Option.map_eq_some_iff] at hx
  obtain ⟨y, hy, rfl⟩ := hx
  exact ok_J (f := fun (y : (Int × Int)) => (A.tup [(A.v (Value.int .i64 y.1)), (A.v (Value.int .i64 y.2))])) orc_C6 (by kernel_rfl) (T16 C6 fuel0  x.1 x.2) hy
noncomputable def C7 : Nat → List A → Option A := upd C6 16 o16
theorem orc_C7 : OrcOK (cx C7) := orc_upd orc_C6 ok16
def x17 (x : Int) : List A := [(A.v (Value.int .i64 x))]
theorem ix17 : Inj x17 := fun x y h => by
  simp only [x17, List.cons.injEq, A.v.injEq, A.agg.injEq, A.imm.injEq, Value.int.injEq, Value.bool.injEq, Value.string.injEq, and_true, true_and] at h
  exact h
noncomputable def o17 (args : List A) : Option A := orcOf x17 (fun x => (G17 x).map fun y => (A.tup [(A.v (Value.int .i64 y.1)), (A.v (Value.int .i64 y.2))])) args
theorem ok17 (args : List A) (r : A) (h : o17 args = some r) : CallOK Tryd.prog (cx C0).glob 17 args r := by
  obtain ⟨x, rfl, hx⟩ := orcOf_ok h
  simp only [Option.map_eq_some_iff] at hx
  obtain ⟨y, hy, rfl⟩ := hx
  exact ok_J (f := fun (y : (Int × Int)) => (A.tup [(A.v (Value.int .i64 y.1)), (A.v (Value.int .i64 y.2))])) orc_C7 (by kernel_rfl) (T17 C7 fuel0  x) hy
noncomputable def C8 : Nat → List A → Option A := upd C7 17 o17
theorem orc_C8 : OrcOK (cx C8) := orc_upd orc_C7 ok17
def x18 (x : Int) : List A := [(A.v (Value.int .i64 x))]
theorem ix18 : Inj x18 := fun x y h => by
  simp only [x18, List.cons.injEq, A.v.injEq, A.agg.injEq, A.imm.injEq, Value.int.injEq, Value.bool.injEq, Value.string.injEq, and_true, true_and] at h
  exact h
noncomputable def o18 (args : List A) : Option A := orcOf x18 (fun x => (G18 x).map fun y => (A.tup [(A.v (Value.int .i64 y.1)), (A.v (Value.int .i64 y.2))])) args
theorem ok18 (args : List A) (r : A) (h : o18 args = some r) : CallOK Tryd.prog (cx C0).glob 18 args r := by
  obtain ⟨x, rfl, hx⟩ := orcOf_ok h
  simp only [Option.map_eq_some_iff] at hx
  obtain ⟨y, hy, rfl⟩ := hx
  exact ok_J (f := fun (y : (Int × Int)) => (A.tup [(A.v (Value.int .i64 y.1)), (A.v (Value.int .i64 y.2))])) orc_C8 (by kernel_rfl) (T18 C8 fuel0  x) hy
noncomputable def C9 : Nat → List A → Option A := upd C8 18 o18
theorem orc_C9 : OrcOK (cx C9) := orc_upd orc_C8 ok18
def x12 (x : Int × Int) : List A := [(A.v (Value.int .i64 x.1)), (A.v (Value.int .i64 x.2))]
theorem ix12 : Inj x12 := fun x y h => by
  simp only [x12, List.cons.injEq, A.v.injEq, A.agg.injEq, A.imm.injEq, Value.int.injEq, Value.bool.injEq, Value.string.injEq, and_true, true_and] at h
  obtain ⟨xa0, xa1⟩ := x
  obtain ⟨ya0, ya1⟩ := y
  simp_all
noncomputable def o12 (args : List A) : Option A := orcOf x12 (fun x => (G12 x.1 x.2).map fun y => (A.tup [(A.agg [(A.v (Value.int .i64 y.1.X)), (A.v (Value.int .i64 y.1.Y)), (A.v (Value.int .i64 y.1.Z))]), (A.v (Value.int .i64 y.2))])) args
theorem r14_C9 : Orc14 C9 := fun a0 => (by kernel_rfl : _ = o14 (x14 a0)).trans (orcOf_eq _ ix14 a0)
theorem ok12 (args : List A) (r : A) (h : o12 args = some r) : CallOK Tryd.prog (cx C0).glob 12 args r := by
  obtain ⟨x, rfl, hx⟩ := orcOf_ok h
  simp only [Option.map_eq_some_iff] at hx
  obtain ⟨y, hy, rfl⟩ := hx
  exact ok_J (f := fun (y : (S_Vec × Int)) => (A.tup [(A.agg [(A.v (Value.int .i64 y.1.X)), (A.v (Value.int .i64 y.1.Y)), (A.v (Value.int .i64 y.1.Z))]), (A.v (Value.int .i64 y.2))])) orc_C9 (by kernel_rfl) (T12 C9 fuel0 (r14_C9) x.1 x.2) hy
noncomputable def C10 : Nat → List A → Option A := upd C9 12 o12
theorem orc_C10 : OrcOK (cx C10) := orc_upd orc_C9 ok12
def x19 (x : S_Vec × S_Vec) : List A := [(A.agg [(A.v (Value.int .i64 x.1.X)), (A.v (Value.int .i64 x.1.Y)), (A.v (Value.int .i64 x.1.Z))]), (A.agg [(A.v (Value.int .i64 x.2.X)), (A.v (Value.int .i64 x.2.Y)), (A.v (Value.int .i64 x.2.Z))])]
theorem ix19 : Inj x19 := fun x y h => by
  simp only [x19, List.cons.injEq, A.v.injEq, A.agg.injEq, A.imm.injEq, Value.int.injEq, Value.bool.injEq, Value.string.injEq, and_true, true_and] at h
  obtain ⟨⟨xa0X, xa0Y, xa0Z⟩, ⟨xa1X, xa1Y, xa1Z⟩⟩ := x
  obtain ⟨⟨ya0X, ya0Y, ya0Z⟩, ⟨ya1X, ya1Y, ya1Z⟩⟩ := y
  simp_all
noncomputable def o19 (args : List A) : Option A := orcOf x19 (fun x => (G19 x.1 x.2).map fun y => (A.tup [(A.v (Value.int .i64 y.1)), (A.v (Value.int .i64 y.2))])) args
theorem r32_C10 : Orc32 C10 := fun a0 a1 => (by kernel_rfl : _ = o32 (x32 (a0, a1))).trans (orcOf_eq _ ix32 (a0, a1))
theorem ok19 (args : List A) (r : A) (h : o19 args = some r) : CallOK Tryd.prog (cx C0).glob 19 args r := by
  obtain ⟨x, rfl, hx⟩ := orcOf_ok h
  simp only [Option.map_eq_some_iff] at hx
  obtain ⟨y, hy, rfl⟩ := hx
  exact ok_J (f := fun (y : (Int × Int)) => (A.tup [(A.v (Value.int .i64 y.1)), (A.v (Value.int .i64 y.2))])) orc_C10 (by kernel_rfl) (T19 C10 fuel0 (r32_C10) x.1 x.2) hy
noncomputable def C11 : Nat → List A → Option A := upd C10 19 o19
theorem orc_C11 : OrcOK (cx C11) := orc_upd orc_C10 ok19
def x20 (x : S_Vec × S_Vec) : List A := [(A.agg [(A.v (Value.int .i64 x.1.X)), (A.v (Value.int .i64 x.1.Y)), (A.v (Value.int .i64 x.1.Z))]), (A.agg [(A.v (Value.int .i64 x.2.X)), (A.v (Value.int .i64 x.2.Y)), (A.v (Value.int .i64 x.2.Z))])]
theorem ix20 : Inj x20 := fun x y h => by
  simp only [x20, List.cons.injEq, A.v.injEq, A.agg.injEq, A.imm.injEq, Value.int.injEq, Value.bool.injEq, Value.string.injEq, and_true, true_and] at h
  obtain ⟨⟨xa0X, xa0Y, xa0Z⟩, ⟨xa1X, xa1Y, xa1Z⟩⟩ := x
  obtain ⟨⟨ya0X, ya0Y, ya0Z⟩, ⟨ya1X, ya1Y, ya1Z⟩⟩ := y
  simp_all
noncomputable def o20 (args : List A) : Option A := orcOf x20 (fun x => (G20 x.1 x.2).map fun y => (A.tup [(A.v (Value.int .i64 y.1)), (A.v (Value.int .i64 y.2))])) args
theorem r33_C11 : Orc33 C11 := fun a0 => (by kernel_rfl : _ = o33 (x33 a0)).trans (orcOf_eq _ ix33 a0)
theorem ok20 (args : List A) (r : A) (h : o20 args = some r) : CallOK Tryd.prog (cx C0).glob 20 args r := by
  obtain ⟨x, rfl, hx⟩ := orcOf_ok h
  simp only [Option.map_eq_some_iff] at hx
  obtain ⟨y, hy, rfl⟩ := hx
  exact ok_J (f := fun (y : (Int × Int)) => (A.tup [(A.v (Value.int .i64 y.1)), (A.v (Value.int .i64 y.2))])) orc_C11 (by kernel_rfl) (T20 C11 fuel0 (r33_C11) x.1 x.2) hy
noncomputable def C12 : Nat → List A → Option A := upd C11 20 o20
theorem orc_C12 : OrcOK (cx C12) := orc_upd orc_C11 ok20
def x43 (x : S_Range) : List A := [(A.agg [(A.v (Value.int .i64 x.Lo)), (A.v (Value.int .i64 x.Hi))])]
theorem ix43 : Inj x43 := fun x y h => by
  simp only [x43, List.cons.injEq, A.v.injEq, A.agg.injEq, A.imm.injEq, Value.int.injEq, Value.bool.injEq, Value.string.injEq, and_true, true_and] at h
  obtain ⟨xa0Lo, xa0Hi⟩ := x
  obtain ⟨ya0Lo, ya0Hi⟩ := y
  simp_all
noncomputable def o43 (args : List A) : Option A := orcOf x43 (fun x => (G43 x).map fun y => (A.v (Value.bool y))) args
theorem ok43 (args : List A) (r : A) (h : o43 args = some r) : CallOK Tryd.prog (cx C0).glob 43 args r := by
  obtain ⟨x, rfl, hx⟩ := orcOf_ok h
  simp only [Option.map_eq_some_iff] at hx
  obtain ⟨y, hy, rfl⟩ := hx
  exact ok_J (f := fun (y : Bool) => (A.v (Value.bool y))) orc_C12 (by kernel_rfl) (T43 C12 fuel0  x) hy
noncomputable def C13 : Nat → List A → Option A := upd C12 43 o43
theorem orc_C13 : OrcOK (cx C13) := orc_upd orc_C12 ok43
def x34 (x : S_Box) : List A := [(A.agg [(A.v (Value.int .i64 x.X.Lo)), (A.v (Value.int .i64 x.X.Hi)), (A.v (Value.int .i64 x.Y.Lo)), (A.v (Value.int .i64 x.Y.Hi))])]
theorem ix34 : Inj x34 := fun x y h => by
  simp only [x34, List.cons.injEq, A.v.injEq, A.agg.injEq, A.imm.injEq, Value.int.injEq, Value.bool.injEq, Value.string.injEq, and_true, true_and] at h
  obtain ⟨⟨xa0XLo, xa0XHi⟩, ⟨xa0YLo, xa0YHi⟩⟩ := x
  obtain ⟨⟨ya0XLo, ya0XHi⟩, ⟨ya0YLo, ya0YHi⟩⟩ := y
  simp_all
noncomputable def o34 (args : List A) : Option A := orcOf x34 (fun x => (G34 x).map fun y => (A.v (Value.bool y))) args
theorem r32_C13 : Orc32 C13 := fun a0 a1 => (by kernel_rfl : _ = o32 (x32 (a0, a1))).trans (orcOf_eq _ ix32 (a0, a1))
theorem ok34 (args : List A) (r : A) (h : o34 args = some r) : CallOK Tryd.prog (cx C0).glob 34 args r := by
  obtain ⟨x, rfl, hx⟩ := orcOf_ok h
  simp only [Option.map_eq_some_iff] at hx
  obtain ⟨y, hy, rfl⟩ := hx
  exact ok_J (f := fun (y : Bool) => (A.v (Value.bool y))) orc_C13 (by kernel_rfl) (T34 C13 fuel0 (r32_C13) x) hy
noncomputable def C14 : Nat → List A → Option A := upd C13 34 o34
theorem orc_C14 : OrcOK (cx C14) := orc_upd orc_C13 ok34
def x35 (x : S_Box) : List A := [(A.agg [(A.v (Value.int .i64 x.X.Lo)), (A.v (Value.int .i64 x.X.Hi)), (A.v (Value.int .i64 x.Y.Lo)), (A.v (Value.int .i64 x.Y.Hi))])]
theorem ix35 : Inj x35 := fun x y h => by
  simp only [x35, List.cons.injEq, A.v.injEq, A.agg.injEq, A.imm.injEq, Value.int.injEq, Value.bool.injEq, Value.string.injEq, and_true, true_and] at h
  obtain ⟨⟨xa0XLo, xa0XHi⟩, ⟨xa0YLo, xa0YHi⟩⟩ := x
  obtain ⟨⟨ya0XLo, ya0XHi⟩, ⟨ya0YLo, ya0YHi⟩⟩ := y
  simp_all
noncomputable def o35 (args : List A) : Option A := orcOf x35 (fun x => (G35 x).map fun y => (A.v (Value.bool y))) args
theorem r43_C14 : Orc43 C14 := fun a0 => (by kernel_rfl : _ = o43 (x43 a0)).trans (orcOf_eq _ ix43 a0)
theorem ok35 (args : List A) (r : A) (h : o35 args = some r) : CallOK Tryd.prog (cx C0).glob 35 args r := by
  obtain ⟨x, rfl, hx⟩ := orcOf_ok h
  simp only [Option.map_eq_some_iff] at hx
  obtain ⟨y, hy, rfl⟩ := hx
  exact ok_J (f := fun (y : Bool) => (A.v (Value.bool y))) orc_C14 (by kernel_rfl) (T35 C14 fuel0 (r43_C14) x) hy
noncomputable def C15 : Nat → List A → Option A := upd C14 35 o35
theorem orc_C15 : OrcOK (cx C15) := orc_upd orc_C14 ok35
def x36 (x : S_Range × S_Range) : List A := [(A.agg [(A.v (Value.int .i64 x.1.Lo)), (A.v (Value.int .i64 x.1.Hi))]), (A.agg [(A.v (Value.int .i64 x.2.Lo)), (A.v (Value.int .i64 x.2.Hi))])]
theorem ix36 : Inj x36 := fun x y h => by
  simp only [x36, List.cons.injEq, A.v.injEq, A.agg.injEq, A.imm.injEq, Value.int.injEq, Value.bool.injEq, Value.string.injEq, and_true, true_and] at h
  obtain ⟨⟨xa0Lo, xa0Hi⟩, ⟨xa1Lo, xa1Hi⟩⟩ := x
  obtain ⟨⟨ya0Lo, ya0Hi⟩, ⟨ya1Lo, ya1Hi⟩⟩ := y
  simp_all
noncomputable def o36 (args : List A) : Option A := orcOf x36 (fun x => (G36 x.1 x.2).map fun y => (A.agg [(A.v (Value.int .i64 y.Lo)), (A.v (Value.int .i64 y.Hi))])) args
theorem ok36 (args : List A) (r : A) (h : o36 args = some r) : CallOK Tryd.prog (cx C0).glob 36 args r := by
  obtain ⟨x, rfl, hx⟩ := orcOf_ok h
  simp only [Option.map_eq_some_iff] at hx
  obtain ⟨y, hy, rfl⟩ := hx
  exact ok_J (f := fun (y : S_Range) => (A.agg [(A.v (Value.int .i64 y.Lo)), (A.v (Value.int .i64 y.Hi))])) orc_C15 (by kernel_rfl) (T36 C15 fuel0  x.1 x.2) hy
noncomputable def C16 : Nat → List A → Option A := upd C15 36 o36
theorem orc_C16 : OrcOK (cx C16) := orc_upd orc_C15 ok36
def x38 (x : S_Range × S_Range) : List A := [(A.agg [(A.v (Value.int .i64 x.1.Lo)), (A.v (Value.int .i64 x.1.Hi))]), (A.agg [(A.v (Value.int .i64 x.2.Lo)), (A.v (Value.int .i64 x.2.Hi))])]
theorem ix38 : Inj x38 := fun x y h => by
  simp only [x38, List.cons.injEq, A.v.injEq, A.agg.injEq, A.imm.injEq, Value.int.injEq, Value.bool.injEq, Value.string.injEq, and_true, true_and] at h
  obtain ⟨⟨xa0Lo, xa0Hi⟩, ⟨xa1Lo, xa1Hi⟩⟩ := x
  obtain ⟨⟨ya0Lo, ya0Hi⟩, ⟨ya1Lo, ya1Hi⟩⟩ := y
  simp_all
noncomputable def o38 (args : List A) : Option A := orcOf x38 (fun x => (G38 x.1 x.2).map fun y => (A.v (Value.bool y))) args
theorem ok38 (args : List A) (r : A) (h : o38 args = some r) : CallOK Tryd.prog (cx C0).glob 38 args r := by
  obtain ⟨x, rfl, hx⟩ := orcOf_ok h
  simp only [Option.map_eq_some_iff] at hx
  obtain ⟨y, hy, rfl⟩ := hx
  exact ok_J (f := fun (y : Bool) => (A.v (Value.bool y))) orc_C16 (by kernel_rfl) (T38 C16 fuel0  x.1 x.2) hy
noncomputable def C17 : Nat → List A → Option A := upd C16 38 o38
theorem orc_C17 : OrcOK (cx C17) := orc_upd orc_C16 ok38
def x39 (x : S_Range × S_Range) : List A := [(A.agg [(A.v (Value.int .i64 x.1.Lo)), (A.v (Value.int .i64 x.1.Hi))]), (A.agg [(A.v (Value.int .i64 x.2.Lo)), (A.v (Value.int .i64 x.2.Hi))])]
theorem ix39 : Inj x39 := fun x y h => by
  simp only [x39, List.cons.injEq, A.v.injEq, A.agg.injEq, A.imm.injEq, Value.int.injEq, Value.bool.injEq, Value.string.injEq, and_true, true_and] at h
  obtain ⟨⟨xa0Lo, xa0Hi⟩, ⟨xa1Lo, xa1Hi⟩⟩ := x
  obtain ⟨⟨ya0Lo, ya0Hi⟩, ⟨ya1Lo, ya1Hi⟩⟩ := y
  simp_all
noncomputable def o39 (args : List A) : Option A := orcOf x39 (fun x => (G39 x.1 x.2).map fun y => (A.v (Value.bool y))) args
theorem ok39 (args : List A) (r : A) (h : o39 args = some r) : CallOK Tryd.prog (cx C0).glob 39 args r := by
  obtain ⟨x, rfl, hx⟩ := orcOf_ok h
  simp only [Option.map_eq_some_iff] at hx
  obtain ⟨y, hy, rfl⟩ := hx
  exact ok_J (f := fun (y : Bool) => (A.v (Value.bool y))) orc_C17 (by kernel_rfl) (T39 C17 fuel0  x.1 x.2) hy
noncomputable def C18 : Nat → List A → Option A := upd C17 39 o39
theorem orc_C18 : OrcOK (cx C18) := orc_upd orc_C17 ok39
def x40 (x : S_Range × S_Range) : List A := [(A.agg [(A.v (Value.int .i64 x.1.Lo)), (A.v (Value.int .i64 x.1.Hi))]), (A.agg [(A.v (Value.int .i64 x.2.Lo)), (A.v (Value.int .i64 x.2.Hi))])]
theorem ix40 : Inj x40 := fun x y h => by
  simp only [x40, List.cons.injEq, A.v.injEq, A.agg.injEq, A.imm.injEq, Value.int.injEq, Value.bool.injEq, Value.string.injEq, and_true, true_and] at h
  obtain ⟨⟨xa0Lo, xa0Hi⟩, ⟨xa1Lo, xa1Hi⟩⟩ := x
  obtain ⟨⟨ya0Lo, ya0Hi⟩, ⟨ya1Lo, ya1Hi⟩⟩ := y
  simp_all
noncomputable def o40 (args : List A) : Option A := orcOf x40 (fun x => (G40 x.1 x.2).map fun y => (A.v (Value.bool y))) args
theorem ok40 (args : List A) (r : A) (h : o40 args = some r) : CallOK Tryd.prog (cx C0).glob 40 args r := by
  obtain ⟨x, rfl, hx⟩ := orcOf_ok h
  simp only [Option.map_eq_some_iff] at hx
  obtain ⟨y, hy, rfl⟩ := hx
  exact ok_J (f := fun (y : Bool) => (A.v (Value.bool y))) orc_C18 (by kernel_rfl) (T40 C18 fuel0  x.1 x.2) hy
noncomputable def C19 : Nat → List A → Option A := upd C18 40 o40
theorem orc_C19 : OrcOK (cx C19) := orc_upd orc_C18 ok40
def x41 (x : S_Range × S_Range) : List A := [(A.agg [(A.v (Value.int .i64 x.1.Lo)), (A.v (Value.int .i64 x.1.Hi))]), (A.agg [(A.v (Value.int .i64 x.2.Lo)), (A.v (Value.int .i64 x.2.Hi))])]
theorem ix41 : Inj x41 := fun x y h => by
  simp only [x41, List.cons.injEq, A.v.injEq, A.agg.injEq, A.imm.injEq, Value.int.injEq, Value.bool.injEq, Value.string.injEq, and_true, true_and] at h
  obtain ⟨⟨xa0Lo, xa0Hi⟩, ⟨xa1Lo, xa1Hi⟩⟩ := x
  obtain ⟨⟨ya0Lo, ya0Hi⟩, ⟨ya1Lo, ya1Hi⟩⟩ := y
  simp_all
noncomputable def o41 (args : List A) : Option A := orcOf x41 (fun x => (G41 x.1 x.2).map fun y => (A.v (Value.bool y))) args
theorem ok41 (args : List A) (r : A) (h : o41 args = some r) : CallOK Tryd.prog (cx C0).glob 41 args r := by
  obtain ⟨x, rfl, hx⟩ := orcOf_ok h
  simp only [Option.map_eq_some_iff] at hx
  obtain ⟨y, hy, rfl⟩ := hx
  exact ok_J (f := fun (y : Bool) => (A.v (Value.bool y))) orc_C19 (by kernel_rfl) (T41 C19 fuel0  x.1 x.2) hy
noncomputable def C20 : Nat → List A → Option A := upd C19 41 o41
theorem orc_C20 : OrcOK (cx C20) := orc_upd orc_C19 ok41
def x37_38 (x : S_Box × S_Box) : List A := [(A.agg [(A.v (Value.int .i64 x.1.X.Lo)), (A.v (Value.int .i64 x.1.X.Hi)), (A.v (Value.int .i64 x.1.Y.Lo)), (A.v (Value.int .i64 x.1.Y.Hi))]), (A.agg [(A.v (Value.int .i64 x.2.X.Lo)), (A.v (Value.int .i64 x.2.X.Hi)), (A.v (Value.int .i64 x.2.Y.Lo)), (A.v (Value.int .i64 x.2.Y.Hi))]), (A.fn (Fn.func 38) [] [])]
theorem ix37_38 : Inj x37_38 := fun x y h => by
  simp only [x37_38, List.cons.injEq, A.v.injEq, A.agg.injEq, A.imm.injEq, Value.int.injEq, Value.bool.injEq, Value.string.injEq, and_true, true_and] at h
  obtain ⟨⟨⟨xa0XLo, xa0XHi⟩, ⟨xa0YLo, xa0YHi⟩⟩, ⟨⟨xa1XLo, xa1XHi⟩, ⟨xa1YLo, xa1YHi⟩⟩⟩ := x
  obtain ⟨⟨⟨ya0XLo, ya0XHi⟩, ⟨ya0YLo, ya0YHi⟩⟩, ⟨⟨ya1XLo, ya1XHi⟩, ⟨ya1YLo, ya1YHi⟩⟩⟩ := y
  simp_all
noncomputable def o37_38 (args : List A) : Option A := orcOf x37_38 (fun x => (G37_38 x.1 x.2).map fun y => (A.v (Value.bool y))) args
theorem r38_C20 : Orc38 C20 := fun a0 a1 => (by kernel_rfl : _ = o38 (x38 (a0, a1))).trans (orcOf_eq _ ix38 (a0, a1))
theorem ok37_38 (args : List A) (r : A) (h : o37_38 args = some r) : CallOK Tryd.prog (cx C0).glob 37 args r := by
  obtain ⟨x, rfl, hx⟩ := orcOf_ok h
  simp only [Option.map_eq_some_iff] at hx
  obtain ⟨y, hy, rfl⟩ := hx
  exact ok_J (f := fun (y : Bool) => (A.v (Value.bool y))) orc_C20 (by kernel_rfl) (T37_38 C20 fuel0 (r38_C20) x.1 x.2) hy
def x37_40 (x : S_Box × S_Box) : List A := [(A.agg [(A.v (Value.int .i64 x.1.X.Lo)), (A.v (Value.int .i64 x.1.X.Hi)), (A.v (Value.int .i64 x.1.Y.Lo)), (A.v (Value.int .i64 x.1.Y.Hi))]), (A.agg [(A.v (Value.int .i64 x.2.X.Lo)), (A.v (Value.int .i64 x.2.X.Hi)), (A.v (Value.int .i64 x.2.Y.Lo)), (A.v (Value.int .i64 x.2.Y.Hi))]), (A.fn (Fn.func 40) [] [])]
theorem ix37_40 : Inj x37_40 := fun x y h => by
  simp only [x37_40, List.cons.injEq, A.v.injEq, A.agg.injEq, A.imm.injEq, Value.int.injEq, Value.bool.injEq, Value.string.injEq, and_true, true_and] at h
  obtain ⟨⟨⟨xa0XLo, xa0XHi⟩, ⟨xa0YLo, xa0YHi⟩⟩, ⟨⟨xa1XLo, xa1XHi⟩, ⟨xa1YLo, xa1YHi⟩⟩⟩ := x
  obtain ⟨⟨⟨ya0XLo, ya0XHi⟩, ⟨ya0YLo, ya0YHi⟩⟩, ⟨⟨ya1XLo, ya1XHi⟩, ⟨ya1YLo, ya1YHi⟩⟩⟩ := y
  simp_all
noncomputable def o37_40 (args : List A) : Option A := orcOf x37_40 (fun x => (G37_40 x.1 x.2).map fun y => (A.v (Value.bool y))) args
theorem r40_C20 : Orc40 C20 := fun a0 a1 => (by kernel_rfl : _ = o40 (x40 (a0, a1))).trans (orcOf_eq _ ix40 (a0, a1))
theorem ok37_40 (args : List A) (r : A) (h : o37_40 args = some r) : CallOK Tryd.prog (cx C0).glob 37 args r := by
  obtain ⟨x, rfl, hx⟩ := orcOf_ok h
  simp only [Option.map_eq_some_iff] at hx
  obtain ⟨y, hy, rfl⟩ := hx
  exact ok_J (f := fun (y : Bool) => (A.v (Value.bool y))) orc_C20 (by kernel_rfl) (T37_40 C20 fuel0 (r40_C20) x.1 x.2) hy
noncomputable def u37 (args : List A) : Option A := match o37_38 args with | some r => some r | none => o37_40 args
theorem oku37 (args : List A) (r : A) (h : u37 args = some r) : CallOK Tryd.prog (cx C0).glob 37 args r := by
  unfold u37 at h
  split at h
  · rename_i s hs; cases h; exact ok37_38 args _ hs
  · exact ok37_40 args r h
theorem dis37 (x : S_Box × S_Box) (y : S_Box × S_Box) : x37_38 x ≠ x37_40 y := fun h => by simp [x37_38, x37_40] at h
theorem u37_37_38 (x : S_Box × S_Box) : u37 (x37_38 x) = (G37_38 x.1 x.2).map fun y => (A.v (Value.bool y)) := by
  have h1 := orcOf_eq (fun x => (G37_38 x.1 x.2).map fun y => (A.v (Value.bool y))) ix37_38 x
  have h2 : o37_40 (x37_38 x) = none := by
    cases h : o37_40 (x37_38 x) with
    | none => rfl
    | some r => obtain ⟨z, hz, _⟩ := orcOf_ok h; exact absurd hz.symm (dis37 x z)
  unfold u37
  rw [show o37_38 (x37_38 x) = _ from h1, h2]
  cases (G37_38 x.1 x.2).map fun y => (A.v (Value.bool y)) <;> rfl
theorem u37_37_40 (x : S_Box × S_Box) : u37 (x37_40 x) = (G37_40 x.1 x.2).map fun y => (A.v (Value.bool y)) := by
  have h1 := orcOf_eq (fun x => (G37_40 x.1 x.2).map fun y => (A.v (Value.bool y))) ix37_40 x
  have h2 : o37_38 (x37_40 x) = none := by
    cases h : o37_38 (x37_40 x) with
    | none => rfl
    | some r => obtain ⟨z, hz, _⟩ := orcOf_ok h; exact absurd hz (dis37 z x)
  unfold u37
  rw [h2]
  exact h1
noncomputable def C21 : Nat → List A → Option A := upd C20 37 u37
theorem orc_C21 : OrcOK (cx C21) := orc_upd orc_C20 oku37
def x42 (x : S_Range × Int) : List A := [(A.agg [(A.v (Value.int .i64 x.1.Lo)), (A.v (Value.int .i64 x.1.Hi))]), (A.v (Value.int .i64 x.2))]
theorem ix42 : Inj x42 := fun x y h => by
  simp only [x42, List.cons.injEq, A.v.injEq, A.agg.injEq, A.imm.injEq, Value.int.injEq, Value.bool.injEq, Value.string.injEq, and_true, true_and] at h
  obtain ⟨⟨xa0Lo, xa0Hi⟩, xa1⟩ := x
  obtain ⟨⟨ya0Lo, ya0Hi⟩, ya1⟩ := y
  simp_all
noncomputable def o42 (args : List A) : Option A := orcOf x42 (fun x => (G42 x.1 x.2).map fun y => (A.tup [(A.agg [(A.v (Value.int .i64 y.1.Lo)), (A.v (Value.int .i64 y.1.Hi))]), (A.v (Value.bool y.2))])) args
theorem r43_C21 : Orc43 C21 := fun a0 => (by kernel_rfl : _ = o43 (x43 a0)).trans (orcOf_eq _ ix43 a0)
theorem ok42 (args : List A) (r : A) (h : o42 args = some r) : CallOK Tryd.prog (cx C0).glob 42 args r := by
  obtain ⟨x, rfl, hx⟩ := orcOf_ok h
  simp only [Option.map_eq_some_iff] at hx
  obtain ⟨y, hy, rfl⟩ := hx
  exact ok_J (f := fun (y : (S_Range × Bool)) => (A.tup [(A.agg [(A.v (Value.int .i64 y.1.Lo)), (A.v (Value.int .i64 y.1.Hi))]), (A.v (Value.bool y.2))])) orc_C21 (by kernel_rfl) (T42 C21 fuel0 (r43_C21) x.1 x.2) hy
noncomputable def C22 : Nat → List A → Option A := upd C21 42 o42
theorem orc_C22 : OrcOK (cx C22) := orc_upd orc_C21 ok42
def x21 (x : S_Box × S_Box) : List A := [(A.agg [(A.v (Value.int .i64 x.1.X.Lo)), (A.v (Value.int .i64 x.1.X.Hi)), (A.v (Value.int .i64 x.1.Y.Lo)), (A.v (Value.int .i64 x.1.Y.Hi))]), (A.agg [(A.v (Value.int .i64 x.2.X.Lo)), (A.v (Value.int .i64 x.2.X.Hi)), (A.v (Value.int .i64 x.2.Y.Lo)), (A.v (Value.int .i64 x.2.Y.Hi))])]
theorem ix21 : Inj x21 := fun x y h => by
  simp only [x21, List.cons.injEq, A.v.injEq, A.agg.injEq, A.imm.injEq, Value.int.injEq, Value.bool.injEq, Value.string.injEq, and_true, true_and] at h
  obtain ⟨⟨⟨xa0XLo, xa0XHi⟩, ⟨xa0YLo, xa0YHi⟩⟩, ⟨⟨xa1XLo, xa1XHi⟩, ⟨xa1YLo, xa1YHi⟩⟩⟩ := x
  obtain ⟨⟨⟨ya0XLo, ya0XHi⟩, ⟨ya0YLo, ya0YHi⟩⟩, ⟨⟨ya1XLo, ya1XHi⟩, ⟨ya1YLo, ya1YHi⟩⟩⟩ := y
  simp_all
noncomputable def o21 (args : List A) : Option A := orcOf x21 (fun x => (G21 x.1 x.2).map fun y => (A.tup [(A.agg [(A.v (Value.int .i64 y.1.X.Lo)), (A.v (Value.int .i64 y.1.X.Hi)), (A.v (Value.int .i64 y.1.Y.Lo)), (A.v (Value.int .i64 y.1.Y.Hi))]), (A.v (Value.int .i64 y.2))])) args
theorem r34_C22 : Orc34 C22 := fun a0 => (by kernel_rfl : _ = o34 (x34 a0)).trans (orcOf_eq _ ix34 a0)
theorem ok21 (args : List A) (r : A) (h : o21 args = some r) : CallOK Tryd.prog (cx C0).glob 21 args r := by
  obtain ⟨x, rfl, hx⟩ := orcOf_ok h
  simp only [Option.map_eq_some_iff] at hx
  obtain ⟨y, hy, rfl⟩ := hx
  exact ok_J (f := fun (y : (S_Box × Int)) => (A.tup [(A.agg [(A.v (Value.int .i64 y.1.X.Lo)), (A.v (Value.int .i64 y.1.X.Hi)), (A.v (Value.int .i64 y.1.Y.Lo)), (A.v (Value.int .i64 y.1.Y.Hi))]), (A.v (Value.int .i64 y.2))])) orc_C22 (by kernel_rfl) (T21 C22 fuel0 (r34_C22) x.1 x.2) hy
noncomputable def C23 : Nat → List A → Option A := upd C22 21 o21
theorem orc_C23 : OrcOK (cx C23) := orc_upd orc_C22 ok21
def x22 (x : S_Box × S_Box) : List A := [(A.agg [(A.v (Value.int .i64 x.1.X.Lo)), (A.v (Value.int .i64 x.1.X.Hi)), (A.v (Value.int .i64 x.1.Y.Lo)), (A.v (Value.int .i64 x.1.Y.Hi))]), (A.agg [(A.v (Value.int .i64 x.2.X.Lo)), (A.v (Value.int .i64 x.2.X.Hi)), (A.v (Value.int .i64 x.2.Y.Lo)), (A.v (Value.int .i64 x.2.Y.Hi))])]
theorem ix22 : Inj x22 := fun x y h => by
  simp only [x22, List.cons.injEq, A.v.injEq, A.agg.injEq, A.imm.injEq, Value.int.injEq, Value.bool.injEq, Value.string.injEq, and_true, true_and] at h
  obtain ⟨⟨⟨xa0XLo, xa0XHi⟩, ⟨xa0YLo, xa0YHi⟩⟩, ⟨⟨xa1XLo, xa1XHi⟩, ⟨xa1YLo, xa1YHi⟩⟩⟩ := x
  obtain ⟨⟨⟨ya0XLo, ya0XHi⟩, ⟨ya0YLo, ya0YHi⟩⟩, ⟨⟨ya1XLo, ya1XHi⟩, ⟨ya1YLo, ya1YHi⟩⟩⟩ := y
  simp_all
noncomputable def o22 (args : List A) : Option A := orcOf x22 (fun x => (G22 x.1 x.2).map fun y => (A.tup [(A.agg [(A.v (Value.int .i64 y.1.X.Lo)), (A.v (Value.int .i64 y.1.X.Hi)), (A.v (Value.int .i64 y.1.Y.Lo)), (A.v (Value.int .i64 y.1.Y.Hi))]), (A.v (Value.int .i64 y.2))])) args
theorem r35_C23 : Orc35 C23 := fun a0 => (by kernel_rfl : _ = o35 (x35 a0)).trans (orcOf_eq _ ix35 a0)
theorem r36_C23 : Orc36 C23 := fun a0 a1 => (by kernel_rfl : _ = o36 (x36 (a0, a1))).trans (orcOf_eq _ ix36 (a0, a1))
theorem ok22 (args : List A) (r : A) (h : o22 args = some r) : CallOK Tryd.prog (cx C0).glob 22 args r := by
  obtain ⟨x, rfl, hx⟩ := orcOf_ok h
  simp only [Option.map_eq_some_iff] at hx
  obtain ⟨y, hy, rfl⟩ := hx
  exact ok_J (f := fun (y : (S_Box × Int)) => (A.tup [(A.agg [(A.v (Value.int .i64 y.1.X.Lo)), (A.v (Value.int .i64 y.1.X.Hi)), (A.v (Value.int .i64 y.1.Y.Lo)), (A.v (Value.int .i64 y.1.Y.Hi))]), (A.v (Value.int .i64 y.2))])) orc_C23 (by kernel_rfl) (T22 C23 fuel0 (r35_C23) (r36_C23) x.1 x.2) hy
noncomputable def C24 : Nat → List A → Option A := upd C23 22 o22
theorem orc_C24 : OrcOK (cx C24) := orc_upd orc_C23 ok22
def x23 (x : S_Box × S_Box) : List A := [(A.agg [(A.v (Value.int .i64 x.1.X.Lo)), (A.v (Value.int .i64 x.1.X.Hi)), (A.v (Value.int .i64 x.1.Y.Lo)), (A.v (Value.int .i64 x.1.Y.Hi))]), (A.agg [(A.v (Value.int .i64 x.2.X.Lo)), (A.v (Value.int .i64 x.2.X.Hi)), (A.v (Value.int .i64 x.2.Y.Lo)), (A.v (Value.int .i64 x.2.Y.Hi))])]
theorem ix23 : Inj x23 := fun x y h => by
  simp only [x23, List.cons.injEq, A.v.injEq, A.agg.injEq, A.imm.injEq, Value.int.injEq, Value.bool.injEq, Value.string.injEq, and_true, true_and] at h
  obtain ⟨⟨⟨xa0XLo, xa0XHi⟩, ⟨xa0YLo, xa0YHi⟩⟩, ⟨⟨xa1XLo, xa1XHi⟩, ⟨xa1YLo, xa1YHi⟩⟩⟩ := x
  obtain ⟨⟨⟨ya0XLo, ya0XHi⟩, ⟨ya0YLo, ya0YHi⟩⟩, ⟨⟨ya1XLo, ya1XHi⟩, ⟨ya1YLo, ya1YHi⟩⟩⟩ := y
  simp_all
noncomputable def o23 (args : List A) : Option A := orcOf x23 (fun x => (G23 x.1 x.2).map fun y => (A.tup [(A.v (Value.bool y.1)), (A.v (Value.int .i64 y.2))])) args
theorem r34_C24 : Orc34 C24 := fun a0 => (by kernel_rfl : _ = o34 (x34 a0)).trans (orcOf_eq _ ix34 a0)
theorem r37_38_C24 : Orc37_38 C24 := fun a0 a1 => (by kernel_rfl : _ = u37 (x37_38 (a0, a1))).trans (u37_37_38 (a0, a1))
theorem ok23 (args : List A) (r : A) (h : o23 args = some r) : CallOK Tryd.prog (cx C0).glob 23 args r := by
  obtain ⟨x, rfl, hx⟩ := orcOf_ok h
  simp only [Option.map_eq_some_iff] at hx
  obtain ⟨y, hy, rfl⟩ := hx
  exact ok_J (f := fun (y : (Bool × Int)) => (A.tup [(A.v (Value.bool y.1)), (A.v (Value.int .i64 y.2))])) orc_C24 (by kernel_rfl) (T23 C24 fuel0 (r34_C24) (r37_38_C24) x.1 x.2) hy
noncomputable def C25 : Nat → List A → Option A := upd C24 23 o23
theorem orc_C25 : OrcOK (cx C25) := orc_upd orc_C24 ok23
def x24 (x : S_Box × S_Box) : List A := [(A.agg [(A.v (Value.int .i64 x.1.X.Lo)), (A.v (Value.int .i64 x.1.X.Hi)), (A.v (Value.int .i64 x.1.Y.Lo)), (A.v (Value.int .i64 x.1.Y.Hi))]), (A.agg [(A.v (Value.int .i64 x.2.X.Lo)), (A.v (Value.int .i64 x.2.X.Hi)), (A.v (Value.int .i64 x.2.Y.Lo)), (A.v (Value.int .i64 x.2.Y.Hi))])]
theorem ix24 : Inj x24 := fun x y h => by
  simp only [x24, List.cons.injEq, A.v.injEq, A.agg.injEq, A.imm.injEq, Value.int.injEq, Value.bool.injEq, Value.string.injEq, and_true, true_and] at h
  obtain ⟨⟨⟨xa0XLo, xa0XHi⟩, ⟨xa0YLo, xa0YHi⟩⟩, ⟨⟨xa1XLo, xa1XHi⟩, ⟨xa1YLo, xa1YHi⟩⟩⟩ := x
  obtain ⟨⟨⟨ya0XLo, ya0XHi⟩, ⟨ya0YLo, ya0YHi⟩⟩, ⟨⟨ya1XLo, ya1XHi⟩, ⟨ya1YLo, ya1YHi⟩⟩⟩ := y
  simp_all
noncomputable def o24 (args : List A) : Option A := orcOf x24 (fun x => (G24 x.1 x.2).map fun y => (A.tup [(A.v (Value.bool y.1)), (A.v (Value.int .i64 y.2))])) args
theorem r35_C25 : Orc35 C25 := fun a0 => (by kernel_rfl : _ = o35 (x35 a0)).trans (orcOf_eq _ ix35 a0)
theorem r39_C25 : Orc39 C25 := fun a0 a1 => (by kernel_rfl : _ = o39 (x39 (a0, a1))).trans (orcOf_eq _ ix39 (a0, a1))
theorem ok24 (args : List A) (r : A) (h : o24 args = some r) : CallOK Tryd.prog (cx C0).glob 24 args r := by
  obtain ⟨x, rfl, hx⟩ := orcOf_ok h
  simp only [Option.map_eq_some_iff] at hx
  obtain ⟨y, hy, rfl⟩ := hx
  exact ok_J (f := fun (y : (Bool × Int)) => (A.tup [(A.v (Value.bool y.1)), (A.v (Value.int .i64 y.2))])) orc_C25 (by kernel_rfl) (T24 C25 fuel0 (r35_C25) (r39_C25) x.1 x.2) hy
noncomputable def C26 : Nat → List A → Option A := upd C25 24 o24
theorem orc_C26 : OrcOK (cx C26) := orc_upd orc_C25 ok24
def x25 (x : S_Box × S_Box) : List A := [(A.agg [(A.v (Value.int .i64 x.1.X.Lo)), (A.v (Value.int .i64 x.1.X.Hi)), (A.v (Value.int .i64 x.1.Y.Lo)), (A.v (Value.int .i64 x.1.Y.Hi))]), (A.agg [(A.v (Value.int .i64 x.2.X.Lo)), (A.v (Value.int .i64 x.2.X.Hi)), (A.v (Value.int .i64 x.2.Y.Lo)), (A.v (Value.int .i64 x.2.Y.Hi))])]
theorem ix25 : Inj x25 := fun x y h => by
  simp only [x25, List.cons.injEq, A.v.injEq, A.agg.injEq, A.imm.injEq, Value.int.injEq, Value.bool.injEq, Value.string.injEq, and_true, true_and] at h
  obtain ⟨⟨⟨xa0XLo, xa0XHi⟩, ⟨xa0YLo, xa0YHi⟩⟩, ⟨⟨xa1XLo, xa1XHi⟩, ⟨xa1YLo, xa1YHi⟩⟩⟩ := x
  obtain ⟨⟨⟨ya0XLo, ya0XHi⟩, ⟨ya0YLo, ya0YHi⟩⟩, ⟨⟨ya1XLo, ya1XHi⟩, ⟨ya1YLo, ya1YHi⟩⟩⟩ := y
  simp_all
noncomputable def o25 (args : List A) : Option A := orcOf x25 (fun x => (G25 x.1 x.2).map fun y => (A.tup [(A.v (Value.bool y.1)), (A.v (Value.int .i64 y.2))])) args
theorem r34_C26 : Orc34 C26 := fun a0 => (by kernel_rfl : _ = o34 (x34 a0)).trans (orcOf_eq _ ix34 a0)
theorem r37_40_C26 : Orc37_40 C26 := fun a0 a1 => (by kernel_rfl : _ = u37 (x37_40 (a0, a1))).trans (u37_37_40 (a0, a1))
theorem ok25 (args : List A) (r : A) (h : o25 args = some r) : CallOK Tryd.prog (cx C0).glob 25 args r := by
  obtain ⟨x, rfl, hx⟩ := orcOf_ok h
  simp only [Option.map_eq_some_iff] at hx
  obtain ⟨y, hy, rfl⟩ := hx
  exact ok_J (f := fun (y : (Bool × Int)) => (A.tup [(A.v (Value.bool y.1)), (A.v (Value.int .i64 y.2))])) orc_C26 (by kernel_rfl) (T25 C26 fuel0 (r34_C26) (r37_40_C26) x.1 x.2) hy
noncomputable def C27 : Nat → List A → Option A := upd C26 25 o25
theorem orc_C27 : OrcOK (cx C27) := orc_upd orc_C26 ok25
def x26 (x : S_Box × S_Box) : List A := [(A.agg [(A.v (Value.int .i64 x.1.X.Lo)), (A.v (Value.int .i64 x.1.X.Hi)), (A.v (Value.int .i64 x.1.Y.Lo)), (A.v (Value.int .i64 x.1.Y.Hi))]), (A.agg [(A.v (Value.int .i64 x.2.X.Lo)), (A.v (Value.int .i64 x.2.X.Hi)), (A.v (Value.int .i64 x.2.Y.Lo)), (A.v (Value.int .i64 x.2.Y.Hi))])]
theorem ix26 : Inj x26 := fun x y h => by
  simp only [x26, List.cons.injEq, A.v.injEq, A.agg.injEq, A.imm.injEq, Value.int.injEq, Value.bool.injEq, Value.string.injEq, and_true, true_and] at h
  obtain ⟨⟨⟨xa0XLo, xa0XHi⟩, ⟨xa0YLo, xa0YHi⟩⟩, ⟨⟨xa1XLo, xa1XHi⟩, ⟨xa1YLo, xa1YHi⟩⟩⟩ := x
  obtain ⟨⟨⟨ya0XLo, ya0XHi⟩, ⟨ya0YLo, ya0YHi⟩⟩, ⟨⟨ya1XLo, ya1XHi⟩, ⟨ya1YLo, ya1YHi⟩⟩⟩ := y
  simp_all
noncomputable def o26 (args : List A) : Option A := orcOf x26 (fun x => (G26 x.1 x.2).map fun y => (A.tup [(A.v (Value.bool y.1)), (A.v (Value.int .i64 y.2))])) args
theorem r35_C27 : Orc35 C27 := fun a0 => (by kernel_rfl : _ = o35 (x35 a0)).trans (orcOf_eq _ ix35 a0)
theorem r41_C27 : Orc41 C27 := fun a0 a1 => (by kernel_rfl : _ = o41 (x41 (a0, a1))).trans (orcOf_eq _ ix41 (a0, a1))
theorem ok26 (args : List A) (r : A) (h : o26 args = some r) : CallOK Tryd.prog (cx C0).glob 26 args r := by
  obtain ⟨x, rfl, hx⟩ := orcOf_ok h
  simp only [Option.map_eq_some_iff] at hx
  obtain ⟨y, hy, rfl⟩ := hx
  exact ok_J (f := fun (y : (Bool × Int)) => (A.tup [(A.v (Value.bool y.1)), (A.v (Value.int .i64 y.2))])) orc_C27 (by kernel_rfl) (T26 C27 fuel0 (r35_C27) (r41_C27) x.1 x.2) hy
noncomputable def C28 : Nat → List A → Option A := upd C27 26 o26
theorem orc_C28 : OrcOK (cx C28) := orc_upd orc_C27 ok26
def x27 (x : S_Box × Int × Int) : List A := [(A.agg [(A.v (Value.int .i64 x.1.X.Lo)), (A.v (Value.int .i64 x.1.X.Hi)), (A.v (Value.int .i64 x.1.Y.Lo)), (A.v (Value.int .i64 x.1.Y.Hi))]), (A.v (Value.int .i64 x.2.1)), (A.v (Value.int .i64 x.2.2))]
theorem ix27 : Inj x27 := fun x y h => by
  simp only [x27, List.cons.injEq, A.v.injEq, A.agg.injEq, A.imm.injEq, Value.int.injEq, Value.bool.injEq, Value.string.injEq, and_true, true_and] at h
  obtain ⟨⟨⟨xa0XLo, xa0XHi⟩, ⟨xa0YLo, xa0YHi⟩⟩, xa1, xa2⟩ := x
  obtain ⟨⟨⟨ya0XLo, ya0XHi⟩, ⟨ya0YLo, ya0YHi⟩⟩, ya1, ya2⟩ := y
  simp_all
noncomputable def o27 (args : List A) : Option A := orcOf x27 (fun x => (G27 x.1 x.2.1 x.2.2).map fun y => (A.tup [(A.agg [(A.v (Value.int .i64 y.1.X.Lo)), (A.v (Value.int .i64 y.1.X.Hi)), (A.v (Value.int .i64 y.1.Y.Lo)), (A.v (Value.int .i64 y.1.Y.Hi))]), (A.v (Value.int .i64 y.2))])) args
theorem r32_C28 : Orc32 C28 := fun a0 a1 => (by kernel_rfl : _ = o32 (x32 (a0, a1))).trans (orcOf_eq _ ix32 (a0, a1))
theorem r34_C28 : Orc34 C28 := fun a0 => (by kernel_rfl : _ = o34 (x34 a0)).trans (orcOf_eq _ ix34 a0)
theorem ok27 (args : List A) (r : A) (h : o27 args = some r) : CallOK Tryd.prog (cx C0).glob 27 args r := by
  obtain ⟨x, rfl, hx⟩ := orcOf_ok h
  simp only [Option.map_eq_some_iff] at hx
  obtain ⟨y, hy, rfl⟩ := hx
  exact ok_J (f := fun (y : (S_Box × Int)) => (A.tup [(A.agg [(A.v (Value.int .i64 y.1.X.Lo)), (A.v (Value.int .i64 y.1.X.Hi)), (A.v (Value.int .i64 y.1.Y.Lo)), (A.v (Value.int .i64 y.1.Y.Hi))]), (A.v (Value.int .i64 y.2))])) orc_C28 (by kernel_rfl) (T27 C28 fuel0 (r32_C28) (r34_C28) x.1 x.2.1 x.2.2) hy
noncomputable def C29 : Nat → List A → Option A := upd C28 27 o27
theorem orc_C29 : OrcOK (cx C29) := orc_upd orc_C28 ok27
def x28 (x : S_Box × Int × Int) : List A := [(A.agg [(A.v (Value.int .i64 x.1.X.Lo)), (A.v (Value.int .i64 x.1.X.Hi)), (A.v (Value.int .i64 x.1.Y.Lo)), (A.v (Value.int .i64 x.1.Y.Hi))]), (A.v (Value.int .i64 x.2.1)), (A.v (Value.int .i64 x.2.2))]
theorem ix28 : Inj x28 := fun x y h => by
  simp only [x28, List.cons.injEq, A.v.injEq, A.agg.injEq, A.imm.injEq, Value.int.injEq, Value.bool.injEq, Value.string.injEq, and_true, true_and] at h
  obtain ⟨⟨⟨xa0XLo, xa0XHi⟩, ⟨xa0YLo, xa0YHi⟩⟩, xa1, xa2⟩ := x
  obtain ⟨⟨⟨ya0XLo, ya0XHi⟩, ⟨ya0YLo, ya0YHi⟩⟩, ya1, ya2⟩ := y
  simp_all
noncomputable def o28 (args : List A) : Option A := orcOf x28 (fun x => (G28 x.1 x.2.1 x.2.2).map fun y => (A.tup [(A.agg [(A.v (Value.int .i64 y.1.X.Lo)), (A.v (Value.int .i64 y.1.X.Hi)), (A.v (Value.int .i64 y.1.Y.Lo)), (A.v (Value.int .i64 y.1.Y.Hi))]), (A.v (Value.int .i64 y.2))])) args
theorem r35_C29 : Orc35 C29 := fun a0 => (by kernel_rfl : _ = o35 (x35 a0)).trans (orcOf_eq _ ix35 a0)
theorem r42_C29 : Orc42 C29 := fun a0 a1 => (by kernel_rfl : _ = o42 (x42 (a0, a1))).trans (orcOf_eq _ ix42 (a0, a1))
theorem ok28 (args : List A) (r : A) (h : o28 args = some r) : CallOK Tryd.prog (cx C0).glob 28 args r := by
  obtain ⟨x, rfl, hx⟩ := orcOf_ok h
  simp only [Option.map_eq_some_iff] at hx
  obtain ⟨y, hy, rfl⟩ := hx
  exact ok_J (f := fun (y : (S_Box × Int)) => (A.tup [(A.agg [(A.v (Value.int .i64 y.1.X.Lo)), (A.v (Value.int .i64 y.1.X.Hi)), (A.v (Value.int .i64 y.1.Y.Lo)), (A.v (Value.int .i64 y.1.Y.Hi))]), (A.v (Value.int .i64 y.2))])) orc_C29 (by kernel_rfl) (T28 C29 fuel0 (r35_C29) (r42_C29) x.1 x.2.1 x.2.2) hy
noncomputable def C30 : Nat → List A → Option A := upd C29 28 o28
theorem orc_C30 : OrcOK (cx C30) := orc_upd orc_C29 ok28
def x30 (x : Int × Int × Int × Int) : List A := [(A.v (Value.int .i64 x.1)), (A.v (Value.int .i64 x.2.1)), (A.v (Value.int .i64 x.2.2.1)), (A.v (Value.int .i64 x.2.2.2))]
theorem ix30 : Inj x30 := fun x y h => by
  simp only [x30, List.cons.injEq, A.v.injEq, A.agg.injEq, A.imm.injEq, Value.int.injEq, Value.bool.injEq, Value.string.injEq, and_true, true_and] at h
  obtain ⟨xa0, xa1, xa2, xa3⟩ := x
  obtain ⟨ya0, ya1, ya2, ya3⟩ := y
  simp_all
noncomputable def o30 (args : List A) : Option A := orcOf x30 (fun x => (G30 x.1 x.2.1 x.2.2.1 x.2.2.2).map fun y => (A.agg [(A.v (Value.int .i64 y.X.Lo)), (A.v (Value.int .i64 y.X.Hi)), (A.v (Value.int .i64 y.Y.Lo)), (A.v (Value.int .i64 y.Y.Hi))])) args
theorem ok30 (args : List A) (r : A) (h : o30 args = some r) : CallOK Tryd.prog (cx C0).glob 30 args r := by
  obtain ⟨x, rfl, hx⟩ := orcOf_ok h
  simp only [Option.map_eq_some_iff] at hx
  obtain ⟨y, hy, rfl⟩ := hx
  exact ok_J (f := fun (y : S_Box) => (A.agg [(A.v (Value.int .i64 y.X.Lo)), (A.v (Value.int .i64 y.X.Hi)), (A.v (Value.int .i64 y.Y.Lo)), (A.v (Value.int .i64 y.Y.Hi))])) orc_C30 (by kernel_rfl) (T30 C30 fuel0  x.1 x.2.1 x.2.2.1 x.2.2.2) hy
noncomputable def C31 : Nat → List A → Option A := upd C30 30 o30
theorem orc_C31 : OrcOK (cx C31) := orc_upd orc_C30 ok30
def x29 (x : Int × Int) : List A := [(A.v (Value.int .i64 x.1)), (A.v (Value.int .i64 x.2))]
theorem ix29 : Inj x29 := fun x y h => by
  simp only [x29, List.cons.injEq, A.v.injEq, A.agg.injEq, A.imm.injEq, Value.int.injEq, Value.bool.injEq, Value.string.injEq, and_true, true_and] at h
  obtain ⟨xa0, xa1⟩ := x
  obtain ⟨ya0, ya1⟩ := y
  simp_all
noncomputable def o29 (args : List A) : Option A := orcOf x29 (fun x => (G29 x.1 x.2).map fun y => (A.tup [(A.agg [(A.v (Value.int .i64 y.1.X)), (A.v (Value.int .i64 y.1.Y)), (A.v (Value.int .i64 y.1.Z))]), (A.v (Value.bool y.2))])) args
theorem r11_C31 : Orc11 C31 := fun a0 a1 => (by kernel_rfl : _ = o11 (x11 (a0, a1))).trans (orcOf_eq _ ix11 (a0, a1))
theorem ok29 (args : List A) (r : A) (h : o29 args = some r) : CallOK Tryd.prog (cx C0).glob 29 args r := by
  obtain ⟨x, rfl, hx⟩ := orcOf_ok h
  simp only [Option.map_eq_some_iff] at hx
  obtain ⟨y, hy, rfl⟩ := hx
  exact ok_J (f := fun (y : (S_Vec × Bool)) => (A.tup [(A.agg [(A.v (Value.int .i64 y.1.X)), (A.v (Value.int .i64 y.1.Y)), (A.v (Value.int .i64 y.1.Z))]), (A.v (Value.bool y.2))])) orc_C31 (by kernel_rfl) (T29 C31 fuel0 (r11_C31) x.1 x.2) hy
noncomputable def C32 : Nat → List A → Option A := upd C31 29 o29
theorem orc_C32 : OrcOK (cx C32) := orc_upd orc_C31 ok29
def x10 (x : Unit) : List A := []
theorem ix10 : Inj x10 := fun _ _ _ => rfl
noncomputable def o10 (args : List A) : Option A := orcOf x10 (fun x => (G10 ).map fun y => (A.v (Value.bool y))) args
theorem r11_C32 : Orc11 C32 := fun a0 a1 => (by kernel_rfl : _ = o11 (x11 (a0, a1))).trans (orcOf_eq _ ix11 (a0, a1))
theorem r13_C32 : Orc13 C32 := fun a0 => (by kernel_rfl : _ = o13 (x13 a0)).trans (orcOf_eq _ ix13 a0)
theorem r15_C32 : Orc15 C32 := fun a0 a1 => (by kernel_rfl : _ = o15 (x15 (a0, a1))).trans (orcOf_eq _ ix15 (a0, a1))
theorem r17_C32 : Orc17 C32 := fun a0 => (by kernel_rfl : _ = o17 (x17 a0)).trans (orcOf_eq _ ix17 a0)
theorem r19_C32 : Orc19 C32 := fun a0 a1 => (by kernel_rfl : _ = o19 (x19 (a0, a1))).trans (orcOf_eq _ ix19 (a0, a1))
theorem r21_C32 : Orc21 C32 := fun a0 a1 => (by kernel_rfl : _ = o21 (x21 (a0, a1))).trans (orcOf_eq _ ix21 (a0, a1))
theorem r23_C32 : Orc23 C32 := fun a0 a1 => (by kernel_rfl : _ = o23 (x23 (a0, a1))).trans (orcOf_eq _ ix23 (a0, a1))
theorem r25_C32 : Orc25 C32 := fun a0 a1 => (by kernel_rfl : _ = o25 (x25 (a0, a1))).trans (orcOf_eq _ ix25 (a0, a1))
theorem r27_C32 : Orc27 C32 := fun a0 a1 a2 => (by kernel_rfl : _ = o27 (x27 (a0, a1, a2))).trans (orcOf_eq _ ix27 (a0, a1, a2))
theorem r30_C32 : Orc30 C32 := fun a0 a1 a2 a3 => (by kernel_rfl : _ = o30 (x30 (a0, a1, a2, a3))).trans (orcOf_eq _ ix30 (a0, a1, a2, a3))
theorem ok10 (args : List A) (r : A) (h : o10 args = some r) : CallOK Tryd.prog (cx C0).glob 10 args r := by
  obtain ⟨x, rfl, hx⟩ := orcOf_ok h
  simp only [Option.map_eq_some_iff] at hx
  obtain ⟨y, hy, rfl⟩ := hx
  exact ok_J (f := fun (y : Bool) => (A.v (Value.bool y))) orc_C32 (by kernel_rfl) (T10 C32 fuel0 (r11_C32) (r13_C32) (r15_C32) (r17_C32) (r19_C32) (r21_C32) (r23_C32) (r25_C32) (r27_C32) (r30_C32) ) hy
noncomputable def C33 : Nat → List A → Option A := upd C32 10 o10
theorem orc_C33 : OrcOK (cx C33) := orc_upd orc_C32 ok10
def x3 (x : Int × Int) : List A := [(A.v (Value.int .i64 x.1)), (A.v (Value.int .i64 x.2))]
theorem ix3 : Inj x3 := fun x y h => by
  simp only [x3, List.cons.injEq, A.v.injEq, A.agg.injEq, A.imm.injEq, Value.int.injEq, Value.bool.injEq, Value.string.injEq, and_true, true_and] at h
  obtain ⟨xa0, xa1⟩ := x
  obtain ⟨ya0, ya1⟩ := y
  simp_all
noncomputable def o3 (args : List A) : Option A := orcOf x3 (fun x => (G3 x.1 x.2).map fun y => (A.v (Value.bool y))) args
theorem r10_C33 : Orc10 C33 := fun _ => (by kernel_rfl : _ = o10 (x10 ())).trans (orcOf_eq _ ix10 ())
theorem r11_C33 : Orc11 C33 := fun a0 a1 => (by kernel_rfl : _ = o11 (x11 (a0, a1))).trans (orcOf_eq _ ix11 (a0, a1))
theorem r12_C33 : Orc12 C33 := fun a0 a1 => (by kernel_rfl : _ = o12 (x12 (a0, a1))).trans (orcOf_eq _ ix12 (a0, a1))
theorem r13_C33 : Orc13 C33 := fun a0 => (by kernel_rfl : _ = o13 (x13 a0)).trans (orcOf_eq _ ix13 a0)
theorem r14_C33 : Orc14 C33 := fun a0 => (by kernel_rfl : _ = o14 (x14 a0)).trans (orcOf_eq _ ix14 a0)
theorem r15_C33 : Orc15 C33 := fun a0 a1 => (by kernel_rfl : _ = o15 (x15 (a0, a1))).trans (orcOf_eq _ ix15 (a0, a1))
theorem r16_C33 : Orc16 C33 := fun a0 a1 => (by kernel_rfl : _ = o16 (x16 (a0, a1))).trans (orcOf_eq _ ix16 (a0, a1))
theorem r17_C33 : Orc17 C33 := fun a0 => (by kernel_rfl : _ = o17 (x17 a0)).trans (orcOf_eq _ ix17 a0)
theorem r18_C33 : Orc18 C33 := fun a0 => (by kernel_rfl : _ = o18 (x18 a0)).trans (orcOf_eq _ ix18 a0)
theorem ok3 (args : List A) (r : A) (h : o3 args = some r) : CallOK Tryd.prog (cx C0).glob 3 args r := by
  obtain ⟨x, rfl, hx⟩ := orcOf_ok h
  simp only [Option.map_eq_some_iff] at hx
  obtain ⟨y, hy, rfl⟩ := hx
  exact ok_J (f := fun (y : Bool) => (A.v (Value.bool y))) orc_C33 (by kernel_rfl) (T3 C33 fuel0 (r10_C33) (r11_C33) (r12_C33) (r13_C33) (r14_C33) (r15_C33) (r16_C33) (r17_C33) (r18_C33) x.1 x.2) hy
noncomputable def C34 : Nat → List A → Option A := upd C33 3 o3
theorem orc_C34 : OrcOK (cx C34) := orc_upd orc_C33 ok3
def x4 (x : S_Vec × S_Vec × S_Box × S_Box × Int × Int) : List A := [(A.agg [(A.v (Value.int .i64 x.1.X)), (A.v (Value.int .i64 x.1.Y)), (A.v (Value.int .i64 x.1.Z))]), (A.agg [(A.v (Value.int .i64 x.2.1.X)), (A.v (Value.int .i64 x.2.1.Y)), (A.v (Value.int .i64 x.2.1.Z))]), (A.agg [(A.v (Value.int .i64 x.2.2.1.X.Lo)), (A.v (Value.int .i64 x.2.2.1.X.Hi)), (A.v (Value.int .i64 x.2.2.1.Y.Lo)), (A.v (Value.int .i64 x.2.2.1.Y.Hi))]), (A.agg [(A.v (Value.int .i64 x.2.2.2.1.X.Lo)), (A.v (Value.int .i64 x.2.2.2.1.X.Hi)), (A.v (Value.int .i64 x.2.2.2.1.Y.Lo)), (A.v (Value.int .i64 x.2.2.2.1.Y.Hi))]), (A.v (Value.int .i64 x.2.2.2.2.1)), (A.v (Value.int .i64 x.2.2.2.2.2))]
theorem ix4 : Inj x4 := fun x y h => by
  simp only [x4, List.cons.injEq, A.v.injEq, A.agg.injEq, A.imm.injEq, Value.int.injEq, Value.bool.injEq, Value.string.injEq, and_true, true_and] at h
  obtain ⟨⟨xa0X, xa0Y, xa0Z⟩, ⟨xa1X, xa1Y, xa1Z⟩, ⟨⟨xa2XLo, xa2XHi⟩, ⟨xa2YLo, xa2YHi⟩⟩, ⟨⟨xa3XLo, xa3XHi⟩, ⟨xa3YLo, xa3YHi⟩⟩, xa4, xa5⟩ := x
  obtain ⟨⟨ya0X, ya0Y, ya0Z⟩, ⟨ya1X, ya1Y, ya1Z⟩, ⟨⟨ya2XLo, ya2XHi⟩, ⟨ya2YLo, ya2YHi⟩⟩, ⟨⟨ya3XLo, ya3XHi⟩, ⟨ya3YLo, ya3YHi⟩⟩, ya4, ya5⟩ := y
  simp_all
noncomputable def o4 (args : List A) : Option A := orcOf x4 (fun x => (G4 x.1 x.2.1 x.2.2.1 x.2.2.2.1 x.2.2.2.2.1 x.2.2.2.2.2).map fun y => (A.v (Value.bool y))) args
theorem r10_C34 : Orc10 C34 := fun _ => (by kernel_rfl : _ = o10 (x10 ())).trans (orcOf_eq _ ix10 ())
theorem r19_C34 : Orc19 C34 := fun a0 a1 => (by kernel_rfl : _ = o19 (x19 (a0, a1))).trans (orcOf_eq _ ix19 (a0, a1))
theorem r20_C34 : Orc20 C34 := fun a0 a1 => (by kernel_rfl : _ = o20 (x20 (a0, a1))).trans (orcOf_eq _ ix20 (a0, a1))
theorem r21_C34 : Orc21 C34 := fun a0 a1 => (by kernel_rfl : _ = o21 (x21 (a0, a1))).trans (orcOf_eq _ ix21 (a0, a1))
theorem r22_C34 : Orc22 C34 := fun a0 a1 => (by kernel_rfl : _ = o22 (x22 (a0, a1))).trans (orcOf_eq _ ix22 (a0, a1))
theorem r23_C34 : Orc23 C34 := fun a0 a1 => (by kernel_rfl : _ = o23 (x23 (a0, a1))).trans (orcOf_eq _ ix23 (a0, a1))
theorem r24_C34 : Orc24 C34 := fun a0 a1 => (by kernel_rfl : _ = o24 (x24 (a0, a1))).trans (orcOf_eq _ ix24 (a0, a1))
theorem r25_C34 : Orc25 C34 := fun a0 a1 => (by kernel_rfl : _ = o25 (x25 (a0, a1))).trans (orcOf_eq _ ix25 (a0, a1))
theorem r26_C34 : Orc26 C34 := fun a0 a1 => (by kernel_rfl : _ = o26 (x26 (a0, a1))).trans (orcOf_eq _ ix26 (a0, a1))
theorem r27_C34 : Orc27 C34 := fun a0 a1 a2 => (by kernel_rfl : _ = o27 (x27 (a0, a1, a2))).trans (orcOf_eq _ ix27 (a0, a1, a2))
theorem r28_C34 : Orc28 C34 := fun a0 a1 a2 => (by kernel_rfl : _ = o28 (x28 (a0, a1, a2))).trans (orcOf_eq _ ix28 (a0, a1, a2))
theorem ok4 (args : List A) (r : A) (h : o4 args = some r) : CallOK Tryd.prog (cx C0).glob 4 args r := by
  obtain ⟨x, rfl, hx⟩ := orcOf_ok h
  simp only [Option.map_eq_some_iff] at hx
  obtain ⟨y, hy, rfl⟩ := hx
  exact ok_J (f := fun (y : Bool) => (A.v (Value.bool y))) orc_C34 (by kernel_rfl) (T4 C34 fuel0 (r10_C34) (r19_C34) (r20_C34) (r21_C34) (r22_C34) (r23_C34) (r24_C34) (r25_C34) (r26_C34) (r27_C34) (r28_C34) x.1 x.2.1 x.2.2.1 x.2.2.2.1 x.2.2.2.2.1 x.2.2.2.2.2) hy
noncomputable def C35 : Nat → List A → Option A := upd C34 4 o4
theorem orc_C35 : OrcOK (cx C35) := orc_upd orc_C34 ok4
def x5 (x : Int × Int × Int × Int) : List A := [(A.v (Value.int .u8 x.1)), (A.v (Value.int .u8 x.2.1)), (A.v (Value.int .u8 x.2.2.1)), (A.v (Value.int .u8 x.2.2.2))]
theorem ix5 : Inj x5 := fun x y h => by
  simp only [x5, List.cons.injEq, A.v.injEq, A.agg.injEq, A.imm.injEq, Value.int.injEq, Value.bool.injEq, Value.string.injEq, and_true, true_and] at h
  obtain ⟨xa0, xa1, xa2, xa3⟩ := x
  obtain ⟨ya0, ya1, ya2, ya3⟩ := y
  simp_all
noncomputable def o5 (args : List A) : Option A := orcOf x5 (fun x => (G5 x.1 x.2.1 x.2.2.1 x.2.2.2).map fun y => (A.v (Value.bool y))) args
theorem r10_C35 : Orc10 C35 := fun _ => (by kernel_rfl : _ = o10 (x10 ())).trans (orcOf_eq _ ix10 ())
theorem r15_C35 : Orc15 C35 := fun a0 a1 => (by kernel_rfl : _ = o15 (x15 (a0, a1))).trans (orcOf_eq _ ix15 (a0, a1))
theorem r19_C35 : Orc19 C35 := fun a0 a1 => (by kernel_rfl : _ = o19 (x19 (a0, a1))).trans (orcOf_eq _ ix19 (a0, a1))
theorem r29_C35 : Orc29 C35 := fun a0 a1 => (by kernel_rfl : _ = o29 (x29 (a0, a1))).trans (orcOf_eq _ ix29 (a0, a1))
theorem ok5 (args : List A) (r : A) (h : o5 args = some r) : CallOK Tryd.prog (cx C0).glob 5 args r := by
  obtain ⟨x, rfl, hx⟩ := orcOf_ok h
  simp only [Option.map_eq_some_iff] at hx
  obtain ⟨y, hy, rfl⟩ := hx
  exact ok_J (f := fun (y : Bool) => (A.v (Value.bool y))) orc_C35 (by kernel_rfl) (T5 C35 fuel0 (r10_C35) (r15_C35) (r19_C35) (r29_C35) x.1 x.2.1 x.2.2.1 x.2.2.2) hy
noncomputable def C36 : Nat → List A → Option A := upd C35 5 o5
theorem orc_C36 : OrcOK (cx C36) := orc_upd orc_C35 ok5
def x6 (x : Int × Int × Int × Int) : List A := [(A.v (Value.int .u8 x.1)), (A.v (Value.int .u8 x.2.1)), (A.v (Value.int .u8 x.2.2.1)), (A.v (Value.int .u8 x.2.2.2))]
theorem ix6 : Inj x6 := fun x y h => by
  simp only [x6, List.cons.injEq, A.v.injEq, A.agg.injEq, A.imm.injEq, Value.int.injEq, Value.bool.injEq, Value.string.injEq, and_true, true_and] at h
  obtain ⟨xa0, xa1, xa2, xa3⟩ := x
  obtain ⟨ya0, ya1, ya2, ya3⟩ := y
  simp_all
noncomputable def o6 (args : List A) : Option A := orcOf x6 (fun x => (G6 x.1 x.2.1 x.2.2.1 x.2.2.2).map fun y => (A.v (Value.bool y))) args
theorem r10_C36 : Orc10 C36 := fun _ => (by kernel_rfl : _ = o10 (x10 ())).trans (orcOf_eq _ ix10 ())
theorem r15_C36 : Orc15 C36 := fun a0 a1 => (by kernel_rfl : _ = o15 (x15 (a0, a1))).trans (orcOf_eq _ ix15 (a0, a1))
theorem r17_C36 : Orc17 C36 := fun a0 => (by kernel_rfl : _ = o17 (x17 a0)).trans (orcOf_eq _ ix17 a0)
theorem r29_C36 : Orc29 C36 := fun a0 a1 => (by kernel_rfl : _ = o29 (x29 (a0, a1))).trans (orcOf_eq _ ix29 (a0, a1))
theorem ok6 (args : List A) (r : A) (h : o6 args = some r) : CallOK Tryd.prog (cx C0).glob 6 args r := by
  obtain ⟨x, rfl, hx⟩ := orcOf_ok h
  simp only [Option.map_eq_some_iff] at hx
  obtain ⟨y, hy, rfl⟩ := hx
  exact ok_J (f := fun (y : Bool) => (A.v (Value.bool y))) orc_C36 (by kernel_rfl) (T6 C36 fuel0 (r10_C36) (r15_C36) (r17_C36) (r29_C36) x.1 x.2.1 x.2.2.1 x.2.2.2) hy
noncomputable def C37 : Nat → List A → Option A := upd C36 6 o6
theorem orc_C37 : OrcOK (cx C37) := orc_upd orc_C36 ok6
def x7 (x : S_Vec × S_Vec × S_Vec × Int × Int × Int × Int) : List A := [(A.agg [(A.v (Value.int .i64 x.1.X)), (A.v (Value.int .i64 x.1.Y)), (A.v (Value.int .i64 x.1.Z))]), (A.agg [(A.v (Value.int .i64 x.2.1.X)), (A.v (Value.int .i64 x.2.1.Y)), (A.v (Value.int .i64 x.2.1.Z))]), (A.agg [(A.v (Value.int .i64 x.2.2.1.X)), (A.v (Value.int .i64 x.2.2.1.Y)), (A.v (Value.int .i64 x.2.2.1.Z))]), (A.v (Value.int .u8 x.2.2.2.1)), (A.v (Value.int .u8 x.2.2.2.2.1)), (A.v (Value.int .u8 x.2.2.2.2.2.1)), (A.v (Value.int .u8 x.2.2.2.2.2.2))]
theorem ix7 : Inj x7 := fun x y h => by
  simp only [x7, List.cons.injEq, A.v.injEq, A.agg.injEq, A.imm.injEq, Value.int.injEq, Value.bool.injEq, Value.string.injEq, and_true, true_and] at h
  obtain ⟨⟨xa0X, xa0Y, xa0Z⟩, ⟨xa1X, xa1Y, xa1Z⟩, ⟨xa2X, xa2Y, xa2Z⟩, xa3, xa4, xa5, xa6⟩ := x
  obtain ⟨⟨ya0X, ya0Y, ya0Z⟩, ⟨ya1X, ya1Y, ya1Z⟩, ⟨ya2X, ya2Y, ya2Z⟩, ya3, ya4, ya5, ya6⟩ := y
  simp_all
noncomputable def o7 (args : List A) : Option A := orcOf x7 (fun x => (G7 x.1 x.2.1 x.2.2.1 x.2.2.2.1 x.2.2.2.2.1 x.2.2.2.2.2.1 x.2.2.2.2.2.2).map fun y => (A.v (Value.bool y))) args
theorem r10_C37 : Orc10 C37 := fun _ => (by kernel_rfl : _ = o10 (x10 ())).trans (orcOf_eq _ ix10 ())
theorem r19_C37 : Orc19 C37 := fun a0 a1 => (by kernel_rfl : _ = o19 (x19 (a0, a1))).trans (orcOf_eq _ ix19 (a0, a1))
theorem r29_C37 : Orc29 C37 := fun a0 a1 => (by kernel_rfl : _ = o29 (x29 (a0, a1))).trans (orcOf_eq _ ix29 (a0, a1))
theorem ok7 (args : List A) (r : A) (h : o7 args = some r) : CallOK Tryd.prog (cx C0).glob 7 args r := by
  obtain ⟨x, rfl, hx⟩ := orcOf_ok h
  simp only [Option.map_eq_some_iff] at hx
  obtain ⟨y, hy, rfl⟩ := hx
  exact ok_J (f := fun (y : Bool) => (A.v (Value.bool y))) orc_C37 (by kernel_rfl) (T7 C37 fuel0 (r10_C37) (r19_C37) (r29_C37) x.1 x.2.1 x.2.2.1 x.2.2.2.1 x.2.2.2.2.1 x.2.2.2.2.2.1 x.2.2.2.2.2.2) hy
noncomputable def C38 : Nat → List A → Option A := upd C37 7 o7
theorem orc_C38 : OrcOK (cx C38) := orc_upd orc_C37 ok7
def x8 (x : S_Box × S_Box × S_Box) : List A := [(A.agg [(A.v (Value.int .i64 x.1.X.Lo)), (A.v (Value.int .i64 x.1.X.Hi)), (A.v (Value.int .i64 x.1.Y.Lo)), (A.v (Value.int .i64 x.1.Y.Hi))]), (A.agg [(A.v (Value.int .i64 x.2.1.X.Lo)), (A.v (Value.int .i64 x.2.1.X.Hi)), (A.v (Value.int .i64 x.2.1.Y.Lo)), (A.v (Value.int .i64 x.2.1.Y.Hi))]), (A.agg [(A.v (Value.int .i64 x.2.2.X.Lo)), (A.v (Value.int .i64 x.2.2.X.Hi)), (A.v (Value.int .i64 x.2.2.Y.Lo)), (A.v (Value.int .i64 x.2.2.Y.Hi))])]
theorem ix8 : Inj x8 := fun x y h => by
  simp only [x8, List.cons.injEq, A.v.injEq, A.agg.injEq, A.imm.injEq, Value.int.injEq, Value.bool.injEq, Value.string.injEq, and_true, true_and] at h
  obtain ⟨⟨⟨xa0XLo, xa0XHi⟩, ⟨xa0YLo, xa0YHi⟩⟩, ⟨⟨xa1XLo, xa1XHi⟩, ⟨xa1YLo, xa1YHi⟩⟩, ⟨⟨xa2XLo, xa2XHi⟩, ⟨xa2YLo, xa2YHi⟩⟩⟩ := x
  obtain ⟨⟨⟨ya0XLo, ya0XHi⟩, ⟨ya0YLo, ya0YHi⟩⟩, ⟨⟨ya1XLo, ya1XHi⟩, ⟨ya1YLo, ya1YHi⟩⟩, ⟨⟨ya2XLo, ya2XHi⟩, ⟨ya2YLo, ya2YHi⟩⟩⟩ := y
  simp_all
noncomputable def o8 (args : List A) : Option A := orcOf x8 (fun x => (G8 x.1 x.2.1 x.2.2).map fun y => (A.v (Value.bool y))) args
theorem r10_C38 : Orc10 C38 := fun _ => (by kernel_rfl : _ = o10 (x10 ())).trans (orcOf_eq _ ix10 ())
theorem r21_C38 : Orc21 C38 := fun a0 a1 => (by kernel_rfl : _ = o21 (x21 (a0, a1))).trans (orcOf_eq _ ix21 (a0, a1))
theorem r23_C38 : Orc23 C38 := fun a0 a1 => (by kernel_rfl : _ = o23 (x23 (a0, a1))).trans (orcOf_eq _ ix23 (a0, a1))
theorem r25_C38 : Orc25 C38 := fun a0 a1 => (by kernel_rfl : _ = o25 (x25 (a0, a1))).trans (orcOf_eq _ ix25 (a0, a1))
theorem ok8 (args : List A) (r : A) (h : o8 args = some r) : CallOK Tryd.prog (cx C0).glob 8 args r := by
  obtain ⟨x, rfl, hx⟩ := orcOf_ok h
  simp only [Option.map_eq_some_iff] at hx
  obtain ⟨y, hy, rfl⟩ := hx
  exact ok_J (f := fun (y : Bool) => (A.v (Value.bool y))) orc_C38 (by kernel_rfl) (T8 C38 fuel0 (r10_C38) (r21_C38) (r23_C38) (r25_C38) x.1 x.2.1 x.2.2) hy
noncomputable def C39 : Nat → List A → Option A := upd C38 8 o8
theorem orc_C39 : OrcOK (cx C39) := orc_upd orc_C38 ok8
def x9 (x : S_Box × S_Box × Int × Int) : List A := [(A.agg [(A.v (Value.int .i64 x.1.X.Lo)), (A.v (Value.int .i64 x.1.X.Hi)), (A.v (Value.int .i64 x.1.Y.Lo)), (A.v (Value.int .i64 x.1.Y.Hi))]), (A.agg [(A.v (Value.int .i64 x.2.1.X.Lo)), (A.v (Value.int .i64 x.2.1.X.Hi)), (A.v (Value.int .i64 x.2.1.Y.Lo)), (A.v (Value.int .i64 x.2.1.Y.Hi))]), (A.v (Value.int .i64 x.2.2.1)), (A.v (Value.int .i64 x.2.2.2))]
theorem ix9 : Inj x9 := fun x y h => by
  simp only [x9, List.cons.injEq, A.v.injEq, A.agg.injEq, A.imm.injEq, Value.int.injEq, Value.bool.injEq, Value.string.injEq, and_true, true_and] at h
  obtain ⟨⟨⟨xa0XLo, xa0XHi⟩, ⟨xa0YLo, xa0YHi⟩⟩, ⟨⟨xa1XLo, xa1XHi⟩, ⟨xa1YLo, xa1YHi⟩⟩, xa2, xa3⟩ := x
  obtain ⟨⟨⟨ya0XLo, ya0XHi⟩, ⟨ya0YLo, ya0YHi⟩⟩, ⟨⟨ya1XLo, ya1XHi⟩, ⟨ya1YLo, ya1YHi⟩⟩, ya2, ya3⟩ := y
  simp_all
noncomputable def o9 (args : List A) : Option A := orcOf x9 (fun x => (G9 x.1 x.2.1 x.2.2.1 x.2.2.2).map fun y => (A.v (Value.bool y))) args
theorem r10_C39 : Orc10 C39 := fun _ => (by kernel_rfl : _ = o10 (x10 ())).trans (orcOf_eq _ ix10 ())
theorem r23_C39 : Orc23 C39 := fun a0 a1 => (by kernel_rfl : _ = o23 (x23 (a0, a1))).trans (orcOf_eq _ ix23 (a0, a1))
theorem r25_C39 : Orc25 C39 := fun a0 a1 => (by kernel_rfl : _ = o25 (x25 (a0, a1))).trans (orcOf_eq _ ix25 (a0, a1))
theorem r27_C39 : Orc27 C39 := fun a0 a1 a2 => (by kernel_rfl : _ = o27 (x27 (a0, a1, a2))).trans (orcOf_eq _ ix27 (a0, a1, a2))
theorem ok9 (args : List A) (r : A) (h : o9 args = some r) : CallOK Tryd.prog (cx C0).glob 9 args r := by
  obtain ⟨x, rfl, hx⟩ := orcOf_ok h
  simp only [Option.map_eq_some_iff] at hx
  obtain ⟨y, hy, rfl⟩ := hx
  exact ok_J (f := fun (y : Bool) => (A.v (Value.bool y))) orc_C39 (by kernel_rfl) (T9 C39 fuel0 (r10_C39) (r23_C39) (r25_C39) (r27_C39) x.1 x.2.1 x.2.2.1 x.2.2.2) hy
noncomputable def C40 : Nat → List A → Option A := upd C39 9 o9
theorem orc_C40 : OrcOK (cx C40) := orc_upd orc_C39 ok9
end Go.Proofs.YtmhnhokhlkppeaaDoor
