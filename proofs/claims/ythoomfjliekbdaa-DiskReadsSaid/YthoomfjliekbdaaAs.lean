/-
  What is proved of the functions, put together: by a tool.
-/
import Derived.Test.YthoomfjliekbdaaT
namespace Go.Proofs.Ythoomfjliekbdaa
set_option linter.unusedVariables false
set_option linter.unusedSimpArgs false
set_option maxHeartbeats 4000000
set_option maxRecDepth 100000
/-! ### Put together -/
theorem in_S_Write : Inj c_S_Write := fun x y h => by
  obtain ⟨xAt, xData⟩ := x; obtain ⟨yAt, yData⟩ := y
  simp only [c_S_Write, List.cons.injEq, A.v.injEq, A.imm.injEq, Value.int.injEq, Value.bool.injEq, Value.string.injEq, and_true, true_and, map_inj (in_c8)] at h
  simp_all

theorem in_S_Disk : Inj c_S_Disk := fun x y h => by
  obtain ⟨xSectors, xPending, xLeft, xStopped⟩ := x; obtain ⟨ySectors, yPending, yLeft, yStopped⟩ := y
  simp only [c_S_Disk, List.cons.injEq, A.v.injEq, A.imm.injEq, Value.int.injEq, Value.bool.injEq, Value.string.injEq, and_true, true_and, map_inj (in_cL (in_c8)), map_inj (in_c8), map_inj (in_S_Write)] at h
  simp_all

theorem in_S_kinespherelaw04_Act : Inj c_S_kinespherelaw04_Act := fun x y h => by
  obtain ⟨xSync, xAt, xByte⟩ := x; obtain ⟨ySync, yAt, yByte⟩ := y
  simp only [c_S_kinespherelaw04_Act, List.cons.injEq, A.v.injEq, A.imm.injEq, Value.int.injEq, Value.bool.injEq, Value.string.injEq, and_true, true_and] at h
  simp_all

noncomputable def C0 : Nat → List A → Option A := fun _ _ => none
theorem orc0 : OrcOK (cx C0) := fun k args r _ h => (by cases h)
theorem orc_upd {C : Nat → List A → Option A} {k : Nat} {c : List A → Option A} (h : OrcOK (cx C)) (hc : ∀ args r, c args = some r → CallOK Try.prog (cx C0).glob k args r) : OrcOK (cx (upd C k c)) := fun j args r hi hr => by
  simp only [cx, upd] at hr
  rw [bcond] at hr
  split at hr
  · rename_i hj
    rw [Nat.eq_of_beq_eq_true hj]; exact hc args r hr
  · exact h j args r hi hr
def x48 (x : Int × Int) : List A := [(A.v (Value.int .u64 x.1)), (A.v (Value.int .u64 x.2))]
theorem ix48 : Inj x48 := fun x y h => by
  simp only [x48, List.cons.injEq, A.v.injEq, A.agg.injEq, A.imm.injEq, Value.int.injEq, Value.bool.injEq, Value.string.injEq, and_true, true_and] at h
  obtain ⟨xa0, xa1⟩ := x
  obtain ⟨ya0, ya1⟩ := y
  simp_all
noncomputable def o48 (args : List A) : Option A := orcOf x48 (fun x => (G48 x.1 x.2).map fun y => (A.tup [(A.v (Value.int .u64 y.1)), (A.v (Value.int .u64 y.2))])) args
theorem ok48 (args : List A) (r : A) (h : o48 args = some r) : CallOK Try.prog (cx C0).glob 48 args r := by
  obtain ⟨x, rfl, hx⟩ := orcOf_ok h
  simp only [Option.map_eq_some_iff] at hx
  obtain ⟨y, hy, rfl⟩ := hx
  exact ok_J (f := fun (y : (Int × Int)) => (A.tup [(A.v (Value.int .u64 y.1)), (A.v (Value.int .u64 y.2))])) orc0 (by kernel_rfl) (T48 C0 fuel0  x.1 x.2) hy
noncomputable def C1 : Nat → List A → Option A := upd C0 48 o48
theorem orc_C1 : OrcOK (cx C1) := orc_upd orc0 ok48
def x42 (x : Int × Int) : List A := [(A.v (Value.int .u64 x.1)), (A.v (Value.int .u64 x.2))]
theorem ix42 : Inj x42 := fun x y h => by
  simp only [x42, List.cons.injEq, A.v.injEq, A.agg.injEq, A.imm.injEq, Value.int.injEq, Value.bool.injEq, Value.string.injEq, and_true, true_and] at h
  obtain ⟨xa0, xa1⟩ := x
  obtain ⟨ya0, ya1⟩ := y
  simp_all
noncomputable def o42 (args : List A) : Option A := orcOf x42 (fun x => (G42 x.1 x.2).map fun y => (A.tup [(A.v (Value.int .u64 y.1)), (A.v (Value.int .u64 y.2))])) args
theorem r48_C1 : Orc48 C1 := fun a0 a1 => (by kernel_rfl : _ = o48 (x48 (a0, a1))).trans (orcOf_eq _ ix48 (a0, a1))
theorem ok42 (args : List A) (r : A) (h : o42 args = some r) : CallOK Try.prog (cx C0).glob 42 args r := by
  obtain ⟨x, rfl, hx⟩ := orcOf_ok h
  simp only [Option.map_eq_some_iff] at hx
  obtain ⟨y, hy, rfl⟩ := hx
  exact ok_J (f := fun (y : (Int × Int)) => (A.tup [(A.v (Value.int .u64 y.1)), (A.v (Value.int .u64 y.2))])) orc_C1 (by kernel_rfl) (T42 C1 fuel0 (r48_C1) x.1 x.2) hy
noncomputable def C2 : Nat → List A → Option A := upd C1 42 o42
theorem orc_C2 : OrcOK (cx C2) := orc_upd orc_C1 ok42
def x29 (x : (List (List UInt8)) × Int) : List A := [(A.imm (List.map (cL c8) x.1) false), (A.v (Value.int .i64 x.2))]
theorem ix29 : Inj x29 := fun x y h => by
  simp only [x29, List.cons.injEq, A.v.injEq, A.agg.injEq, A.imm.injEq, Value.int.injEq, Value.bool.injEq, Value.string.injEq, and_true, true_and, map_inj (in_c8), map_inj (in_cL (in_c8))] at h
  obtain ⟨xa0, xa1⟩ := x
  obtain ⟨ya0, ya1⟩ := y
  simp_all
noncomputable def o29 (args : List A) : Option A := orcOf x29 (fun x => (G29 x.1 x.2).map fun y => (A.imm (List.map (cL c8) y) false)) args
theorem r42_C2 : Orc42 C2 := fun a0 a1 => (by kernel_rfl : _ = o42 (x42 (a0, a1))).trans (orcOf_eq _ ix42 (a0, a1))
theorem ok29 (args : List A) (r : A) (h : o29 args = some r) : CallOK Try.prog (cx C0).glob 29 args r := by
  obtain ⟨x, rfl, hx⟩ := orcOf_ok h
  simp only [Option.map_eq_some_iff] at hx
  obtain ⟨y, hy, rfl⟩ := hx
  exact ok_J (f := fun (y : (List (List UInt8))) => (A.imm (List.map (cL c8) y) false)) orc_C2 (by kernel_rfl) (T29 C2 fuel0 (r42_C2) x.1 x.2) hy
noncomputable def C3 : Nat → List A → Option A := upd C2 29 o29
theorem orc_C3 : OrcOK (cx C3) := orc_upd orc_C2 ok29
def x12 (x : Int) : List A := [(A.v (Value.int .i64 x))]
theorem ix12 : Inj x12 := fun x y h => by
  simp only [x12, List.cons.injEq, A.v.injEq, A.agg.injEq, A.imm.injEq, Value.int.injEq, Value.bool.injEq, Value.string.injEq, and_true, true_and] at h
  exact h
noncomputable def o12 (args : List A) : Option A := orcOf x12 (fun x => (G12 x).map fun y => (A.tup [(A.agg [(A.imm (List.map (cL c8) y.1.Sectors) false), (A.imm (List.map c_S_Write y.1.Pending) false), (A.v (Value.int .i64 y.1.Left)), (A.v (Value.bool y.1.Stopped))]), (A.v (Value.int .i64 y.2))])) args
theorem r29_C3 : Orc29 C3 := fun a0 a1 => (by kernel_rfl : _ = o29 (x29 (a0, a1))).trans (orcOf_eq _ ix29 (a0, a1))
theorem ok12 (args : List A) (r : A) (h : o12 args = some r) : CallOK Try.prog (cx C0).glob 12 args r := by
  obtain ⟨x, rfl, hx⟩ := orcOf_ok h
  simp only [Option.map_eq_some_iff] at hx
  obtain ⟨y, hy, rfl⟩ := hx
  exact ok_J (f := fun (y : (S_Disk × Int)) => (A.tup [(A.agg [(A.imm (List.map (cL c8) y.1.Sectors) false), (A.imm (List.map c_S_Write y.1.Pending) false), (A.v (Value.int .i64 y.1.Left)), (A.v (Value.bool y.1.Stopped))]), (A.v (Value.int .i64 y.2))])) orc_C3 (by kernel_rfl) (T12 C3 fuel0 (r29_C3) x) hy
noncomputable def C4 : Nat → List A → Option A := upd C3 12 o12
theorem orc_C4 : OrcOK (cx C4) := orc_upd orc_C3 ok12
def x31 (x : (List UInt8)) : List A := [(A.imm (List.map c8 x) false)]
theorem ix31 : Inj x31 := fun x y h => by
  simp only [x31, List.cons.injEq, A.v.injEq, A.agg.injEq, A.imm.injEq, Value.int.injEq, Value.bool.injEq, Value.string.injEq, and_true, true_and, map_inj (in_c8)] at h
  exact h
noncomputable def o31 (args : List A) : Option A := orcOf x31 (fun x => (G31 x).map fun y => (A.v (Value.bool y))) args
theorem ok31 (args : List A) (r : A) (h : o31 args = some r) : CallOK Try.prog (cx C0).glob 31 args r := by
  obtain ⟨x, rfl, hx⟩ := orcOf_ok h
  simp only [Option.map_eq_some_iff] at hx
  obtain ⟨y, hy, rfl⟩ := hx
  exact ok_J (f := fun (y : Bool) => (A.v (Value.bool y))) orc_C4 (by kernel_rfl) (T31 C4 fuel0  x) hy
noncomputable def C5 : Nat → List A → Option A := upd C4 31 o31
theorem orc_C5 : OrcOK (cx C5) := orc_upd orc_C4 ok31
def x34 (x : (List UInt8)) : List A := [(A.imm (List.map c8 x) false)]
theorem ix34 : Inj x34 := fun x y h => by
  simp only [x34, List.cons.injEq, A.v.injEq, A.agg.injEq, A.imm.injEq, Value.int.injEq, Value.bool.injEq, Value.string.injEq, and_true, true_and, map_inj (in_c8)] at h
  exact h
noncomputable def o34 (args : List A) : Option A := orcOf x34 (fun x => (G34 x).map fun y => (A.v (Value.bool y))) args
theorem r31_C5 : Orc31 C5 := fun a0 => (by kernel_rfl : _ = o31 (x31 a0)).trans (orcOf_eq _ ix31 a0)
theorem ok34 (args : List A) (r : A) (h : o34 args = some r) : CallOK Try.prog (cx C0).glob 34 args r := by
  obtain ⟨x, rfl, hx⟩ := orcOf_ok h
  simp only [Option.map_eq_some_iff] at hx
  obtain ⟨y, hy, rfl⟩ := hx
  exact ok_J (f := fun (y : Bool) => (A.v (Value.bool y))) orc_C5 (by kernel_rfl) (T34 C5 fuel0 (r31_C5) x) hy
noncomputable def C6 : Nat → List A → Option A := upd C5 34 o34
theorem orc_C6 : OrcOK (cx C6) := orc_upd orc_C5 ok34
def x44_34 (x : (List (List UInt8))) : List A := [(A.imm (List.map (cL c8) x) false), (A.fn (Fn.func 34) [] [])]
theorem ix44_34 : Inj x44_34 := fun x y h => by
  simp only [x44_34, List.cons.injEq, A.v.injEq, A.agg.injEq, A.imm.injEq, Value.int.injEq, Value.bool.injEq, Value.string.injEq, and_true, true_and, map_inj (in_c8), map_inj (in_cL (in_c8))] at h
  exact h
noncomputable def o44_34 (args : List A) : Option A := orcOf x44_34 (fun x => (G44_34 x).map fun y => (A.v (Value.int .i64 y))) args
theorem r34_C6 : Orc34 C6 := fun a0 => (by kernel_rfl : _ = o34 (x34 a0)).trans (orcOf_eq _ ix34 a0)
theorem ok44_34 (args : List A) (r : A) (h : o44_34 args = some r) : CallOK Try.prog (cx C0).glob 44 args r := by
  obtain ⟨x, rfl, hx⟩ := orcOf_ok h
  simp only [Option.map_eq_some_iff] at hx
  obtain ⟨y, hy, rfl⟩ := hx
  exact ok_J (f := fun (y : Int) => (A.v (Value.int .i64 y))) orc_C6 (by kernel_rfl) (T44_34 C6 fuel0 (r34_C6) x) hy
noncomputable def C7 : Nat → List A → Option A := upd C6 44 o44_34
theorem orc_C7 : OrcOK (cx C7) := orc_upd orc_C6 ok44_34
def x33_34 (x : (List (List UInt8))) : List A := [(A.imm (List.map (cL c8) x) false), (A.fn (Fn.func 34) [] [])]
theorem ix33_34 : Inj x33_34 := fun x y h => by
  simp only [x33_34, List.cons.injEq, A.v.injEq, A.agg.injEq, A.imm.injEq, Value.int.injEq, Value.bool.injEq, Value.string.injEq, and_true, true_and, map_inj (in_c8), map_inj (in_cL (in_c8))] at h
  exact h
noncomputable def o33_34 (args : List A) : Option A := orcOf x33_34 (fun x => (G33_34 x).map fun y => (A.v (Value.bool y))) args
theorem r44_34_C7 : Orc44_34 C7 := fun a0 => (by kernel_rfl : _ = o44_34 (x44_34 a0)).trans (orcOf_eq _ ix44_34 a0)
theorem ok33_34 (args : List A) (r : A) (h : o33_34 args = some r) : CallOK Try.prog (cx C0).glob 33 args r := by
  obtain ⟨x, rfl, hx⟩ := orcOf_ok h
  simp only [Option.map_eq_some_iff] at hx
  obtain ⟨y, hy, rfl⟩ := hx
  exact ok_J (f := fun (y : Bool) => (A.v (Value.bool y))) orc_C7 (by kernel_rfl) (T33_34 C7 fuel0 (r44_34_C7) x) hy
noncomputable def C8 : Nat → List A → Option A := upd C7 33 o33_34
theorem orc_C8 : OrcOK (cx C8) := orc_upd orc_C7 ok33_34
def x15 (x : S_Disk) : List A := [(A.agg [(A.imm (List.map (cL c8) x.Sectors) false), (A.imm (List.map c_S_Write x.Pending) false), (A.v (Value.int .i64 x.Left)), (A.v (Value.bool x.Stopped))])]
theorem ix15 : Inj x15 := fun x y h => by
  simp only [x15, List.cons.injEq, A.v.injEq, A.agg.injEq, A.imm.injEq, Value.int.injEq, Value.bool.injEq, Value.string.injEq, and_true, true_and, map_inj (in_S_Write), map_inj (in_c8), map_inj (in_cL (in_c8))] at h
  obtain ⟨xa0Sectors, xa0Pending, xa0Left, xa0Stopped⟩ := x
  obtain ⟨ya0Sectors, ya0Pending, ya0Left, ya0Stopped⟩ := y
  simp_all
noncomputable def o15 (args : List A) : Option A := orcOf x15 (fun x => (G15 x).map fun y => (A.v (Value.int .i64 y))) args
theorem r31_C8 : Orc31 C8 := fun a0 => (by kernel_rfl : _ = o31 (x31 a0)).trans (orcOf_eq _ ix31 a0)
theorem r33_34_C8 : Orc33_34 C8 := fun a0 => (by kernel_rfl : _ = o33_34 (x33_34 a0)).trans (orcOf_eq _ ix33_34 a0)
theorem ok15 (args : List A) (r : A) (h : o15 args = some r) : CallOK Try.prog (cx C0).glob 15 args r := by
  obtain ⟨x, rfl, hx⟩ := orcOf_ok h
  simp only [Option.map_eq_some_iff] at hx
  obtain ⟨y, hy, rfl⟩ := hx
  exact ok_J (f := fun (y : Int) => (A.v (Value.int .i64 y))) orc_C8 (by kernel_rfl) (T15 C8 fuel0 (r31_C8) (r33_34_C8) x) hy
noncomputable def C9 : Nat → List A → Option A := upd C8 15 o15
theorem orc_C9 : OrcOK (cx C9) := orc_upd orc_C8 ok15
def x35 (x : S_Disk) : List A := [(A.agg [(A.imm (List.map (cL c8) x.Sectors) false), (A.imm (List.map c_S_Write x.Pending) false), (A.v (Value.int .i64 x.Left)), (A.v (Value.bool x.Stopped))])]
theorem ix35 : Inj x35 := fun x y h => by
  simp only [x35, List.cons.injEq, A.v.injEq, A.agg.injEq, A.imm.injEq, Value.int.injEq, Value.bool.injEq, Value.string.injEq, and_true, true_and, map_inj (in_S_Write), map_inj (in_c8), map_inj (in_cL (in_c8))] at h
  obtain ⟨xa0Sectors, xa0Pending, xa0Left, xa0Stopped⟩ := x
  obtain ⟨ya0Sectors, ya0Pending, ya0Left, ya0Stopped⟩ := y
  simp_all
noncomputable def o35 (args : List A) : Option A := orcOf x35 (fun x => (G35 x).map fun y => (A.v (Value.bool y))) args
theorem r15_C9 : Orc15 C9 := fun a0 => (by kernel_rfl : _ = o15 (x15 a0)).trans (orcOf_eq _ ix15 a0)
theorem ok35 (args : List A) (r : A) (h : o35 args = some r) : CallOK Try.prog (cx C0).glob 35 args r := by
  obtain ⟨x, rfl, hx⟩ := orcOf_ok h
  simp only [Option.map_eq_some_iff] at hx
  obtain ⟨y, hy, rfl⟩ := hx
  exact ok_J (f := fun (y : Bool) => (A.v (Value.bool y))) orc_C9 (by kernel_rfl) (T35 C9 fuel0 (r15_C9) x) hy
noncomputable def C10 : Nat → List A → Option A := upd C9 35 o35
theorem orc_C10 : OrcOK (cx C10) := orc_upd orc_C9 ok35
def x36 (x : S_Disk × Int) : List A := [(A.agg [(A.imm (List.map (cL c8) x.1.Sectors) false), (A.imm (List.map c_S_Write x.1.Pending) false), (A.v (Value.int .i64 x.1.Left)), (A.v (Value.bool x.1.Stopped))]), (A.v (Value.int .i64 x.2))]
theorem ix36 : Inj x36 := fun x y h => by
  simp only [x36, List.cons.injEq, A.v.injEq, A.agg.injEq, A.imm.injEq, Value.int.injEq, Value.bool.injEq, Value.string.injEq, and_true, true_and, map_inj (in_S_Write), map_inj (in_c8), map_inj (in_cL (in_c8))] at h
  obtain ⟨⟨xa0Sectors, xa0Pending, xa0Left, xa0Stopped⟩, xa1⟩ := x
  obtain ⟨⟨ya0Sectors, ya0Pending, ya0Left, ya0Stopped⟩, ya1⟩ := y
  simp_all
noncomputable def o36 (args : List A) : Option A := orcOf x36 (fun x => (G36 x.1 x.2).map fun y => (A.v (Value.bool y))) args
theorem ok36 (args : List A) (r : A) (h : o36 args = some r) : CallOK Try.prog (cx C0).glob 36 args r := by
  obtain ⟨x, rfl, hx⟩ := orcOf_ok h
  simp only [Option.map_eq_some_iff] at hx
  obtain ⟨y, hy, rfl⟩ := hx
  exact ok_J (f := fun (y : Bool) => (A.v (Value.bool y))) orc_C10 (by kernel_rfl) (T36 C10 fuel0  x.1 x.2) hy
noncomputable def C11 : Nat → List A → Option A := upd C10 36 o36
theorem orc_C11 : OrcOK (cx C11) := orc_upd orc_C10 ok36
def x38 (x : (List S_Write)) : List A := [(A.imm (List.map c_S_Write x) false)]
theorem ix38 : Inj x38 := fun x y h => by
  simp only [x38, List.cons.injEq, A.v.injEq, A.agg.injEq, A.imm.injEq, Value.int.injEq, Value.bool.injEq, Value.string.injEq, and_true, true_and, map_inj (in_S_Write), map_inj (in_c8)] at h
  exact h
noncomputable def o38 (args : List A) : Option A := orcOf x38 (fun x => (G38 x).map fun y => (A.imm (List.map c_S_Write y) false)) args
theorem ok38 (args : List A) (r : A) (h : o38 args = some r) : CallOK Try.prog (cx C0).glob 38 args r := by
  obtain ⟨x, rfl, hx⟩ := orcOf_ok h
  simp only [Option.map_eq_some_iff] at hx
  obtain ⟨y, hy, rfl⟩ := hx
  exact ok_J (f := fun (y : (List S_Write)) => (A.imm (List.map c_S_Write y) false)) orc_C11 (by kernel_rfl) (T38 C11 fuel0  x) hy
noncomputable def C12 : Nat → List A → Option A := upd C11 38 o38
theorem orc_C12 : OrcOK (cx C12) := orc_upd orc_C11 ok38
def x19 (x : S_Disk × Int × (List UInt8)) : List A := [(A.agg [(A.imm (List.map (cL c8) x.1.Sectors) false), (A.imm (List.map c_S_Write x.1.Pending) false), (A.v (Value.int .i64 x.1.Left)), (A.v (Value.bool x.1.Stopped))]), (A.v (Value.int .i64 x.2.1)), (A.imm (List.map c8 x.2.2) false)]
theorem ix19 : Inj x19 := fun x y h => by
  simp only [x19, List.cons.injEq, A.v.injEq, A.agg.injEq, A.imm.injEq, Value.int.injEq, Value.bool.injEq, Value.string.injEq, and_true, true_and, map_inj (in_S_Write), map_inj (in_c8), map_inj (in_cL (in_c8))] at h
  obtain ⟨⟨xa0Sectors, xa0Pending, xa0Left, xa0Stopped⟩, xa1, xa2⟩ := x
  obtain ⟨⟨ya0Sectors, ya0Pending, ya0Left, ya0Stopped⟩, ya1, ya2⟩ := y
  simp_all
noncomputable def o19 (args : List A) : Option A := orcOf x19 (fun x => (G19 x.1 x.2.1 x.2.2).map fun y => (A.tup [(A.agg [(A.imm (List.map (cL c8) y.1.Sectors) false), (A.imm (List.map c_S_Write y.1.Pending) false), (A.v (Value.int .i64 y.1.Left)), (A.v (Value.bool y.1.Stopped))]), (A.v (Value.int .i64 y.2))])) args
theorem r35_C12 : Orc35 C12 := fun a0 => (by kernel_rfl : _ = o35 (x35 a0)).trans (orcOf_eq _ ix35 a0)
theorem r36_C12 : Orc36 C12 := fun a0 a1 => (by kernel_rfl : _ = o36 (x36 (a0, a1))).trans (orcOf_eq _ ix36 (a0, a1))
theorem r38_C12 : Orc38 C12 := fun a0 => (by kernel_rfl : _ = o38 (x38 a0)).trans (orcOf_eq _ ix38 a0)
theorem ok19 (args : List A) (r : A) (h : o19 args = some r) : CallOK Try.prog (cx C0).glob 19 args r := by
  obtain ⟨x, rfl, hx⟩ := orcOf_ok h
  simp only [Option.map_eq_some_iff] at hx
  obtain ⟨y, hy, rfl⟩ := hx
  exact ok_J (f := fun (y : (S_Disk × Int)) => (A.tup [(A.agg [(A.imm (List.map (cL c8) y.1.Sectors) false), (A.imm (List.map c_S_Write y.1.Pending) false), (A.v (Value.int .i64 y.1.Left)), (A.v (Value.bool y.1.Stopped))]), (A.v (Value.int .i64 y.2))])) orc_C12 (by kernel_rfl) (T19 C12 fuel0 (r35_C12) (r36_C12) (r38_C12) x.1 x.2.1 x.2.2) hy
noncomputable def C13 : Nat → List A → Option A := upd C12 19 o19
theorem orc_C13 : OrcOK (cx C13) := orc_upd orc_C12 ok19
def x21 (x : S_Disk × Int) : List A := [(A.agg [(A.imm (List.map (cL c8) x.1.Sectors) false), (A.imm (List.map c_S_Write x.1.Pending) false), (A.v (Value.int .i64 x.1.Left)), (A.v (Value.bool x.1.Stopped))]), (A.v (Value.int .i64 x.2))]
theorem ix21 : Inj x21 := fun x y h => by
  simp only [x21, List.cons.injEq, A.v.injEq, A.agg.injEq, A.imm.injEq, Value.int.injEq, Value.bool.injEq, Value.string.injEq, and_true, true_and, map_inj (in_S_Write), map_inj (in_c8), map_inj (in_cL (in_c8))] at h
  obtain ⟨⟨xa0Sectors, xa0Pending, xa0Left, xa0Stopped⟩, xa1⟩ := x
  obtain ⟨⟨ya0Sectors, ya0Pending, ya0Left, ya0Stopped⟩, ya1⟩ := y
  simp_all
noncomputable def o21 (args : List A) : Option A := orcOf x21 (fun x => (G21 x.1 x.2).map fun y => (A.tup [(A.imm (List.map c8 y.1) false), (A.v (Value.int .i64 y.2))])) args
theorem r35_C13 : Orc35 C13 := fun a0 => (by kernel_rfl : _ = o35 (x35 a0)).trans (orcOf_eq _ ix35 a0)
theorem r36_C13 : Orc36 C13 := fun a0 a1 => (by kernel_rfl : _ = o36 (x36 (a0, a1))).trans (orcOf_eq _ ix36 (a0, a1))
theorem ok21 (args : List A) (r : A) (h : o21 args = some r) : CallOK Try.prog (cx C0).glob 21 args r := by
  obtain ⟨x, rfl, hx⟩ := orcOf_ok h
  simp only [Option.map_eq_some_iff] at hx
  obtain ⟨y, hy, rfl⟩ := hx
  exact ok_J (f := fun (y : ((List UInt8) × Int)) => (A.tup [(A.imm (List.map c8 y.1) false), (A.v (Value.int .i64 y.2))])) orc_C13 (by kernel_rfl) (T21 C13 fuel0 (r35_C13) (r36_C13) x.1 x.2) hy
noncomputable def C14 : Nat → List A → Option A := upd C13 21 o21
theorem orc_C14 : OrcOK (cx C14) := orc_upd orc_C13 ok21
def x25 (x : S_Disk × Int) : List A := [(A.agg [(A.imm (List.map (cL c8) x.1.Sectors) false), (A.imm (List.map c_S_Write x.1.Pending) false), (A.v (Value.int .i64 x.1.Left)), (A.v (Value.bool x.1.Stopped))]), (A.v (Value.int .i64 x.2))]
theorem ix25 : Inj x25 := fun x y h => by
  simp only [x25, List.cons.injEq, A.v.injEq, A.agg.injEq, A.imm.injEq, Value.int.injEq, Value.bool.injEq, Value.string.injEq, and_true, true_and, map_inj (in_S_Write), map_inj (in_c8), map_inj (in_cL (in_c8))] at h
  obtain ⟨⟨xa0Sectors, xa0Pending, xa0Left, xa0Stopped⟩, xa1⟩ := x
  obtain ⟨⟨ya0Sectors, ya0Pending, ya0Left, ya0Stopped⟩, ya1⟩ := y
  simp_all
noncomputable def o25 (args : List A) : Option A := orcOf x25 (fun x => (G25 x.1 x.2).map fun y => (A.tup [(A.agg [(A.imm (List.map (cL c8) y.1.Sectors) false), (A.imm (List.map c_S_Write y.1.Pending) false), (A.v (Value.int .i64 y.1.Left)), (A.v (Value.bool y.1.Stopped))]), (A.v (Value.int .i64 y.2))])) args
theorem r35_C14 : Orc35 C14 := fun a0 => (by kernel_rfl : _ = o35 (x35 a0)).trans (orcOf_eq _ ix35 a0)
theorem ok25 (args : List A) (r : A) (h : o25 args = some r) : CallOK Try.prog (cx C0).glob 25 args r := by
  obtain ⟨x, rfl, hx⟩ := orcOf_ok h
  simp only [Option.map_eq_some_iff] at hx
  obtain ⟨y, hy, rfl⟩ := hx
  exact ok_J (f := fun (y : (S_Disk × Int)) => (A.tup [(A.agg [(A.imm (List.map (cL c8) y.1.Sectors) false), (A.imm (List.map c_S_Write y.1.Pending) false), (A.v (Value.int .i64 y.1.Left)), (A.v (Value.bool y.1.Stopped))]), (A.v (Value.int .i64 y.2))])) orc_C14 (by kernel_rfl) (T25 C14 fuel0 (r35_C14) x.1 x.2) hy
noncomputable def C15 : Nat → List A → Option A := upd C14 25 o25
theorem orc_C15 : OrcOK (cx C15) := orc_upd orc_C14 ok25
def x27 (x : Int) : List A := [(A.v (Value.int .u8 x))]
theorem ix27 : Inj x27 := fun x y h => by
  simp only [x27, List.cons.injEq, A.v.injEq, A.agg.injEq, A.imm.injEq, Value.int.injEq, Value.bool.injEq, Value.string.injEq, and_true, true_and] at h
  exact h
noncomputable def o27 (args : List A) : Option A := orcOf x27 (fun x => (G27 x).map fun y => (A.imm (List.map c8 y) false)) args
theorem ok27 (args : List A) (r : A) (h : o27 args = some r) : CallOK Try.prog (cx C0).glob 27 args r := by
  obtain ⟨x, rfl, hx⟩ := orcOf_ok h
  simp only [Option.map_eq_some_iff] at hx
  obtain ⟨y, hy, rfl⟩ := hx
  exact ok_J (f := fun (y : (List UInt8)) => (A.imm (List.map c8 y) false)) orc_C15 (by kernel_rfl) (T27 C15 fuel0  x) hy
noncomputable def C16 : Nat → List A → Option A := upd C15 27 o27
theorem orc_C16 : OrcOK (cx C16) := orc_upd orc_C15 ok27
def x40 (x : (List (List UInt8)) × (List S_Write)) : List A := [(A.imm (List.map (cL c8) x.1) false), (A.imm (List.map c_S_Write x.2) false)]
theorem ix40 : Inj x40 := fun x y h => by
  simp only [x40, List.cons.injEq, A.v.injEq, A.agg.injEq, A.imm.injEq, Value.int.injEq, Value.bool.injEq, Value.string.injEq, and_true, true_and, map_inj (in_S_Write), map_inj (in_c8), map_inj (in_cL (in_c8))] at h
  obtain ⟨xa0, xa1⟩ := x
  obtain ⟨ya0, ya1⟩ := y
  simp_all
noncomputable def o40 (args : List A) : Option A := orcOf x40 (fun x => (G40 x.1 x.2).map fun y => (A.imm (List.map (cL c8) y) false)) args
theorem ok40 (args : List A) (r : A) (h : o40 args = some r) : CallOK Try.prog (cx C0).glob 40 args r := by
  obtain ⟨x, rfl, hx⟩ := orcOf_ok h
  simp only [Option.map_eq_some_iff] at hx
  obtain ⟨y, hy, rfl⟩ := hx
  exact ok_J (f := fun (y : (List (List UInt8))) => (A.imm (List.map (cL c8) y) false)) orc_C16 (by kernel_rfl) (T40 C16 fuel0  x.1 x.2) hy
noncomputable def C17 : Nat → List A → Option A := upd C16 40 o40
theorem orc_C17 : OrcOK (cx C17) := orc_upd orc_C16 ok40
def x23 (x : S_Disk) : List A := [(A.agg [(A.imm (List.map (cL c8) x.Sectors) false), (A.imm (List.map c_S_Write x.Pending) false), (A.v (Value.int .i64 x.Left)), (A.v (Value.bool x.Stopped))])]
theorem ix23 : Inj x23 := fun x y h => by
  simp only [x23, List.cons.injEq, A.v.injEq, A.agg.injEq, A.imm.injEq, Value.int.injEq, Value.bool.injEq, Value.string.injEq, and_true, true_and, map_inj (in_S_Write), map_inj (in_c8), map_inj (in_cL (in_c8))] at h
  obtain ⟨xa0Sectors, xa0Pending, xa0Left, xa0Stopped⟩ := x
  obtain ⟨ya0Sectors, ya0Pending, ya0Left, ya0Stopped⟩ := y
  simp_all
noncomputable def o23 (args : List A) : Option A := orcOf x23 (fun x => (G23 x).map fun y => (A.tup [(A.agg [(A.imm (List.map (cL c8) y.1.Sectors) false), (A.imm (List.map c_S_Write y.1.Pending) false), (A.v (Value.int .i64 y.1.Left)), (A.v (Value.bool y.1.Stopped))]), (A.v (Value.int .i64 y.2))])) args
theorem r35_C17 : Orc35 C17 := fun a0 => (by kernel_rfl : _ = o35 (x35 a0)).trans (orcOf_eq _ ix35 a0)
theorem r40_C17 : Orc40 C17 := fun a0 a1 => (by kernel_rfl : _ = o40 (x40 (a0, a1))).trans (orcOf_eq _ ix40 (a0, a1))
theorem ok23 (args : List A) (r : A) (h : o23 args = some r) : CallOK Try.prog (cx C0).glob 23 args r := by
  obtain ⟨x, rfl, hx⟩ := orcOf_ok h
  simp only [Option.map_eq_some_iff] at hx
  obtain ⟨y, hy, rfl⟩ := hx
  exact ok_J (f := fun (y : (S_Disk × Int)) => (A.tup [(A.agg [(A.imm (List.map (cL c8) y.1.Sectors) false), (A.imm (List.map c_S_Write y.1.Pending) false), (A.v (Value.int .i64 y.1.Left)), (A.v (Value.bool y.1.Stopped))]), (A.v (Value.int .i64 y.2))])) orc_C17 (by kernel_rfl) (T23 C17 fuel0 (r35_C17) (r40_C17) x) hy
noncomputable def C18 : Nat → List A → Option A := upd C17 23 o23
theorem orc_C18 : OrcOK (cx C18) := orc_upd orc_C17 ok23
def x17 (x : S_Disk) : List A := [(A.agg [(A.imm (List.map (cL c8) x.Sectors) false), (A.imm (List.map c_S_Write x.Pending) false), (A.v (Value.int .i64 x.Left)), (A.v (Value.bool x.Stopped))])]
theorem ix17 : Inj x17 := fun x y h => by
  simp only [x17, List.cons.injEq, A.v.injEq, A.agg.injEq, A.imm.injEq, Value.int.injEq, Value.bool.injEq, Value.string.injEq, and_true, true_and, map_inj (in_S_Write), map_inj (in_c8), map_inj (in_cL (in_c8))] at h
  obtain ⟨xa0Sectors, xa0Pending, xa0Left, xa0Stopped⟩ := x
  obtain ⟨ya0Sectors, ya0Pending, ya0Left, ya0Stopped⟩ := y
  simp_all
noncomputable def o17 (args : List A) : Option A := orcOf x17 (fun x => (G17 x).map fun y => (A.agg [(A.imm (List.map (cL c8) y.Sectors) false), (A.imm (List.map c_S_Write y.Pending) false), (A.v (Value.int .i64 y.Left)), (A.v (Value.bool y.Stopped))])) args
theorem ok17 (args : List A) (r : A) (h : o17 args = some r) : CallOK Try.prog (cx C0).glob 17 args r := by
  obtain ⟨x, rfl, hx⟩ := orcOf_ok h
  simp only [Option.map_eq_some_iff] at hx
  obtain ⟨y, hy, rfl⟩ := hx
  exact ok_J (f := fun (y : S_Disk) => (A.agg [(A.imm (List.map (cL c8) y.Sectors) false), (A.imm (List.map c_S_Write y.Pending) false), (A.v (Value.int .i64 y.Left)), (A.v (Value.bool y.Stopped))])) orc_C18 (by kernel_rfl) (T17 C18 fuel0  x) hy
noncomputable def C19 : Nat → List A → Option A := upd C18 17 o17
theorem orc_C19 : OrcOK (cx C19) := orc_upd orc_C18 ok17
def x10 (x : Unit) : List A := []
theorem ix10 : Inj x10 := fun _ _ _ => rfl
noncomputable def o10 (args : List A) : Option A := orcOf x10 (fun x => (G10 ).map fun y => (A.v (Value.bool y))) args
theorem r12_C19 : Orc12 C19 := fun a0 => (by kernel_rfl : _ = o12 (x12 a0)).trans (orcOf_eq _ ix12 a0)
theorem r15_C19 : Orc15 C19 := fun a0 => (by kernel_rfl : _ = o15 (x15 a0)).trans (orcOf_eq _ ix15 a0)
theorem r17_C19 : Orc17 C19 := fun a0 => (by kernel_rfl : _ = o17 (x17 a0)).trans (orcOf_eq _ ix17 a0)
theorem r19_C19 : Orc19 C19 := fun a0 a1 a2 => (by kernel_rfl : _ = o19 (x19 (a0, a1, a2))).trans (orcOf_eq _ ix19 (a0, a1, a2))
theorem r21_C19 : Orc21 C19 := fun a0 a1 => (by kernel_rfl : _ = o21 (x21 (a0, a1))).trans (orcOf_eq _ ix21 (a0, a1))
theorem r23_C19 : Orc23 C19 := fun a0 => (by kernel_rfl : _ = o23 (x23 a0)).trans (orcOf_eq _ ix23 a0)
theorem r25_C19 : Orc25 C19 := fun a0 a1 => (by kernel_rfl : _ = o25 (x25 (a0, a1))).trans (orcOf_eq _ ix25 (a0, a1))
theorem r27_C19 : Orc27 C19 := fun a0 => (by kernel_rfl : _ = o27 (x27 a0)).trans (orcOf_eq _ ix27 a0)
theorem ok10 (args : List A) (r : A) (h : o10 args = some r) : CallOK Try.prog (cx C0).glob 10 args r := by
  obtain ⟨x, rfl, hx⟩ := orcOf_ok h
  simp only [Option.map_eq_some_iff] at hx
  obtain ⟨y, hy, rfl⟩ := hx
  exact ok_J (f := fun (y : Bool) => (A.v (Value.bool y))) orc_C19 (by kernel_rfl) (T10 C19 fuel0 (r12_C19) (r15_C19) (r17_C19) (r19_C19) (r21_C19) (r23_C19) (r25_C19) (r27_C19) ) hy
noncomputable def C20 : Nat → List A → Option A := upd C19 10 o10
theorem orc_C20 : OrcOK (cx C20) := orc_upd orc_C19 ok10
def x11 (x : S_Disk) : List A := [(A.agg [(A.imm (List.map (cL c8) x.Sectors) false), (A.imm (List.map c_S_Write x.Pending) false), (A.v (Value.int .i64 x.Left)), (A.v (Value.bool x.Stopped))])]
theorem ix11 : Inj x11 := fun x y h => by
  simp only [x11, List.cons.injEq, A.v.injEq, A.agg.injEq, A.imm.injEq, Value.int.injEq, Value.bool.injEq, Value.string.injEq, and_true, true_and, map_inj (in_S_Write), map_inj (in_c8), map_inj (in_cL (in_c8))] at h
  obtain ⟨xa0Sectors, xa0Pending, xa0Left, xa0Stopped⟩ := x
  obtain ⟨ya0Sectors, ya0Pending, ya0Left, ya0Stopped⟩ := y
  simp_all
noncomputable def o11 (args : List A) : Option A := orcOf x11 (fun x => (G11 x).map fun y => (A.v (Value.bool y))) args
theorem ok11 (args : List A) (r : A) (h : o11 args = some r) : CallOK Try.prog (cx C0).glob 11 args r := by
  obtain ⟨x, rfl, hx⟩ := orcOf_ok h
  simp only [Option.map_eq_some_iff] at hx
  obtain ⟨y, hy, rfl⟩ := hx
  exact ok_J (f := fun (y : Bool) => (A.v (Value.bool y))) orc_C20 (by kernel_rfl) (T11 C20 fuel0  x) hy
noncomputable def C21 : Nat → List A → Option A := upd C20 11 o11
theorem orc_C21 : OrcOK (cx C21) := orc_upd orc_C20 ok11
def x7 (x : S_Disk × Int × Int × (List UInt8) × (List UInt8)) : List A := [(A.agg [(A.imm (List.map (cL c8) x.1.Sectors) false), (A.imm (List.map c_S_Write x.1.Pending) false), (A.v (Value.int .i64 x.1.Left)), (A.v (Value.bool x.1.Stopped))]), (A.v (Value.int .i64 x.2.1)), (A.v (Value.int .i64 x.2.2.1)), (A.imm (List.map c8 x.2.2.2.1) false), (A.imm (List.map c8 x.2.2.2.2) false)]
theorem ix7 : Inj x7 := fun x y h => by
  simp only [x7, List.cons.injEq, A.v.injEq, A.agg.injEq, A.imm.injEq, Value.int.injEq, Value.bool.injEq, Value.string.injEq, and_true, true_and, map_inj (in_S_Write), map_inj (in_c8), map_inj (in_cL (in_c8))] at h
  obtain ⟨⟨xa0Sectors, xa0Pending, xa0Left, xa0Stopped⟩, xa1, xa2, xa3, xa4⟩ := x
  obtain ⟨⟨ya0Sectors, ya0Pending, ya0Left, ya0Stopped⟩, ya1, ya2, ya3, ya4⟩ := y
  simp_all
noncomputable def o7 (args : List A) : Option A := orcOf x7 (fun x => (G7 x.1 x.2.1 x.2.2.1 x.2.2.2.1 x.2.2.2.2).map fun y => (A.v (Value.bool y))) args
theorem r10_C21 : Orc10 C21 := fun _ => (by kernel_rfl : _ = o10 (x10 ())).trans (orcOf_eq _ ix10 ())
theorem r11_C21 : Orc11 C21 := fun a0 => (by kernel_rfl : _ = o11 (x11 a0)).trans (orcOf_eq _ ix11 a0)
theorem r15_C21 : Orc15 C21 := fun a0 => (by kernel_rfl : _ = o15 (x15 a0)).trans (orcOf_eq _ ix15 a0)
theorem r19_C21 : Orc19 C21 := fun a0 a1 a2 => (by kernel_rfl : _ = o19 (x19 (a0, a1, a2))).trans (orcOf_eq _ ix19 (a0, a1, a2))
theorem r21_C21 : Orc21 C21 := fun a0 a1 => (by kernel_rfl : _ = o21 (x21 (a0, a1))).trans (orcOf_eq _ ix21 (a0, a1))
theorem r23_C21 : Orc23 C21 := fun a0 => (by kernel_rfl : _ = o23 (x23 a0)).trans (orcOf_eq _ ix23 a0)
theorem ok7 (args : List A) (r : A) (h : o7 args = some r) : CallOK Try.prog (cx C0).glob 7 args r := by
  obtain ⟨x, rfl, hx⟩ := orcOf_ok h
  simp only [Option.map_eq_some_iff] at hx
  obtain ⟨y, hy, rfl⟩ := hx
  exact ok_J (f := fun (y : Bool) => (A.v (Value.bool y))) orc_C21 (by kernel_rfl) (T7 C21 fuel0 (r10_C21) (r11_C21) (r15_C21) (r19_C21) (r21_C21) (r23_C21) x.1 x.2.1 x.2.2.1 x.2.2.2.1 x.2.2.2.2) hy
noncomputable def C22 : Nat → List A → Option A := upd C21 7 o7
theorem orc_C22 : OrcOK (cx C22) := orc_upd orc_C21 ok7
def x14 (x : S_Disk × S_Disk) : List A := [(A.agg [(A.imm (List.map (cL c8) x.1.Sectors) false), (A.imm (List.map c_S_Write x.1.Pending) false), (A.v (Value.int .i64 x.1.Left)), (A.v (Value.bool x.1.Stopped))]), (A.agg [(A.imm (List.map (cL c8) x.2.Sectors) false), (A.imm (List.map c_S_Write x.2.Pending) false), (A.v (Value.int .i64 x.2.Left)), (A.v (Value.bool x.2.Stopped))])]
theorem ix14 : Inj x14 := fun x y h => by
  simp only [x14, List.cons.injEq, A.v.injEq, A.agg.injEq, A.imm.injEq, Value.int.injEq, Value.bool.injEq, Value.string.injEq, and_true, true_and, map_inj (in_S_Write), map_inj (in_c8), map_inj (in_cL (in_c8))] at h
  obtain ⟨⟨xa0Sectors, xa0Pending, xa0Left, xa0Stopped⟩, ⟨xa1Sectors, xa1Pending, xa1Left, xa1Stopped⟩⟩ := x
  obtain ⟨⟨ya0Sectors, ya0Pending, ya0Left, ya0Stopped⟩, ⟨ya1Sectors, ya1Pending, ya1Left, ya1Stopped⟩⟩ := y
  simp_all
noncomputable def o14 (args : List A) : Option A := orcOf x14 (fun x => (G14 x.1 x.2).map fun y => (A.v (Value.bool y))) args
theorem ok14 (args : List A) (r : A) (h : o14 args = some r) : CallOK Try.prog (cx C0).glob 14 args r := by
  obtain ⟨x, rfl, hx⟩ := orcOf_ok h
  simp only [Option.map_eq_some_iff] at hx
  obtain ⟨y, hy, rfl⟩ := hx
  exact ok_J (f := fun (y : Bool) => (A.v (Value.bool y))) orc_C22 (by kernel_rfl) (T14 C22 fuel0  x.1 x.2) hy
noncomputable def C23 : Nat → List A → Option A := upd C22 14 o14
theorem orc_C23 : OrcOK (cx C23) := orc_upd orc_C22 ok14
def x8 (x : S_Disk × (List S_kinespherelaw04_Act)) : List A := [(A.agg [(A.imm (List.map (cL c8) x.1.Sectors) false), (A.imm (List.map c_S_Write x.1.Pending) false), (A.v (Value.int .i64 x.1.Left)), (A.v (Value.bool x.1.Stopped))]), (A.imm (List.map c_S_kinespherelaw04_Act x.2) false)]
theorem ix8 : Inj x8 := fun x y h => by
  simp only [x8, List.cons.injEq, A.v.injEq, A.agg.injEq, A.imm.injEq, Value.int.injEq, Value.bool.injEq, Value.string.injEq, and_true, true_and, map_inj (in_S_Write), map_inj (in_S_kinespherelaw04_Act), map_inj (in_c8), map_inj (in_cL (in_c8))] at h
  obtain ⟨⟨xa0Sectors, xa0Pending, xa0Left, xa0Stopped⟩, xa1⟩ := x
  obtain ⟨⟨ya0Sectors, ya0Pending, ya0Left, ya0Stopped⟩, ya1⟩ := y
  simp_all
noncomputable def o8 (args : List A) : Option A := orcOf x8 (fun x => (G8 x.1 x.2).map fun y => (A.v (Value.bool y))) args
theorem r10_C23 : Orc10 C23 := fun _ => (by kernel_rfl : _ = o10 (x10 ())).trans (orcOf_eq _ ix10 ())
theorem r11_C23 : Orc11 C23 := fun a0 => (by kernel_rfl : _ = o11 (x11 a0)).trans (orcOf_eq _ ix11 a0)
theorem r14_C23 : Orc14 C23 := fun a0 a1 => (by kernel_rfl : _ = o14 (x14 (a0, a1))).trans (orcOf_eq _ ix14 (a0, a1))
theorem r15_C23 : Orc15 C23 := fun a0 => (by kernel_rfl : _ = o15 (x15 a0)).trans (orcOf_eq _ ix15 a0)
theorem r19_C23 : Orc19 C23 := fun a0 a1 a2 => (by kernel_rfl : _ = o19 (x19 (a0, a1, a2))).trans (orcOf_eq _ ix19 (a0, a1, a2))
theorem r23_C23 : Orc23 C23 := fun a0 => (by kernel_rfl : _ = o23 (x23 a0)).trans (orcOf_eq _ ix23 a0)
theorem ok8 (args : List A) (r : A) (h : o8 args = some r) : CallOK Try.prog (cx C0).glob 8 args r := by
  obtain ⟨x, rfl, hx⟩ := orcOf_ok h
  simp only [Option.map_eq_some_iff] at hx
  obtain ⟨y, hy, rfl⟩ := hx
  exact ok_J (f := fun (y : Bool) => (A.v (Value.bool y))) orc_C23 (by kernel_rfl) (T8 C23 fuel0 (r10_C23) (r11_C23) (r14_C23) (r15_C23) (r19_C23) (r23_C23) x.1 x.2) hy
noncomputable def C24 : Nat → List A → Option A := upd C23 8 o8
theorem orc_C24 : OrcOK (cx C24) := orc_upd orc_C23 ok8
def x9 (x : S_Disk × Int × Int × (List UInt8)) : List A := [(A.agg [(A.imm (List.map (cL c8) x.1.Sectors) false), (A.imm (List.map c_S_Write x.1.Pending) false), (A.v (Value.int .i64 x.1.Left)), (A.v (Value.bool x.1.Stopped))]), (A.v (Value.int .i64 x.2.1)), (A.v (Value.int .i64 x.2.2.1)), (A.imm (List.map c8 x.2.2.2) false)]
theorem ix9 : Inj x9 := fun x y h => by
  simp only [x9, List.cons.injEq, A.v.injEq, A.agg.injEq, A.imm.injEq, Value.int.injEq, Value.bool.injEq, Value.string.injEq, and_true, true_and, map_inj (in_S_Write), map_inj (in_c8), map_inj (in_cL (in_c8))] at h
  obtain ⟨⟨xa0Sectors, xa0Pending, xa0Left, xa0Stopped⟩, xa1, xa2, xa3⟩ := x
  obtain ⟨⟨ya0Sectors, ya0Pending, ya0Left, ya0Stopped⟩, ya1, ya2, ya3⟩ := y
  simp_all
noncomputable def o9 (args : List A) : Option A := orcOf x9 (fun x => (G9 x.1 x.2.1 x.2.2.1 x.2.2.2).map fun y => (A.v (Value.bool y))) args
theorem r10_C24 : Orc10 C24 := fun _ => (by kernel_rfl : _ = o10 (x10 ())).trans (orcOf_eq _ ix10 ())
theorem r11_C24 : Orc11 C24 := fun a0 => (by kernel_rfl : _ = o11 (x11 a0)).trans (orcOf_eq _ ix11 a0)
theorem r14_C24 : Orc14 C24 := fun a0 a1 => (by kernel_rfl : _ = o14 (x14 (a0, a1))).trans (orcOf_eq _ ix14 (a0, a1))
theorem r17_C24 : Orc17 C24 := fun a0 => (by kernel_rfl : _ = o17 (x17 a0)).trans (orcOf_eq _ ix17 a0)
theorem r19_C24 : Orc19 C24 := fun a0 a1 a2 => (by kernel_rfl : _ = o19 (x19 (a0, a1, a2))).trans (orcOf_eq _ ix19 (a0, a1, a2))
theorem r21_C24 : Orc21 C24 := fun a0 a1 => (by kernel_rfl : _ = o21 (x21 (a0, a1))).trans (orcOf_eq _ ix21 (a0, a1))
theorem r23_C24 : Orc23 C24 := fun a0 => (by kernel_rfl : _ = o23 (x23 a0)).trans (orcOf_eq _ ix23 a0)
theorem r25_C24 : Orc25 C24 := fun a0 a1 => (by kernel_rfl : _ = o25 (x25 (a0, a1))).trans (orcOf_eq _ ix25 (a0, a1))
theorem ok9 (args : List A) (r : A) (h : o9 args = some r) : CallOK Try.prog (cx C0).glob 9 args r := by
  obtain ⟨x, rfl, hx⟩ := orcOf_ok h
  simp only [Option.map_eq_some_iff] at hx
  obtain ⟨y, hy, rfl⟩ := hx
  exact ok_J (f := fun (y : Bool) => (A.v (Value.bool y))) orc_C24 (by kernel_rfl) (T9 C24 fuel0 (r10_C24) (r11_C24) (r14_C24) (r17_C24) (r19_C24) (r21_C24) (r23_C24) (r25_C24) x.1 x.2.1 x.2.2.1 x.2.2.2) hy
noncomputable def C25 : Nat → List A → Option A := upd C24 9 o9
theorem orc_C25 : OrcOK (cx C25) := orc_upd orc_C24 ok9
end Go.Proofs.Ythoomfjliekbdaa
