/-
  What is proved of the functions, put together: by a tool.
-/
import Derived.Test.YtgcobbhbfkjkeaaT
namespace Go.Proofs.Ytgcobbhbfkjkeaa
set_option linter.unusedVariables false
set_option linter.unusedSimpArgs false
set_option maxHeartbeats 4000000
set_option maxRecDepth 100000
/-! ### Put together -/
theorem in_S_Packet : Inj c_S_Packet := fun x y h => by
  obtain ⟨xFrom, xTo, xData⟩ := x; obtain ⟨yFrom, yTo, yData⟩ := y
  simp only [c_S_Packet, List.cons.injEq, A.v.injEq, A.imm.injEq, Value.int.injEq, Value.bool.injEq, Value.string.injEq, and_true, true_and, map_inj (in_c8)] at h
  simp_all

theorem in_A2_int_i64 : Inj c_A2_int_i64 := fun x y h => by
  obtain ⟨x0, x1⟩ := x; obtain ⟨y0, y1⟩ := y
  simp only [c_A2_int_i64, List.cons.injEq, A.v.injEq, A.imm.injEq, Value.int.injEq, Value.bool.injEq, Value.string.injEq, and_true, true_and] at h
  simp_all

theorem in_S_Net : Inj c_S_Net := fun x y h => by
  obtain ⟨xQueue, xApart⟩ := x; obtain ⟨yQueue, yApart⟩ := y
  simp only [c_S_Net, List.cons.injEq, A.v.injEq, A.imm.injEq, Value.int.injEq, Value.bool.injEq, Value.string.injEq, and_true, true_and, map_inj (in_S_Packet), map_inj (in_c8), map_inj (in_A2_int_i64)] at h
  simp_all

theorem in_S_kinespherelaw06_Move : Inj c_S_kinespherelaw06_Move := fun x y h => by
  obtain ⟨xKind, xAt, xA, xB, xData⟩ := x; obtain ⟨yKind, yAt, yA, yB, yData⟩ := y
  simp only [c_S_kinespherelaw06_Move, List.cons.injEq, A.v.injEq, A.imm.injEq, Value.int.injEq, Value.bool.injEq, Value.string.injEq, and_true, true_and] at h
  simp_all

noncomputable def C0 : Nat → List A → Option A := fun _ _ => none
theorem orc0 : OrcOK (cx C0) := fun k args r _ h => (by cases h)
theorem orc_upd {C : Nat → List A → Option A} {k : Nat} {c : List A → Option A} (h : OrcOK (cx C)) (hc : ∀ args r, c args = some r → CallOK Try.prog (cx C0).glob k args r) : OrcOK (cx (upd C k c)) := fun j args r hi hr => by
  simp only [cx, upd] at hr
  rw [bcond] at hr
  split at hr
  · rename_i hj
    rw [Nat.eq_of_beq_eq_true hj]; exact hc args r hr
  · exact h j args r hi hr
def x16 (x : Unit) : List A := []
theorem ix16 : Inj x16 := fun _ _ _ => rfl
noncomputable def o16 (args : List A) : Option A := orcOf x16 (fun x => (G16 ).map fun y => (A.agg [(A.imm (List.map c_S_Packet y.Queue) false), (A.imm (List.map c_A2_int_i64 y.Apart) false)])) args
theorem ok16 (args : List A) (r : A) (h : o16 args = some r) : CallOK Try.prog (cx C0).glob 16 args r := by
  obtain ⟨x, rfl, hx⟩ := orcOf_ok h
  simp only [Option.map_eq_some_iff] at hx
  obtain ⟨y, hy, rfl⟩ := hx
  exact ok_J (f := fun (y : S_Net) => (A.agg [(A.imm (List.map c_S_Packet y.Queue) false), (A.imm (List.map c_A2_int_i64 y.Apart) false)])) orc0 (by kernel_rfl) (T16 C0 fuel0  ) hy
noncomputable def C1 : Nat → List A → Option A := upd C0 16 o16
theorem orc_C1 : OrcOK (cx C1) := orc_upd orc0 ok16
def x37 (x : Int × Int) : List A := [(A.v (Value.int .i64 x.1)), (A.v (Value.int .i64 x.2))]
theorem ix37 : Inj x37 := fun x y h => by
  simp only [x37, List.cons.injEq, A.v.injEq, A.agg.injEq, A.imm.injEq, Value.int.injEq, Value.bool.injEq, Value.string.injEq, and_true, true_and] at h
  obtain ⟨xa0, xa1⟩ := x
  obtain ⟨ya0, ya1⟩ := y
  simp_all
noncomputable def o37 (args : List A) : Option A := orcOf x37 (fun x => (G37 x.1 x.2).map fun y => (A.agg [(A.v (Value.int .i64 y.1)), (A.v (Value.int .i64 y.2))])) args
theorem ok37 (args : List A) (r : A) (h : o37 args = some r) : CallOK Try.prog (cx C0).glob 37 args r := by
  obtain ⟨x, rfl, hx⟩ := orcOf_ok h
  simp only [Option.map_eq_some_iff] at hx
  obtain ⟨y, hy, rfl⟩ := hx
  exact ok_J (f := fun (y : (Int × Int)) => (A.agg [(A.v (Value.int .i64 y.1)), (A.v (Value.int .i64 y.2))])) orc_C1 (by kernel_rfl) (T37 C1 fuel0  x.1 x.2) hy
noncomputable def C2 : Nat → List A → Option A := upd C1 37 o37
theorem orc_C2 : OrcOK (cx C2) := orc_upd orc_C1 ok37
def x32 (x : (Int × Int)) : List A := [(A.agg [(A.v (Value.int .i64 x.1)), (A.v (Value.int .i64 x.2))])]
theorem ix32 : Inj x32 := fun x y h => by
  simp only [x32, List.cons.injEq, A.v.injEq, A.agg.injEq, A.imm.injEq, Value.int.injEq, Value.bool.injEq, Value.string.injEq, and_true, true_and] at h
  obtain ⟨xa00, xa01⟩ := x
  obtain ⟨ya00, ya01⟩ := y
  simp_all
noncomputable def o32 (args : List A) : Option A := orcOf x32 (fun x => (G32 x).map fun y => (A.v (Value.bool y))) args
theorem ok32 (args : List A) (r : A) (h : o32 args = some r) : CallOK Try.prog (cx C0).glob 32 args r := by
  obtain ⟨x, rfl, hx⟩ := orcOf_ok h
  simp only [Option.map_eq_some_iff] at hx
  obtain ⟨y, hy, rfl⟩ := hx
  exact ok_J (f := fun (y : Bool) => (A.v (Value.bool y))) orc_C2 (by kernel_rfl) (T32 C2 fuel0  x) hy
noncomputable def C3 : Nat → List A → Option A := upd C2 32 o32
theorem orc_C3 : OrcOK (cx C3) := orc_upd orc_C2 ok32
def x28 (x : S_Packet) : List A := [(A.agg [(A.v (Value.int .i64 x.From)), (A.v (Value.int .i64 x.To)), (A.imm (List.map c8 x.Data) false)])]
theorem ix28 : Inj x28 := fun x y h => by
  simp only [x28, List.cons.injEq, A.v.injEq, A.agg.injEq, A.imm.injEq, Value.int.injEq, Value.bool.injEq, Value.string.injEq, and_true, true_and, map_inj (in_c8)] at h
  obtain ⟨xa0From, xa0To, xa0Data⟩ := x
  obtain ⟨ya0From, ya0To, ya0Data⟩ := y
  simp_all
noncomputable def o28 (args : List A) : Option A := orcOf x28 (fun x => (G28 x).map fun y => (A.v (Value.bool y))) args
theorem r32_C3 : Orc32 C3 := fun a0 => (by kernel_rfl : _ = o32 (x32 a0)).trans (orcOf_eq _ ix32 a0)
theorem r37_C3 : Orc37 C3 := fun a0 a1 => (by kernel_rfl : _ = o37 (x37 (a0, a1))).trans (orcOf_eq _ ix37 (a0, a1))
theorem ok28 (args : List A) (r : A) (h : o28 args = some r) : CallOK Try.prog (cx C0).glob 28 args r := by
  obtain ⟨x, rfl, hx⟩ := orcOf_ok h
  simp only [Option.map_eq_some_iff] at hx
  obtain ⟨y, hy, rfl⟩ := hx
  exact ok_J (f := fun (y : Bool) => (A.v (Value.bool y))) orc_C3 (by kernel_rfl) (T28 C3 fuel0 (r32_C3) (r37_C3) x) hy
noncomputable def C4 : Nat → List A → Option A := upd C3 28 o28
theorem orc_C4 : OrcOK (cx C4) := orc_upd orc_C3 ok28
def x31 (x : S_Packet) : List A := [(A.agg [(A.v (Value.int .i64 x.From)), (A.v (Value.int .i64 x.To)), (A.imm (List.map c8 x.Data) false)])]
theorem ix31 : Inj x31 := fun x y h => by
  simp only [x31, List.cons.injEq, A.v.injEq, A.agg.injEq, A.imm.injEq, Value.int.injEq, Value.bool.injEq, Value.string.injEq, and_true, true_and, map_inj (in_c8)] at h
  obtain ⟨xa0From, xa0To, xa0Data⟩ := x
  obtain ⟨ya0From, ya0To, ya0Data⟩ := y
  simp_all
noncomputable def o31 (args : List A) : Option A := orcOf x31 (fun x => (G31 x).map fun y => (A.v (Value.bool y))) args
theorem r28_C4 : Orc28 C4 := fun a0 => (by kernel_rfl : _ = o28 (x28 a0)).trans (orcOf_eq _ ix28 a0)
theorem ok31 (args : List A) (r : A) (h : o31 args = some r) : CallOK Try.prog (cx C0).glob 31 args r := by
  obtain ⟨x, rfl, hx⟩ := orcOf_ok h
  simp only [Option.map_eq_some_iff] at hx
  obtain ⟨y, hy, rfl⟩ := hx
  exact ok_J (f := fun (y : Bool) => (A.v (Value.bool y))) orc_C4 (by kernel_rfl) (T31 C4 fuel0 (r28_C4) x) hy
noncomputable def C5 : Nat → List A → Option A := upd C4 31 o31
theorem orc_C5 : OrcOK (cx C5) := orc_upd orc_C4 ok31
def x43_31 (x : (List S_Packet)) : List A := [(A.imm (List.map c_S_Packet x) false), (A.fn (Fn.func 31) [] [])]
theorem ix43_31 : Inj x43_31 := fun x y h => by
  simp only [x43_31, List.cons.injEq, A.v.injEq, A.agg.injEq, A.imm.injEq, Value.int.injEq, Value.bool.injEq, Value.string.injEq, and_true, true_and, map_inj (in_S_Packet), map_inj (in_c8)] at h
  exact h
noncomputable def o43_31 (args : List A) : Option A := orcOf x43_31 (fun x => (G43_31 x).map fun y => (A.v (Value.int .i64 y))) args
theorem r31_C5 : Orc31 C5 := fun a0 => (by kernel_rfl : _ = o31 (x31 a0)).trans (orcOf_eq _ ix31 a0)
theorem ok43_31 (args : List A) (r : A) (h : o43_31 args = some r) : CallOK Try.prog (cx C0).glob 43 args r := by
  obtain ⟨x, rfl, hx⟩ := orcOf_ok h
  simp only [Option.map_eq_some_iff] at hx
  obtain ⟨y, hy, rfl⟩ := hx
  exact ok_J (f := fun (y : Int) => (A.v (Value.int .i64 y))) orc_C5 (by kernel_rfl) (T43_31 C5 fuel0 (r31_C5) x) hy
noncomputable def C6 : Nat → List A → Option A := upd C5 43 o43_31
theorem orc_C6 : OrcOK (cx C6) := orc_upd orc_C5 ok43_31
def x30_31 (x : (List S_Packet)) : List A := [(A.imm (List.map c_S_Packet x) false), (A.fn (Fn.func 31) [] [])]
theorem ix30_31 : Inj x30_31 := fun x y h => by
  simp only [x30_31, List.cons.injEq, A.v.injEq, A.agg.injEq, A.imm.injEq, Value.int.injEq, Value.bool.injEq, Value.string.injEq, and_true, true_and, map_inj (in_S_Packet), map_inj (in_c8)] at h
  exact h
noncomputable def o30_31 (args : List A) : Option A := orcOf x30_31 (fun x => (G30_31 x).map fun y => (A.v (Value.bool y))) args
theorem r43_31_C6 : Orc43_31 C6 := fun a0 => (by kernel_rfl : _ = o43_31 (x43_31 a0)).trans (orcOf_eq _ ix43_31 a0)
theorem ok30_31 (args : List A) (r : A) (h : o30_31 args = some r) : CallOK Try.prog (cx C0).glob 30 args r := by
  obtain ⟨x, rfl, hx⟩ := orcOf_ok h
  simp only [Option.map_eq_some_iff] at hx
  obtain ⟨y, hy, rfl⟩ := hx
  exact ok_J (f := fun (y : Bool) => (A.v (Value.bool y))) orc_C6 (by kernel_rfl) (T30_31 C6 fuel0 (r43_31_C6) x) hy
noncomputable def C7 : Nat → List A → Option A := upd C6 30 o30_31
theorem orc_C7 : OrcOK (cx C7) := orc_upd orc_C6 ok30_31
def x47 (x : Int) : List A := [(A.v (Value.int .i64 x))]
theorem ix47 : Inj x47 := fun x y h => by
  simp only [x47, List.cons.injEq, A.v.injEq, A.agg.injEq, A.imm.injEq, Value.int.injEq, Value.bool.injEq, Value.string.injEq, and_true, true_and] at h
  exact h
noncomputable def o47 (args : List A) : Option A := orcOf x47 (fun x => (G47 x).map fun y => (A.v (Value.bool y))) args
theorem ok47 (args : List A) (r : A) (h : o47 args = some r) : CallOK Try.prog (cx C0).glob 47 args r := by
  obtain ⟨x, rfl, hx⟩ := orcOf_ok h
  simp only [Option.map_eq_some_iff] at hx
  obtain ⟨y, hy, rfl⟩ := hx
  exact ok_J (f := fun (y : Bool) => (A.v (Value.bool y))) orc_C7 (by kernel_rfl) (T47 C7 fuel0  x) hy
noncomputable def C8 : Nat → List A → Option A := upd C7 47 o47
theorem orc_C8 : OrcOK (cx C8) := orc_upd orc_C7 ok47
def x13 (x : S_Net) : List A := [(A.agg [(A.imm (List.map c_S_Packet x.Queue) false), (A.imm (List.map c_A2_int_i64 x.Apart) false)])]
theorem ix13 : Inj x13 := fun x y h => by
  simp only [x13, List.cons.injEq, A.v.injEq, A.agg.injEq, A.imm.injEq, Value.int.injEq, Value.bool.injEq, Value.string.injEq, and_true, true_and, map_inj (in_A2_int_i64), map_inj (in_S_Packet), map_inj (in_c8)] at h
  obtain ⟨xa0Queue, xa0Apart⟩ := x
  obtain ⟨ya0Queue, ya0Apart⟩ := y
  simp_all
noncomputable def o13 (args : List A) : Option A := orcOf x13 (fun x => (G13 x).map fun y => (A.v (Value.int .i64 y))) args
theorem r30_31_C8 : Orc30_31 C8 := fun a0 => (by kernel_rfl : _ = o30_31 (x30_31 a0)).trans (orcOf_eq _ ix30_31 a0)
theorem r32_C8 : Orc32 C8 := fun a0 => (by kernel_rfl : _ = o32 (x32 a0)).trans (orcOf_eq _ ix32 a0)
theorem r47_C8 : Orc47 C8 := fun a0 => (by kernel_rfl : _ = o47 (x47 a0)).trans (orcOf_eq _ ix47 a0)
theorem ok13 (args : List A) (r : A) (h : o13 args = some r) : CallOK Try.prog (cx C0).glob 13 args r := by
  obtain ⟨x, rfl, hx⟩ := orcOf_ok h
  simp only [Option.map_eq_some_iff] at hx
  obtain ⟨y, hy, rfl⟩ := hx
  exact ok_J (f := fun (y : Int) => (A.v (Value.int .i64 y))) orc_C8 (by kernel_rfl) (T13 C8 fuel0 (r30_31_C8) (r32_C8) (r47_C8) x) hy
noncomputable def C9 : Nat → List A → Option A := upd C8 13 o13
theorem orc_C9 : OrcOK (cx C9) := orc_upd orc_C8 ok13
def x35 (x : S_Net × Int) : List A := [(A.agg [(A.imm (List.map c_S_Packet x.1.Queue) false), (A.imm (List.map c_A2_int_i64 x.1.Apart) false)]), (A.v (Value.int .i64 x.2))]
theorem ix35 : Inj x35 := fun x y h => by
  simp only [x35, List.cons.injEq, A.v.injEq, A.agg.injEq, A.imm.injEq, Value.int.injEq, Value.bool.injEq, Value.string.injEq, and_true, true_and, map_inj (in_A2_int_i64), map_inj (in_S_Packet), map_inj (in_c8)] at h
  obtain ⟨⟨xa0Queue, xa0Apart⟩, xa1⟩ := x
  obtain ⟨⟨ya0Queue, ya0Apart⟩, ya1⟩ := y
  simp_all
noncomputable def o35 (args : List A) : Option A := orcOf x35 (fun x => (G35 x.1 x.2).map fun y => (A.tup [(A.agg [(A.v (Value.int .i64 y.1.From)), (A.v (Value.int .i64 y.1.To)), (A.imm (List.map c8 y.1.Data) false)]), (A.v (Value.int .i64 y.2))])) args
theorem r13_C9 : Orc13 C9 := fun a0 => (by kernel_rfl : _ = o13 (x13 a0)).trans (orcOf_eq _ ix13 a0)
theorem ok35 (args : List A) (r : A) (h : o35 args = some r) : CallOK Try.prog (cx C0).glob 35 args r := by
  obtain ⟨x, rfl, hx⟩ := orcOf_ok h
  simp only [Option.map_eq_some_iff] at hx
  obtain ⟨y, hy, rfl⟩ := hx
  exact ok_J (f := fun (y : (S_Packet × Int)) => (A.tup [(A.agg [(A.v (Value.int .i64 y.1.From)), (A.v (Value.int .i64 y.1.To)), (A.imm (List.map c8 y.1.Data) false)]), (A.v (Value.int .i64 y.2))])) orc_C9 (by kernel_rfl) (T35 C9 fuel0 (r13_C9) x.1 x.2) hy
noncomputable def C10 : Nat → List A → Option A := upd C9 35 o35
theorem orc_C10 : OrcOK (cx C10) := orc_upd orc_C9 ok35
def x45 (x : (List (Int × Int)) × (Int × Int)) : List A := [(A.imm (List.map c_A2_int_i64 x.1) false), (A.agg [(A.v (Value.int .i64 x.2.1)), (A.v (Value.int .i64 x.2.2))])]
theorem ix45 : Inj x45 := fun x y h => by
  simp only [x45, List.cons.injEq, A.v.injEq, A.agg.injEq, A.imm.injEq, Value.int.injEq, Value.bool.injEq, Value.string.injEq, and_true, true_and, map_inj (in_A2_int_i64)] at h
  obtain ⟨xa0, ⟨xa10, xa11⟩⟩ := x
  obtain ⟨ya0, ⟨ya10, ya11⟩⟩ := y
  simp_all
noncomputable def o45 (args : List A) : Option A := orcOf x45 (fun x => (G45 x.1 x.2).map fun y => (A.v (Value.int .i64 y))) args
theorem ok45 (args : List A) (r : A) (h : o45 args = some r) : CallOK Try.prog (cx C0).glob 45 args r := by
  obtain ⟨x, rfl, hx⟩ := orcOf_ok h
  simp only [Option.map_eq_some_iff] at hx
  obtain ⟨y, hy, rfl⟩ := hx
  exact ok_J (f := fun (y : Int) => (A.v (Value.int .i64 y))) orc_C10 (by kernel_rfl) (T45 C10 fuel0  x.1 x.2) hy
noncomputable def C11 : Nat → List A → Option A := upd C10 45 o45
theorem orc_C11 : OrcOK (cx C11) := orc_upd orc_C10 ok45
def x36 (x : (List (Int × Int)) × (Int × Int)) : List A := [(A.imm (List.map c_A2_int_i64 x.1) false), (A.agg [(A.v (Value.int .i64 x.2.1)), (A.v (Value.int .i64 x.2.2))])]
theorem ix36 : Inj x36 := fun x y h => by
  simp only [x36, List.cons.injEq, A.v.injEq, A.agg.injEq, A.imm.injEq, Value.int.injEq, Value.bool.injEq, Value.string.injEq, and_true, true_and, map_inj (in_A2_int_i64)] at h
  obtain ⟨xa0, ⟨xa10, xa11⟩⟩ := x
  obtain ⟨ya0, ⟨ya10, ya11⟩⟩ := y
  simp_all
noncomputable def o36 (args : List A) : Option A := orcOf x36 (fun x => (G36 x.1 x.2).map fun y => (A.v (Value.bool y))) args
theorem r45_C11 : Orc45 C11 := fun a0 a1 => (by kernel_rfl : _ = o45 (x45 (a0, a1))).trans (orcOf_eq _ ix45 (a0, a1))
theorem ok36 (args : List A) (r : A) (h : o36 args = some r) : CallOK Try.prog (cx C0).glob 36 args r := by
  obtain ⟨x, rfl, hx⟩ := orcOf_ok h
  simp only [Option.map_eq_some_iff] at hx
  obtain ⟨y, hy, rfl⟩ := hx
  exact ok_J (f := fun (y : Bool) => (A.v (Value.bool y))) orc_C11 (by kernel_rfl) (T36 C11 fuel0 (r45_C11) x.1 x.2) hy
noncomputable def C12 : Nat → List A → Option A := upd C11 36 o36
theorem orc_C12 : OrcOK (cx C12) := orc_upd orc_C11 ok36
def x38 (x : S_Net × Int) : List A := [(A.agg [(A.imm (List.map c_S_Packet x.1.Queue) false), (A.imm (List.map c_A2_int_i64 x.1.Apart) false)]), (A.v (Value.int .i64 x.2))]
theorem ix38 : Inj x38 := fun x y h => by
  simp only [x38, List.cons.injEq, A.v.injEq, A.agg.injEq, A.imm.injEq, Value.int.injEq, Value.bool.injEq, Value.string.injEq, and_true, true_and, map_inj (in_A2_int_i64), map_inj (in_S_Packet), map_inj (in_c8)] at h
  obtain ⟨⟨xa0Queue, xa0Apart⟩, xa1⟩ := x
  obtain ⟨⟨ya0Queue, ya0Apart⟩, ya1⟩ := y
  simp_all
noncomputable def o38 (args : List A) : Option A := orcOf x38 (fun x => (G38 x.1 x.2).map fun y => (A.agg [(A.imm (List.map c_S_Packet y.Queue) false), (A.imm (List.map c_A2_int_i64 y.Apart) false)])) args
theorem ok38 (args : List A) (r : A) (h : o38 args = some r) : CallOK Try.prog (cx C0).glob 38 args r := by
  obtain ⟨x, rfl, hx⟩ := orcOf_ok h
  simp only [Option.map_eq_some_iff] at hx
  obtain ⟨y, hy, rfl⟩ := hx
  exact ok_J (f := fun (y : S_Net) => (A.agg [(A.imm (List.map c_S_Packet y.Queue) false), (A.imm (List.map c_A2_int_i64 y.Apart) false)])) orc_C12 (by kernel_rfl) (T38 C12 fuel0  x.1 x.2) hy
noncomputable def C13 : Nat → List A → Option A := upd C12 38 o38
theorem orc_C13 : OrcOK (cx C13) := orc_upd orc_C12 ok38
def x18 (x : S_Net × Int) : List A := [(A.agg [(A.imm (List.map c_S_Packet x.1.Queue) false), (A.imm (List.map c_A2_int_i64 x.1.Apart) false)]), (A.v (Value.int .i64 x.2))]
theorem ix18 : Inj x18 := fun x y h => by
  simp only [x18, List.cons.injEq, A.v.injEq, A.agg.injEq, A.imm.injEq, Value.int.injEq, Value.bool.injEq, Value.string.injEq, and_true, true_and, map_inj (in_A2_int_i64), map_inj (in_S_Packet), map_inj (in_c8)] at h
  obtain ⟨⟨xa0Queue, xa0Apart⟩, xa1⟩ := x
  obtain ⟨⟨ya0Queue, ya0Apart⟩, ya1⟩ := y
  simp_all
noncomputable def o18 (args : List A) : Option A := orcOf x18 (fun x => (G18 x.1 x.2).map fun y => (A.tup [(A.agg [(A.v (Value.int .i64 y.1.From)), (A.v (Value.int .i64 y.1.To)), (A.imm (List.map c8 y.1.Data) false)]), (A.agg [(A.imm (List.map c_S_Packet y.2.1.Queue) false), (A.imm (List.map c_A2_int_i64 y.2.1.Apart) false)]), (A.v (Value.int .i64 y.2.2))])) args
theorem r35_C13 : Orc35 C13 := fun a0 a1 => (by kernel_rfl : _ = o35 (x35 (a0, a1))).trans (orcOf_eq _ ix35 (a0, a1))
theorem r36_C13 : Orc36 C13 := fun a0 a1 => (by kernel_rfl : _ = o36 (x36 (a0, a1))).trans (orcOf_eq _ ix36 (a0, a1))
theorem r37_C13 : Orc37 C13 := fun a0 a1 => (by kernel_rfl : _ = o37 (x37 (a0, a1))).trans (orcOf_eq _ ix37 (a0, a1))
theorem r38_C13 : Orc38 C13 := fun a0 a1 => (by kernel_rfl : _ = o38 (x38 (a0, a1))).trans (orcOf_eq _ ix38 (a0, a1))
theorem ok18 (args : List A) (r : A) (h : o18 args = some r) : CallOK Try.prog (cx C0).glob 18 args r := by
  obtain ⟨x, rfl, hx⟩ := orcOf_ok h
  simp only [Option.map_eq_some_iff] at hx
  obtain ⟨y, hy, rfl⟩ := hx
  exact ok_J (f := fun (y : (S_Packet × S_Net × Int)) => (A.tup [(A.agg [(A.v (Value.int .i64 y.1.From)), (A.v (Value.int .i64 y.1.To)), (A.imm (List.map c8 y.1.Data) false)]), (A.agg [(A.imm (List.map c_S_Packet y.2.1.Queue) false), (A.imm (List.map c_A2_int_i64 y.2.1.Apart) false)]), (A.v (Value.int .i64 y.2.2))])) orc_C13 (by kernel_rfl) (T18 C13 fuel0 (r35_C13) (r36_C13) (r37_C13) (r38_C13) x.1 x.2) hy
noncomputable def C14 : Nat → List A → Option A := upd C13 18 o18
theorem orc_C14 : OrcOK (cx C14) := orc_upd orc_C13 ok18
def x11 (x : S_Net × S_Packet) : List A := [(A.agg [(A.imm (List.map c_S_Packet x.1.Queue) false), (A.imm (List.map c_A2_int_i64 x.1.Apart) false)]), (A.agg [(A.v (Value.int .i64 x.2.From)), (A.v (Value.int .i64 x.2.To)), (A.imm (List.map c8 x.2.Data) false)])]
theorem ix11 : Inj x11 := fun x y h => by
  simp only [x11, List.cons.injEq, A.v.injEq, A.agg.injEq, A.imm.injEq, Value.int.injEq, Value.bool.injEq, Value.string.injEq, and_true, true_and, map_inj (in_A2_int_i64), map_inj (in_S_Packet), map_inj (in_c8)] at h
  obtain ⟨⟨xa0Queue, xa0Apart⟩, ⟨xa1From, xa1To, xa1Data⟩⟩ := x
  obtain ⟨⟨ya0Queue, ya0Apart⟩, ⟨ya1From, ya1To, ya1Data⟩⟩ := y
  simp_all
noncomputable def o11 (args : List A) : Option A := orcOf x11 (fun x => (G11 x.1 x.2).map fun y => (A.tup [(A.agg [(A.imm (List.map c_S_Packet y.1.Queue) false), (A.imm (List.map c_A2_int_i64 y.1.Apart) false)]), (A.v (Value.int .i64 y.2))])) args
theorem r13_C14 : Orc13 C14 := fun a0 => (by kernel_rfl : _ = o13 (x13 a0)).trans (orcOf_eq _ ix13 a0)
theorem r28_C14 : Orc28 C14 := fun a0 => (by kernel_rfl : _ = o28 (x28 a0)).trans (orcOf_eq _ ix28 a0)
theorem ok11 (args : List A) (r : A) (h : o11 args = some r) : CallOK Try.prog (cx C0).glob 11 args r := by
  obtain ⟨x, rfl, hx⟩ := orcOf_ok h
  simp only [Option.map_eq_some_iff] at hx
  obtain ⟨y, hy, rfl⟩ := hx
  exact ok_J (f := fun (y : (S_Net × Int)) => (A.tup [(A.agg [(A.imm (List.map c_S_Packet y.1.Queue) false), (A.imm (List.map c_A2_int_i64 y.1.Apart) false)]), (A.v (Value.int .i64 y.2))])) orc_C14 (by kernel_rfl) (T11 C14 fuel0 (r13_C14) (r28_C14) x.1 x.2) hy
noncomputable def C15 : Nat → List A → Option A := upd C14 11 o11
theorem orc_C15 : OrcOK (cx C15) := orc_upd orc_C14 ok11
def x20 (x : S_Net × Int × Int × Bool) : List A := [(A.agg [(A.imm (List.map c_S_Packet x.1.Queue) false), (A.imm (List.map c_A2_int_i64 x.1.Apart) false)]), (A.v (Value.int .i64 x.2.1)), (A.v (Value.int .i64 x.2.2.1)), (A.v (Value.bool x.2.2.2))]
theorem ix20 : Inj x20 := fun x y h => by
  simp only [x20, List.cons.injEq, A.v.injEq, A.agg.injEq, A.imm.injEq, Value.int.injEq, Value.bool.injEq, Value.string.injEq, and_true, true_and, map_inj (in_A2_int_i64), map_inj (in_S_Packet), map_inj (in_c8)] at h
  obtain ⟨⟨xa0Queue, xa0Apart⟩, xa1, xa2, xa3⟩ := x
  obtain ⟨⟨ya0Queue, ya0Apart⟩, ya1, ya2, ya3⟩ := y
  simp_all
noncomputable def o20 (args : List A) : Option A := orcOf x20 (fun x => (G20 x.1 x.2.1 x.2.2.1 x.2.2.2).map fun y => (A.tup [(A.agg [(A.imm (List.map c_S_Packet y.1.Queue) false), (A.imm (List.map c_A2_int_i64 y.1.Apart) false)]), (A.v (Value.int .i64 y.2))])) args
theorem r13_C15 : Orc13 C15 := fun a0 => (by kernel_rfl : _ = o13 (x13 a0)).trans (orcOf_eq _ ix13 a0)
theorem r32_C15 : Orc32 C15 := fun a0 => (by kernel_rfl : _ = o32 (x32 a0)).trans (orcOf_eq _ ix32 a0)
theorem r36_C15 : Orc36 C15 := fun a0 a1 => (by kernel_rfl : _ = o36 (x36 (a0, a1))).trans (orcOf_eq _ ix36 (a0, a1))
theorem r37_C15 : Orc37 C15 := fun a0 a1 => (by kernel_rfl : _ = o37 (x37 (a0, a1))).trans (orcOf_eq _ ix37 (a0, a1))
theorem ok20 (args : List A) (r : A) (h : o20 args = some r) : CallOK Try.prog (cx C0).glob 20 args r := by
  obtain ⟨x, rfl, hx⟩ := orcOf_ok h
  simp only [Option.map_eq_some_iff] at hx
  obtain ⟨y, hy, rfl⟩ := hx
  exact ok_J (f := fun (y : (S_Net × Int)) => (A.tup [(A.agg [(A.imm (List.map c_S_Packet y.1.Queue) false), (A.imm (List.map c_A2_int_i64 y.1.Apart) false)]), (A.v (Value.int .i64 y.2))])) orc_C15 (by kernel_rfl) (T20 C15 fuel0 (r13_C15) (r32_C15) (r36_C15) (r37_C15) x.1 x.2.1 x.2.2.1 x.2.2.2) hy
noncomputable def C16 : Nat → List A → Option A := upd C15 20 o20
theorem orc_C16 : OrcOK (cx C16) := orc_upd orc_C15 ok20
def x25 (x : S_Net × Int) : List A := [(A.agg [(A.imm (List.map c_S_Packet x.1.Queue) false), (A.imm (List.map c_A2_int_i64 x.1.Apart) false)]), (A.v (Value.int .i64 x.2))]
theorem ix25 : Inj x25 := fun x y h => by
  simp only [x25, List.cons.injEq, A.v.injEq, A.agg.injEq, A.imm.injEq, Value.int.injEq, Value.bool.injEq, Value.string.injEq, and_true, true_and, map_inj (in_A2_int_i64), map_inj (in_S_Packet), map_inj (in_c8)] at h
  obtain ⟨⟨xa0Queue, xa0Apart⟩, xa1⟩ := x
  obtain ⟨⟨ya0Queue, ya0Apart⟩, ya1⟩ := y
  simp_all
noncomputable def o25 (args : List A) : Option A := orcOf x25 (fun x => (G25 x.1 x.2).map fun y => (A.tup [(A.agg [(A.imm (List.map c_S_Packet y.1.Queue) false), (A.imm (List.map c_A2_int_i64 y.1.Apart) false)]), (A.v (Value.int .i64 y.2))])) args
theorem r11_C16 : Orc11 C16 := fun a0 a1 => (by kernel_rfl : _ = o11 (x11 (a0, a1))).trans (orcOf_eq _ ix11 (a0, a1))
theorem r35_C16 : Orc35 C16 := fun a0 a1 => (by kernel_rfl : _ = o35 (x35 (a0, a1))).trans (orcOf_eq _ ix35 (a0, a1))
theorem ok25 (args : List A) (r : A) (h : o25 args = some r) : CallOK Try.prog (cx C0).glob 25 args r := by
  obtain ⟨x, rfl, hx⟩ := orcOf_ok h
  simp only [Option.map_eq_some_iff] at hx
  obtain ⟨y, hy, rfl⟩ := hx
  exact ok_J (f := fun (y : (S_Net × Int)) => (A.tup [(A.agg [(A.imm (List.map c_S_Packet y.1.Queue) false), (A.imm (List.map c_A2_int_i64 y.1.Apart) false)]), (A.v (Value.int .i64 y.2))])) orc_C16 (by kernel_rfl) (T25 C16 fuel0 (r11_C16) (r35_C16) x.1 x.2) hy
noncomputable def C17 : Nat → List A → Option A := upd C16 25 o25
theorem orc_C17 : OrcOK (cx C17) := orc_upd orc_C16 ok25
def x19 (x : S_Packet × S_Packet) : List A := [(A.agg [(A.v (Value.int .i64 x.1.From)), (A.v (Value.int .i64 x.1.To)), (A.imm (List.map c8 x.1.Data) false)]), (A.agg [(A.v (Value.int .i64 x.2.From)), (A.v (Value.int .i64 x.2.To)), (A.imm (List.map c8 x.2.Data) false)])]
theorem ix19 : Inj x19 := fun x y h => by
  simp only [x19, List.cons.injEq, A.v.injEq, A.agg.injEq, A.imm.injEq, Value.int.injEq, Value.bool.injEq, Value.string.injEq, and_true, true_and, map_inj (in_c8)] at h
  obtain ⟨⟨xa0From, xa0To, xa0Data⟩, ⟨xa1From, xa1To, xa1Data⟩⟩ := x
  obtain ⟨⟨ya0From, ya0To, ya0Data⟩, ⟨ya1From, ya1To, ya1Data⟩⟩ := y
  simp_all
noncomputable def o19 (args : List A) : Option A := orcOf x19 (fun x => (G19 x.1 x.2).map fun y => (A.v (Value.bool y))) args
theorem ok19 (args : List A) (r : A) (h : o19 args = some r) : CallOK Try.prog (cx C0).glob 19 args r := by
  obtain ⟨x, rfl, hx⟩ := orcOf_ok h
  simp only [Option.map_eq_some_iff] at hx
  obtain ⟨y, hy, rfl⟩ := hx
  exact ok_J (f := fun (y : Bool) => (A.v (Value.bool y))) orc_C17 (by kernel_rfl) (T19 C17 fuel0  x.1 x.2) hy
noncomputable def C18 : Nat → List A → Option A := upd C17 19 o19
theorem orc_C18 : OrcOK (cx C18) := orc_upd orc_C17 ok19
def x15 (x : S_Net × S_Net) : List A := [(A.agg [(A.imm (List.map c_S_Packet x.1.Queue) false), (A.imm (List.map c_A2_int_i64 x.1.Apart) false)]), (A.agg [(A.imm (List.map c_S_Packet x.2.Queue) false), (A.imm (List.map c_A2_int_i64 x.2.Apart) false)])]
theorem ix15 : Inj x15 := fun x y h => by
  simp only [x15, List.cons.injEq, A.v.injEq, A.agg.injEq, A.imm.injEq, Value.int.injEq, Value.bool.injEq, Value.string.injEq, and_true, true_and, map_inj (in_A2_int_i64), map_inj (in_S_Packet), map_inj (in_c8)] at h
  obtain ⟨⟨xa0Queue, xa0Apart⟩, ⟨xa1Queue, xa1Apart⟩⟩ := x
  obtain ⟨⟨ya0Queue, ya0Apart⟩, ⟨ya1Queue, ya1Apart⟩⟩ := y
  simp_all
noncomputable def o15 (args : List A) : Option A := orcOf x15 (fun x => (G15 x.1 x.2).map fun y => (A.v (Value.bool y))) args
theorem r19_C18 : Orc19 C18 := fun a0 a1 => (by kernel_rfl : _ = o19 (x19 (a0, a1))).trans (orcOf_eq _ ix19 (a0, a1))
theorem ok15 (args : List A) (r : A) (h : o15 args = some r) : CallOK Try.prog (cx C0).glob 15 args r := by
  obtain ⟨x, rfl, hx⟩ := orcOf_ok h
  simp only [Option.map_eq_some_iff] at hx
  obtain ⟨y, hy, rfl⟩ := hx
  exact ok_J (f := fun (y : Bool) => (A.v (Value.bool y))) orc_C18 (by kernel_rfl) (T15 C18 fuel0 (r19_C18) x.1 x.2) hy
noncomputable def C19 : Nat → List A → Option A := upd C18 15 o15
theorem orc_C19 : OrcOK (cx C19) := orc_upd orc_C18 ok15
def x9 (x : Unit) : List A := []
theorem ix9 : Inj x9 := fun _ _ _ => rfl
noncomputable def o9 (args : List A) : Option A := orcOf x9 (fun x => (G9 ).map fun y => (A.v (Value.bool y))) args
theorem r11_C19 : Orc11 C19 := fun a0 a1 => (by kernel_rfl : _ = o11 (x11 (a0, a1))).trans (orcOf_eq _ ix11 (a0, a1))
theorem r13_C19 : Orc13 C19 := fun a0 => (by kernel_rfl : _ = o13 (x13 a0)).trans (orcOf_eq _ ix13 a0)
theorem r15_C19 : Orc15 C19 := fun a0 a1 => (by kernel_rfl : _ = o15 (x15 (a0, a1))).trans (orcOf_eq _ ix15 (a0, a1))
theorem r16_C19 : Orc16 C19 := fun _ => (by kernel_rfl : _ = o16 (x16 ())).trans (orcOf_eq _ ix16 ())
theorem r18_C19 : Orc18 C19 := fun a0 a1 => (by kernel_rfl : _ = o18 (x18 (a0, a1))).trans (orcOf_eq _ ix18 (a0, a1))
theorem r19_C19 : Orc19 C19 := fun a0 a1 => (by kernel_rfl : _ = o19 (x19 (a0, a1))).trans (orcOf_eq _ ix19 (a0, a1))
theorem r20_C19 : Orc20 C19 := fun a0 a1 a2 a3 => (by kernel_rfl : _ = o20 (x20 (a0, a1, a2, a3))).trans (orcOf_eq _ ix20 (a0, a1, a2, a3))
theorem r25_C19 : Orc25 C19 := fun a0 a1 => (by kernel_rfl : _ = o25 (x25 (a0, a1))).trans (orcOf_eq _ ix25 (a0, a1))
theorem ok9 (args : List A) (r : A) (h : o9 args = some r) : CallOK Try.prog (cx C0).glob 9 args r := by
  obtain ⟨x, rfl, hx⟩ := orcOf_ok h
  simp only [Option.map_eq_some_iff] at hx
  obtain ⟨y, hy, rfl⟩ := hx
  exact ok_J (f := fun (y : Bool) => (A.v (Value.bool y))) orc_C19 (by kernel_rfl) (T9 C19 fuel0 (r11_C19) (r13_C19) (r15_C19) (r16_C19) (r18_C19) (r19_C19) (r20_C19) (r25_C19) ) hy
noncomputable def C20 : Nat → List A → Option A := upd C19 9 o9
theorem orc_C20 : OrcOK (cx C20) := orc_upd orc_C19 ok9
def x10 (x : S_Net) : List A := [(A.agg [(A.imm (List.map c_S_Packet x.Queue) false), (A.imm (List.map c_A2_int_i64 x.Apart) false)])]
theorem ix10 : Inj x10 := fun x y h => by
  simp only [x10, List.cons.injEq, A.v.injEq, A.agg.injEq, A.imm.injEq, Value.int.injEq, Value.bool.injEq, Value.string.injEq, and_true, true_and, map_inj (in_A2_int_i64), map_inj (in_S_Packet), map_inj (in_c8)] at h
  obtain ⟨xa0Queue, xa0Apart⟩ := x
  obtain ⟨ya0Queue, ya0Apart⟩ := y
  simp_all
noncomputable def o10 (args : List A) : Option A := orcOf x10 (fun x => (G10 x).map fun y => (A.v (Value.bool y))) args
theorem ok10 (args : List A) (r : A) (h : o10 args = some r) : CallOK Try.prog (cx C0).glob 10 args r := by
  obtain ⟨x, rfl, hx⟩ := orcOf_ok h
  simp only [Option.map_eq_some_iff] at hx
  obtain ⟨y, hy, rfl⟩ := hx
  exact ok_J (f := fun (y : Bool) => (A.v (Value.bool y))) orc_C20 (by kernel_rfl) (T10 C20 fuel0  x) hy
noncomputable def C21 : Nat → List A → Option A := upd C20 10 o10
theorem orc_C21 : OrcOK (cx C21) := orc_upd orc_C20 ok10
def x34 (x : Int) : List A := [(A.v (Value.int .i64 x))]
theorem ix34 : Inj x34 := fun x y h => by
  simp only [x34, List.cons.injEq, A.v.injEq, A.agg.injEq, A.imm.injEq, Value.int.injEq, Value.bool.injEq, Value.string.injEq, and_true, true_and] at h
  exact h
noncomputable def o34 (args : List A) : Option A := orcOf x34 (fun x => (G34 x).map fun y => (A.v (Value.bool y))) args
theorem ok34 (args : List A) (r : A) (h : o34 args = some r) : CallOK Try.prog (cx C0).glob 34 args r := by
  obtain ⟨x, rfl, hx⟩ := orcOf_ok h
  simp only [Option.map_eq_some_iff] at hx
  obtain ⟨y, hy, rfl⟩ := hx
  exact ok_J (f := fun (y : Bool) => (A.v (Value.bool y))) orc_C21 (by kernel_rfl) (T34 C21 fuel0  x) hy
noncomputable def C22 : Nat → List A → Option A := upd C21 34 o34
theorem orc_C22 : OrcOK (cx C22) := orc_upd orc_C21 ok34
def x29 (x : S_Packet) : List A := [(A.agg [(A.v (Value.int .i64 x.From)), (A.v (Value.int .i64 x.To)), (A.imm (List.map c8 x.Data) false)])]
theorem ix29 : Inj x29 := fun x y h => by
  simp only [x29, List.cons.injEq, A.v.injEq, A.agg.injEq, A.imm.injEq, Value.int.injEq, Value.bool.injEq, Value.string.injEq, and_true, true_and, map_inj (in_c8)] at h
  obtain ⟨xa0From, xa0To, xa0Data⟩ := x
  obtain ⟨ya0From, ya0To, ya0Data⟩ := y
  simp_all
noncomputable def o29 (args : List A) : Option A := orcOf x29 (fun x => (G29 x).map fun y => (A.v (Value.bool y))) args
theorem r34_C22 : Orc34 C22 := fun a0 => (by kernel_rfl : _ = o34 (x34 a0)).trans (orcOf_eq _ ix34 a0)
theorem ok29 (args : List A) (r : A) (h : o29 args = some r) : CallOK Try.prog (cx C0).glob 29 args r := by
  obtain ⟨x, rfl, hx⟩ := orcOf_ok h
  simp only [Option.map_eq_some_iff] at hx
  obtain ⟨y, hy, rfl⟩ := hx
  exact ok_J (f := fun (y : Bool) => (A.v (Value.bool y))) orc_C22 (by kernel_rfl) (T29 C22 fuel0 (r34_C22) x) hy
noncomputable def C23 : Nat → List A → Option A := upd C22 29 o29
theorem orc_C23 : OrcOK (cx C23) := orc_upd orc_C22 ok29
def x14 (x : S_Net) : List A := [(A.agg [(A.imm (List.map c_S_Packet x.Queue) false), (A.imm (List.map c_A2_int_i64 x.Apart) false)])]
theorem ix14 : Inj x14 := fun x y h => by
  simp only [x14, List.cons.injEq, A.v.injEq, A.agg.injEq, A.imm.injEq, Value.int.injEq, Value.bool.injEq, Value.string.injEq, and_true, true_and, map_inj (in_A2_int_i64), map_inj (in_S_Packet), map_inj (in_c8)] at h
  obtain ⟨xa0Queue, xa0Apart⟩ := x
  obtain ⟨ya0Queue, ya0Apart⟩ := y
  simp_all
noncomputable def o14 (args : List A) : Option A := orcOf x14 (fun x => (G14 x).map fun y => (A.v (Value.int .i64 y))) args
theorem r29_C23 : Orc29 C23 := fun a0 => (by kernel_rfl : _ = o29 (x29 a0)).trans (orcOf_eq _ ix29 a0)
theorem r34_C23 : Orc34 C23 := fun a0 => (by kernel_rfl : _ = o34 (x34 a0)).trans (orcOf_eq _ ix34 a0)
theorem ok14 (args : List A) (r : A) (h : o14 args = some r) : CallOK Try.prog (cx C0).glob 14 args r := by
  obtain ⟨x, rfl, hx⟩ := orcOf_ok h
  simp only [Option.map_eq_some_iff] at hx
  obtain ⟨y, hy, rfl⟩ := hx
  exact ok_J (f := fun (y : Int) => (A.v (Value.int .i64 y))) orc_C23 (by kernel_rfl) (T14 C23 fuel0 (r29_C23) (r34_C23) x) hy
noncomputable def C24 : Nat → List A → Option A := upd C23 14 o14
theorem orc_C24 : OrcOK (cx C24) := orc_upd orc_C23 ok14
def x12 (x : S_Net × S_Packet) : List A := [(A.agg [(A.imm (List.map c_S_Packet x.1.Queue) false), (A.imm (List.map c_A2_int_i64 x.1.Apart) false)]), (A.agg [(A.v (Value.int .i64 x.2.From)), (A.v (Value.int .i64 x.2.To)), (A.imm (List.map c8 x.2.Data) false)])]
theorem ix12 : Inj x12 := fun x y h => by
  simp only [x12, List.cons.injEq, A.v.injEq, A.agg.injEq, A.imm.injEq, Value.int.injEq, Value.bool.injEq, Value.string.injEq, and_true, true_and, map_inj (in_A2_int_i64), map_inj (in_S_Packet), map_inj (in_c8)] at h
  obtain ⟨⟨xa0Queue, xa0Apart⟩, ⟨xa1From, xa1To, xa1Data⟩⟩ := x
  obtain ⟨⟨ya0Queue, ya0Apart⟩, ⟨ya1From, ya1To, ya1Data⟩⟩ := y
  simp_all
noncomputable def o12 (args : List A) : Option A := orcOf x12 (fun x => (G12 x.1 x.2).map fun y => (A.tup [(A.agg [(A.imm (List.map c_S_Packet y.1.Queue) false), (A.imm (List.map c_A2_int_i64 y.1.Apart) false)]), (A.v (Value.int .i64 y.2))])) args
theorem r14_C24 : Orc14 C24 := fun a0 => (by kernel_rfl : _ = o14 (x14 a0)).trans (orcOf_eq _ ix14 a0)
theorem r29_C24 : Orc29 C24 := fun a0 => (by kernel_rfl : _ = o29 (x29 a0)).trans (orcOf_eq _ ix29 a0)
theorem ok12 (args : List A) (r : A) (h : o12 args = some r) : CallOK Try.prog (cx C0).glob 12 args r := by
  obtain ⟨x, rfl, hx⟩ := orcOf_ok h
  simp only [Option.map_eq_some_iff] at hx
  obtain ⟨y, hy, rfl⟩ := hx
  exact ok_J (f := fun (y : (S_Net × Int)) => (A.tup [(A.agg [(A.imm (List.map c_S_Packet y.1.Queue) false), (A.imm (List.map c_A2_int_i64 y.1.Apart) false)]), (A.v (Value.int .i64 y.2))])) orc_C24 (by kernel_rfl) (T12 C24 fuel0 (r14_C24) (r29_C24) x.1 x.2) hy
noncomputable def C25 : Nat → List A → Option A := upd C24 12 o12
theorem orc_C25 : OrcOK (cx C25) := orc_upd orc_C24 ok12
def x17 (x : Unit) : List A := []
theorem ix17 : Inj x17 := fun _ _ _ => rfl
noncomputable def o17 (args : List A) : Option A := orcOf x17 (fun x => (G17 ).map fun y => (A.agg [(A.imm (List.map c_S_Packet y.Queue) false), (A.imm (List.map c_A2_int_i64 y.Apart) false)])) args
theorem ok17 (args : List A) (r : A) (h : o17 args = some r) : CallOK Try.prog (cx C0).glob 17 args r := by
  obtain ⟨x, rfl, hx⟩ := orcOf_ok h
  simp only [Option.map_eq_some_iff] at hx
  obtain ⟨y, hy, rfl⟩ := hx
  exact ok_J (f := fun (y : S_Net) => (A.agg [(A.imm (List.map c_S_Packet y.Queue) false), (A.imm (List.map c_A2_int_i64 y.Apart) false)])) orc_C25 (by kernel_rfl) (T17 C25 fuel0  ) hy
noncomputable def C26 : Nat → List A → Option A := upd C25 17 o17
theorem orc_C26 : OrcOK (cx C26) := orc_upd orc_C25 ok17
def x3 (x : S_Net × S_Packet) : List A := [(A.agg [(A.imm (List.map c_S_Packet x.1.Queue) false), (A.imm (List.map c_A2_int_i64 x.1.Apart) false)]), (A.agg [(A.v (Value.int .i64 x.2.From)), (A.v (Value.int .i64 x.2.To)), (A.imm (List.map c8 x.2.Data) false)])]
theorem ix3 : Inj x3 := fun x y h => by
  simp only [x3, List.cons.injEq, A.v.injEq, A.agg.injEq, A.imm.injEq, Value.int.injEq, Value.bool.injEq, Value.string.injEq, and_true, true_and, map_inj (in_A2_int_i64), map_inj (in_S_Packet), map_inj (in_c8)] at h
  obtain ⟨⟨xa0Queue, xa0Apart⟩, ⟨xa1From, xa1To, xa1Data⟩⟩ := x
  obtain ⟨⟨ya0Queue, ya0Apart⟩, ⟨ya1From, ya1To, ya1Data⟩⟩ := y
  simp_all
noncomputable def o3 (args : List A) : Option A := orcOf x3 (fun x => (G3 x.1 x.2).map fun y => (A.v (Value.bool y))) args
theorem r10_C26 : Orc10 C26 := fun a0 => (by kernel_rfl : _ = o10 (x10 a0)).trans (orcOf_eq _ ix10 a0)
theorem r11_C26 : Orc11 C26 := fun a0 a1 => (by kernel_rfl : _ = o11 (x11 (a0, a1))).trans (orcOf_eq _ ix11 (a0, a1))
theorem r12_C26 : Orc12 C26 := fun a0 a1 => (by kernel_rfl : _ = o12 (x12 (a0, a1))).trans (orcOf_eq _ ix12 (a0, a1))
theorem r13_C26 : Orc13 C26 := fun a0 => (by kernel_rfl : _ = o13 (x13 a0)).trans (orcOf_eq _ ix13 a0)
theorem r14_C26 : Orc14 C26 := fun a0 => (by kernel_rfl : _ = o14 (x14 a0)).trans (orcOf_eq _ ix14 a0)
theorem r15_C26 : Orc15 C26 := fun a0 a1 => (by kernel_rfl : _ = o15 (x15 (a0, a1))).trans (orcOf_eq _ ix15 (a0, a1))
theorem r16_C26 : Orc16 C26 := fun _ => (by kernel_rfl : _ = o16 (x16 ())).trans (orcOf_eq _ ix16 ())
theorem r17_C26 : Orc17 C26 := fun _ => (by kernel_rfl : _ = o17 (x17 ())).trans (orcOf_eq _ ix17 ())
theorem r9_C26 : Orc9 C26 := fun _ => (by kernel_rfl : _ = o9 (x9 ())).trans (orcOf_eq _ ix9 ())
theorem ok3 (args : List A) (r : A) (h : o3 args = some r) : CallOK Try.prog (cx C0).glob 3 args r := by
  obtain ⟨x, rfl, hx⟩ := orcOf_ok h
  simp only [Option.map_eq_some_iff] at hx
  obtain ⟨y, hy, rfl⟩ := hx
  exact ok_J (f := fun (y : Bool) => (A.v (Value.bool y))) orc_C26 (by kernel_rfl) (T3 C26 fuel0 (r10_C26) (r11_C26) (r12_C26) (r13_C26) (r14_C26) (r15_C26) (r16_C26) (r17_C26) (r9_C26) x.1 x.2) hy
noncomputable def C27 : Nat → List A → Option A := upd C26 3 o3
theorem orc_C27 : OrcOK (cx C27) := orc_upd orc_C26 ok3
def x4 (x : (List S_Packet) × (List UInt8)) : List A := [(A.imm (List.map c_S_Packet x.1) false), (A.imm (List.map c8 x.2) false)]
theorem ix4 : Inj x4 := fun x y h => by
  simp only [x4, List.cons.injEq, A.v.injEq, A.agg.injEq, A.imm.injEq, Value.int.injEq, Value.bool.injEq, Value.string.injEq, and_true, true_and, map_inj (in_S_Packet), map_inj (in_c8)] at h
  obtain ⟨xa0, xa1⟩ := x
  obtain ⟨ya0, ya1⟩ := y
  simp_all
noncomputable def o4 (args : List A) : Option A := orcOf x4 (fun x => (G4 x.1 x.2).map fun y => (A.v (Value.bool y))) args
theorem r11_C27 : Orc11 C27 := fun a0 a1 => (by kernel_rfl : _ = o11 (x11 (a0, a1))).trans (orcOf_eq _ ix11 (a0, a1))
theorem r16_C27 : Orc16 C27 := fun _ => (by kernel_rfl : _ = o16 (x16 ())).trans (orcOf_eq _ ix16 ())
theorem r18_C27 : Orc18 C27 := fun a0 a1 => (by kernel_rfl : _ = o18 (x18 (a0, a1))).trans (orcOf_eq _ ix18 (a0, a1))
theorem r19_C27 : Orc19 C27 := fun a0 a1 => (by kernel_rfl : _ = o19 (x19 (a0, a1))).trans (orcOf_eq _ ix19 (a0, a1))
theorem r9_C27 : Orc9 C27 := fun _ => (by kernel_rfl : _ = o9 (x9 ())).trans (orcOf_eq _ ix9 ())
theorem ok4 (args : List A) (r : A) (h : o4 args = some r) : CallOK Try.prog (cx C0).glob 4 args r := by
  obtain ⟨x, rfl, hx⟩ := orcOf_ok h
  simp only [Option.map_eq_some_iff] at hx
  obtain ⟨y, hy, rfl⟩ := hx
  exact ok_J (f := fun (y : Bool) => (A.v (Value.bool y))) orc_C27 (by kernel_rfl) (T4 C27 fuel0 (r11_C27) (r16_C27) (r18_C27) (r19_C27) (r9_C27) x.1 x.2) hy
noncomputable def C28 : Nat → List A → Option A := upd C27 4 o4
theorem orc_C28 : OrcOK (cx C28) := orc_upd orc_C27 ok4
def x5 (x : S_Net × Int × Int × Int) : List A := [(A.agg [(A.imm (List.map c_S_Packet x.1.Queue) false), (A.imm (List.map c_A2_int_i64 x.1.Apart) false)]), (A.v (Value.int .i64 x.2.1)), (A.v (Value.int .i64 x.2.2.1)), (A.v (Value.int .u64 x.2.2.2))]
theorem ix5 : Inj x5 := fun x y h => by
  simp only [x5, List.cons.injEq, A.v.injEq, A.agg.injEq, A.imm.injEq, Value.int.injEq, Value.bool.injEq, Value.string.injEq, and_true, true_and, map_inj (in_A2_int_i64), map_inj (in_S_Packet), map_inj (in_c8)] at h
  obtain ⟨⟨xa0Queue, xa0Apart⟩, xa1, xa2, xa3⟩ := x
  obtain ⟨⟨ya0Queue, ya0Apart⟩, ya1, ya2, ya3⟩ := y
  simp_all
noncomputable def o5 (args : List A) : Option A := orcOf x5 (fun x => (G5 x.1 x.2.1 x.2.2.1 x.2.2.2).map fun y => (A.v (Value.bool y))) args
theorem r10_C28 : Orc10 C28 := fun a0 => (by kernel_rfl : _ = o10 (x10 a0)).trans (orcOf_eq _ ix10 a0)
theorem r13_C28 : Orc13 C28 := fun a0 => (by kernel_rfl : _ = o13 (x13 a0)).trans (orcOf_eq _ ix13 a0)
theorem r15_C28 : Orc15 C28 := fun a0 a1 => (by kernel_rfl : _ = o15 (x15 (a0, a1))).trans (orcOf_eq _ ix15 (a0, a1))
theorem r18_C28 : Orc18 C28 := fun a0 a1 => (by kernel_rfl : _ = o18 (x18 (a0, a1))).trans (orcOf_eq _ ix18 (a0, a1))
theorem r19_C28 : Orc19 C28 := fun a0 a1 => (by kernel_rfl : _ = o19 (x19 (a0, a1))).trans (orcOf_eq _ ix19 (a0, a1))
theorem r20_C28 : Orc20 C28 := fun a0 a1 a2 a3 => (by kernel_rfl : _ = o20 (x20 (a0, a1, a2, a3))).trans (orcOf_eq _ ix20 (a0, a1, a2, a3))
theorem r9_C28 : Orc9 C28 := fun _ => (by kernel_rfl : _ = o9 (x9 ())).trans (orcOf_eq _ ix9 ())
theorem ok5 (args : List A) (r : A) (h : o5 args = some r) : CallOK Try.prog (cx C0).glob 5 args r := by
  obtain ⟨x, rfl, hx⟩ := orcOf_ok h
  simp only [Option.map_eq_some_iff] at hx
  obtain ⟨y, hy, rfl⟩ := hx
  exact ok_J (f := fun (y : Bool) => (A.v (Value.bool y))) orc_C28 (by kernel_rfl) (T5 C28 fuel0 (r10_C28) (r13_C28) (r15_C28) (r18_C28) (r19_C28) (r20_C28) (r9_C28) x.1 x.2.1 x.2.2.1 x.2.2.2) hy
noncomputable def C29 : Nat → List A → Option A := upd C28 5 o5
theorem orc_C29 : OrcOK (cx C29) := orc_upd orc_C28 ok5
def x40 (x : S_Net × Int × Int) : List A := [(A.agg [(A.imm (List.map c_S_Packet x.1.Queue) false), (A.imm (List.map c_A2_int_i64 x.1.Apart) false)]), (A.v (Value.int .i64 x.2.1)), (A.v (Value.int .i64 x.2.2))]
theorem ix40 : Inj x40 := fun x y h => by
  simp only [x40, List.cons.injEq, A.v.injEq, A.agg.injEq, A.imm.injEq, Value.int.injEq, Value.bool.injEq, Value.string.injEq, and_true, true_and, map_inj (in_A2_int_i64), map_inj (in_S_Packet), map_inj (in_c8)] at h
  obtain ⟨⟨xa0Queue, xa0Apart⟩, xa1, xa2⟩ := x
  obtain ⟨⟨ya0Queue, ya0Apart⟩, ya1, ya2⟩ := y
  simp_all
noncomputable def o40 (args : List A) : Option A := orcOf x40 (fun x => (G40 x.1 x.2.1 x.2.2).map fun y => (A.v (Value.bool y))) args
theorem ok40 (args : List A) (r : A) (h : o40 args = some r) : CallOK Try.prog (cx C0).glob 40 args r := by
  obtain ⟨x, rfl, hx⟩ := orcOf_ok h
  simp only [Option.map_eq_some_iff] at hx
  obtain ⟨y, hy, rfl⟩ := hx
  exact ok_J (f := fun (y : Bool) => (A.v (Value.bool y))) orc_C29 (by kernel_rfl) (T40 C29 fuel0  x.1 x.2.1 x.2.2) hy
noncomputable def C30 : Nat → List A → Option A := upd C29 40 o40
theorem orc_C30 : OrcOK (cx C30) := orc_upd orc_C29 ok40
def x21 (x : S_Net × Int × Int × Bool) : List A := [(A.agg [(A.imm (List.map c_S_Packet x.1.Queue) false), (A.imm (List.map c_A2_int_i64 x.1.Apart) false)]), (A.v (Value.int .i64 x.2.1)), (A.v (Value.int .i64 x.2.2.1)), (A.v (Value.bool x.2.2.2))]
theorem ix21 : Inj x21 := fun x y h => by
  simp only [x21, List.cons.injEq, A.v.injEq, A.agg.injEq, A.imm.injEq, Value.int.injEq, Value.bool.injEq, Value.string.injEq, and_true, true_and, map_inj (in_A2_int_i64), map_inj (in_S_Packet), map_inj (in_c8)] at h
  obtain ⟨⟨xa0Queue, xa0Apart⟩, xa1, xa2, xa3⟩ := x
  obtain ⟨⟨ya0Queue, ya0Apart⟩, ya1, ya2, ya3⟩ := y
  simp_all
noncomputable def o21 (args : List A) : Option A := orcOf x21 (fun x => (G21 x.1 x.2.1 x.2.2.1 x.2.2.2).map fun y => (A.tup [(A.agg [(A.imm (List.map c_S_Packet y.1.Queue) false), (A.imm (List.map c_A2_int_i64 y.1.Apart) false)]), (A.v (Value.int .i64 y.2))])) args
theorem r14_C30 : Orc14 C30 := fun a0 => (by kernel_rfl : _ = o14 (x14 a0)).trans (orcOf_eq _ ix14 a0)
theorem r34_C30 : Orc34 C30 := fun a0 => (by kernel_rfl : _ = o34 (x34 a0)).trans (orcOf_eq _ ix34 a0)
theorem r40_C30 : Orc40 C30 := fun a0 a1 a2 => (by kernel_rfl : _ = o40 (x40 (a0, a1, a2))).trans (orcOf_eq _ ix40 (a0, a1, a2))
theorem ok21 (args : List A) (r : A) (h : o21 args = some r) : CallOK Try.prog (cx C0).glob 21 args r := by
  obtain ⟨x, rfl, hx⟩ := orcOf_ok h
  simp only [Option.map_eq_some_iff] at hx
  obtain ⟨y, hy, rfl⟩ := hx
  exact ok_J (f := fun (y : (S_Net × Int)) => (A.tup [(A.agg [(A.imm (List.map c_S_Packet y.1.Queue) false), (A.imm (List.map c_A2_int_i64 y.1.Apart) false)]), (A.v (Value.int .i64 y.2))])) orc_C30 (by kernel_rfl) (T21 C30 fuel0 (r14_C30) (r34_C30) (r40_C30) x.1 x.2.1 x.2.2.1 x.2.2.2) hy
noncomputable def C31 : Nat → List A → Option A := upd C30 21 o21
theorem orc_C31 : OrcOK (cx C31) := orc_upd orc_C30 ok21
def x41 (x : S_Net × Int) : List A := [(A.agg [(A.imm (List.map c_S_Packet x.1.Queue) false), (A.imm (List.map c_A2_int_i64 x.1.Apart) false)]), (A.v (Value.int .i64 x.2))]
theorem ix41 : Inj x41 := fun x y h => by
  simp only [x41, List.cons.injEq, A.v.injEq, A.agg.injEq, A.imm.injEq, Value.int.injEq, Value.bool.injEq, Value.string.injEq, and_true, true_and, map_inj (in_A2_int_i64), map_inj (in_S_Packet), map_inj (in_c8)] at h
  obtain ⟨⟨xa0Queue, xa0Apart⟩, xa1⟩ := x
  obtain ⟨⟨ya0Queue, ya0Apart⟩, ya1⟩ := y
  simp_all
noncomputable def o41 (args : List A) : Option A := orcOf x41 (fun x => (G41 x.1 x.2).map fun y => (A.v (Value.int .i64 y))) args
theorem r14_C31 : Orc14 C31 := fun a0 => (by kernel_rfl : _ = o14 (x14 a0)).trans (orcOf_eq _ ix14 a0)
theorem ok41 (args : List A) (r : A) (h : o41 args = some r) : CallOK Try.prog (cx C0).glob 41 args r := by
  obtain ⟨x, rfl, hx⟩ := orcOf_ok h
  simp only [Option.map_eq_some_iff] at hx
  obtain ⟨y, hy, rfl⟩ := hx
  exact ok_J (f := fun (y : Int) => (A.v (Value.int .i64 y))) orc_C31 (by kernel_rfl) (T41 C31 fuel0 (r14_C31) x.1 x.2) hy
noncomputable def C32 : Nat → List A → Option A := upd C31 41 o41
theorem orc_C32 : OrcOK (cx C32) := orc_upd orc_C31 ok41
def x42 (x : S_Net × Int) : List A := [(A.agg [(A.imm (List.map c_S_Packet x.1.Queue) false), (A.imm (List.map c_A2_int_i64 x.1.Apart) false)]), (A.v (Value.int .i64 x.2))]
theorem ix42 : Inj x42 := fun x y h => by
  simp only [x42, List.cons.injEq, A.v.injEq, A.agg.injEq, A.imm.injEq, Value.int.injEq, Value.bool.injEq, Value.string.injEq, and_true, true_and, map_inj (in_A2_int_i64), map_inj (in_S_Packet), map_inj (in_c8)] at h
  obtain ⟨⟨xa0Queue, xa0Apart⟩, xa1⟩ := x
  obtain ⟨⟨ya0Queue, ya0Apart⟩, ya1⟩ := y
  simp_all
noncomputable def o42 (args : List A) : Option A := orcOf x42 (fun x => (G42 x.1 x.2).map fun y => (A.agg [(A.imm (List.map c_S_Packet y.Queue) false), (A.imm (List.map c_A2_int_i64 y.Apart) false)])) args
theorem ok42 (args : List A) (r : A) (h : o42 args = some r) : CallOK Try.prog (cx C0).glob 42 args r := by
  obtain ⟨x, rfl, hx⟩ := orcOf_ok h
  simp only [Option.map_eq_some_iff] at hx
  obtain ⟨y, hy, rfl⟩ := hx
  exact ok_J (f := fun (y : S_Net) => (A.agg [(A.imm (List.map c_S_Packet y.Queue) false), (A.imm (List.map c_A2_int_i64 y.Apart) false)])) orc_C32 (by kernel_rfl) (T42 C32 fuel0  x.1 x.2) hy
noncomputable def C33 : Nat → List A → Option A := upd C32 42 o42
theorem orc_C33 : OrcOK (cx C33) := orc_upd orc_C32 ok42
def x22 (x : S_Net × Int) : List A := [(A.agg [(A.imm (List.map c_S_Packet x.1.Queue) false), (A.imm (List.map c_A2_int_i64 x.1.Apart) false)]), (A.v (Value.int .i64 x.2))]
theorem ix22 : Inj x22 := fun x y h => by
  simp only [x22, List.cons.injEq, A.v.injEq, A.agg.injEq, A.imm.injEq, Value.int.injEq, Value.bool.injEq, Value.string.injEq, and_true, true_and, map_inj (in_A2_int_i64), map_inj (in_S_Packet), map_inj (in_c8)] at h
  obtain ⟨⟨xa0Queue, xa0Apart⟩, xa1⟩ := x
  obtain ⟨⟨ya0Queue, ya0Apart⟩, ya1⟩ := y
  simp_all
noncomputable def o22 (args : List A) : Option A := orcOf x22 (fun x => (G22 x.1 x.2).map fun y => (A.tup [(A.agg [(A.v (Value.int .i64 y.1.From)), (A.v (Value.int .i64 y.1.To)), (A.imm (List.map c8 y.1.Data) false)]), (A.agg [(A.imm (List.map c_S_Packet y.2.1.Queue) false), (A.imm (List.map c_A2_int_i64 y.2.1.Apart) false)]), (A.v (Value.int .i64 y.2.2))])) args
theorem r40_C33 : Orc40 C33 := fun a0 a1 a2 => (by kernel_rfl : _ = o40 (x40 (a0, a1, a2))).trans (orcOf_eq _ ix40 (a0, a1, a2))
theorem r41_C33 : Orc41 C33 := fun a0 a1 => (by kernel_rfl : _ = o41 (x41 (a0, a1))).trans (orcOf_eq _ ix41 (a0, a1))
theorem r42_C33 : Orc42 C33 := fun a0 a1 => (by kernel_rfl : _ = o42 (x42 (a0, a1))).trans (orcOf_eq _ ix42 (a0, a1))
theorem ok22 (args : List A) (r : A) (h : o22 args = some r) : CallOK Try.prog (cx C0).glob 22 args r := by
  obtain ⟨x, rfl, hx⟩ := orcOf_ok h
  simp only [Option.map_eq_some_iff] at hx
  obtain ⟨y, hy, rfl⟩ := hx
  exact ok_J (f := fun (y : (S_Packet × S_Net × Int)) => (A.tup [(A.agg [(A.v (Value.int .i64 y.1.From)), (A.v (Value.int .i64 y.1.To)), (A.imm (List.map c8 y.1.Data) false)]), (A.agg [(A.imm (List.map c_S_Packet y.2.1.Queue) false), (A.imm (List.map c_A2_int_i64 y.2.1.Apart) false)]), (A.v (Value.int .i64 y.2.2))])) orc_C33 (by kernel_rfl) (T22 C33 fuel0 (r40_C33) (r41_C33) (r42_C33) x.1 x.2) hy
noncomputable def C34 : Nat → List A → Option A := upd C33 22 o22
theorem orc_C34 : OrcOK (cx C34) := orc_upd orc_C33 ok22
def x23 (x : S_Net × Int) : List A := [(A.agg [(A.imm (List.map c_S_Packet x.1.Queue) false), (A.imm (List.map c_A2_int_i64 x.1.Apart) false)]), (A.v (Value.int .i64 x.2))]
theorem ix23 : Inj x23 := fun x y h => by
  simp only [x23, List.cons.injEq, A.v.injEq, A.agg.injEq, A.imm.injEq, Value.int.injEq, Value.bool.injEq, Value.string.injEq, and_true, true_and, map_inj (in_A2_int_i64), map_inj (in_S_Packet), map_inj (in_c8)] at h
  obtain ⟨⟨xa0Queue, xa0Apart⟩, xa1⟩ := x
  obtain ⟨⟨ya0Queue, ya0Apart⟩, ya1⟩ := y
  simp_all
noncomputable def o23 (args : List A) : Option A := orcOf x23 (fun x => (G23 x.1 x.2).map fun y => (A.tup [(A.agg [(A.imm (List.map c_S_Packet y.1.Queue) false), (A.imm (List.map c_A2_int_i64 y.1.Apart) false)]), (A.v (Value.int .i64 y.2))])) args
theorem r35_C34 : Orc35 C34 := fun a0 a1 => (by kernel_rfl : _ = o35 (x35 (a0, a1))).trans (orcOf_eq _ ix35 (a0, a1))
theorem r38_C34 : Orc38 C34 := fun a0 a1 => (by kernel_rfl : _ = o38 (x38 (a0, a1))).trans (orcOf_eq _ ix38 (a0, a1))
theorem ok23 (args : List A) (r : A) (h : o23 args = some r) : CallOK Try.prog (cx C0).glob 23 args r := by
  obtain ⟨x, rfl, hx⟩ := orcOf_ok h
  simp only [Option.map_eq_some_iff] at hx
  obtain ⟨y, hy, rfl⟩ := hx
  exact ok_J (f := fun (y : (S_Net × Int)) => (A.tup [(A.agg [(A.imm (List.map c_S_Packet y.1.Queue) false), (A.imm (List.map c_A2_int_i64 y.1.Apart) false)]), (A.v (Value.int .i64 y.2))])) orc_C34 (by kernel_rfl) (T23 C34 fuel0 (r35_C34) (r38_C34) x.1 x.2) hy
noncomputable def C35 : Nat → List A → Option A := upd C34 23 o23
theorem orc_C35 : OrcOK (cx C35) := orc_upd orc_C34 ok23
def x24 (x : S_Net × Int) : List A := [(A.agg [(A.imm (List.map c_S_Packet x.1.Queue) false), (A.imm (List.map c_A2_int_i64 x.1.Apart) false)]), (A.v (Value.int .i64 x.2))]
theorem ix24 : Inj x24 := fun x y h => by
  simp only [x24, List.cons.injEq, A.v.injEq, A.agg.injEq, A.imm.injEq, Value.int.injEq, Value.bool.injEq, Value.string.injEq, and_true, true_and, map_inj (in_A2_int_i64), map_inj (in_S_Packet), map_inj (in_c8)] at h
  obtain ⟨⟨xa0Queue, xa0Apart⟩, xa1⟩ := x
  obtain ⟨⟨ya0Queue, ya0Apart⟩, ya1⟩ := y
  simp_all
noncomputable def o24 (args : List A) : Option A := orcOf x24 (fun x => (G24 x.1 x.2).map fun y => (A.tup [(A.agg [(A.imm (List.map c_S_Packet y.1.Queue) false), (A.imm (List.map c_A2_int_i64 y.1.Apart) false)]), (A.v (Value.int .i64 y.2))])) args
theorem r41_C35 : Orc41 C35 := fun a0 a1 => (by kernel_rfl : _ = o41 (x41 (a0, a1))).trans (orcOf_eq _ ix41 (a0, a1))
theorem r42_C35 : Orc42 C35 := fun a0 a1 => (by kernel_rfl : _ = o42 (x42 (a0, a1))).trans (orcOf_eq _ ix42 (a0, a1))
theorem ok24 (args : List A) (r : A) (h : o24 args = some r) : CallOK Try.prog (cx C0).glob 24 args r := by
  obtain ⟨x, rfl, hx⟩ := orcOf_ok h
  simp only [Option.map_eq_some_iff] at hx
  obtain ⟨y, hy, rfl⟩ := hx
  exact ok_J (f := fun (y : (S_Net × Int)) => (A.tup [(A.agg [(A.imm (List.map c_S_Packet y.1.Queue) false), (A.imm (List.map c_A2_int_i64 y.1.Apart) false)]), (A.v (Value.int .i64 y.2))])) orc_C35 (by kernel_rfl) (T24 C35 fuel0 (r41_C35) (r42_C35) x.1 x.2) hy
noncomputable def C36 : Nat → List A → Option A := upd C35 24 o24
theorem orc_C36 : OrcOK (cx C36) := orc_upd orc_C35 ok24
def x26 (x : S_Net × Int) : List A := [(A.agg [(A.imm (List.map c_S_Packet x.1.Queue) false), (A.imm (List.map c_A2_int_i64 x.1.Apart) false)]), (A.v (Value.int .i64 x.2))]
theorem ix26 : Inj x26 := fun x y h => by
  simp only [x26, List.cons.injEq, A.v.injEq, A.agg.injEq, A.imm.injEq, Value.int.injEq, Value.bool.injEq, Value.string.injEq, and_true, true_and, map_inj (in_A2_int_i64), map_inj (in_S_Packet), map_inj (in_c8)] at h
  obtain ⟨⟨xa0Queue, xa0Apart⟩, xa1⟩ := x
  obtain ⟨⟨ya0Queue, ya0Apart⟩, ya1⟩ := y
  simp_all
noncomputable def o26 (args : List A) : Option A := orcOf x26 (fun x => (G26 x.1 x.2).map fun y => (A.tup [(A.agg [(A.imm (List.map c_S_Packet y.1.Queue) false), (A.imm (List.map c_A2_int_i64 y.1.Apart) false)]), (A.v (Value.int .i64 y.2))])) args
theorem r12_C36 : Orc12 C36 := fun a0 a1 => (by kernel_rfl : _ = o12 (x12 (a0, a1))).trans (orcOf_eq _ ix12 (a0, a1))
theorem r41_C36 : Orc41 C36 := fun a0 a1 => (by kernel_rfl : _ = o41 (x41 (a0, a1))).trans (orcOf_eq _ ix41 (a0, a1))
theorem ok26 (args : List A) (r : A) (h : o26 args = some r) : CallOK Try.prog (cx C0).glob 26 args r := by
  obtain ⟨x, rfl, hx⟩ := orcOf_ok h
  simp only [Option.map_eq_some_iff] at hx
  obtain ⟨y, hy, rfl⟩ := hx
  exact ok_J (f := fun (y : (S_Net × Int)) => (A.tup [(A.agg [(A.imm (List.map c_S_Packet y.1.Queue) false), (A.imm (List.map c_A2_int_i64 y.1.Apart) false)]), (A.v (Value.int .i64 y.2))])) orc_C36 (by kernel_rfl) (T26 C36 fuel0 (r12_C36) (r41_C36) x.1 x.2) hy
noncomputable def C37 : Nat → List A → Option A := upd C36 26 o26
theorem orc_C37 : OrcOK (cx C37) := orc_upd orc_C36 ok26
def x6 (x : S_Net × Int × Int × Int × Bool) : List A := [(A.agg [(A.imm (List.map c_S_Packet x.1.Queue) false), (A.imm (List.map c_A2_int_i64 x.1.Apart) false)]), (A.v (Value.int .i64 x.2.1)), (A.v (Value.int .i64 x.2.2.1)), (A.v (Value.int .i64 x.2.2.2.1)), (A.v (Value.bool x.2.2.2.2))]
theorem ix6 : Inj x6 := fun x y h => by
  simp only [x6, List.cons.injEq, A.v.injEq, A.agg.injEq, A.imm.injEq, Value.int.injEq, Value.bool.injEq, Value.string.injEq, and_true, true_and, map_inj (in_A2_int_i64), map_inj (in_S_Packet), map_inj (in_c8)] at h
  obtain ⟨⟨xa0Queue, xa0Apart⟩, xa1, xa2, xa3, xa4⟩ := x
  obtain ⟨⟨ya0Queue, ya0Apart⟩, ya1, ya2, ya3, ya4⟩ := y
  simp_all
noncomputable def o6 (args : List A) : Option A := orcOf x6 (fun x => (G6 x.1 x.2.1 x.2.2.1 x.2.2.2.1 x.2.2.2.2).map fun y => (A.v (Value.bool y))) args
theorem r10_C37 : Orc10 C37 := fun a0 => (by kernel_rfl : _ = o10 (x10 a0)).trans (orcOf_eq _ ix10 a0)
theorem r15_C37 : Orc15 C37 := fun a0 a1 => (by kernel_rfl : _ = o15 (x15 (a0, a1))).trans (orcOf_eq _ ix15 (a0, a1))
theorem r18_C37 : Orc18 C37 := fun a0 a1 => (by kernel_rfl : _ = o18 (x18 (a0, a1))).trans (orcOf_eq _ ix18 (a0, a1))
theorem r19_C37 : Orc19 C37 := fun a0 a1 => (by kernel_rfl : _ = o19 (x19 (a0, a1))).trans (orcOf_eq _ ix19 (a0, a1))
theorem r20_C37 : Orc20 C37 := fun a0 a1 a2 a3 => (by kernel_rfl : _ = o20 (x20 (a0, a1, a2, a3))).trans (orcOf_eq _ ix20 (a0, a1, a2, a3))
theorem r21_C37 : Orc21 C37 := fun a0 a1 a2 a3 => (by kernel_rfl : _ = o21 (x21 (a0, a1, a2, a3))).trans (orcOf_eq _ ix21 (a0, a1, a2, a3))
theorem r22_C37 : Orc22 C37 := fun a0 a1 => (by kernel_rfl : _ = o22 (x22 (a0, a1))).trans (orcOf_eq _ ix22 (a0, a1))
theorem r23_C37 : Orc23 C37 := fun a0 a1 => (by kernel_rfl : _ = o23 (x23 (a0, a1))).trans (orcOf_eq _ ix23 (a0, a1))
theorem r24_C37 : Orc24 C37 := fun a0 a1 => (by kernel_rfl : _ = o24 (x24 (a0, a1))).trans (orcOf_eq _ ix24 (a0, a1))
theorem r25_C37 : Orc25 C37 := fun a0 a1 => (by kernel_rfl : _ = o25 (x25 (a0, a1))).trans (orcOf_eq _ ix25 (a0, a1))
theorem r26_C37 : Orc26 C37 := fun a0 a1 => (by kernel_rfl : _ = o26 (x26 (a0, a1))).trans (orcOf_eq _ ix26 (a0, a1))
theorem r9_C37 : Orc9 C37 := fun _ => (by kernel_rfl : _ = o9 (x9 ())).trans (orcOf_eq _ ix9 ())
theorem ok6 (args : List A) (r : A) (h : o6 args = some r) : CallOK Try.prog (cx C0).glob 6 args r := by
  obtain ⟨x, rfl, hx⟩ := orcOf_ok h
  simp only [Option.map_eq_some_iff] at hx
  obtain ⟨y, hy, rfl⟩ := hx
  exact ok_J (f := fun (y : Bool) => (A.v (Value.bool y))) orc_C37 (by kernel_rfl) (T6 C37 fuel0 (r10_C37) (r15_C37) (r18_C37) (r19_C37) (r20_C37) (r21_C37) (r22_C37) (r23_C37) (r24_C37) (r25_C37) (r26_C37) (r9_C37) x.1 x.2.1 x.2.2.1 x.2.2.2.1 x.2.2.2.2) hy
noncomputable def C38 : Nat → List A → Option A := upd C37 6 o6
theorem orc_C38 : OrcOK (cx C38) := orc_upd orc_C37 ok6
def x7 (x : (List S_kinespherelaw06_Move)) : List A := [(A.imm (List.map c_S_kinespherelaw06_Move x) false)]
theorem ix7 : Inj x7 := fun x y h => by
  simp only [x7, List.cons.injEq, A.v.injEq, A.agg.injEq, A.imm.injEq, Value.int.injEq, Value.bool.injEq, Value.string.injEq, and_true, true_and, map_inj (in_S_kinespherelaw06_Move)] at h
  exact h
noncomputable def o7 (args : List A) : Option A := orcOf x7 (fun x => (G7 x).map fun y => (A.v (Value.bool y))) args
theorem r16_C38 : Orc16 C38 := fun _ => (by kernel_rfl : _ = o16 (x16 ())).trans (orcOf_eq _ ix16 ())
theorem r9_C38 : Orc9 C38 := fun _ => (by kernel_rfl : _ = o9 (x9 ())).trans (orcOf_eq _ ix9 ())
theorem ok7 (args : List A) (r : A) (h : o7 args = some r) : CallOK Try.prog (cx C0).glob 7 args r := by
  obtain ⟨x, rfl, hx⟩ := orcOf_ok h
  simp only [Option.map_eq_some_iff] at hx
  obtain ⟨y, hy, rfl⟩ := hx
  exact ok_J (f := fun (y : Bool) => (A.v (Value.bool y))) orc_C38 (by kernel_rfl) (T7 C38 fuel0 (r16_C38) (r9_C38) x) hy
noncomputable def C39 : Nat → List A → Option A := upd C38 7 o7
theorem orc_C39 : OrcOK (cx C39) := orc_upd orc_C38 ok7
def x8 (x : S_Net × Int) : List A := [(A.agg [(A.imm (List.map c_S_Packet x.1.Queue) false), (A.imm (List.map c_A2_int_i64 x.1.Apart) false)]), (A.v (Value.int .u64 x.2))]
theorem ix8 : Inj x8 := fun x y h => by
  simp only [x8, List.cons.injEq, A.v.injEq, A.agg.injEq, A.imm.injEq, Value.int.injEq, Value.bool.injEq, Value.string.injEq, and_true, true_and, map_inj (in_A2_int_i64), map_inj (in_S_Packet), map_inj (in_c8)] at h
  obtain ⟨⟨xa0Queue, xa0Apart⟩, xa1⟩ := x
  obtain ⟨⟨ya0Queue, ya0Apart⟩, ya1⟩ := y
  simp_all
noncomputable def o8 (args : List A) : Option A := orcOf x8 (fun x => (G8 x.1 x.2).map fun y => (A.v (Value.bool y))) args
theorem r10_C39 : Orc10 C39 := fun a0 => (by kernel_rfl : _ = o10 (x10 a0)).trans (orcOf_eq _ ix10 a0)
theorem r11_C39 : Orc11 C39 := fun a0 a1 => (by kernel_rfl : _ = o11 (x11 (a0, a1))).trans (orcOf_eq _ ix11 (a0, a1))
theorem r13_C39 : Orc13 C39 := fun a0 => (by kernel_rfl : _ = o13 (x13 a0)).trans (orcOf_eq _ ix13 a0)
theorem r15_C39 : Orc15 C39 := fun a0 a1 => (by kernel_rfl : _ = o15 (x15 (a0, a1))).trans (orcOf_eq _ ix15 (a0, a1))
theorem r18_C39 : Orc18 C39 := fun a0 a1 => (by kernel_rfl : _ = o18 (x18 (a0, a1))).trans (orcOf_eq _ ix18 (a0, a1))
theorem r23_C39 : Orc23 C39 := fun a0 a1 => (by kernel_rfl : _ = o23 (x23 (a0, a1))).trans (orcOf_eq _ ix23 (a0, a1))
theorem r25_C39 : Orc25 C39 := fun a0 a1 => (by kernel_rfl : _ = o25 (x25 (a0, a1))).trans (orcOf_eq _ ix25 (a0, a1))
theorem r9_C39 : Orc9 C39 := fun _ => (by kernel_rfl : _ = o9 (x9 ())).trans (orcOf_eq _ ix9 ())
theorem ok8 (args : List A) (r : A) (h : o8 args = some r) : CallOK Try.prog (cx C0).glob 8 args r := by
  obtain ⟨x, rfl, hx⟩ := orcOf_ok h
  simp only [Option.map_eq_some_iff] at hx
  obtain ⟨y, hy, rfl⟩ := hx
  exact ok_J (f := fun (y : Bool) => (A.v (Value.bool y))) orc_C39 (by kernel_rfl) (T8 C39 fuel0 (r10_C39) (r11_C39) (r13_C39) (r15_C39) (r18_C39) (r23_C39) (r25_C39) (r9_C39) x.1 x.2) hy
noncomputable def C40 : Nat → List A → Option A := upd C39 8 o8
theorem orc_C40 : OrcOK (cx C40) := orc_upd orc_C39 ok8
end Go.Proofs.Ytgcobbhbfkjkeaa
