/-
  What is proved of the functions, put together: by a tool.
-/
import Derived.Test.YtgcobbhbfkjkeaaT
namespace Go.Proofs.Ytgcobbhbfkjkeaa
set_option linter.unusedVariables false
set_option linter.unusedSimpArgs false
set_option maxHeartbeats 4000000
set_option maxRecDepth 100000
/-! ### Put together -/
theorem in_S_kinespherelaw06_Move : Inj c_S_kinespherelaw06_Move := fun x y h => by
  obtain ⟨xKind, xAt, xA, xB, xData⟩ := x; obtain ⟨yKind, yAt, yA, yB, yData⟩ := y
  simp only [c_S_kinespherelaw06_Move, List.cons.injEq, A.v.injEq, A.imm.injEq, Value.int.injEq, Value.bool.injEq, Value.string.injEq, and_true, true_and] at h
  simp_all

theorem in_S_Packet : Inj c_S_Packet := fun x y h => by
  obtain ⟨xFrom, xTo, xData⟩ := x; obtain ⟨yFrom, yTo, yData⟩ := y
  simp only [c_S_Packet, List.cons.injEq, A.v.injEq, A.imm.injEq, Value.int.injEq, Value.bool.injEq, Value.string.injEq, and_true, true_and, map_inj (in_c8)] at h
  simp_all

theorem in_A2_int_i64 : Inj c_A2_int_i64 := fun x y h => by
  obtain ⟨x0, x1⟩ := x; obtain ⟨y0, y1⟩ := y
  simp only [c_A2_int_i64, List.cons.injEq, A.v.injEq, A.imm.injEq, Value.int.injEq, Value.bool.injEq, Value.string.injEq, and_true, true_and] at h
  simp_all

theorem in_S_Net : Inj c_S_Net := fun x y h => by
  obtain ⟨xQueue, xApart⟩ := x; obtain ⟨yQueue, yApart⟩ := y
  simp only [c_S_Net, List.cons.injEq, A.v.injEq, A.imm.injEq, Value.int.injEq, Value.bool.injEq, Value.string.injEq, and_true, true_and, map_inj (in_S_Packet), map_inj (in_c8), map_inj (in_A2_int_i64)] at h
  simp_all

noncomputable def C0 : Nat → List A → Option A := fun _ _ => none
theorem orc0 : OrcOK (cx C0) := fun k args r _ h => (by cases h)
theorem orc_upd {C : Nat → List A → Option A} {k : Nat} {c : List A → Option A} (h : OrcOK (cx C)) (hc : ∀ args r, c args = some r → CallOK Try.prog (cx C0).glob k args r) : OrcOK (cx (upd C k c)) := fun j args r hi hr => by
  simp only [cx, upd] at hr
  rw [bcond] at hr
  split at hr
  · rename_i hj
    rw [Nat.eq_of_beq_eq_true hj]; exact hc args r hr
  · exact h j args r hi hr
def x16 (x : Unit) : List A := []
theorem ix16 : Inj x16 := fun _ _ _ => rfl
noncomputable def o16 (args : List A) : Option A := orcOf x16 (fun x => (G16 ).map fun y => (A.agg [(A.imm (List.map c_S_Packet y.Queue) false), (A.imm (List.map c_A2_int_i64 y.Apart) false)])) args
theorem ok16 (args : List A) (r : A) (h : o16 args = some r) : CallOK Try.prog (cx C0).glob 16 args r := by
  obtain ⟨x, rfl, hx⟩ := orcOf_ok h
  simp only [Option.map_eq_some_iff] at hx
  obtain ⟨y, hy, rfl⟩ := hx
  exact ok_J (f := fun (y : S_Net) => (A.agg [(A.imm (List.map c_S_Packet y.Queue) false), (A.imm (List.map c_A2_int_i64 y.Apart) false)])) orc0 (by kernel_rfl) (T16 C0 fuel0  ) hy
noncomputable def C1 : Nat → List A → Option A := upd C0 16 o16
theorem orc_C1 : OrcOK (cx C1) := orc_upd orc0 ok16
def x37 (x : Int × Int) : List A := [(A.v (Value.int .i64 x.1)), (A.v (Value.int .i64 x.2))]
theorem ix37 : Inj x37 := fun x y h => by
  simp only [x37, List.cons.injEq, A.v.injEq, A.agg.injEq, A.imm.injEq, Value.int.injEq, Value.bool.injEq, Value.string.injEq, and_true, true_and] at h
  obtain ⟨xa0, xa1⟩ := x
  obtain ⟨ya0, ya1⟩ := y
  simp_all
noncomputable def o37 (args : List A) : Option A := orcOf x37 (fun x => (G37 x.1 x.2).map fun y => (A.agg [(A.v (Value.int .i64 y.1)), (A.v (Value.int .i64 y.2))])) args
theorem ok37 (args : List A) (r : A) (h : o37 args = some r) : CallOK Try.prog (cx C0).glob 37 args r := by
  obtain ⟨x, rfl, hx⟩ := orcOf_ok h
  simp only [Option.map_eq_some_iff] at hx
  obtain ⟨y, hy, rfl⟩ := hx
  exact ok_J (f := fun (y : (Int × Int)) => (A.agg [(A.v (Value.int .i64 y.1)), (A.v (Value.int .i64 y.2))])) orc_C1 (by kernel_rfl) (T37 C1 fuel0  x.1 x.2) hy
noncomputable def C2 : Nat → List A → Option A := upd C1 37 o37
theorem orc_C2 : OrcOK (cx C2) := orc_upd orc_C1 ok37
def x32 (x : (Int × Int)) : List A := [(A.agg [(A.v (Value.int .i64 x.1)), (A.v (Value.int .i64 x.2))])]
theorem ix32 : Inj x32 := fun x y h => by
  simp only [x32, List.cons.injEq, A.v.injEq, A.agg.injEq, A.imm.injEq, Value.int.injEq, Value.bool.injEq, Value.string.injEq, and_true, true_and] at h
  obtain ⟨xa00, xa01⟩ := x
  obtain ⟨ya00, ya01⟩ := y
  simp_all
noncomputable def o32 (args : List A) : Option A := orcOf x32 (fun x => (G32 x).map fun y => (A.v (Value.bool y))) args
theorem ok32 (args : List A) (r : A) (h : o32 args = some r) : CallOK Try.prog (cx C0).glob 32 args r := by
  obtain ⟨x, rfl, hx⟩ := orcOf_ok h
  simp only [Option.map_eq_some_iff] at hx
  obtain ⟨y, hy, rfl⟩ := hx
  exact ok_J (f := fun (y : Bool) => (A.v (Value.bool y))) orc_C2 (by kernel_rfl) (T32 C2 fuel0  x) hy
noncomputable def C3 : Nat → List A → Option A := upd C2 32 o32
theorem orc_C3 : OrcOK (cx C3) := orc_upd orc_C2 ok32
def x28 (x : S_Packet) : List A := [(A.agg [(A.v (Value.int .i64 x.From)), (A.v (Value.int .i64 x.To)), (A.imm (List.map c8 x.Data) false)])]
theorem ix28 : Inj x28 := fun x y h => by
  simp only [x28, List.cons.injEq, A.v.injEq, A.agg.injEq, A.imm.injEq, Value.int.injEq, Value.bool.injEq, Value.string.injEq, and_true, true_and, map_inj (in_c8)] at h
  obtain ⟨xa0From, xa0To, xa0Data⟩ := x
  obtain ⟨ya0From, ya0To, ya0Data⟩ := y
  simp_all
noncomputable def o28 (args : List A) : Option A := orcOf x28 (fun x => (G28 x).map fun y => (A.v (Value.bool y))) args
theorem r32_C3 : Orc32 C3 := fun a0 => (by kernel_rfl : _ = o32 (x32 a0)).trans (orcOf_eq _ ix32 a0)
theorem r37_C3 : Orc37 C3 := fun a0 a1 => (by kernel_rfl : _ = o37 (x37 (a0, a1))).trans (orcOf_eq _ ix37 (a0, a1))
theorem ok28 (args : List A) (r : A) (h : o28 args = some r) : CallOK Try.prog (cx C0).glob 28 args r := by
  obtain ⟨x, rfl, hx⟩ := orcOf_ok h
  simp only [Option.map_eq_some_iff] at hx
  obtain ⟨y, hy, rfl⟩ := hx
  exact ok_J (f := fun (y : Bool) => (A.v (Value.bool y))) orc_C3 (by kernel_rfl) (T28 C3 fuel0 (r32_C3) (r37_C3) x) hy
noncomputable def C4 : Nat → List A → Option A := upd C3 28 o28
theorem orc_C4 : OrcOK (cx C4) := orc_upd orc_C3 ok28
def x31 (x : S_Packet) : List A := [(A.agg [(A.v (Value.int .i64 x.From)), (A.v (Value.int .i64 x.To)), (A.imm (List.map c8 x.Data) false)])]
theorem ix31 : Inj x31 := fun x y h => by
  simp only [x31, List.cons.injEq, A.v.injEq, A.agg.injEq, A.imm.injEq, Value.int.injEq, Value.bool.injEq, Value.string.injEq, and_true, true_and, map_inj (in_c8)] at h
  obtain ⟨xa0From, xa0To, xa0Data⟩ := x
  obtain ⟨ya0From, ya0To, ya0Data⟩ := y
  simp_all
noncomputable def o31 (args : List A) : Option A := orcOf x31 (fun x => (G31 x).map fun y => (A.v (Value.bool y))) args
theorem r28_C4 : Orc28 C4 := fun a0 => (by kernel_rfl : _ = o28 (x28 a0)).trans (orcOf_eq _ ix28 a0)
theorem ok31 (args : List A) (r : A) (h : o31 args = some r) : CallOK Try.prog (cx C0).glob 31 args r := by
  obtain ⟨x, rfl, hx⟩ := orcOf_ok h
  simp only [Option.map_eq_some_iff] at hx
  obtain ⟨y, hy, rfl⟩ := hx
  exact ok_J (f := fun (y : Bool) => (A.v (Value.bool y))) orc_C4 (by kernel_rfl) (T31 C4 fuel0 (r28_C4) x) hy
noncomputable def C5 : Nat → List A → Option A := upd C4 31 o31
theorem orc_C5 : OrcOK (cx C5) := orc_upd orc_C4 ok31
def x43_31 (x : (List S_Packet)) : List A := [(A.imm (List.map c_S_Packet x) false), (A.fn (Fn.func 31) [] [])]
theorem ix43_31 : Inj x43_31 := fun x y h => by
  simp only [x43_31, List.cons.injEq, A.v.injEq, A.agg.injEq, A.imm.injEq, Value.int.injEq, Value.bool.injEq, Value.string.injEq, and_true, true_and, map_inj (in_S_Packet), map_inj (in_c8)] at h
  exact h
noncomputable def o43_31 (args : List A) : Option A := orcOf x43_31 (fun x => (G43_31 x).map fun y => (A.v (Value.int .i64 y))) args
theorem r31_C5 : Orc31 C5 := fun a0 => (by kernel_rfl : _ = o31 (x31 a0)).trans (orcOf_eq _ ix31 a0)
theorem ok43_31 (args : List A) (r : A) (h : o43_31 args = some r) : CallOK Try.prog (cx C0).glob 43 args r := by
  obtain ⟨x, rfl, hx⟩ := orcOf_ok h
  simp only [Option.map_eq_some_iff] at hx
  obtain ⟨y, hy, rfl⟩ := hx
  exact ok_J (f := fun (y : Int) => (A.v (Value.int .i64 y))) orc_C5 (by kernel_rfl) (T43_31 C5 fuel0 (r31_C5) x) hy
noncomputable def C6 : Nat → List A → Option A := upd C5 43 o43_31
theorem orc_C6 : OrcOK (cx C6) := orc_upd orc_C5 ok43_31
def x30_31 (x : (List S_Packet)) : List A := [(A.imm (List.map c_S_Packet x) false), (A.fn (Fn.func 31) [] [])]
theorem ix30_31 : Inj x30_31 := fun x y h => by
  simp only [x30_31, List.cons.injEq, A.v.injEq, A.agg.injEq, A.imm.injEq, Value.int.injEq, Value.bool.injEq, Value.string.injEq, and_true, true_and, map_inj (in_S_Packet), map_inj (in_c8)] at h
  exact h
noncomputable def o30_31 (args : List A) : Option A := orcOf x30_31 (fun x => (G30_31 x).map fun y => (A.v (Value.bool y))) args
theorem r43_31_C6 : Orc43_31 C6 := fun a0 => (by kernel_rfl : _ = o43_31 (x43_31 a0)).trans (orcOf_eq _ ix43_31 a0)
theorem ok30_31 (args : List A) (r : A) (h : o30_31 args = some r) : CallOK Try.prog (cx C0).glob 30 args r := by
  obtain ⟨x, rfl, hx⟩ := orcOf_ok h
  simp only [Option.map_eq_some_iff] at hx
  obtain ⟨y, hy, rfl⟩ := hx
  exact ok_J (f := fun (y : Bool) => (A.v (Value.bool y))) orc_C6 (by kernel_rfl) (T30_31 C6 fuel0 (r43_31_C6) x) hy
noncomputable def C7 : Nat → List A → Option A := upd C6 30 o30_31
theorem orc_C7 : OrcOK (cx C7) := orc_upd orc_C6 ok30_31
def x47 (x : Int) : List A := [(A.v (Value.int .i64 x))]
theorem ix47 : Inj x47 := fun x y h => by
  simp only [x47, List.cons.injEq, A.v.injEq, A.agg.injEq, A.imm.injEq, Value.int.injEq, Value.bool.injEq, Value.string.injEq, and_true, true_and] at h
  exact h
noncomputable def o47 (args : List A) : Option A := orcOf x47 (fun x => (G47 x).map fun y => (A.v (Value.bool y))) args
theorem ok47 (args : List A) (r : A) (h : o47 args = some r) : CallOK Try.prog (cx C0).glob 47 args r := by
  obtain ⟨x, rfl, hx⟩ := orcOf_ok h
  simp only [Option.map_eq_some_iff] at hx
  obtain ⟨y, hy, rfl⟩ := hx
  exact ok_J (f := fun (y : Bool) => (A.v (Value.bool y))) orc_C7 (by kernel_rfl) (T47 C7 fuel0  x) hy
noncomputable def C8 : Nat → List A → Option A := upd C7 47 o47
theorem orc_C8 : OrcOK (cx C8) := orc_upd orc_C7 ok47
def x13 (x : S_Net) : List A := [(A.agg [(A.imm (List.map c_S_Packet x.Queue) false), (A.imm (List.map c_A2_int_i64 x.Apart) false)])]
theorem ix13 : Inj x13 := fun x y h => by
  simp only [x13, List.cons.injEq, A.v.injEq, A.agg.injEq, A.imm.injEq, Value.int.injEq, Value.bool.injEq, Value.string.injEq, and_true, true_and, map_inj (in_A2_int_i64), map_inj (in_S_Packet), map_inj (in_c8)] at h
  obtain ⟨xa0Queue, xa0Apart⟩ := x
  obtain ⟨ya0Queue, ya0Apart⟩ := y
  simp_all
noncomputable def o13 (args : List A) : Option A := orcOf x13 (fun x => (G13 x).map fun y => (A.v (Value.int .i64 y))) args
theorem r30_31_C8 : Orc30_31 C8 := fun a0 => (by kernel_rfl : _ = o30_31 (x30_31 a0)).trans (orcOf_eq _ ix30_31 a0)
theorem r32_C8 : Orc32 C8 := fun a0 => (by kernel_rfl : _ = o32 (x32 a0)).trans (orcOf_eq _ ix32 a0)
theorem r47_C8 : Orc47 C8 := fun a0 => (by kernel_rfl : _ = o47 (x47 a0)).trans (orcOf_eq _ ix47 a0)
theorem ok13 (args : List A) (r : A) (h : o13 args = some r) : CallOK Try.prog (cx C0).glob 13 args r := by
  obtain ⟨x, rfl, hx⟩ := orcOf_ok h
  simp only [Option.map_eq_some_iff] at hx
  obtain ⟨y, hy, rfl⟩ := hx
  exact ok_J (f := fun (y : Int) => (A.v (Value.int .i64 y))) orc_C8 (by kernel_rfl) (T13 C8 fuel0 (r30_31_C8) (r32_C8) (r47_C8) x) hy
noncomputable def C9 : Nat → List A → Option A := upd C8 13 o13
theorem orc_C9 : OrcOK (cx C9) := orc_upd orc_C8 ok13
def x35 (x : S_Net × Int) : List A := [(A.agg [(A.imm (List.map c_S_Packet x.1.Queue) false), (A.imm (List.map c_A2_int_i64 x.1.Apart) false)]), (A.v (Value.int .i64 x.2))]
theorem ix35 : Inj x35 := fun x y h => by
  simp only [x35, List.cons.injEq, A.v.injEq, A.agg.injEq, A.imm.injEq, Value.int.injEq, Value.bool.injEq, Value.string.injEq, and_true, true_and, map_inj (in_A2_int_i64), map_inj (in_S_Packet), map_inj (in_c8)] at h
  obtain ⟨⟨xa0Queue, xa0Apart⟩, xa1⟩ := x
  obtain ⟨⟨ya0Queue, ya0Apart⟩, ya1⟩ := y
  simp_all
noncomputable def o35 (args : List A) : Option A := orcOf x35 (fun x => (G35 x.1 x.2).map fun y => (A.tup [(A.agg [(A.v (Value.int .i64 y.1.From)), (A.v (Value.int .i64 y.1.To)), (A.imm (List.map c8 y.1.Data) false)]), (A.v (Value.int .i64 y.2))])) args
theorem r13_C9 : Orc13 C9 := fun a0 => (by kernel_rfl : _ = o13 (x13 a0)).trans (orcOf_eq _ ix13 a0)
theorem ok35 (args : List A) (r : A) (h : o35 args = some r) : CallOK Try.prog (cx C0).glob 35 args r := by
  obtain ⟨x, rfl, hx⟩ := orcOf_ok h
  simp only [Option.map_eq_some_iff] at hx
  obtain ⟨y, hy, rfl⟩ := hx
  exact ok_J (f := fun (y : (S_Packet × Int)) => (A.tup [(A.agg [(A.v (Value.int .i64 y.1.From)), (A.v (Value.int .i64 y.1.To)), (A.imm (List.map c8 y.1.Data) false)]), (A.v (Value.int .i64 y.2))])) orc_C9 (by kernel_rfl) (T35 C9 fuel0 (r13_C9) x.1 x.2) hy
noncomputable def C10 : Nat → List A → Option A := upd C9 35 o35
theorem orc_C10 : OrcOK (cx C10) := orc_upd orc_C9 ok35
def x45 (x : (List (Int × Int)) × (Int × Int)) : List A := [(A.imm (List.map c_A2_int_i64 x.1) false), (A.agg [(A.v (Value.int .i64 x.2.1)), (A.v (Value.int .i64 x.2.2))])]
theorem ix45 : Inj x45 := fun x y h => by
  simp only [x45, List.cons.injEq, A.v.injEq, A.agg.injEq, A.imm.injEq, Value.int.injEq, Value.bool.injEq, Value.string.injEq, and_true, true_and, map_inj (in_A2_int_i64)] at h
  obtain ⟨xa0, ⟨xa10, xa11⟩⟩ := x
  obtain ⟨ya0, ⟨ya10, ya11⟩⟩ := y
  simp_all
noncomputable def o45 (args : List A) : Option A := orcOf x45 (fun x => (G45 x.1 x.2).map fun y => (A.v (Value.int .i64 y))) args
theorem ok45 (args : List A) (r : A) (h : o45 args = some r) : CallOK Try.prog (cx C0).glob 45 args r := by
  obtain ⟨x, rfl, hx⟩ := orcOf_ok h
  simp only [Option.map_eq_some_iff] at hx
  obtain ⟨y, hy, rfl⟩ := hx
  exact ok_J (f := fun (y : Int) => (A.v (Value.int .i64 y))) orc_C10 (by kernel_rfl) (T45 C10 fuel0  x.1 x.2) hy
noncomputable def C11 : Nat → List A → Option A := upd C10 45 o45
theorem orc_C11 : OrcOK (cx C11) := orc_upd orc_C10 ok45
def x36 (x : (List (Int × Int)) × (Int × Int)) : List A := [(A.imm (List.map c_A2_int_i64 x.1) false), (A.agg [(A.v (Value.int .i64 x.2.1)), (A.v (Value.int .i64 x.2.2))])]
theorem ix36 : Inj x36 := fun x y h => by
  simp only [x36, List.cons.injEq, A.v.injEq, A.agg.injEq, A.imm.injEq, Value.int.injEq, Value.bool.injEq, Value.string.injEq, and_true, true_and, map_inj (in_A2_int_i64)] at h
  obtain ⟨xa0, ⟨xa10, xa11⟩⟩ := x
  obtain ⟨ya0, ⟨ya10, ya11⟩⟩ := y
  simp_all
noncomputable def o36 (args : List A) : Option A := orcOf x36 (fun x => (G36 x.1 x.2).map fun y => (A.v (Value.bool y))) args
theorem r45_C11 : Orc45 C11 := fun a0 a1 => (by kernel_rfl : _ = o45 (x45 (a0, a1))).trans (orcOf_eq _ ix45 (a0, a1))
theorem ok36 (args : List A) (r : A) (h : o36 args = some r) : CallOK Try.prog (cx C0).glob 36 args r := by
  obtain ⟨x, rfl, hx⟩ := orcOf_ok h
  simp only [Option.map_eq_some_iff] at hx
  obtain ⟨y, hy, rfl⟩ := hx
  exact ok_J (f := fun (y : Bool) => (A.v (Value.bool y))) orc_C11 (by kernel_rfl) (T36 C11 fuel0 (r45_C11) x.1 x.2) hy
noncomputable def C12 : Nat → List A → Option A := upd C11 36 o36
theorem orc_C12 : OrcOK (cx C12) := orc_upd orc_C11 ok36
def x38 (x : S_Net × Int) : List A := [(A.agg [(A.imm (List.map c_S_Packet x.1.Queue) false), (A.imm (List.map c_A2_int_i64 x.1.Apart) false)]), (A.v (Value.int .i64 x.2))]
theorem ix38 : Inj x38 := fun x y h => by
  simp only [x38, List.cons.injEq, A.v.injEq, A.agg.injEq, A.imm.injEq, Value.int.injEq, Value.bool.injEq, Value.string.injEq, and_true, true_and, map_inj (in_A2_int_i64), map_inj (in_S_Packet), map_inj (in_c8)] at h
  obtain ⟨⟨xa0Queue, xa0Apart⟩, xa1⟩ := x
  obtain ⟨⟨ya0Queue, ya0Apart⟩, ya1⟩ := y
  simp_all
noncomputable def o38 (args : List A) : Option A := orcOf x38 (fun x => (G38 x.1 x.2).map fun y => (A.agg [(A.imm (List.map c_S_Packet y.Queue) false), (A.imm (List.map c_A2_int_i64 y.Apart) false)])) args
theorem ok38 (args : List A) (r : A) (h : o38 args = some r) : CallOK Try.prog (cx C0).glob 38 args r := by
  obtain ⟨x, rfl, hx⟩ := orcOf_ok h
  simp only [Option.map_eq_some_iff] at hx
  obtain ⟨y, hy, rfl⟩ := hx
  exact ok_J (f := fun (y : S_Net) => (A.agg [(A.imm (List.map c_S_Packet y.Queue) false), (A.imm (List.map c_A2_int_i64 y.Apart) false)])) orc_C12 (by kernel_rfl) (T38 C12 fuel0  x.1 x.2) hy
noncomputable def C13 : Nat → List A → Option A := upd C12 38 o38
theorem orc_C13 : OrcOK (cx C13) := orc_upd orc_C12 ok38
def x18 (x : S_Net × Int) : List A := [(A.agg [(A.imm (List.map c_S_Packet x.1.Queue) false), (A.imm (List.map c_A2_int_i64 x.1.Apart) false)]), (A.v (Value.int .i64 x.2))]
theorem ix18 : Inj x18 := fun x y h => by
  simp only [x18, List.cons.injEq, A.v.injEq, A.agg.injEq, A.imm.injEq, Value.int.injEq, Value.bool.injEq, Value.string.injEq, and_true, true_and, map_inj (in_A2_int_i64), map_inj (in_S_Packet), map_inj (in_c8)] at h
  obtain ⟨⟨xa0Queue, xa0Apart⟩, xa1⟩ := x
  obtain ⟨⟨ya0Queue, ya0Apart⟩, ya1⟩ := y
  simp_all
noncomputable def o18 (args : List A) : Option A := orcOf x18 (fun x => (G18 x.1 x.2).map fun y => (A.tup [(A.agg [(A.v (Value.int .i64 y.1.From)), (A.v (Value.int .i64 y.1.To)), (A.imm (List.map c8 y.1.Data) false)]), (A.agg [(A.imm (List.map c_S_Packet y.2.1.Queue) false), (A.imm (List.map c_A2_int_i64 y.2.1.Apart) false)]), (A.v (Value.int .i64 y.2.2))])) args
theorem r35_C13 : Orc35 C13 := fun a0 a1 => (by kernel_rfl : _ = o35 (x35 (a0, a1))).trans (orcOf_eq _ ix35 (a0, a1))
theorem r36_C13 : Orc36 C13 := fun a0 a1 => (by kernel_rfl : _ = o36 (x36 (a0, a1))).trans (orcOf_eq _ ix36 (a0, a1))
theorem r37_C13 : Orc37 C13 := fun a0 a1 => (by kernel_rfl : _ = o37 (x37 (a0, a1))).trans (orcOf_eq _ ix37 (a0, a1))
theorem r38_C13 : Orc38 C13 := fun a0 a1 => (by kernel_rfl : _ = o38 (x38 (a0, a1))).trans (orcOf_eq _ ix38 (a0, a1))
theorem ok18 (args : List A) (r : A) (h : o18 args = some r) : CallOK Try.prog (cx C0).glob 18 args r := by
  obtain ⟨x, rfl, hx⟩ := orcOf_ok h
  simp only [Option.map_eq_some_iff] at hx
  obtain ⟨y, hy, rfl⟩ := hx
  exact ok_J (f := fun (y : (S_Packet × S_Net × Int)) => (A.tup [(A.agg [(A.v (Value.int .i64 y.1.From)), (A.v (Value.int .i64 y.1.To)), (A.imm (List.map c8 y.1.Data) false)]), (A.agg [(A.imm (List.map c_S_Packet y.2.1.Queue) false), (A.imm (List.map c_A2_int_i64 y.2.1.Apart) false)]), (A.v (Value.int .i64 y.2.2))])) orc_C13 (by kernel_rfl) (T18 C13 fuel0 (r35_C13) (r36_C13) (r37_C13) (r38_C13) x.1 x.2) hy
noncomputable def C14 : Nat → List A → Option A := upd C13 18 o18
theorem orc_C14 : OrcOK (cx C14) := orc_upd orc_C13 ok18
def x11 (x : S_Net × S_Packet) : List A := [(A.agg [(A.imm (List.map c_S_Packet x.1.Queue) false), (A.imm (List.map c_A2_int_i64 x.1.Apart) false)]), (A.agg [(A.v (Value.int .i64 x.2.From)), (A.v (Value.int .i64 x.2.To)), (A.imm (List.map c8 x.2.Data) false)])]
theorem ix11 : Inj x11 := fun x y h => by
  simp only [x11, List.cons.injEq, A.v.injEq, A.agg.injEq, A.imm.injEq, Value.int.injEq, Value.bool.injEq, Value.string.injEq, and_true, true_and, map_inj (in_A2_int_i64), map_inj (in_S_Packet), map_inj (in_c8)] at h
  obtain ⟨⟨xa0Queue, xa0Apart⟩, ⟨xa1From, xa1To, xa1Data⟩⟩ := x
  obtain ⟨⟨ya0Queue, ya0Apart⟩, ⟨ya1From, ya1To, ya1Data⟩⟩ := y
  simp_all
noncomputable def o11 (args : List A) : Option A := orcOf x11 (fun x => (G11 x.1 x.2).map fun y => (A.tup [(A.agg [(A.imm (List.map c_S_Packet y.1.Queue) false), (A.imm (List.map c_A2_int_i64 y.1.Apart) false)]), (A.v (Value.int .i64 y.2))])) args
theorem r13_C14 : Orc13 C14 := fun a0 => (by kernel_rfl : _ = o13 (x13 a0)).trans (orcOf_eq _ ix13 a0)
theorem r28_C14 : Orc28 C14 := fun a0 => (by kernel_rfl : _ = o28 (x28 a0)).trans (orcOf_eq _ ix28 a0)
theorem ok11 (args : List A) (r : A) (h : o11 args = some r) : CallOK Try.prog (cx C0).glob 11 args r := by
  obtain ⟨x, rfl, hx⟩ := orcOf_ok h
  simp only [Option.map_eq_some_iff] at hx
  obtain ⟨y, hy, rfl⟩ := hx
  exact ok_J (f := fun (y : (S_Net × Int)) => (A.tup [(A.agg [(A.imm (List.map c_S_Packet y.1.Queue) false), (A.imm (List.map c_A2_int_i64 y.1.Apart) false)]), (A.v (Value.int .i64 y.2))])) orc_C14 (by kernel_rfl) (T11 C14 fuel0 (r13_C14) (r28_C14) x.1 x.2) hy
noncomputable def C15 : Nat → List A → Option A := upd C14 11 o11
theorem orc_C15 : OrcOK (cx C15) := orc_upd orc_C14 ok11
def x20 (x : S_Net × Int × Int × Bool) : List A := [(A.agg [(A.imm (List.map c_S_Packet x.1.Queue) false), (A.imm (List.map c_A2_int_i64 x.1.Apart) false)]), (A.v (Value.int .i64 x.2.1)), (A.v (Value.int .i64 x.2.2.1)), (A.v (Value.bool x.2.2.2))]
theorem ix20 : Inj x20 := fun x y h => by
  simp only [x20, List.cons.injEq, A.v.injEq, A.agg.injEq, A.imm.injEq, Value.int.injEq, Value.bool.injEq, Value.string.injEq, and_true, true_and, map_inj (in_A2_int_i64), map_inj (in_S_Packet), map_inj (in_c8)] at h
  obtain ⟨⟨xa0Queue, xa0Apart⟩, xa1, xa2, xa3⟩ := x
  obtain ⟨⟨ya0Queue, ya0Apart⟩, ya1, ya2, ya3⟩ := y
  simp_all
noncomputable def o20 (args : List A) : Option A := orcOf x20 (fun x => (G20 x.1 x.2.1 x.2.2.1 x.2.2.2).map fun y => (A.tup [(A.agg [(A.imm (List.map c_S_Packet y.1.Queue) false), (A.imm (List.map c_A2_int_i64 y.1.Apart) false)]), (A.v (Value.int .i64 y.2))])) args
theorem r13_C15 : Orc13 C15 := fun a0 => (by kernel_rfl : _ = o13 (x13 a0)).trans (orcOf_eq _ ix13 a0)
theorem r32_C15 : Orc32 C15 := fun a0 => (by kernel_rfl : _ = o32 (x32 a0)).trans (orcOf_eq _ ix32 a0)
theorem r36_C15 : Orc36 C15 := fun a0 a1 => (by kernel_rfl : _ = o36 (x36 (a0, a1))).trans (orcOf_eq _ ix36 (a0, a1))
theorem r37_C15 : Orc37 C15 := fun a0 a1 => (by kernel_rfl : _ = o37 (x37 (a0, a1))).trans (orcOf_eq _ ix37 (a0, a1))
theorem ok20 (args : List A) (r : A) (h : o20 args = some r) : CallOK Try.prog (cx C0).glob 20 args r := by
  obtain ⟨x, rfl, hx⟩ := orcOf_ok h
  simp only [Option.map_eq_some_iff] at hx
  obtain ⟨y, hy, rfl⟩ := hx
  exact ok_J (f := fun (y : (S_Net × Int)) => (A.tup [(A.agg [(A.imm (List.map c_S_Packet y.1.Queue) false), (A.imm (List.map c_A2_int_i64 y.1.Apart) false)]), (A.v (Value.int .i64 y.2))])) orc_C15 (by kernel_rfl) (T20 C15 fuel0 (r13_C15) (r32_C15) (r36_C15) (r37_C15) x.1 x.2.1 x.2.2.1 x.2.2.2) hy
noncomputable def C16 : Nat → List A → Option A := upd C15 20 o20
theorem orc_C16 : OrcOK (cx C16) := orc_upd orc_C15 ok20
def x25 (x : S_Net × Int) : List A := [(A.agg [(A.imm (List.map c_S_Packet x.1.Queue) false), (A.imm (List.map c_A2_int_i64 x.1.Apart) false)]), (A.v (Value.int .i64 x.2))]
theorem ix25 : Inj x25 := fun x y h => by
  simp only [x25, List.cons.injEq, A.v.injEq, A.agg.injEq, A.imm.injEq, Value.int.injEq, Value.bool.injEq, Value.string.injEq, and_true, true_and, map_inj (in_A2_int_i64), map_inj (in_S_Packet), map_inj (in_c8)] at h
  obtain ⟨⟨xa0Queue, xa0Apart⟩, xa1⟩ := x
  obtain ⟨⟨ya0Queue, ya0Apart⟩, ya1⟩ := y
  simp_all
noncomputable def o25 (args : List A) : Option A := orcOf x25 (fun x => (G25 x.1 x.2).map fun y => (A.tup [(A.agg [(A.imm (List.map c_S_Packet y.1.Queue) false), (A.imm (List.map c_A2_int_i64 y.1.Apart) false)]), (A.v (Value.int .i64 y.2))])) args
theorem r11_C16 : Orc11 C16 := fun a0 a1 => (by kernel_rfl : _ = o11 (x11 (a0, a1))).trans (orcOf_eq _ ix11 (a0, a1))
theorem r35_C16 : Orc35 C16 := fun a0 a1 => (by kernel_rfl : _ = o35 (x35 (a0, a1))).trans (orcOf_eq _ ix35 (a0, a1))
theorem ok25 (args : List A) (r : A) (h : o25 args = some r) : CallOK Try.prog (cx C0).glob 25 args r := by
  obtain ⟨x, rfl, hx⟩ := orcOf_ok h
  simp only [Option.map_eq_some_iff] at hx
  obtain ⟨y, hy, rfl⟩ := hx
  exact ok_J (f := fun (y : (S_Net × Int)) => (A.tup [(A.agg [(A.imm (List.map c_S_Packet y.1.Queue) false), (A.imm (List.map c_A2_int_i64 y.1.Apart) false)]), (A.v (Value.int .i64 y.2))])) orc_C16 (by kernel_rfl) (T25 C16 fuel0 (r11_C16) (r35_C16) x.1 x.2) hy
noncomputable def C17 : Nat → List A → Option A := upd C16 25 o25
theorem orc_C17 : OrcOK (cx C17) := orc_upd orc_C16 ok25
def x19 (x : S_Packet × S_Packet) : List A := [(A.agg [(A.v (Value.int .i64 x.1.From)), (A.v (Value.int .i64 x.1.To)), (A.imm (List.map c8 x.1.Data) false)]), (A.agg [(A.v (Value.int .i64 x.2.From)), (A.v (Value.int .i64 x.2.To)), (A.imm (List.map c8 x.2.Data) false)])]
theorem ix19 : Inj x19 := fun x y h => by
  simp only [x19, List.cons.injEq, A.v.injEq, A.agg.injEq, A.imm.injEq, Value.int.injEq, Value.bool.injEq, Value.string.injEq, and_true, true_and, map_inj (in_c8)] at h
  obtain ⟨⟨xa0From, xa0To, xa0Data⟩, ⟨xa1From, xa1To, xa1Data⟩⟩ := x
  obtain ⟨⟨ya0From, ya0To, ya0Data⟩, ⟨ya1From, ya1To, ya1Data⟩⟩ := y
  simp_all
noncomputable def o19 (args : List A) : Option A := orcOf x19 (fun x => (G19 x.1 x.2).map fun y => (A.v (Value.bool y))) args
theorem ok19 (args : List A) (r : A) (h : o19 args = some r) : CallOK Try.prog (cx C0).glob 19 args r := by
  obtain ⟨x, rfl, hx⟩ := orcOf_ok h
  simp only [Option.map_eq_some_iff] at hx
  obtain ⟨y, hy, rfl⟩ := hx
  exact ok_J (f := fun (y : Bool) => (A.v (Value.bool y))) orc_C17 (by kernel_rfl) (T19 C17 fuel0  x.1 x.2) hy
noncomputable def C18 : Nat → List A → Option A := upd C17 19 o19
theorem orc_C18 : OrcOK (cx C18) := orc_upd orc_C17 ok19
def x15 (x : S_Net × S_Net) : List A := [(A.agg [(A.imm (List.map c_S_Packet x.1.Queue) false), (A.imm (List.map c_A2_int_i64 x.1.Apart) false)]), (A.agg [(A.imm (List.map c_S_Packet x.2.Queue) false), (A.imm (List.map c_A2_int_i64 x.2.Apart) false)])]
theorem ix15 : Inj x15 := fun x y h => by
  simp only [x15, List.cons.injEq, A.v.injEq, A.agg.injEq, A.imm.injEq, Value.int.injEq, Value.bool.injEq, Value.string.injEq, and_true, true_and, map_inj (in_A2_int_i64), map_inj (in_S_Packet), map_inj (in_c8)] at h
  obtain ⟨⟨xa0Queue, xa0Apart⟩, ⟨xa1Queue, xa1Apart⟩⟩ := x
  obtain ⟨⟨ya0Queue, ya0Apart⟩, ⟨ya1Queue, ya1Apart⟩⟩ := y
  simp_all
noncomputable def o15 (args : List A) : Option A := orcOf x15 (fun x => (G15 x.1 x.2).map fun y => (A.v (Value.bool y))) args
theorem r19_C18 : Orc19 C18 := fun a0 a1 => (by kernel_rfl : _ = o19 (x19 (a0, a1))).trans (orcOf_eq _ ix19 (a0, a1))
theorem ok15 (args : List A) (r : A) (h : o15 args = some r) : CallOK Try.prog (cx C0).glob 15 args r := by
  obtain ⟨x, rfl, hx⟩ := orcOf_ok h
  simp only [Option.map_eq_some_iff] at hx
  obtain ⟨y, hy, rfl⟩ := hx
  exact ok_J (f := fun (y : Bool) => (A.v (Value.bool y))) orc_C18 (by kernel_rfl) (T15 C18 fuel0 (r19_C18) x.1 x.2) hy
noncomputable def C19 : Nat → List A → Option A := upd C18 15 o15
theorem orc_C19 : OrcOK (cx C19) := orc_upd orc_C18 ok15
def x9 (x : Unit) : List A := []
theorem ix9 : Inj x9 := fun _ _ _ => rfl
noncomputable def o9 (args : List A) : Option A := orcOf x9 (fun x => (G9 ).map fun y => (A.v (Value.bool y))) args
theorem r11_C19 : Orc11 C19 := fun a0 a1 => (by kernel_rfl : _ = o11 (x11 (a0, a1))).trans (orcOf_eq _ ix11 (a0, a1))
theorem r13_C19 : Orc13 C19 := fun a0 => (by kernel_rfl : _ = o13 (x13 a0)).trans (orcOf_eq _ ix13 a0)
theorem r15_C19 : Orc15 C19 := fun a0 a1 => (by kernel_rfl : _ = o15 (x15 (a0, a1))).trans (orcOf_eq _ ix15 (a0, a1))
theorem r16_C19 : Orc16 C19 := fun _ => (by kernel_rfl : _ = o16 (x16 ())).trans (orcOf_eq _ ix16 ())
theorem r18_C19 : Orc18 C19 := fun a0 a1 => (by kernel_rfl : _ = o18 (x18 (a0, a1))).trans (orcOf_eq _ ix18 (a0, a1))
theorem r19_C19 : Orc19 C19 := fun a0 a1 => (by kernel_rfl : _ = o19 (x19 (a0, a1))).trans (orcOf_eq _ ix19 (a0, a1))
theorem r20_C19 : Orc20 C19 := fun a0 a1 a2 a3 => (by kernel_rfl : _ = o20 (x20 (a0, a1, a2, a3))).trans (orcOf_eq _ ix20 (a0, a1, a2, a3))
theorem r25_C19 : Orc25 C19 := fun a0 a1 => (by kernel_rfl : _ = o25 (x25 (a0, a1))).trans (orcOf_eq _ ix25 (a0, a1))
theorem ok9 (args : List A) (r : A) (h : o9 args = some r) : CallOK Try.prog (cx C0).glob 9 args r := by
  obtain ⟨x, rfl, hx⟩ := orcOf_ok h
  simp only [Option.map_eq_some_iff] at hx
  obtain ⟨y, hy, rfl⟩ := hx
  exact ok_J (f := fun (y : Bool) => (A.v (Value.bool y))) orc_C19 (by kernel_rfl) (T9 C19 fuel0 (r11_C19) (r13_C19) (r15_C19) (r16_C19) (r18_C19) (r19_C19) (r20_C19) (r25_C19) ) hy
noncomputable def C20 : Nat → List A → Option A := upd C19 9 o9
theorem orc_C20 : OrcOK (cx C20) := orc_upd orc_C19 ok9
def x23 (x : S_Net × Int) : List A := [(A.agg [(A.imm (List.map c_S_Packet x.1.Queue) false), (A.imm (List.map c_A2_int_i64 x.1.Apart) false)]), (A.v (Value.int .i64 x.2))]
theorem ix23 : Inj x23 := fun x y h => by
  simp only [x23, List.cons.injEq, A.v.injEq, A.agg.injEq, A.imm.injEq, Value.int.injEq, Value.bool.injEq, Value.string.injEq, and_true, true_and, map_inj (in_A2_int_i64), map_inj (in_S_Packet), map_inj (in_c8)] at h
  obtain ⟨⟨xa0Queue, xa0Apart⟩, xa1⟩ := x
  obtain ⟨⟨ya0Queue, ya0Apart⟩, ya1⟩ := y
  simp_all
noncomputable def o23 (args : List A) : Option A := orcOf x23 (fun x => (G23 x.1 x.2).map fun y => (A.tup [(A.agg [(A.imm (List.map c_S_Packet y.1.Queue) false), (A.imm (List.map c_A2_int_i64 y.1.Apart) false)]), (A.v (Value.int .i64 y.2))])) args
theorem r35_C20 : Orc35 C20 := fun a0 a1 => (by kernel_rfl : _ = o35 (x35 (a0, a1))).trans (orcOf_eq _ ix35 (a0, a1))
theorem r38_C20 : Orc38 C20 := fun a0 a1 => (by kernel_rfl : _ = o38 (x38 (a0, a1))).trans (orcOf_eq _ ix38 (a0, a1))
theorem ok23 (args : List A) (r : A) (h : o23 args = some r) : CallOK Try.prog (cx C0).glob 23 args r := by
  obtain ⟨x, rfl, hx⟩ := orcOf_ok h
  simp only [Option.map_eq_some_iff] at hx
  obtain ⟨y, hy, rfl⟩ := hx
  exact ok_J (f := fun (y : (S_Net × Int)) => (A.tup [(A.agg [(A.imm (List.map c_S_Packet y.1.Queue) false), (A.imm (List.map c_A2_int_i64 y.1.Apart) false)]), (A.v (Value.int .i64 y.2))])) orc_C20 (by kernel_rfl) (T23 C20 fuel0 (r35_C20) (r38_C20) x.1 x.2) hy
noncomputable def C21 : Nat → List A → Option A := upd C20 23 o23
theorem orc_C21 : OrcOK (cx C21) := orc_upd orc_C20 ok23
def x27 (x : S_Net × S_kinespherelaw06_Move) : List A := [(A.agg [(A.imm (List.map c_S_Packet x.1.Queue) false), (A.imm (List.map c_A2_int_i64 x.1.Apart) false)]), (A.agg [(A.v (Value.int .u8 x.2.Kind)), (A.v (Value.int .u8 x.2.At)), (A.v (Value.int .u8 x.2.A)), (A.v (Value.int .u8 x.2.B)), (A.v (Value.int .u8 x.2.Data))])]
theorem ix27 : Inj x27 := fun x y h => by
  simp only [x27, List.cons.injEq, A.v.injEq, A.agg.injEq, A.imm.injEq, Value.int.injEq, Value.bool.injEq, Value.string.injEq, and_true, true_and, map_inj (in_A2_int_i64), map_inj (in_S_Packet), map_inj (in_c8)] at h
  obtain ⟨⟨xa0Queue, xa0Apart⟩, ⟨xa1Kind, xa1At, xa1A, xa1B, xa1Data⟩⟩ := x
  obtain ⟨⟨ya0Queue, ya0Apart⟩, ⟨ya1Kind, ya1At, ya1A, ya1B, ya1Data⟩⟩ := y
  simp_all
noncomputable def o27 (args : List A) : Option A := orcOf x27 (fun x => (G27 x.1 x.2).map fun y => (A.tup [(A.agg [(A.imm (List.map c_S_Packet y.1.Queue) false), (A.imm (List.map c_A2_int_i64 y.1.Apart) false)]), (A.agg [(A.v (Value.int .i64 y.2.1.From)), (A.v (Value.int .i64 y.2.1.To)), (A.imm (List.map c8 y.2.1.Data) false)]), (A.v (Value.int .i64 y.2.2))])) args
theorem r11_C21 : Orc11 C21 := fun a0 a1 => (by kernel_rfl : _ = o11 (x11 (a0, a1))).trans (orcOf_eq _ ix11 (a0, a1))
theorem r18_C21 : Orc18 C21 := fun a0 a1 => (by kernel_rfl : _ = o18 (x18 (a0, a1))).trans (orcOf_eq _ ix18 (a0, a1))
theorem r20_C21 : Orc20 C21 := fun a0 a1 a2 a3 => (by kernel_rfl : _ = o20 (x20 (a0, a1, a2, a3))).trans (orcOf_eq _ ix20 (a0, a1, a2, a3))
theorem r23_C21 : Orc23 C21 := fun a0 a1 => (by kernel_rfl : _ = o23 (x23 (a0, a1))).trans (orcOf_eq _ ix23 (a0, a1))
theorem r25_C21 : Orc25 C21 := fun a0 a1 => (by kernel_rfl : _ = o25 (x25 (a0, a1))).trans (orcOf_eq _ ix25 (a0, a1))
theorem ok27 (args : List A) (r : A) (h : o27 args = some r) : CallOK Try.prog (cx C0).glob 27 args r := by
  obtain ⟨x, rfl, hx⟩ := orcOf_ok h
  simp only [Option.map_eq_some_iff] at hx
  obtain ⟨y, hy, rfl⟩ := hx
  exact ok_J (f := fun (y : (S_Net × S_Packet × Int)) => (A.tup [(A.agg [(A.imm (List.map c_S_Packet y.1.Queue) false), (A.imm (List.map c_A2_int_i64 y.1.Apart) false)]), (A.agg [(A.v (Value.int .i64 y.2.1.From)), (A.v (Value.int .i64 y.2.1.To)), (A.imm (List.map c8 y.2.1.Data) false)]), (A.v (Value.int .i64 y.2.2))])) orc_C21 (by kernel_rfl) (T27 C21 fuel0 (r11_C21) (r18_C21) (r20_C21) (r23_C21) (r25_C21) x.1 x.2) hy
noncomputable def C22 : Nat → List A → Option A := upd C21 27 o27
theorem orc_C22 : OrcOK (cx C22) := orc_upd orc_C21 ok27
def x7 (x : (List S_kinespherelaw06_Move)) : List A := [(A.imm (List.map c_S_kinespherelaw06_Move x) false)]
theorem ix7 : Inj x7 := fun x y h => by
  simp only [x7, List.cons.injEq, A.v.injEq, A.agg.injEq, A.imm.injEq, Value.int.injEq, Value.bool.injEq, Value.string.injEq, and_true, true_and, map_inj (in_S_kinespherelaw06_Move)] at h
  exact h
noncomputable def o7 (args : List A) : Option A := orcOf x7 (fun x => (G7 x).map fun y => (A.v (Value.bool y))) args
theorem r13_C22 : Orc13 C22 := fun a0 => (by kernel_rfl : _ = o13 (x13 a0)).trans (orcOf_eq _ ix13 a0)
theorem r15_C22 : Orc15 C22 := fun a0 a1 => (by kernel_rfl : _ = o15 (x15 (a0, a1))).trans (orcOf_eq _ ix15 (a0, a1))
theorem r16_C22 : Orc16 C22 := fun _ => (by kernel_rfl : _ = o16 (x16 ())).trans (orcOf_eq _ ix16 ())
theorem r19_C22 : Orc19 C22 := fun a0 a1 => (by kernel_rfl : _ = o19 (x19 (a0, a1))).trans (orcOf_eq _ ix19 (a0, a1))
theorem r27_C22 : Orc27 C22 := fun a0 a1 => (by kernel_rfl : _ = o27 (x27 (a0, a1))).trans (orcOf_eq _ ix27 (a0, a1))
theorem r9_C22 : Orc9 C22 := fun _ => (by kernel_rfl : _ = o9 (x9 ())).trans (orcOf_eq _ ix9 ())
theorem ok7 (args : List A) (r : A) (h : o7 args = some r) : CallOK Try.prog (cx C0).glob 7 args r := by
  obtain ⟨x, rfl, hx⟩ := orcOf_ok h
  simp only [Option.map_eq_some_iff] at hx
  obtain ⟨y, hy, rfl⟩ := hx
  exact ok_J (f := fun (y : Bool) => (A.v (Value.bool y))) orc_C22 (by kernel_rfl) (T7 C22 fuel0 (r13_C22) (r15_C22) (r16_C22) (r19_C22) (r27_C22) (r9_C22) x) hy
noncomputable def C23 : Nat → List A → Option A := upd C22 7 o7
theorem orc_C23 : OrcOK (cx C23) := orc_upd orc_C22 ok7
end Go.Proofs.Ytgcobbhbfkjkeaa
