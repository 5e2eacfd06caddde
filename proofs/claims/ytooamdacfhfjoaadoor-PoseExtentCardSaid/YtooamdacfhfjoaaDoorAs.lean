/-
  What is proved of the functions, put together: by a tool.
-/
import Derived.Test.YtooamdacfhfjoaaDoorIb
namespace Go.Proofs.YtooamdacfhfjoaaDoor
set_option linter.unusedVariables false
set_option linter.unusedSimpArgs false
set_option maxHeartbeats 4000000
set_option maxRecDepth 100000
noncomputable def C0 : Nat → List A → Option A := fun _ _ => none
theorem orc0 : OrcOK (cx C0) := fun k args r _ h => (by cases h)
theorem orc_upd {C : Nat → List A → Option A} {k : Nat} {c : List A → Option A} (h : OrcOK (cx C)) (hc : ∀ args r, c args = some r → CallOK Tryd.prog (cx C0).glob k args r) : OrcOK (cx (upd C k c)) := fun j args r hi hr => by
  simp only [cx, upd] at hr
  rw [bcond] at hr
  split at hr
  · rename_i hj
    rw [Nat.eq_of_beq_eq_true hj]; exact hc args r hr
  · exact h j args r hi hr
def x29 (x : Int × Int × Int) : List A := [(iA x.1), (iA x.2.1), (iA x.2.2)]
theorem ix29 : Inj x29 := fun x y h => by
  simp only [x29, List.cons.injEq, A.v.injEq, A.agg.injEq, A.imm.injEq, Value.int.injEq, Value.bool.injEq, Value.string.injEq, and_true, true_and] at h
  obtain ⟨xa0, xa1, xa2⟩ := x
  obtain ⟨ya0, ya1, ya2⟩ := y
  simp_all
noncomputable def o29 (args : List A) : Option A := orcOf x29 (fun x => (G29 x.1 x.2.1 x.2.2).map fun y => (bA y)) args
theorem ok29 (args : List A) (r : A) (h : o29 args = some r) : CallOK Tryd.prog (cx C0).glob 29 args r := by
  obtain ⟨x, rfl, hx⟩ := orcOf_ok h
  simp only [Option.map_eq_some_iff] at hx
  obtain ⟨y, hy, rfl⟩ := hx
  exact ok_J (f := fun (y : Bool) => (bA y)) orc0 (by kernel_rfl) (T29 C0 fuel0  x.1 x.2.1 x.2.2) hy
noncomputable def C1 : Nat → List A → Option A := upd C0 29 o29
theorem orc_C1 : OrcOK (cx C1) := orc_upd orc0 ok29
def x12 (x : S_Role) : List A := [(A.agg [(A.v (Value.string x.Name)), (iA x.X), (iA x.Y), (iA x.Face)])]
theorem ix12 : Inj x12 := fun x y h => by
  simp only [x12, List.cons.injEq, A.v.injEq, A.agg.injEq, A.imm.injEq, Value.int.injEq, Value.bool.injEq, Value.string.injEq, and_true, true_and] at h
  obtain ⟨xa0Name, xa0X, xa0Y, xa0Face⟩ := x
  obtain ⟨ya0Name, ya0X, ya0Y, ya0Face⟩ := y
  simp_all
noncomputable def o12 (args : List A) : Option A := orcOf x12 (fun x => (G12 x).map fun y => (A.tup [(A.agg [(iA y.1.X), (iA y.1.Y), (iA y.1.Face), (iA y.1.Limbs.1.Dir), (iA y.1.Limbs.1.Level), (iA y.1.Limbs.2.1.Dir), (iA y.1.Limbs.2.1.Level), (iA y.1.Limbs.2.2.1.Dir), (iA y.1.Limbs.2.2.1.Level), (iA y.1.Limbs.2.2.2.1.Dir), (iA y.1.Limbs.2.2.2.1.Level), (iA y.1.Limbs.2.2.2.2.Dir), (iA y.1.Limbs.2.2.2.2.Level)]), (iA y.2)])) args
theorem r29_C1 : Orc29 C1 := fun a0 a1 a2 => (by kernel_rfl : _ = o29 (x29 (a0, a1, a2))).trans (orcOf_eq _ ix29 (a0, a1, a2))
theorem ok12 (args : List A) (r : A) (h : o12 args = some r) : CallOK Tryd.prog (cx C0).glob 12 args r := by
  obtain ⟨x, rfl, hx⟩ := orcOf_ok h
  simp only [Option.map_eq_some_iff] at hx
  obtain ⟨y, hy, rfl⟩ := hx
  exact ok_J (f := fun (y : (S_State × Int)) => (A.tup [(A.agg [(iA y.1.X), (iA y.1.Y), (iA y.1.Face), (iA y.1.Limbs.1.Dir), (iA y.1.Limbs.1.Level), (iA y.1.Limbs.2.1.Dir), (iA y.1.Limbs.2.1.Level), (iA y.1.Limbs.2.2.1.Dir), (iA y.1.Limbs.2.2.1.Level), (iA y.1.Limbs.2.2.2.1.Dir), (iA y.1.Limbs.2.2.2.1.Level), (iA y.1.Limbs.2.2.2.2.Dir), (iA y.1.Limbs.2.2.2.2.Level)]), (iA y.2)])) orc_C1 (by kernel_rfl) (T12 C1 fuel0 (r29_C1) x) hy
noncomputable def C2 : Nat → List A → Option A := upd C1 12 o12
theorem orc_C2 : OrcOK (cx C2) := orc_upd orc_C1 ok12
def x16 (x : S_State) : List A := [(A.agg [(iA x.X), (iA x.Y), (iA x.Face), (iA x.Limbs.1.Dir), (iA x.Limbs.1.Level), (iA x.Limbs.2.1.Dir), (iA x.Limbs.2.1.Level), (iA x.Limbs.2.2.1.Dir), (iA x.Limbs.2.2.1.Level), (iA x.Limbs.2.2.2.1.Dir), (iA x.Limbs.2.2.2.1.Level), (iA x.Limbs.2.2.2.2.Dir), (iA x.Limbs.2.2.2.2.Level)])]
theorem ix16 : Inj x16 := fun x y h => by
  simp only [x16, List.cons.injEq, A.v.injEq, A.agg.injEq, A.imm.injEq, Value.int.injEq, Value.bool.injEq, Value.string.injEq, and_true, true_and] at h
  obtain ⟨xa0X, xa0Y, xa0Face, ⟨⟨xa0Limbs0Dir, xa0Limbs0Level⟩, ⟨xa0Limbs1Dir, xa0Limbs1Level⟩, ⟨xa0Limbs2Dir, xa0Limbs2Level⟩, ⟨xa0Limbs3Dir, xa0Limbs3Level⟩, ⟨xa0Limbs4Dir, xa0Limbs4Level⟩⟩⟩ := x
  obtain ⟨ya0X, ya0Y, ya0Face, ⟨⟨ya0Limbs0Dir, ya0Limbs0Level⟩, ⟨ya0Limbs1Dir, ya0Limbs1Level⟩, ⟨ya0Limbs2Dir, ya0Limbs2Level⟩, ⟨ya0Limbs3Dir, ya0Limbs3Level⟩, ⟨ya0Limbs4Dir, ya0Limbs4Level⟩⟩⟩ := y
  simp_all
noncomputable def o16 (args : List A) : Option A := orcOf x16 (fun x => (G16 x).map fun y => (iA y)) args
theorem r29_C2 : Orc29 C2 := fun a0 a1 a2 => (by kernel_rfl : _ = o29 (x29 (a0, a1, a2))).trans (orcOf_eq _ ix29 (a0, a1, a2))
theorem ok16 (args : List A) (r : A) (h : o16 args = some r) : CallOK Tryd.prog (cx C0).glob 16 args r := by
  obtain ⟨x, rfl, hx⟩ := orcOf_ok h
  simp only [Option.map_eq_some_iff] at hx
  obtain ⟨y, hy, rfl⟩ := hx
  exact ok_J (f := fun (y : Int) => (iA y)) orc_C2 (by kernel_rfl) (T16 C2 fuel0 (r29_C2) x) hy
noncomputable def C3 : Nat → List A → Option A := upd C2 16 o16
theorem orc_C3 : OrcOK (cx C3) := orc_upd orc_C2 ok16
def x33 (x : Unit) : List A := []
theorem ix33 : Inj x33 := fun _ _ _ => rfl
noncomputable def o33 (args : List A) : Option A := orcOf x33 (fun x => (G33 ).map fun y => (A.mv .i64 [1, 2, 3, 4, 5, 6, 7, 8, 9] [(A.agg [(iA 1), (iA 2), (iA 1), (iA 8), (iA 0), (iA 0), (iA 1), (iA 16), (iA 0), (iA 0), (iA 0), (iA 0), (A.fn (Fn.func 52) [] [])]), (A.agg [(iA 0), (iA 0), (iA 1), (iA 8), (iA 0), (iA 0), (iA 1), (iA 16), (iA 0), (iA 0), (iA 0), (iA 0), (A.fn (Fn.func 53) [] [])]), (A.agg [(iA 1), (iA 2), (iA 0), (iA 8), (iA 1), (iA 3), (iA 0), (iA 0), (iA 0), (iA 8), (iA 1), (iA 3), (A.fn (Fn.func 54) [] [])]), (A.agg [(iA 1), (iA 2), (iA 0), (iA 8), (iA 1), (iA 3), (iA 0), (iA 0), (iA 0), (iA 8), (iA 1), (iA 3), (A.fn (Fn.func 55) [] [])]), (A.agg [(iA 0), (iA 0), (iA 0), (iA 8), (iA 1), (iA 3), (iA 0), (iA 0), (iA 0), (iA 8), (iA 1), (iA 3), (A.fn (Fn.func 56) [] [])]), (A.agg [(iA 0), (iA 0), (iA 0), (iA 0), (iA 0), (iA 0), (iA 1), (iA 7), (iA 0), (iA 0), (iA 0), (iA 0), (A.fn (Fn.func 57) [] [])]), (A.agg [(iA 0), (iA 0), (iA 0), (iA 0), (iA 0), (iA 0), (iA 0), (iA 0), (iA 0), (iA 0), (iA 0), (iA 0), (A.fn (Fn.func 58) [] [])]), (A.agg [(iA 0), (iA 0), (iA 0), (iA 0), (iA 0), (iA 0), (iA 0), (iA 0), (iA 0), (iA 0), (iA 0), (iA 0), (A.fn (Fn.func 59) [] [])]), (A.agg [(iA 1), (iA 2), (iA 0), (iA 0), (iA 1), (iA 3), (iA 0), (iA 0), (iA 0), (iA 0), (iA 1), (iA 3), (A.fn (Fn.func 60) [] [])])])) args
theorem ok33 (args : List A) (r : A) (h : o33 args = some r) : CallOK Tryd.prog (cx C0).glob 33 args r := by
  obtain ⟨x, rfl, hx⟩ := orcOf_ok h
  simp only [Option.map_eq_some_iff] at hx
  obtain ⟨y, hy, rfl⟩ := hx
  exact ok_J (f := fun (y : Unit) => (A.mv .i64 [1, 2, 3, 4, 5, 6, 7, 8, 9] [(A.agg [(iA 1), (iA 2), (iA 1), (iA 8), (iA 0), (iA 0), (iA 1), (iA 16), (iA 0), (iA 0), (iA 0), (iA 0), (A.fn (Fn.func 52) [] [])]), (A.agg [(iA 0), (iA 0), (iA 1), (iA 8), (iA 0), (iA 0), (iA 1), (iA 16), (iA 0), (iA 0), (iA 0), (iA 0), (A.fn (Fn.func 53) [] [])]), (A.agg [(iA 1), (iA 2), (iA 0), (iA 8), (iA 1), (iA 3), (iA 0), (iA 0), (iA 0), (iA 8), (iA 1), (iA 3), (A.fn (Fn.func 54) [] [])]), (A.agg [(iA 1), (iA 2), (iA 0), (iA 8), (iA 1), (iA 3), (iA 0), (iA 0), (iA 0), (iA 8), (iA 1), (iA 3), (A.fn (Fn.func 55) [] [])]), (A.agg [(iA 0), (iA 0), (iA 0), (iA 8), (iA 1), (iA 3), (iA 0), (iA 0), (iA 0), (iA 8), (iA 1), (iA 3), (A.fn (Fn.func 56) [] [])]), (A.agg [(iA 0), (iA 0), (iA 0), (iA 0), (iA 0), (iA 0), (iA 1), (iA 7), (iA 0), (iA 0), (iA 0), (iA 0), (A.fn (Fn.func 57) [] [])]), (A.agg [(iA 0), (iA 0), (iA 0), (iA 0), (iA 0), (iA 0), (iA 0), (iA 0), (iA 0), (iA 0), (iA 0), (iA 0), (A.fn (Fn.func 58) [] [])]), (A.agg [(iA 0), (iA 0), (iA 0), (iA 0), (iA 0), (iA 0), (iA 0), (iA 0), (iA 0), (iA 0), (iA 0), (iA 0), (A.fn (Fn.func 59) [] [])]), (A.agg [(iA 1), (iA 2), (iA 0), (iA 0), (iA 1), (iA 3), (iA 0), (iA 0), (iA 0), (iA 0), (iA 1), (iA 3), (A.fn (Fn.func 60) [] [])])])) orc_C3 (by kernel_rfl) (T33 C3 fuel0  ) hy
noncomputable def C4 : Nat → List A → Option A := upd C3 33 o33
theorem orc_C4 : OrcOK (cx C4) := orc_upd orc_C3 ok33
def x24 (x : Int × Int) : List A := [(iA x.1), (iA x.2)]
theorem ix24 : Inj x24 := fun x y h => by
  simp only [x24, List.cons.injEq, A.v.injEq, A.agg.injEq, A.imm.injEq, Value.int.injEq, Value.bool.injEq, Value.string.injEq, and_true, true_and] at h
  obtain ⟨xa0, xa1⟩ := x
  obtain ⟨ya0, ya1⟩ := y
  simp_all
noncomputable def o24 (args : List A) : Option A := orcOf x24 (fun x => (G24 x.1 x.2).map fun y => (A.tup [(iA y.1), (iA y.2)])) args
theorem ok24 (args : List A) (r : A) (h : o24 args = some r) : CallOK Tryd.prog (cx C0).glob 24 args r := by
  obtain ⟨x, rfl, hx⟩ := orcOf_ok h
  simp only [Option.map_eq_some_iff] at hx
  obtain ⟨y, hy, rfl⟩ := hx
  exact ok_J (f := fun (y : (Int × Int)) => (A.tup [(iA y.1), (iA y.2)])) orc_C4 (by kernel_rfl) (T24 C4 fuel0  x.1 x.2) hy
noncomputable def C5 : Nat → List A → Option A := upd C4 24 o24
theorem orc_C5 : OrcOK (cx C5) := orc_upd orc_C4 ok24
def x86 (x : Int) : List A := [(iA x)]
theorem ix86 : Inj x86 := fun x y h => by
  simp only [x86, List.cons.injEq, A.v.injEq, A.agg.injEq, A.imm.injEq, Value.int.injEq, Value.bool.injEq, Value.string.injEq, and_true, true_and] at h
  exact h
noncomputable def o86 (args : List A) : Option A := orcOf x86 (fun x => (G86 x).map fun y => (A.tup [(iA y.1), (iA y.2.1), (iA y.2.2)])) args
theorem ok86 (args : List A) (r : A) (h : o86 args = some r) : CallOK Tryd.prog (cx C0).glob 86 args r := by
  obtain ⟨x, rfl, hx⟩ := orcOf_ok h
  simp only [Option.map_eq_some_iff] at hx
  obtain ⟨y, hy, rfl⟩ := hx
  exact ok_J (f := fun (y : (Int × Int × Int)) => (A.tup [(iA y.1), (iA y.2.1), (iA y.2.2)])) orc_C5 (by kernel_rfl) (T86 C5 fuel0  x) hy
noncomputable def C6 : Nat → List A → Option A := upd C5 86 o86
theorem orc_C6 : OrcOK (cx C6) := orc_upd orc_C5 ok86
def x18 (x : S_State × S_Sign × S_Real) : List A := [(A.agg [(iA x.1.X), (iA x.1.Y), (iA x.1.Face), (iA x.1.Limbs.1.Dir), (iA x.1.Limbs.1.Level), (iA x.1.Limbs.2.1.Dir), (iA x.1.Limbs.2.1.Level), (iA x.1.Limbs.2.2.1.Dir), (iA x.1.Limbs.2.2.1.Level), (iA x.1.Limbs.2.2.2.1.Dir), (iA x.1.Limbs.2.2.2.1.Level), (iA x.1.Limbs.2.2.2.2.Dir), (iA x.1.Limbs.2.2.2.2.Level)]), (A.agg [(iA x.2.1.ID), (iA x.2.1.Role), (iA x.2.1.Bar), (iA x.2.1.Mark), (iA x.2.1.Kind), (iA x.2.1.Side), (iA x.2.1.Dir), (iA x.2.1.Level), (iA x.2.1.Size), (iA x.2.1.With), (iA x.2.1.From.N), (iA x.2.1.From.D), (iA x.2.1.To.N), (iA x.2.1.To.D)]), (A.agg [(iA x.2.2.Sign), (iA x.2.2.Dir), (iA x.2.2.Level), (bA x.2.2.Drop)])]
theorem ix18 : Inj x18 := fun x y h => by
  simp only [x18, List.cons.injEq, A.v.injEq, A.agg.injEq, A.imm.injEq, Value.int.injEq, Value.bool.injEq, Value.string.injEq, and_true, true_and] at h
  obtain ⟨⟨xa0X, xa0Y, xa0Face, ⟨⟨xa0Limbs0Dir, xa0Limbs0Level⟩, ⟨xa0Limbs1Dir, xa0Limbs1Level⟩, ⟨xa0Limbs2Dir, xa0Limbs2Level⟩, ⟨xa0Limbs3Dir, xa0Limbs3Level⟩, ⟨xa0Limbs4Dir, xa0Limbs4Level⟩⟩⟩, ⟨xa1ID, xa1Role, xa1Bar, xa1Mark, xa1Kind, xa1Side, xa1Dir, xa1Level, xa1Size, xa1With, ⟨xa1FromN, xa1FromD⟩, ⟨xa1ToN, xa1ToD⟩⟩, ⟨xa2Sign, xa2Dir, xa2Level, xa2Drop⟩⟩ := x
  obtain ⟨⟨ya0X, ya0Y, ya0Face, ⟨⟨ya0Limbs0Dir, ya0Limbs0Level⟩, ⟨ya0Limbs1Dir, ya0Limbs1Level⟩, ⟨ya0Limbs2Dir, ya0Limbs2Level⟩, ⟨ya0Limbs3Dir, ya0Limbs3Level⟩, ⟨ya0Limbs4Dir, ya0Limbs4Level⟩⟩⟩, ⟨ya1ID, ya1Role, ya1Bar, ya1Mark, ya1Kind, ya1Side, ya1Dir, ya1Level, ya1Size, ya1With, ⟨ya1FromN, ya1FromD⟩, ⟨ya1ToN, ya1ToD⟩⟩, ⟨ya2Sign, ya2Dir, ya2Level, ya2Drop⟩⟩ := y
  simp_all
noncomputable def o18 (args : List A) : Option A := orcOf x18 (fun x => (G18 x.1 x.2.1 x.2.2).map fun y => (A.tup [(A.agg [(iA y.1.X), (iA y.1.Y), (iA y.1.Face), (iA y.1.Limbs.1.Dir), (iA y.1.Limbs.1.Level), (iA y.1.Limbs.2.1.Dir), (iA y.1.Limbs.2.1.Level), (iA y.1.Limbs.2.2.1.Dir), (iA y.1.Limbs.2.2.1.Level), (iA y.1.Limbs.2.2.2.1.Dir), (iA y.1.Limbs.2.2.2.1.Level), (iA y.1.Limbs.2.2.2.2.Dir), (iA y.1.Limbs.2.2.2.2.Level)]), (iA y.2)])) args
theorem r16_C6 : Orc16 C6 := fun a0 => (by kernel_rfl : _ = o16 (x16 a0)).trans (orcOf_eq _ ix16 a0)
theorem r24_C6 : Orc24 C6 := fun a0 a1 => (by kernel_rfl : _ = o24 (x24 (a0, a1))).trans (orcOf_eq _ ix24 (a0, a1))
theorem r29_C6 : Orc29 C6 := fun a0 a1 a2 => (by kernel_rfl : _ = o29 (x29 (a0, a1, a2))).trans (orcOf_eq _ ix29 (a0, a1, a2))
theorem r33_C6 : Orc33 C6 := fun _ => (by kernel_rfl : _ = o33 (x33 ())).trans (orcOf_eq _ ix33 ())
theorem r86_C6 : Orc86 C6 := fun a0 => (by kernel_rfl : _ = o86 (x86 a0)).trans (orcOf_eq _ ix86 a0)
theorem ok18 (args : List A) (r : A) (h : o18 args = some r) : CallOK Tryd.prog (cx C0).glob 18 args r := by
  obtain ⟨x, rfl, hx⟩ := orcOf_ok h
  simp only [Option.map_eq_some_iff] at hx
  obtain ⟨y, hy, rfl⟩ := hx
  exact ok_J (f := fun (y : (S_State × Int)) => (A.tup [(A.agg [(iA y.1.X), (iA y.1.Y), (iA y.1.Face), (iA y.1.Limbs.1.Dir), (iA y.1.Limbs.1.Level), (iA y.1.Limbs.2.1.Dir), (iA y.1.Limbs.2.1.Level), (iA y.1.Limbs.2.2.1.Dir), (iA y.1.Limbs.2.2.1.Level), (iA y.1.Limbs.2.2.2.1.Dir), (iA y.1.Limbs.2.2.2.1.Level), (iA y.1.Limbs.2.2.2.2.Dir), (iA y.1.Limbs.2.2.2.2.Level)]), (iA y.2)])) orc_C6 (by kernel_rfl) (T18 C6 fuel0 (r16_C6) (r24_C6) (r29_C6) (r33_C6) (r86_C6) x.1 x.2.1 x.2.2) hy
noncomputable def C7 : Nat → List A → Option A := upd C6 18 o18
theorem orc_C7 : OrcOK (cx C7) := orc_upd orc_C6 ok18
def x28 (x : Unit) : List A := []
theorem ix28 : Inj x28 := fun _ _ _ => rfl
noncomputable def o28 (args : List A) : Option A := orcOf x28 (fun x => (G28 ).map fun y => (A.agg [(A.v (Value.string y.Name)), (iA y.Weight), (iA y.Lift), (iA y.Girth), (iA y.Step), (iA y.Jump), (iA y.Reach.1), (iA y.Reach.2.1), (iA y.Reach.2.2), (iA y.Speed.1), (iA y.Speed.2.1), (iA y.Speed.2.2), (iA y.Top.1), (iA y.Top.2.1), (iA y.Top.2.2), (iA y.Effort), (iA y.Recover)])) args
theorem ok28 (args : List A) (r : A) (h : o28 args = some r) : CallOK Tryd.prog (cx C0).glob 28 args r := by
  obtain ⟨x, rfl, hx⟩ := orcOf_ok h
  simp only [Option.map_eq_some_iff] at hx
  obtain ⟨y, hy, rfl⟩ := hx
  exact ok_J (f := fun (y : S_Body) => (A.agg [(A.v (Value.string y.Name)), (iA y.Weight), (iA y.Lift), (iA y.Girth), (iA y.Step), (iA y.Jump), (iA y.Reach.1), (iA y.Reach.2.1), (iA y.Reach.2.2), (iA y.Speed.1), (iA y.Speed.2.1), (iA y.Speed.2.2), (iA y.Top.1), (iA y.Top.2.1), (iA y.Top.2.2), (iA y.Effort), (iA y.Recover)])) orc_C7 (by kernel_rfl) (T28 C7 fuel0  ) hy
noncomputable def C8 : Nat → List A → Option A := upd C7 28 o28
theorem orc_C8 : OrcOK (cx C8) := orc_upd orc_C7 ok28
def x85 (x : ByteArray × Int) : List A := [(A.v (Value.string x.1)), (uA x.2)]
theorem ix85 : Inj x85 := fun x y h => by
  simp only [x85, List.cons.injEq, A.v.injEq, A.agg.injEq, A.imm.injEq, Value.int.injEq, Value.bool.injEq, Value.string.injEq, and_true, true_and] at h
  obtain ⟨xa0, xa1⟩ := x
  obtain ⟨ya0, ya1⟩ := y
  simp_all
noncomputable def o85 (args : List A) : Option A := orcOf x85 (fun x => (G85 x.1 x.2).map fun y => (iA y)) args
theorem ok85 (args : List A) (r : A) (h : o85 args = some r) : CallOK Tryd.prog (cx C0).glob 85 args r := by
  obtain ⟨x, rfl, hx⟩ := orcOf_ok h
  obtain rfl := Option.some.inj hx
  exact callOK85 x.1 x.2
noncomputable def C9 : Nat → List A → Option A := upd C8 85 o85
theorem orc_C9 : OrcOK (cx C9) := orc_upd orc_C8 ok85
def x72 (x : Int) : List A := [(uA x)]
theorem ix72 : Inj x72 := fun x y h => by
  simp only [x72, List.cons.injEq, A.v.injEq, A.agg.injEq, A.imm.injEq, Value.int.injEq, Value.bool.injEq, Value.string.injEq, and_true, true_and] at h
  exact h
noncomputable def o72 (args : List A) : Option A := orcOf x72 (fun x => (G72 x).map fun y => (iA y)) args
theorem r85_C9 : Orc85 C9 := fun a0 a1 => (by kernel_rfl : _ = o85 (x85 (a0, a1))).trans (orcOf_eq _ ix85 (a0, a1))
theorem ok72 (args : List A) (r : A) (h : o72 args = some r) : CallOK Tryd.prog (cx C0).glob 72 args r := by
  obtain ⟨x, rfl, hx⟩ := orcOf_ok h
  simp only [Option.map_eq_some_iff] at hx
  obtain ⟨y, hy, rfl⟩ := hx
  exact ok_J (f := fun (y : Int) => (iA y)) orc_C9 (by kernel_rfl) (T72 C9 fuel0 (r85_C9) x) hy
noncomputable def C10 : Nat → List A → Option A := upd C9 72 o72
theorem orc_C10 : OrcOK (cx C10) := orc_upd orc_C9 ok72
def x43 (x : ByteArray) : List A := [(A.v (Value.string x))]
theorem ix43 : Inj x43 := fun x y h => by
  simp only [x43, List.cons.injEq, A.v.injEq, A.agg.injEq, A.imm.injEq, Value.int.injEq, Value.bool.injEq, Value.string.injEq, and_true, true_and] at h
  exact h
noncomputable def o43 (args : List A) : Option A := orcOf x43 (fun x => (G43 x).map fun y => (bA y)) args
theorem r72_C10 : Orc72 C10 := fun a0 => (by kernel_rfl : _ = o72 (x72 a0)).trans (orcOf_eq _ ix72 a0)
theorem ok43 (args : List A) (r : A) (h : o43 args = some r) : CallOK Tryd.prog (cx C0).glob 43 args r := by
  obtain ⟨x, rfl, hx⟩ := orcOf_ok h
  simp only [Option.map_eq_some_iff] at hx
  obtain ⟨y, hy, rfl⟩ := hx
  exact ok_J (f := fun (y : Bool) => (bA y)) orc_C10 (by kernel_rfl) (T43 C10 fuel0 (r72_C10) x) hy
noncomputable def C11 : Nat → List A → Option A := upd C10 43 o43
theorem orc_C11 : OrcOK (cx C11) := orc_upd orc_C10 ok43
def x44 (x : Int × Int × (List Int)) : List A := [(iA x.1), (iA x.2.1), (A.imm (List.map (cI .i64) x.2.2) false)]
theorem ix44 : Inj x44 := fun x y h => by
  simp only [x44, List.cons.injEq, A.v.injEq, A.agg.injEq, A.imm.injEq, Value.int.injEq, Value.bool.injEq, Value.string.injEq, and_true, true_and, map_inj (in_cI .i64)] at h
  obtain ⟨xa0, xa1, xa2⟩ := x
  obtain ⟨ya0, ya1, ya2⟩ := y
  simp_all
noncomputable def o44 (args : List A) : Option A := orcOf x44 (fun x => (G44 x.1 x.2.1 x.2.2).map fun y => (bA y)) args
theorem ok44 (args : List A) (r : A) (h : o44 args = some r) : CallOK Tryd.prog (cx C0).glob 44 args r := by
  obtain ⟨x, rfl, hx⟩ := orcOf_ok h
  simp only [Option.map_eq_some_iff] at hx
  obtain ⟨y, hy, rfl⟩ := hx
  exact ok_J (f := fun (y : Bool) => (bA y)) orc_C11 (by kernel_rfl) (T44 C11 fuel0  x.1 x.2.1 x.2.2) hy
noncomputable def C12 : Nat → List A → Option A := upd C11 44 o44
theorem orc_C12 : OrcOK (cx C12) := orc_upd orc_C11 ok44
def x45 (x : Unit) : List A := []
theorem ix45 : Inj x45 := fun _ _ _ => rfl
noncomputable def o45 (args : List A) : Option A := orcOf x45 (fun x => (G45 ).map fun y => (A.agg [(A.v Value.nilFunc), (iA 0), (iA 0), (iA 0), (A.fn (Fn.func 73) [] []), (iA 1), (iA 3), (iA 2), (A.fn (Fn.func 74) [] []), (iA 1), (iA 1048576), (iA 2), (A.fn (Fn.func 75) [] []), (iA 1), (iA 16), (iA 0), (A.fn (Fn.func 76) [] []), (iA 0), (iA 16), (iA 0), (A.fn (Fn.func 77) [] []), (iA 0), (iA 500), (iA 0), (A.fn (Fn.func 78) [] []), (iA 0), (iA 1048576), (iA 0)])) args
theorem ok45 (args : List A) (r : A) (h : o45 args = some r) : CallOK Tryd.prog (cx C0).glob 45 args r := by
  obtain ⟨x, rfl, hx⟩ := orcOf_ok h
  simp only [Option.map_eq_some_iff] at hx
  obtain ⟨y, hy, rfl⟩ := hx
  exact ok_J (f := fun (y : Unit) => (A.agg [(A.v Value.nilFunc), (iA 0), (iA 0), (iA 0), (A.fn (Fn.func 73) [] []), (iA 1), (iA 3), (iA 2), (A.fn (Fn.func 74) [] []), (iA 1), (iA 1048576), (iA 2), (A.fn (Fn.func 75) [] []), (iA 1), (iA 16), (iA 0), (A.fn (Fn.func 76) [] []), (iA 0), (iA 16), (iA 0), (A.fn (Fn.func 77) [] []), (iA 0), (iA 500), (iA 0), (A.fn (Fn.func 78) [] []), (iA 0), (iA 1048576), (iA 0)])) orc_C12 (by kernel_rfl) (T45 C12 fuel0  ) hy
noncomputable def C13 : Nat → List A → Option A := upd C12 45 o45
theorem orc_C13 : OrcOK (cx C13) := orc_upd orc_C12 ok45
def x23 (x : S_Body) : List A := [(A.agg [(A.v (Value.string x.Name)), (iA x.Weight), (iA x.Lift), (iA x.Girth), (iA x.Step), (iA x.Jump), (iA x.Reach.1), (iA x.Reach.2.1), (iA x.Reach.2.2), (iA x.Speed.1), (iA x.Speed.2.1), (iA x.Speed.2.2), (iA x.Top.1), (iA x.Top.2.1), (iA x.Top.2.2), (iA x.Effort), (iA x.Recover)])]
theorem ix23 : Inj x23 := fun x y h => by
  simp only [x23, List.cons.injEq, A.v.injEq, A.agg.injEq, A.imm.injEq, Value.int.injEq, Value.bool.injEq, Value.string.injEq, and_true, true_and] at h
  obtain ⟨xa0Name, xa0Weight, xa0Lift, xa0Girth, xa0Step, xa0Jump, ⟨xa0Reach0, xa0Reach1, xa0Reach2⟩, ⟨xa0Speed0, xa0Speed1, xa0Speed2⟩, ⟨xa0Top0, xa0Top1, xa0Top2⟩, xa0Effort, xa0Recover⟩ := x
  obtain ⟨ya0Name, ya0Weight, ya0Lift, ya0Girth, ya0Step, ya0Jump, ⟨ya0Reach0, ya0Reach1, ya0Reach2⟩, ⟨ya0Speed0, ya0Speed1, ya0Speed2⟩, ⟨ya0Top0, ya0Top1, ya0Top2⟩, ya0Effort, ya0Recover⟩ := y
  simp_all
noncomputable def o23 (args : List A) : Option A := orcOf x23 (fun x => (G23 x).map fun y => (iA y)) args
theorem r43_C13 : Orc43 C13 := fun a0 => (by kernel_rfl : _ = o43 (x43 a0)).trans (orcOf_eq _ ix43 a0)
theorem r44_C13 : Orc44 C13 := fun a0 a1 a2 => (by kernel_rfl : _ = o44 (x44 (a0, a1, a2))).trans (orcOf_eq _ ix44 (a0, a1, a2))
theorem r45_C13 : Orc45 C13 := fun _ => (by kernel_rfl : _ = o45 (x45 ())).trans (orcOf_eq _ ix45 ())
theorem ok23 (args : List A) (r : A) (h : o23 args = some r) : CallOK Tryd.prog (cx C0).glob 23 args r := by
  obtain ⟨x, rfl, hx⟩ := orcOf_ok h
  simp only [Option.map_eq_some_iff] at hx
  obtain ⟨y, hy, rfl⟩ := hx
  exact ok_J (f := fun (y : Int) => (iA y)) orc_C13 (by kernel_rfl) (T23 C13 fuel0 (r43_C13) (r44_C13) (r45_C13) x) hy
noncomputable def C14 : Nat → List A → Option A := upd C13 23 o23
theorem orc_C14 : OrcOK (cx C14) := orc_upd orc_C13 ok23
def x25 (x : Int × Int) : List A := [(iA x.1), (iA x.2)]
theorem ix25 : Inj x25 := fun x y h => by
  simp only [x25, List.cons.injEq, A.v.injEq, A.agg.injEq, A.imm.injEq, Value.int.injEq, Value.bool.injEq, Value.string.injEq, and_true, true_and] at h
  obtain ⟨xa0, xa1⟩ := x
  obtain ⟨ya0, ya1⟩ := y
  simp_all
noncomputable def o25 (args : List A) : Option A := orcOf x25 (fun x => (G25 x.1 x.2).map fun y => (A.tup [(A.agg [(iA y.1.X), (iA y.1.Y), (iA y.1.Z)]), (iA y.2)])) args
theorem ok25 (args : List A) (r : A) (h : o25 args = some r) : CallOK Tryd.prog (cx C0).glob 25 args r := by
  obtain ⟨x, rfl, hx⟩ := orcOf_ok h
  simp only [Option.map_eq_some_iff] at hx
  obtain ⟨y, hy, rfl⟩ := hx
  exact ok_J (f := fun (y : (S_Vec × Int)) => (A.tup [(A.agg [(iA y.1.X), (iA y.1.Y), (iA y.1.Z)]), (iA y.2)])) orc_C14 (by kernel_rfl) (T25 C14 fuel0  x.1 x.2) hy
noncomputable def C15 : Nat → List A → Option A := upd C14 25 o25
theorem orc_C15 : OrcOK (cx C15) := orc_upd orc_C14 ok25
def x20 (x : S_State × S_Body) : List A := [(A.agg [(iA x.1.X), (iA x.1.Y), (iA x.1.Face), (iA x.1.Limbs.1.Dir), (iA x.1.Limbs.1.Level), (iA x.1.Limbs.2.1.Dir), (iA x.1.Limbs.2.1.Level), (iA x.1.Limbs.2.2.1.Dir), (iA x.1.Limbs.2.2.1.Level), (iA x.1.Limbs.2.2.2.1.Dir), (iA x.1.Limbs.2.2.2.1.Level), (iA x.1.Limbs.2.2.2.2.Dir), (iA x.1.Limbs.2.2.2.2.Level)]), (A.agg [(A.v (Value.string x.2.Name)), (iA x.2.Weight), (iA x.2.Lift), (iA x.2.Girth), (iA x.2.Step), (iA x.2.Jump), (iA x.2.Reach.1), (iA x.2.Reach.2.1), (iA x.2.Reach.2.2), (iA x.2.Speed.1), (iA x.2.Speed.2.1), (iA x.2.Speed.2.2), (iA x.2.Top.1), (iA x.2.Top.2.1), (iA x.2.Top.2.2), (iA x.2.Effort), (iA x.2.Recover)])]
theorem ix20 : Inj x20 := fun x y h => by
  simp only [x20, List.cons.injEq, A.v.injEq, A.agg.injEq, A.imm.injEq, Value.int.injEq, Value.bool.injEq, Value.string.injEq, and_true, true_and] at h
  obtain ⟨⟨xa0X, xa0Y, xa0Face, ⟨⟨xa0Limbs0Dir, xa0Limbs0Level⟩, ⟨xa0Limbs1Dir, xa0Limbs1Level⟩, ⟨xa0Limbs2Dir, xa0Limbs2Level⟩, ⟨xa0Limbs3Dir, xa0Limbs3Level⟩, ⟨xa0Limbs4Dir, xa0Limbs4Level⟩⟩⟩, ⟨xa1Name, xa1Weight, xa1Lift, xa1Girth, xa1Step, xa1Jump, ⟨xa1Reach0, xa1Reach1, xa1Reach2⟩, ⟨xa1Speed0, xa1Speed1, xa1Speed2⟩, ⟨xa1Top0, xa1Top1, xa1Top2⟩, xa1Effort, xa1Recover⟩⟩ := x
  obtain ⟨⟨ya0X, ya0Y, ya0Face, ⟨⟨ya0Limbs0Dir, ya0Limbs0Level⟩, ⟨ya0Limbs1Dir, ya0Limbs1Level⟩, ⟨ya0Limbs2Dir, ya0Limbs2Level⟩, ⟨ya0Limbs3Dir, ya0Limbs3Level⟩, ⟨ya0Limbs4Dir, ya0Limbs4Level⟩⟩⟩, ⟨ya1Name, ya1Weight, ya1Lift, ya1Girth, ya1Step, ya1Jump, ⟨ya1Reach0, ya1Reach1, ya1Reach2⟩, ⟨ya1Speed0, ya1Speed1, ya1Speed2⟩, ⟨ya1Top0, ya1Top1, ya1Top2⟩, ya1Effort, ya1Recover⟩⟩ := y
  simp_all
noncomputable def o20 (args : List A) : Option A := orcOf x20 (fun x => (G20 x.1 x.2).map fun y => (A.tup [(A.agg [(iA y.1.X.Lo), (iA y.1.X.Hi), (iA y.1.Y.Lo), (iA y.1.Y.Hi)]), (iA y.2)])) args
theorem r16_C15 : Orc16 C15 := fun a0 => (by kernel_rfl : _ = o16 (x16 a0)).trans (orcOf_eq _ ix16 a0)
theorem r23_C15 : Orc23 C15 := fun a0 => (by kernel_rfl : _ = o23 (x23 a0)).trans (orcOf_eq _ ix23 a0)
theorem r24_C15 : Orc24 C15 := fun a0 a1 => (by kernel_rfl : _ = o24 (x24 (a0, a1))).trans (orcOf_eq _ ix24 (a0, a1))
theorem r25_C15 : Orc25 C15 := fun a0 a1 => (by kernel_rfl : _ = o25 (x25 (a0, a1))).trans (orcOf_eq _ ix25 (a0, a1))
theorem ok20 (args : List A) (r : A) (h : o20 args = some r) : CallOK Tryd.prog (cx C0).glob 20 args r := by
  obtain ⟨x, rfl, hx⟩ := orcOf_ok h
  simp only [Option.map_eq_some_iff] at hx
  obtain ⟨y, hy, rfl⟩ := hx
  exact ok_J (f := fun (y : (S_Box × Int)) => (A.tup [(A.agg [(iA y.1.X.Lo), (iA y.1.X.Hi), (iA y.1.Y.Lo), (iA y.1.Y.Hi)]), (iA y.2)])) orc_C15 (by kernel_rfl) (T20 C15 fuel0 (r16_C15) (r23_C15) (r24_C15) (r25_C15) x.1 x.2) hy
noncomputable def C16 : Nat → List A → Option A := upd C15 20 o20
theorem orc_C16 : OrcOK (cx C16) := orc_upd orc_C15 ok20
def x31 (x : Int) : List A := [(iA x)]
theorem ix31 : Inj x31 := fun x y h => by
  simp only [x31, List.cons.injEq, A.v.injEq, A.agg.injEq, A.imm.injEq, Value.int.injEq, Value.bool.injEq, Value.string.injEq, and_true, true_and] at h
  exact h
noncomputable def o31 (args : List A) : Option A := orcOf x31 (fun x => (G31 x).map fun y => (A.tup [(iA y.1), (iA y.2)])) args
theorem ok31 (args : List A) (r : A) (h : o31 args = some r) : CallOK Tryd.prog (cx C0).glob 31 args r := by
  obtain ⟨x, rfl, hx⟩ := orcOf_ok h
  simp only [Option.map_eq_some_iff] at hx
  obtain ⟨y, hy, rfl⟩ := hx
  exact ok_J (f := fun (y : (Int × Int)) => (A.tup [(iA y.1), (iA y.2)])) orc_C16 (by kernel_rfl) (T31 C16 fuel0  x) hy
noncomputable def C17 : Nat → List A → Option A := upd C16 31 o31
theorem orc_C17 : OrcOK (cx C17) := orc_upd orc_C16 ok31
def x14 (x : S_State × Int) : List A := [(A.agg [(iA x.1.X), (iA x.1.Y), (iA x.1.Face), (iA x.1.Limbs.1.Dir), (iA x.1.Limbs.1.Level), (iA x.1.Limbs.2.1.Dir), (iA x.1.Limbs.2.1.Level), (iA x.1.Limbs.2.2.1.Dir), (iA x.1.Limbs.2.2.1.Level), (iA x.1.Limbs.2.2.2.1.Dir), (iA x.1.Limbs.2.2.2.1.Level), (iA x.1.Limbs.2.2.2.2.Dir), (iA x.1.Limbs.2.2.2.2.Level)]), (iA x.2)]
theorem ix14 : Inj x14 := fun x y h => by
  simp only [x14, List.cons.injEq, A.v.injEq, A.agg.injEq, A.imm.injEq, Value.int.injEq, Value.bool.injEq, Value.string.injEq, and_true, true_and] at h
  obtain ⟨⟨xa0X, xa0Y, xa0Face, ⟨⟨xa0Limbs0Dir, xa0Limbs0Level⟩, ⟨xa0Limbs1Dir, xa0Limbs1Level⟩, ⟨xa0Limbs2Dir, xa0Limbs2Level⟩, ⟨xa0Limbs3Dir, xa0Limbs3Level⟩, ⟨xa0Limbs4Dir, xa0Limbs4Level⟩⟩⟩, xa1⟩ := x
  obtain ⟨⟨ya0X, ya0Y, ya0Face, ⟨⟨ya0Limbs0Dir, ya0Limbs0Level⟩, ⟨ya0Limbs1Dir, ya0Limbs1Level⟩, ⟨ya0Limbs2Dir, ya0Limbs2Level⟩, ⟨ya0Limbs3Dir, ya0Limbs3Level⟩, ⟨ya0Limbs4Dir, ya0Limbs4Level⟩⟩⟩, ya1⟩ := y
  simp_all
noncomputable def o14 (args : List A) : Option A := orcOf x14 (fun x => (G14 x.1 x.2).map fun y => (A.tup [(A.agg [(iA y.1.X), (iA y.1.Y), (iA y.1.Face), (iA y.1.Limbs.1.Dir), (iA y.1.Limbs.1.Level), (iA y.1.Limbs.2.1.Dir), (iA y.1.Limbs.2.1.Level), (iA y.1.Limbs.2.2.1.Dir), (iA y.1.Limbs.2.2.1.Level), (iA y.1.Limbs.2.2.2.1.Dir), (iA y.1.Limbs.2.2.2.1.Level), (iA y.1.Limbs.2.2.2.2.Dir), (iA y.1.Limbs.2.2.2.2.Level)]), (iA y.2)])) args
theorem r16_C17 : Orc16 C17 := fun a0 => (by kernel_rfl : _ = o16 (x16 a0)).trans (orcOf_eq _ ix16 a0)
theorem r29_C17 : Orc29 C17 := fun a0 a1 a2 => (by kernel_rfl : _ = o29 (x29 (a0, a1, a2))).trans (orcOf_eq _ ix29 (a0, a1, a2))
theorem r31_C17 : Orc31 C17 := fun a0 => (by kernel_rfl : _ = o31 (x31 a0)).trans (orcOf_eq _ ix31 a0)
theorem ok14 (args : List A) (r : A) (h : o14 args = some r) : CallOK Tryd.prog (cx C0).glob 14 args r := by
  obtain ⟨x, rfl, hx⟩ := orcOf_ok h
  simp only [Option.map_eq_some_iff] at hx
  obtain ⟨y, hy, rfl⟩ := hx
  exact ok_J (f := fun (y : (S_State × Int)) => (A.tup [(A.agg [(iA y.1.X), (iA y.1.Y), (iA y.1.Face), (iA y.1.Limbs.1.Dir), (iA y.1.Limbs.1.Level), (iA y.1.Limbs.2.1.Dir), (iA y.1.Limbs.2.1.Level), (iA y.1.Limbs.2.2.1.Dir), (iA y.1.Limbs.2.2.1.Level), (iA y.1.Limbs.2.2.2.1.Dir), (iA y.1.Limbs.2.2.2.1.Level), (iA y.1.Limbs.2.2.2.2.Dir), (iA y.1.Limbs.2.2.2.2.Level)]), (iA y.2)])) orc_C17 (by kernel_rfl) (T14 C17 fuel0 (r16_C17) (r29_C17) (r31_C17) x.1 x.2) hy
noncomputable def C18 : Nat → List A → Option A := upd C17 14 o14
theorem orc_C18 : OrcOK (cx C18) := orc_upd orc_C17 ok14
def x11 (x : Unit) : List A := []
theorem ix11 : Inj x11 := fun _ _ _ => rfl
noncomputable def o11 (args : List A) : Option A := orcOf x11 (fun x => (G11 ).map fun y => (bA y)) args
theorem r12_C18 : Orc12 C18 := fun a0 => (by kernel_rfl : _ = o12 (x12 a0)).trans (orcOf_eq _ ix12 a0)
theorem r14_C18 : Orc14 C18 := fun a0 a1 => (by kernel_rfl : _ = o14 (x14 (a0, a1))).trans (orcOf_eq _ ix14 (a0, a1))
theorem r16_C18 : Orc16 C18 := fun a0 => (by kernel_rfl : _ = o16 (x16 a0)).trans (orcOf_eq _ ix16 a0)
theorem r18_C18 : Orc18 C18 := fun a0 a1 a2 => (by kernel_rfl : _ = o18 (x18 (a0, a1, a2))).trans (orcOf_eq _ ix18 (a0, a1, a2))
theorem r20_C18 : Orc20 C18 := fun a0 a1 => (by kernel_rfl : _ = o20 (x20 (a0, a1))).trans (orcOf_eq _ ix20 (a0, a1))
theorem r28_C18 : Orc28 C18 := fun _ => (by kernel_rfl : _ = o28 (x28 ())).trans (orcOf_eq _ ix28 ())
theorem ok11 (args : List A) (r : A) (h : o11 args = some r) : CallOK Tryd.prog (cx C0).glob 11 args r := by
  obtain ⟨x, rfl, hx⟩ := orcOf_ok h
  simp only [Option.map_eq_some_iff] at hx
  obtain ⟨y, hy, rfl⟩ := hx
  exact ok_J (f := fun (y : Bool) => (bA y)) orc_C18 (by kernel_rfl) (T11 C18 fuel0 (r12_C18) (r14_C18) (r16_C18) (r18_C18) (r20_C18) (r28_C18) ) hy
noncomputable def C19 : Nat → List A → Option A := upd C18 11 o11
theorem orc_C19 : OrcOK (cx C19) := orc_upd orc_C18 ok11
def x9 (x : S_State × S_Body) : List A := [(A.agg [(iA x.1.X), (iA x.1.Y), (iA x.1.Face), (iA x.1.Limbs.1.Dir), (iA x.1.Limbs.1.Level), (iA x.1.Limbs.2.1.Dir), (iA x.1.Limbs.2.1.Level), (iA x.1.Limbs.2.2.1.Dir), (iA x.1.Limbs.2.2.1.Level), (iA x.1.Limbs.2.2.2.1.Dir), (iA x.1.Limbs.2.2.2.1.Level), (iA x.1.Limbs.2.2.2.2.Dir), (iA x.1.Limbs.2.2.2.2.Level)]), (A.agg [(A.v (Value.string x.2.Name)), (iA x.2.Weight), (iA x.2.Lift), (iA x.2.Girth), (iA x.2.Step), (iA x.2.Jump), (iA x.2.Reach.1), (iA x.2.Reach.2.1), (iA x.2.Reach.2.2), (iA x.2.Speed.1), (iA x.2.Speed.2.1), (iA x.2.Speed.2.2), (iA x.2.Top.1), (iA x.2.Top.2.1), (iA x.2.Top.2.2), (iA x.2.Effort), (iA x.2.Recover)])]
theorem ix9 : Inj x9 := fun x y h => by
  simp only [x9, List.cons.injEq, A.v.injEq, A.agg.injEq, A.imm.injEq, Value.int.injEq, Value.bool.injEq, Value.string.injEq, and_true, true_and] at h
  obtain ⟨⟨xa0X, xa0Y, xa0Face, ⟨⟨xa0Limbs0Dir, xa0Limbs0Level⟩, ⟨xa0Limbs1Dir, xa0Limbs1Level⟩, ⟨xa0Limbs2Dir, xa0Limbs2Level⟩, ⟨xa0Limbs3Dir, xa0Limbs3Level⟩, ⟨xa0Limbs4Dir, xa0Limbs4Level⟩⟩⟩, ⟨xa1Name, xa1Weight, xa1Lift, xa1Girth, xa1Step, xa1Jump, ⟨xa1Reach0, xa1Reach1, xa1Reach2⟩, ⟨xa1Speed0, xa1Speed1, xa1Speed2⟩, ⟨xa1Top0, xa1Top1, xa1Top2⟩, xa1Effort, xa1Recover⟩⟩ := x
  obtain ⟨⟨ya0X, ya0Y, ya0Face, ⟨⟨ya0Limbs0Dir, ya0Limbs0Level⟩, ⟨ya0Limbs1Dir, ya0Limbs1Level⟩, ⟨ya0Limbs2Dir, ya0Limbs2Level⟩, ⟨ya0Limbs3Dir, ya0Limbs3Level⟩, ⟨ya0Limbs4Dir, ya0Limbs4Level⟩⟩⟩, ⟨ya1Name, ya1Weight, ya1Lift, ya1Girth, ya1Step, ya1Jump, ⟨ya1Reach0, ya1Reach1, ya1Reach2⟩, ⟨ya1Speed0, ya1Speed1, ya1Speed2⟩, ⟨ya1Top0, ya1Top1, ya1Top2⟩, ya1Effort, ya1Recover⟩⟩ := y
  simp_all
noncomputable def o9 (args : List A) : Option A := orcOf x9 (fun x => (G9 x.1 x.2).map fun y => (bA y)) args
theorem r11_C19 : Orc11 C19 := fun _ => (by kernel_rfl : _ = o11 (x11 ())).trans (orcOf_eq _ ix11 ())
theorem r16_C19 : Orc16 C19 := fun a0 => (by kernel_rfl : _ = o16 (x16 a0)).trans (orcOf_eq _ ix16 a0)
theorem r20_C19 : Orc20 C19 := fun a0 a1 => (by kernel_rfl : _ = o20 (x20 (a0, a1))).trans (orcOf_eq _ ix20 (a0, a1))
theorem r23_C19 : Orc23 C19 := fun a0 => (by kernel_rfl : _ = o23 (x23 a0)).trans (orcOf_eq _ ix23 a0)
theorem r24_C19 : Orc24 C19 := fun a0 a1 => (by kernel_rfl : _ = o24 (x24 (a0, a1))).trans (orcOf_eq _ ix24 (a0, a1))
theorem r25_C19 : Orc25 C19 := fun a0 a1 => (by kernel_rfl : _ = o25 (x25 (a0, a1))).trans (orcOf_eq _ ix25 (a0, a1))
theorem ok9 (args : List A) (r : A) (h : o9 args = some r) : CallOK Tryd.prog (cx C0).glob 9 args r := by
  obtain ⟨x, rfl, hx⟩ := orcOf_ok h
  simp only [Option.map_eq_some_iff] at hx
  obtain ⟨y, hy, rfl⟩ := hx
  exact ok_J (f := fun (y : Bool) => (bA y)) orc_C19 (by kernel_rfl) (T9 C19 fuel0 (r11_C19) (r16_C19) (r20_C19) (r23_C19) (r24_C19) (r25_C19) x.1 x.2) hy
end Go.Proofs.YtooamdacfhfjoaaDoor
