/-
  Layer 26, in plain Lean: states, checks, mirrors.
-/
import Derived.Test.YtooamdacfhfjoaaDoorL
import Derived.Test.YtooamdacfhfjoaaDoorPure
import Derived.KernelRfl
namespace Go.Proofs.YtooamdacfhfjoaaDoor
set_option linter.unusedVariables false
set_option linter.unusedSimpArgs false
set_option maxRecDepth 100000
set_option maxHeartbeats 4000000
theorem fu : fuel0 = 1208925819614629174706176 := rfl
theorem sane11 : G11 = some true := by kernel_rfl
theorem g29 (a b c : Int) : G29 a b c = some (decide (b ≤ a) && decide (a ≤ c)) := by
  unfold G29 F29
  cases decide (b ≤ a) <;> rfl
def limbB (d l : Int) : Bool := (d == 0 && l == 0) || (decide (0 ≤ d) && decide (d ≤ 8) && (decide (1 ≤ l) && decide (l ≤ 3)))
def limbL (x : S_Limb) : Bool := limbB x.Dir x.Level
def placeB (s : S_State) : Bool := decide (-1073741824 ≤ s.X) && decide (s.X ≤ 1073741824) && (decide (-1073741824 ≤ s.Y) && decide (s.Y ≤ 1073741824)) && (decide (0 ≤ s.Face) && decide (s.Face ≤ 7))
def okB (s : S_State) : Bool := placeB s && (limbL s.Limbs.1 && (limbL s.Limbs.2.1 && (limbL s.Limbs.2.2.1 && (limbL s.Limbs.2.2.2.1 && limbL s.Limbs.2.2.2.2))))
theorem w1 : wr .i64 1 = 1 := rfl
theorem w2 : wr .i64 2 = 2 := rfl
theorem w3 : wr .i64 3 = 3 := rfl
theorem w4 : wr .i64 4 = 4 := rfl
theorem w5 : wr .i64 5 = 5 := rfl
theorem limb16 (d l : Int) : (Option.bind (bif (!((d == 0) && (l == 0))) then (Option.bind (G29 d 0 8) fun y38 => Option.bind (bif (!y38) then (some true) else (Option.bind (G29 l 1 3) fun y40 => some (!y40))) fun y41 => some y41) else (some false)) fun y : Bool => (some y)) = some (!limbB d l) := by
  unfold limbB
  simp only [g29, Option.bind_some]
  cases (d == 0 && l == 0) with
  | true => rfl
  | false =>
    cases (decide (0 ≤ d) && decide (d ≤ 8)) with
    | false => rfl
    | true => cases (decide (1 ≤ l) && decide (l ≤ 3)) <;> rfl
theorem bind_some' {α : Type} (x : Option α) : (x.bind fun y => some y) = x := by cases x <;> rfl
theorem limb16' (d l : Int) : (bif (!((d == 0) && (l == 0))) then (Option.bind (G29 d 0 8) fun y38 => Option.bind (bif (!y38) then (some true) else (Option.bind (G29 l 1 3) fun y40 => some (!y40))) fun y41 => some y41) else (some false)) = some (!limbB d l) := (bind_some' _).symm.trans (limb16 d l)
theorem f160 (n : Nat) (v17 d1 l1 d2 l2 d3 l3 d4 l4 d5 l5 : Int) (s : S_State) (m : Nat) : ∃ a b, F16_16_0 n v17 d1 l1 d2 l2 d3 l3 d4 l4 d5 l5 s (m + 6) 0 = some (if (limbB d1 l1 && (limbB d2 l2 && (limbB d3 l3 && (limbB d4 l4 && limbB d5 l5)))) = true then .inr () else .inl (260, a, b)) := by
  simp only [F16_16_0, Int.reduceLT, Int.reduceEq, decide_true, decide_false, cond_true, cond_false, Option.bind_some, limb16', Int.reduceAdd, w1, w2, w3, w4, w5]
  cases limbB d1 l1 with
  | false => exact ⟨_, _, rfl⟩
  | true =>
    cases limbB d2 l2 with
    | false => exact ⟨_, _, rfl⟩
    | true =>
      cases limbB d3 l3 with
      | false => exact ⟨_, _, rfl⟩
      | true =>
        cases limbB d4 l4 with
        | false => exact ⟨_, _, rfl⟩
        | true =>
          cases limbB d5 l5 with
          | false => exact ⟨_, _, rfl⟩
          | true => exact ⟨0, 0, rfl⟩
theorem g16 (s : S_State) : G16 s = some (if okB s = true then 0 else 260) := by
  unfold G16 F16 okB placeB
  simp only [g29, Option.bind_some]
  cases (decide (-1073741824 ≤ s.X) && decide (s.X ≤ 1073741824)) with
  | false => rfl
  | true =>
    cases (decide (-1073741824 ≤ s.Y) && decide (s.Y ≤ 1073741824)) with
    | false => rfl
    | true =>
      cases (decide (0 ≤ s.Face) && decide (s.Face ≤ 7)) with
      | false => rfl
      | true =>
        obtain ⟨a, b, h⟩ := f160 fuel0 0 s.Limbs.1.Dir s.Limbs.1.Level s.Limbs.2.1.Dir s.Limbs.2.1.Level s.Limbs.2.2.1.Dir s.Limbs.2.2.1.Level s.Limbs.2.2.2.1.Dir s.Limbs.2.2.2.1.Level s.Limbs.2.2.2.2.Dir s.Limbs.2.2.2.2.Level s (fuel0 + 2)
        simp only [Bool.not_true, cond_false, Option.bind_some, Bool.and_self, Bool.true_and]
        rw [show fuel0 + 8 = fuel0 + 2 + 6 from rfl, h]
        unfold limbL
        simp only [Option.bind_some]
        cases (limbB s.Limbs.1.Dir s.Limbs.1.Level && (limbB s.Limbs.2.1.Dir s.Limbs.2.1.Level && (limbB s.Limbs.2.2.1.Dir s.Limbs.2.2.1.Level && (limbB s.Limbs.2.2.2.1.Dir s.Limbs.2.2.2.1.Level && limbB s.Limbs.2.2.2.2.Dir s.Limbs.2.2.2.2.Level)))) <;> rfl
end Go.Proofs.YtooamdacfhfjoaaDoor
