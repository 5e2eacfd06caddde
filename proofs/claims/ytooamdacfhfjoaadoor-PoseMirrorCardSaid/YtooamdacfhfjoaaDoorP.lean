/-
  Layer 26, in plain Lean: states, checks, mirrors.
-/
import Derived.Test.YtooamdacfhfjoaaDoorL
import Derived.Test.YtooamdacfhfjoaaDoorPure
import Derived.KernelRfl
namespace Go.Proofs.YtooamdacfhfjoaaDoor
set_option linter.unusedVariables false
set_option linter.unusedSimpArgs false
set_option maxRecDepth 100000
set_option maxHeartbeats 4000000
theorem sane11 : G11 = some true := by kernel_rfl
theorem g29 (a b c : Int) : G29 a b c = some (decide (b ≤ a) && decide (a ≤ c)) := by
  unfold G29 F29
  cases decide (b ≤ a) <;> rfl
def limbB (d l : Int) : Bool := (d == 0 && l == 0) || (decide (0 ≤ d) && decide (d ≤ 8) && (decide (1 ≤ l) && decide (l ≤ 3)))
def limbL (x : S_Limb) : Bool := limbB x.Dir x.Level
def placeB (s : S_State) : Bool := decide (-1073741824 ≤ s.X) && decide (s.X ≤ 1073741824) && (decide (-1073741824 ≤ s.Y) && decide (s.Y ≤ 1073741824)) && (decide (0 ≤ s.Face) && decide (s.Face ≤ 7))
def okB (s : S_State) : Bool := placeB s && (limbL s.Limbs.1 && (limbL s.Limbs.2.1 && (limbL s.Limbs.2.2.1 && (limbL s.Limbs.2.2.2.1 && limbL s.Limbs.2.2.2.2))))
theorem w1 : wr .i64 1 = 1 := rfl
theorem w2 : wr .i64 2 = 2 := rfl
theorem w3 : wr .i64 3 = 3 := rfl
theorem w4 : wr .i64 4 = 4 := rfl
theorem w5 : wr .i64 5 = 5 := rfl
theorem limb16 (d l : Int) : (Option.bind (bif (!((d == 0) && (l == 0))) then (Option.bind (G29 d 0 8) fun y38 => Option.bind (bif (!y38) then (some true) else (Option.bind (G29 l 1 3) fun y40 => some (!y40))) fun y41 => some y41) else (some false)) fun y : Bool => (some y)) = some (!limbB d l) := by
  unfold limbB
  simp only [g29, Option.bind_some]
  cases (d == 0 && l == 0) with
  | true => rfl
  | false =>
    cases (decide (0 ≤ d) && decide (d ≤ 8)) with
    | false => rfl
    | true => cases (decide (1 ≤ l) && decide (l ≤ 3)) <;> rfl
theorem bind_some' {α : Type} (x : Option α) : (x.bind fun y => some y) = x := by cases x <;> rfl
theorem limb16' (d l : Int) : (bif (!((d == 0) && (l == 0))) then (Option.bind (G29 d 0 8) fun y38 => Option.bind (bif (!y38) then (some true) else (Option.bind (G29 l 1 3) fun y40 => some (!y40))) fun y41 => some y41) else (some false)) = some (!limbB d l) := (bind_some' _).symm.trans (limb16 d l)
theorem f160 (n : Nat) (v17 d1 l1 d2 l2 d3 l3 d4 l4 d5 l5 : Int) (s : S_State) (m : Nat) : ∃ a b, F16_16_0 n v17 d1 l1 d2 l2 d3 l3 d4 l4 d5 l5 s (m + 6) 0 = some (if (limbB d1 l1 && (limbB d2 l2 && (limbB d3 l3 && (limbB d4 l4 && limbB d5 l5)))) = true then .inr () else .inl (260, a, b)) := by
  simp only [F16_16_0, Int.reduceLT, Int.reduceEq, decide_true, decide_false, cond_true, cond_false, Option.bind_some, limb16', Int.reduceAdd, w1, w2, w3, w4, w5]
  cases limbB d1 l1 with
  | false => exact ⟨_, _, rfl⟩
  | true =>
    cases limbB d2 l2 with
    | false => exact ⟨_, _, rfl⟩
    | true =>
      cases limbB d3 l3 with
      | false => exact ⟨_, _, rfl⟩
      | true =>
        cases limbB d4 l4 with
        | false => exact ⟨_, _, rfl⟩
        | true =>
          cases limbB d5 l5 with
          | false => exact ⟨_, _, rfl⟩
          | true => exact ⟨0, 0, rfl⟩
theorem g16 (s : S_State) : G16 s = some (if okB s = true then 0 else 260) := by
  unfold G16 F16 okB placeB
  simp only [g29, Option.bind_some]
  cases (decide (-1073741824 ≤ s.X) && decide (s.X ≤ 1073741824)) with
  | false => rfl
  | true =>
    cases (decide (-1073741824 ≤ s.Y) && decide (s.Y ≤ 1073741824)) with
    | false => rfl
    | true =>
      cases (decide (0 ≤ s.Face) && decide (s.Face ≤ 7)) with
      | false => rfl
      | true =>
        obtain ⟨a, b, h⟩ := f160 fuel0 0 s.Limbs.1.Dir s.Limbs.1.Level s.Limbs.2.1.Dir s.Limbs.2.1.Level s.Limbs.2.2.1.Dir s.Limbs.2.2.1.Level s.Limbs.2.2.2.1.Dir s.Limbs.2.2.2.1.Level s.Limbs.2.2.2.2.Dir s.Limbs.2.2.2.2.Level s (fuel0 + 2)
        simp only [Bool.not_true, cond_false, Option.bind_some, Bool.and_self, Bool.true_and]
        rw [show fuel0 + 8 = fuel0 + 2 + 6 from rfl, h]
        unfold limbL
        simp only [Option.bind_some]
        cases (limbB s.Limbs.1.Dir s.Limbs.1.Level && (limbB s.Limbs.2.1.Dir s.Limbs.2.1.Level && (limbB s.Limbs.2.2.1.Dir s.Limbs.2.2.1.Level && (limbB s.Limbs.2.2.2.1.Dir s.Limbs.2.2.2.1.Level && limbB s.Limbs.2.2.2.2.Dir s.Limbs.2.2.2.2.Level)))) <;> rfl
def mirR (d : Int) : Int × Int := if d < 0 ∨ 8 < d then (0, 150) else if d ≤ 1 then (d, 0) else (10 - d, 0)
theorem g31 (d : Int) : G31 d = some (mirR d) := by
  unfold G31 F31 mirR
  by_cases h1 : d < 0
  · simp [h1]
  · by_cases h2 : 8 < d
    · simp [h1, h2]
    · by_cases h3 : d ≤ 1
      · simp [h1, h2, h3]
      · simp only [h1, h2, h3, decide_false, cond_false, Option.bind_some, or_self, if_false]
        rw [wr64 (by omega) (by omega)]
def mirL (x : S_Limb) : S_Limb := S_Limb.mk (mirR x.Dir).1 x.Level
def zeroS : S_State := S_State.mk 0 0 0 (S_Limb.mk 0 0, S_Limb.mk 0 0, S_Limb.mk 0 0, S_Limb.mk 0 0, S_Limb.mk 0 0)
def mirS (s : S_State) (w : Int) : S_State := S_State.mk (wr .i64 (wr .i64 (29 * w) - s.X)) s.Y (Int.tmod (wr .i64 (8 - s.Face)) 8) (mirL s.Limbs.2.1, mirL s.Limbs.1, mirL s.Limbs.2.2.2.1, mirL s.Limbs.2.2.1, mirL s.Limbs.2.2.2.2)
def mirrR (s : S_State) (w : Int) : S_State × Int := if okB s = true then (if 1 ≤ w ∧ w ≤ 1000 then (if okB (mirS s w) = true then (mirS s w, 0) else (zeroS, 2)) else (zeroS, 1)) else (zeroS, 260)
theorem f14s0 (n : Nat) (v5 : Int) (s : S_State) (v13 v14 v15 : Int) (m : Nat) (a1 a2 a3 a4 a5 a6 a7 a8 a9 a0 : Int) : F14_14_0 n v5 1 0 3 2 4 s v13 v14 v15 (m + 1) 0 a1 a2 a3 a4 a5 a6 a7 a8 a9 a0 = Option.bind (G31 s.Limbs.2.1.Dir) fun y => F14_14_0 n v5 1 0 3 2 4 s v13 v14 v15 m 1 y.1 s.Limbs.2.1.Level a3 a4 a5 a6 a7 a8 a9 a0 := by kernel_rfl
theorem f14s1 (n : Nat) (v5 : Int) (s : S_State) (v13 v14 v15 : Int) (m : Nat) (a1 a2 a3 a4 a5 a6 a7 a8 a9 a0 : Int) : F14_14_0 n v5 1 0 3 2 4 s v13 v14 v15 (m + 1) 1 a1 a2 a3 a4 a5 a6 a7 a8 a9 a0 = Option.bind (G31 s.Limbs.1.Dir) fun y => F14_14_0 n v5 1 0 3 2 4 s v13 v14 v15 m 2 a1 a2 y.1 s.Limbs.1.Level a5 a6 a7 a8 a9 a0 := by kernel_rfl
theorem f14s2 (n : Nat) (v5 : Int) (s : S_State) (v13 v14 v15 : Int) (m : Nat) (a1 a2 a3 a4 a5 a6 a7 a8 a9 a0 : Int) : F14_14_0 n v5 1 0 3 2 4 s v13 v14 v15 (m + 1) 2 a1 a2 a3 a4 a5 a6 a7 a8 a9 a0 = Option.bind (G31 s.Limbs.2.2.2.1.Dir) fun y => F14_14_0 n v5 1 0 3 2 4 s v13 v14 v15 m 3 a1 a2 a3 a4 y.1 s.Limbs.2.2.2.1.Level a7 a8 a9 a0 := by kernel_rfl
theorem f14s3 (n : Nat) (v5 : Int) (s : S_State) (v13 v14 v15 : Int) (m : Nat) (a1 a2 a3 a4 a5 a6 a7 a8 a9 a0 : Int) : F14_14_0 n v5 1 0 3 2 4 s v13 v14 v15 (m + 1) 3 a1 a2 a3 a4 a5 a6 a7 a8 a9 a0 = Option.bind (G31 s.Limbs.2.2.1.Dir) fun y => F14_14_0 n v5 1 0 3 2 4 s v13 v14 v15 m 4 a1 a2 a3 a4 a5 a6 y.1 s.Limbs.2.2.1.Level a9 a0 := by kernel_rfl
theorem f14s4 (n : Nat) (v5 : Int) (s : S_State) (v13 v14 v15 : Int) (m : Nat) (a1 a2 a3 a4 a5 a6 a7 a8 a9 a0 : Int) : F14_14_0 n v5 1 0 3 2 4 s v13 v14 v15 (m + 1) 4 a1 a2 a3 a4 a5 a6 a7 a8 a9 a0 = Option.bind (G31 s.Limbs.2.2.2.2.Dir) fun y => F14_14_0 n v5 1 0 3 2 4 s v13 v14 v15 m 5 a1 a2 a3 a4 a5 a6 a7 a8 y.1 s.Limbs.2.2.2.2.Level := by kernel_rfl
theorem f14s5 (n : Nat) (v5 : Int) (s : S_State) (v13 v14 v15 : Int) (m : Nat) (a1 a2 a3 a4 a5 a6 a7 a8 a9 a0 : Int) : F14_14_0 n v5 1 0 3 2 4 s v13 v14 v15 (m + 1) 5 a1 a2 a3 a4 a5 a6 a7 a8 a9 a0 = some (a1, a2, a3, a4, a5, a6, a7, a8, a9, a0) := by kernel_rfl
theorem f140 (n : Nat) (v5 : Int) (s : S_State) (v13 v14 v15 : Int) (m : Nat) (a1 a2 a3 a4 a5 a6 a7 a8 a9 a0 : Int) : F14_14_0 n v5 1 0 3 2 4 s v13 v14 v15 (m + 6) 0 a1 a2 a3 a4 a5 a6 a7 a8 a9 a0 = some ((mirR s.Limbs.2.1.Dir).1, s.Limbs.2.1.Level, (mirR s.Limbs.1.Dir).1, s.Limbs.1.Level, (mirR s.Limbs.2.2.2.1.Dir).1, s.Limbs.2.2.2.1.Level, (mirR s.Limbs.2.2.1.Dir).1, s.Limbs.2.2.1.Level, (mirR s.Limbs.2.2.2.2.Dir).1, s.Limbs.2.2.2.2.Level) := by
  rw [show m + 6 = m + 1 + 1 + 1 + 1 + 1 + 1 from rfl, f14s0, g31, Option.bind_some, f14s1, g31, Option.bind_some, f14s2, g31, Option.bind_some, f14s3, g31, Option.bind_some, f14s4, g31, Option.bind_some, f14s5]
theorem g14 (s : S_State) (w : Int) : G14 s w = some (mirrR s w) := by
  unfold G14 F14 mirrR
  simp only [g16, g29, Option.bind_some]
  cases okB s with
  | false => rfl
  | true =>
    by_cases h1 : 1 ≤ w
    · by_cases h2 : w ≤ 1000
      · rw [decide_eq_true h1, decide_eq_true h2, if_pos (show 1 ≤ w ∧ w ≤ 1000 from ⟨h1, h2⟩)]
        simp only [if_true, bne_self_eq_false, cond_false, Bool.and_self, Bool.not_true]
        rw [show fuel0 + 8 = fuel0 + 2 + 6 from rfl, f140, Option.bind_some]
        show (bif (if okB (mirS s w) = true then (0 : Int) else 260) != 0 then some (zeroS, (2 : Int)) else some (mirS s w, 0)) = _
        cases okB (mirS s w) <;> rfl
      · rw [decide_eq_false h2, if_neg (show ¬ (1 ≤ w ∧ w ≤ 1000) from fun h => h2 h.2)]
        simp [zeroS]
    · rw [decide_eq_false h1, if_neg (show ¬ (1 ≤ w ∧ w ≤ 1000) from fun h => h1 h.1)]
      simp [zeroS]
end Go.Proofs.YtooamdacfhfjoaaDoor
