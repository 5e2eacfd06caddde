/-
  Layer 9: the chapter's examples: sane answers true.
-/
import Derived.Test.YtapbfhmmgkjdnaaW5
namespace Go.Proofs.Ytapbfhmmgkjdnaa
open Go.RowKit
theorem inv2 : inv 2 = 536870895 := (inv_unique 2 536870895 rfl).trans rfl
theorem lag_line : atV [(1, 3), (2, 5)] 0 = (1, 0) := by
  have hd : difB [(1, 3), (2, 5)] = true := by decide
  unfold atV
  rw [if_neg (by decide), if_pos hd]
  have h := lag_unique [(1, 3), (2, 5)] (dif_of _ hd) (fun t => 1 + 2 * t) ⟨[1, 2], by decide, fun t => by simp [ev]; congr 1; omega⟩ (fun j hj => by
    have hj : j < 2 := hj
    rcases (show j = 0 ∨ j = 1 by omega) with rfl | rfl <;> rfl) 0
  rw [h]; rfl
theorem lag_none : atV [] 7 = (0, 0) := by decide
theorem lag_twice : atV [(1, 5), (-1073741788, 5)] 0 = (0, 90) := by decide
theorem pts_new (w : World) (a b c d : Int) (ha : -9223372036854775808 ≤ a ∧ a ≤ 9223372036854775807) (hb : -9223372036854775808 ≤ b ∧ b ≤ 9223372036854775807) (hc : -9223372036854775808 ≤ c ∧ c ≤ 9223372036854775807) (hd : -9223372036854775808 ≤ d ∧ d ≤ 9223372036854775807) :
    SliceOf lPt (w.alloc (.cells #[.int .i64 a, .int .i64 b, .int .i64 c, .int .i64 d] 38)).heap.size (w.alloc (.cells #[.int .i64 a, .int .i64 b, .int .i64 c, .int .i64 d] 38)) (.slice (some ⟨w.heap.size, 0, none⟩) 2 2) [(a, b), (c, d)] := by
  refine ⟨_, 2, rfl, Nat.le_refl _, by unfold maxLen; decide, fun _ => ⟨w.heap.size, 0, rfl, by simp, fun i hi => ?_⟩⟩
  have hi : i < 2 := hi
  rcases (show i = 0 ∨ i = 1 by omega) with rfl | rfl
  · refine ⟨_, ⟨rfl, ha, hb⟩, fun j hj => ?_⟩
    have hj : j < 2 := hj
    rcases (show j = 0 ∨ j = 1 by omega) with rfl | rfl <;> simp [lPt]
  · refine ⟨_, ⟨rfl, hc, hd⟩, fun j hj => ?_⟩
    have hj : j < 2 := hj
    rcases (show j = 0 ∨ j = 1 by omega) with rfl | rfl <;> simp [lPt]
theorem ints_new (w : World) (a b c : Int) (ha : -9223372036854775808 ≤ a ∧ a ≤ 9223372036854775807) (hb : -9223372036854775808 ≤ b ∧ b ≤ 9223372036854775807) (hc : -9223372036854775808 ≤ c ∧ c ≤ 9223372036854775807) :
    SliceOf lInt (w.alloc (.cells #[.int .i64 a, .int .i64 b, .int .i64 c] 3)).heap.size (w.alloc (.cells #[.int .i64 a, .int .i64 b, .int .i64 c] 3)) (.slice (some ⟨w.heap.size, 0, none⟩) 3 3) [a, b, c] := by
  refine ⟨_, 3, rfl, Nat.le_refl _, by unfold maxLen; decide, fun _ => ⟨w.heap.size, 0, rfl, by simp, fun i hi => ?_⟩⟩
  have hi : i < 3 := hi
  rcases (show i = 0 ∨ i = 1 ∨ i = 2 by omega) with rfl | rfl | rfl
  · exact ⟨_, ⟨rfl, ha⟩, fun j hj => by
      obtain rfl : j = 0 := by have : j < 1 := hj; omega
      simp [lInt]⟩
  · exact ⟨_, ⟨rfl, hb⟩, fun j hj => by
      obtain rfl : j = 0 := by have : j < 1 := hj; omega
      simp [lInt]⟩
  · exact ⟨_, ⟨rfl, hc⟩, fun j hj => by
      obtain rfl : j = 0 := by have : j < 1 := hj; omega
      simp [lInt]⟩
theorem inv_q (w : World) : Calls Try.prog 10 #[.int .i64 1073741789] w fun e w' => e = .returned (.tuple #[.int .i64 0, .int .i64 90]) ∧ w = w' := inverse_no _ _ rfl
theorem inv_0 (w : World) : Calls Try.prog 10 #[.int .i64 0] w fun e w' => e = .returned (.tuple #[.int .i64 0, .int .i64 90]) ∧ w = w' := inverse_no _ _ rfl
theorem inv_2 (w : World) : Calls Try.prog 10 #[.int .i64 2] w fun e w' => e = .returned (.tuple #[.int .i64 536870895, .int .i64 0]) ∧ w = w' := by rw [← inv2]; exact inverse_yes _ _ (by decide)
theorem at_line (w : World) : Calls Try.prog 19 #[.slice (some ⟨w.heap.size, 0, none⟩) 2 2, .int .i64 0] (w.alloc (.cells #[.int .i64 1, .int .i64 3, .int .i64 2, .int .i64 5] 38)) fun e w' => e = .returned (.tuple #[.int .i64 1, .int .i64 0]) ∧ Below w.heap.size w w' := by
  have h := at_any _ _ 0 _ (pts_new w 1 3 2 5 (by decide) (by decide) (by decide) (by decide))
  rw [lag_line] at h
  exact h.mono fun e w' ⟨he, hb⟩ => ⟨he, ((Below.refl _ _).alloc (Nat.le_refl _) _).trans (hb.mono (by simp))⟩
theorem at_nil (w : World) : Calls Try.prog 19 #[.slice none 0 0, .int .i64 7] w fun e w' => e = .returned (.tuple #[.int .i64 0, .int .i64 0]) ∧ Below w.heap.size w w' := by
  have h := at_any [] _ 7 _ (SliceOf.nil lPt w.heap.size w)
  rwa [lag_none] at h
theorem at_twice (w : World) : Calls Try.prog 19 #[.slice (some ⟨w.heap.size, 0, none⟩) 2 2, .int .i64 0] (w.alloc (.cells #[.int .i64 1, .int .i64 5, .int .i64 (-1073741788), .int .i64 5] 38)) fun e w' => e = .returned (.tuple #[.int .i64 0, .int .i64 90]) ∧ Below w.heap.size w w' := by
  have h := at_any _ _ 0 _ (pts_new w 1 5 (-1073741788) 5 (by decide) (by decide) (by decide) (by decide))
  rw [lag_twice] at h
  exact h.mono fun e w' ⟨he, hb⟩ => ⟨he, ((Below.refl _ _).alloc (Nat.le_refl _) _).trans (hb.mono (by simp))⟩
theorem value_123 (w : World) : Calls Try.prog 21 #[.slice (some ⟨w.heap.size, 0, none⟩) 3 3, .int .i64 10] (w.alloc (.cells #[.int .i64 1, .int .i64 2, .int .i64 3] 3)) fun e w' => e = .returned (.int .i64 321) ∧ Below w.heap.size w w' :=
  (value_any _ _ 10 _ (ints_new w 1 2 3 (by decide) (by decide) (by decide))).mono fun e w' ⟨he, hb⟩ => ⟨he, ((Below.refl _ _).alloc (Nat.le_refl _) _).trans (hb.mono (by simp))⟩
theorem value_nil (w : World) : Calls Try.prog 21 #[.slice none 0 0, .int .i64 7] w fun e w' => e = .returned (.int .i64 0) ∧ Below w.heap.size w w' := value_any [] _ 7 _ (SliceOf.nil lInt w.heap.size w)
theorem mod_m1 (w : World) : Calls Try.prog 12 #[.int .i64 (-1)] w fun e w' => e = .returned (.int .i64 1073741788) ∧ w = w' := mod_any _ _
theorem mul_m1 (w : World) : Calls Try.prog 16 #[.int .i64 (-1), .int .i64 (-1)] w fun e w' => e = .returned (.int .i64 1) ∧ w = w' := mul_any _ _ _
theorem add_3 (w : World) : Calls Try.prog 14 #[.int .i64 1073741788, .int .i64 3] w fun e w' => e = .returned (.int .i64 2) ∧ Below w.heap.size w w' := add_any _ _ _

theorem infoPt : (Try.prog.info? 38).map (fun i => (i.zero, i.size, i.bytes)) = some (some (.agg #[.int .i64 0, .int .i64 0]), 2, 16) := by kernel_rfl
theorem make65 (u : World) : (Instr.makeSlice 30 (.int .i64 65) (.int .i64 65)).run Try.prog u = .ok (.slice (some ⟨u.heap.size, 0, none⟩) 65 65) (u.alloc (.cells (madeCells #[.int .i64 0, .int .i64 0] 130) 38)) := by
  obtain ⟨i0, hi, hz0, hz1, hz2⟩ := info_parts infoPt
  have h := run_make (P := Try.prog) u 30 38 i0 _ Try.underlying30 hi hz0 .i64 .i64 65 65 (by omega) (Int.le_refl _) (by rw [hz2]; omega) (by omega)
  rw [hz1] at h
  exact h
set_option maxRecDepth 100000 in
set_option maxHeartbeats 2000000 in
theorem sane_any (w : World) : Calls Try.prog 9 #[] w fun e w' => e = .returned (.bool true) ∧ Below w.heap.size w w' := by
  have hmk := make65
  go_enter Try.func9, Try.ntmps9
  go_wp2_with fail
  refine (inv_0 _).mono ?_
  rintro e w' ⟨rfl, rfl⟩
  go_wp2_with fail
  refine (inv_q _).mono ?_
  rintro e w' ⟨rfl, rfl⟩
  go_wp2_with fail
  refine (inv_2 _).mono ?_
  rintro e w' ⟨rfl, rfl⟩
  go_wp2_with fail
  refine (at_line _).mono ?_
  rintro e w1 ⟨rfl, hb1⟩
  go_wp2_with fail
  refine (at_nil _).mono ?_
  rintro e w2 ⟨rfl, hb2⟩
  go_wp2_with fail
  refine (at_twice _).mono ?_
  rintro e w3 ⟨rfl, hb3⟩
  go_wp2_with fail
  refine (at_limit _ 65 65 0 _ (by omega) (by omega)).mono ?_
  rintro e w4 ⟨rfl, hb4⟩
  go_wp2_with fail
  refine (mod_m1 _).mono ?_
  rintro e w' ⟨rfl, rfl⟩
  go_wp2_with fail
  refine (mul_m1 _).mono ?_
  rintro e w' ⟨rfl, rfl⟩
  go_wp2_with fail
  refine (add_3 _).mono ?_
  rintro e w5 ⟨rfl, hb5⟩
  go_wp2_with fail
  refine (value_123 _).mono ?_
  rintro e w6 ⟨rfl, hb6⟩
  go_wp2_with fail
  refine (value_nil _).mono ?_
  rintro e w7 ⟨rfl, hb7⟩
  go_wp2_with fail
  go_ret
  have hb34 : Below w3.heap.size w3 w4 := ((Below.refl _ _).alloc (Nat.le_refl _) _).trans (hb4.mono (by simp))
  have q1 := hb1.size
  have q2 := hb2.size
  have q3 := hb3.size
  have q4 := hb34.size
  have q5 := hb5.size
  have q6 := hb6.size
  exact ⟨rfl, (((((hb1.trans (hb2.mono q1)).trans (hb3.mono (by omega))).trans (hb34.mono (by omega))).trans (hb5.mono (by omega))).trans (hb6.mono (by omega))).trans (hb7.mono (by omega))⟩
end Go.Proofs.Ytapbfhmmgkjdnaa
