/-
  The walks of layer 9 that compute with numbers alone: Mod, Mul, Add, sum, Inverse, and the reference's.
-/
import Derived.Test.YtapbfhmmgkjdnaaRows
import Derived.Test.YtapbfhmmgkjdnaaMath
import Derived.WalkKit
import Derived.WalkSpells
import Derived.WalkLawsBesides
import Derived.Lib.Hide
namespace Go.Proofs.Ytapbfhmmgkjdnaa
open Go.RowKit
theorem ret_int {k : IntKind} {a b : Int} (h : a = b) : Ending.returned (.int k a) = .returned (.int k b) := by rw [h]

set_option maxHeartbeats 400000 in
theorem mod_any (n : Int) (w : World) :
    Calls Try.prog 12 #[.int .i64 n] w fun e w' => e = .returned (.int .i64 (md n)) ∧ w = w' := by
  obtain ⟨h1, h2, h3, h4⟩ := md_tmod n
  go_enter Try.func12, Try.ntmps12
  go_wp2
  all_goals
    go_ret
    refine ⟨ret_int ?_, rfl⟩
  · rfl
  · exact h1 (by assumption)

set_option maxHeartbeats 400000 in
theorem rmod_any (n : Int) (w : World) :
    Calls Try.prog 13 #[.int .i64 n] w fun e w' => e = .returned (.int .i64 (md n)) ∧ w = w' := by
  obtain ⟨h1, h2, h3, h4⟩ := md_tmod n
  go_enter Try.func13, Try.ntmps13
  go_wp2
  all_goals
    go_ret
    refine ⟨ret_int ?_, rfl⟩
  · rfl
  · exact h1 (by assumption)

set_option maxHeartbeats 400000 in
theorem mul_any (a b : Int) (w : World) :
    Calls Try.prog 16 #[.int .i64 a, .int .i64 b] w fun e w' => e = .returned (.int .i64 (mu a b)) ∧ w = w' := by
  obtain ⟨h1, h2⟩ := mul_range a b
  go_enter Try.func16, Try.ntmps16
  go_wp2_with (go_at_call 12; refine (mod_any _ _).mono ?_; rintro e w' ⟨rfl, rfl⟩)
  go_ret
  exact ⟨ret_int rfl, rfl⟩

set_option maxHeartbeats 400000 in
theorem rmul_any (a b : Int) (w : World) :
    Calls Try.prog 17 #[.int .i64 a, .int .i64 b] w fun e w' => e = .returned (.int .i64 (mu a b)) ∧ w = w' := by
  obtain ⟨h1, h2⟩ := mul_range a b
  go_enter Try.func17, Try.ntmps17
  go_wp2_with (go_at_call 13; refine (rmod_any _ _).mono ?_; rintro e w' ⟨rfl, rfl⟩)
  go_ret
  exact ⟨ret_int rfl, rfl⟩

set_option maxHeartbeats 400000 in
theorem radd_any (a b : Int) (w : World) :
    Calls Try.prog 15 #[.int .i64 a, .int .i64 b] w fun e w' => e = .returned (.int .i64 (ad a b)) ∧ w = w' := by
  have h1 := md_range a
  have h2 := md_range b
  go_enter Try.func15, Try.ntmps15
  go_wp2_with (go_at_call 13; refine (rmod_any _ _).mono ?_; rintro e w' ⟨rfl, rfl⟩)
  go_ret
  exact ⟨ret_int rfl, rfl⟩


set_option maxHeartbeats 400000 in
theorem power_any (a : Int) (n : Nat) (w : World) (_hn : 1 ≤ n) (hn2 : n ≤ 1073741787) :
    Calls Try.prog 25 #[.int .i64 a, .int .i64 n] w fun e w' => e = .returned (.int .i64 (pwr a n)) ∧ w = w' := by
  have HE : Hid (pwr a n = md (1 * a ^ n)) := by rw [Int.one_mul]; rfl
  generalize HP : pwr a n = R at *
  clear HP
  go_enter Try.func25, Try.ntmps25
  go_wp2
  go_loop [0, 1, 5] (fun b m x => ∃ (b' x' : Int) (k : Nat), b = .int .i64 b' ∧ m = .int .i64 k ∧ x = .int .i64 x' ∧ k ≤ 1073741787 ∧ (1 ≤ k ∨ md x' = x') ∧ R = md (x' * b' ^ k)) (fun _ m _ => (intOf m).toNat)
  case atStart => exact ⟨a, 1, n, rfl, rfl, rfl, hn2, .inr rfl, HE.out⟩
  case round =>
    obtain ⟨b', x', k, rfl, rfl, rfl, hk, h0, h1⟩ := hrel
    have H0 := Lib.hid h0; clear h0
    have H1 := Lib.hid h1; clear h1
    by_cases hz : 0 < k
    · by_cases ho : k % 2 = 1
      · have H2 := Lib.hid (pow_odd x' b' k ho)
        have H3 : Hid (md (mu x' b') = mu x' b') := md_id (mu_range _ _).1 (mu_range _ _).2
        have hb : ((k : Int) % 2 == 1) = true := by rw [beq_iff_eq]; omega
        clear ho
        go_wp2_with (go_at_call 17; refine (rmul_any _ _ _).mono ?_; rintro e w' ⟨rfl, rfl⟩)
        go_round
        case rel => exact ⟨mu b' b', mu x' b', k / 2, rfl, by go_num, rfl, by omega, .inr H3.out, H1.out.trans H2.out.symm⟩
        case measure => simp [intOf]; omega
      · have ho' : k % 2 = 0 := by omega
        have H2 := Lib.hid (pow_even x' b' k ho')
        have hb : ((k : Int) % 2 == 1) = false := by rw [beq_eq_false_iff_ne]; omega
        have HN : 1 ≤ k / 2 := by omega
        clear ho ho'
        go_wp2_with (go_at_call 17; refine (rmul_any _ _ _).mono ?_; rintro e w' ⟨rfl, rfl⟩)
        go_round
        case rel => exact ⟨mu b' b', x', k / 2, rfl, by go_num, rfl, by omega, by omega, H1.out.trans H2.out.symm⟩
        case measure => simp [intOf]; omega
    · obtain rfl : k = 0 := by omega
      go_wp2
      go_ret
      exact ⟨ret_int (by rw [H1.out, Int.pow_zero, Int.mul_one]; exact (H0.out.resolve_left (by omega)).symm), rfl⟩

set_option maxHeartbeats 400000 in
theorem rinverse_no (n : Int) (w : World) (h : md n = 0) :
    Calls Try.prog 11 #[.int .i64 n] w fun e w' => e = .returned (.tuple #[.int .i64 0, .int .i64 90]) ∧ w = w' := by
  have hb : (md n == 0) = true := by rw [beq_iff_eq]; exact h
  clear h
  go_enter Try.func11, Try.ntmps11
  go_wp2_with (go_at_call 13; refine (rmod_any _ _).mono ?_; rintro e w' ⟨rfl, rfl⟩)
  go_ret2
  exact ⟨rfl, rfl⟩

set_option maxHeartbeats 400000 in
theorem rinverse_yes (n : Int) (w : World) (h : md n ≠ 0) :
    Calls Try.prog 11 #[.int .i64 n] w fun e w' => e = .returned (.tuple #[.int .i64 (inv n), .int .i64 0]) ∧ w = w' := by
  have hb : (md n == 0) = false := by rw [beq_eq_false_iff_ne]; exact h
  clear h
  go_enter Try.func11, Try.ntmps11
  go_wp2_with (first | (go_at_call 13; refine (rmod_any _ _).mono ?_; rintro e w' ⟨rfl, rfl⟩) | (go_at_call 25; refine (power_any n 1073741787 _ (by omega) (by omega)).mono ?_; rintro e w' ⟨rfl, rfl⟩))
  go_ret2
  exact ⟨rfl, rfl⟩

set_option maxHeartbeats 400000 in
theorem inverse_no (n : Int) (w : World) (h : md n = 0) :
    Calls Try.prog 10 #[.int .i64 n] w fun e w' => e = .returned (.tuple #[.int .i64 0, .int .i64 90]) ∧ w = w' := by
  have hb : (md n == 0) = true := by rw [beq_iff_eq]; exact h
  clear h
  go_enter Try.func10, Try.ntmps10
  go_wp2_with fail
  go_step3
  go_wp2_with (go_at_call 12; refine (mod_any _ _).mono ?_; rintro e w' ⟨rfl, rfl⟩)
  rw [Exit.noGoto_ret]
  go_ret2
  exact ⟨rfl, rfl⟩

set_option maxHeartbeats 400000 in
theorem inverse_yes (n : Int) (w : World) (h : md n ≠ 0) :
    Calls Try.prog 10 #[.int .i64 n] w fun e w' => e = .returned (.tuple #[.int .i64 (inv n), .int .i64 0]) ∧ w = w' := by
  have hb : (md n == 0) = false := by rw [beq_eq_false_iff_ne]; exact h
  clear h
  have HE : Hid (inv n = md (1 * n ^ 1073741787)) := by rw [Int.one_mul]; rfl
  generalize HP : inv n = R at *
  clear HP
  go_enter Try.func10, Try.ntmps10
  go_wp2_with fail
  go_step3
  go_wp2_with (go_at_call 12; refine (mod_any _ _).mono ?_; rintro e w' ⟨rfl, rfl⟩)
  go_step3
  go_wp2
  go_loop [2, 4, 5] (fun x m b => ∃ (b' x' : Int) (k : Nat), b = .int .i64 b' ∧ m = .int .i64 k ∧ x = .int .i64 x' ∧ k ≤ 1073741787 ∧ (1 ≤ k ∨ md x' = x') ∧ R = md (x' * b' ^ k)) (fun _ m _ => (intOf m).toNat)
  case atStart => exact ⟨n, 1, 1073741787, rfl, rfl, rfl, by omega, .inr rfl, HE.out⟩
  case round =>
    obtain ⟨b', x', k, rfl, rfl, rfl, hk, h0, h1⟩ := hrel
    have H0 := Lib.hid h0; clear h0
    have H1 := Lib.hid h1; clear h1
    by_cases hz : 0 < k
    · have hz0 : ((k : Int) == 0) = false := by rw [beq_eq_false_iff_ne]; omega
      by_cases ho : k % 2 = 1
      · have H2 := Lib.hid (pow_odd x' b' k ho)
        have H3 : Hid (md (mu x' b') = mu x' b') := md_id (mu_range _ _).1 (mu_range _ _).2
        have hb : ((k : Int) % 2 == 1) = true := by rw [beq_iff_eq]; omega
        clear ho
        go_wp2_with (go_at_call 16; refine (mul_any _ _ _).mono ?_; rintro e w' ⟨rfl, rfl⟩)
        go_round
        case rel => exact ⟨mu b' b', mu x' b', k / 2, rfl, by go_num, rfl, by omega, .inr H3.out, H1.out.trans H2.out.symm⟩
        case measure => simp [intOf]; omega
      · have ho' : k % 2 = 0 := by omega
        have H2 := Lib.hid (pow_even x' b' k ho')
        have hb : ((k : Int) % 2 == 1) = false := by rw [beq_eq_false_iff_ne]; omega
        have HN : 1 ≤ k / 2 := by omega
        clear ho ho'
        go_wp2_with (go_at_call 16; refine (mul_any _ _ _).mono ?_; rintro e w' ⟨rfl, rfl⟩)
        go_round
        case rel => exact ⟨mu b' b', x', k / 2, rfl, by go_num, rfl, by omega, by omega, H1.out.trans H2.out.symm⟩
        case measure => simp [intOf]; omega
    · obtain rfl : k = 0 := by omega
      go_wp2
      go_ret2
      have HR : R = x' := by rw [H1.out, Int.pow_zero, Int.mul_one, (H0.out.resolve_left (by omega))]
      subst HR
      exact ⟨rfl, rfl⟩

/-- The first k of two numbers, added. -/
def two (a b : Int) (k : Nat) : Int := if k = 0 then 0 else if k = 1 then md a else ad a b
theorem two_range (a b : Int) (k : Nat) : 0 ≤ two a b k ∧ two a b k ≤ 1073741788 := by
  have := md_range a; have := ad_range a b; unfold two; split <;> (try split) <;> omega

set_option maxHeartbeats 400000 in
theorem sum_two (a b : Int) (p : Addr) (c : Nat) (w : World) (hc0 : w.cell? ⟨p.block, p.off, none⟩ = some (.int .i64 a)) (hc1 : w.cell? ⟨p.block, p.off + 1, none⟩ = some (.int .i64 b)) (hp : p.spot = none) :
    Calls Try.prog 26 #[.slice (some p) 2 c] w fun e w' => e = .returned (.int .i64 (ad a b)) ∧ w = w' := by
  obtain ⟨pb, po, ps⟩ := p
  obtain rfl : ps = none := hp
  dsimp only at hc0 hc1
  go_enter Try.func26, Try.ntmps26
  go_wp2
  go_loop [3, 8] (fun x i => ∃ k : Nat, k ≤ 2 ∧ i = .int .i64 k ∧ x = .int .i64 (two a b k)) (fun _ i => 2 - (intOf i).toNat)
  case atStart => exact ⟨0, by omega, rfl, rfl⟩
  case round =>
    obtain ⟨k, hk, rfl, rfl⟩ := hrel
    have h2 := two_range a b k
    by_cases h0 : k = 0
    · subst h0
      have h3 := md_range a
      have H3 : Hid (two a b 1 = (two a b 0 + md a) % 1073741789) := Lib.hid (by simp [two, md])
      go_wp2_with (go_at_call 12; refine (mod_any _ _).mono ?_; rintro e w' ⟨rfl, rfl⟩)
      go_round
      case rel => exact ⟨1, by omega, by go_num, by rw [H3.out]⟩
      case measure => simp [intOf]
    · by_cases h1 : k = 1
      · subst h1
        have h3 := md_range b
        have H3 : Hid (two a b 2 = (two a b 1 + md b) % 1073741789) := Lib.hid (by simp [two, ad, md])
        go_wp2_with (go_at_call 12; refine (mod_any _ _).mono ?_; rintro e w' ⟨rfl, rfl⟩)
        go_round
        case rel => exact ⟨2, by omega, by go_num, by rw [H3.out]⟩
        case measure => simp [intOf]
      · obtain rfl : k = 2 := by omega
        have H3 : Hid (two a b 2 = ad a b) := rfl
        go_wp2
        go_ret
        exact ⟨ret_int H3.out, rfl⟩

set_option maxHeartbeats 400000 in
theorem add_any (a b : Int) (w : World) :
    Calls Try.prog 14 #[.int .i64 a, .int .i64 b] w fun e w' => e = .returned (.int .i64 (ad a b)) ∧ Below w.heap.size w w' := by
  go_enter Try.func14, Try.ntmps14
  go_wp2_with (go_at_call 26; refine (sum_two a b _ _ _ (by simp) (by simp) rfl).mono ?_; rintro e w' ⟨rfl, rfl⟩)
  go_ret
  exact ⟨rfl, (Below.refl _ _).alloc (Nat.le_refl _) _⟩

end Go.Proofs.Ytapbfhmmgkjdnaa
