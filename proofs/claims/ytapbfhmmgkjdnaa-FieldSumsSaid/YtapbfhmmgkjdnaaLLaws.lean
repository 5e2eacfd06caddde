/-
  The given statement FieldLaws: the laws of a field. No condition beyond the row's own.
-/
import Derived.Test.YtapbfhmmgkjdnaaLPoly
namespace Go.Proofs.Ytapbfhmmgkjdnaa
open Go.RowKit
theorem in_any (n : Int) (h : 0 ≤ n ∧ n ≤ 1073741788) (w : World) : Calls Try.prog 23 #[.int .i64 n] w fun e w' => e = .returned (.bool true) ∧ w = w' := by
  go_enter Try.func23, Try.ntmps23
  go_wp2_with fail
  go_ret
  exact ⟨ret_bool (by simp; omega), rfl⟩
theorem lw_add (a b s : Int) (h : ad a b = s) (w : World) : Calls Try.prog 14 #[.int .i64 a, .int .i64 b] w fun e w' => e = .returned (.int .i64 s) ∧ Below w.heap.size w w' := h ▸ add_any a b w
theorem lw_mul (a b s : Int) (h : mu a b = s) (w : World) : Calls Try.prog 16 #[.int .i64 a, .int .i64 b] w fun e w' => e = .returned (.int .i64 s) ∧ w = w' := h ▸ mul_any a b w
theorem lw_mod (a s : Int) (h : md a = s) (w : World) : Calls Try.prog 12 #[.int .i64 a] w fun e w' => e = .returned (.int .i64 s) ∧ w = w' := h ▸ mod_any a w
theorem ad_comm_md (a b : Int) : ad (md b) (md a) = ad a b := by rw [ad_eq, ad_eq]; unfold md; omega
theorem mu_comm_md (a b : Int) : mu (md b) (md a) = mu a b := by rw [mu_eq, mu_eq, md_mul, md_mul_r, Int.mul_comm]
theorem ad_assoc (a b c : Int) : ad a (ad b c) = ad (ad a b) c := by simp only [ad_eq, md_add, md_add_r, Int.add_assoc]
theorem mu_assoc (a b c : Int) : mu a (mu b c) = mu (mu a b) c := by simp only [mu_eq, md_mul, md_mul_r, Int.mul_assoc]
theorem mu_ad (a b c : Int) : ad (mu a b) (mu a c) = mu a (ad b c) := by simp only [ad_eq, mu_eq, md_mul_r, md_add, md_add_r, Int.mul_add]
theorem ad_zero (a : Int) : ad a 0 = md a := by rw [ad_eq, Int.add_zero]
theorem mu_one (a : Int) : mu a 1 = md a := by rw [mu_eq, Int.mul_one]
theorem ad_neg (a : Int) : ad (md a) (-md a) = 0 := by rw [ad_eq]; unfold md; omega
theorem mu_left (a b : Int) (h : md a = 0) : mu a b = 0 := by rw [mu_eq, ← md_mul, h, Int.zero_mul]; rfl
theorem mu_right (a b : Int) (h : md b = 0) : mu a b = 0 := by rw [mu_eq, ← md_mul_r, h, Int.mul_zero]; rfl
theorem mu_inv (a : Int) (h : md a ≠ 0) : mu a (inv a) = 1 := by rw [mu_eq]; exact inv_mul a h
set_option maxRecDepth 100000 in
set_option maxHeartbeats 4000000 in
theorem fieldLaws_pz (a b c : Int) (ba0 : -9223372036854775808 ≤ a) (ba1 : a ≤ 9223372036854775807) (h0 : 0 ≤ a) (H : Hid (md a = 0)) (w : World) : Calls Try.prog 5 #[.int .i64 a, .int .i64 b, .int .i64 c] w fun e w' => e = .returned (.bool true) ∧ Below w.heap.size w w' := by
  obtain ⟨ra0, ra1⟩ := md_range a
  obtain ⟨rb0, rb1⟩ := md_range b
  obtain ⟨rc0, rc1⟩ := md_range c
  have HR : (a - md a).tmod 1073741789 = 0 := Int.tmod_eq_zero_of_dvd ⟨a / 1073741789, by unfold md; omega⟩
  have ez : (md a == 0) = true := beq_iff_eq.2 H.out
  go_enter Try.func5, Try.ntmps5
  go_wp2_with fail
  refine (sane_any _).mono ?_
  rintro e w1 ⟨rfl, hb1⟩
  have q1 := hb1.size
  go_wp2_with fail
  refine (lw_mod a _ rfl _).mono ?_
  rintro e w' ⟨rfl, rfl⟩
  go_wp2_with fail
  refine (lw_mod b _ rfl _).mono ?_
  rintro e w' ⟨rfl, rfl⟩
  go_wp2_with fail
  refine (lw_mod c _ rfl _).mono ?_
  rintro e w' ⟨rfl, rfl⟩
  go_wp2_with fail
  refine (in_any _ ⟨ra0, ra1⟩ _).mono ?_
  rintro e w' ⟨rfl, rfl⟩
  go_wp2_with fail
  refine (in_any _ ⟨rb0, rb1⟩ _).mono ?_
  rintro e w' ⟨rfl, rfl⟩
  go_wp2_with fail
  refine (in_any _ ⟨rc0, rc1⟩ _).mono ?_
  rintro e w' ⟨rfl, rfl⟩
  go_wp2_with fail
  refine (lw_mod (md a) _ (by rw [md_md]) _).mono ?_
  rintro e w' ⟨rfl, rfl⟩
  go_wp2_with fail
  refine (lw_add (a) (b) _ (rfl) _).mono ?_
  rintro e w2 ⟨rfl, hc2⟩
  have hb2 := hb1.trans (hc2.mono q1)
  clear hc2
  have q2 := hb2.size
  go_wp2_with fail
  refine (lw_add (md b) (md a) _ (ad_comm_md a b) _).mono ?_
  rintro e w3 ⟨rfl, hc3⟩
  have hb3 := hb2.trans (hc3.mono q2)
  clear hc3
  have q3 := hb3.size
  go_wp2_with fail
  refine (lw_mul (a) (b) _ (rfl) _).mono ?_
  rintro e w' ⟨rfl, rfl⟩
  go_wp2_with fail
  refine (lw_mul (md b) (md a) _ (mu_comm_md a b) _).mono ?_
  rintro e w' ⟨rfl, rfl⟩
  go_wp2_with fail
  refine (lw_add (a) (b) _ (rfl) _).mono ?_
  rintro e w4 ⟨rfl, hc4⟩
  have hb4 := hb3.trans (hc4.mono q3)
  clear hc4
  have q4 := hb4.size
  go_wp2_with fail
  refine (lw_add (ad a b) (c) _ (rfl) _).mono ?_
  rintro e w5 ⟨rfl, hc5⟩
  have hb5 := hb4.trans (hc5.mono q4)
  clear hc5
  have q5 := hb5.size
  go_wp2_with fail
  refine (lw_add (b) (c) _ (rfl) _).mono ?_
  rintro e w6 ⟨rfl, hc6⟩
  have hb6 := hb5.trans (hc6.mono q5)
  clear hc6
  have q6 := hb6.size
  go_wp2_with fail
  refine (lw_add (a) (ad b c) _ (ad_assoc a b c) _).mono ?_
  rintro e w7 ⟨rfl, hc7⟩
  have hb7 := hb6.trans (hc7.mono q6)
  clear hc7
  have q7 := hb7.size
  go_wp2_with fail
  refine (lw_mul (a) (b) _ (rfl) _).mono ?_
  rintro e w' ⟨rfl, rfl⟩
  go_wp2_with fail
  refine (lw_mul (mu a b) (c) _ (rfl) _).mono ?_
  rintro e w' ⟨rfl, rfl⟩
  go_wp2_with fail
  refine (lw_mul (b) (c) _ (rfl) _).mono ?_
  rintro e w' ⟨rfl, rfl⟩
  go_wp2_with fail
  refine (lw_mul (a) (mu b c) _ (mu_assoc a b c) _).mono ?_
  rintro e w' ⟨rfl, rfl⟩
  go_wp2_with fail
  refine (lw_add (b) (c) _ (rfl) _).mono ?_
  rintro e w8 ⟨rfl, hc8⟩
  have hb8 := hb7.trans (hc8.mono q7)
  clear hc8
  have q8 := hb8.size
  go_wp2_with fail
  refine (lw_mul (a) (ad b c) _ (rfl) _).mono ?_
  rintro e w' ⟨rfl, rfl⟩
  go_wp2_with fail
  refine (lw_mul (a) (b) _ (rfl) _).mono ?_
  rintro e w' ⟨rfl, rfl⟩
  go_wp2_with fail
  refine (lw_mul (a) (c) _ (rfl) _).mono ?_
  rintro e w' ⟨rfl, rfl⟩
  go_wp2_with fail
  refine (lw_add (mu a b) (mu a c) _ (mu_ad a b c) _).mono ?_
  rintro e w9 ⟨rfl, hc9⟩
  have hb9 := hb8.trans (hc9.mono q8)
  clear hc9
  have q9 := hb9.size
  go_wp2_with fail
  refine (lw_add (a) (0) _ (ad_zero a) _).mono ?_
  rintro e w10 ⟨rfl, hc10⟩
  have hb10 := hb9.trans (hc10.mono q9)
  clear hc10
  have q10 := hb10.size
  go_wp2_with fail
  refine (lw_mul (a) (1) _ (mu_one a) _).mono ?_
  rintro e w' ⟨rfl, rfl⟩
  go_wp2_with fail
  refine (lw_add (md a) (-md a) _ (ad_neg a) _).mono ?_
  rintro e w11 ⟨rfl, hc11⟩
  have hb11 := hb10.trans (hc11.mono q10)
  clear hc11
  have q11 := hb11.size
  go_wp2_with fail
  refine (lw_mul (a) (b) _ (mu_left a b H.out) _).mono ?_
  rintro e w' ⟨rfl, rfl⟩
  go_wp2_with fail
  refine (inverse_no _ _ H.out).mono ?_
  rintro e w' ⟨rfl, rfl⟩
  go_wp2_with fail
  go_ret
  exact ⟨rfl, hb11⟩
set_option maxRecDepth 100000 in
set_option maxHeartbeats 4000000 in
theorem fieldLaws_py (a b c : Int) (ba0 : -9223372036854775808 ≤ a) (ba1 : a ≤ 9223372036854775807) (h0 : 0 ≤ a) (H : Hid (md a ≠ 0)) (H' : Hid (md b = 0)) (w : World) : Calls Try.prog 5 #[.int .i64 a, .int .i64 b, .int .i64 c] w fun e w' => e = .returned (.bool true) ∧ Below w.heap.size w w' := by
  obtain ⟨ra0, ra1⟩ := md_range a
  obtain ⟨rb0, rb1⟩ := md_range b
  obtain ⟨rc0, rc1⟩ := md_range c
  have HR : (a - md a).tmod 1073741789 = 0 := Int.tmod_eq_zero_of_dvd ⟨a / 1073741789, by unfold md; omega⟩
  have ez : (md a == 0) = false := beq_eq_false_iff_ne.2 H.out
  have ey : (md b == 0) = true := beq_iff_eq.2 H'.out
  go_enter Try.func5, Try.ntmps5
  go_wp2_with fail
  refine (sane_any _).mono ?_
  rintro e w1 ⟨rfl, hb1⟩
  have q1 := hb1.size
  go_wp2_with fail
  refine (lw_mod a _ rfl _).mono ?_
  rintro e w' ⟨rfl, rfl⟩
  go_wp2_with fail
  refine (lw_mod b _ rfl _).mono ?_
  rintro e w' ⟨rfl, rfl⟩
  go_wp2_with fail
  refine (lw_mod c _ rfl _).mono ?_
  rintro e w' ⟨rfl, rfl⟩
  go_wp2_with fail
  refine (in_any _ ⟨ra0, ra1⟩ _).mono ?_
  rintro e w' ⟨rfl, rfl⟩
  go_wp2_with fail
  refine (in_any _ ⟨rb0, rb1⟩ _).mono ?_
  rintro e w' ⟨rfl, rfl⟩
  go_wp2_with fail
  refine (in_any _ ⟨rc0, rc1⟩ _).mono ?_
  rintro e w' ⟨rfl, rfl⟩
  go_wp2_with fail
  refine (lw_mod (md a) _ (by rw [md_md]) _).mono ?_
  rintro e w' ⟨rfl, rfl⟩
  go_wp2_with fail
  refine (lw_add (a) (b) _ (rfl) _).mono ?_
  rintro e w2 ⟨rfl, hc2⟩
  have hb2 := hb1.trans (hc2.mono q1)
  clear hc2
  have q2 := hb2.size
  go_wp2_with fail
  refine (lw_add (md b) (md a) _ (ad_comm_md a b) _).mono ?_
  rintro e w3 ⟨rfl, hc3⟩
  have hb3 := hb2.trans (hc3.mono q2)
  clear hc3
  have q3 := hb3.size
  go_wp2_with fail
  refine (lw_mul (a) (b) _ (rfl) _).mono ?_
  rintro e w' ⟨rfl, rfl⟩
  go_wp2_with fail
  refine (lw_mul (md b) (md a) _ (mu_comm_md a b) _).mono ?_
  rintro e w' ⟨rfl, rfl⟩
  go_wp2_with fail
  refine (lw_add (a) (b) _ (rfl) _).mono ?_
  rintro e w4 ⟨rfl, hc4⟩
  have hb4 := hb3.trans (hc4.mono q3)
  clear hc4
  have q4 := hb4.size
  go_wp2_with fail
  refine (lw_add (ad a b) (c) _ (rfl) _).mono ?_
  rintro e w5 ⟨rfl, hc5⟩
  have hb5 := hb4.trans (hc5.mono q4)
  clear hc5
  have q5 := hb5.size
  go_wp2_with fail
  refine (lw_add (b) (c) _ (rfl) _).mono ?_
  rintro e w6 ⟨rfl, hc6⟩
  have hb6 := hb5.trans (hc6.mono q5)
  clear hc6
  have q6 := hb6.size
  go_wp2_with fail
  refine (lw_add (a) (ad b c) _ (ad_assoc a b c) _).mono ?_
  rintro e w7 ⟨rfl, hc7⟩
  have hb7 := hb6.trans (hc7.mono q6)
  clear hc7
  have q7 := hb7.size
  go_wp2_with fail
  refine (lw_mul (a) (b) _ (rfl) _).mono ?_
  rintro e w' ⟨rfl, rfl⟩
  go_wp2_with fail
  refine (lw_mul (mu a b) (c) _ (rfl) _).mono ?_
  rintro e w' ⟨rfl, rfl⟩
  go_wp2_with fail
  refine (lw_mul (b) (c) _ (rfl) _).mono ?_
  rintro e w' ⟨rfl, rfl⟩
  go_wp2_with fail
  refine (lw_mul (a) (mu b c) _ (mu_assoc a b c) _).mono ?_
  rintro e w' ⟨rfl, rfl⟩
  go_wp2_with fail
  refine (lw_add (b) (c) _ (rfl) _).mono ?_
  rintro e w8 ⟨rfl, hc8⟩
  have hb8 := hb7.trans (hc8.mono q7)
  clear hc8
  have q8 := hb8.size
  go_wp2_with fail
  refine (lw_mul (a) (ad b c) _ (rfl) _).mono ?_
  rintro e w' ⟨rfl, rfl⟩
  go_wp2_with fail
  refine (lw_mul (a) (b) _ (rfl) _).mono ?_
  rintro e w' ⟨rfl, rfl⟩
  go_wp2_with fail
  refine (lw_mul (a) (c) _ (rfl) _).mono ?_
  rintro e w' ⟨rfl, rfl⟩
  go_wp2_with fail
  refine (lw_add (mu a b) (mu a c) _ (mu_ad a b c) _).mono ?_
  rintro e w9 ⟨rfl, hc9⟩
  have hb9 := hb8.trans (hc9.mono q8)
  clear hc9
  have q9 := hb9.size
  go_wp2_with fail
  refine (lw_add (a) (0) _ (ad_zero a) _).mono ?_
  rintro e w10 ⟨rfl, hc10⟩
  have hb10 := hb9.trans (hc10.mono q9)
  clear hc10
  have q10 := hb10.size
  go_wp2_with fail
  refine (lw_mul (a) (1) _ (mu_one a) _).mono ?_
  rintro e w' ⟨rfl, rfl⟩
  go_wp2_with fail
  refine (lw_add (md a) (-md a) _ (ad_neg a) _).mono ?_
  rintro e w11 ⟨rfl, hc11⟩
  have hb11 := hb10.trans (hc11.mono q10)
  clear hc11
  have q11 := hb11.size
  go_wp2_with fail
  refine (lw_mul (a) (b) _ (mu_right a b H'.out) _).mono ?_
  rintro e w' ⟨rfl, rfl⟩
  go_wp2_with fail
  refine (inverse_yes _ _ H.out).mono ?_
  rintro e w' ⟨rfl, rfl⟩
  go_wp2_with fail
  refine (in_any _ (inv_range a) _).mono ?_
  rintro e w' ⟨rfl, rfl⟩
  go_wp2_with fail
  refine (lw_mul (a) (inv a) _ (mu_inv a H.out) _).mono ?_
  rintro e w' ⟨rfl, rfl⟩
  go_wp2_with fail
  go_ret
  exact ⟨rfl, hb11⟩
set_option maxRecDepth 100000 in
set_option maxHeartbeats 4000000 in
theorem fieldLaws_pn (a b c : Int) (ba0 : -9223372036854775808 ≤ a) (ba1 : a ≤ 9223372036854775807) (h0 : 0 ≤ a) (H : Hid (md a ≠ 0)) (H' : Hid (md b ≠ 0)) (w : World) : Calls Try.prog 5 #[.int .i64 a, .int .i64 b, .int .i64 c] w fun e w' => e = .returned (.bool true) ∧ Below w.heap.size w w' := by
  obtain ⟨ra0, ra1⟩ := md_range a
  obtain ⟨rb0, rb1⟩ := md_range b
  obtain ⟨rc0, rc1⟩ := md_range c
  have HR : (a - md a).tmod 1073741789 = 0 := Int.tmod_eq_zero_of_dvd ⟨a / 1073741789, by unfold md; omega⟩
  have ez : (md a == 0) = false := beq_eq_false_iff_ne.2 H.out
  have ey : (md b == 0) = false := beq_eq_false_iff_ne.2 H'.out
  have em : (mu a b == 0) = false := beq_eq_false_iff_ne.2 (fun e => (euclid a b ((mu_eq a b).symm.trans e)).elim H.out H'.out)
  go_enter Try.func5, Try.ntmps5
  go_wp2_with fail
  refine (sane_any _).mono ?_
  rintro e w1 ⟨rfl, hb1⟩
  have q1 := hb1.size
  go_wp2_with fail
  refine (lw_mod a _ rfl _).mono ?_
  rintro e w' ⟨rfl, rfl⟩
  go_wp2_with fail
  refine (lw_mod b _ rfl _).mono ?_
  rintro e w' ⟨rfl, rfl⟩
  go_wp2_with fail
  refine (lw_mod c _ rfl _).mono ?_
  rintro e w' ⟨rfl, rfl⟩
  go_wp2_with fail
  refine (in_any _ ⟨ra0, ra1⟩ _).mono ?_
  rintro e w' ⟨rfl, rfl⟩
  go_wp2_with fail
  refine (in_any _ ⟨rb0, rb1⟩ _).mono ?_
  rintro e w' ⟨rfl, rfl⟩
  go_wp2_with fail
  refine (in_any _ ⟨rc0, rc1⟩ _).mono ?_
  rintro e w' ⟨rfl, rfl⟩
  go_wp2_with fail
  refine (lw_mod (md a) _ (by rw [md_md]) _).mono ?_
  rintro e w' ⟨rfl, rfl⟩
  go_wp2_with fail
  refine (lw_add (a) (b) _ (rfl) _).mono ?_
  rintro e w2 ⟨rfl, hc2⟩
  have hb2 := hb1.trans (hc2.mono q1)
  clear hc2
  have q2 := hb2.size
  go_wp2_with fail
  refine (lw_add (md b) (md a) _ (ad_comm_md a b) _).mono ?_
  rintro e w3 ⟨rfl, hc3⟩
  have hb3 := hb2.trans (hc3.mono q2)
  clear hc3
  have q3 := hb3.size
  go_wp2_with fail
  refine (lw_mul (a) (b) _ (rfl) _).mono ?_
  rintro e w' ⟨rfl, rfl⟩
  go_wp2_with fail
  refine (lw_mul (md b) (md a) _ (mu_comm_md a b) _).mono ?_
  rintro e w' ⟨rfl, rfl⟩
  go_wp2_with fail
  refine (lw_add (a) (b) _ (rfl) _).mono ?_
  rintro e w4 ⟨rfl, hc4⟩
  have hb4 := hb3.trans (hc4.mono q3)
  clear hc4
  have q4 := hb4.size
  go_wp2_with fail
  refine (lw_add (ad a b) (c) _ (rfl) _).mono ?_
  rintro e w5 ⟨rfl, hc5⟩
  have hb5 := hb4.trans (hc5.mono q4)
  clear hc5
  have q5 := hb5.size
  go_wp2_with fail
  refine (lw_add (b) (c) _ (rfl) _).mono ?_
  rintro e w6 ⟨rfl, hc6⟩
  have hb6 := hb5.trans (hc6.mono q5)
  clear hc6
  have q6 := hb6.size
  go_wp2_with fail
  refine (lw_add (a) (ad b c) _ (ad_assoc a b c) _).mono ?_
  rintro e w7 ⟨rfl, hc7⟩
  have hb7 := hb6.trans (hc7.mono q6)
  clear hc7
  have q7 := hb7.size
  go_wp2_with fail
  refine (lw_mul (a) (b) _ (rfl) _).mono ?_
  rintro e w' ⟨rfl, rfl⟩
  go_wp2_with fail
  refine (lw_mul (mu a b) (c) _ (rfl) _).mono ?_
  rintro e w' ⟨rfl, rfl⟩
  go_wp2_with fail
  refine (lw_mul (b) (c) _ (rfl) _).mono ?_
  rintro e w' ⟨rfl, rfl⟩
  go_wp2_with fail
  refine (lw_mul (a) (mu b c) _ (mu_assoc a b c) _).mono ?_
  rintro e w' ⟨rfl, rfl⟩
  go_wp2_with fail
  refine (lw_add (b) (c) _ (rfl) _).mono ?_
  rintro e w8 ⟨rfl, hc8⟩
  have hb8 := hb7.trans (hc8.mono q7)
  clear hc8
  have q8 := hb8.size
  go_wp2_with fail
  refine (lw_mul (a) (ad b c) _ (rfl) _).mono ?_
  rintro e w' ⟨rfl, rfl⟩
  go_wp2_with fail
  refine (lw_mul (a) (b) _ (rfl) _).mono ?_
  rintro e w' ⟨rfl, rfl⟩
  go_wp2_with fail
  refine (lw_mul (a) (c) _ (rfl) _).mono ?_
  rintro e w' ⟨rfl, rfl⟩
  go_wp2_with fail
  refine (lw_add (mu a b) (mu a c) _ (mu_ad a b c) _).mono ?_
  rintro e w9 ⟨rfl, hc9⟩
  have hb9 := hb8.trans (hc9.mono q8)
  clear hc9
  have q9 := hb9.size
  go_wp2_with fail
  refine (lw_add (a) (0) _ (ad_zero a) _).mono ?_
  rintro e w10 ⟨rfl, hc10⟩
  have hb10 := hb9.trans (hc10.mono q9)
  clear hc10
  have q10 := hb10.size
  go_wp2_with fail
  refine (lw_mul (a) (1) _ (mu_one a) _).mono ?_
  rintro e w' ⟨rfl, rfl⟩
  go_wp2_with fail
  refine (lw_add (md a) (-md a) _ (ad_neg a) _).mono ?_
  rintro e w11 ⟨rfl, hc11⟩
  have hb11 := hb10.trans (hc11.mono q10)
  clear hc11
  have q11 := hb11.size
  go_wp2_with fail
  refine (lw_mul (a) (b) _ (rfl) _).mono ?_
  rintro e w' ⟨rfl, rfl⟩
  go_wp2_with fail
  refine (inverse_yes _ _ H.out).mono ?_
  rintro e w' ⟨rfl, rfl⟩
  go_wp2_with fail
  refine (in_any _ (inv_range a) _).mono ?_
  rintro e w' ⟨rfl, rfl⟩
  go_wp2_with fail
  refine (lw_mul (a) (inv a) _ (mu_inv a H.out) _).mono ?_
  rintro e w' ⟨rfl, rfl⟩
  go_wp2_with fail
  go_ret
  exact ⟨rfl, hb11⟩
set_option maxRecDepth 100000 in
set_option maxHeartbeats 4000000 in
theorem fieldLaws_nz (a b c : Int) (ba0 : -9223372036854775808 ≤ a) (ba1 : a ≤ 9223372036854775807) (h0 : ¬ 0 ≤ a) (H : Hid (md a = 0)) (w : World) : Calls Try.prog 5 #[.int .i64 a, .int .i64 b, .int .i64 c] w fun e w' => e = .returned (.bool true) ∧ Below w.heap.size w w' := by
  obtain ⟨ra0, ra1⟩ := md_range a
  obtain ⟨rb0, rb1⟩ := md_range b
  obtain ⟨rc0, rc1⟩ := md_range c
  have ez : (md a == 0) = true := beq_iff_eq.2 H.out
  go_enter Try.func5, Try.ntmps5
  go_wp2_with fail
  refine (sane_any _).mono ?_
  rintro e w1 ⟨rfl, hb1⟩
  have q1 := hb1.size
  go_wp2_with fail
  refine (lw_mod a _ rfl _).mono ?_
  rintro e w' ⟨rfl, rfl⟩
  go_wp2_with fail
  refine (lw_mod b _ rfl _).mono ?_
  rintro e w' ⟨rfl, rfl⟩
  go_wp2_with fail
  refine (lw_mod c _ rfl _).mono ?_
  rintro e w' ⟨rfl, rfl⟩
  go_wp2_with fail
  refine (in_any _ ⟨ra0, ra1⟩ _).mono ?_
  rintro e w' ⟨rfl, rfl⟩
  go_wp2_with fail
  refine (in_any _ ⟨rb0, rb1⟩ _).mono ?_
  rintro e w' ⟨rfl, rfl⟩
  go_wp2_with fail
  refine (in_any _ ⟨rc0, rc1⟩ _).mono ?_
  rintro e w' ⟨rfl, rfl⟩
  go_wp2_with fail
  refine (lw_mod (md a) _ (by rw [md_md]) _).mono ?_
  rintro e w' ⟨rfl, rfl⟩
  go_wp2_with fail
  · refine (lw_add (a) (b) _ (rfl) _).mono ?_
    rintro e w2 ⟨rfl, hc2⟩
    have hb2 := hb1.trans (hc2.mono q1)
    clear hc2
    have q2 := hb2.size
    go_wp2_with fail
    refine (lw_add (md b) (md a) _ (ad_comm_md a b) _).mono ?_
    rintro e w3 ⟨rfl, hc3⟩
    have hb3 := hb2.trans (hc3.mono q2)
    clear hc3
    have q3 := hb3.size
    go_wp2_with fail
    refine (lw_mul (a) (b) _ (rfl) _).mono ?_
    rintro e w' ⟨rfl, rfl⟩
    go_wp2_with fail
    refine (lw_mul (md b) (md a) _ (mu_comm_md a b) _).mono ?_
    rintro e w' ⟨rfl, rfl⟩
    go_wp2_with fail
    refine (lw_add (a) (b) _ (rfl) _).mono ?_
    rintro e w4 ⟨rfl, hc4⟩
    have hb4 := hb3.trans (hc4.mono q3)
    clear hc4
    have q4 := hb4.size
    go_wp2_with fail
    refine (lw_add (ad a b) (c) _ (rfl) _).mono ?_
    rintro e w5 ⟨rfl, hc5⟩
    have hb5 := hb4.trans (hc5.mono q4)
    clear hc5
    have q5 := hb5.size
    go_wp2_with fail
    refine (lw_add (b) (c) _ (rfl) _).mono ?_
    rintro e w6 ⟨rfl, hc6⟩
    have hb6 := hb5.trans (hc6.mono q5)
    clear hc6
    have q6 := hb6.size
    go_wp2_with fail
    refine (lw_add (a) (ad b c) _ (ad_assoc a b c) _).mono ?_
    rintro e w7 ⟨rfl, hc7⟩
    have hb7 := hb6.trans (hc7.mono q6)
    clear hc7
    have q7 := hb7.size
    go_wp2_with fail
    refine (lw_mul (a) (b) _ (rfl) _).mono ?_
    rintro e w' ⟨rfl, rfl⟩
    go_wp2_with fail
    refine (lw_mul (mu a b) (c) _ (rfl) _).mono ?_
    rintro e w' ⟨rfl, rfl⟩
    go_wp2_with fail
    refine (lw_mul (b) (c) _ (rfl) _).mono ?_
    rintro e w' ⟨rfl, rfl⟩
    go_wp2_with fail
    refine (lw_mul (a) (mu b c) _ (mu_assoc a b c) _).mono ?_
    rintro e w' ⟨rfl, rfl⟩
    go_wp2_with fail
    refine (lw_add (b) (c) _ (rfl) _).mono ?_
    rintro e w8 ⟨rfl, hc8⟩
    have hb8 := hb7.trans (hc8.mono q7)
    clear hc8
    have q8 := hb8.size
    go_wp2_with fail
    refine (lw_mul (a) (ad b c) _ (rfl) _).mono ?_
    rintro e w' ⟨rfl, rfl⟩
    go_wp2_with fail
    refine (lw_mul (a) (b) _ (rfl) _).mono ?_
    rintro e w' ⟨rfl, rfl⟩
    go_wp2_with fail
    refine (lw_mul (a) (c) _ (rfl) _).mono ?_
    rintro e w' ⟨rfl, rfl⟩
    go_wp2_with fail
    refine (lw_add (mu a b) (mu a c) _ (mu_ad a b c) _).mono ?_
    rintro e w9 ⟨rfl, hc9⟩
    have hb9 := hb8.trans (hc9.mono q8)
    clear hc9
    have q9 := hb9.size
    go_wp2_with fail
    refine (lw_add (a) (0) _ (ad_zero a) _).mono ?_
    rintro e w10 ⟨rfl, hc10⟩
    have hb10 := hb9.trans (hc10.mono q9)
    clear hc10
    have q10 := hb10.size
    go_wp2_with fail
    refine (lw_mul (a) (1) _ (mu_one a) _).mono ?_
    rintro e w' ⟨rfl, rfl⟩
    go_wp2_with fail
    refine (lw_add (md a) (-md a) _ (ad_neg a) _).mono ?_
    rintro e w11 ⟨rfl, hc11⟩
    have hb11 := hb10.trans (hc11.mono q10)
    clear hc11
    have q11 := hb11.size
    go_wp2_with fail
    refine (lw_mul (a) (b) _ (mu_left a b H.out) _).mono ?_
    rintro e w' ⟨rfl, rfl⟩
    go_wp2_with fail
    refine (inverse_no _ _ H.out).mono ?_
    rintro e w' ⟨rfl, rfl⟩
    go_wp2_with fail
    go_ret
    exact ⟨rfl, hb11⟩
  · refine (lw_add (a) (b) _ (rfl) _).mono ?_
    rintro e w2 ⟨rfl, hc2⟩
    have hb2 := hb1.trans (hc2.mono q1)
    clear hc2
    have q2 := hb2.size
    go_wp2_with fail
    refine (lw_add (md b) (md a) _ (ad_comm_md a b) _).mono ?_
    rintro e w3 ⟨rfl, hc3⟩
    have hb3 := hb2.trans (hc3.mono q2)
    clear hc3
    have q3 := hb3.size
    go_wp2_with fail
    refine (lw_mul (a) (b) _ (rfl) _).mono ?_
    rintro e w' ⟨rfl, rfl⟩
    go_wp2_with fail
    refine (lw_mul (md b) (md a) _ (mu_comm_md a b) _).mono ?_
    rintro e w' ⟨rfl, rfl⟩
    go_wp2_with fail
    refine (lw_add (a) (b) _ (rfl) _).mono ?_
    rintro e w4 ⟨rfl, hc4⟩
    have hb4 := hb3.trans (hc4.mono q3)
    clear hc4
    have q4 := hb4.size
    go_wp2_with fail
    refine (lw_add (ad a b) (c) _ (rfl) _).mono ?_
    rintro e w5 ⟨rfl, hc5⟩
    have hb5 := hb4.trans (hc5.mono q4)
    clear hc5
    have q5 := hb5.size
    go_wp2_with fail
    refine (lw_add (b) (c) _ (rfl) _).mono ?_
    rintro e w6 ⟨rfl, hc6⟩
    have hb6 := hb5.trans (hc6.mono q5)
    clear hc6
    have q6 := hb6.size
    go_wp2_with fail
    refine (lw_add (a) (ad b c) _ (ad_assoc a b c) _).mono ?_
    rintro e w7 ⟨rfl, hc7⟩
    have hb7 := hb6.trans (hc7.mono q6)
    clear hc7
    have q7 := hb7.size
    go_wp2_with fail
    refine (lw_mul (a) (b) _ (rfl) _).mono ?_
    rintro e w' ⟨rfl, rfl⟩
    go_wp2_with fail
    refine (lw_mul (mu a b) (c) _ (rfl) _).mono ?_
    rintro e w' ⟨rfl, rfl⟩
    go_wp2_with fail
    refine (lw_mul (b) (c) _ (rfl) _).mono ?_
    rintro e w' ⟨rfl, rfl⟩
    go_wp2_with fail
    refine (lw_mul (a) (mu b c) _ (mu_assoc a b c) _).mono ?_
    rintro e w' ⟨rfl, rfl⟩
    go_wp2_with fail
    refine (lw_add (b) (c) _ (rfl) _).mono ?_
    rintro e w8 ⟨rfl, hc8⟩
    have hb8 := hb7.trans (hc8.mono q7)
    clear hc8
    have q8 := hb8.size
    go_wp2_with fail
    refine (lw_mul (a) (ad b c) _ (rfl) _).mono ?_
    rintro e w' ⟨rfl, rfl⟩
    go_wp2_with fail
    refine (lw_mul (a) (b) _ (rfl) _).mono ?_
    rintro e w' ⟨rfl, rfl⟩
    go_wp2_with fail
    refine (lw_mul (a) (c) _ (rfl) _).mono ?_
    rintro e w' ⟨rfl, rfl⟩
    go_wp2_with fail
    refine (lw_add (mu a b) (mu a c) _ (mu_ad a b c) _).mono ?_
    rintro e w9 ⟨rfl, hc9⟩
    have hb9 := hb8.trans (hc9.mono q8)
    clear hc9
    have q9 := hb9.size
    go_wp2_with fail
    refine (lw_add (a) (0) _ (ad_zero a) _).mono ?_
    rintro e w10 ⟨rfl, hc10⟩
    have hb10 := hb9.trans (hc10.mono q9)
    clear hc10
    have q10 := hb10.size
    go_wp2_with fail
    refine (lw_mul (a) (1) _ (mu_one a) _).mono ?_
    rintro e w' ⟨rfl, rfl⟩
    go_wp2_with fail
    refine (lw_add (md a) (-md a) _ (ad_neg a) _).mono ?_
    rintro e w11 ⟨rfl, hc11⟩
    have hb11 := hb10.trans (hc11.mono q10)
    clear hc11
    have q11 := hb11.size
    go_wp2_with fail
    refine (lw_mul (a) (b) _ (mu_left a b H.out) _).mono ?_
    rintro e w' ⟨rfl, rfl⟩
    go_wp2_with fail
    refine (inverse_no _ _ H.out).mono ?_
    rintro e w' ⟨rfl, rfl⟩
    go_wp2_with fail
    go_ret
    exact ⟨rfl, hb11⟩
set_option maxRecDepth 100000 in
set_option maxHeartbeats 4000000 in
theorem fieldLaws_ny (a b c : Int) (ba0 : -9223372036854775808 ≤ a) (ba1 : a ≤ 9223372036854775807) (h0 : ¬ 0 ≤ a) (H : Hid (md a ≠ 0)) (H' : Hid (md b = 0)) (w : World) : Calls Try.prog 5 #[.int .i64 a, .int .i64 b, .int .i64 c] w fun e w' => e = .returned (.bool true) ∧ Below w.heap.size w w' := by
  obtain ⟨ra0, ra1⟩ := md_range a
  obtain ⟨rb0, rb1⟩ := md_range b
  obtain ⟨rc0, rc1⟩ := md_range c
  have ez : (md a == 0) = false := beq_eq_false_iff_ne.2 H.out
  have ey : (md b == 0) = true := beq_iff_eq.2 H'.out
  go_enter Try.func5, Try.ntmps5
  go_wp2_with fail
  refine (sane_any _).mono ?_
  rintro e w1 ⟨rfl, hb1⟩
  have q1 := hb1.size
  go_wp2_with fail
  refine (lw_mod a _ rfl _).mono ?_
  rintro e w' ⟨rfl, rfl⟩
  go_wp2_with fail
  refine (lw_mod b _ rfl _).mono ?_
  rintro e w' ⟨rfl, rfl⟩
  go_wp2_with fail
  refine (lw_mod c _ rfl _).mono ?_
  rintro e w' ⟨rfl, rfl⟩
  go_wp2_with fail
  refine (in_any _ ⟨ra0, ra1⟩ _).mono ?_
  rintro e w' ⟨rfl, rfl⟩
  go_wp2_with fail
  refine (in_any _ ⟨rb0, rb1⟩ _).mono ?_
  rintro e w' ⟨rfl, rfl⟩
  go_wp2_with fail
  refine (in_any _ ⟨rc0, rc1⟩ _).mono ?_
  rintro e w' ⟨rfl, rfl⟩
  go_wp2_with fail
  refine (lw_mod (md a) _ (by rw [md_md]) _).mono ?_
  rintro e w' ⟨rfl, rfl⟩
  go_wp2_with fail
  · refine (lw_add (a) (b) _ (rfl) _).mono ?_
    rintro e w2 ⟨rfl, hc2⟩
    have hb2 := hb1.trans (hc2.mono q1)
    clear hc2
    have q2 := hb2.size
    go_wp2_with fail
    refine (lw_add (md b) (md a) _ (ad_comm_md a b) _).mono ?_
    rintro e w3 ⟨rfl, hc3⟩
    have hb3 := hb2.trans (hc3.mono q2)
    clear hc3
    have q3 := hb3.size
    go_wp2_with fail
    refine (lw_mul (a) (b) _ (rfl) _).mono ?_
    rintro e w' ⟨rfl, rfl⟩
    go_wp2_with fail
    refine (lw_mul (md b) (md a) _ (mu_comm_md a b) _).mono ?_
    rintro e w' ⟨rfl, rfl⟩
    go_wp2_with fail
    refine (lw_add (a) (b) _ (rfl) _).mono ?_
    rintro e w4 ⟨rfl, hc4⟩
    have hb4 := hb3.trans (hc4.mono q3)
    clear hc4
    have q4 := hb4.size
    go_wp2_with fail
    refine (lw_add (ad a b) (c) _ (rfl) _).mono ?_
    rintro e w5 ⟨rfl, hc5⟩
    have hb5 := hb4.trans (hc5.mono q4)
    clear hc5
    have q5 := hb5.size
    go_wp2_with fail
    refine (lw_add (b) (c) _ (rfl) _).mono ?_
    rintro e w6 ⟨rfl, hc6⟩
    have hb6 := hb5.trans (hc6.mono q5)
    clear hc6
    have q6 := hb6.size
    go_wp2_with fail
    refine (lw_add (a) (ad b c) _ (ad_assoc a b c) _).mono ?_
    rintro e w7 ⟨rfl, hc7⟩
    have hb7 := hb6.trans (hc7.mono q6)
    clear hc7
    have q7 := hb7.size
    go_wp2_with fail
    refine (lw_mul (a) (b) _ (rfl) _).mono ?_
    rintro e w' ⟨rfl, rfl⟩
    go_wp2_with fail
    refine (lw_mul (mu a b) (c) _ (rfl) _).mono ?_
    rintro e w' ⟨rfl, rfl⟩
    go_wp2_with fail
    refine (lw_mul (b) (c) _ (rfl) _).mono ?_
    rintro e w' ⟨rfl, rfl⟩
    go_wp2_with fail
    refine (lw_mul (a) (mu b c) _ (mu_assoc a b c) _).mono ?_
    rintro e w' ⟨rfl, rfl⟩
    go_wp2_with fail
    refine (lw_add (b) (c) _ (rfl) _).mono ?_
    rintro e w8 ⟨rfl, hc8⟩
    have hb8 := hb7.trans (hc8.mono q7)
    clear hc8
    have q8 := hb8.size
    go_wp2_with fail
    refine (lw_mul (a) (ad b c) _ (rfl) _).mono ?_
    rintro e w' ⟨rfl, rfl⟩
    go_wp2_with fail
    refine (lw_mul (a) (b) _ (rfl) _).mono ?_
    rintro e w' ⟨rfl, rfl⟩
    go_wp2_with fail
    refine (lw_mul (a) (c) _ (rfl) _).mono ?_
    rintro e w' ⟨rfl, rfl⟩
    go_wp2_with fail
    refine (lw_add (mu a b) (mu a c) _ (mu_ad a b c) _).mono ?_
    rintro e w9 ⟨rfl, hc9⟩
    have hb9 := hb8.trans (hc9.mono q8)
    clear hc9
    have q9 := hb9.size
    go_wp2_with fail
    refine (lw_add (a) (0) _ (ad_zero a) _).mono ?_
    rintro e w10 ⟨rfl, hc10⟩
    have hb10 := hb9.trans (hc10.mono q9)
    clear hc10
    have q10 := hb10.size
    go_wp2_with fail
    refine (lw_mul (a) (1) _ (mu_one a) _).mono ?_
    rintro e w' ⟨rfl, rfl⟩
    go_wp2_with fail
    refine (lw_add (md a) (-md a) _ (ad_neg a) _).mono ?_
    rintro e w11 ⟨rfl, hc11⟩
    have hb11 := hb10.trans (hc11.mono q10)
    clear hc11
    have q11 := hb11.size
    go_wp2_with fail
    refine (lw_mul (a) (b) _ (mu_right a b H'.out) _).mono ?_
    rintro e w' ⟨rfl, rfl⟩
    go_wp2_with fail
    refine (inverse_yes _ _ H.out).mono ?_
    rintro e w' ⟨rfl, rfl⟩
    go_wp2_with fail
    refine (in_any _ (inv_range a) _).mono ?_
    rintro e w' ⟨rfl, rfl⟩
    go_wp2_with fail
    refine (lw_mul (a) (inv a) _ (mu_inv a H.out) _).mono ?_
    rintro e w' ⟨rfl, rfl⟩
    go_wp2_with fail
    go_ret
    exact ⟨rfl, hb11⟩
  · refine (lw_add (a) (b) _ (rfl) _).mono ?_
    rintro e w2 ⟨rfl, hc2⟩
    have hb2 := hb1.trans (hc2.mono q1)
    clear hc2
    have q2 := hb2.size
    go_wp2_with fail
    refine (lw_add (md b) (md a) _ (ad_comm_md a b) _).mono ?_
    rintro e w3 ⟨rfl, hc3⟩
    have hb3 := hb2.trans (hc3.mono q2)
    clear hc3
    have q3 := hb3.size
    go_wp2_with fail
    refine (lw_mul (a) (b) _ (rfl) _).mono ?_
    rintro e w' ⟨rfl, rfl⟩
    go_wp2_with fail
    refine (lw_mul (md b) (md a) _ (mu_comm_md a b) _).mono ?_
    rintro e w' ⟨rfl, rfl⟩
    go_wp2_with fail
    refine (lw_add (a) (b) _ (rfl) _).mono ?_
    rintro e w4 ⟨rfl, hc4⟩
    have hb4 := hb3.trans (hc4.mono q3)
    clear hc4
    have q4 := hb4.size
    go_wp2_with fail
    refine (lw_add (ad a b) (c) _ (rfl) _).mono ?_
    rintro e w5 ⟨rfl, hc5⟩
    have hb5 := hb4.trans (hc5.mono q4)
    clear hc5
    have q5 := hb5.size
    go_wp2_with fail
    refine (lw_add (b) (c) _ (rfl) _).mono ?_
    rintro e w6 ⟨rfl, hc6⟩
    have hb6 := hb5.trans (hc6.mono q5)
    clear hc6
    have q6 := hb6.size
    go_wp2_with fail
    refine (lw_add (a) (ad b c) _ (ad_assoc a b c) _).mono ?_
    rintro e w7 ⟨rfl, hc7⟩
    have hb7 := hb6.trans (hc7.mono q6)
    clear hc7
    have q7 := hb7.size
    go_wp2_with fail
    refine (lw_mul (a) (b) _ (rfl) _).mono ?_
    rintro e w' ⟨rfl, rfl⟩
    go_wp2_with fail
    refine (lw_mul (mu a b) (c) _ (rfl) _).mono ?_
    rintro e w' ⟨rfl, rfl⟩
    go_wp2_with fail
    refine (lw_mul (b) (c) _ (rfl) _).mono ?_
    rintro e w' ⟨rfl, rfl⟩
    go_wp2_with fail
    refine (lw_mul (a) (mu b c) _ (mu_assoc a b c) _).mono ?_
    rintro e w' ⟨rfl, rfl⟩
    go_wp2_with fail
    refine (lw_add (b) (c) _ (rfl) _).mono ?_
    rintro e w8 ⟨rfl, hc8⟩
    have hb8 := hb7.trans (hc8.mono q7)
    clear hc8
    have q8 := hb8.size
    go_wp2_with fail
    refine (lw_mul (a) (ad b c) _ (rfl) _).mono ?_
    rintro e w' ⟨rfl, rfl⟩
    go_wp2_with fail
    refine (lw_mul (a) (b) _ (rfl) _).mono ?_
    rintro e w' ⟨rfl, rfl⟩
    go_wp2_with fail
    refine (lw_mul (a) (c) _ (rfl) _).mono ?_
    rintro e w' ⟨rfl, rfl⟩
    go_wp2_with fail
    refine (lw_add (mu a b) (mu a c) _ (mu_ad a b c) _).mono ?_
    rintro e w9 ⟨rfl, hc9⟩
    have hb9 := hb8.trans (hc9.mono q8)
    clear hc9
    have q9 := hb9.size
    go_wp2_with fail
    refine (lw_add (a) (0) _ (ad_zero a) _).mono ?_
    rintro e w10 ⟨rfl, hc10⟩
    have hb10 := hb9.trans (hc10.mono q9)
    clear hc10
    have q10 := hb10.size
    go_wp2_with fail
    refine (lw_mul (a) (1) _ (mu_one a) _).mono ?_
    rintro e w' ⟨rfl, rfl⟩
    go_wp2_with fail
    refine (lw_add (md a) (-md a) _ (ad_neg a) _).mono ?_
    rintro e w11 ⟨rfl, hc11⟩
    have hb11 := hb10.trans (hc11.mono q10)
    clear hc11
    have q11 := hb11.size
    go_wp2_with fail
    refine (lw_mul (a) (b) _ (mu_right a b H'.out) _).mono ?_
    rintro e w' ⟨rfl, rfl⟩
    go_wp2_with fail
    refine (inverse_yes _ _ H.out).mono ?_
    rintro e w' ⟨rfl, rfl⟩
    go_wp2_with fail
    refine (in_any _ (inv_range a) _).mono ?_
    rintro e w' ⟨rfl, rfl⟩
    go_wp2_with fail
    refine (lw_mul (a) (inv a) _ (mu_inv a H.out) _).mono ?_
    rintro e w' ⟨rfl, rfl⟩
    go_wp2_with fail
    go_ret
    exact ⟨rfl, hb11⟩
set_option maxRecDepth 100000 in
set_option maxHeartbeats 4000000 in
theorem fieldLaws_nn (a b c : Int) (ba0 : -9223372036854775808 ≤ a) (ba1 : a ≤ 9223372036854775807) (h0 : ¬ 0 ≤ a) (H : Hid (md a ≠ 0)) (H' : Hid (md b ≠ 0)) (w : World) : Calls Try.prog 5 #[.int .i64 a, .int .i64 b, .int .i64 c] w fun e w' => e = .returned (.bool true) ∧ Below w.heap.size w w' := by
  obtain ⟨ra0, ra1⟩ := md_range a
  obtain ⟨rb0, rb1⟩ := md_range b
  obtain ⟨rc0, rc1⟩ := md_range c
  have ez : (md a == 0) = false := beq_eq_false_iff_ne.2 H.out
  have ey : (md b == 0) = false := beq_eq_false_iff_ne.2 H'.out
  have em : (mu a b == 0) = false := beq_eq_false_iff_ne.2 (fun e => (euclid a b ((mu_eq a b).symm.trans e)).elim H.out H'.out)
  go_enter Try.func5, Try.ntmps5
  go_wp2_with fail
  refine (sane_any _).mono ?_
  rintro e w1 ⟨rfl, hb1⟩
  have q1 := hb1.size
  go_wp2_with fail
  refine (lw_mod a _ rfl _).mono ?_
  rintro e w' ⟨rfl, rfl⟩
  go_wp2_with fail
  refine (lw_mod b _ rfl _).mono ?_
  rintro e w' ⟨rfl, rfl⟩
  go_wp2_with fail
  refine (lw_mod c _ rfl _).mono ?_
  rintro e w' ⟨rfl, rfl⟩
  go_wp2_with fail
  refine (in_any _ ⟨ra0, ra1⟩ _).mono ?_
  rintro e w' ⟨rfl, rfl⟩
  go_wp2_with fail
  refine (in_any _ ⟨rb0, rb1⟩ _).mono ?_
  rintro e w' ⟨rfl, rfl⟩
  go_wp2_with fail
  refine (in_any _ ⟨rc0, rc1⟩ _).mono ?_
  rintro e w' ⟨rfl, rfl⟩
  go_wp2_with fail
  refine (lw_mod (md a) _ (by rw [md_md]) _).mono ?_
  rintro e w' ⟨rfl, rfl⟩
  go_wp2_with fail
  · refine (lw_add (a) (b) _ (rfl) _).mono ?_
    rintro e w2 ⟨rfl, hc2⟩
    have hb2 := hb1.trans (hc2.mono q1)
    clear hc2
    have q2 := hb2.size
    go_wp2_with fail
    refine (lw_add (md b) (md a) _ (ad_comm_md a b) _).mono ?_
    rintro e w3 ⟨rfl, hc3⟩
    have hb3 := hb2.trans (hc3.mono q2)
    clear hc3
    have q3 := hb3.size
    go_wp2_with fail
    refine (lw_mul (a) (b) _ (rfl) _).mono ?_
    rintro e w' ⟨rfl, rfl⟩
    go_wp2_with fail
    refine (lw_mul (md b) (md a) _ (mu_comm_md a b) _).mono ?_
    rintro e w' ⟨rfl, rfl⟩
    go_wp2_with fail
    refine (lw_add (a) (b) _ (rfl) _).mono ?_
    rintro e w4 ⟨rfl, hc4⟩
    have hb4 := hb3.trans (hc4.mono q3)
    clear hc4
    have q4 := hb4.size
    go_wp2_with fail
    refine (lw_add (ad a b) (c) _ (rfl) _).mono ?_
    rintro e w5 ⟨rfl, hc5⟩
    have hb5 := hb4.trans (hc5.mono q4)
    clear hc5
    have q5 := hb5.size
    go_wp2_with fail
    refine (lw_add (b) (c) _ (rfl) _).mono ?_
    rintro e w6 ⟨rfl, hc6⟩
    have hb6 := hb5.trans (hc6.mono q5)
    clear hc6
    have q6 := hb6.size
    go_wp2_with fail
    refine (lw_add (a) (ad b c) _ (ad_assoc a b c) _).mono ?_
    rintro e w7 ⟨rfl, hc7⟩
    have hb7 := hb6.trans (hc7.mono q6)
    clear hc7
    have q7 := hb7.size
    go_wp2_with fail
    refine (lw_mul (a) (b) _ (rfl) _).mono ?_
    rintro e w' ⟨rfl, rfl⟩
    go_wp2_with fail
    refine (lw_mul (mu a b) (c) _ (rfl) _).mono ?_
    rintro e w' ⟨rfl, rfl⟩
    go_wp2_with fail
    refine (lw_mul (b) (c) _ (rfl) _).mono ?_
    rintro e w' ⟨rfl, rfl⟩
    go_wp2_with fail
    refine (lw_mul (a) (mu b c) _ (mu_assoc a b c) _).mono ?_
    rintro e w' ⟨rfl, rfl⟩
    go_wp2_with fail
    refine (lw_add (b) (c) _ (rfl) _).mono ?_
    rintro e w8 ⟨rfl, hc8⟩
    have hb8 := hb7.trans (hc8.mono q7)
    clear hc8
    have q8 := hb8.size
    go_wp2_with fail
    refine (lw_mul (a) (ad b c) _ (rfl) _).mono ?_
    rintro e w' ⟨rfl, rfl⟩
    go_wp2_with fail
    refine (lw_mul (a) (b) _ (rfl) _).mono ?_
    rintro e w' ⟨rfl, rfl⟩
    go_wp2_with fail
    refine (lw_mul (a) (c) _ (rfl) _).mono ?_
    rintro e w' ⟨rfl, rfl⟩
    go_wp2_with fail
    refine (lw_add (mu a b) (mu a c) _ (mu_ad a b c) _).mono ?_
    rintro e w9 ⟨rfl, hc9⟩
    have hb9 := hb8.trans (hc9.mono q8)
    clear hc9
    have q9 := hb9.size
    go_wp2_with fail
    refine (lw_add (a) (0) _ (ad_zero a) _).mono ?_
    rintro e w10 ⟨rfl, hc10⟩
    have hb10 := hb9.trans (hc10.mono q9)
    clear hc10
    have q10 := hb10.size
    go_wp2_with fail
    refine (lw_mul (a) (1) _ (mu_one a) _).mono ?_
    rintro e w' ⟨rfl, rfl⟩
    go_wp2_with fail
    refine (lw_add (md a) (-md a) _ (ad_neg a) _).mono ?_
    rintro e w11 ⟨rfl, hc11⟩
    have hb11 := hb10.trans (hc11.mono q10)
    clear hc11
    have q11 := hb11.size
    go_wp2_with fail
    refine (lw_mul (a) (b) _ (rfl) _).mono ?_
    rintro e w' ⟨rfl, rfl⟩
    go_wp2_with fail
    refine (inverse_yes _ _ H.out).mono ?_
    rintro e w' ⟨rfl, rfl⟩
    go_wp2_with fail
    refine (in_any _ (inv_range a) _).mono ?_
    rintro e w' ⟨rfl, rfl⟩
    go_wp2_with fail
    refine (lw_mul (a) (inv a) _ (mu_inv a H.out) _).mono ?_
    rintro e w' ⟨rfl, rfl⟩
    go_wp2_with fail
    go_ret
    exact ⟨rfl, hb11⟩
  · refine (lw_add (a) (b) _ (rfl) _).mono ?_
    rintro e w2 ⟨rfl, hc2⟩
    have hb2 := hb1.trans (hc2.mono q1)
    clear hc2
    have q2 := hb2.size
    go_wp2_with fail
    refine (lw_add (md b) (md a) _ (ad_comm_md a b) _).mono ?_
    rintro e w3 ⟨rfl, hc3⟩
    have hb3 := hb2.trans (hc3.mono q2)
    clear hc3
    have q3 := hb3.size
    go_wp2_with fail
    refine (lw_mul (a) (b) _ (rfl) _).mono ?_
    rintro e w' ⟨rfl, rfl⟩
    go_wp2_with fail
    refine (lw_mul (md b) (md a) _ (mu_comm_md a b) _).mono ?_
    rintro e w' ⟨rfl, rfl⟩
    go_wp2_with fail
    refine (lw_add (a) (b) _ (rfl) _).mono ?_
    rintro e w4 ⟨rfl, hc4⟩
    have hb4 := hb3.trans (hc4.mono q3)
    clear hc4
    have q4 := hb4.size
    go_wp2_with fail
    refine (lw_add (ad a b) (c) _ (rfl) _).mono ?_
    rintro e w5 ⟨rfl, hc5⟩
    have hb5 := hb4.trans (hc5.mono q4)
    clear hc5
    have q5 := hb5.size
    go_wp2_with fail
    refine (lw_add (b) (c) _ (rfl) _).mono ?_
    rintro e w6 ⟨rfl, hc6⟩
    have hb6 := hb5.trans (hc6.mono q5)
    clear hc6
    have q6 := hb6.size
    go_wp2_with fail
    refine (lw_add (a) (ad b c) _ (ad_assoc a b c) _).mono ?_
    rintro e w7 ⟨rfl, hc7⟩
    have hb7 := hb6.trans (hc7.mono q6)
    clear hc7
    have q7 := hb7.size
    go_wp2_with fail
    refine (lw_mul (a) (b) _ (rfl) _).mono ?_
    rintro e w' ⟨rfl, rfl⟩
    go_wp2_with fail
    refine (lw_mul (mu a b) (c) _ (rfl) _).mono ?_
    rintro e w' ⟨rfl, rfl⟩
    go_wp2_with fail
    refine (lw_mul (b) (c) _ (rfl) _).mono ?_
    rintro e w' ⟨rfl, rfl⟩
    go_wp2_with fail
    refine (lw_mul (a) (mu b c) _ (mu_assoc a b c) _).mono ?_
    rintro e w' ⟨rfl, rfl⟩
    go_wp2_with fail
    refine (lw_add (b) (c) _ (rfl) _).mono ?_
    rintro e w8 ⟨rfl, hc8⟩
    have hb8 := hb7.trans (hc8.mono q7)
    clear hc8
    have q8 := hb8.size
    go_wp2_with fail
    refine (lw_mul (a) (ad b c) _ (rfl) _).mono ?_
    rintro e w' ⟨rfl, rfl⟩
    go_wp2_with fail
    refine (lw_mul (a) (b) _ (rfl) _).mono ?_
    rintro e w' ⟨rfl, rfl⟩
    go_wp2_with fail
    refine (lw_mul (a) (c) _ (rfl) _).mono ?_
    rintro e w' ⟨rfl, rfl⟩
    go_wp2_with fail
    refine (lw_add (mu a b) (mu a c) _ (mu_ad a b c) _).mono ?_
    rintro e w9 ⟨rfl, hc9⟩
    have hb9 := hb8.trans (hc9.mono q8)
    clear hc9
    have q9 := hb9.size
    go_wp2_with fail
    refine (lw_add (a) (0) _ (ad_zero a) _).mono ?_
    rintro e w10 ⟨rfl, hc10⟩
    have hb10 := hb9.trans (hc10.mono q9)
    clear hc10
    have q10 := hb10.size
    go_wp2_with fail
    refine (lw_mul (a) (1) _ (mu_one a) _).mono ?_
    rintro e w' ⟨rfl, rfl⟩
    go_wp2_with fail
    refine (lw_add (md a) (-md a) _ (ad_neg a) _).mono ?_
    rintro e w11 ⟨rfl, hc11⟩
    have hb11 := hb10.trans (hc11.mono q10)
    clear hc11
    have q11 := hb11.size
    go_wp2_with fail
    refine (lw_mul (a) (b) _ (rfl) _).mono ?_
    rintro e w' ⟨rfl, rfl⟩
    go_wp2_with fail
    refine (inverse_yes _ _ H.out).mono ?_
    rintro e w' ⟨rfl, rfl⟩
    go_wp2_with fail
    refine (in_any _ (inv_range a) _).mono ?_
    rintro e w' ⟨rfl, rfl⟩
    go_wp2_with fail
    refine (lw_mul (a) (inv a) _ (mu_inv a H.out) _).mono ?_
    rintro e w' ⟨rfl, rfl⟩
    go_wp2_with fail
    go_ret
    exact ⟨rfl, hb11⟩
set_option maxRecDepth 100000 in
theorem fieldLaws_walk (a b c : Int) (ba : -9223372036854775808 ≤ a ∧ a ≤ 9223372036854775807) (w : World) : Calls Try.prog 5 #[.int .i64 a, .int .i64 b, .int .i64 c] w fun e w' => e = .returned (.bool true) ∧ Below w.heap.size w w' := by
  by_cases h0 : 0 ≤ a <;> by_cases h1 : md a = 0 <;> by_cases h2 : md b = 0
  · exact fieldLaws_pz a b c ba.1 ba.2 h0 (Lib.hid h1) w
  · exact fieldLaws_pz a b c ba.1 ba.2 h0 (Lib.hid h1) w
  · exact fieldLaws_py a b c ba.1 ba.2 h0 (Lib.hid h1) (Lib.hid h2) w
  · exact fieldLaws_pn a b c ba.1 ba.2 h0 (Lib.hid h1) (Lib.hid h2) w
  · exact fieldLaws_nz a b c ba.1 ba.2 h0 (Lib.hid h1) w
  · exact fieldLaws_nz a b c ba.1 ba.2 h0 (Lib.hid h1) w
  · exact fieldLaws_ny a b c ba.1 ba.2 h0 (Lib.hid h1) (Lib.hid h2) w
  · exact fieldLaws_nn a b c ba.1 ba.2 h0 (Lib.hid h1) (Lib.hid h2) w

set_option maxRecDepth 100000 in
theorem fieldLaws_lifted (os : Os) (started : os.Started) (H : Type) (enc : TypeId × Value → H) :
    ReturnsInHanded {} Try.checked os 5 .any (Rows.fieldLawsSpec.pre6 enc Try.prog Try.f5 Rows.fieldLawsRow.domain false) (Rows.fieldLawsSpec.post enc Try.prog Try.f5 false true false false) := by
  refine returnsInHanded_of_change (C := Try.checked) own started (by kernel_rfl) Try.func5
    (ChangeSpec.witness6 (enc := enc) (C := Try.checked) false ⟨#[], #[.int .i64 0, .int .i64 0, .int .i64 0], []⟩ 8 (by kernel_rfl) (by kernel_rfl) (by kernel_rfl) (by kernel_rfl)) ?_
  intro W base args ds gs before hval hW _ _
  refine law_contract rfl rfl Try.underlying4 laidOut (by kernel_rfl) (fun ds h => ?_) W base args ds gs before hval hW (fun hg => ?_)
  · match ds, h with
    | [d0, d1, d2], _ => rfl
  · obtain ⟨v0, v1, v2, rfl⟩ := args_three hg.1
    obtain ⟨a0, rfl, b0⟩ := given_int hg 0 rfl rfl Try.underlying3
    obtain ⟨a1, rfl, b1⟩ := given_int hg 1 rfl rfl Try.underlying3
    obtain ⟨a2, rfl, b2⟩ := given_int hg 2 rfl rfl Try.underlying3
    exact fieldLaws_walk a0 a1 a2 b0 W
/-- THE STATEMENT. -/
theorem fieldLaws_holds : Rows.FieldLawsSaid :=
  OpenClaim.holds_of_wide 5 Try.f5 rfl rfl rfl rfl rfl rfl rfl ⟨rfl, rfl, rfl, rfl, rfl⟩ rfl rfl rfl rfl rfl (by kernel_rfl) Try.func5 (by kernel_rfl)
    (of_decide_eq_true (by kernel_rfl)) (by unfold Func.isWrapper; first | (rw [if_pos (by decide +kernel)]; kernel_rfl) | (rw [if_neg (by decide +kernel)]; exact ⟨rfl, rfl⟩))
    (fun os started H enc _ => fieldLaws_lifted os started H enc)
#print axioms fieldLaws_holds
end Go.Proofs.Ytapbfhmmgkjdnaa

