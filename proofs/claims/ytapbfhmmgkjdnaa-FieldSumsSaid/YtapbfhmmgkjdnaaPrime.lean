/-
  Plain arithmetic: the number Q of layer 9 is prime; a product is 0 modulo Q only if a factor is; Fermat's little theorem; inverses. No program in sight.
-/
import Derived.Test.YtapbfhmmgkjdnaaMath
namespace Go.Proofs.Ytapbfhmmgkjdnaa
/-- No number from a on, n of them, divides q. -/
def noDiv (q : Nat) : Nat → Nat → Bool
  | 0, _ => true
  | n + 1, a => q % a != 0 && noDiv q n (a + 1)
theorem noDiv_spec (q : Nat) : ∀ (n a : Nat), noDiv q n a = true → ∀ d, a ≤ d → d < a + n → q % d ≠ 0
  | 0, a, _, d, h1, h2 => by omega
  | n + 1, a, h, d, h1, h2 => by
    simp only [noDiv, Bool.and_eq_true, bne_iff_ne] at h
    by_cases e : d = a
    · subst e; exact h.1
    · exact noDiv_spec q n (a + 1) h.2 d (by omega) (by omega)
def rowsNoDiv (q : Nat) : Nat → Bool
  | 0 => true
  | k + 1 => noDiv q 128 (128 * k + 2) && rowsNoDiv q k
theorem rowsNoDiv_spec (q : Nat) : ∀ (k : Nat), rowsNoDiv q k = true → ∀ d, 2 ≤ d → d < 128 * k + 2 → q % d ≠ 0
  | 0, _, d, h1, h2 => by omega
  | k + 1, h, d, h1, h2 => by
    simp only [rowsNoDiv, Bool.and_eq_true] at h
    by_cases e : 128 * k + 2 ≤ d
    · exact noDiv_spec q 128 _ h.1 d e (by omega)
    · exact rowsNoDiv_spec q k h.2 d h1 (by omega)
theorem q_rows : rowsNoDiv 1073741789 256 = true := by decide +kernel
theorem q_prime (d : Nat) (h : d ∣ 1073741789) : d = 1 ∨ d = 1073741789 := by
  obtain ⟨e, he⟩ := h
  have small : ∀ x y : Nat, 1073741789 = x * y → x ≤ 32769 → x = 1 ∨ x = 0 := fun x y hxy hx => by
    by_cases h2 : 2 ≤ x
    · exact absurd (by rw [hxy]; exact Nat.mul_mod_right x y) (rowsNoDiv_spec _ 256 q_rows x h2 (by omega))
    · omega
  by_cases h1 : d ≤ 32769
  · rcases small d e he h1 with h | h
    · exact .inl h
    · subst h; omega
  · have h2 : e ≤ 32769 := by
      refine Nat.le_of_not_lt fun hlt => ?_
      have := Nat.mul_le_mul (show 32770 ≤ d by omega) (show 32770 ≤ e by omega)
      omega
    rcases small e d (by rw [Nat.mul_comm]; exact he) h2 with h | h
    · subst h; right; omega
    · subst h; omega
theorem q_coprime (a : Nat) (h : a % 1073741789 ≠ 0) : Nat.Coprime 1073741789 a := by
  have h1 := q_prime (Nat.gcd 1073741789 a) (Nat.gcd_dvd_left _ _)
  rcases h1 with h1 | h1
  · exact h1
  · exact absurd (Nat.mod_eq_zero_of_dvd (h1 ▸ Nat.gcd_dvd_right 1073741789 a)) h
/-- A product is 0 only if a factor is. -/
theorem nat_euclid (a b : Nat) (h : (a * b) % 1073741789 = 0) : a % 1073741789 = 0 ∨ b % 1073741789 = 0 := by
  by_cases ha : a % 1073741789 = 0
  · exact .inl ha
  · exact .inr (Nat.mod_eq_zero_of_dvd ((q_coprime a ha).dvd_of_dvd_mul_left (Nat.dvd_of_mod_eq_zero h)))
theorem md_nat (n : Nat) : md (n : Int) = ((n % 1073741789 : Nat) : Int) := by unfold md; omega
theorem md_toNat (a : Int) : ∃ n : Nat, n < 1073741789 ∧ md a = n := ⟨(md a).toNat, by have := md_range a; omega, by have := md_range a; omega⟩
theorem euclid (a b : Int) (h : md (a * b) = 0) : md a = 0 ∨ md b = 0 := by
  obtain ⟨m, _, hm⟩ := md_toNat a
  obtain ⟨n, _, hn⟩ := md_toNat b
  rw [← md_mul, ← md_mul_r, hm, hn, show ((m : Int) * (n : Int)) = ((m * n : Nat) : Int) from rfl, md_nat] at h
  rcases nat_euclid m n (by omega) with h' | h'
  · left; rw [← md_md, hm, md_nat, h']; rfl
  · right; rw [← md_md, hn, md_nat, h']; rfl

/-! ### Fermat -/
def binom : Nat → Nat → Nat
  | _, 0 => 1
  | 0, _ + 1 => 0
  | n + 1, k + 1 => binom n k + binom n (k + 1)
theorem binom_gt : ∀ (n k : Nat), n < k → binom n k = 0
  | 0, k + 1, _ => rfl
  | n + 1, k + 1, h => by show binom n k + binom n (k + 1) = 0; rw [binom_gt n k (by omega), binom_gt n (k + 1) (by omega)]
theorem binom_self : ∀ n, binom n n = 1
  | 0 => rfl
  | n + 1 => by show binom n n + binom n (n + 1) = 1; rw [binom_self n, binom_gt n (n + 1) (by omega)]
theorem binom_absorb : ∀ (n k : Nat), (k + 1) * binom (n + 1) (k + 1) = (n + 1) * binom n k
  | 0, 0 => rfl
  | 0, k + 1 => by show (k + 2) * (binom 0 (k + 1) + binom 0 (k + 2)) = 1 * binom 0 (k + 1); rfl
  | n + 1, 0 => by
    have := binom_absorb n 0
    show 1 * (binom (n + 1) 0 + binom (n + 1) 1) = (n + 2) * binom (n + 1) 0
    have e : ∀ m, binom m 0 = 1 := fun m => by cases m <;> rfl
    simp only [e, Nat.zero_add] at *
    omega
  | n + 1, k + 1 => by
    have h1 := binom_absorb n k
    have h2 := binom_absorb n (k + 1)
    show (k + 2) * (binom (n + 1) (k + 1) + binom (n + 1) (k + 2)) = (n + 2) * binom (n + 1) (k + 1)
    have h3 : binom (n + 1) (k + 1) = binom n k + binom n (k + 1) := rfl
    have h4 : (k + 2) * binom (n + 1) (k + 2) = (n + 1) * binom n (k + 1) := h2
    rw [Nat.mul_add, h4, show (k + 2) * binom (n + 1) (k + 1) = (k + 1) * binom (n + 1) (k + 1) + binom (n + 1) (k + 1) by rw [Nat.add_mul (k + 1) 1, Nat.one_mul], h1,
      show (n + 2) * binom (n + 1) (k + 1) = (n + 1) * binom (n + 1) (k + 1) + binom (n + 1) (k + 1) by rw [Nat.add_mul (n + 1) 1, Nat.one_mul], h3, Nat.mul_add]
    omega
/-- The sum of the first m terms of the binomial formula. -/
def bsum (n a : Nat) : Nat → Nat
  | 0 => 0
  | m + 1 => bsum n a m + binom n m * a ^ m
theorem bsum_step (n a : Nat) : ∀ m, bsum (n + 1) a (m + 1) = bsum n a (m + 1) + a * bsum n a m
  | 0 => by
    have e : ∀ m, binom m 0 = 1 := fun m => by cases m <;> rfl
    simp [bsum, e]
  | m + 1 => by
    have ih := bsum_step n a m
    show bsum (n + 1) a (m + 1) + (binom n m + binom n (m + 1)) * a ^ (m + 1) = (bsum n a (m + 1) + binom n (m + 1) * a ^ (m + 1)) + a * (bsum n a m + binom n m * a ^ m)
    rw [ih, Nat.add_mul, Nat.mul_add, show a * (binom n m * a ^ m) = binom n m * a ^ (m + 1) by rw [Nat.pow_succ, Nat.mul_left_comm, Nat.mul_comm a]]
    omega
theorem bsum_all (a : Nat) : ∀ n, bsum n a (n + 1) = (a + 1) ^ n
  | 0 => by simp [bsum, binom]
  | n + 1 => by
    rw [bsum_step]
    have h : bsum n a (n + 1 + 1) = bsum n a (n + 1) := by
      show bsum n a (n + 1) + binom n (n + 1) * a ^ (n + 1) = _
      rw [binom_gt n (n + 1) (by omega)]; omega
    rw [h, bsum_all a n, Nat.pow_succ, Nat.mul_add, Nat.mul_one, Nat.mul_comm a]
    omega
theorem binom_q (e : Nat) (he : e + 1 = 1073741789) (k : Nat) (h : k < e) : binom (e + 1) (k + 1) % 1073741789 = 0 := by
  have h1 := binom_absorb e k
  have h2 : ((k + 1) * binom (e + 1) (k + 1)) % 1073741789 = 0 := by rw [h1, he]; exact Nat.mul_mod_right _ _
  rcases nat_euclid _ _ h2 with h3 | h3
  · omega
  · exact h3
theorem bsum_q (e : Nat) (he : e + 1 = 1073741789) (a : Nat) : ∀ m, m ≤ e → bsum (e + 1) a (m + 1) % 1073741789 = 1
  | 0, _ => by
    show (0 + binom (e + 1) 0 * a ^ 0) % 1073741789 = 1
    rw [show binom (e + 1) 0 = 1 from rfl, Nat.pow_zero]
  | m + 1, h => by
    have ih := bsum_q e he a m (by omega)
    show (bsum (e + 1) a (m + 1) + binom (e + 1) (m + 1) * a ^ (m + 1)) % 1073741789 = 1
    rw [Nat.add_mod, ih, Nat.mul_mod, binom_q e he m (by omega), Nat.zero_mul]
theorem fermat_nat (e : Nat) (he : e + 1 = 1073741789) : ∀ a : Nat, a ^ (e + 1) % 1073741789 = a % 1073741789
  | 0 => by rw [Nat.zero_pow (by omega)]
  | a + 1 => by
    have ih := fermat_nat e he a
    have h1 := bsum_all a (e + 1)
    have h2 := bsum_q e he a e (Nat.le_refl _)
    have h3 : bsum (e + 1) a (e + 1 + 1) = bsum (e + 1) a (e + 1) + binom (e + 1) (e + 1) * a ^ (e + 1) := rfl
    rw [binom_self, Nat.one_mul] at h3
    have h4 : (a + 1) ^ (e + 1) = bsum (e + 1) a (e + 1) + a ^ (e + 1) := by rw [← h3, h1]
    rw [h4, Nat.add_mod, h2, ih]
    omega
theorem fermat (e : Nat) (he : e + 1 = 1073741789) (a : Int) : md (a ^ (e + 1)) = md a := by
  obtain ⟨n, hlt, hn⟩ := md_toNat a
  rw [← md_pow, hn, ← Int.natCast_pow, md_nat, fermat_nat e he]
  omega
theorem fermat_one (e : Nat) (he : e + 1 = 1073741789) (a : Int) (h : md a ≠ 0) : md (a ^ e) = 1 := by
  have h1 := fermat e he a
  rw [Int.pow_succ] at h1
  have h2 : md (a * (a ^ e - 1)) = 0 := by
    rw [Int.mul_sub, Int.mul_one, Int.mul_comm]
    unfold md at *
    omega
  rcases euclid _ _ h2 with h3 | h3
  · exact absurd h3 h
  · unfold md at *; omega
/-- The inverse is one. -/
theorem inv_mul (a : Int) (h : md a ≠ 0) : md (a * inv a) = 1 := by
  show md (a * md (a ^ 1073741787)) = 1
  rw [md_mul_r, Int.mul_comm, ← Int.pow_succ]
  exact fermat_one (1073741787 + 1) rfl a h
theorem inv_range (a : Int) : 0 ≤ inv a ∧ inv a ≤ 1073741788 := pwr_range _ _
theorem inv_md (a : Int) : inv (md a) = inv a := md_pow a _
theorem inv_mul_inv (a b : Int) : md (inv a * inv b) = inv (a * b) := by
  show md (md (a ^ _) * md (b ^ _)) = md ((a * b) ^ _)
  rw [md_mul, md_mul_r, Int.mul_pow]
theorem inv_zero (a : Int) (h : md a = 0) : inv a = 0 := by
  rw [← inv_md, h]
  show md (0 ^ (1073741786 + 1)) = 0
  rw [Int.pow_succ, Int.mul_zero]; rfl
theorem inv_unique (a b : Int) (h : md (a * b) = 1) : inv a = md b := by
  have ha : md a ≠ 0 := fun e => by rw [← md_mul, e, Int.zero_mul] at h; exact absurd h (by decide)
  have h1 := inv_mul a ha
  have h2 : md (a * (inv a - b)) = 0 := by rw [Int.mul_sub]; unfold md at *; omega
  rcases euclid _ _ h2 with h3 | h3
  · exact absurd h3 ha
  · have := inv_range a
    unfold md at *; omega
end Go.Proofs.Ytapbfhmmgkjdnaa
