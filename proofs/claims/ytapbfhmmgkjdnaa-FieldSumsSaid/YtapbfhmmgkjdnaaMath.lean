/-
  Plain arithmetic modulo the prime of layer 9: what Mod, Add, Mul and Inverse compute. No program in sight.
-/
import Derived.RowKit
namespace Go.Proofs.Ytapbfhmmgkjdnaa
def md (n : Int) : Int := n % 1073741789
def ad (a b : Int) : Int := (md a + md b) % 1073741789
def mu (a b : Int) : Int := (md a * md b) % 1073741789
/-- a to the power e, modulo Q. -/
def pwr (a : Int) (e : Nat) : Int := md (a ^ e)
def inv (a : Int) : Int := pwr a 1073741787

theorem md_range (n : Int) : 0 ≤ md n ∧ md n ≤ 1073741788 := by unfold md; omega
theorem ad_range (a b : Int) : 0 ≤ ad a b ∧ ad a b ≤ 1073741788 := by unfold ad; omega
theorem mu_range (a b : Int) : 0 ≤ mu a b ∧ mu a b ≤ 1073741788 := by unfold mu; omega
theorem pwr_range (a : Int) (e : Nat) : 0 ≤ pwr a e ∧ pwr a e ≤ 1073741788 := md_range _
theorem md_tmod (n : Int) : (0 ≤ n.tmod 1073741789 → n.tmod 1073741789 = md n) ∧ (n.tmod 1073741789 < 0 → n.tmod 1073741789 + 1073741789 = md n) ∧ -1073741788 ≤ n.tmod 1073741789 ∧ n.tmod 1073741789 ≤ 1073741788 := by
  unfold md
  rw [Int.tmod_eq_emod]
  split <;> rename_i h
  · omega
  · have h3 : n % 1073741789 ≠ 0 := fun e => h (.inr (Int.dvd_of_emod_eq_zero e))
    omega
theorem md_id {n : Int} (h : 0 ≤ n) (h2 : n ≤ 1073741788) : md n = n := by unfold md; omega
theorem md_md (n : Int) : md (md n) = md n := by unfold md; omega
theorem mul_range (a b : Int) : 0 ≤ md a * md b ∧ md a * md b ≤ 1152921427343718944 := by
  have ha := md_range a; have hb := md_range b
  refine ⟨Int.mul_nonneg ha.1 hb.1, ?_⟩
  have := Int.mul_le_mul ha.2 hb.2 hb.1 (by omega)
  omega
theorem md_mul (a b : Int) : md (md a * b) = md (a * b) := by unfold md; rw [Int.mul_emod, Int.emod_emod_of_dvd _ (Int.dvd_refl _), ← Int.mul_emod]
theorem md_mul_r (a b : Int) : md (a * md b) = md (a * b) := by rw [Int.mul_comm, md_mul, Int.mul_comm]
theorem mu_eq (a b : Int) : mu a b = md (a * b) := by
  show md (md a * md b) = _
  rw [md_mul, md_mul_r]
theorem ad_eq (a b : Int) : ad a b = md (a + b) := by unfold ad md; omega
theorem md_add (a b : Int) : md (md a + b) = md (a + b) := by unfold md; omega
theorem md_add_r (a b : Int) : md (a + md b) = md (a + b) := by unfold md; omega
theorem md_pow (a : Int) (e : Nat) : md (md a ^ e) = md (a ^ e) := by
  induction e with
  | zero => rw [Int.pow_zero, Int.pow_zero]
  | succ e ih => rw [Int.pow_succ, Int.pow_succ, md_mul_r, ← md_mul, ih, md_mul]

/-- One round of the powers' loops: the number that x times a to the n stands for does not change. -/
theorem pow_odd (x a : Int) (n : Nat) (h : n % 2 = 1) : md (mu x a * (mu a a) ^ (n / 2)) = md (x * a ^ n) := by
  rw [mu_eq, mu_eq, md_mul, ← md_mul_r, md_pow, md_mul_r]
  have : n = 2 * (n / 2) + 1 := by omega
  conv => rhs; rw [this]
  rw [Int.pow_succ, Int.pow_mul, Int.mul_assoc, Int.mul_comm a, show a ^ 2 = a * a from by rw [Int.pow_succ, Int.pow_succ, Int.pow_zero, Int.one_mul]]
theorem pow_even (x a : Int) (n : Nat) (h : n % 2 = 0) : md (x * (mu a a) ^ (n / 2)) = md (x * a ^ n) := by
  rw [mu_eq, ← md_mul_r, md_pow, md_mul_r]
  have : n = 2 * (n / 2) := by omega
  conv => rhs; rw [this]
  rw [Int.pow_mul, show a ^ 2 = a * a from by rw [Int.pow_succ, Int.pow_succ, Int.pow_zero, Int.one_mul]]
end Go.Proofs.Ytapbfhmmgkjdnaa
