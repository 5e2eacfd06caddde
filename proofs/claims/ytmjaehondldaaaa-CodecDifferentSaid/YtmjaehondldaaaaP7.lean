/-
 Layer 01, in plain Lean: a number that is read.
-/
import Derived.Test.YtmjaehondldaaaaP6
namespace Go.Proofs.Ytmjaehondldaaaa
set_option linter.unusedVariables false
set_option linter.unusedSimpArgs false
set_option maxRecDepth 100000
set_option maxHeartbeats 4000000
def getN : Nat -> List UInt8 -> Option (Nat × List UInt8)
 | _, [] => none
 | c, b :: r => if (0 < c /\ b.toNat = 0) ∨ (9 <= c /\ 1 < b.toNat) then none else if b.toNat < 128 then some (b.toNat, r) else match getN (c + 1) r with
  | some (n, t) => some (b.toNat - 128 + 128 * n, t)
  | none => none
theorem pw (c : Nat) : 2 ^ (7 * (c + 1)) = 128 * 2 ^ (7 * c) := by rw [Nat.mul_add, Nat.pow_add]; omega
theorem u8n {n : Nat} (h : n < 256) : (UInt8.ofNat n).toNat = n := by simp; omega
theorem getN_num : ∀ (k n c : Nat) (t : List UInt8), n < 128 ^ k -> c <= 9 -> 2 ^ (7 * c) * n < 18446744073709551616 -> (0 < c -> n ≠ 0) -> getN c (num n ++ t) = some (n, t)
 | 0, n, c, t, h1, h2, h3, h4 => by
  have h1 : n < 1 := h1
  have h5 : c = 0 := by
   rcases Nat.eq_zero_or_pos c with h | h
   ·exact h
   ·have := h4 h; omega
  subst h5
  rw [num_lt (by omega), List.singleton_append, getN, u8n (by omega), if_neg (by omega), if_pos (by omega)]
 | k + 1, n, c, t, h1, h2, h3, h4 => by
  have h9 : c = 9 -> n <= 1 := by
   intro h
   subst h
   have : 2 ^ (7 * 9) = 9223372036854775808 := by decide
   omega
  by_cases hn : n < 128
  ·rw [num_lt hn, List.singleton_append, getN, u8n (by omega), if_neg (by
    rintro (⟨h5, h6⟩ | ⟨h5, h6⟩)
    ·exact h4 h5 h6
    ·have := h9 (by omega); omega), if_pos hn]
  ·have h5 : c ≠ 9 := fun h => by have := h9 h; omega
   have h6 : n / 128 < 128 ^ k := by rw [Nat.div_lt_iff_lt_mul (by decide)]; rw [Nat.pow_succ] at h1; exact h1
   have h7 : 2 ^ (7 * (c + 1)) * (n / 128) <= 2 ^ (7 * c) * n := by
    rw [pw, Nat.mul_comm 128, Nat.mul_assoc]
    exact Nat.mul_le_mul_left _ (by omega)
   rw [num_ge hn, List.cons_append, getN, u8n (by omega), if_neg (by omega), if_neg (by omega), getN_num k (n / 128) (c + 1) t h6 (by omega) (by omega) (by omega)]
   simp only
   congr 2
   omega
theorem getN_big {n : Nat} {t : List UInt8} (h : n < 18446744073709551616) : getN 0 (num n ++ t) = some (n, t) := getN_num 10 n 0 t (p10 h) (by omega) (by omega) (by omega)
end Go.Proofs.Ytmjaehondldaaaa
