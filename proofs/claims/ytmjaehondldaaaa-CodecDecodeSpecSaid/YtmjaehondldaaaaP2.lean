/-
 Layer 01, in plain Lean: numerals.
-/
import Derived.Test.YtmjaehondldaaaaP1
namespace Go.Proofs.Ytmjaehondldaaaa
set_option linter.unusedVariables false
set_option linter.unusedSimpArgs false
set_option maxRecDepth 100000
set_option maxHeartbeats 4000000
theorem lim : limit = 140737488355328 := by kernel_rfl
theorem appI_some {T : Type} (b : Nat) (l l2 : List T) (h : (l.length + l2.length) * b <= limit) : appI b l l2 = some (l ++ l2) := by unfold appI; rw [decide_eq_true h]; rfl
theorem app1 (l l2 : List UInt8) (h : l.length + l2.length <= 140737488355328) : appI 1 l l2 = some (l ++ l2) := appI_some _ _ _ (by rw [lim]; omega)
def num (n : Nat) : List UInt8 := if h : n < 128 then [UInt8.ofNat n] else UInt8.ofNat (n % 128 + 128) :: num (n / 128)
termination_by n
decreasing_by omega
theorem num_lt {n : Nat} (h : n < 128) : num n = [UInt8.ofNat n] := by rw [num]; exact dif_pos h
theorem num_ge {n : Nat} (h : ¬ n < 128) : num n = UInt8.ofNat (n % 128 + 128) :: num (n / 128) := by rw [num]; exact dif_neg h
theorem num_len : ∀ (k n : Nat), n < 128 ^ k -> (num n).length <= max k 1
 | 0, n, h => by rw [num_lt (by simpa using Nat.lt_of_lt_of_le h (by decide))]; simp
 | k + 1, n, h => by
  by_cases h1 : n < 128
  ·rw [num_lt h1]; simp
  ·rw [num_ge h1, List.length_cons]
   have hk : 0 < k := by
    rcases Nat.eq_zero_or_pos k with rfl | hk
    ·simp at h; omega
    ·exact hk
   have := num_len k (n / 128) (by rw [Nat.div_lt_iff_lt_mul (by decide)]; rw [Nat.pow_succ] at h; exact h)
   omega
theorem num_10 {n : Nat} (h : n < 18446744073709551616) : (num n).length <= 10 := num_len 10 n (Nat.lt_of_lt_of_le h (by decide))
theorem wr8n (n : Nat) : wr .u8 (n : Int) = ((n % 256 : Nat) : Int) := by
 unfold wr IntKind.wrap
 simp [IntKind.bits, IntKind.signed]
theorem u8y {y : Nat} (h : y < 128) : wr .u8 (y : Int) = (y : Int) := by rw [wr8n, Nat.mod_eq_of_lt (by omega)]
theorem r42 : ∀ (k q n : Nat), n < 128 ^ k -> k <= 11 -> k < q -> n < 18446744073709551616 -> R42 q (n : Int) = some (num n)
 | 0, q, n, h, _, hq, hn => by
  obtain ⟨q, rfl⟩ : ∃ p, q = p + 1 := ⟨q - 1, by omega⟩
  have h : n < 1 := h
  show F42 (R42 q) fuel0 _ = _
  unfold F42
  rw [decide_eq_true (by omega), u8y (by omega), decide_eq_true (by omega), decide_eq_true (by omega), num_lt (by omega)]
  rfl
 | k + 1, q, n, h, hk, hq, hn => by
  obtain ⟨q, rfl⟩ : ∃ p, q = p + 1 := ⟨q - 1, by omega⟩
  show F42 (R42 q) fuel0 _ = _
  unfold F42
  by_cases h1 : n < 128
  ·rw [decide_eq_true (by omega), u8y h1, decide_eq_true (by omega), decide_eq_true (by omega), num_lt h1]
   rfl
  ·have hk0 : 0 < k := by
    rcases Nat.eq_zero_or_pos k with rfl | hk
    ·simp at h; omega
    ·exact hk
   have hq2 : n / 128 < 128 ^ k := by rw [Nat.div_lt_iff_lt_mul (by decide)]; rw [Nat.pow_succ] at h; exact h
   have e1 : Int.tmod (n : Int) 128 = ((n % 128 : Nat) : Int) := rfl
   have e2 : Int.tdiv (n : Int) 128 = ((n / 128 : Nat) : Int) := rfl
   have wu : ∀ z : Nat, z < 18446744073709551616 -> wr .u64 (z : Int) = (z : Int) := fun z hz => by
    unfold wr IntKind.wrap
    simp [IntKind.bits, IntKind.signed]
    omega
   rw [decide_eq_false (by omega)]
   simp only [cond_false]
   rw [e1, e2, show ((n % 128 : Nat) : Int) + 128 = ((n % 128 + 128 : Nat) : Int) by omega, wu _ (by omega), wu _ (by omega), wr8n (n % 128 + 128), Nat.mod_eq_of_lt (show n % 128 + 128 < 256 by omega), decide_eq_true (by omega), decide_eq_true (by omega), Int.toNat_natCast]
   simp only [cond_true, cond_false, Bool.and_self]
   rw [r42 k q (n / 128) hq2 (by omega) (by omega) (by omega), Option.bind_some, app1 _ _ (by have := num_10 (n := n / 128) (by omega); simp; omega), num_ge h1]
   rfl
theorem g42 (n : Nat) (h : n < 18446744073709551616) : G42 (n : Int) = some (num n) := r42 10 fuel0 n (Nat.lt_of_lt_of_le h (by decide)) (by omega) (by rw [fu]; omega) h
def zig (n : Int) : Nat := if 0 <= n then (2 * n).toNat else (-2 * n - 1).toNat
theorem wu64 (z : Int) : wr .u64 z = z % 18446744073709551616 := by
 unfold wr IntKind.wrap
 simp [IntKind.bits, IntKind.signed]
theorem zig_lt {n : Int} (h : In64 n) : zig n < 18446744073709551616 := by
 obtain ⟨h1, h2⟩ := h
 unfold zig; split <;> omega
theorem g43 (n : Int) (h : In64 n) : G43 n = some (zig n : Int) := by
 obtain ⟨h1, h2⟩ := h
 unfold G43 F43 zig
 by_cases h0 : 0 <= n
 ·rw [decide_eq_true h0, if_pos h0]
  simp only [cond_true, wu64]
  congr 1; omega
 ·rw [decide_eq_false h0, if_neg h0, wr64 (n := n + 1) (by omega) (by omega), wr64 (n := 0 - (n + 1)) (by omega) (by omega)]
  simp only [cond_false, wu64]
  congr 1; omega
theorem xor_zero (a : Int) (h : 0 <= a) (h' : a < 18446744073709551616) : xorI .u64 a 0 = a := by
 unfold xorI
 show IntKind.wrap .u64 ((BitVec.ofInt 64 a ^^^ BitVec.ofInt 64 0).toNat : Int) = a
 rw [show BitVec.ofInt 64 0 = 0#64 from rfl, BitVec.xor_zero]
 have := wu64 ((BitVec.ofInt 64 a).toNat : Int)
 unfold wr at this
 rw [this, BitVec.toNat_ofInt]
 omega
end Go.Proofs.Ytmjaehondldaaaa
