/-
 Layer 01, in plain Lean: numerals.
-/
import Derived.Test.YtmjaehondldaaaaP1
namespace Go.Proofs.Ytmjaehondldaaaa
set_option linter.unusedVariables false
set_option linter.unusedSimpArgs false
set_option maxRecDepth 100000
set_option maxHeartbeats 4000000
theorem lim : limit = 140737488355328 := by kernel_rfl
theorem appI_some {T : Type} (b : Nat) (l l2 : List T) (h : (l.length + l2.length) * b <= limit) : appI b l l2 = some (l ++ l2) := by unfold appI; rw [decide_eq_true h]; rfl
theorem app1 (l l2 : List UInt8) (h : l.length + l2.length <= 140737488355328) : appI 1 l l2 = some (l ++ l2) := appI_some _ _ _ (by rw [lim]; omega)
def num (n : Nat) : List UInt8 := if h : n < 128 then [UInt8.ofNat n] else UInt8.ofNat (n % 128 + 128) :: num (n / 128)
termination_by n
decreasing_by omega
theorem num_lt {n : Nat} (h : n < 128) : num n = [UInt8.ofNat n] := by rw [num]; exact dif_pos h
theorem num_ge {n : Nat} (h : ¬ n < 128) : num n = UInt8.ofNat (n % 128 + 128) :: num (n / 128) := by rw [num]; exact dif_neg h
theorem num_len : ∀ (k n : Nat), n < 128 ^ k -> (num n).length <= max k 1
 | 0, n, h => by rw [num_lt (by simpa using Nat.lt_of_lt_of_le h (by decide))]; simp
 | k + 1, n, h => by
  by_cases h1 : n < 128
  ·rw [num_lt h1]; simp
  ·rw [num_ge h1, List.length_cons]
   have hk : 0 < k := by
    rcases Nat.eq_zero_or_pos k with rfl | hk
    ·simp at h; omega
    ·exact hk
   have := num_len k (n / 128) (by rw [Nat.div_lt_iff_lt_mul (by decide)]; rw [Nat.pow_succ] at h; exact h)
   omega
theorem num_10 {n : Nat} (h : n < 18446744073709551616) : (num n).length <= 10 := num_len 10 n (Nat.lt_of_lt_of_le h (by decide))
theorem wr8n (n : Nat) : wr .u8 (n : Int) = ((n % 256 : Nat) : Int) := by
 unfold wr IntKind.wrap
 simp [IntKind.bits, IntKind.signed]
theorem or128 : ∀ c : Fin 256, orI .u8 (c.val : Int) 128 = ((c.val % 128 + 128 : Nat) : Int) := by decide +kernel
theorem or128n (n : Nat) : orI .u8 (wr .u8 (n : Int)) 128 = ((n % 128 + 128 : Nat) : Int) := by
 rw [wr8n]
 have := or128 ⟨n % 256, Nat.mod_lt _ (by decide)⟩
 rw [this]
 simp only
 congr 2
 omega
theorem shr7 (n : Nat) : shrI .u64 (n : Int) 7 = ((n / 128 : Nat) : Int) := by
 unfold shrI
 show Int.fdiv (n : Int) (2 ^ 7) = _
 rw [Int.fdiv_eq_ediv_of_nonneg _ (by decide)]
 rfl
theorem numloop (G : Nat -> Int -> List UInt8 -> Option (Int × List UInt8)) (hG : ∀ m v l, G (m + 1) v l = bif decide (128 <= v) then (bif (decide (0 <= (orI .u8 (wr .u8 (v)) 128)) && decide ((orI .u8 (wr .u8 (v)) 128) < 256)) then (Option.bind (appI 1 l ([(UInt8.ofNat (Int.toNat (orI .u8 (wr .u8 (v)) 128)))])) fun y => G m (shrI .u64 v 7) y) else none) else some (v, l)) :
  ∀ (k m n : Nat) (l : List UInt8), n < 128 ^ k -> k <= 11 -> k < m -> l.length + k <= 140737488355328 -> ∃ (y : Nat) (ini : List UInt8), y < 128 /\ G m (n : Int) l = some ((y : Int), l ++ ini) /\ num n = ini ++ [UInt8.ofNat y]
 | 0, m, n, l, h, _, hm, hl => by
  obtain ⟨m, rfl⟩ : ∃ q, m = q + 1 := ⟨m - 1, by omega⟩
  have h : n < 1 := h
  exact ⟨n, [], by omega, by rw [hG, decide_eq_false (by omega), List.append_nil]; rfl, by rw [num_lt (by omega)]; rfl⟩
 | k + 1, m, n, l, h, hk, hm, hl => by
  obtain ⟨m, rfl⟩ : ∃ q, m = q + 1 := ⟨m - 1, by omega⟩
  by_cases h1 : n < 128
  ·exact ⟨n, [], h1, by rw [hG, decide_eq_false (by omega), List.append_nil]; rfl, by rw [num_lt h1]; rfl⟩
  ·have hq : n / 128 < 128 ^ k := by rw [Nat.div_lt_iff_lt_mul (by decide)]; rw [Nat.pow_succ] at h; exact h
   rw [hG, decide_eq_true (by omega), or128n, decide_eq_true (by omega), decide_eq_true (by omega), shr7, Int.toNat_natCast]
   simp only [cond_true, Bool.and_self]
   rw [app1 _ _ (by simp; omega), Option.bind_some]
   obtain ⟨y, ini, h2, h3, h4⟩ := numloop G hG k m (n / 128) (l ++ [UInt8.ofNat (n % 128 + 128)]) hq (by omega) (by omega) (by simp; omega)
   exact ⟨y, UInt8.ofNat (n % 128 + 128) :: ini, h2, by rw [h3, List.append_assoc]; rfl, by rw [num_ge h1, h4]; rfl⟩
theorem u8y {y : Nat} (h : y < 128) : wr .u8 (y : Int) = (y : Int) := by rw [wr8n, Nat.mod_eq_of_lt (by omega)]
def zig (n : Int) : Nat := if 0 <= n then (2 * n).toNat else (-2 * n - 1).toNat
theorem wu64 (z : Int) : wr .u64 z = z % 18446744073709551616 := by
 unfold wr IntKind.wrap
 simp [IntKind.bits, IntKind.signed]
theorem zig_lt {n : Int} (h : In64 n) : zig n < 18446744073709551616 := by
 obtain ⟨h1, h2⟩ := h
 unfold zig; split <;> omega
theorem xor_zero (a : Int) (h : 0 <= a) (h' : a < 18446744073709551616) : xorI .u64 a 0 = a := by
 unfold xorI
 show IntKind.wrap .u64 ((BitVec.ofInt 64 a ^^^ BitVec.ofInt 64 0).toNat : Int) = a
 rw [show BitVec.ofInt 64 0 = 0#64 from rfl, BitVec.xor_zero]
 have := wu64 ((BitVec.ofInt 64 a).toNat : Int)
 unfold wr at this
 rw [this, BitVec.toNat_ofInt]
 omega
theorem xor_ones (a : Int) (h : 0 <= a) (h' : a < 18446744073709551616) : xorI .u64 a 18446744073709551615 = 18446744073709551615 - a := by
 unfold xorI
 show IntKind.wrap .u64 ((BitVec.ofInt 64 a ^^^ BitVec.ofInt 64 18446744073709551615).toNat : Int) = _
 rw [show BitVec.ofInt 64 18446744073709551615 = BitVec.allOnes 64 from rfl, BitVec.xor_allOnes, BitVec.toNat_not]
 have := wu64 (((2 ^ 64 - 1 - (BitVec.ofInt 64 a).toNat : Nat)) : Int)
 unfold wr at this
 rw [this, BitVec.toNat_ofInt]
 omega
theorem g39 (n : Int) (h : In64 n) : G39 n = some (zig n : Int) := by
 obtain ⟨h1, h2⟩ := h
 unfold G39 F39
 have e1 : shlI .u64 (wr .u64 n) 1 = (2 * n) % 18446744073709551616 := by
  unfold shlI
  have := wu64 (wr .u64 n * 2 ^ 1)
  unfold wr at this ⊢
  show IntKind.wrap .u64 (IntKind.wrap .u64 n * 2 ^ 1) = _
  rw [this]
  have h4 := wu64 n
  unfold wr at h4
  rw [h4]; omega
 have e2 : shrI .i64 n 63 = n / 9223372036854775808 := by
  unfold shrI
  show Int.fdiv n (2 ^ 63) = _
  rw [Int.fdiv_eq_ediv_of_nonneg _ (by decide)]
  rfl
 rw [e1, e2]
 congr 1
 unfold zig
 by_cases h0 : 0 <= n
 ·rw [if_pos h0, show n / 9223372036854775808 = 0 by omega, show wr .u64 0 = 0 from rfl, xor_zero _ (by omega) (by omega)]; omega
 ·rw [if_neg h0, show n / 9223372036854775808 = -1 by omega, show wr .u64 (-1) = 18446744073709551615 from rfl, xor_ones _ (by omega) (by omega)]; omega
end Go.Proofs.Ytmjaehondldaaaa
