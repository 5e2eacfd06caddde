/-
  Layer 6, in plain Lean: a lost packet leaves what a delivered one leaves.
-/
import Derived.Test.YtgcobbhbfkjkeaaP2
namespace Go.Proofs.Ytgcobbhbfkjkeaa
set_option linter.unusedVariables false
set_option linter.unusedSimpArgs false
set_option maxRecDepth 100000
theorem okN_iff (x : S_Net) : okN x = true ↔ x.Queue.length ≤ 4096 ∧ (∀ p ∈ x.Queue, okP p = true) ∧ okAp none x.Apart = true := by
  unfold okN
  simp only [Bool.and_eq_true, decide_eq_true_eq, List.all_eq_true, and_assoc]
theorem okN_without {x : S_Net} (h : okN x = true) (k : Nat) : okN (without x k) = true := by
  rw [okN_iff] at h ⊢
  obtain ⟨h1, h2, h3⟩ := h
  refine ⟨?_, fun p hp => ?_, h3⟩
  · unfold without; simp; omega
  · unfold without at hp
    rcases List.mem_append.1 hp with hp | hp
    · exact h2 p (List.mem_of_mem_take hp)
    · exact h2 p (List.mem_of_mem_drop hp)
theorem okN_more {x : S_Net} (h : okN x = true) {p : S_Packet} (hp : okP p = true) (hl : x.Queue.length ≤ 4095) : okN (S_Net.mk (x.Queue ++ [p]) x.Apart) = true := by
  rw [okN_iff] at h ⊢
  obtain ⟨h1, h2, h3⟩ := h
  refine ⟨by simp; omega, fun q hq => ?_, h3⟩
  rcases List.mem_append.1 hq with hq | hq
  · exact h2 q hq
  · have : q = p := by simpa using hq
    rw [this]; exact hp
theorem atR_at {x : S_Net} (h : okN x = true) {k : Nat} (hk : k < x.Queue.length) : atR x (k : Int) = (x.Queue[k], 0) := by
  unfold atR
  rw [if_pos h, if_pos (by omega), Int.toNat_natCast, List.getElem?_eq_getElem hk]
theorem wrU64 {n : Int} (h : 0 ≤ n) (h' : n ≤ 18446744073709551615) : wr .u64 n = n := by
  simp only [wr, IntKind.wrap, IntKind.bits, IntKind.signed]
  simp
  omega
end Go.Proofs.Ytgcobbhbfkjkeaa
