/-
  Layer 6, in plain Lean: a lost packet leaves what a delivered one leaves.
-/
import Derived.Test.YtgcobbhbfkjkeaaP2
namespace Go.Proofs.Ytgcobbhbfkjkeaa
set_option linter.unusedVariables false
set_option linter.unusedSimpArgs false
set_option maxRecDepth 100000
theorem okN_iff (x : S_Net) : okN x = true ↔ x.Queue.length ≤ 4096 ∧ (∀ p ∈ x.Queue, okP p = true) ∧ okAp none x.Apart = true := by
  unfold okN
  simp only [Bool.and_eq_true, decide_eq_true_eq, List.all_eq_true, and_assoc]
theorem okN_without {x : S_Net} (h : okN x = true) (k : Nat) : okN (without x k) = true := by
  rw [okN_iff] at h ⊢
  obtain ⟨h1, h2, h3⟩ := h
  refine ⟨?_, fun p hp => ?_, h3⟩
  · unfold without; simp; omega
  · unfold without at hp
    rcases List.mem_append.1 hp with hp | hp
    · exact h2 p (List.mem_of_mem_take hp)
    · exact h2 p (List.mem_of_mem_drop hp)
theorem okN_more {x : S_Net} (h : okN x = true) {p : S_Packet} (hp : okP p = true) (hl : x.Queue.length ≤ 4095) : okN (S_Net.mk (x.Queue ++ [p]) x.Apart) = true := by
  rw [okN_iff] at h ⊢
  obtain ⟨h1, h2, h3⟩ := h
  refine ⟨by simp; omega, fun q hq => ?_, h3⟩
  rcases List.mem_append.1 hq with hq | hq
  · exact h2 q hq
  · have : q = p := by simpa using hq
    rw [this]; exact hp
theorem atR_at {x : S_Net} (h : okN x = true) {k : Nat} (hk : k < x.Queue.length) : atR x (k : Int) = (x.Queue[k], 0) := by
  unfold atR
  rw [if_pos h, if_pos (by omega), Int.toNat_natCast, List.getElem?_eq_getElem hk]
theorem wrU64 {n : Int} (h : 0 ≤ n) (h' : n ≤ 18446744073709551615) : wr .u64 n = n := by
  simp only [wr, IntKind.wrap, IntKind.bits, IntKind.signed]
  simp
  omega
theorem pure8 : Pure8 := by
  intro x a hx ha
  unfold G8 F8
  rw [sane9, Option.bind_some, g10]
  by_cases h1 : x.Queue.length ≤ 40
  · by_cases h2 : x.Apart.length ≤ 40
    · have hA : x.Apart.length ≤ fuel0 := Nat.le_trans h2 (by decide)
      have hfu : fuel0 = 4611686018427387904 := rfl
      rw [decide_eq_true h1, decide_eq_true h2, g13 x hA]
      cases hok : okN x with
      | false => simp
      | true =>
        cases hq : x.Queue with
        | nil => simp
        | cons p0 r0 =>
          have hlen : 0 < x.Queue.length := by rw [hq]; simp
          rw [← hq]
          have hne : ((x.Queue.length : Int) == 0) = false := by rw [beq_eq_false_iff_ne]; omega
          have hwr : wr .u64 (x.Queue.length : Int) = x.Queue.length := wrU64 (by omega) (by omega)
          obtain ⟨k, hk1, hk2⟩ : ∃ k : Nat, k < x.Queue.length ∧ wr .i64 (Int.tmod a (x.Queue.length : Int)) = (k : Int) := by
            have hm0 : 0 ≤ Int.tmod a (x.Queue.length : Int) := Int.tmod_nonneg _ ha.1
            have hm1 : Int.tmod a (x.Queue.length : Int) < x.Queue.length := Int.tmod_lt_of_pos _ (by omega)
            refine ⟨(Int.tmod a (x.Queue.length : Int)).toNat, by omega, ?_⟩
            rw [wr64 (by omega) (by omega)]; omega
          have hd : decide ((x.Queue.length : Int) ≠ 0) = true := decide_eq_true (by omega)
          have hp : okP x.Queue[k] = true := ((okN_iff x).1 hok).2.1 _ (List.getElem_mem hk1)
          have hc := okN_more hok hp (by omega)
          have hw := okN_without hok k
          have hat := atR_at hok hk1
          have hrep : repR x (k : Int) = (S_Net.mk (x.Queue ++ [x.Queue[k]]) x.Apart, 0) := by
            unfold repR sendR; rw [hat]; simp [hok, hp]
          have hlose : loseR x (k : Int) = (without x k, 0) := by
            unfold loseR; rw [hat]; simp
          have hat2 := atR_at hc (k := k) (by simp; omega)
          have hlose2 : loseR (S_Net.mk (x.Queue ++ [x.Queue[k]]) x.Apart) (k : Int) = (without (S_Net.mk (x.Queue ++ [x.Queue[k]]) x.Apart) k, 0) := by
            unfold loseR; rw [hat2]; simp
          have hsend : sendR (without x k) x.Queue[k] = (S_Net.mk ((without x k).Queue ++ [x.Queue[k]]) x.Apart, 0) := by
            unfold sendR; simp [hw, hp]; rfl
          have hwq : (without x k).Queue.length ≤ 4095 := by unfold without; simp; omega
          have heq : without (S_Net.mk (x.Queue ++ [x.Queue[k]]) x.Apart) k = S_Net.mk ((without x k).Queue ++ [x.Queue[k]]) x.Apart := by
            unfold without
            simp only
            rw [List.take_append_of_le_length (by omega), List.drop_append_of_le_length (by omega), List.append_assoc]
          have hget : getI x.Queue (k : Int) = some x.Queue[k] := by rw [getI_nat]; exact List.getElem?_eq_getElem hk1
          have hw1 : wr .i64 ((x.Queue.length : Int) + 1) = (x.Queue.length : Int) + 1 := wr64 (by omega) (by omega)
          have hr1 : G15 (without x k) (without x k) = some true := g15r _ (by rw [fu]; omega) hA
          have hr2 : G15 (S_Net.mk ((without x k).Queue ++ [x.Queue[k]]) x.Apart) (S_Net.mk ((without x k).Queue ++ [x.Queue[k]]) x.Apart) = some true := g15r _ (by rw [fu]; simp; omega) hA
          have hdel : (delR x (k : Int)).2 = (without x k, 0) := by unfold delR; rw [hat]; simp
          have hA2 : (S_Net.mk (x.Queue ++ [x.Queue[k]]) x.Apart).Apart.length ≤ fuel0 := hA
          have hA3 : (without x k).Apart.length ≤ fuel0 := hA
          simp only [hwr, hk2, hne, hd, g18 x _ hA, g23 x _ hA, g25 x _ (by omega : x.Queue.length ≤ 4095) hA, Option.bind_some, hrep, hlose, hget, g23 _ _ hA2, hlose2, g11 _ _ hwq hA3, hsend, hdel, hr1, heq, hr2, hw1, Bool.not_true, cond_false, cond_true, Bool.and_self, if_true, bne_self_eq_false, beq_self_eq_true, List.length_append, List.length_cons, List.length_nil, Nat.zero_add]
          simp
    · rw [decide_eq_false h2]; simp
  · rw [decide_eq_false h1]; simp
end Go.Proofs.Ytgcobbhbfkjkeaa
