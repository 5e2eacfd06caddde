/-
  Layer 6, in plain Lean: moves agree; without losses all is delivered.
-/
import Derived.Test.YtgcobbhbfkjkeaaP5
namespace Go.Proofs.Ytgcobbhbfkjkeaa
set_option linter.unusedVariables false
set_option linter.unusedSimpArgs false
set_option maxRecDepth 100000
def small (x : S_Net) : Prop := x.Queue.length ≤ 5000 ∧ x.Apart.length ≤ 5000
theorem small_f {x : S_Net} (h : small x) : x.Queue.length ≤ fuel0 ∧ x.Apart.length ≤ fuel0 := by rw [fu]; unfold small at h; omega
theorem small_zero : small zeroN := ⟨Nat.zero_le _, Nat.zero_le _⟩
theorem small_without {x : S_Net} (hq : x.Queue.length ≤ 40) (hA : x.Apart.length ≤ 40) (i : Nat) : small (without x i) := by
  unfold small without
  simp; omega
theorem small_del {x : S_Net} (hq : x.Queue.length ≤ 40) (hA : x.Apart.length ≤ 40) (a : Int) : small (delR x a).2.1 := by
  unfold delR
  split
  · exact small_without hq hA _
  · exact small_zero
theorem small_lose {x : S_Net} (hq : x.Queue.length ≤ 40) (hA : x.Apart.length ≤ 40) (a : Int) : small (loseR x a).1 := by
  unfold loseR
  split
  · exact small_without hq hA _
  · exact small_zero
theorem small_send {x : S_Net} (hq : x.Queue.length ≤ 40) (hA : x.Apart.length ≤ 40) (p : S_Packet) : small (sendR x p).1 := by
  unfold sendR
  split
  · exact ⟨by simp; omega, by simp; omega⟩
  · exact small_zero
theorem small_rep {x : S_Net} (hq : x.Queue.length ≤ 40) (hA : x.Apart.length ≤ 40) (a : Int) : small (repR x a).1 := by
  unfold repR
  split
  · exact small_send hq hA _
  · exact small_zero
theorem small_cut {x : S_Net} (hq : x.Queue.length ≤ 40) (hA : x.Apart.length ≤ 40) (a b : Int) (on : Bool) : small (cutR x a b on).1 := by
  unfold cutR
  split
  · split
    · exact ⟨by simp; omega, by have := allK_small (keepL x.Apart (link a b) on); simp; omega⟩
    · exact small_zero
  · exact small_zero
theorem g15s {x : S_Net} (h : small x) : G15 x x = some true := g15r x (small_f h).1 (small_f h).2
theorem f60 (n : Nat) (Q1 Q2 Q3 : List S_Packet) (A1 A2 A3 : List (Int × Int)) : ∀ (m i : Nat) (acc : List Int), i ≤ 3 → 3 - i < m → acc.length + (3 - i) ≤ 10 →
    ∃ l : List Int, F6_6_0 n false Q1 A1 Q2 A2 Q3 A3 m (i : Int) acc = some l ∧ l.length ≤ 10
  | 0, i, _, _, h, _ => absurd h (Nat.not_lt_zero _)
  | m + 1, i, acc, hi, h, hl => by
    unfold F6_6_0
    cases h1 : decide ((i : Int) < (Q1.length : Int)) with
    | false => exact ⟨acc, by simp, by omega⟩
    | true =>
      cases h2 : decide ((i : Int) < 3) with
      | false => exact ⟨acc, by simp, by omega⟩
      | true =>
        have h2 : (i : Int) < 3 := by simpa using h2
        obtain ⟨l, e1, e2⟩ := f60 n Q1 Q2 Q3 A1 A2 A3 m (i + 1) (acc ++ [(i : Int)]) (by omega) (by omega) (by simp; omega)
        refine ⟨l, ?_, e2⟩
        simp only [cond_true, Option.bind_some]
        rw [appI_some 8 acc _ (by rw [lim]; simp; omega), Option.bind_some, wr1 (by rw [fu]; omega)]
        exact e1
theorem f61 (n : Nat) (v : Bool) (Q : List S_Packet) (A : List (Int × Int)) (Q2 Q3 : List S_Packet) (A2 A3 : List (Int × Int)) (l : List Int) (hl : l.length ≤ 10) (hq : Q.length ≤ 40) (hA : A.length ≤ 40) : ∀ (m i : Nat), i ≤ l.length → l.length - i < m →
    F6_6_1 n v (l.length : Int) Q A Q2 A2 Q3 A3 l m (i : Int) = some (.inr ())
  | 0, i, _, h => absurd h (Nat.not_lt_zero _)
  | m + 1, i, hi, h => by
    unfold F6_6_1
    by_cases hlt : i < l.length
    · have hA' : (S_Net.mk Q A).Apart.length ≤ fuel0 := by rw [fu]; show A.length ≤ _; omega
      have hq' : (S_Net.mk Q A).Queue.length ≤ 4095 := by show Q.length ≤ _; omega
      have hq2 : (S_Net.mk Q A).Queue.length ≤ 40 := hq
      have hA2 : (S_Net.mk Q A).Apart.length ≤ 40 := hA
      rw [show decide ((i : Int) < (l.length : Int)) = true by simpa using hlt, cond_true, getI_nat, List.getElem?_eq_getElem hlt, Option.bind_some, wr1 (by rw [fu]; omega)]
      rw [g18 _ _ hA', g22 _ _ hA', Option.bind_some, Option.bind_some, g19r, g23 _ _ hA', g24 _ _ hA', g25 _ _ hq' hA', g26 _ _ hq' hA']
      simp only [Option.bind_some, g15s (small_del hq2 hA2 _), g15s (small_lose hq2 hA2 _), g15s (small_rep hq2 hA2 _), Bool.not_true, cond_false, bne_self_eq_false]
      exact f61 n v Q A Q2 Q3 A2 A3 l hl hq hA m (i + 1) (by omega) (by omega)
    · rw [show decide ((i : Int) < (l.length : Int)) = false by simpa using hlt]
      rfl
theorem pure6 : Pure6 := by
  intro x at_ a b on hx hat ha hb
  unfold G6 F6
  rw [sane9, Option.bind_some, g10]
  by_cases hf : x.Queue.length ≤ 40 ∧ x.Apart.length ≤ 40
  · obtain ⟨f1, f2⟩ := hf
    have hA : x.Apart.length ≤ fuel0 := Nat.le_trans f2 (by decide)
    rw [decide_eq_true f1, decide_eq_true f2]
    simp only [Option.bind_some, Bool.not_true, cond_false, Bool.and_self, g20 x _ _ _ hA, g21 x _ _ _ hA, g15s (small_cut f1 f2 a b on), bne_self_eq_false]
    obtain ⟨l, e1, e2⟩ := f60 fuel0 x.Queue (cutR x a b on).1.Queue (cutR x a b on).1.Queue x.Apart (cutR x a b on).1.Apart (cutR x a b on).1.Apart (fuel0 + 8) 0 [at_] (by omega) (by rw [fu]; omega) (by simp)
    have e3 := f61 fuel0 false x.Queue x.Apart (cutR x a b on).1.Queue (cutR x a b on).1.Queue (cutR x a b on).1.Apart (cutR x a b on).1.Apart l e2 f1 f2 (fuel0 + 8) 0 (Nat.zero_le _) (by rw [fu]; omega)
    rw [show ((0 : Nat) : Int) = 0 from rfl] at e1 e3
    rw [e1, Option.bind_some, e3]
    rfl
  · have : (decide (x.Queue.length ≤ 40) && decide (x.Apart.length ≤ 40)) = false := by
      rw [Bool.eq_false_iff]; simpa using hf
    rw [this]; rfl
/-! ### All is delivered -/
theorem f40l (n : Nat) (order : List UInt8) (v7 : Bool) (l : List S_Packet) (hl : l.length ≤ 12) : ∀ (m i : Nat) (r : List S_Packet), i ≤ l.length → l.length - i < m → r.length ≤ i → okN (S_Net.mk r []) = true →
    ∃ r' : List S_Packet, F4_4_0 n l order v7 m (i : Int) r [] r = some (r', [], r') ∧ r'.length ≤ 12 ∧ okN (S_Net.mk r' []) = true
  | 0, i, _, _, h, _, _ => absurd h (Nat.not_lt_zero _)
  | m + 1, i, r, hi, h, hr, hok => by
    unfold F4_4_0
    by_cases hlt : i < l.length
    · rw [show decide ((i : Int) < (l.length : Int)) = true by simpa using hlt, cond_true, getI_nat, List.getElem?_eq_getElem hlt, Option.bind_some, wr1 (by rw [fu]; omega)]
      rw [g11 _ _ (by show r.length ≤ _; omega) (by show 0 ≤ _; exact Nat.zero_le _), Option.bind_some]
      unfold sendR
      rw [hok, Bool.true_and]
      cases hp : okP l[i] with
      | false =>
        simp only [Bool.false_eq_true, if_false]
        exact f40l n order v7 l hl m (i + 1) r (by omega) (by omega) (by omega) hok
      | true =>
        simp only [if_true, beq_self_eq_true, cond_true, Option.bind_some]
        rw [appI_some 40 r _ (by rw [lim]; simp; omega), Option.bind_some]
        exact f40l n order v7 l hl m (i + 1) (r ++ [l[i]]) (by omega) (by omega) (by simp; omega) (okN_more hok hp (by show r.length ≤ _; omega))
    · rw [show decide ((i : Int) < (l.length : Int)) = false by simpa using hlt]
      exact ⟨r, rfl, by omega, hok⟩
theorem del_nocut {r : List S_Packet} (hok : okN (S_Net.mk r []) = true) {k : Nat} (hk : k < r.length) : delR (S_Net.mk r []) (k : Int) = (r[k], S_Net.mk (r.take k ++ r.drop (k + 1)) [], 0) := by
  rw [delR_cut hok hk]
  rfl
theorem f41l (n : Nat) (order : List UInt8) (v25 : Bool) (v30 : List S_Packet) : ∀ (m : Nat) (r : List S_Packet) (i : Nat), r.length ≤ 12 → r.length < m → i + r.length ≤ 100 → okN (S_Net.mk r []) = true →
    F4_4_1 n order v25 v30 m r (i : Int) r [] = some (.inr ([], []))
  | 0, r, i, _, h, _, _ => absurd h (Nat.not_lt_zero _)
  | m + 1, r, i, hr, h, hi, hok => by
    unfold F4_4_1
    by_cases h0 : 0 < r.length
    · rw [show decide ((0 : Int) < (r.length : Int)) = true by simpa using h0, cond_true]
      have hA : (S_Net.mk r []).Apart.length ≤ fuel0 := Nat.zero_le _
      have step : ∀ k : Nat, k < r.length → F4_4_1 n order v25 v30 m (r.take k ++ r.drop (k + 1)) (((i + 1 : Nat)) : Int) (r.take k ++ r.drop (k + 1)) [] = some (.inr ([], [])) := fun k hk =>
        f41l n order v25 v30 m _ (i + 1) (by simp; omega) (by simp; omega) (by simp; omega) (okN_without (x := S_Net.mk r []) hok k)
      have w1 : wr .i64 ((i : Int) + 1) = ((i + 1 : Nat) : Int) := wr1 (by rw [fu]; omega)
      have gk : ∀ k : Nat, k < r.length → getI r (k : Int) = some (r[k]?.getD zeroP) := fun k hk => by
        rw [getI_nat, List.getElem?_eq_getElem hk]; rfl
      have dk : ∀ k : Nat, k < r.length → delR (S_Net.mk r []) (k : Int) = (r[k]?.getD zeroP, S_Net.mk (r.take k ++ r.drop (k + 1)) [], 0) := fun k hk => by
        rw [del_nocut hok hk, List.getElem?_eq_getElem hk]; rfl
      have a1 : ∀ k : Nat, appI 40 [] (r.take k) = some (r.take k) := fun k => appI_some _ _ _ (by rw [lim]; simp; omega)
      have a2 : ∀ k : Nat, appI 40 (r.take k) (r.drop (k + 1)) = some (r.take k ++ r.drop (k + 1)) := fun k => appI_some _ _ _ (by rw [lim]; simp; omega)
      cases ho2 : decide ((i : Int) < (order.length : Int)) with
      | true =>
        have ho3 : i < order.length := by simpa using ho2
        rw [cond_true, getI_nat, List.getElem?_eq_getElem ho3, Option.bind_some]
        have hb : order[i].toNat < 256 := order[i].toNat_lt
        rw [wr64 (n := (order[i].toNat : Int)) (by omega) (by omega), decide_eq_true (show ((r.length : Int)) ≠ 0 by omega), cond_true]
        rw [show Int.tmod (order[i].toNat : Int) (r.length : Int) = ((order[i].toNat % r.length : Nat) : Int) from by rw [Int.tmod_eq_emod_of_nonneg (by omega)]; rfl]
        have hk : order[i].toNat % r.length < r.length := Nat.mod_lt _ h0
        generalize order[i].toNat % r.length = k at hk
        have w2 : wr .i64 ((k : Int) + 1) = ((k + 1 : Nat) : Int) := wr1 (by rw [fu]; omega)
        rw [g18 _ _ hA, Option.bind_some, dk k hk, gk k hk]
        simp only [bne_self_eq_false, cond_false, Option.bind_some, g19r, Bool.not_true]
        rw [subI_take r k (by omega), Option.bind_some, a1, Option.bind_some, w2, subI_drop r (k + 1) (by omega), Option.bind_some, a2, Option.bind_some, w1]
        exact step k hk
      | false =>
        have d0 := dk 0 h0
        have g0 := gk 0 h0
        rw [show ((0 : Nat) : Int) = 0 from rfl] at d0 g0
        rw [cond_false, g18 _ _ hA, Option.bind_some, d0, g0]
        simp only [bne_self_eq_false, cond_false, Option.bind_some, g19r, Bool.not_true]
        have s0 := subI_take r 0 (by omega)
        have s1 := subI_drop r 1 (by omega)
        rw [show ((0 : Nat) : Int) = 0 from rfl] at s0
        rw [show ((1 : Nat) : Int) = 1 from rfl] at s1
        rw [s0, Option.bind_some, a1, Option.bind_some, s1, Option.bind_some, a2 0, Option.bind_some, w1]
        exact step 0 h0
    · have : r = [] := List.eq_nil_of_length_eq_zero (by omega)
      subst this
      rfl
theorem pure4 : Pure4 := by
  intro l order hl ho
  unfold G4 F4
  rw [sane9, Option.bind_some]
  by_cases h12 : l.length ≤ 12
  · have e16 : G16 = some (S_Net.mk [] []) := rfl
    rw [show decide ((12 : Int) < (l.length : Int)) = false by simp; omega, e16]
    obtain ⟨r, e1, e2, e3⟩ := f40l fuel0 order false l h12 (fuel0 + 8) 0 [] (Nat.zero_le _) (by rw [fu]; omega) (Nat.zero_le _) (by decide)
    rw [show ((0 : Nat) : Int) = 0 from rfl] at e1
    have e4 := f41l fuel0 order false r (fuel0 + 8) r 0 e2 (by rw [fu]; omega) (by omega) e3
    rw [show ((0 : Nat) : Int) = 0 from rfl] at e4
    simp only [Option.bind_some, Bool.not_true, cond_false, e1, e4]
    rfl
  · rw [show decide ((12 : Int) < (l.length : Int)) = true by simp; omega]
    rfl
end Go.Proofs.Ytgcobbhbfkjkeaa
