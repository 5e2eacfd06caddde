/-
  Layer 6, in plain Lean: packets that are delivered, lost and repeated.
-/
import Derived.Test.YtgcobbhbfkjkeaaP
namespace Go.Proofs.Ytgcobbhbfkjkeaa
set_option linter.unusedVariables false
set_option linter.unusedSimpArgs false
set_option maxRecDepth 100000
def without (x : S_Net) (i : Nat) : S_Net := S_Net.mk (x.Queue.take i ++ x.Queue.drop (i + 1)) x.Apart
theorem subI_take {T : Type} (l : List T) (i : Nat) (h : i ≤ l.length) : subI l 0 (i : Int) = some (l.take i) := by
  unfold subI
  simp [h]
theorem subI_drop {T : Type} (l : List T) (i : Nat) (h : i ≤ l.length) : subI l (i : Int) (l.length : Int) = some (l.drop i) := by
  unfold subI
  rw [decide_eq_true (by omega : (0 : Int) ≤ (i : Int)), decide_eq_true (by omega : (i : Int) ≤ (l.length : Int)), decide_eq_true (Int.le_refl _)]
  simp only [Int.toNat_natCast, Bool.and_self, cond_true]
  rw [List.take_of_length_le (by simp)]
theorem g38 (x : S_Net) (i : Nat) (hi : i < x.Queue.length) (hq : x.Queue.length ≤ 4096) : G38 x (i : Int) = some (without x i) := by
  unfold G38 F38 without
  rw [subI_take _ _ (by omega), Option.bind_some, wr1 (by rw [fu]; omega), subI_drop _ _ (by omega), Option.bind_some, appI_some _ _ _ (by rw [lim]; simp; omega)]
  rfl
def zeroP : S_Packet := S_Packet.mk 0 0 []
def zeroN : S_Net := S_Net.mk [] []
/-- The packet at a place, and the error. -/
def atR (x : S_Net) (a : Int) : S_Packet × Int := if okN x = true then (if 0 ≤ a then match x.Queue[a.toNat]? with | some p => (p, 0) | none => (zeroP, 1) else (zeroP, 1)) else (zeroP, 60)
theorem g35 (x : S_Net) (a : Int) (hA : x.Apart.length ≤ fuel0) : G35 x a = some (atR x a) := by
  unfold G35 F35 atR
  rw [g13 x hA, Option.bind_some]
  cases okN x with
  | false => rfl
  | true =>
    simp only [if_true]
    by_cases h0 : 0 ≤ a
    · obtain ⟨i, rfl⟩ : ∃ i : Nat, a = i := ⟨a.toNat, by omega⟩
      rw [if_pos h0, show decide ((i : Int) < 0) = false by simp, Int.toNat_natCast, getI_nat]
      by_cases h1 : i < x.Queue.length
      · rw [List.getElem?_eq_getElem h1, show decide ((x.Queue.length : Int) ≤ (i : Int)) = false by simp; omega]
        rfl
      · rw [List.getElem?_eq_none (by omega), show decide ((x.Queue.length : Int) ≤ (i : Int)) = true by simp; omega]
        rfl
    · rw [if_neg h0, show decide (a < 0) = true by simp; omega]
      rfl
/-- What Lose answers. -/
def loseR (x : S_Net) (a : Int) : S_Net × Int := if (atR x a).2 = 0 then (without x a.toNat, 0) else (zeroN, (atR x a).2)
theorem atR_ok {x : S_Net} {a : Int} (h : (atR x a).2 = 0) : okN x = true ∧ 0 ≤ a ∧ ∃ hlt : a.toNat < x.Queue.length, (atR x a).1 = x.Queue[a.toNat] := by
  unfold atR at h ⊢
  by_cases h1 : okN x = true
  · rw [if_pos h1] at h ⊢
    by_cases h2 : 0 ≤ a
    · rw [if_pos h2] at h ⊢
      refine ⟨h1, h2, ?_⟩
      by_cases h3 : a.toNat < x.Queue.length
      · rw [List.getElem?_eq_getElem h3]
        exact ⟨h3, rfl⟩
      · rw [List.getElem?_eq_none (by omega)] at h
        cases h
    · rw [if_neg h2] at h; cases h
  · rw [if_neg h1] at h; cases h
theorem okN_len {x : S_Net} (h : okN x = true) : x.Queue.length ≤ 4096 := by
  unfold okN at h
  simp only [Bool.and_eq_true, decide_eq_true_eq] at h
  exact h.1.1
theorem g23 (x : S_Net) (a : Int) (hA : x.Apart.length ≤ fuel0) : G23 x a = some (loseR x a) := by
  unfold G23 F23 loseR
  rw [g35 x a hA, Option.bind_some]
  by_cases h : (atR x a).2 = 0
  · obtain ⟨h1, h2, h3, _⟩ := atR_ok h
    rw [if_pos h, h]
    have := g38 x a.toNat h3 (okN_len h1)
    rw [show ((a.toNat : Nat) : Int) = a by omega] at this
    rw [this]
    rfl
  · rw [if_neg h, show ((atR x a).2 != 0) = true by simpa using h]
    rfl
/-- What Repeat answers. -/
def repR (x : S_Net) (a : Int) : S_Net × Int := if (atR x a).2 = 0 then sendR x (atR x a).1 else (zeroN, (atR x a).2)
theorem g25 (x : S_Net) (a : Int) (hq : x.Queue.length ≤ 4095) (hA : x.Apart.length ≤ fuel0) : G25 x a = some (repR x a) := by
  unfold G25 F25 repR
  rw [g35 x a hA, Option.bind_some]
  by_cases h : (atR x a).2 = 0
  · rw [if_pos h, h, g11 x _ hq hA]
    rfl
  · rw [if_neg h, show ((atR x a).2 != 0) = true by simpa using h]
    rfl
theorem f45 (n : Nat) (v2 c d : Int) (l : List (Int × Int)) (hl : l.length ≤ fuel0) : ∀ (m i : Nat), i ≤ l.length → l.length - i < m →
    (∃ j : Int, 0 ≤ j ∧ F45_45_0 n l v2 (l.length : Int) c d m (i : Int) = some (.inl j) ∧ (l.drop i).any (fun q => c == q.1 && d == q.2) = true) ∨ (F45_45_0 n l v2 (l.length : Int) c d m (i : Int) = some (.inr ()) ∧ (l.drop i).any (fun q => c == q.1 && d == q.2) = false)
  | 0, i, _, h => absurd h (Nat.not_lt_zero _)
  | m + 1, i, hi, h => by
    unfold F45_45_0
    by_cases hlt : i < l.length
    · rw [show decide ((i : Int) < (l.length : Int)) = true by simpa using hlt, cond_true, getI_nat, List.getElem?_eq_getElem hlt, Option.bind_some, wr1 (by omega), List.drop_eq_getElem_cons hlt, List.any_cons]
      cases hp : (c == l[i].1 && d == l[i].2) with
      | true => exact .inl ⟨i, by omega, rfl, rfl⟩
      | false =>
        simp only [cond_false, Bool.false_or]
        exact f45 n v2 c d l hl m (i + 1) (by omega) (by omega)
    · rw [show decide ((i : Int) < (l.length : Int)) = false by simpa using hlt, cond_false, List.drop_eq_nil_iff.2 (by omega)]
      exact .inr ⟨rfl, rfl⟩
/-- Is the link cut? -/
def isCut (l : List (Int × Int)) (p : Int × Int) : Bool := l.any fun q => p.1 == q.1 && p.2 == q.2
theorem g36 (l : List (Int × Int)) (p : Int × Int) (hl : l.length ≤ fuel0) : G36 l p = some (isCut l p) := by
  unfold G36 F36 G45 F45 isCut
  have e : l.drop 0 = l := rfl
  rcases f45 fuel0 0 p.1 p.2 l hl (fuel0 + 8) 0 (Nat.zero_le _) (by omega) with ⟨j, h1, h2, h3⟩ | ⟨h2, h3⟩
  · rw [e] at h3
    rw [show ((0 : Nat) : Int) = 0 from rfl] at h2
    rw [h2, h3]
    simp only [Option.bind_some]
    rw [decide_eq_true h1]
  · rw [e] at h3
    rw [show ((0 : Nat) : Int) = 0 from rfl] at h2
    rw [h2, h3]
    rfl
def link (a b : Int) : Int × Int := (if b < a then b else a, if a < b then b else a)
/-- What Deliver answers. -/
def delR (x : S_Net) (a : Int) : S_Packet × S_Net × Int := if (atR x a).2 = 0 then (if isCut x.Apart (link (atR x a).1.From (atR x a).1.To) = true then zeroP else (atR x a).1, without x a.toNat, 0) else ((atR x a).1, zeroN, (atR x a).2)
theorem g18 (x : S_Net) (a : Int) (hA : x.Apart.length ≤ fuel0) : G18 x a = some (delR x a) := by
  unfold G18 F18 delR
  rw [g35 x a hA, Option.bind_some]
  by_cases h : (atR x a).2 = 0
  · obtain ⟨h1, h2, h3, _⟩ := atR_ok h
    rw [if_pos h, h]
    have h38 := g38 x a.toNat h3 (okN_len h1)
    rw [show ((a.toNat : Nat) : Int) = a by omega] at h38
    simp only [bne_self_eq_false, cond_false]
    rw [g37, Option.bind_some, g36 _ _ hA, Option.bind_some, h38]
    unfold link
    generalize isCut x.Apart _ = q
    cases q <;> rfl
  · rw [if_neg h, show ((atR x a).2 != 0) = true by simpa using h]
    rfl
end Go.Proofs.Ytgcobbhbfkjkeaa
