/-
 Layer 01, in plain Lean: equality; DecodeSpec and SameSpec.
-/
import Derived.Test.YtmjaehondldaaaaP10
namespace Go.Proofs.Ytmjaehondldaaaa
set_option linter.unusedVariables false
set_option linter.unusedSimpArgs false
set_option maxRecDepth 100000
set_option maxHeartbeats 4000000
theorem val_eq {a b : S_Value} : a = b ↔ a.Kind = b.Kind /\ a.N = b.N /\ a.S = b.S /\ a.L = b.L := by
 cases a; cases b; simp
theorem loop21 (self : S_Value -> S_Value -> Option Bool) (n : Nat) (z : Bool) (A B : List S_Value) (x0 y0 : S_Value) (hA : A.length <= 1000000) (hl : A.length = B.length) (hself : ∀ x ∈ A, ∀ y, ∃ t, self x y = some t /\ (t = true ↔ x = y)) :
  ∀ (k m i : Nat), i + k = A.length -> k < m -> (F21_35_0 self n B z A (A.length : Int) x0 y0 m (i : Int) = some (.inr ()) /\ A.drop i = B.drop i) ∨ (∃ p, F21_35_0 self n B z A (A.length : Int) x0 y0 m (i : Int) = some (.inl (false, p)) /\ A.drop i ≠ B.drop i)
 | 0, m, i, h1, h2 => by
  obtain ⟨m, rfl⟩ : ∃ q, m = q + 1 := ⟨m - 1, by omega⟩
  rw [F21_35_0, decide_eq_false (by omega), List.drop_eq_nil_iff.2 (by omega), List.drop_eq_nil_iff.2 (by omega)]
  exact .inl ⟨rfl, rfl⟩
 | k + 1, m, i, h1, h2 => by
  obtain ⟨m, rfl⟩ : ∃ q, m = q + 1 := ⟨m - 1, by omega⟩
  have hi : i < A.length := by omega
  have hi2 : i < B.length := by omega
  obtain ⟨t, h3, h4⟩ := hself _ (List.getElem_mem hi) B[i]
  rw [F21_35_0, decide_eq_true (by omega), List.drop_eq_getElem_cons hi, List.drop_eq_getElem_cons hi2]
  simp only [cond_true, getI_nat, List.getElem?_eq_getElem hi, List.getElem?_eq_getElem hi2, Option.bind_some, h3]
  cases t with
  | false =>
   refine .inr ⟨_, rfl, fun h => ?_⟩
   have := h4.2 (List.cons.inj h).1
   cases this
  | true =>
   rw [wr64 (by omega) (by omega), show (i : Int) + 1 = ((i + 1 : Nat) : Int) by omega]
   have e := h4.1 rfl
   rcases loop21 self n z A B x0 y0 hA hl hself k m (i + 1) (by omega) (by omega) with ⟨h5, h6⟩ | ⟨p, h5, h6⟩
   ·exact .inl ⟨h5, by rw [e, h6]⟩
   ·exact .inr ⟨p, h5, fun h => h6 (List.cons.inj h).2⟩
theorem r21 : ∀ (q : Nat) (a b : S_Value), nod a <= q -> nod a <= 1000000 -> ∃ t, R21 q a b = some t /\ (t = true ↔ a = b)
 | 0, a, b, h, _ => by have := nod_pos a; omega
 | q + 1, a, b, h, hn => by
  have hll := nods_len a.L
  have hn' := hn
  rw [nod_eq] at hn' h
  show ∃ t, F21 (R21 q) fuel0 a b = some t /\ _
  unfold F21
  rw [val_eq]
  by_cases h1 : a.Kind = b.Kind
  ·rw [show (a.Kind == b.Kind) = true by simp [h1]]
   simp only [cond_true, Option.bind_some]
   by_cases h2 : a.N = b.N
   ·rw [show (a.N == b.N) = true by simp [h2], strEq_d]
    simp only [cond_true, Option.bind_some]
    by_cases h3 : a.S = b.S
    ·rw [decide_eq_true h3]
     simp only [cond_true, Option.bind_some]
     by_cases h4 : a.L.length = b.L.length
     ·rw [show ((a.L.length : Int) != (b.L.length : Int)) = false by simp; omega]
      simp only [cond_false]
      have hL := loop21 (R21 q) fuel0 false a.L b.L a b (by omega) h4 (fun x hx y => by
       have := nods_mem hx
       exact r21 q x y (by omega) (by omega)) a.L.length (fuel0 + 7) 0 (by omega) (by rw [fu]; omega)
      rw [show ((0 : Nat) : Int) = 0 from rfl, List.drop_zero, List.drop_zero] at hL
      rcases hL with ⟨h5, h6⟩ | ⟨p, h5, h6⟩
      ·rw [h5]
       exact ⟨true, rfl, ⟨fun _ => ⟨h1, h2, h3, h6⟩, fun _ => rfl⟩⟩
      ·rw [h5]
       exact ⟨false, rfl, ⟨fun h => (by cases h), fun h => absurd h.2.2.2 h6⟩⟩
     ·rw [show ((a.L.length : Int) != (b.L.length : Int)) = true by simp; omega]
      exact ⟨false, rfl, ⟨fun h => (by cases h), fun h => absurd (congrArg List.length h.2.2.2) h4⟩⟩
    ·rw [decide_eq_false h3]
     exact ⟨false, rfl, ⟨fun h => (by cases h), fun h => absurd h.2.2.1 h3⟩⟩
   ·rw [show (a.N == b.N) = false by simp [h2]]
    exact ⟨false, rfl, ⟨fun h => (by cases h), fun h => absurd h.2.1 h2⟩⟩
  ·rw [show (a.Kind == b.Kind) = false by simp [h1]]
   exact ⟨false, rfl, ⟨fun h => (by cases h), fun h => absurd h.1 h1⟩⟩
theorem g21 (a b : S_Value) (hn : nod a <= 1000000) : ∃ t, G21 a b = some t /\ (t = true ↔ a = b) := r21 fuel0 a b (by rw [fu]; omega) hn
theorem few2 (v w : S_Value) (hv : ok_S_Value v) (hw : ok_S_Value w) : G11 [v, w] = some (fewB v && fewB w) := by
 rw [g11 [v, w] (by simp) (by simp [hv, hw])]; simp
end Go.Proofs.Ytmjaehondldaaaa
