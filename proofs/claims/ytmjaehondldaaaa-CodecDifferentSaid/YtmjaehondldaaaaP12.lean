/-
 Layer 01, in plain Lean: RoundTrip and Different.
-/
import Derived.Test.YtmjaehondldaaaaP11
namespace Go.Proofs.Ytmjaehondldaaaa
set_option linter.unusedVariables false
set_option linter.unusedSimpArgs false
set_option maxRecDepth 100000
set_option maxHeartbeats 4000000
theorem encR_2 (v : S_Value) : (encR v).2 = chk v := by
 unfold encR
 cases h : chk v == 0 with
 | true =>
  show 0 = chk v
  have : chk v = 0 := by simpa using h
  omega
 | false => rfl
theorem encR_0 {v : S_Value} (h : chk v = 0) : encR v = (encV v, 0) := by unfold encR; rw [h]; rfl
theorem pre_eq {v w : S_Value} {t : List UInt8} (hv : ok_S_Value v) (hw : ok_S_Value w) (cv : chk v = 0) (cw : chk w = 0) (e : encV v = encV w ++ t) : v = w := by
 have d : ∀ x, chk x = 0 -> dep x <= 16 := fun x hx => by
  have hf := chk_frm hx
  unfold chk at hx
  rw [hf] at hx
  simp only [cond_true] at hx
  rcases Nat.lt_or_ge 16 (dep x) with h | h
  ·rw [decide_eq_true h] at hx; cases hx
  ·exact h
 have h1 := getV_enc 16 v [] (chk_frm cv) (d v cv) hv
 have h2 := getV_enc 16 w t (chk_frm cw) (d w cw) hw
 rw [List.append_nil, e, h2] at h1
 cases h1; rfl
theorem sub0 (l : List UInt8) (n : Nat) (h : n <= l.length) : subI l 0 (n : Int) = some (l.take n) := by
 unfold subI
 rw [decide_eq_true (Int.le_refl _), decide_eq_true (show (0 : Int) <= (n : Int) by omega), decide_eq_true (show (n : Int) <= (l.length : Int) by omega)]
 rfl
theorem pure7 : Pure7 := by
 intro v w hv hw
 unfold G7 F7
 rw [sane10, Option.bind_some]
 simp only [Bool.not_true, cond_false, few2 v w hv hw, Option.bind_some]
 cases hf : fewB v && fewB w with
 | false => rfl
 | true =>
  rw [Bool.and_eq_true] at hf
  have h1 : nod v <= 1000000 := by have := few_nod hf.1; omega
  have h2 : nod w <= 1000000 := by have := few_nod hf.2; omega
  simp only [Bool.not_true, cond_false, g12 v hv h1, g12 w hw h2, Option.bind_some, encR_2]
  by_cases c1 : chk v = 0
  ·by_cases c2 : chk w = 0
   ·rw [show (chk v != 0) = false by simp [c1], show (chk w != 0) = false by simp [c2]]
    simp only [cond_false, Option.bind_some, encR_0 c1, encR_0 c2]
    obtain ⟨t, e1, e2⟩ := g21 v w h1
    rw [e1]
    cases t with
    | true =>
     have := e2.1 rfl
     subst this
     simp only [Option.bind_some, cond_true, strEq_refl]
    | false =>
     have hne : v ≠ w := fun h => by have := e2.2 h; cases this
     simp only [Option.bind_some, cond_false]
     generalize hm : (if ((encV w).length : Int) < ((encV v).length : Int) then ((encV w).length : Int) else ((encV v).length : Int)) = m
     obtain ⟨m, rfl⟩ : ∃ q : Nat, m = (q : Int) := ⟨m.toNat, by split at hm <;> omega⟩
     rw [sub0 _ m (by split at hm <;> omega), sub0 _ m (by split at hm <;> omega)]
     simp only [Option.bind_some]
     rw [strEq_b, decide_eq_false]
     ·rfl
     ·intro h
      split at hm
      ·have e : encV w = (encV v).take m := by rw [h, List.take_of_length_le (by omega)]
       exact hne (pre_eq (t := (encV v).drop m) hv hw c1 c2 (by rw [e, List.take_append_drop]))
      ·have e : encV v = (encV w).take m := by rw [<- h, List.take_of_length_le (by omega)]
       exact hne (pre_eq (t := (encV w).drop m) hw hv c2 c1 (by rw [e, List.take_append_drop])).symm
   ·rw [show (chk v != 0) = false by simp [c1], show (chk w != 0) = true by simp [c2]]
    rfl
  ·rw [show (chk v != 0) = true by simp [c1]]
   rfl
end Go.Proofs.Ytmjaehondldaaaa
