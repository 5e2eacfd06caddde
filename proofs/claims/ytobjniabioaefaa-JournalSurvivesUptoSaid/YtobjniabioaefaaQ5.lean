/-
 Layer 05, in plain Lean: JournalOpenSpec.
-/
import Derived.Test.YtobjniabioaefaaQ4
namespace Go.Proofs.Ytobjniabioaefaa
set_option linter.unusedVariables false
set_option linter.unusedSimpArgs false
set_option maxRecDepth 100000
set_option maxHeartbeats 4000000
theorem recs_len (l : List (List UInt8)) : ∀ (f a last : Nat), (recs l f a last).length <= l.length - a
 | 0, a, last => Nat.zero_le _
 | f + 1, a, last => by
  unfold recs
  cases hsc : scan l a (l.length - a) a [] with
  | none => exact Nat.zero_le _
  | some p =>
   obtain ⟨b, e⟩ := p
   have he := scan_end _ _ _ _ _ _ _ hsc
   simp only []
   cases decide (last <= genOf (l.getD a [])) with
   | false => exact Nat.zero_le _
   | true =>
    rw [cond_true, List.length_cons]
    have := recs_len l f e (genOf (l.getD a []))
    omega
theorem recsOf_len (l : List (List UInt8)) : (recsOf l).length <= l.length := recs_len l _ 0 0
end Go.Proofs.Ytobjniabioaefaa
