/-
  Layer 05, in plain Lean: JournalOpenSpec.
-/
import Derived.Test.YtobjniabioaefaaQ4
namespace Go.Proofs.Ytobjniabioaefaa
set_option linter.unusedVariables false
set_option linter.unusedSimpArgs false
set_option maxRecDepth 100000
set_option maxHeartbeats 4000000
theorem recs_len (l : List (List UInt8)) : ∀ (f a last : Nat), (recs l f a last).length ≤ l.length - a
  | 0, a, last => Nat.zero_le _
  | f + 1, a, last => by
    unfold recs
    cases hsc : scan l a (l.length - a) a [] with
    | none => exact Nat.zero_le _
    | some p =>
      obtain ⟨b, e⟩ := p
      have he := scan_end _ _ _ _ _ _ _ hsc
      simp only []
      cases decide (last ≤ genOf (l.getD a [])) with
      | false => exact Nat.zero_le _
      | true =>
        rw [cond_true, List.length_cons]
        have := recs_len l f e (genOf (l.getD a []))
        omega
theorem recsOf_len (l : List (List UInt8)) : (recsOf l).length ≤ l.length := recs_len l _ 0 0
theorem pure3 : Pure3 := by
  intro d hd
  unfold G3 F3
  rw [sane10, g11 _ _ (by show 0 ≤ _; omega)]
  simp only [Option.bind_some, Bool.not_true, cond_false]
  cases hf : fewB d [] with
  | false => rfl
  | true =>
    rw [g12 d (fits_of hd), g13 d (fits_of hd)]
    simp only [Option.bind_some, Bool.not_true, cond_false]
    have hl : (openR d).1.Records.length ≤ 4194304 := by
      unfold openR
      split
      · rename_i ho
        split
        · exact Nat.zero_le _
        · split
          · exact Nat.zero_le _
          · have := recsOf_len d.Sectors; have := (okD_secs ho).2; show (recsOf d.Sectors).length ≤ _; omega
      · exact Nat.zero_le _
    rw [g14 _ hl]
    simp
end Go.Proofs.Ytobjniabioaefaa
