/-
 Layer 05, in plain Lean: JournalSyncSpec.
-/
import Derived.Test.YtobjniabioaefaaQ9
namespace Go.Proofs.Ytobjniabioaefaa
set_option linter.unusedVariables false
set_option linter.unusedSimpArgs false
set_option maxRecDepth 100000
set_option maxHeartbeats 4000000
theorem syncJ_recs (l : S_Journal) (d : S_Disk) : (syncJ l d).1.Records = [] ∨ (syncJ l d).1.Records = l.Records := by
 unfold syncJ goOn doW
 repeat' split
 all_goals first | exact .inl rfl | exact .inr rfl
theorem room_of {l : S_Journal} {d : S_Disk} (hj : okJ l = true) (hm : l.Many = (d.Sectors.length : Int)) : tot (l.Records.take l.Synced.toNat) + tot (l.Records.drop l.Synced.toNat) <= d.Sectors.length := by
 have := ok_of hj
 have h := tot_split l.Records l.Synced.toNat
 omega
theorem syncJ_fits (l : S_Journal) (d : S_Disk) (hd : fits d) : fits (syncJ l d).2.1 := by
 unfold syncJ
 split
 ·rename_i hj
  split
  ·rename_i ho
   split
   ·exact fits_zero
   ·rename_i hst
    split
    ·rename_i hm
     split
     ·unfold goOn
      split
      ·exact hd
      ·obtain ⟨S, P, L, st⟩ := d
       have hst : st = false := by cases st with | false => rfl | true => exact absurd rfl hst
       subst hst
       obtain rfl : P = [] := List.eq_nil_of_length_eq_zero hm.2
       have := fits_sync (fits_ok (writes_ok (g := gmax 0 S + 1) ho (room_of hj hm.1)))
       unfold doW
       split
       ·exact this
       ·exact this
     ·exact fits_zero
    ·exact fits_zero
  ·exact fits_zero
 ·exact fits_zero
theorem pure5 : Pure5 := by
 intro l d _ hd hw hwd
 have hl := wtJ hw
 have hf := fits_of hd
 unfold G5 F5
 rw [sane10, g11 _ _ hl]
 simp only [Option.bind_some, Bool.not_true, cond_false]
 cases hfew : fewB d l.Records with
 | false => rfl
 | true =>
  rw [g21 l d hl hf, g22 l d hl hf]
  have h1 : (syncJ l d).1.Records.length <= 4194304 := by
   rcases syncJ_recs l d with h | h
   ·rw [h]; exact Nat.zero_le _
   ·rw [h]; have := len_bsum l.Records; omega
  simp only [Option.bind_some, Bool.not_true, cond_false]
  rw [g14 _ h1]
  simp only [Option.bind_some, cond_true]
  rw [g23r _ (syncJ_fits l d hf)]
  simp
end Go.Proofs.Ytobjniabioaefaa
