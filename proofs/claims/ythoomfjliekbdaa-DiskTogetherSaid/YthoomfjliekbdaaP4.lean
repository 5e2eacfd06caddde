/-
  Layer 4, in plain Lean: the stopped disk.
-/
import Derived.Test.YthoomfjliekbdaaP3
namespace Go.Proofs.Ythoomfjliekbdaa
set_option linter.unusedVariables false
set_option linter.unusedSimpArgs false
set_option maxRecDepth 100000
theorem f9 (n : Nat) (v40 v41 : Int) (v42 : List UInt8) (v43 : Bool) (S : List (List UInt8)) (v46 : List S_Write) (v47 : Int) (v48 : Bool) (v50 : List S_Write) (v51 : Int) (v52 : Bool) (v53 : List (List UInt8)) (v54 : List S_Write) (v55 : Int) (v56 : Bool) (hS : S.length ≤ maxL) : ∀ (m i : Nat), i ≤ S.length → S.length - i < m →
    F9_9_0 n v40 v41 v42 v43 S v46 v47 v48 S v50 v51 v52 v53 v54 v55 v56 m (i : Int) = some (.inr ())
  | 0, i, _, h => absurd h (Nat.not_lt_zero _)
  | m + 1, i, hi, h => by
    unfold F9_9_0
    by_cases hlt : i < S.length
    · rw [dlt hlt, cond_true, getI_nat, List.getElem?_eq_getElem hlt, Option.bind_some, Option.bind_some, show (!strEq (bstr S[i]) (bstr S[i])) = false by simp [strEq], cond_false, wr1 (by rw [mxl] at hS ⊢; omega)]
      exact f9 n v40 v41 v42 v43 S v46 v47 v48 v50 v51 v52 v53 v54 v55 v56 hS m (i + 1) (by omega) (by omega)
    · rw [dnlt hlt, cond_false]
theorem runs_stopped (d : S_Disk) : runs (S_Disk.mk d.Sectors d.Pending d.Left true) = false := by
  unfold runs; simp
theorem pure9 : Pure9 := by
  intro d a e b hd ha he hb
  have hf := fits_of hd
  unfold G9 F9
  obtain ⟨w, hw⟩ := g11 d hf
  rw [sane10, Option.bind_some, hw]
  have hs : fits (S_Disk.mk d.Sectors d.Pending d.Left true) := hf
  have hlp := f9 fuel0 a e b false d.Sectors d.Pending d.Left d.Stopped (restR d).Pending (restR d).Left (restR d).Stopped (restR (restR d)).Sectors (restR (restR d)).Pending (restR (restR d)).Left (restR (restR d)).Stopped hf.1 (fuel0 + 8) 0 (Nat.zero_le _) (by rw [fu]; have := hf.1; rw [mxl] at this; omega)
  rw [show ((0 : Nat) : Int) = 0 from rfl] at hlp
  cases w with
  | false => rfl
  | true =>
    simp only [Option.bind_some, Bool.not_true, Bool.not_false, cond_false, cond_true]
    cases decide (1000 < (b.length : Int)) with
    | true => rfl
    | false =>
      simp only [cond_false, g17, Option.bind_some]
      rw [show restR (restR d) = restR d from rfl] at hlp ⊢
      rw [g14r _ (fits_rest hf)]
      simp only [show (restR d).Stopped = false from rfl, show (restR d).Left = -1 from rfl, show (restR d).Pending = [] from rfl, show (restR d).Sectors = d.Sectors from rfl] at hlp ⊢
      simp only [cond_false, Option.bind_some, bne_self_eq_false, List.length_nil, Bool.not_true, show (((0 : Nat) : Int) != 0) = false from rfl]
      rw [hlp]
      simp only [Option.bind_some, g21 _ a hs, g19 _ a b hs, g23 _ hs, g25 _ e hs]
      unfold readR writeR syncR stopR
      rw [runs_stopped]
      rfl
end Go.Proofs.Ythoomfjliekbdaa
