/-
 Layer 4, in plain Lean: what was written last is read; syncing one by one or together.
-/
import Derived.Test.YthoomfjliekbdaaP4
namespace Go.Proofs.Ythoomfjliekbdaa
set_option linter.unusedVariables false
set_option linter.unusedSimpArgs false
set_option maxRecDepth 100000
theorem lastW_snoc (l : List S_Write) (w : S_Write) (a : Int) (b : List UInt8) : lastW (l ++ [w]) a b = if w.At = a then w.Data else lastW l a b := by
 unfold lastW; rw [List.foldl_append]; rfl
theorem okDk_iff (d : S_Disk) : okDk d = true ↔ (1 <= d.Sectors.length /\ d.Sectors.length <= 4096 /\ d.Pending.length <= 4096 /\ -1 <= d.Left /\ d.Left <= 65536 /\ (∀ w ∈ d.Pending, 0 <= w.At /\ w.At < d.Sectors.length /\ w.Data.length = 128) /\ ∀ b ∈ d.Sectors, b.length = 128) := by
 constructor
 ·intro h
  obtain ⟨h1, h2, h3, h4, h5⟩ := okDk_len h
  exact ⟨h1, h2, h3, h4, h5, okDk_pend h, okDk_sec h⟩
 ·rintro ⟨h1, h2, h3, h4, h5, h6, h7⟩
  unfold okDk
  simp only [Bool.and_eq_true, decide_eq_true_eq, List.all_eq_true]
  refine ⟨⟨⟨⟨⟨⟨h1, h2⟩, h3⟩, h4⟩, h5⟩, fun w hw => ?_⟩, fun b hb => by simpa [isSec] using h7 b hb⟩
  obtain ⟨a1, a2, a3⟩ := h6 w hw
  simp only [okW, Bool.and_eq_true, decide_eq_true_eq, isSec, beq_iff_eq]
  exact ⟨⟨a1, a2⟩, a3⟩
theorem perf_get : ∀ (P : List S_Write) (S : List (List UInt8)) (k : Nat), k < S.length -> (∀ w ∈ P, 0 <= w.At) -> (perf S P)[k]?.getD [] = lastW P (k : Int) (S[k]?.getD [])
 | [], S, k, _, _ => rfl
 | w :: P, S, k, hk, hP => by
  have h0 := hP w (by simp)
  have ih := perf_get P (S.set w.At.toNat w.Data) k (by simpa using hk) (fun v hv => hP v (by simp [hv]))
  show (perf (S.set w.At.toNat w.Data) P)[k]?.getD [] = lastW P (k : Int) (if w.At = (k : Int) then w.Data else S[k]?.getD [])
  rw [ih]
  congr 1
  by_cases e : w.At = (k : Int)
  ·rw [if_pos e, show w.At.toNat = k by omega, List.getElem?_set_self hk]; rfl
  ·rw [if_neg e, List.getElem?_set_ne (by omega)]
end Go.Proofs.Ythoomfjliekbdaa
