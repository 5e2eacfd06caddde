/-
 Layer 4, in plain Lean: syncing one by one or together.
-/
import Derived.Test.YthoomfjliekbdaaP5
namespace Go.Proofs.Ythoomfjliekbdaa
set_option linter.unusedVariables false
set_option linter.unusedSimpArgs false
set_option maxRecDepth 100000
theorem runs_mk {S : List (List UInt8)} {L : Int} (hr : runs (S_Disk.mk S [] L false) = true) {ws : List S_Write} (hl : ws.length <= 4096) (hw : ∀ w ∈ ws, 0 <= w.At /\ w.At < S.length /\ w.Data.length = 128) : runs (S_Disk.mk S ws L false) = true := by
 unfold runs at hr ⊢
 rw [Bool.and_eq_true] at hr ⊢
 refine ⟨?_, rfl⟩
 have h := hr.1
 rw [okDk_iff] at h ⊢
 obtain ⟨a1, a2, a3, a4, a5, a6, a7⟩ := h
 exact ⟨a1, a2, hl, a4, a5, hw, a7⟩
theorem write_mk {S : List (List UInt8)} {ws : List S_Write} {L a : Int} {b : List UInt8} (hr : runs (S_Disk.mk S ws L false) = true) (h0 : 0 <= a) (h1 : a < S.length) (hb : b.length <= 128) (hl : ws.length < 4096) : writeR (S_Disk.mk S ws L false) a b = (S_Disk.mk S (ws ++ [S_Write.mk a (pad b)]) L false, 0) := by
 unfold writeR
 have hh : has (S_Disk.mk S ws L false) a = true := by unfold has; simp [h0, h1]
 rw [hr, hh, Bool.and_self, if_pos rfl, if_neg (by omega), if_neg (by show ¬ ws.length = 4096; omega)]
theorem fits_mk {S : List (List UInt8)} {ws : List S_Write} {L : Int} {st : Bool} (h : S.length <= maxL) (h' : ws.length <= 4096) : fits (S_Disk.mk S ws L st) := ⟨h, by rw [mxl]; show ws.length <= _; omega⟩
end Go.Proofs.Ythoomfjliekbdaa
