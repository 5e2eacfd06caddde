/-
  DiskTogether: the statement holds.
-/
import Derived.Test.YthoomfjliekbdaaP6
import Derived.Test.YthoomfjliekbdaaL
import Derived.Test.YthoomfjliekbdaaOwn
import Derived.Test.YthoomfjliekbdaaChecked
import Derived.Test.YthoomfjliekbdaaRows
namespace Go.Proofs.Ythoomfjliekbdaa
open Go.RowKit Go.ChangeShapes Go.WideShapes Go.ChangeAt Go.Deep
set_option linter.unusedVariables false
set_option linter.unusedSimpArgs false
set_option maxRecDepth 100000
theorem diskTogether_lifted (os : Os) (started : os.Started) (H : Type) (enc : TypeId × Value → H) :
    ReturnsInHanded {} Try.checked os 8 .any (Rows.diskTogetherSpec.pre6 enc Try.prog Try.f8 Rows.diskTogetherRow.domain false) (Rows.diskTogetherSpec.post enc Try.prog Try.f8 false true false false) := by
  refine returnsInHanded_of_change (C := Try.checked) own started (by kernel_rfl) Try.func8
    (ChangeSpec.witness6 (enc := enc) (C := Try.checked) false ⟨#[], #[.agg #[.slice none 0 0, .slice none 0 0, .int .i64 0, .bool false], .slice none 0 0], []⟩ 8 (by kernel_rfl) (by kernel_rfl) (by kernel_rfl) (by kernel_rfl)) ?_
  intro W base args ds gs before hval hW _ _
  exact law_contract rfl rfl Try.underlying4 laidOut (by kernel_rfl) (fun ds h => (by match ds, h with | [_, _], _ => rfl)) W base args ds gs before hval hW (fun hg => walk8 pure8 W base args hg (fun G vs h => by cases h))
/-- THE STATEMENT. -/
theorem diskTogether_holds : Rows.DiskTogetherSaid :=
  OpenClaim.holds_of_wide 8 Try.f8 rfl rfl rfl rfl rfl rfl rfl ⟨rfl, rfl, rfl, rfl, rfl⟩ rfl rfl rfl rfl rfl (by kernel_rfl) Try.func8 (by kernel_rfl)
    (of_decide_eq_true (by kernel_rfl)) (by unfold Func.isWrapper; first | (rw [if_pos (by decide +kernel)]; kernel_rfl) | (rw [if_neg (by decide +kernel)]; exact ⟨rfl, rfl⟩))
    (fun os started H enc _ => diskTogether_lifted os started H enc)
#print axioms diskTogether_holds
end Go.Proofs.Ythoomfjliekbdaa
