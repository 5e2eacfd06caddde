/-
 CodecDifferent: the statement holds.
-/
import Derived.Test.YtmjaehondldaaaaP12
import Derived.Test.YtmjaehondldaaaaL
import Derived.Test.YtmjaehondldaaaaOwn
import Derived.Test.YtmjaehondldaaaaChecked
import Derived.Test.YtmjaehondldaaaaRows
namespace Go.Proofs.Ytmjaehondldaaaa
open Go.RowKit Go.ChangeShapes Go.WideShapes Go.ChangeAt Go.Deep
set_option linter.unusedVariables false
set_option linter.unusedSimpArgs false
set_option maxRecDepth 100000
theorem codecDifferent_lifted (os : Os) (started : os.Started) (H : Type) (enc : TypeId × Value -> H) :
  ReturnsInHanded {} Try.checked os 7 .any (Rows.codecDifferentSpec.pre6 enc Try.prog Try.f7 Rows.codecDifferentRow.domain false) (Rows.codecDifferentSpec.post enc Try.prog Try.f7 false true false false) := by
 refine returnsInHanded_of_change (C := Try.checked) own started (by kernel_rfl) Try.func7
  (ChangeSpec.witness6 (enc := enc) (C := Try.checked) false ⟨#[], #[.agg #[.int .i64 0, .int .i64 0, .string ⟨#[]⟩, .slice none 0 0], .agg #[.int .i64 0, .int .i64 0, .string ⟨#[]⟩, .slice none 0 0]], []⟩ 8 (by kernel_rfl) (by kernel_rfl) (by kernel_rfl) (by kernel_rfl)) ?_
 intro W base args ds gs before hval hW _ _
 exact law_contract rfl rfl Try.underlying4 laidOut (by kernel_rfl) (fun ds h => (by match ds, h with | [_, _], _ => rfl)) W base args ds gs before hval hW (fun hg => walk7 pure7 W base args hg (fun G vs h => by cases h))
theorem codecDifferent_holds : Rows.CodecDifferentSaid :=
 OpenClaim.holds_of_wide 7 Try.f7 rfl rfl rfl rfl rfl rfl rfl ⟨rfl, rfl, rfl, rfl, rfl⟩ rfl rfl rfl rfl rfl (by kernel_rfl) Try.func7 (by kernel_rfl)
  (of_decide_eq_true (by kernel_rfl)) (by unfold Func.isWrapper; first | (rw [if_pos (by decide +kernel)]; kernel_rfl) | (rw [if_neg (by decide +kernel)]; exact ⟨rfl, rfl⟩))
  (fun os started H enc _ => codecDifferent_lifted os started H enc)
#print axioms codecDifferent_holds
end Go.Proofs.Ytmjaehondldaaaa
