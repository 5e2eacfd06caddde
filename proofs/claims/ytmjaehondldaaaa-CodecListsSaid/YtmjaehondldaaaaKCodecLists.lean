/-
 CodecLists: the statement holds.
-/
import Derived.Test.YtmjaehondldaaaaP13
import Derived.Test.YtmjaehondldaaaaL
import Derived.Test.YtmjaehondldaaaaOwn
import Derived.Test.YtmjaehondldaaaaChecked
import Derived.Test.YtmjaehondldaaaaRows
namespace Go.Proofs.Ytmjaehondldaaaa
open Go.RowKit Go.ChangeShapes Go.WideShapes Go.ChangeAt Go.Deep
set_option linter.unusedVariables false
set_option linter.unusedSimpArgs false
set_option maxRecDepth 100000
theorem codecLists_lifted (os : Os) (started : os.Started) (H : Type) (enc : TypeId × Value -> H) :
  ReturnsInHanded {} Try.checked os 8 .any (Rows.codecListsSpec.pre6 enc Try.prog Try.f8 Rows.codecListsRow.domain false) (Rows.codecListsSpec.post enc Try.prog Try.f8 false true false false) := by
 refine returnsInHanded_of_change (C := Try.checked) own started (by kernel_rfl) Try.func8
  (ChangeSpec.witness6 (enc := enc) (C := Try.checked) false ⟨#[], #[.slice none 0 0], []⟩ 8 (by kernel_rfl) (by kernel_rfl) (by kernel_rfl) (by kernel_rfl)) ?_
 intro W base args ds gs before hval hW _ _
 exact law_contract rfl rfl Try.underlying4 laidOut (by kernel_rfl) (fun ds h => (by match ds, h with | [_], _ => rfl)) W base args ds gs before hval hW (fun hg => walk8 pure8 W base args hg (fun G vs h => by cases h))
theorem codecLists_holds : Rows.CodecListsSaid :=
 OpenClaim.holds_of_wide 8 Try.f8 rfl rfl rfl rfl rfl rfl rfl ⟨rfl, rfl, rfl, rfl, rfl⟩ rfl rfl rfl rfl rfl (by kernel_rfl) Try.func8 (by kernel_rfl)
  (of_decide_eq_true (by kernel_rfl)) (by unfold Func.isWrapper; first | (rw [if_pos (by decide +kernel)]; kernel_rfl) | (rw [if_neg (by decide +kernel)]; exact ⟨rfl, rfl⟩))
  (fun os started H enc _ => codecLists_lifted os started H enc)
#print axioms codecLists_holds
end Go.Proofs.Ytmjaehondldaaaa
