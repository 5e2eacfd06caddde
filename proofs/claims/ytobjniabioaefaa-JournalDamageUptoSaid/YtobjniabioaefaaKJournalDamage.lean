/-
 JournalDamage: the statement holds.
-/
import Derived.Test.YtobjniabioaefaaQ14
import Derived.Test.YtobjniabioaefaaL
import Derived.Test.YtobjniabioaefaaOwn
import Derived.Test.YtobjniabioaefaaChecked
import Derived.Test.YtobjniabioaefaaRows
namespace Go.Proofs.Ytobjniabioaefaa
open Go.RowKit Go.ChangeShapes Go.WideShapes Go.ChangeAt Go.Deep
set_option linter.unusedVariables false
set_option linter.unusedSimpArgs false
set_option maxRecDepth 100000
theorem journalDamage_lifted (os : Os) (started : os.Started) (H : Type) (enc : TypeId × Value -> H) (F : Stop.Interp) :
  ReturnsInHanded {} Try.checked os 7 .any ((Rows.OpenSpec.upto Rows.journalDamageSpec).pre6 enc Try.prog Try.f7 Rows.journalDamageUptoRow.domain false) (((Rows.OpenSpec.upto Rows.journalDamageSpec).at F).post enc Try.prog Try.f7 false true false false) := by
 refine returnsInHanded_of_cond (C := Try.checked) (k := Rows.uptoSmall) rfl own started (by kernel_rfl) Try.func7
  (OpenSpec.witness (enc := enc) (C := Try.checked) (k := Rows.uptoSmall) rfl false ⟨#[], #[.slice none 0 0, .int .i64 0, .int .i64 0, .int .u8 0], []⟩ 8 (by kernel_rfl) (by kernel_rfl) (by kernel_rfl) (x := ([.nil, .lit (.int .i64 0), .lit (.int .i64 0), .lit (.int .u8 0)], [], [])) (by kernel_rfl) (by kernel_rfl) (by kernel_rfl)) ?_
 intro W base args ds gs before hval hW _ hk _
 exact law_contractU (s := Rows.journalDamageSpec) rfl rfl Try.underlying4 laidOut (by kernel_rfl) (fun ds h => (by match ds, h with | [_, _, _, _], _ => rfl)) W base args ds gs before hval hW hk (fun hg => walk7 pure7 W base args hg (fun G vs h => by cases h))
theorem journalDamage_holds : Rows.JournalDamageUptoSaid :=
 OpenClaim.holds_of_cond 7 Try.f7 rfl rfl rfl rfl rfl rfl rfl ⟨rfl, rfl, rfl, rfl, rfl⟩ rfl rfl rfl rfl rfl (by kernel_rfl) Try.func7 (by kernel_rfl)
  (of_decide_eq_true (by kernel_rfl)) (by unfold Func.isWrapper; first | (rw [if_pos (by decide +kernel)]; kernel_rfl) | (rw [if_neg (by decide +kernel)]; exact ⟨rfl, rfl⟩))
  (fun os started H enc _ F => by rw [OpenClaim.pre_of_none' rfl]; exact journalDamage_lifted os started H enc F)
#print axioms journalDamage_holds
end Go.Proofs.Ytobjniabioaefaa
