/-
 JournalSyncSpec: the statement holds.
-/
import Derived.Test.YtobjniabioaefaaQ10
import Derived.Test.YtobjniabioaefaaL
import Derived.Test.YtobjniabioaefaaOwn
import Derived.Test.YtobjniabioaefaaChecked
import Derived.Test.YtobjniabioaefaaRows
namespace Go.Proofs.Ytobjniabioaefaa
open Go.RowKit Go.ChangeShapes Go.WideShapes Go.ChangeAt Go.Deep
set_option linter.unusedVariables false
set_option linter.unusedSimpArgs false
set_option maxRecDepth 100000
theorem journalSyncSpec_lifted (os : Os) (started : os.Started) (H : Type) (enc : TypeId × Value -> H) (F : Stop.Interp) :
  ReturnsInHanded {} Try.checked os 5 .any ((Rows.OpenSpec.upto Rows.journalSyncSpecSpec).pre6 enc Try.prog Try.f5 Rows.journalSyncSpecUptoRow.domain false) (((Rows.OpenSpec.upto Rows.journalSyncSpecSpec).at F).post enc Try.prog Try.f5 false true false false) := by
 refine returnsInHanded_of_cond (C := Try.checked) (k := Rows.uptoSmall) rfl own started (by kernel_rfl) Try.func5
  (OpenSpec.witness (enc := enc) (C := Try.checked) (k := Rows.uptoSmall) rfl false ⟨#[], #[.agg #[.slice none 0 0, .int .i64 0, .int .i64 0], .agg #[.slice none 0 0, .slice none 0 0, .int .i64 0, .bool false]], []⟩ 8 (by kernel_rfl) (by kernel_rfl) (by kernel_rfl) (x := ([.agg [.nil, .lit (.int .i64 0), .lit (.int .i64 0)], .agg [.nil, .nil, .lit (.int .i64 0), .lit (.bool false)]], [], [])) (by kernel_rfl) (by kernel_rfl) (by kernel_rfl)) ?_
 intro W base args ds gs before hval hW _ hk _
 exact law_contractU (s := Rows.journalSyncSpecSpec) rfl rfl Try.underlying4 laidOut (by kernel_rfl) (fun ds h => (by match ds, h with | [_, _], _ => rfl)) W base args ds gs before hval hW hk (fun hg => walk5 pure5 W base args hg (fun G vs h => by cases h))
theorem journalSyncSpec_holds : Rows.JournalSyncSpecUptoSaid :=
 OpenClaim.holds_of_cond 5 Try.f5 rfl rfl rfl rfl rfl rfl rfl ⟨rfl, rfl, rfl, rfl, rfl⟩ rfl rfl rfl rfl rfl (by kernel_rfl) Try.func5 (by kernel_rfl)
  (of_decide_eq_true (by kernel_rfl)) (by unfold Func.isWrapper; first | (rw [if_pos (by decide +kernel)]; kernel_rfl) | (rw [if_neg (by decide +kernel)]; exact ⟨rfl, rfl⟩))
  (fun os started H enc _ F => by rw [OpenClaim.pre_of_none' rfl]; exact journalSyncSpec_lifted os started H enc F)
#print axioms journalSyncSpec_holds
end Go.Proofs.Ytobjniabioaefaa
