/-
 ReplicaNever: the statement holds.
-/
import Derived.Test.YtdmgdjnadbakfaaN4
import Derived.Test.YtdmgdjnadbakfaaL
import Derived.Test.YtdmgdjnadbakfaaOwn
import Derived.Test.YtdmgdjnadbakfaaChecked
import Derived.Test.YtdmgdjnadbakfaaRows
namespace Go.Proofs.Ytdmgdjnadbakfaa
open Go.RowKit Go.ChangeShapes Go.WideShapes Go.ChangeAt Go.Deep
set_option linter.unusedVariables false
set_option linter.unusedSimpArgs false
set_option maxRecDepth 100000
theorem nL (os:Os) (started:os.Started) (H:Type) (enc:TypeId×Value->H) :
  ReturnsInHanded {} Try.checked os 4 .any (Rows.replicaNeverSpec.pre6 enc Try.prog Try.f4 Rows.replicaNeverRow.domain false) (Rows.replicaNeverSpec.post enc Try.prog Try.f4 false true false false):=by
 refine returnsInHanded_of_change (C:=Try.checked) own started (by kernel_rfl) Try.func4
  (ChangeSpec.witness6 (enc:=enc) (C:=Try.checked) false ⟨#[],#[.int .i64 0,.int .i64 0,.slice none 0 0],[]⟩ 8 (by kernel_rfl) (by kernel_rfl) (by kernel_rfl) (by kernel_rfl)) ?_
 intro W base args ds gs before hval hW _ _
 exact vx rfl rfl Try.underlying4 laidOut (by kernel_rfl) (fun ds h=>(by match ds,h with | [_,_,_],_=>rfl)) W base args ds gs before hval hW (fun hg=>JG Jp W base args hg (fun G vs h=>by cases h))
theorem replicaNever_holds:Rows.ReplicaNeverSaid :=
 OpenClaim.holds_of_wide 4 Try.f4 rfl rfl rfl rfl rfl rfl rfl ⟨rfl,rfl,rfl,rfl,rfl⟩ rfl rfl rfl rfl rfl (by kernel_rfl) Try.func4 (by kernel_rfl)
  (of_decide_eq_true (by kernel_rfl)) (by unfold Func.isWrapper; first | (rw[if_pos (by decide +kernel)]; kernel_rfl) | (rw[if_neg (by decide +kernel)]; exact⟨rfl,rfl⟩))
  (fun os started H enc _=>nL os started H enc)
#print axioms replicaNever_holds
end Go.Proofs.Ytdmgdjnadbakfaa
