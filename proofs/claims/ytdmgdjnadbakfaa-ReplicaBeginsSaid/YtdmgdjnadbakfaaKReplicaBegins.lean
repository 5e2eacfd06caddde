/-
 ReplicaBegins: the statement holds.
-/
import Derived.Test.YtdmgdjnadbakfaaM7
import Derived.Test.YtdmgdjnadbakfaaL
import Derived.Test.YtdmgdjnadbakfaaOwn
import Derived.Test.YtdmgdjnadbakfaaChecked
import Derived.Test.YtdmgdjnadbakfaaRows
namespace Go.Proofs.Ytdmgdjnadbakfaa
open Go.RowKit Go.ChangeShapes Go.WideShapes Go.ChangeAt Go.Deep
set_option linter.unusedVariables false
set_option linter.unusedSimpArgs false
set_option maxRecDepth 100000
theorem replicaBegins_lifted (os:Os) (started:os.Started) (H:Type) (enc:TypeId×Value->H) :
  ReturnsInHanded {} Try.checked os 5 .any (Rows.replicaBeginsSpec.pre6 enc Try.prog Try.f5 Rows.replicaBeginsRow.domain false) (Rows.replicaBeginsSpec.post enc Try.prog Try.f5 false true false false):=by
 refine returnsInHanded_of_change (C:=Try.checked) own started (by kernel_rfl) Try.func5
  (ChangeSpec.witness6 (enc:=enc) (C:=Try.checked) false ⟨#[],#[.agg #[.int .i64 0,.slice none 0 0,.slice none 0 0,.slice none 0 0],.int .u16 0],[]⟩ 8 (by kernel_rfl) (by kernel_rfl) (by kernel_rfl) (by kernel_rfl)) ?_
 intro W base args ds gs before hval hW _ _
 exact law_contract rfl rfl Try.underlying4 laidOut (by kernel_rfl) (fun ds h=>(by match ds,h with | [_,_],_=>rfl)) W base args ds gs before hval hW (fun hg=>walk5 pure5 W base args hg (fun G vs h=>by cases h))
theorem replicaBegins_holds:Rows.ReplicaBeginsSaid :=
 OpenClaim.holds_of_wide 5 Try.f5 rfl rfl rfl rfl rfl rfl rfl ⟨rfl,rfl,rfl,rfl,rfl⟩ rfl rfl rfl rfl rfl (by kernel_rfl) Try.func5 (by kernel_rfl)
  (of_decide_eq_true (by kernel_rfl)) (by unfold Func.isWrapper; first | (rw[if_pos (by decide +kernel)]; kernel_rfl) | (rw[if_neg (by decide +kernel)]; exact⟨rfl,rfl⟩))
  (fun os started H enc _=>replicaBegins_lifted os started H enc)
#print axioms replicaBegins_holds
end Go.Proofs.Ytdmgdjnadbakfaa
