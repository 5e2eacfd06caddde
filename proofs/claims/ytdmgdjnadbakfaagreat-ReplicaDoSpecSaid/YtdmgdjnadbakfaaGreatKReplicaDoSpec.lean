/-
 ReplicaDoSpec: the statement holds.
-/
import Derived.Test.YtdmgdjnadbakfaaGreatOwn
import Derived.Test.YtdmgdjnadbakfaaGreatChecked
import Derived.Test.YtdmgdjnadbakfaaGreatRows
namespace Go.Proofs.YtdmgdjnadbakfaaGreat
open Go.RowKit Go.ChangeShapes Go.WideShapes Go.ChangeAt Go.Deep
set_option linter.unusedVariables false
set_option linter.unusedSimpArgs false
set_option maxRecDepth 100000
set_option linter.defProp false
theorem ox (os:Os) (started:os.Started) (H:Type) (enc:TypeId×Value->H) :
  ReturnsInHanded {} Tryz.checked os 3 .any (Rows.replicaDoSpecSpec.pre6 enc Tryz.prog Tryz.f3 Rows.replicaDoSpecRow.domain false) (Rows.replicaDoSpecSpec.post enc Tryz.prog Tryz.f3 false true false false):=by
 refine returnsInHanded_of_change (C:=Tryz.checked) own started j9 Tryz.func3
  (ChangeSpec.witness6 (enc:=enc) (C:=Tryz.checked) false ⟨#[],#[.agg #[.int .i64 0,.slice none 0 0,.slice none 0 0,.slice none 0 0,.int .i64 0,.slice none 0 0,.slice none 0 0,.slice none 0 0,.int .i64 0,.int .i64 0,.slice none 0 0,.slice none 0 0,.slice none 0 0],.agg #[.int .i64 0,.int .i64 0,.int .i64 0,.int .i64 0],.int .i64 0,.int .i64 0],[]⟩ 8 j9 j9 j9 j9) ?_
 intro W base args ds gs before hval hW _ _
 exact xr rfl rfl Tryz.underlying4 laidOut j9 (fun ds h=>(by match ds,h with | [_,_,_,_],_=>rfl)) W base args ds gs before hval hW (fun hg=>On NQ W base args hg (fun G vs h=>by cases h))
theorem replicaDoSpec_holds:Rows.ReplicaDoSpecSaid:=
 OpenClaim.holds_of_wide 3 Tryz.f3 rfl rfl rfl rfl rfl rfl rfl ⟨rfl,rfl,rfl,rfl,rfl⟩ rfl rfl rfl rfl rfl j9 Tryz.func3 j9
  (X7 j9) (by unfold Func.isWrapper; first | (rw[X4 (by decide +kernel)]; kernel_rfl) | (rw[X8 (by decide +kernel)]; exact⟨rfl,rfl⟩))
  (fun os started H enc _=>ox os started H enc)
#print axioms replicaDoSpec_holds
end Go.Proofs.YtdmgdjnadbakfaaGreat
