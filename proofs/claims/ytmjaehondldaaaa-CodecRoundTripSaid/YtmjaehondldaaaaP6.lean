/-
 Layer 01, in plain Lean: EncodeSpec.
-/
import Derived.Test.YtmjaehondldaaaaP5
namespace Go.Proofs.Ytmjaehondldaaaa
set_option linter.unusedVariables false
set_option linter.unusedSimpArgs false
set_option maxRecDepth 100000
set_option maxHeartbeats 4000000
theorem few1 (v : S_Value) (hv : ok_S_Value v) : G11 [v] = some (fewB v) := by
 rw [g11 [v] (by simp) (by simpa using hv)]; simp
end Go.Proofs.Ytmjaehondldaaaa
