/-
 Layer 01, in plain Lean: EncodeSpec.
-/
import Derived.Test.YtmjaehondldaaaaP5
namespace Go.Proofs.Ytmjaehondldaaaa
set_option linter.unusedVariables false
set_option linter.unusedSimpArgs false
set_option maxRecDepth 100000
set_option maxHeartbeats 4000000
theorem strEq_refl (s : ByteArray) : strEq s s = true := by unfold strEq; exact beq_self_eq_true _
end Go.Proofs.Ytmjaehondldaaaa
