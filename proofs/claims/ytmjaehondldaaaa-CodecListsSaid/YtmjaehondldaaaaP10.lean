/-
 Layer 01, in plain Lean: the reference's Decode.
-/
import Derived.Test.YtmjaehondldaaaaP9
namespace Go.Proofs.Ytmjaehondldaaaa
set_option linter.unusedVariables false
set_option linter.unusedSimpArgs false
set_option maxRecDepth 100000
set_option maxHeartbeats 4000000
end Go.Proofs.Ytmjaehondldaaaa
