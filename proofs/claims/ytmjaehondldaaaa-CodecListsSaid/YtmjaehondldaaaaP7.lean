/-
 Layer 01, in plain Lean: a number that is read.
-/
import Derived.Test.YtmjaehondldaaaaP6
namespace Go.Proofs.Ytmjaehondldaaaa
set_option linter.unusedVariables false
set_option linter.unusedSimpArgs false
set_option maxRecDepth 100000
set_option maxHeartbeats 4000000
theorem pw (c : Nat) : 2 ^ (7 * (c + 1)) = 128 * 2 ^ (7 * c) := by rw [Nat.mul_add, Nat.pow_add]; omega
end Go.Proofs.Ytmjaehondldaaaa
