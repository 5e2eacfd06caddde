/-
 Layer 01, in plain Lean: RoundTrip and Different.
-/
import Derived.Test.YtmjaehondldaaaaP11
namespace Go.Proofs.Ytmjaehondldaaaa
set_option linter.unusedVariables false
set_option linter.unusedSimpArgs false
set_option maxRecDepth 100000
set_option maxHeartbeats 4000000
theorem encR_2 (v : S_Value) : (encR v).2 = chk v := by
 unfold encR
 cases h : chk v == 0 with
 | true =>
  show 0 = chk v
  have : chk v = 0 := by simpa using h
  omega
 | false => rfl
theorem encR_0 {v : S_Value} (h : chk v = 0) : encR v = (encV v, 0) := by unfold encR; rw [h]; rfl
end Go.Proofs.Ytmjaehondldaaaa
