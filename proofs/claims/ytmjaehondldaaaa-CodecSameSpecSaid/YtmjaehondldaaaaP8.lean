/-
 Layer 01, in plain Lean: a value that is read.
-/
import Derived.Test.YtmjaehondldaaaaP7
namespace Go.Proofs.Ytmjaehondldaaaa
set_option linter.unusedVariables false
set_option linter.unusedSimpArgs false
set_option maxRecDepth 100000
set_option maxHeartbeats 4000000
theorem strEq_d (a b : ByteArray) : strEq a b = decide (a = b) := by
 rw [Bool.eq_iff_iff]
 unfold strEq
 rw [ByteArray.toList_eq, ByteArray.toList_eq]
 cases a; cases b
 simp
end Go.Proofs.Ytmjaehondldaaaa
