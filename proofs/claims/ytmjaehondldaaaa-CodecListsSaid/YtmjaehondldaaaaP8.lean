/-
 Layer 01, in plain Lean: a value that is read.
-/
import Derived.Test.YtmjaehondldaaaaP7
namespace Go.Proofs.Ytmjaehondldaaaa
set_option linter.unusedVariables false
set_option linter.unusedSimpArgs false
set_option maxRecDepth 100000
set_option maxHeartbeats 4000000
theorem strEq_d (a b : ByteArray) : strEq a b = decide (a = b) := by
 rw [Bool.eq_iff_iff]
 unfold strEq
 rw [ByteArray.toList_eq, ByteArray.toList_eq]
 cases a; cases b
 simp
theorem emp_eq {s : ByteArray} : emp s = true ↔ s = ByteArray.empty := by
 unfold emp
 rw [strEq_d, decide_eq_true_iff]
 rfl
theorem num_pos (n : Nat) : 1 <= (num n).length := by rw [num]; split <;> simp
theorem deps_mem : ∀ {l : List S_Value} {x : S_Value}, x ∈ l -> dep x <= deps l
 | y :: r, x, h => by
  rw [deps_cons]
  rcases List.mem_cons.1 h with rfl | h
  ·omega
  ·have := deps_mem h; omega
end Go.Proofs.Ytmjaehondldaaaa
