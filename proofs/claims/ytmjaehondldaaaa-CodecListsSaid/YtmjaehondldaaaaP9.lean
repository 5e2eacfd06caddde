/-
 Layer 01, in plain Lean: Decode.
-/
import Derived.Test.YtmjaehondldaaaaP8
namespace Go.Proofs.Ytmjaehondldaaaa
set_option linter.unusedVariables false
set_option linter.unusedSimpArgs false
set_option maxRecDepth 100000
set_option maxHeartbeats 4000000
theorem app56 (l : List S_Value) (x : S_Value) (h : l.length <= 1000000) : appI 56 l [x] = some (l ++ [x]) := appI_some _ _ _ (by rw [lim]; simp; omega)
theorem b1 {b : UInt8} (n : Nat) (h : n < 256) : (wr .i64 ((b.toNat : Int)) == (n : Int)) = decide (b.toNat = n) := by
 have := b.toNat_lt
 rw [wr64 (by omega) (by omega), Bool.eq_iff_iff]
 simp
 omega
end Go.Proofs.Ytmjaehondldaaaa
