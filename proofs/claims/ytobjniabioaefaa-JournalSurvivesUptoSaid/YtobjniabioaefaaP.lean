/-
 Layer 05, in plain Lean: appending and room, within the bulk that the statements' second form bounds.
-/
import Derived.Test.YtobjniabioaefaaP0
namespace Go.Proofs.Ytobjniabioaefaa
set_option linter.unusedVariables false
set_option linter.unusedSimpArgs false
set_option maxRecDepth 100000
set_option maxHeartbeats 4000000
theorem wt_bytes (b : List UInt8) : wtL wt1 b = b.length + 1 := by
 unfold wtL
 congr 1
 induction b with
 | nil => rfl
 | cons x b ih => rw [List.map_cons, List.sum_cons, ih, List.length_cons]; show 1 + _ = _; omega
theorem wt_recs (l : List (List UInt8)) : wtL (wtL wt1) l = bsum l + 1 := by
 unfold wtL
 congr 1
 unfold bsum
 congr 1
 refine List.map_congr_left fun b _ => wt_bytes b
end Go.Proofs.Ytobjniabioaefaa
