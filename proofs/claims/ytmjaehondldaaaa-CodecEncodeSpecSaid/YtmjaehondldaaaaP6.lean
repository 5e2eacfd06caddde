/-
 Layer 01, in plain Lean: EncodeSpec.
-/
import Derived.Test.YtmjaehondldaaaaP5
namespace Go.Proofs.Ytmjaehondldaaaa
set_option linter.unusedVariables false
set_option linter.unusedSimpArgs false
set_option maxRecDepth 100000
set_option maxHeartbeats 4000000
theorem strEq_refl (s : ByteArray) : strEq s s = true := by unfold strEq; exact beq_self_eq_true _
theorem few1 (v : S_Value) (hv : ok_S_Value v) : G11 [v] = some (fewB v) := by
 rw [g11 [v] (by simp) (by simpa using hv)]; simp
theorem pure3 : Pure3 := by
 intro v hv
 unfold G3 F3
 rw [sane10, Option.bind_some]
 simp only [Bool.not_true, cond_false, few1 v hv, Option.bind_some]
 cases hf : fewB v with
 | false => rfl
 | true =>
  have hn : nod v <= 1000000 := by have := few_nod hf; omega
  simp only [Bool.not_true, cond_false, g12 v hv hn, g13 v hv hn, g14 v hv hn, g15 v hv hn, g16 v hn, g17 v hn, Option.bind_some, strEq_refl, beq_self_eq_true, cond_true]
end Go.Proofs.Ytmjaehondldaaaa
