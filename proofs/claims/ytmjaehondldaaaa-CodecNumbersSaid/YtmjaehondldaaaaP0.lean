/-
 Layer 01, in plain Lean: what is small enough to be looked at.
-/
import Derived.Test.YtmjaehondldaaaaL
import Derived.Test.YtmjaehondldaaaaPure
import Derived.KernelRfl
namespace Go.Proofs.Ytmjaehondldaaaa
set_option linter.unusedVariables false
set_option linter.unusedSimpArgs false
set_option maxRecDepth 100000
set_option maxHeartbeats 4000000
theorem fu : fuel0 = 1208925819614629174706176 := rfl
theorem sane10 : G10 = some true := by kernel_rfl
mutual
def nod : S_Value -> Nat
 | .mk _ _ s l => 1 + s.size / 200 + nods l
def nods : List S_Value -> Nat
 | [] => 0
 | x :: r => nod x + nods r
end
theorem nod_eq (v : S_Value) : nod v = 1 + v.S.size / 200 + nods v.L := by cases v; rw [nod]
theorem nod_pos (v : S_Value) : 1 <= nod v := by rw [nod_eq]; omega
theorem nods_nil : nods [] = 0 := by rw [nods]
theorem nods_cons (x : S_Value) (r : List S_Value) : nods (x :: r) = nod x + nods r := by rw [nods]
theorem nods_len : ∀ l : List S_Value, l.length <= nods l
 | [] => Nat.zero_le _
 | x :: r => by rw [nods_cons, List.length_cons]; have := nods_len r; have := nod_pos x; omega
theorem nods_mem : ∀ {l : List S_Value} {x : S_Value}, x ∈ l -> nod x <= nods l
 | y :: r, x, h => by
  rw [nods_cons]
  rcases List.mem_cons.1 h with rfl | h
  ·omega
  ·have := nods_mem h; omega
end Go.Proofs.Ytmjaehondldaaaa
