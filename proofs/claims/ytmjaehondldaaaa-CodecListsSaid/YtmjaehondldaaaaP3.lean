/-
 Layer 01, in plain Lean: what is written.
-/
import Derived.Test.YtmjaehondldaaaaP2
namespace Go.Proofs.Ytmjaehondldaaaa
set_option linter.unusedVariables false
set_option linter.unusedSimpArgs false
set_option maxRecDepth 100000
set_option maxHeartbeats 4000000
mutual
def encV : S_Value -> List UInt8
 | .mk k n s l => bif k == 1 then 1 :: num (zig n) else bif k == 2 then 2 :: (num s.size ++ bstrL s) else 3 :: (num l.length ++ encs l)
def encs : List S_Value -> List UInt8
 | [] => []
 | x :: r => encV x ++ encs r
end
theorem encV_eq (v : S_Value) : encV v = bif v.Kind == 1 then 1 :: num (zig v.N) else bif v.Kind == 2 then 2 :: (num v.S.size ++ bstrL v.S) else 3 :: (num v.L.length ++ encs v.L) := by cases v; rw [encV]
theorem encs_nil : encs [] = [] := by rw [encs]
theorem encs_cons (x : S_Value) (r : List S_Value) : encs (x :: r) = encV x ++ encs r := by rw [encs]
theorem encs_app : ∀ (a b : List S_Value), encs (a ++ b) = encs a ++ encs b
 | [], b => by rw [encs_nil]; rfl
 | x :: r, b => by rw [List.cons_append, encs_cons, encs_cons, encs_app r b, List.append_assoc]
theorem bstr_len (s : ByteArray) : (bstrL s).length = s.size := rfl
mutual
theorem enc_len : ∀ (v : S_Value), ok_S_Value v -> nod v <= 1000000 -> (encV v).length <= 420 * nod v
 | .mk k n s l, h, hn => by
  rw [ok_S_Value] at h
  obtain ⟨⟨_, h2, _, _⟩, h5⟩ := h
  rw [nod] at hn
  have h1 := encs_len l h5 (by omega)
  have h3 := nods_len l
  rw [encV, nod]
  have l1 := num_10 (n := zig n) (zig_lt h2)
  have l2 := num_10 (n := s.size) (by omega)
  have l3 := num_10 (n := l.length) (by omega)
  cases k == 1 with
  | true => simp only [cond_true, List.length_cons]; omega
  | false =>
   cases k == 2 with
   | true => simp only [cond_true, cond_false, List.length_cons, List.length_append, bstr_len]; omega
   | false => simp only [cond_false, List.length_cons, List.length_append]; omega
theorem encs_len : ∀ (l : List S_Value), oks_S_Value l -> nods l <= 1000000 -> (encs l).length <= 420 * nods l
 | [], _, _ => by rw [encs_nil, nods_nil]; simp
 | x :: r, h, hn => by
  rw [oks_S_Value] at h
  rw [nods_cons] at hn ⊢
  have h1 := enc_len x h.1 (by omega)
  have h2 := encs_len r h.2 (by omega)
  rw [encs_cons, List.length_append]; omega
end
theorem enc_small {v : S_Value} (h : ok_S_Value v) (hn : nod v <= 1000000) : (encV v).length <= 420000000 := by have := enc_len v h hn; omega
theorem size_small {v : S_Value} (hn : nod v <= 1000000) : v.S.size <= 200000000 := by rw [nod_eq] at hn; omega
theorem wun (n : Nat) (h : n < 18446744073709551616) : wr .u64 (n : Int) = (n : Int) := by rw [wu64]; omega
end Go.Proofs.Ytmjaehondldaaaa
