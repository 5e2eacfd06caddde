/-
 Layer 01, in plain Lean: what is written.
-/
import Derived.Test.YtmjaehondldaaaaP2
namespace Go.Proofs.Ytmjaehondldaaaa
set_option linter.unusedVariables false
set_option linter.unusedSimpArgs false
set_option maxRecDepth 100000
set_option maxHeartbeats 4000000
mutual
def encV : S_Value -> List UInt8
 | .mk k n s l => bif k == 1 then 1 :: num (zig n) else bif k == 2 then 2 :: (num s.size ++ bstrL s) else 3 :: (num l.length ++ encs l)
def encs : List S_Value -> List UInt8
 | [] => []
 | x :: r => encV x ++ encs r
end
theorem encV_eq (v : S_Value) : encV v = bif v.Kind == 1 then 1 :: num (zig v.N) else bif v.Kind == 2 then 2 :: (num v.S.size ++ bstrL v.S) else 3 :: (num v.L.length ++ encs v.L) := by cases v; rw [encV]
theorem encs_nil : encs [] = [] := by rw [encs]
theorem encs_cons (x : S_Value) (r : List S_Value) : encs (x :: r) = encV x ++ encs r := by rw [encs]
theorem bstr_len (s : ByteArray) : (bstrL s).length = s.size := rfl
mutual
theorem enc_len : ∀ (v : S_Value), ok_S_Value v -> nod v <= 1000000 -> (encV v).length <= 420 * nod v
 | .mk k n s l, h, hn => by
  rw [ok_S_Value] at h
  obtain ⟨⟨_, h2, _, _⟩, h5⟩ := h
  rw [nod] at hn
  have h1 := encs_len l h5 (by omega)
  have h3 := nods_len l
  rw [encV, nod]
  have l1 := num_10 (n := zig n) (zig_lt h2)
  have l2 := num_10 (n := s.size) (by omega)
  have l3 := num_10 (n := l.length) (by omega)
  cases k == 1 with
  | true => simp only [cond_true, List.length_cons]; omega
  | false =>
   cases k == 2 with
   | true => simp only [cond_true, cond_false, List.length_cons, List.length_append, bstr_len]; omega
   | false => simp only [cond_false, List.length_cons, List.length_append]; omega
theorem encs_len : ∀ (l : List S_Value), oks_S_Value l -> nods l <= 1000000 -> (encs l).length <= 420 * nods l
 | [], _, _ => by rw [encs_nil, nods_nil]; simp
 | x :: r, h, hn => by
  rw [oks_S_Value] at h
  rw [nods_cons] at hn ⊢
  have h1 := enc_len x h.1 (by omega)
  have h2 := encs_len r h.2 (by omega)
  rw [encs_cons, List.length_append]; omega
end
theorem encs_small {v : S_Value} (h : ok_S_Value v) (hn : nod v <= 1000000) : (encs v.L).length <= 420000000 := by
 have h4 := ((okq_S_Value v).1 h).2.2.2.2
 rw [nod_eq] at hn
 have := encs_len v.L ((oksq_S_Value _).2 h4) (by omega); omega
theorem size_small {v : S_Value} (hn : nod v <= 1000000) : v.S.size <= 200000000 := by rw [nod_eq] at hn; omega
theorem loop27 (self : S_Value -> Option (List UInt8)) (n : Nat) (z : List UInt8) (v : S_Value) (hv : ok_S_Value v) (hn : nod v <= 1000000) (hself : ∀ e ∈ v.L, self e = some (encV e)) :
  ∀ (k m i : Nat) (l : List UInt8), i + k = v.L.length -> k < m -> l.length + (encs (v.L.drop i)).length <= 140737488355328 -> F27_27_0 self n z v m (i : Int) l = some (l ++ encs (v.L.drop i))
 | 0, m, i, l, h1, h2, h3 => by
  obtain ⟨m, rfl⟩ : ∃ q, m = q + 1 := ⟨m - 1, by omega⟩
  rw [F27_27_0, decide_eq_false (by omega), List.drop_eq_nil_iff.2 (by omega), encs_nil, List.append_nil]
  rfl
 | k + 1, m, i, l, h1, h2, h3 => by
  obtain ⟨m, rfl⟩ : ∃ q, m = q + 1 := ⟨m - 1, by omega⟩
  have hi : i < v.L.length := by omega
  have hl := nods_len v.L
  have hn' := hn
  rw [nod_eq] at hn'
  rw [List.drop_eq_getElem_cons hi, encs_cons, List.length_append] at h3
  rw [F27_27_0, decide_eq_true (by omega), List.drop_eq_getElem_cons hi, encs_cons]
  simp only [cond_true, getI_nat, List.getElem?_eq_getElem hi, Option.bind_some, hself _ (List.getElem_mem hi)]
  rw [app1 _ _ (by omega), Option.bind_some, wr64 (by omega) (by omega), show (i : Int) + 1 = ((i + 1 : Nat) : Int) by omega]
  rw [loop27 self n z v hv hn hself k m (i + 1) _ (by omega) (by omega) (by rw [List.length_append]; omega), List.append_assoc]
theorem wun (n : Nat) (h : n < 18446744073709551616) : wr .u64 (n : Int) = (n : Int) := by rw [wu64]; omega
theorem r27 : ∀ (q : Nat) (v : S_Value), ok_S_Value v -> nod v <= q -> nod v <= 1000000 -> R27 q v = some (encV v)
 | 0, v, _, h, _ => by have := nod_pos v; omega
 | q + 1, v, hv, h, hn => by
  obtain ⟨_, h2, _, _, h4⟩ := (okq_S_Value v).1 hv
  have hs := size_small hn
  have he := encs_small hv hn
  have hl := nods_len v.L
  have hn' := hn
  rw [nod_eq] at hn' h
  have l1 := num_10 (n := zig v.N) (zig_lt h2)
  have l2 := num_10 (n := v.S.size) (by omega)
  have l3 := num_10 (n := v.L.length) (by omega)
  show F27 (R27 q) fuel0 v = _
  unfold F27
  rw [encV_eq]
  cases hk1 : v.Kind == 1 with
  | true =>
   simp only [cond_true, g43 _ h2, Option.bind_some, g42 _ (zig_lt h2)]
   rw [app1 _ _ (by simp; omega)]; rfl
  | false =>
   cases hk2 : v.Kind == 2 with
   | true =>
    simp only [cond_true, cond_false]
    rw [wun _ (by omega), g42 _ (by omega), Option.bind_some, app1 _ _ (by simp; omega), Option.bind_some, app1 _ _ (by simp [bstr_len]; omega)]
    simp
   | false =>
    simp only [cond_false]
    rw [wun _ (by omega), g42 _ (by omega), Option.bind_some, app1 _ _ (by simp; omega), Option.bind_some]
    have := loop27 (R27 q) fuel0 [] v hv hn (fun e he => by
     have := nods_mem he
     exact r27 q e (h4 e he) (by omega) (by omega)) v.L.length (fuel0 + 8) 0 ([(3 : UInt8)] ++ num v.L.length) (by omega) (by rw [fu]; omega) (by rw [List.drop_zero]; simp; omega)
    rw [show ((0 : Nat) : Int) = 0 from rfl, List.drop_zero] at this
    rw [this]
    simp
theorem g27 (v : S_Value) (hv : ok_S_Value v) (hn : nod v <= 1000000) : G27 v = some (encV v) := r27 fuel0 v hv (by rw [fu]; omega) hn
end Go.Proofs.Ytmjaehondldaaaa
