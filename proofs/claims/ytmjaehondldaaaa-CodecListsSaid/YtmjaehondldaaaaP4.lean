/-
 Layer 01, in plain Lean: what the writer writes.
-/
import Derived.Test.YtmjaehondldaaaaP3
namespace Go.Proofs.Ytmjaehondldaaaa
set_option linter.unusedVariables false
set_option linter.unusedSimpArgs false
set_option maxRecDepth 100000
set_option maxHeartbeats 4000000
theorem frms_mem : ∀ {l : List S_Value}, frms l = true -> ∀ e ∈ l, frm e = true
 | x :: r, h, e, he => by
  rw [frms_cons, Bool.and_eq_true] at h
  rcases List.mem_cons.1 he with rfl | he
  ·exact h.1
  ·exact frms_mem h.2 e he
theorem frm_kind {v : S_Value} (h : frm v = true) : v.Kind = 1 ∨ v.Kind = 2 ∨ (v.Kind = 3 /\ frms v.L = true) := by
 rw [frm_eq] at h
 cases h1 : v.Kind == 1 with
 | true => exact .inl (by simpa using h1)
 | false =>
  cases h2 : v.Kind == 2 with
  | true => exact .inr (.inl (by simpa using h2))
  | false =>
   cases h3 : v.Kind == 3 with
   | true =>
    rw [h1, h2, h3] at h
    simp only [cond_true, cond_false, Bool.and_eq_true] at h
    exact .inr (.inr ⟨by simpa using h3, h.1⟩)
   | false => rw [h1, h2, h3] at h; cases h
theorem fin8 {y : Nat} (h : y < 128) {β : Type} (k : List UInt8 -> Option β) (l : List UInt8) (hl : l.length <= 1000000000000) :
  (bif (decide (0 <= (wr .u8 (y : Int))) && decide ((wr .u8 (y : Int)) < 256)) then Option.bind (appI 1 l ([(UInt8.ofNat (Int.toNat (wr .u8 (y : Int))))])) k else none) = k (l ++ [UInt8.ofNat y]) := by
 rw [u8y h, decide_eq_true (by omega), decide_eq_true (by omega), app1 _ _ (by simp; omega), Int.toNat_natCast]
 rfl
theorem p10 {n : Nat} (h : n < 18446744073709551616) : n < 128 ^ 10 := Nat.lt_of_lt_of_le h (by decide)
theorem loop41 (self : S_Value -> S_Value -> (List UInt8) -> S_Value -> Option (List UInt8)) (n : Nat) (hn : 50 <= n) (z : List UInt8) (b0 b3 x : S_Value) (L : List S_Value) (hL : nods L <= 1000000) (hf : frms L = true) (hok : ∀ e ∈ L, ok_S_Value e)
  (hself : ∀ e ∈ L, e.Kind = 3 -> ∀ l : List UInt8, l.length + (encV e).length <= 100000000000 -> self b0 b3 l e = some (l ++ encV e)) :
  ∀ (k m i : Nat) (l : List UInt8), i + k = L.length -> k < m -> l.length + (encs (L.drop i)).length <= 100000000000 -> F41w_41_0 self n z L (L.length : Int) b0 b3 x m (i : Int) l = some (l ++ encs (L.drop i))
 | 0, m, i, l, h1, h2, h3 => by
  obtain ⟨m, rfl⟩ : ∃ q, m = q + 1 := ⟨m - 1, by omega⟩
  rw [F41w_41_0, decide_eq_false (by omega), List.drop_eq_nil_iff.2 (by omega), encs_nil, List.append_nil]
  rfl
 | k + 1, m, i, l, h1, h2, h3 => by
  obtain ⟨m, rfl⟩ : ∃ q, m = q + 1 := ⟨m - 1, by omega⟩
  have hi : i < L.length := by omega
  have hl := nods_len L
  have hme : L[i] ∈ L := List.getElem_mem hi
  have hne := nods_mem hme
  have hs := size_small (v := L[i]) (by omega)
  obtain ⟨_, hN, _, _, _⟩ := (okq_S_Value L[i]).1 (hok _ hme)
  rw [List.drop_eq_getElem_cons hi, encs_cons, List.length_append] at h3
  have ih := loop41 self n hn z b0 b3 x L hL hf hok hself k m (i + 1) (l ++ encV L[i]) (by omega) (by omega) (by rw [List.length_append]; omega)
  rw [F41w_41_0, decide_eq_true (by omega), List.drop_eq_getElem_cons hi, encs_cons]
  simp only [cond_true, getI_nat, List.getElem?_eq_getElem hi, Option.bind_some]
  rw [wr64 (by omega) (by omega), show (i : Int) + 1 = ((i + 1 : Nat) : Int) by omega, <- List.append_assoc]
  have h3' := h3
  rw [encV_eq] at h3
  generalize hE : encs (L.drop (i + 1)) = E at h3 h3' ih ⊢
  rcases frm_kind (frms_mem hf _ hme) with hk | hk | ⟨hk, _⟩
  ·rw [hk] at h3 ⊢
   simp only [show ((1 : Int) == 1) = true from rfl, cond_true, List.length_cons] at h3
   simp only [show decide ((1 : Int) = 0) = false from rfl, show decide ((1 : Int) = 1) = true from rfl, cond_true, cond_false, g39 _ hN, Option.bind_some]
   rw [app1 _ _ (by simp; omega), Option.bind_some]
   obtain ⟨y, ini, e1, e2, e3⟩ := numloop (fun m v l => F41w_38_0a self n [] b0 b3 x L[i] L[i] m v l) (fun _ _ _ => rfl) 10 (n + 6) (zig L[i].N) (l ++ [1]) (p10 (zig_lt hN)) (by omega) (by omega) (by simp; omega)
   have e4 : (num (zig L[i].N)).length = ini.length + 1 := by rw [e3]; simp
   try simp only at e2
   rw [e2, Option.bind_some]
   try simp only
   rw [fin8 e1 _ _ (by simp; omega)]
   rw [encV_eq, hk] at ih
   simp only [show ((1 : Int) == 1) = true from rfl, cond_true, e3] at ih
   rw [encV_eq, hk]
   simp only [show ((1 : Int) == 1) = true from rfl, cond_true, e3]
   rw [<- ih]
   congr 1
   simp
  ·rw [hk] at h3 ⊢
   simp only [show ((2 : Int) == 1) = false from rfl, show ((2 : Int) == 2) = true from rfl, cond_true, cond_false, List.length_cons, List.length_append, bstr_len] at h3
   simp only [show decide ((2 : Int) = 0) = false from rfl, show decide ((2 : Int) = 1) = false from rfl, show decide ((2 : Int) = 2) = true from rfl, cond_true, cond_false]
   rw [app1 _ _ (by simp; omega), Option.bind_some, wun _ (by omega)]
   obtain ⟨y, ini, e1, e2, e3⟩ := numloop (fun m v l => F41w_38_0b self n [] b0 b3 x L[i] m v l) (fun _ _ _ => rfl) 10 (n + 6) L[i].S.size (l ++ [2]) (p10 (by omega)) (by omega) (by omega) (by simp; omega)
   have e4 : (num L[i].S.size).length = ini.length + 1 := by rw [e3]; simp
   try simp only at e2
   rw [e2, Option.bind_some]
   try simp only
   rw [fin8 e1 _ _ (by simp; omega), app1 _ _ (by simp [bstr_len]; omega), Option.bind_some]
   rw [encV_eq, hk] at ih
   simp only [show ((2 : Int) == 1) = false from rfl, show ((2 : Int) == 2) = true from rfl, cond_true, cond_false, e3] at ih
   rw [encV_eq, hk]
   simp only [show ((2 : Int) == 1) = false from rfl, show ((2 : Int) == 2) = true from rfl, cond_true, cond_false, e3]
   rw [<- ih]
   congr 1
   simp
  ·rw [hk]
   simp only [show decide ((3 : Int) = 0) = false from rfl, show decide ((3 : Int) = 1) = false from rfl, show decide ((3 : Int) = 2) = false from rfl, show decide ((3 : Int) = 3) = true from rfl, cond_true, cond_false]
   rw [hself _ hme hk l (by omega), Option.bind_some]
   exact ih
theorem w41 : ∀ (q N : Nat) (b0 b3 : S_Value) (l : List UInt8) (v : S_Value), v.Kind = 3 -> frm v = true -> ok_S_Value v -> nod v <= q -> nod v <= 1000000 -> q + 2000000 <= N -> l.length + (encV v).length <= 100000000000 -> W41 N b0 b3 l v = some (l ++ encV v)
 | 0, N, b0, b3, l, v, _, _, _, h, _, _, _ => by have := nod_pos v; omega
 | q + 1, N, b0, b3, l, v, hk, hf, hv, h, hn, hN, hl => by
  obtain ⟨N, rfl⟩ : ∃ p, N = p + 1 := ⟨N - 1, by omega⟩
  obtain ⟨_, h2, _, _, h4⟩ := (okq_S_Value v).1 hv
  have hll := nods_len v.L
  have hn' := hn
  rw [nod_eq] at hn' h
  have hfs : frms v.L = true := by
   rcases frm_kind hf with h | h | h
   ·omega
   ·omega
   ·exact h.2
  show (bif Nat.ble 8 N then F41w (W41 N) (N - 8) b0 b3 l v else none) = _
  rw [Nat.ble_eq_true_of_le (by omega : 8 <= N)]
  simp only [cond_true]
  unfold F41w
  rw [encV_eq, hk] at hl ⊢
  simp only [show ((3 : Int) == 1) = false from rfl, show ((3 : Int) == 2) = false from rfl, cond_false, List.length_cons, List.length_append] at hl ⊢
  rw [app1 _ _ (by simp; omega), Option.bind_some, wun _ (by omega)]
  obtain ⟨y, ini, e1, e2, e3⟩ := numloop (fun m u l => F41w_38_0 (W41 N) (N - 8) [] b0 b3 v m u l) (fun _ _ _ => rfl) 10 (N - 8 + 7) v.L.length (l ++ [3]) (p10 (by omega)) (by omega) (by omega) (by simp; omega)
  have e4 : (num v.L.length).length = ini.length + 1 := by rw [e3]; simp
  try simp only at e2
  rw [e2, Option.bind_some]
  try simp only
  rw [fin8 e1 _ _ (by simp; omega)]
  have := loop41 (W41 N) (N - 8) (by omega) [] b0 b3 v v.L (by omega) hfs h4 (fun e he hke l' hl' => by
   have := nods_mem he
   exact w41 q N b0 b3 l' e hke (frms_mem hfs e he) (h4 e he) (by omega) (by omega) (by omega) hl') v.L.length (N - 8 + 8) 0 (l ++ [3] ++ ini ++ [UInt8.ofNat y]) (by omega) (by omega) (by rw [List.drop_zero]; simp; omega)
  rw [show ((0 : Nat) : Int) = 0 from rfl, List.drop_zero] at this
  rw [this, e3]
  simp
end Go.Proofs.Ytmjaehondldaaaa
