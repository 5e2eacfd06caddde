/-
 Layer 01, in plain Lean: Encode.
-/
import Derived.Test.YtmjaehondldaaaaP4
namespace Go.Proofs.Ytmjaehondldaaaa
set_option linter.unusedVariables false
set_option linter.unusedSimpArgs false
set_option maxRecDepth 100000
set_option maxHeartbeats 4000000
theorem loop12 (n : Nat) (hn : 50 <= n) (z : List UInt8) (b0 b3 : S_Value) (L : List S_Value) (hL : nods L <= 1000000) (hf : frms L = true) (hok : ∀ e ∈ L, ok_S_Value e)
  (hself : ∀ e ∈ L, e.Kind = 3 -> ∀ l : List UInt8, l.length + (encV e).length <= 100000000000 -> W41 (n + 7) b0 b3 l e = some (l ++ encV e)) :
  ∀ (k m i : Nat) (l : List UInt8), i + k = L.length -> k < m -> l.length + (encs (L.drop i)).length <= 100000000000 -> F12_41_0 n z L (L.length : Int) b0 b3 m (i : Int) l = some (l ++ encs (L.drop i))
 | 0, m, i, l, h1, h2, h3 => by
  obtain ⟨m, rfl⟩ : ∃ q, m = q + 1 := ⟨m - 1, by omega⟩
  rw [F12_41_0, decide_eq_false (by omega), List.drop_eq_nil_iff.2 (by omega), encs_nil, List.append_nil]
  rfl
 | k + 1, m, i, l, h1, h2, h3 => by
  obtain ⟨m, rfl⟩ : ∃ q, m = q + 1 := ⟨m - 1, by omega⟩
  have hi : i < L.length := by omega
  have hl := nods_len L
  have hme : L[i] ∈ L := List.getElem_mem hi
  have hne := nods_mem hme
  have hs := size_small (v := L[i]) (by omega)
  obtain ⟨_, hN, _, _, _⟩ := (okq_S_Value L[i]).1 (hok _ hme)
  rw [List.drop_eq_getElem_cons hi, encs_cons, List.length_append] at h3
  have ih := loop12 n hn z b0 b3 L hL hf hok hself k m (i + 1) (l ++ encV L[i]) (by omega) (by omega) (by rw [List.length_append]; omega)
  rw [F12_41_0, decide_eq_true (by omega), List.drop_eq_getElem_cons hi, encs_cons]
  simp only [cond_true, getI_nat, List.getElem?_eq_getElem hi, Option.bind_some]
  rw [wr64 (by omega) (by omega), show (i : Int) + 1 = ((i + 1 : Nat) : Int) by omega, <- List.append_assoc]
  have h3' := h3
  rw [encV_eq] at h3
  generalize hE : encs (L.drop (i + 1)) = E at h3 h3' ih ⊢
  rcases frm_kind (frms_mem hf _ hme) with hk | hk | ⟨hk, _⟩
  ·rw [hk] at h3 ⊢
   simp only [show ((1 : Int) == 1) = true from rfl, cond_true, List.length_cons] at h3
   simp only [show decide ((1 : Int) = 0) = false from rfl, show decide ((1 : Int) = 1) = true from rfl, cond_true, cond_false, g39 _ hN, Option.bind_some]
   rw [app1 _ _ (by simp; omega), Option.bind_some]
   obtain ⟨y, ini, e1, e2, e3⟩ := numloop (fun m v l => F12_38_0c n [] b0 b3 L[i] L[i] m v l) (fun _ _ _ => rfl) 10 (n + 5) (zig L[i].N) (l ++ [1]) (p10 (zig_lt hN)) (by omega) (by omega) (by simp; omega)
   have e4 : (num (zig L[i].N)).length = ini.length + 1 := by rw [e3]; simp
   try simp only at e2
   rw [e2, Option.bind_some]
   try simp only
   rw [fin8 e1 _ _ (by simp; omega)]
   rw [encV_eq, hk] at ih
   simp only [show ((1 : Int) == 1) = true from rfl, cond_true, e3] at ih
   rw [encV_eq, hk]
   simp only [show ((1 : Int) == 1) = true from rfl, cond_true, e3]
   rw [<- ih]
   congr 1
   simp
  ·rw [hk] at h3 ⊢
   simp only [show ((2 : Int) == 1) = false from rfl, show ((2 : Int) == 2) = true from rfl, cond_true, cond_false, List.length_cons, List.length_append, bstr_len] at h3
   simp only [show decide ((2 : Int) = 0) = false from rfl, show decide ((2 : Int) = 1) = false from rfl, show decide ((2 : Int) = 2) = true from rfl, cond_true, cond_false]
   rw [app1 _ _ (by simp; omega), Option.bind_some, wun _ (by omega)]
   obtain ⟨y, ini, e1, e2, e3⟩ := numloop (fun m v l => F12_38_0d n [] b0 b3 L[i] m v l) (fun _ _ _ => rfl) 10 (n + 5) L[i].S.size (l ++ [2]) (p10 (by omega)) (by omega) (by omega) (by simp; omega)
   have e4 : (num L[i].S.size).length = ini.length + 1 := by rw [e3]; simp
   try simp only at e2
   rw [e2, Option.bind_some]
   try simp only
   rw [fin8 e1 _ _ (by simp; omega), app1 _ _ (by simp [bstr_len]; omega), Option.bind_some]
   rw [encV_eq, hk] at ih
   simp only [show ((2 : Int) == 1) = false from rfl, show ((2 : Int) == 2) = true from rfl, cond_true, cond_false, e3] at ih
   rw [encV_eq, hk]
   simp only [show ((2 : Int) == 1) = false from rfl, show ((2 : Int) == 2) = true from rfl, cond_true, cond_false, e3]
   rw [<- ih]
   congr 1
   simp
  ·rw [hk]
   simp only [show decide ((3 : Int) = 0) = false from rfl, show decide ((3 : Int) = 1) = false from rfl, show decide ((3 : Int) = 2) = false from rfl, show decide ((3 : Int) = 3) = true from rfl, cond_true, cond_false]
   rw [hself _ hme hk l (by omega), Option.bind_some]
   exact ih
theorem chk_frm {v : S_Value} (h : chk v = 0) : frm v = true := by
 unfold chk at h
 cases hf : frm v with
 | true => rfl
 | false => rw [hf] at h; cases h
def encR (v : S_Value) : List UInt8 × Int := bif chk v == 0 then (encV v, 0) else ([], chk v)
theorem g12 (v : S_Value) (hv : ok_S_Value v) (hn : nod v <= 1000000) : G12 v = some (encR v) := by
 unfold G12 F12
 rw [g16 v hn, Option.bind_some]
 unfold encR
 cases hc : chk v == 0 with
 | false => rw [show (chk v != 0) = true by rw [bne, hc]; rfl]; rfl
 | true =>
  rw [show (chk v != 0) = false by rw [bne, hc]; rfl]
  have hf := chk_frm (by simpa using hc)
  obtain ⟨_, h2, _, _, h4⟩ := (okq_S_Value v).1 hv
  have hs := size_small hn
  have he := enc_small hv hn
  have hll := nods_len v.L
  have hn' := hn
  rw [nod_eq] at hn'
  simp only [cond_false, cond_true]
  rw [encV_eq] at he ⊢
  rcases frm_kind hf with hk | hk | ⟨hk, hfs⟩
  ·rw [hk] at he ⊢
   simp only [show decide ((1 : Int) = 0) = false from rfl, show decide ((1 : Int) = 1) = true from rfl, show ((1 : Int) == 1) = true from rfl, cond_true, cond_false, g39 _ h2, Option.bind_some] at he ⊢
   rw [app1 _ _ (by simp), Option.bind_some]
   obtain ⟨y, ini, e1, e2, e3⟩ := numloop (fun m u l => F12_38_0 fuel0 [] v v m u l) (fun _ _ _ => rfl) 10 (fuel0 + 6) (zig v.N) ([] ++ [1]) (p10 (zig_lt h2)) (by omega) (by rw [fu]; omega) (by simp)
   have e4 : (num (zig v.N)).length = ini.length + 1 := by rw [e3]; simp
   have l1 := num_10 (zig_lt h2)
   try simp only at e2
   rw [e2, Option.bind_some]
   try simp only
   rw [fin8 e1 _ _ (by simp; omega), e3]
   simp
  ·rw [hk] at he ⊢
   simp only [show decide ((2 : Int) = 0) = false from rfl, show decide ((2 : Int) = 1) = false from rfl, show decide ((2 : Int) = 2) = true from rfl, show ((2 : Int) == 1) = false from rfl, show ((2 : Int) == 2) = true from rfl, cond_true, cond_false, List.length_cons, List.length_append, bstr_len] at he ⊢
   rw [app1 _ _ (by simp), Option.bind_some, wun _ (by omega)]
   obtain ⟨y, ini, e1, e2, e3⟩ := numloop (fun m u l => F12_38_0a fuel0 [] v m u l) (fun _ _ _ => rfl) 10 (fuel0 + 6) v.S.size ([] ++ [2]) (p10 (by omega)) (by omega) (by rw [fu]; omega) (by simp)
   have e4 : (num v.S.size).length = ini.length + 1 := by rw [e3]; simp
   have l1 := num_10 (n := v.S.size) (by omega)
   try simp only at e2
   rw [e2, Option.bind_some]
   try simp only
   rw [fin8 e1 _ _ (by simp; omega), app1 _ _ (by simp [bstr_len]; omega), Option.bind_some, e3]
   simp
  ·rw [hk] at he ⊢
   simp only [show decide ((3 : Int) = 0) = false from rfl, show decide ((3 : Int) = 1) = false from rfl, show decide ((3 : Int) = 2) = false from rfl, show decide ((3 : Int) = 3) = true from rfl, show ((3 : Int) == 1) = false from rfl, show ((3 : Int) == 2) = false from rfl, cond_true, cond_false, List.length_cons, List.length_append] at he ⊢
   rw [app1 _ _ (by simp), Option.bind_some, wun _ (by omega)]
   obtain ⟨y, ini, e1, e2, e3⟩ := numloop (fun m u l => F12_38_0 fuel0 [] v v m u l) (fun _ _ _ => rfl) 10 (fuel0 + 6) v.L.length ([] ++ [3]) (p10 (by omega)) (by omega) (by rw [fu]; omega) (by simp)
   have e4 : (num v.L.length).length = ini.length + 1 := by rw [e3]; simp
   have l1 := num_10 (n := v.L.length) (by omega)
   try simp only at e2
   rw [e2, Option.bind_some]
   try simp only
   rw [fin8 e1 _ _ (by simp; omega)]
   have := loop12 fuel0 (by rw [fu]; omega) [] v v v.L (by omega) hfs h4 (fun e he' hke l' hl' => by
    have := nods_mem he'
    exact w41 1000000 (fuel0 + 7) v v l' e hke (frms_mem hfs e he') (h4 e he') (by omega) (by omega) (by rw [fu]; omega) hl') v.L.length (fuel0 + 7) 0 ([] ++ [3] ++ ini ++ [UInt8.ofNat y]) (by omega) (by rw [fu]; omega) (by rw [List.drop_zero]; simp; omega)
   rw [show ((0 : Nat) : Int) = 0 from rfl, List.drop_zero] at this
   rw [this, e3]
   simp
theorem g14 (v : S_Value) (hv : ok_S_Value v) (hn : nod v <= 1000000) : G14 v = some (((encR v).1.length : Int), (encR v).2) := by
 unfold G14 F14
 rw [g12 v hv hn]; rfl
end Go.Proofs.Ytmjaehondldaaaa
