/-
 Layer 01, in plain Lean: Lists and Numbers.
-/
import Derived.Test.YtmjaehondldaaaaP12
namespace Go.Proofs.Ytmjaehondldaaaa
set_option linter.unusedVariables false
set_option linter.unusedSimpArgs false
set_option maxRecDepth 100000
set_option maxHeartbeats 4000000
theorem g22 (l : List S_Value) : G22 l = some (.mk 3 0 ByteArray.empty l) := rfl
theorem g23 (n : Int) : G23 n = some (.mk 1 n ByteArray.empty []) := rfl
theorem numv_frm (n : Int) : frm (.mk 1 n ByteArray.empty []) = true := by
 rw [frm_eq]
 simp only [show ((1 : Int) == 1) = true from rfl, cond_true, emp_eq.2]
 rfl
theorem numv_dep (n : Int) : dep (.mk 1 n ByteArray.empty []) = 0 := by
 rw [dep_eq]; rfl
theorem numv_ok {n : Int} (h : In64 n) : ok_S_Value (.mk 1 n ByteArray.empty []) := (okq_S_Value _).2 ⟨⟨by simp, by simp⟩, h, by simp, by simp, fun _ h => absurd h List.not_mem_nil⟩
theorem numv_nod (n : Int) : nod (.mk 1 n ByteArray.empty []) = 1 := by
 rw [nod_eq]
 show 1 + ByteArray.empty.size / 200 + nods [] = 1
 rw [nods_nil]; rfl
theorem numv_enc (n : Int) : encV (.mk 1 n ByteArray.empty []) = 1 :: num (zig n) := by rw [encV_eq]; rfl
theorem lst_frm (l : List S_Value) : frm (.mk 3 0 ByteArray.empty l) = frms l := by
 rw [frm_eq]
 simp only [show ((3 : Int) == 1) = false from rfl, show ((3 : Int) == 2) = false from rfl, show ((3 : Int) == 3) = true from rfl, cond_true, cond_false, emp_eq.2]
 cases frms l <;> rfl
theorem lst_dep (l : List S_Value) : dep (.mk 3 0 ByteArray.empty l) = deps l + 1 := by rw [dep_eq]; rfl
theorem lst_nod (l : List S_Value) : nod (.mk 3 0 ByteArray.empty l) = 1 + nods l := by
 rw [nod_eq]
 have h : ByteArray.empty.size = 0 := rfl
 show 1 + ByteArray.empty.size / 200 + nods l = 1 + nods l
 omega
theorem lst_enc (l : List S_Value) : encV (.mk 3 0 ByteArray.empty l) = 3 :: (num l.length ++ encs l) := by rw [encV_eq]; rfl
theorem lst_ok {l : List S_Value} (h : l.length <= maxL) (h2 : ∀ e ∈ l, ok_S_Value e) : ok_S_Value (.mk 3 0 ByteArray.empty l) := (okq_S_Value _).2 ⟨⟨by simp, by simp⟩, ⟨by simp, by simp⟩, by simp, h, h2⟩
theorem chk_dep {v : S_Value} (h : chk v = 0) : dep v <= 16 := by
 have hf := chk_frm h
 unfold chk at h
 rw [hf] at h
 simp only [cond_true] at h
 rcases Nat.lt_or_ge 16 (dep v) with h1 | h1
 ·rw [decide_eq_true h1] at h; cases h
 ·exact h1
theorem lst_chk {l : List S_Value} (h : chk (.mk 3 0 ByteArray.empty l) = 0) : ∀ e ∈ l, chk e = 0 := by
 intro e he
 have h1 := chk_frm h
 have h2 := chk_dep h
 rw [lst_frm] at h1
 rw [lst_dep] at h2
 have h3 := deps_mem he
 unfold chk
 rw [frms_mem h1 e he, decide_eq_false (by omega)]
 rfl
theorem frms_all : ∀ {l : List S_Value}, (∀ e ∈ l, frm e = true) -> frms l = true
 | [], _ => frms_nil
 | x :: r, h => by rw [frms_cons, h x (List.mem_cons_self ..), frms_all fun e he => h e (List.mem_cons_of_mem _ he)]; rfl
theorem nods_few : ∀ {l : List S_Value}, (∀ e ∈ l, nod e <= 200) -> nods l <= 200 * l.length
 | [], _ => by rw [nods_nil]; omega
 | x :: r, h => by
  rw [nods_cons, List.length_cons]
  have := h x (List.mem_cons_self ..)
  have := nods_few fun e he => h e (List.mem_cons_of_mem _ he)
  omega
theorem take1 {T : Type} (l : List T) (i : Nat) (h : i < l.length) : l.take (i + 1) = l.take i ++ [l[i]] := by
 rw [List.take_add_one, List.getElem?_eq_getElem h]; rfl
theorem loop8 (n : Nat) (L : List S_Value) (z : Bool) (hl : L.length <= 20) (hn : ∀ e ∈ L, nod e <= 200) (hok : ∀ e ∈ L, ok_S_Value e) : ∀ (k m i : Nat), i + k = L.length -> k < m -> (∀ e ∈ L.take i, chk e = 0) ->
  (∃ p, F8_8_0 n L z L (L.length : Int) m ((encs (L.take i)).length : Int) (i : Int) (encs (L.take i)) (List.replicate i (.mk 1 0 ByteArray.empty [])) = some (.inl (true, p))) ∨
  (F8_8_0 n L z L (L.length : Int) m ((encs (L.take i)).length : Int) (i : Int) (encs (L.take i)) (List.replicate i (.mk 1 0 ByteArray.empty [])) = some (.inr (((encs L).length : Int), encs L, List.replicate L.length (.mk 1 0 ByteArray.empty []))) /\ ∀ e ∈ L, chk e = 0)
 | 0, m, i, h1, h2, h3 => by
  obtain ⟨m, rfl⟩ : ∃ q, m = q + 1 := ⟨m - 1, by omega⟩
  rw [List.take_of_length_le (by omega)] at h3 ⊢
  rw [F8_8_0, decide_eq_false (by omega), show i = L.length by omega]
  exact .inr ⟨rfl, h3⟩
 | k + 1, m, i, h1, h2, h3 => by
  obtain ⟨m, rfl⟩ : ∃ q, m = q + 1 := ⟨m - 1, by omega⟩
  have hi : i < L.length := by omega
  have hme := List.getElem_mem hi
  have hv := hok _ hme
  have hn1 := hn _ hme
  have hN := nods_few hn
  have hsum : (encs L).length <= 420 * nods L := encs_len L ((oksq_S_Value _).2 hok) (by omega)
  have hpre : (encs (L.take i)).length + (encV L[i]).length <= (encs L).length := by
   have : encs L = encs (L.take i) ++ encs (L.drop i) := by rw [<- encs_app, List.take_append_drop]
   rw [this, List.length_append, List.drop_eq_getElem_cons hi, encs_cons, List.length_append]
   omega
  rw [F8_8_0, decide_eq_true (by omega)]
  simp only [cond_true, getI_nat, List.getElem?_eq_getElem hi, Option.bind_some, g12 _ hv (by omega : nod L[i] <= 1000000), g14 _ hv (by omega : nod L[i] <= 1000000)]
  rw [show ((encR L[i]).2 != (encR L[i]).2) = false by simp]
  simp only [cond_false]
  rw [show (((encR L[i]).1.length : Int) != ((encR L[i]).1.length : Int)) = false by simp, show (bif (encR L[i]).2 == 0 then some false else some false) = some false by cases (encR L[i]).2 == 0 <;> rfl]
  simp only [Option.bind_some, cond_false, encR_2]
  by_cases hc : chk L[i] = 0
  ·rw [show (chk L[i] != 0) = false by simp [hc], encR_0 hc]
   simp only [cond_false]
   rw [app1 _ _ (by omega), Option.bind_some, g23, Option.bind_some, app56 _ _ (by simp; omega), Option.bind_some, wr64 (n := (i : Int) + 1) (by omega) (by omega), wr64 (by omega) (by omega)]
   have et : encs (L.take (i + 1)) = encs (L.take i) ++ encV L[i] := by
    rw [take1 L i hi, encs_app, encs_cons, encs_nil, List.append_nil]
   have ih := loop8 n L z hl hn hok k m (i + 1) (by omega) (by omega) (fun e he => by
    rw [take1 L i hi] at he
    rcases List.mem_append.1 he with h | h
    ·exact h3 e h
    ·rw [List.mem_singleton] at h; subst h; exact hc)
   rw [et, List.length_append, show (((encs (L.take i)).length + (encV L[i]).length : Nat) : Int) = ((encs (L.take i)).length : Int) + ((encV L[i]).length : Int) by omega, List.replicate_succ', show ((i + 1 : Nat) : Int) = (i : Int) + 1 by omega] at ih
   exact ih
  ·rw [show (chk L[i] != 0) = true by simp [hc]]
   left
   simp only [cond_true]
   rw [g22, Option.bind_some, g12 _ (lst_ok (by unfold maxL; omega) hok) (by rw [lst_nod]; omega), Option.bind_some, encR_2]
   have : chk (.mk 3 0 ByteArray.empty L) ≠ 0 := fun h => hc (lst_chk h _ hme)
   rw [show (chk (.mk 3 0 ByteArray.empty L) != 0) = true by simp [this]]
   exact ⟨_, rfl⟩
theorem encs_zero : ∀ n : Nat, (encs (List.replicate n (.mk 1 0 ByteArray.empty []))).length = 2 * n
 | 0 => by rw [List.replicate_zero, encs_nil]; rfl
 | n + 1 => by
  rw [List.replicate_succ, encs_cons, List.length_append, encs_zero n, numv_enc, show zig 0 = 0 from rfl, num_lt (by omega)]
  simp; omega
theorem deps_zero : ∀ n : Nat, deps (List.replicate n (.mk 1 0 ByteArray.empty [])) = 0
 | 0 => by rw [List.replicate_zero, deps_nil]
 | n + 1 => by rw [List.replicate_succ, deps_cons, deps_zero n, numv_dep]; rfl
theorem nods_zero : ∀ n : Nat, nods (List.replicate n (.mk 1 0 ByteArray.empty [])) = n
 | 0 => by rw [List.replicate_zero, nods_nil]
 | n + 1 => by rw [List.replicate_succ, nods_cons, nods_zero n, numv_nod]; omega
theorem pure8 : Pure8 := by
 intro L hL
 obtain ⟨hL, hok⟩ := hL
 unfold maxL at hL
 unfold G8 F8
 rw [sane10, Option.bind_some]
 simp only [Bool.not_true, cond_false, g11 L hL hok, Option.bind_some]
 cases hf : L.all fewB with
 | false => rfl
 | true =>
  simp only [Bool.not_true, cond_false, Option.bind_some]
  by_cases h20 : 20 < L.length
  ·rw [decide_eq_true (by omega)]; rfl
  ·rw [decide_eq_false (by omega)]
   simp only [cond_false]
   have hn : ∀ e ∈ L, nod e <= 200 := fun e he => few_nod (List.all_eq_true.1 hf e he)
   have hN := nods_few hn
   have hsum : (encs L).length <= 420 * nods L := encs_len L ((oksq_S_Value _).2 hok) (by omega)
   have hlp := loop8 fuel0 L false (by omega) hn hok L.length (fuel0 + 8) 0 (by omega) (by rw [fu]; omega) (by simp)
   rw [List.take_zero, encs_nil] at hlp
   rcases hlp with ⟨p, h1⟩ | ⟨h1, h2⟩
   ·exact (congrArg (fun x => Option.bind x _) h1).trans rfl
   ·refine (congrArg (fun x => Option.bind x _) h1).trans ?_
    simp only [Option.bind_some]
    rw [g22, g22]
    simp only [Option.bind_some]
    rw [g12 _ (lst_ok (by unfold maxL; omega) hok) (by rw [lst_nod]; omega)]
    simp only [Option.bind_some, encR_2]
    by_cases hc : chk (.mk 3 0 ByteArray.empty L) = 0
    ·rw [show (chk (.mk 3 0 ByteArray.empty L) != 0) = false by simp [hc], encR_0 hc]
     have hz : chk (.mk 3 0 ByteArray.empty (List.replicate L.length (.mk 1 0 ByteArray.empty []))) = 0 := by
      unfold chk
      rw [lst_frm, frms_all (fun e he => by rw [List.eq_of_mem_replicate he]; exact numv_frm 0), lst_dep, deps_zero]
      rfl
     rw [g14 _ (lst_ok (by unfold maxL; rw [List.length_replicate]; omega) fun e he => by rw [List.eq_of_mem_replicate he]; exact numv_ok ⟨by omega, by omega⟩) (by rw [lst_nod, nods_zero]; omega), encR_0 hz, lst_enc, lst_enc]
     have hlen : (3 :: (num L.length ++ encs L) : List UInt8).length = 1 + (num L.length).length + (encs L).length := by simp; omega
     have hlz : (3 :: (num (List.replicate L.length (S_Value.mk 1 0 ByteArray.empty [])).length ++ encs (List.replicate L.length (.mk 1 0 ByteArray.empty []))) : List UInt8).length = 1 + (num L.length).length + 2 * L.length := by
      rw [List.length_replicate, List.length_cons, List.length_append, encs_zero]; omega
     have hp := num_pos L.length
     have hp10 := num_10 (n := L.length) (by omega)
     simp only [cond_false, Option.bind_some]
     rw [hlen, hlz]
     rw [wr64 (n := 2 * (L.length : Int)) (by omega) (by omega), show ((1 + (num L.length).length + 2 * L.length : Nat) : Int) - 2 * (L.length : Int) = ((1 + (num L.length).length : Nat) : Int) by omega, wr64 (n := ((1 + (num L.length).length : Nat) : Int)) (by omega) (by omega), show ((1 + (num L.length).length : Nat) : Int) + ((encs L).length : Int) = ((1 + (num L.length).length + (encs L).length : Nat) : Int) by omega, wr64 (n := ((1 + (num L.length).length + (encs L).length : Nat) : Int)) (by omega) (by omega),
      show ((1 + (num L.length).length + (encs L).length : Nat) : Int) - ((encs L).length : Int) = ((1 + (num L.length).length : Nat) : Int) by omega, wr64 (n := ((1 + (num L.length).length : Nat) : Int)) (by omega) (by omega), decide_eq_true (show (2 : Int) <= ((1 + (num L.length).length : Nat) : Int) by omega), beq_self_eq_true]
     simp only [show ((0 : Int) == 0) = true from rfl, cond_true, Option.bind_some]
     have hsub : subI (3 :: (num L.length ++ encs L)) ((1 + (num L.length).length : Nat) : Int) ((1 + (num L.length).length + (encs L).length : Nat) : Int) = some (encs L) := by
      unfold subI
      rw [hlen, decide_eq_true (show (0 : Int) <= ((1 + (num L.length).length : Nat) : Int) by omega), decide_eq_true (show ((1 + (num L.length).length : Nat) : Int) <= ((1 + (num L.length).length + (encs L).length : Nat) : Int) by omega), decide_eq_true (Int.le_refl _), Int.toNat_natCast, Int.toNat_natCast]
      simp only [Bool.and_self, cond_true]
      rw [show 1 + (num L.length).length = (num L.length).length + 1 by omega, List.drop_succ_cons, List.drop_left, List.take_of_length_le (by omega)]
     rw [hsub]
     simp only [Option.bind_some, strEq_refl, beq_self_eq_true, cond_true]
    ·rw [show (chk (.mk 3 0 ByteArray.empty L) != 0) = true by simp [hc]]
     simp only [cond_true]
     have hfs : frms L = true := frms_all fun e he => chk_frm (h2 e he)
     have : chk (.mk 3 0 ByteArray.empty L) = 2 := by
      unfold chk at hc ⊢
      rw [lst_frm, hfs] at hc ⊢
      simp only [cond_true] at hc ⊢
      cases hd : decide (16 < dep (.mk 3 0 ByteArray.empty L)) with
      | true => rfl
      | false => rw [hd] at hc; exact absurd rfl hc
     rw [this]; rfl
end Go.Proofs.Ytmjaehondldaaaa
