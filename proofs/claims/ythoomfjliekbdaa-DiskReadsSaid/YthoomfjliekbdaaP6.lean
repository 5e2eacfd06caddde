/-
  Layer 4, in plain Lean: syncing one by one or together.
-/
import Derived.Test.YthoomfjliekbdaaP5
namespace Go.Proofs.Ythoomfjliekbdaa
set_option linter.unusedVariables false
set_option linter.unusedSimpArgs false
set_option maxRecDepth 100000
/-- The write of an act. -/
def wrOf (n : Nat) (a : S_kinespherelaw04_Act) : S_Write := S_Write.mk (Int.tmod a.At (n : Int)) (pad [UInt8.ofNat a.Byte.toNat])
theorem wrOf_at {n : Nat} (hn : 0 < n) {a : S_kinespherelaw04_Act} (ha : ok_S_kinespherelaw04_Act a) : 0 ≤ (wrOf n a).At ∧ (wrOf n a).At < n := by
  have := ha.1
  unfold InU8 at this
  refine ⟨Int.tmod_nonneg _ (by omega), Int.tmod_lt_of_pos _ (by omega)⟩
theorem wrOf_len (n : Nat) (a : S_kinespherelaw04_Act) : (wrOf n a).Data.length = 128 := pad_len (by simp)
theorem wr8i {n : Int} (h : InU8 n) : wr .i64 n = n := wr64 (by have := h.1; omega) (by have := h.2; omega)
theorem runs_mk {S : List (List UInt8)} {L : Int} (hr : runs (S_Disk.mk S [] L false) = true) {ws : List S_Write} (hl : ws.length ≤ 4096) (hw : ∀ w ∈ ws, 0 ≤ w.At ∧ w.At < S.length ∧ w.Data.length = 128) : runs (S_Disk.mk S ws L false) = true := by
  unfold runs at hr ⊢
  rw [Bool.and_eq_true] at hr ⊢
  refine ⟨?_, rfl⟩
  have h := hr.1
  rw [okD_iff] at h ⊢
  obtain ⟨a1, a2, a3, a4, a5, a6, a7⟩ := h
  exact ⟨a1, a2, hl, a4, a5, hw, a7⟩
theorem write_mk {S : List (List UInt8)} {ws : List S_Write} {L a : Int} {b : List UInt8} (hr : runs (S_Disk.mk S ws L false) = true) (h0 : 0 ≤ a) (h1 : a < S.length) (hb : b.length ≤ 128) (hl : ws.length < 4096) : writeR (S_Disk.mk S ws L false) a b = (S_Disk.mk S (ws ++ [S_Write.mk a (pad b)]) L false, 0) := by
  unfold writeR
  have hh : has (S_Disk.mk S ws L false) a = true := by unfold has; simp [h0, h1]
  rw [hr, hh, Bool.and_self, if_pos rfl, if_neg (by omega), if_neg (by show ¬ ws.length = 4096; omega)]
theorem sync_one {S : List (List UInt8)} {L : Int} {w : S_Write} (hr : runs (S_Disk.mk S [w] L false) = true) : syncR (S_Disk.mk S [w] L false) = if L = 0 then (S_Disk.mk (S.set w.At.toNat (torn S w)) [] 0 true, 40) else (S_Disk.mk (S.set w.At.toNat w.Data) [] (if 0 ≤ L then L - 1 else L) false, 0) := by
  unfold syncR
  rw [if_pos hr]
  by_cases hL : L = 0
  · subst hL
    rfl
  · rw [if_neg hL, if_neg (by show ¬ (0 ≤ L ∧ L < ((1 : Nat) : Int)); omega)]
    rfl
theorem sync_cons {S : List (List UInt8)} {L : Int} {w : S_Write} {ws : List S_Write} (hL : L ≠ 0) (hr : runs (S_Disk.mk S (w :: ws) L false) = true) (hr' : runs (S_Disk.mk (S.set w.At.toNat w.Data) ws (if 0 ≤ L then L - 1 else L) false) = true) :
    syncR (S_Disk.mk S (w :: ws) L false) = syncR (S_Disk.mk (S.set w.At.toNat w.Data) ws (if 0 ≤ L then L - 1 else L) false) := by
  unfold syncR
  rw [if_pos hr, if_pos hr']
  simp only [List.length_cons]
  by_cases h0 : 0 ≤ L
  · simp only [if_pos h0]
    by_cases h1 : L < ((ws.length + 1 : Nat) : Int)
    · rw [if_pos ⟨h0, h1⟩, if_pos (by omega)]
      have e : L.toNat = (L - 1).toNat + 1 := by omega
      rw [e, List.getElem?_cons_succ, List.take_succ_cons]
      rfl
    · rw [if_neg (by omega), if_neg (by omega), if_pos (show 0 ≤ L - 1 by omega)]
      congr 2
      show L - ((ws.length + 1 : Nat) : Int) = L - 1 - (ws.length : Int)
      omega
  · simp only [if_neg h0]
    rw [if_neg (by omega), if_neg (by omega)]
    rfl
theorem sync_stop0 {S : List (List UInt8)} {w : S_Write} {ws : List S_Write} (hr : runs (S_Disk.mk S (w :: ws) 0 false) = true) : syncR (S_Disk.mk S (w :: ws) 0 false) = (S_Disk.mk (S.set w.At.toNat (torn S w)) [] 0 true, 40) := by
  unfold syncR
  rw [if_pos hr, if_pos (by show 0 ≤ 0 ∧ (0 : Int) < ((ws.length + 1 : Nat) : Int); omega)]
  rfl
theorem fits_mk {S : List (List UInt8)} {ws : List S_Write} {L : Int} {st : Bool} (h : S.length ≤ maxL) (h' : ws.length ≤ 4096) : fits (S_Disk.mk S ws L st) := ⟨h, by rw [mxl]; show ws.length ≤ _; omega⟩
theorem f80 (n : Nat) (l : List S_kinespherelaw04_Act) (v33 : Bool) (S0 : List (List UInt8)) (v37 : List S_Write) (v38 : Int) (v39 : Bool) (v44 : List (List UInt8)) (v45 : List S_Write) (v46 : Int) (v47 : Bool) (hS0 : 0 < S0.length) (hl : l.length ≤ 20) (ha : ∀ a ∈ l, ok_S_kinespherelaw04_Act a) : ∀ (m i : Nat) (S : List (List UInt8)) (L : Int), S.length = S0.length → S.length ≤ maxL → runs (S_Disk.mk S [] L false) = true → i ≤ l.length → l.length - i + 1 < m →
    F8_8_0 n l v33 S0 v37 v38 v39 v44 v45 v46 v47 m 0 (i : Int) S [] L false = some (.inr ((syncR (S_Disk.mk S ((l.drop i).map (wrOf S0.length)) L false)).2, (syncR (S_Disk.mk S ((l.drop i).map (wrOf S0.length)) L false)).1.Sectors, (syncR (S_Disk.mk S ((l.drop i).map (wrOf S0.length)) L false)).1.Pending, (syncR (S_Disk.mk S ((l.drop i).map (wrOf S0.length)) L false)).1.Left, (syncR (S_Disk.mk S ((l.drop i).map (wrOf S0.length)) L false)).1.Stopped))
  | 0, i, _, _, _, _, _, _, h => absurd h (Nat.not_lt_zero _)
  | m + 1, i, S, L, hSl, hSm, hr, hi, h => by
    unfold F8_8_0
    by_cases hlt : i < l.length
    · have hai := ha _ (List.getElem_mem hlt)
      have hat := wrOf_at hS0 hai
      have hb := hai.2
      unfold InU8 at hb
      rw [dlt hlt, cond_true, Option.bind_some, show ((0 : Int) == 0) = true from rfl, cond_true, getI_nat, List.getElem?_eq_getElem hlt, Option.bind_some, decide_eq_true (show ((S0.length : Int)) ≠ 0 by omega), cond_true, Option.bind_some, decide_eq_true hb.1, decide_eq_true (show l[i].Byte < 256 by omega), Bool.and_self, cond_true, wr8i hai.1]
      rw [g19 _ _ _ (fits_mk hSm (Nat.zero_le _)), Option.bind_some, write_mk (a := Int.tmod l[i].At (S0.length : Int)) (b := [UInt8.ofNat l[i].Byte.toNat]) hr hat.1 (by rw [hSl]; exact hat.2) (by simp) (by simp)]
      simp only [List.nil_append]
      have hws : ∀ w ∈ (l.drop i).map (wrOf S0.length), 0 ≤ w.At ∧ w.At < S.length ∧ w.Data.length = 128 := fun w hw => by
        obtain ⟨a, h1, rfl⟩ := List.mem_map.1 hw
        have := wrOf_at hS0 (ha a (List.mem_of_mem_drop h1))
        exact ⟨this.1, by rw [hSl]; exact this.2, wrOf_len _ _⟩
      have hdr : (l.drop i).map (wrOf S0.length) = wrOf S0.length l[i] :: (l.drop (i + 1)).map (wrOf S0.length) := by rw [List.drop_eq_getElem_cons hlt, List.map_cons]
      rw [hdr] at hws
      have hlen : ((l.drop (i + 1)).map (wrOf S0.length)).length ≤ 20 := by simp; omega
      have hr1 : runs (S_Disk.mk S [wrOf S0.length l[i]] L false) = true := runs_mk hr (by simp) (fun w hw => hws w (by simp at hw; simp [hw]))
      have hr2 : runs (S_Disk.mk S (wrOf S0.length l[i] :: (l.drop (i + 1)).map (wrOf S0.length)) L false) = true := runs_mk hr (by rw [List.length_cons]; omega) hws
      rw [show S_Write.mk (Int.tmod l[i].At (S0.length : Int)) (pad [UInt8.ofNat l[i].Byte.toNat]) = wrOf S0.length l[i] from rfl, g23 _ (fits_mk hSm (by simp)), Option.bind_some, sync_one hr1, hdr]
      simp only [bne_self_eq_false, cond_false]
      by_cases hL : L = 0
      · subst hL
        rw [if_pos rfl, sync_stop0 hr2]
        cases m with
        | zero => omega
        | succ m =>
          unfold F8_8_0
          rw [wr1 (by rw [mxl]; omega)]
          simp only [show ((40 : Int) == 0) = false from rfl]
          cases decide (((i + 1 : Nat) : Int) < (l.length : Int)) <;> rfl
      · rw [if_neg hL]
        simp only []
        rw [wr1 (by rw [mxl]; omega)]
        have hr3 : runs (S_Disk.mk (S.set (wrOf S0.length l[i]).At.toNat (wrOf S0.length l[i]).Data) [] (if 0 ≤ L then L - 1 else L) false) = true := by
          have hs := sync_ok hr1 (by show ¬ (0 ≤ L ∧ L < ((1 : Nat) : Int)); omega)
          rw [sync_one hr1, if_neg hL] at hs
          exact hs.1
        have hr4 : runs (S_Disk.mk (S.set (wrOf S0.length l[i]).At.toNat (wrOf S0.length l[i]).Data) ((l.drop (i + 1)).map (wrOf S0.length)) (if 0 ≤ L then L - 1 else L) false) = true := runs_mk hr3 (by omega) (fun w hw => by rw [List.length_set]; exact hws w (List.mem_cons_of_mem _ hw))
        rw [f80 n l v33 S0 v37 v38 v39 v44 v45 v46 v47 hS0 hl ha m (i + 1) _ _ (by rw [List.length_set]; exact hSl) (by rw [List.length_set]; exact hSm) hr3 (by omega) (by omega)]
        rw [sync_cons hL hr2 hr4]
    · rw [dnlt hlt, cond_false, Option.bind_some, cond_false, List.drop_eq_nil_iff.2 (by omega)]
      have e : syncR (S_Disk.mk S ([].map (wrOf S0.length)) L false) = (S_Disk.mk S [] L false, 0) := by
        unfold syncR
        rw [List.map_nil, if_pos hr, if_neg (by show ¬ (0 ≤ L ∧ L < ((0 : Nat) : Int)); omega)]
        by_cases h0 : 0 ≤ L
        · rw [if_pos h0]
          show (S_Disk.mk S [] (L - ((0 : Nat) : Int)) false, (0 : Int)) = _
          rw [show L - ((0 : Nat) : Int) = L by omega]
        · rw [if_neg h0]; rfl
      rw [e]
theorem f81 (n : Nat) (l : List S_kinespherelaw04_Act) (v81 : Bool) (v82 : Int) (S0 : List (List UInt8)) (v85 : List S_Write) (v86 : Int) (v87 : Bool) (v88 : List (List UInt8)) (v89 : List S_Write) (v90 : Int) (v91 : Bool) (L : Int) (hS0 : 0 < S0.length) (hSm : S0.length ≤ maxL) (hl : l.length ≤ 20) (ha : ∀ a ∈ l, ok_S_kinespherelaw04_Act a) (hr : runs (S_Disk.mk S0 [] L false) = true) : ∀ (m i : Nat), i ≤ l.length → l.length - i < m →
    F8_8_1 n l v81 v82 S0 v85 v86 v87 v88 v89 v90 v91 m (i : Int) S0 ((l.take i).map (wrOf S0.length)) L false = some (.inr (S0, l.map (wrOf S0.length), L, false))
  | 0, i, _, h => absurd h (Nat.not_lt_zero _)
  | m + 1, i, hi, h => by
    unfold F8_8_1
    by_cases hlt : i < l.length
    · have hai := ha _ (List.getElem_mem hlt)
      have hat := wrOf_at hS0 hai
      have hb := hai.2
      unfold InU8 at hb
      have hr1 : runs (S_Disk.mk S0 ((l.take i).map (wrOf S0.length)) L false) = true := runs_mk hr (by simp; omega) (fun w hw => by
        obtain ⟨a, h1, rfl⟩ := List.mem_map.1 hw
        have := wrOf_at hS0 (ha a (List.mem_of_mem_take h1))
        exact ⟨this.1, this.2, wrOf_len _ _⟩)
      rw [dlt hlt, cond_true, getI_nat, List.getElem?_eq_getElem hlt, Option.bind_some, decide_eq_true (show ((S0.length : Int)) ≠ 0 by omega), cond_true, Option.bind_some, decide_eq_true hb.1, decide_eq_true (show l[i].Byte < 256 by omega), Bool.and_self, cond_true, wr8i hai.1]
      rw [g19 _ _ _ (fits_mk hSm (by simp; omega)), Option.bind_some, write_mk (a := Int.tmod l[i].At (S0.length : Int)) (b := [UInt8.ofNat l[i].Byte.toNat]) hr1 hat.1 hat.2 (by simp) (by simp; omega)]
      simp only [bne_self_eq_false, cond_false]
      rw [wr1 (by rw [mxl]; omega), show S_Write.mk (Int.tmod l[i].At (S0.length : Int)) (pad [UInt8.ofNat l[i].Byte.toNat]) = wrOf S0.length l[i] from rfl]
      have e : (l.take i).map (wrOf S0.length) ++ [wrOf S0.length l[i]] = (l.take (i + 1)).map (wrOf S0.length) := by rw [List.take_succ_eq_append_getElem hlt, List.map_append]; rfl
      rw [e]
      exact f81 n l v81 v82 S0 v85 v86 v87 v88 v89 v90 v91 L hS0 hSm hl ha hr m (i + 1) (by omega) (by omega)
    · rw [dnlt hlt, cond_false, List.take_of_length_le (by omega)]
theorem pure8 : Pure8 := by
  intro d l hd hl
  have hf := fits_of hd
  unfold G8 F8
  obtain ⟨w, hw⟩ := g11 d hf
  rw [sane10, Option.bind_some, hw, Option.bind_some]
  cases w with
  | false => rfl
  | true =>
    by_cases h1 : 20 < l.length
    · rw [decide_eq_true (show (20 : Int) < (l.length : Int) by omega)]
      rfl
    · by_cases h2 : 0 < d.Pending.length
      · rw [decide_eq_false (show ¬ (20 : Int) < (l.length : Int) by omega), decide_eq_true (show (0 : Int) < (d.Pending.length : Int) by omega)]
        rfl
      · rw [decide_eq_false (show ¬ (20 : Int) < (l.length : Int) by omega), decide_eq_false (show ¬ (0 : Int) < (d.Pending.length : Int) by omega)]
        by_cases h3 : d.Sectors.length = 0
        · rw [show ((d.Sectors.length : Int) == 0) = true by rw [beq_iff_eq]; omega]
          rfl
        · rw [show ((d.Sectors.length : Int) == 0) = false by rw [beq_eq_false_iff_ne]; omega, g15 d hf]
          cases ho : okD d with
          | false => rfl
          | true =>
            cases hst : d.Stopped with
            | true => rfl
            | false =>
              obtain ⟨S, P, L, st⟩ := d
              have hP : P = [] := List.eq_nil_of_length_eq_zero (show P.length = 0 from Nat.eq_zero_of_not_pos h2)
              have hst : st = false := hst
              subst hP; subst hst
              have hr : runs (S_Disk.mk S [] L false) = true := by unfold runs; rw [ho]; rfl
              have hS0 : 0 < S.length := Nat.pos_of_ne_zero h3
              have hSm : S.length ≤ maxL := hf.1
              have hl20 : l.length ≤ 20 := by omega
              have e0 := f80 fuel0 l false S [] L false S [] L false hS0 hl20 hl.2 (fuel0 + 8) 0 S L rfl hSm hr (Nat.zero_le _) (by rw [fu]; omega)
              rw [show ((0 : Nat) : Int) = 0 from rfl, List.drop_zero] at e0
              have hfm : fits (S_Disk.mk S (l.map (wrOf S.length)) L false) := fits_mk hSm (by simp; omega)
              generalize hz : syncR (S_Disk.mk S (l.map (wrOf S.length)) L false) = z at e0
              have hfz : fits z.1 := by rw [← hz]; exact fits_sync hfm
              have e1 := f81 fuel0 l false z.2 S [] L false z.1.Sectors z.1.Pending z.1.Left z.1.Stopped L hS0 hSm hl20 hl.2 hr (fuel0 + 8) 0 (Nat.zero_le _) (by rw [fu]; omega)
              rw [show ((0 : Nat) : Int) = 0 from rfl, List.take_zero, List.map_nil] at e1
              simp only [Bool.not_true, cond_false, Option.bind_some, if_true, bne_self_eq_false]
              rw [e0, Option.bind_some]
              simp only []
              rw [e1, Option.bind_some]
              simp only []
              rw [g23 _ hfm, hz, Option.bind_some, show S_Disk.mk z.1.Sectors z.1.Pending z.1.Left z.1.Stopped = z.1 from rfl, g14r _ hfz]
              simp
end Go.Proofs.Ythoomfjliekbdaa
