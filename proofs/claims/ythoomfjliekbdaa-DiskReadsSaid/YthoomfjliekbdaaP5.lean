/-
  Layer 4, in plain Lean: what was written last is read; syncing one by one or together.
-/
import Derived.Test.YthoomfjliekbdaaP4
namespace Go.Proofs.Ythoomfjliekbdaa
set_option linter.unusedVariables false
set_option linter.unusedSimpArgs false
set_option maxRecDepth 100000
theorem lastW_snoc (l : List S_Write) (w : S_Write) (a : Int) (b : List UInt8) : lastW (l ++ [w]) a b = if w.At = a then w.Data else lastW l a b := by
  unfold lastW; rw [List.foldl_append]; rfl
theorem okD_iff (d : S_Disk) : okD d = true ↔ (1 ≤ d.Sectors.length ∧ d.Sectors.length ≤ 4096 ∧ d.Pending.length ≤ 4096 ∧ -1 ≤ d.Left ∧ d.Left ≤ 65536 ∧ (∀ w ∈ d.Pending, 0 ≤ w.At ∧ w.At < d.Sectors.length ∧ w.Data.length = 128) ∧ ∀ b ∈ d.Sectors, b.length = 128) := by
  constructor
  · intro h
    obtain ⟨h1, h2, h3, h4, h5⟩ := okD_len h
    exact ⟨h1, h2, h3, h4, h5, okD_pend h, okD_sec h⟩
  · rintro ⟨h1, h2, h3, h4, h5, h6, h7⟩
    unfold okD
    simp only [Bool.and_eq_true, decide_eq_true_eq, List.all_eq_true]
    refine ⟨⟨⟨⟨⟨⟨h1, h2⟩, h3⟩, h4⟩, h5⟩, fun w hw => ?_⟩, fun b hb => by simpa [isSec] using h7 b hb⟩
    obtain ⟨a1, a2, a3⟩ := h6 w hw
    simp only [okW, Bool.and_eq_true, decide_eq_true_eq, isSec, beq_iff_eq]
    exact ⟨⟨a1, a2⟩, a3⟩
theorem perf_get : ∀ (P : List S_Write) (S : List (List UInt8)) (k : Nat), k < S.length → (∀ w ∈ P, 0 ≤ w.At) → (perf S P)[k]?.getD [] = lastW P (k : Int) (S[k]?.getD [])
  | [], S, k, _, _ => rfl
  | w :: P, S, k, hk, hP => by
    have h0 := hP w (by simp)
    have ih := perf_get P (S.set w.At.toNat w.Data) k (by simpa using hk) (fun v hv => hP v (by simp [hv]))
    show (perf (S.set w.At.toNat w.Data) P)[k]?.getD [] = lastW P (k : Int) (if w.At = (k : Int) then w.Data else S[k]?.getD [])
    rw [ih]
    congr 1
    by_cases e : w.At = (k : Int)
    · rw [if_pos e, show w.At.toNat = k by omega, List.getElem?_set_self hk]; rfl
    · rw [if_neg e, List.getElem?_set_ne (by omega)]
theorem f7 (n : Nat) (v58 : Bool) (S : List (List UInt8)) (v61 : List S_Write) (v62 : Int) (v63 : Bool) (v64 : List (List UInt8)) (v65 : List S_Write) (v66 : Int) (v67 : Bool) (y z : S_Disk) (hy : fits y) (hz : fits z) (hl : S.length ≤ maxL)
    (hr : ∀ k : Nat, k < S.length → readR y k = readR z k ∧ (readR y k).2 = 0) : ∀ (m i : Nat), i ≤ S.length → S.length - i < m →
    F7_7_0 n v58 S v61 v62 v63 v64 v65 v66 v67 y.Sectors y.Pending y.Left y.Stopped z.Sectors z.Pending z.Left z.Stopped m (i : Int) = some (.inr ())
  | 0, i, _, h => absurd h (Nat.not_lt_zero _)
  | m + 1, i, hi, h => by
    unfold F7_7_0
    by_cases hlt : i < S.length
    · rw [dlt hlt, cond_true, show S_Disk.mk y.Sectors y.Pending y.Left y.Stopped = y from rfl, show S_Disk.mk z.Sectors z.Pending z.Left z.Stopped = z from rfl, g21 y _ hy, g21 z _ hz]
      obtain ⟨e1, e2⟩ := hr i hlt
      have e3 : (readR z (i : Int)).2 = 0 := by rw [← e1]; exact e2
      simp only [Option.bind_some, e2, e3, bne_self_eq_false, cond_false]
      rw [e1, strEq_refl, wr1 (by rw [mxl] at hl ⊢; omega)]
      exact f7 n v58 S v61 v62 v63 v64 v65 v66 v67 y z hy hz hl hr m (i + 1) (by omega) (by omega)
    · rw [dnlt hlt, cond_false]
theorem f7a (n : Nat) (v58 : Bool) (S : List (List UInt8)) (v61 : List S_Write) (v62 : Int) (v63 : Bool) (v64 : List (List UInt8)) (v65 : List S_Write) (v66 : Int) (v67 : Bool) (y z : S_Disk) (hy : fits y) (hz : fits z) (hl : S.length ≤ maxL)
    (hr : ∀ k : Nat, k < S.length → readR y k = readR z k ∧ (readR y k).2 = 0) : ∀ (m i : Nat), i ≤ S.length → S.length - i < m →
    F7_7_0a n v58 S v61 v62 v63 v64 v65 v66 v67 y.Sectors y.Pending y.Left y.Stopped z.Sectors z.Pending z.Left z.Stopped m (i : Int) = some (.inr ())
  | 0, i, _, h => absurd h (Nat.not_lt_zero _)
  | m + 1, i, hi, h => by
    unfold F7_7_0a
    by_cases hlt : i < S.length
    · rw [dlt hlt, cond_true, show S_Disk.mk y.Sectors y.Pending y.Left y.Stopped = y from rfl, show S_Disk.mk z.Sectors z.Pending z.Left z.Stopped = z from rfl, g21 y _ hy, g21 z _ hz]
      obtain ⟨e1, e2⟩ := hr i hlt
      have e3 : (readR z (i : Int)).2 = 0 := by rw [← e1]; exact e2
      simp only [Option.bind_some, e2, e3, bne_self_eq_false, cond_false]
      rw [e1, strEq_refl, wr1 (by rw [mxl] at hl ⊢; omega)]
      exact f7a n v58 S v61 v62 v63 v64 v65 v66 v67 y z hy hz hl hr m (i + 1) (by omega) (by omega)
    · rw [dnlt hlt, cond_false]
theorem okD_push {d : S_Disk} (h : okD d = true) {w : S_Write} (h0 : 0 ≤ w.At) (h1 : w.At < d.Sectors.length) (h2 : w.Data.length = 128) (hp : d.Pending.length ≠ 4096) : okD (S_Disk.mk d.Sectors (d.Pending ++ [w]) d.Left d.Stopped) = true := by
  rw [okD_iff] at h ⊢
  obtain ⟨a1, a2, a3, a4, a5, a6, a7⟩ := h
  refine ⟨a1, a2, by simp; omega, a4, a5, fun v hv => ?_, a7⟩
  rcases List.mem_append.1 hv with hv | hv
  · exact a6 v hv
  · rw [List.mem_singleton.1 hv]; exact ⟨h0, h1, h2⟩
theorem runs_push {d : S_Disk} (h : runs d = true) {a : Int} (ha : has d a = true) {b : List UInt8} (hb : b.length ≤ 128) (hp : d.Pending.length ≠ 4096) : runs (S_Disk.mk d.Sectors (d.Pending ++ [S_Write.mk a (pad b)]) d.Left d.Stopped) = true := by
  unfold has at ha
  simp only [Bool.and_eq_true, decide_eq_true_eq] at ha
  unfold runs at h ⊢
  rw [Bool.and_eq_true] at h ⊢
  exact ⟨okD_push h.1 ha.1 ha.2 (pad_len hb) hp, h.2⟩
/-- A disk behind a sync that did not stop. -/
theorem sync_ok {d : S_Disk} (hd : runs d = true) (hs : ¬ (0 ≤ d.Left ∧ d.Left < d.Pending.length)) : runs (syncR d).1 = true ∧ (syncR d).2 = 0 ∧ (syncR d).1.Sectors = perf d.Sectors d.Pending ∧ (syncR d).1.Pending = [] := by
  have ho := runs_ok hd
  unfold syncR
  rw [if_pos hd, if_neg hs]
  refine ⟨?_, rfl, rfl, rfl⟩
  unfold runs
  rw [Bool.and_eq_true]
  refine ⟨?_, rfl⟩
  rw [okD_iff] at ho ⊢
  obtain ⟨a1, a2, a3, a4, a5, a6, a7⟩ := ho
  refine ⟨by simpa only [perf_len] using a1, by simpa only [perf_len] using a2, Nat.zero_le _, ?_, ?_, ⟨(fun w hw => absurd hw (by simp)), perf_sec _ _ a7 (fun w hw => (a6 w hw).2.2)⟩⟩
  · show -1 ≤ (if 0 ≤ d.Left then d.Left - d.Pending.length else d.Left)
    split
    · rename_i h; have : ¬ d.Left < d.Pending.length := fun h' => hs ⟨h, h'⟩; omega
    · exact a4
  · show (if 0 ≤ d.Left then d.Left - d.Pending.length else d.Left) ≤ 65536
    split <;> omega
theorem sync_stop {d : S_Disk} (hd : runs d = true) (hs : 0 ≤ d.Left ∧ d.Left < d.Pending.length) : (syncR d).2 = 40 ∧ (syncR d).1.Stopped = true := by
  unfold syncR
  rw [if_pos hd, if_pos hs, List.getElem?_eq_getElem (by omega)]
  exact ⟨rfl, rfl⟩
theorem read_sync {d : S_Disk} (hd : runs d = true) (hs : ¬ (0 ≤ d.Left ∧ d.Left < d.Pending.length)) (k : Nat) (hk : k < d.Sectors.length) : readR d k = readR (syncR d).1 k ∧ (readR d k).2 = 0 := by
  obtain ⟨s1, s2, s3, s4⟩ := sync_ok hd hs
  have ho := runs_ok hd
  have hh : has d (k : Int) = true := by unfold has; simp; omega
  have hh2 : has (syncR d).1 (k : Int) = true := by unfold has; rw [s3, perf_len]; simp; omega
  unfold readR
  rw [hd, hh, s1, hh2, s3, s4]
  simp only [Bool.and_self, if_true, and_true]
  rw [Int.toNat_natCast, perf_get _ _ _ hk (fun w hw => (okD_pend ho w hw).1)]
  rfl
theorem pure7 : Pure7 := by
  intro d a o b c hd ha ho hb hc
  have hf := fits_of hd
  unfold G7 F7
  obtain ⟨w, hw⟩ := g11 d hf
  rw [sane10, Option.bind_some, hw]
  cases w with
  | false => rfl
  | true =>
    by_cases h1 : 128 < b.length
    · simp only [Bool.not_true, cond_false, Option.bind_some]
      rw [decide_eq_true (show (128 : Int) < (b.length : Int) by omega)]
      rfl
    · by_cases h2 : 128 < c.length
      · simp only [Bool.not_true, cond_false, Option.bind_some]
        rw [decide_eq_false (show ¬ (128 : Int) < (b.length : Int) by omega), decide_eq_true (show (128 : Int) < (c.length : Int) by omega)]
        rfl
      · simp only [Bool.not_true, cond_false, Option.bind_some]
        rw [decide_eq_false (show ¬ (128 : Int) < (b.length : Int) by omega), decide_eq_false (show ¬ (128 : Int) < (c.length : Int) by omega)]
        simp only [cond_false, Option.bind_some, g21 d o hf, g19 d a b hf]
        have hfx := fits_write hf a b
        simp only [g21 _ _ hfx, g19 _ o c hfx, Option.bind_some]
        have hfy := fits_write hfx o c
        simp only [g23 _ hfy, Option.bind_some, g15 _ (fits_sync hfy)]
        by_cases hr1 : (runs d && has d o) = true
        · have hr := (Bool.and_eq_true_iff.1 hr1).1
          have hho := (Bool.and_eq_true_iff.1 hr1).2
          have eR : readR d o = (lastW d.Pending o (d.Sectors[o.toNat]?.getD []), 0) := by unfold readR; rw [if_pos hr1]
          by_cases hr2 : has d a = true
          · by_cases hp : d.Pending.length = 4096
            · have eW : writeR d a b = (zeroD, 2) := by unfold writeR; rw [hr, hr2, if_neg h1, if_pos hp]; rfl
              rw [eR, eW]; rfl
            · have eW : writeR d a b = (S_Disk.mk d.Sectors (d.Pending ++ [S_Write.mk a (pad b)]) d.Left d.Stopped, 0) := by unfold writeR; rw [hr, hr2, if_neg h1, if_neg hp]; rfl
              rw [eW] at hfx hfy ⊢
              have hx := runs_push hr hr2 (b := b) (by omega) hp
              generalize hxd : S_Disk.mk d.Sectors (d.Pending ++ [S_Write.mk a (pad b)]) d.Left d.Stopped = x at *
              have hxS : x.Sectors = d.Sectors := by rw [← hxd]
              have hxP : x.Pending = d.Pending ++ [S_Write.mk a (pad b)] := by rw [← hxd]
              have hxo : has x o = true := by unfold has at hho ⊢; rw [hxS]; exact hho
              have hxa : has x a = true := by unfold has at hr2 ⊢; rw [hxS]; exact hr2
              have e1 : readR x o = (if a = o then pad b else lastW d.Pending o (d.Sectors[o.toNat]?.getD []), 0) := by
                unfold readR
                rw [hx, hxo, hxP, hxS, lastW_snoc]
                rfl
              have e2 : readR x a = (pad b, 0) := by
                unfold readR
                rw [hx, hxa, hxP, hxS, lastW_snoc, if_pos rfl]
                rfl
              have e3 : subI (pad b) 0 (b.length : Int) = some b := by
                rw [subI_take _ _ (by rw [pad_len (by omega)]; omega)]
                unfold pad
                rw [List.take_left']; rfl
              have e4 : (((pad b).length : Int) != 128) = false := by rw [pad_len (by omega)]; rfl
              have e5 : (!strEq (bstr b) (bstr b)) = false := by rw [strEq_refl]; rfl
              rw [eR, e1, e2]
              simp only [Option.bind_some, bne_self_eq_false, cond_false, e3, e4, e5]
              by_cases hp2 : x.Pending.length = 4096
              · have eW2 : writeR x o c = (zeroD, 2) := by unfold writeR; rw [hx, hxo, if_neg h2, if_pos hp2]; rfl
                rw [eW2]
                by_cases hao : a = o
                · subst hao; simp
                · rw [if_neg hao]; simp [hao, strEq_refl]
              · have eW2 : writeR x o c = (S_Disk.mk x.Sectors (x.Pending ++ [S_Write.mk o (pad c)]) x.Left x.Stopped, 0) := by unfold writeR; rw [hx, hxo, if_neg h2, if_neg hp2]; rfl
                rw [eW2] at hfy ⊢
                have hy := runs_push hx hxo (b := c) (by omega) hp2
                generalize hyd : S_Disk.mk x.Sectors (x.Pending ++ [S_Write.mk o (pad c)]) x.Left x.Stopped = y at *
                have hyS : y.Sectors = d.Sectors := by rw [← hyd]; exact hxS
                by_cases hst : 0 ≤ y.Left ∧ y.Left < y.Pending.length
                · obtain ⟨s1, s2⟩ := sync_stop hy hst
                  simp only [s1, s2]
                  by_cases hao : a = o
                  · subst hao; simp
                  · rw [if_neg hao]; simp [hao, strEq_refl]
                · obtain ⟨s1, s2, s3, s4⟩ := sync_ok hy hst
                  have lp := f7 fuel0 false d.Sectors d.Pending d.Left d.Stopped x.Sectors x.Pending x.Left x.Stopped y (syncR y).1 hfy (fits_sync hfy) hf.1 (fun k hk => read_sync hy hst k (by rw [hyS]; exact hk)) (fuel0 + 8) 0 (Nat.zero_le _) (by rw [fu]; have := hf.1; rw [mxl] at this; omega)
                  have lpa := f7a fuel0 false d.Sectors d.Pending d.Left d.Stopped x.Sectors x.Pending x.Left x.Stopped y (syncR y).1 hfy (fits_sync hfy) hf.1 (fun k hk => read_sync hy hst k (by rw [hyS]; exact hk)) (fuel0 + 8) 0 (Nat.zero_le _) (by rw [fu]; have := hf.1; rw [mxl] at this; omega)
                  rw [show ((0 : Nat) : Int) = 0 from rfl, s4] at lp lpa
                  simp only [s2, lp, lpa, s4, Option.bind_some, runs_ok s1, if_true]
                  by_cases hao : a = o
                  · subst hao; simp
                  · rw [if_neg hao]; simp [hao, strEq_refl]
          · have eW : writeR d a b = (zeroD, 40) := by unfold writeR; rw [show has d a = false by simpa using hr2]; simp
            rw [eR, eW]; rfl
        · have eR : readR d o = ([], 40) := by unfold readR; rw [if_neg hr1]
          rw [eR]; rfl
end Go.Proofs.Ythoomfjliekbdaa
