/-
 Layer 4, in plain Lean: DiskHistory, all acts.
-/
import Derived.Test.YthoomfjliekbdaaP8
namespace Go.Proofs.Ythoomfjliekbdaa
set_option linter.unusedVariables false
set_option linter.unusedSimpArgs false
set_option maxRecDepth 100000
set_option maxHeartbeats 4000000
def toW (a : S_kinespherelaw04_Act) : S_Write := S_Write.mk (Int.tmod a.At 4) ((G27 a.Byte).getD [])
theorem toW_ok {a : S_kinespherelaw04_Act} (ha : ok_S_kinespherelaw04_Act a) : 0 <= (toW a).At /\ (toW a).At < 4 /\ sec (toW a).Data a.Byte a.Byte := by
 obtain ⟨l, h1, h2⟩ := g27 ha.2
 refine ⟨Int.tmod_nonneg _ ha.1.1, Int.tmod_lt_of_pos _ (by omega), ?_⟩
 unfold toW
 rw [h1]; exact h2
theorem lastW_cons (w : S_Write) (l : List S_Write) (a : Int) (b : List UInt8) : lastW (w :: l) a b = lastW l a (if w.At = a then w.Data else b) := rfl
theorem sec_fill : ∀ (ws : List S_kinespherelaw04_Act) (b : List UInt8) (p q : Q4) (k : Nat), k < 4 -> (∀ a ∈ ws, ok_S_kinespherelaw04_Act a) -> sec b (at4 p k) (at4 q k) -> sec (lastW (ws.map toW) (k : Int) b) (at4 (fill p ws) k) (at4 (fill q ws) k)
 | [], b, p, q, k, hk, _, h => h
 | a :: ws, b, p, q, k, hk, hok, h => by
  obtain ⟨h0, h4, hs⟩ := toW_ok (hok a (List.mem_cons_self ..))
  have h0 : 0 <= Int.tmod a.At 4 := h0
  have h4 : Int.tmod a.At 4 < 4 := h4
  rw [List.map_cons, lastW_cons, fill_cons, fill_cons]
  refine sec_fill ws _ _ _ k hk (fun x hx => hok x (List.mem_cons_of_mem _ hx)) ?_
  rw [at_set h0 h4 hk, at_set h0 h4 hk]
  show sec (if Int.tmod a.At 4 = (k : Int) then _ else _) _ _
  by_cases e : Int.tmod a.At 4 = (k : Int)
  ·rw [if_pos e, if_pos e, if_pos e]; exact hs
  ·rw [if_neg e, if_neg e, if_neg e]; exact h
theorem runs4 {S : List (List UInt8)} {L : Int} {p q : Q4} (h4 : S.length = 4) (h : ∀ k : Nat, k < 4 -> sec (S[k]?.getD []) (at4 p k) (at4 q k)) (h1 : -1 <= L) (h2 : L <= 65536) : runs (S_Disk.mk S [] L false) = true := by
 unfold runs
 rw [Bool.and_eq_true]
 refine ⟨(okDk_iff _).2 ⟨?_, ?_, Nat.zero_le _, h1, h2, fun w hw => absurd hw List.not_mem_nil, fun b hb => ?_⟩, rfl⟩
 ·show 1 <= S.length
  omega
 ·show S.length <= 4096
  omega
 ·obtain ⟨k, hk, rfl⟩ := List.getElem_of_mem hb
  have hk' : k < S.length := hk
  have := (h k (by omega)).1
  rw [List.getElem?_eq_getElem hk'] at this
  exact this
theorem fits4 {S : List (List UInt8)} {ws : List S_Write} {L : Int} {st : Bool} (h4 : S.length = 4) (h : ws.length <= 41) : fits (S_Disk.mk S ws L st) := fits_mk (by rw [mxl]; omega) (by omega)
theorem fill_snoc (q : Q4) (ws : List S_kinespherelaw04_Act) (a : S_kinespherelaw04_Act) : fill q (ws ++ [a]) = set4 (fill q ws) (Int.tmod a.At 4) a.Byte := by
 unfold fill
 rw [List.foldl_append]; rfl
theorem stop_sec {S : List (List UInt8)} {ws : List S_kinespherelaw04_Act} {L : Nat} {p q : Q4} (h4 : S.length = 4) (hok : ∀ a ∈ ws, ok_S_kinespherelaw04_Act a) (hL : L < ws.length) (h : ∀ k : Nat, k < 4 -> sec (S[k]?.getD []) (at4 p k) (at4 q k)) :
  ((perf S ((ws.map toW).take L)).set (toW ws[L]).At.toNat (torn (perf S ((ws.map toW).take L)) (toW ws[L]))).length = 4 /\ ∀ k : Nat, k < 4 -> sec (((perf S ((ws.map toW).take L)).set (toW ws[L]).At.toNat (torn (perf S ((ws.map toW).take L)) (toW ws[L])))[k]?.getD []) (at4 (fill p (ws.take (L + 1))) k) (at4 (fill q (ws.take L)) k) := by
 have hpl : (perf S ((ws.map toW).take L)).length = 4 := by rw [perf_len, h4]
 obtain ⟨h0, h3, hs⟩ := toW_ok (hok _ (List.getElem_mem hL))
 have t0 : 0 <= Int.tmod ws[L].At 4 := h0
 have t3 : Int.tmod ws[L].At 4 < 4 := h3
 have hold : ∀ k : Nat, k < 4 -> sec ((perf S ((ws.map toW).take L))[k]?.getD []) (at4 (fill p (ws.take L)) k) (at4 (fill q (ws.take L)) k) := fun k hk => by
  rw [perf_get _ _ _ (by omega) (fun w hw => by
   obtain ⟨a, ha, rfl⟩ := List.mem_map.1 (List.mem_of_mem_take hw)
   exact (toW_ok (hok a ha)).1), <- List.map_take]
  exact sec_fill _ _ _ _ k hk (fun a ha => hok a (List.mem_of_mem_take ha)) (h k hk)
 refine ⟨by rw [List.length_set, hpl], fun k hk => ?_⟩
 rw [List.take_succ_eq_append_getElem hL, fill_snoc, at_set t0 t3 hk]
 show sec _ (if (toW ws[L]).At = (k : Int) then _ else _) _
 by_cases e : (toW ws[L]).At = (k : Int)
 ·rw [if_pos e, e, Int.toNat_natCast, List.getElem?_set_self (by omega), Option.getD_some]
  unfold torn
  rw [e, Int.toNat_natCast]
  exact sec_torn hs (hold k hk)
 ·rw [if_neg e, List.getElem?_set_ne (by omega)]
  exact hold k hk
theorem f60 (n : Nat) (hn : 50 <= n) (l : List S_kinespherelaw04_Act) (v12 : Bool) (hl : l.length <= 40) (hok : ∀ a ∈ l, ok_S_kinespherelaw04_Act a) : ∀ (m i L : Nat) (S : List (List UInt8)) (ws : List S_kinespherelaw04_Act) (last fi se : Q4),
  i <= l.length -> l.length - i < m -> L <= 65536 -> S.length = 4 -> ws.length <= i -> (∀ a ∈ ws, ok_S_kinespherelaw04_Act a) -> (∀ k : Nat, k < 4 -> sec (S[k]?.getD []) (at4 fi k) (at4 se k)) -> (∀ k : Nat, k < 4 -> sec (lastW (ws.map toW) (k : Int) (S[k]?.getD [])) (at4 last k) (at4 last k)) ->
  (∃ x, F6_6_0 n l v12 m ((L : Int)) ((i : Int)) (S_Disk.mk S (ws.map toW) (L : Int) false) last.1 last.2.1 last.2.2.1 last.2.2.2 fi.1 fi.2.1 fi.2.2.1 fi.2.2.2 se.1 se.2.1 se.2.2.1 se.2.2.2 (ws) = some (.inl (true, x))) ∨
  (∃ (S' : List (List UInt8)) (P' : List S_Write) (L' : Int) (b' : Bool) (la f s : Q4) (ws' : List S_kinespherelaw04_Act), F6_6_0 n l v12 m ((L : Int)) ((i : Int)) (S_Disk.mk S (ws.map toW) (L : Int) false) last.1 last.2.1 last.2.2.1 last.2.2.2 fi.1 fi.2.1 fi.2.2.1 fi.2.2.2 se.1 se.2.1 se.2.2.1 se.2.2.2 (ws) = some (.inr (S', P', L', b', la.1, la.2.1, la.2.2.1, la.2.2.2, f.1, f.2.1, f.2.2.1, f.2.2.2, s.1, s.2.1, s.2.2.1, s.2.2.2, ws')) /\ S'.length = 4 /\ ∀ k : Nat, k < 4 -> sec (S'[k]?.getD []) (at4 f k) (at4 s k))
 | 0, i, L, S, ws, last, fi, se, _, h, _, _, _, _, _, _ => absurd h (Nat.not_lt_zero _)
 | m + 1, i, L, S, ws, last, fi, se, hi, hm, hL, h4, hw, hws, H1, H2 => by
  rw [F6_6_0]
  by_cases hlt : i < l.length
  ·rw [dlt hlt]
   simp only [cond_true, getI_nat, List.getElem?_eq_getElem hlt, Option.bind_some]
   have ha := hok _ (List.getElem_mem hlt)
   generalize l[i] = a at ha ⊢
   rw [wr64 (n := (i : Int) + 1) (by omega) (by omega), show (i : Int) + 1 = ((i + 1 : Nat) : Int) by omega]
   have hR : runs (S_Disk.mk S [] (L : Int) false) = true := runs4 h4 H1 (by omega) (by omega)
   have hPw : ∀ (us : List S_kinespherelaw04_Act), (∀ a ∈ us, ok_S_kinespherelaw04_Act a) -> ∀ w ∈ us.map toW, 0 <= w.At /\ w.At < S.length /\ w.Data.length = 128 := fun us hus w hw' => by
    obtain ⟨x, hx, rfl⟩ := List.mem_map.1 hw'
    obtain ⟨e0, e1, e2⟩ := toW_ok (hus x hx)
    exact ⟨e0, by rw [h4]; exact e1, e2.1⟩
   have hRP : ∀ (us : List S_kinespherelaw04_Act), us.length <= 4096 -> (∀ a ∈ us, ok_S_kinespherelaw04_Act a) -> runs (S_Disk.mk S (us.map toW) (L : Int) false) = true := fun us hul hus => runs_mk hR (by rw [List.length_map]; exact hul) (hPw us hus)
   have hfit : fits (S_Disk.mk S (ws.map toW) (L : Int) false) := fits4 h4 (by rw [List.length_map]; omega)
   obtain ⟨b, hb1, hb2⟩ := g27 ha.2
   obtain ⟨t0, t4, hts⟩ := toW_ok ha
   have t0 : 0 <= Int.tmod a.At 4 := t0
   have t4 : Int.tmod a.At 4 < 4 := t4
   cases a.Sync with
   | false =>
    simp only [Bool.not_false, cond_true, hb1, Option.bind_some]
    rw [wr64 (n := Int.tmod a.At 4) (by omega) (by omega), g19 _ _ _ hfit, write_mk (hRP ws (by omega) hws) t0 (by rw [h4]; exact t4) (by rw [hb2.1]; omega) (by rw [List.length_map]; omega), pad_sec hb2]
    have ew : S_Write.mk (Int.tmod a.At 4) b = toW a := by unfold toW; rw [hb1]; rfl
    have em : ws.map toW ++ [toW a] = (ws ++ [a]).map toW := by rw [List.map_append]; rfl
    rw [ew, em]
    simp only [Option.bind_some, show ((0 : Int) != 0) = false from rfl, cond_false]
    have hap : appI 3 ws [a] = some (ws ++ [a]) := appI_some _ _ _ (by rw [lim]; simp; omega)
    have hws' : ∀ x ∈ ws ++ [a], ok_S_kinespherelaw04_Act x := fun x hx => by
     rcases List.mem_append.1 hx with h | h
     ·exact hws x h
     ·rw [List.mem_singleton.1 h]; exact ha
    have H2' : ∀ k : Nat, k < 4 -> sec (lastW ((ws ++ [a]).map toW) (k : Int) (S[k]?.getD [])) (at4 (set4 last (Int.tmod a.At 4) a.Byte) k) (at4 (set4 last (Int.tmod a.At 4) a.Byte) k) := fun k hk => by
     rw [<- em, lastW_snoc, at_set t0 t4 hk]
     show sec (if Int.tmod a.At 4 = (k : Int) then _ else _) _ _
     by_cases e : Int.tmod a.At 4 = (k : Int)
     ·rw [if_pos e, if_pos e]; exact hts
     ·rw [if_neg e, if_neg e]; exact H2 k hk
    have hG := g28 (d := S_Disk.mk S ((ws ++ [a]).map toW) (L : Int) false) (fits4 h4 (by simp; omega)) (hRP (ws ++ [a]) (by simp; omega) hws') h4 H2'
    have ih := f60 n hn l v12 hl hok m (i + 1) L S (ws ++ [a]) (set4 last (Int.tmod a.At 4) a.Byte) fi se (by omega) (by omega) hL h4 (by simp; omega) hws' H1 H2'
    rcases mod4 ha with ht | ht | ht | ht
    ·rw [ht] at hG ih ⊢
     have hG' : G28 (S_Disk.mk S ((ws ++ [a]).map toW) (L : Int) false) (a.Byte, last.2.1, last.2.2.1, last.2.2.2) (a.Byte, last.2.1, last.2.2.1, last.2.2.2) = some true := hG
     simp only [show decide ((0 : Int) = 0) = true from rfl, cond_true, cond_false, hap, Option.bind_some, hG', Bool.not_true]
     exact ih
    ·rw [ht] at hG ih ⊢
     have hG' : G28 (S_Disk.mk S ((ws ++ [a]).map toW) (L : Int) false) (last.1, a.Byte, last.2.2.1, last.2.2.2) (last.1, a.Byte, last.2.2.1, last.2.2.2) = some true := hG
     simp only [show decide ((1 : Int) = 0) = false from rfl, show decide ((1 : Int) = 1) = true from rfl, cond_true, cond_false, hap, Option.bind_some, hG', Bool.not_true]
     exact ih
    ·rw [ht] at hG ih ⊢
     have hG' : G28 (S_Disk.mk S ((ws ++ [a]).map toW) (L : Int) false) (last.1, last.2.1, a.Byte, last.2.2.2) (last.1, last.2.1, a.Byte, last.2.2.2) = some true := hG
     simp only [show decide ((2 : Int) = 0) = false from rfl, show decide ((2 : Int) = 1) = false from rfl, show decide ((2 : Int) = 2) = true from rfl, cond_true, cond_false, hap, Option.bind_some, hG', Bool.not_true]
     exact ih
    ·rw [ht] at hG ih ⊢
     have hG' : G28 (S_Disk.mk S ((ws ++ [a]).map toW) (L : Int) false) (last.1, last.2.1, last.2.2.1, a.Byte) (last.1, last.2.1, last.2.2.1, a.Byte) = some true := hG
     simp only [show decide ((3 : Int) = 0) = false from rfl, show decide ((3 : Int) = 1) = false from rfl, show decide ((3 : Int) = 2) = false from rfl, show decide ((3 : Int) = 3) = true from rfl, cond_true, cond_false, hap, Option.bind_some, hG', Bool.not_true]
     exact ih
   | true =>
    simp only [Bool.not_true, cond_false]
    rw [g23 _ hfit]
    have hrun := hRP ws (by omega) hws
    have hsy : syncR (S_Disk.mk S (ws.map toW) (L : Int) false) = if (L : Int) < (ws.length : Int) then (match (ws.map toW)[L]? with
      | some w => ((S_Disk.mk ((perf S ((ws.map toW).take L)).set w.At.toNat (torn (perf S ((ws.map toW).take L)) w)) [] 0 true, 40) : S_Disk × Int)
      | none => (zeroD, 40)) else (S_Disk.mk (perf S (ws.map toW)) [] ((L : Int) - (ws.length : Int)) false, 0) := by
     unfold syncR
     rw [if_pos hrun]
     simp only [List.length_map]
     by_cases hs : (L : Int) < (ws.length : Int)
     ·rw [if_pos hs, if_pos ⟨Int.natCast_nonneg L, hs⟩]; rfl
     ·rw [if_neg hs, if_neg (fun h => hs h.2), if_pos (Int.natCast_nonneg L)]
    have h61 := fun x y => f61 n l v12 L (i : Int) x (decide ((L : Int) < (ws.length : Int))) (S_Disk.mk S (ws.map toW) (L : Int) false) last.1 last.2.1 last.2.2.1 last.2.2.2 ws a y (by omega) hws (n + 8) 0 fi se (Nat.zero_le _) (by omega)
    simp only [show ((0 : Nat) : Int) = 0 from rfl, List.drop_zero] at h61
    simp only [Option.bind_some]
    rw [hsy]
    by_cases hs : L < ws.length
    ·rw [dlt hs] at h61
     rw [if_pos (show (L : Int) < (ws.length : Int) by omega), dlt hs]
     have hg : (ws.map toW)[L]? = some (toW ws[L]) := by rw [List.getElem?_map, List.getElem?_eq_getElem hs]; rfl
     rw [hg]
     simp only [h61, Option.bind_some, cond_true, show ((40 : Int) == 40) = true from rfl]
     obtain ⟨k1, k2⟩ := stop_sec h4 hws hs H1
     rw [g17]
     unfold restR
     simp only [Option.bind_some]
     have hG := g28 (d := S_Disk.mk ((perf S ((ws.map toW).take L)).set (toW ws[L]).At.toNat (torn (perf S ((ws.map toW).take L)) (toW ws[L]))) [] (-1) false) (fits4 k1 (by simp)) (runs4 k1 k2 (by omega) (by omega)) k1 k2
     have hG' : G28 (S_Disk.mk ((perf S ((ws.map toW).take L)).set (toW ws[L]).At.toNat (torn (perf S ((ws.map toW).take L)) (toW ws[L]))) [] (-1) false) ((fill fi (ws.take (L + 1))).1, (fill fi (ws.take (L + 1))).2.1, (fill fi (ws.take (L + 1))).2.2.1, (fill fi (ws.take (L + 1))).2.2.2) ((fill se (ws.take L)).1, (fill se (ws.take L)).2.1, (fill se (ws.take L)).2.2.1, (fill se (ws.take L)).2.2.2) = some true := hG
     simp only [hG', Option.bind_some]
     exact .inl ⟨_, rfl⟩
    ·rw [dnlt hs] at h61
     rw [if_neg (show ¬ (L : Int) < (ws.length : Int) by omega), dnlt hs]
     have et : ws.take (L + 1) = ws := List.take_of_length_le (by omega)
     have et' : ws.take L = ws := List.take_of_length_le (by omega)
     simp only [h61, Option.bind_some, cond_false, show ((0 : Int) != 0) = false from rfl, et, et']
     have hpl : (perf S (ws.map toW)).length = 4 := by rw [perf_len, h4]
     have hpg : ∀ k : Nat, k < 4 -> (perf S (ws.map toW))[k]?.getD [] = lastW (ws.map toW) (k : Int) (S[k]?.getD []) := fun k hk => perf_get _ _ _ (by omega) (fun w hw' => (hPw ws hws w hw').1)
     have H2' : ∀ k : Nat, k < 4 -> sec (lastW (([] : List S_kinespherelaw04_Act).map toW) (k : Int) ((perf S (ws.map toW))[k]?.getD [])) (at4 last k) (at4 last k) := fun k hk => by
      rw [hpg k hk]; exact H2 k hk
     have H1' : ∀ k : Nat, k < 4 -> sec ((perf S (ws.map toW))[k]?.getD []) (at4 (fill fi ws) k) (at4 (fill se ws) k) := fun k hk => by
      rw [hpg k hk]; exact sec_fill ws _ _ _ k hk hws (H1 k hk)
     have eL : (L : Int) - (ws.length : Int) = ((L - ws.length : Nat) : Int) := by omega
     rw [eL, wr64 (n := ((L - ws.length : Nat) : Int)) (by omega) (by omega)]
     have hG := g28 (d := S_Disk.mk (perf S (ws.map toW)) [] ((L - ws.length : Nat) : Int) false) (fits4 hpl (by simp)) (runs4 hpl H1' (by omega) (by omega)) hpl H2'
     have hG' : G28 (S_Disk.mk (perf S (ws.map toW)) [] ((L - ws.length : Nat) : Int) false) (last.1, last.2.1, last.2.2.1, last.2.2.2) (last.1, last.2.1, last.2.2.1, last.2.2.2) = some true := hG
     rw [hG']
     simp only [Option.bind_some, Bool.not_true, cond_false]
     exact f60 n hn l v12 hl hok m (i + 1) (L - ws.length) (perf S (ws.map toW)) [] last (fill fi ws) (fill se ws) (by omega) (by omega) (by omega) hpl (by simp) (fun x hx => absurd hx List.not_mem_nil) H1' H2'
  ·rw [dnlt hlt]
   exact .inr ⟨S, ws.map toW, (L : Int), false, last, fi, se, ws, rfl, h4, H1⟩
theorem pure6 : Pure6 := by
 intro l left hl hleft
 obtain ⟨hl, hok⟩ := hl
 obtain ⟨hl0, hl1⟩ := hleft
 rw [mxl] at hl
 unfold G6 F6
 rw [sane10, Option.bind_some]
 simp only [Bool.not_true, cond_false]
 by_cases h40 : 40 < l.length
 ·rw [decide_eq_true (by omega)]; rfl
 ·rw [decide_eq_false (by omega), g12 4 (by omega)]
  obtain ⟨z, hz⟩ : ∃ z : List (List UInt8), z = List.replicate 4 (List.replicate 128 0) := ⟨_, rfl⟩
  have hnew : newR 4 = (S_Disk.mk z [] (-1) false, 0) := by rw [hz]; rfl
  have hsec : ∀ k : Nat, k < 4 -> sec (z[k]?.getD []) (at4 (0, 0, 0, 0) k) (at4 (0, 0, 0, 0) k) := fun k hk => by
   have e : z[k]?.getD [] = List.replicate 128 0 := by rw [hz, List.getElem?_replicate, if_pos hk]; rfl
   have e2 : at4 (0, 0, 0, 0) k = 0 := by rcases (show k = 0 ∨ k = 1 ∨ k = 2 ∨ k = 3 by omega) with rfl | rfl | rfl | rfl <;> rfl
   rw [e, e2]
   exact ⟨by simp, ⟨0, by simp, rfl⟩, ⟨0, by simp, rfl⟩, by simp, by simp⟩
  have hz4 : z.length = 4 := by rw [hz]; simp
  have hrun := runs4 (L := -1) hz4 hsec (by omega) (by omega)
  rw [hnew]
  simp only [cond_false, Option.bind_some]
  obtain ⟨L, rfl⟩ : ∃ q : Nat, left = (q : Int) := ⟨left.toNat, by omega⟩
  rw [wr64 (n := (L : Int)) (by omega) (by omega), g25 _ _ (fits4 hz4 (by simp))]
  have hst : stopR (S_Disk.mk z [] (-1) false) (L : Int) = (S_Disk.mk z [] (L : Int) false, 0) := by
   unfold stopR
   rw [if_pos hrun, if_neg (by omega)]
  rw [hst]
  simp only [Option.bind_some, show ((0 : Int) != 0) = false from rfl, cond_false]
  have key := f60 fuel0 (by rw [fu]; omega) l false (by omega) hok (fuel0 + 8) 0 L z [] (0, 0, 0, 0) (0, 0, 0, 0) (0, 0, 0, 0) (Nat.zero_le _) (by rw [fu]; omega) (by omega) hz4 (Nat.le_refl _) (fun x hx => absurd hx List.not_mem_nil) hsec (fun k hk => hsec k hk)
  rw [show ((0 : Nat) : Int) = 0 from rfl] at key
  rcases key with ⟨x, h1⟩ | ⟨S', P', L', b', la, f, s, ws', h1, h2, h3⟩
  ·exact (congrArg (fun x => Option.bind x _) h1).trans rfl
  ·refine (congrArg (fun x => Option.bind x _) h1).trans ?_
   have hG := g28 (d := S_Disk.mk S' [] (-1) false) (fits4 h2 (by simp)) (runs4 h2 h3 (by omega) (by omega)) h2 h3
   refine Eq.trans (b := Option.bind (G17 (S_Disk.mk S' P' L' b')) fun y197 => Option.bind (G28 y197 f s) fun y198 => some y198) rfl ?_
   rw [g17]
   exact (congrArg (fun x => Option.bind x fun y => some y) hG).trans rfl
end Go.Proofs.Ythoomfjliekbdaa
