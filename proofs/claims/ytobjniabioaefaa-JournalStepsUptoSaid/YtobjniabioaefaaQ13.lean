/-
 Layer 05, in plain Lean: Sync on a disk that records stand on; Append of many.
-/
import Derived.Test.YtobjniabioaefaaQ12
namespace Go.Proofs.Ytobjniabioaefaa
set_option linter.unusedVariables false
set_option linter.unusedSimpArgs false
set_option maxRecDepth 100000
set_option maxHeartbeats 4000000
theorem bsum_tot : ∀ l : List (List UInt8), bsum l <= 113 * tot l
 | [] => Nat.zero_le _
 | b :: l => by
  have := bsum_tot l
  rw [bsum_cons, tot_cons]
  unfold secN
  omega
theorem okD_st {S R : List (List UInt8)} {m : Nat} (h : Std S R m) {L : Int} (h1 : -1 <= L) (h2 : L <= 65536) (st : Bool) : okD (S_Disk.mk S [] L st) = true := by
 rw [okD_iff]
 exact ⟨h.pos, h.len, Nat.zero_le _, h1, h2, (fun w hw => by cases hw), h.sec⟩
theorem gmax_le : ∀ (l : List (List UInt8)) (a m : Nat), a <= m -> (∀ b ∈ l, genOf b <= m /\ num (b.drop 124) <= m) -> gmax a l <= m
 | [], a, m, h, _ => h
 | b :: l, a, m, h, hb => by
  have := hb b List.mem_cons_self
  exact gmax_le l (max (max a (genOf b)) (num (b.drop 124))) m (by omega) (fun c hc => hb c (List.mem_cons_of_mem _ hc))
theorem gmax_ge : ∀ (l : List (List UInt8)) (a : Nat), a <= gmax a l /\ ∀ b ∈ l, genOf b <= gmax a l /\ num (b.drop 124) <= gmax a l
 | [], a => ⟨Nat.le_refl _, fun b hb => by cases hb⟩
 | b :: l, a => by
  obtain ⟨h1, h2⟩ := gmax_ge l (max (max a (genOf b)) (num (b.drop 124)))
  show a <= gmax (max (max a (genOf b)) (num (b.drop 124))) l /\ ∀ c ∈ b :: l, genOf c <= gmax (max (max a (genOf b)) (num (b.drop 124))) l /\ num (c.drop 124) <= gmax (max (max a (genOf b)) (num (b.drop 124))) l
  refine ⟨by omega, fun c hc => ?_⟩
  rcases List.mem_cons.1 hc with rfl | hc
  ·omega
  ·exact h2 c hc
theorem okJ_mk {R : List (List UInt8)} {N s : Nat} (h1 : 1 <= N) (h2 : N <= 4096) (h3 : s <= R.length) (h4 : tot R <= N) : okJ (S_Journal.mk R (N : Int) (s : Int)) = true := by
 unfold okJ
 simp only [Bool.and_eq_true, decide_eq_true_eq]
 omega
theorem sync_go {S R0 R : List (List UInt8)} {m : Nat} (h : Std S R0 m) (hm : m + 1 < 4294967296) (hR : tot R0 + tot R <= S.length) {L : Int} (h1 : -1 <= L) (h2 : L <= 65536) : syncJ (S_Journal.mk (R0 ++ R) (S.length : Int) (R0.length : Int)) (S_Disk.mk S [] L false) = goOn (S_Journal.mk (R0 ++ R) (S.length : Int) (R0.length : Int)) (S_Disk.mk S [] L false) := by
 have hs : sameL (S_Journal.mk (R0 ++ R) (S.length : Int) (R0.length : Int)) (S_Disk.mk S [] L false) = true := by
  unfold sameL
  show (decide (recsOf S = (R0 ++ R).take R0.length) && decide (gmax 0 S + 1 < 4294967296)) = true
  have := gmax_le S 0 m (Nat.zero_le _) h.gen
  rw [h.recs, List.take_left' rfl, decide_eq_true rfl, decide_eq_true (by omega)]
  rfl
 unfold syncJ
 rw [if_pos (okJ_mk h.pos h.len (by rw [List.length_append]; omega) (by rw [tot_app]; exact hR)), if_pos (okD_st h h1 h2 false), if_neg (show ¬ false = true by decide), if_pos ⟨rfl, rfl⟩, if_pos hs]
theorem sync_same {S R : List (List UInt8)} {m : Nat} (h : Std S R m) (hm : m + 1 < 4294967296) (hR : tot R <= S.length) {L : Int} (h1 : -1 <= L) (h2 : L <= 65536) : syncJ (S_Journal.mk R (S.length : Int) (R.length : Int)) (S_Disk.mk S [] L false) = (S_Journal.mk R (S.length : Int) (R.length : Int), S_Disk.mk S [] L false, 0) := by
 have h3 := sync_go (R := []) h hm (by rw [show tot [] = 0 from rfl]; exact hR) h1 h2
 rw [List.append_nil] at h3
 rw [h3]
 unfold goOn
 rw [if_pos rfl]
theorem syncR_full {d : S_Disk} (hr : runs d = true) (hL : ¬ (0 <= d.Left /\ d.Left < d.Pending.length)) : syncR d = (S_Disk.mk (perf d.Sectors d.Pending) [] (if 0 <= d.Left then d.Left - d.Pending.length else d.Left) false, 0) := by
 unfold syncR
 rw [if_pos hr, if_neg hL]
theorem syncR_torn {d : S_Disk} (hr : runs d = true) (h0 : 0 <= d.Left) (hL : d.Left < d.Pending.length) {w : S_Write} (hw : d.Pending[d.Left.toNat]? = some w) : syncR d = (S_Disk.mk ((perf d.Sectors (d.Pending.take d.Left.toNat)).set w.At.toNat (torn (perf d.Sectors (d.Pending.take d.Left.toNat)) w)) [] 0 true, 40) := by
 unfold syncR
 rw [if_pos hr, if_pos ⟨h0, hL⟩, hw]
theorem sync_out {S R0 R : List (List UInt8)} {m : Nat} (h : Std S R0 m) (hm : m + 1 < 4294967296) (hR : tot R0 + tot R <= S.length) {L : Int} (h1 : -1 <= L) (h2 : L <= 65536) :
  (∃ T L', syncJ (S_Journal.mk (R0 ++ R) (S.length : Int) (R0.length : Int)) (S_Disk.mk S [] L false) = (S_Journal.mk (R0 ++ R) (S.length : Int) ((R0 ++ R).length : Int), S_Disk.mk T [] L' false, 0) /\ Std T (R0 ++ R) (m + 1) /\ T.length = S.length /\ (L = -1 -> L' = -1)) ∨
  (0 <= L /\ ∃ T j, syncJ (S_Journal.mk (R0 ++ R) (S.length : Int) (R0.length : Int)) (S_Disk.mk S [] L false) = (zeroJ, S_Disk.mk T [] 0 true, 40) /\ Std T ((R0 ++ R).take j) (m + 1) /\ T.length = S.length /\ R0.length <= j /\ j <= (R0 ++ R).length) := by
 by_cases hne : R = []
 ·subst hne
  left
  rw [show tot [] = 0 from rfl] at hR
  rw [List.append_nil]
  exact ⟨S, L, sync_same h hm hR h1 h2, h.weak (by omega), rfl, id⟩
 ·rw [sync_go h hm hR h1 h2]
  have hpos : 0 < R.length := List.length_pos_iff.2 hne
  have hgm := gmax_le S 0 m (Nat.zero_le _) h.gen
  have h' : Std S R0 (gmax 0 S) := ⟨h.pos, h.len, h.sec, (gmax_ge S 0).2, h.run⟩
  have hok := writes_ok (g := gmax 0 S + 1) (okD_st h h1 h2 false) hR
  have hr : runs (S_Disk.mk S (writes (gmax 0 S + 1) (tot R0) R) L false) = true := by
   unfold runs
   rw [hok]
   rfl
  unfold goOn
  rw [if_neg (show ¬ (R0.length : Int) = ((R0 ++ R).length : Int) by rw [List.length_append]; omega)]
  unfold doW
  simp only [show ((R0.length : Int)).toNat = R0.length from rfl, List.take_left', List.drop_left']
  by_cases hL : 0 <= L /\ L < ((writes (gmax 0 S + 1) (tot R0) R).length : Int)
  ·right
   have hlt : L.toNat < (writes (gmax 0 S + 1) (tot R0) R).length := by omega
   have hw := List.getElem?_eq_getElem hlt
   rw [syncR_torn hr hL.1 hL.2 hw]
   obtain ⟨j, j1, j2, j3⟩ := Std.stops h' hR (Nat.lt_succ_self _) (by omega) hw
   refine ⟨hL.1, _, j, rfl, j3.weak (by omega), by rw [List.length_set, perf_len], j1, j2⟩
  ·left
   rw [syncR_full hr hL]
   refine ⟨_, _, rfl, (Std.full h' hR hne (Nat.lt_succ_self _) (by omega)).weak (by omega), perf_len _ _, fun e => ?_⟩
   subst e
   rfl
def pick (N : Nat) : List (List UInt8) -> List (List UInt8) -> List (List UInt8)
 | R0, [] => R0
 | R0, b :: r => if tot R0 + secN b.length <= N then pick N (R0 ++ [b]) r else pick N R0 r
theorem pick_ext (N : Nat) : ∀ (r R0 : List (List UInt8)), tot R0 <= N -> (∃ R, pick N R0 r = R0 ++ R) /\ tot (pick N R0 r) <= N
 | [], R0, h => ⟨⟨[], (List.append_nil _).symm⟩, h⟩
 | b :: r, R0, h => by
  unfold pick
  split
  ·rename_i h2
   obtain ⟨⟨R, h3⟩, h4⟩ := pick_ext N r (R0 ++ [b]) (by rw [tot_app, tot_cons, show tot [] = 0 from rfl]; omega)
   exact ⟨⟨b :: R, by rw [h3, List.append_assoc]; rfl⟩, h4⟩
  ·exact pick_ext N r R0 h
theorem app_pick {N s : Nat} {R0 : List (List UInt8)} (h1 : 1 <= N) (h2 : N <= 4096) (h3 : s <= R0.length) (h4 : tot R0 <= N) (b : List UInt8) : appR (S_Journal.mk R0 (N : Int) (s : Int)) b = if tot R0 + secN b.length <= N then (S_Journal.mk (R0 ++ [b]) (N : Int) (s : Int), 0) else (zeroJ, 2) := by
 unfold appR
 rw [if_pos (okJ_mk h1 h2 h3 h4)]
 by_cases h : tot R0 + secN b.length <= N
 ·rw [if_pos h, if_pos (show (secN b.length : Int) <= (N : Int) - (tot R0 : Int) by omega)]
 ·rw [if_neg h, if_neg (show ¬ (secN b.length : Int) <= (N : Int) - (tot R0 : Int) by omega)]
theorem zero_bad (k : Nat) : goodB (List.replicate 128 0) k = false := by
 unfold goodB
 rw [decide_eq_false (show ¬ genOf (List.replicate 128 0) ≠ 0 from fun h => h (by rfl))]
 rfl
theorem st_new {n : Nat} (h1 : 1 <= n) (h2 : n <= 4096) : Std (List.replicate n (List.replicate 128 0)) [] 0 := by
 refine ⟨by rw [List.length_replicate]; exact h1, by rw [List.length_replicate]; exact h2, fun b hb => ?_, fun b hb => ?_, .inl ?_⟩
 ·rw [List.eq_of_mem_replicate hb]; rfl
 ·rw [List.eq_of_mem_replicate hb]; exact ⟨by decide, by decide⟩
 ·refine scan_bad (p := 0) ?_ _ _ _ (Nat.le_refl _) (fun i h1 h2 => by omega)
  rw [getD_at (by rw [List.length_replicate]; exact h1), List.getElem_replicate]
  exact zero_bad 0
end Go.Proofs.Ytobjniabioaefaa
