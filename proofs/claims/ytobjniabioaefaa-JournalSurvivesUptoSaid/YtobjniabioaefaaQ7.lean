/-
 Layer 05, in plain Lean: Sync.
-/
import Derived.Test.YtobjniabioaefaaQ6
namespace Go.Proofs.Ytobjniabioaefaa
set_option linter.unusedVariables false
set_option linter.unusedSimpArgs false
set_option maxRecDepth 100000
set_option maxHeartbeats 4000000
def wpiece (g : Nat) : Nat -> Nat -> Bool -> List UInt8 -> List S_Write
 | 0, _, _, _ => []
 | k + 1, a, f, b => S_Write.mk (a : Int) (enc g a (kindC f (k == 0)) (b.take 112)) :: wpiece g k (a + 1) false (b.drop 112)
def writes (g : Nat) : Nat -> List (List UInt8) -> List S_Write
 | _, [] => []
 | a, b :: r => wpiece g (secN b.length) a true b ++ writes g (a + secN b.length) r
theorem wpiece_len (g : Nat) : ∀ (k a : Nat) (f : Bool) (b : List UInt8), (wpiece g k a f b).length = k
 | 0, _, _, _ => rfl
 | k + 1, a, f, b => by unfold wpiece; rw [List.length_cons, wpiece_len g k]
theorem writes_len (g : Nat) : ∀ (l : List (List UInt8)) (a : Nat), (writes g a l).length = tot l
 | [], _ => rfl
 | b :: l, a => by unfold writes; rw [List.length_append, wpiece_len, writes_len g l, tot_cons]
theorem wpiece_at (g : Nat) : ∀ (k a : Nat) (f : Bool) (b : List UInt8), ∀ w ∈ wpiece g k a f b, (a : Int) <= w.At /\ w.At < ((a + k : Nat) : Int) /\ w.Data.length = 128
 | 0, _, _, _, w, h => by cases h
 | k + 1, a, f, b, w, h => by
  unfold wpiece at h
  rcases List.mem_cons.1 h with rfl | h
  ·exact ⟨Int.le_refl _, by show (a : Int) < _; omega, enc_len (by rw [List.length_take]; omega)⟩
  ·have := wpiece_at g k (a + 1) false (b.drop 112) w h
   exact ⟨by omega, by omega, this.2.2⟩
theorem writes_at (g : Nat) : ∀ (l : List (List UInt8)) (a : Nat), ∀ w ∈ writes g a l, (a : Int) <= w.At /\ w.At < ((a + tot l : Nat) : Int) /\ w.Data.length = 128
 | [], _, w, h => by cases h
 | b :: l, a, w, h => by
  unfold writes at h
  rw [tot_cons]
  rcases List.mem_append.1 h with h | h
  ·have := wpiece_at g _ _ _ _ w h
   exact ⟨this.1, by omega, this.2.2⟩
  ·have := writes_at g l _ w h
   exact ⟨by omega, by omega, this.2.2⟩
theorem okD_iff (d : S_Disk) : okD d = true ↔ (1 <= d.Sectors.length /\ d.Sectors.length <= 4096 /\ d.Pending.length <= 4096 /\ -1 <= d.Left /\ d.Left <= 65536 /\ (∀ w ∈ d.Pending, 0 <= w.At /\ w.At < d.Sectors.length /\ w.Data.length = 128) /\ ∀ b ∈ d.Sectors, b.length = 128) := by
 constructor
 ·intro h
  obtain ⟨h1, h2, h3, h4, h5⟩ := okD_len h
  exact ⟨h1, h2, h3, h4, h5, okD_pend h, okD_sec h⟩
 ·rintro ⟨h1, h2, h3, h4, h5, h6, h7⟩
  unfold okD
  simp only [Bool.and_eq_true, decide_eq_true_eq, List.all_eq_true]
  refine ⟨⟨⟨⟨⟨⟨h1, h2⟩, h3⟩, h4⟩, h5⟩, fun w hw => ?_⟩, fun b hb => by simpa [isSec] using h7 b hb⟩
  obtain ⟨a1, a2, a3⟩ := h6 w hw
  simp only [okW, Bool.and_eq_true, decide_eq_true_eq, isSec, beq_iff_eq]
  exact ⟨⟨a1, a2⟩, a3⟩
theorem okD_more {S : List (List UInt8)} {P : List S_Write} {L : Int} {st : Bool} (h : okD (S_Disk.mk S P L st) = true) {a : Nat} {x : List UInt8} (h1 : a < S.length) (h2 : x.length = 128) (hp : P.length < 4096) : okD (S_Disk.mk S (P ++ [S_Write.mk (a : Int) x]) L st) = true := by
 rw [okD_iff] at h ⊢
 obtain ⟨a1, a2, a3, a4, a5, a6, a7⟩ := h
 refine ⟨a1, a2, by simp; omega, a4, a5, fun v hv => ?_, a7⟩
 rcases List.mem_append.1 hv with hv | hv
 ·exact a6 v hv
 ·rw [List.mem_singleton.1 hv]; exact ⟨by show (0 : Int) <= (a : Int); omega, by show (a : Int) < (S.length : Int); omega, h2⟩
theorem pad_all {x : List UInt8} (h : x.length = 128) : pad x = x := by unfold pad; rw [h]; simp
theorem fits_ok {d : S_Disk} (h : okD d = true) : fits d := by
 have := okD_len h
 exact ⟨by rw [mxl]; omega, by rw [mxl]; omega⟩
theorem write_one {S : List (List UInt8)} {P : List S_Write} {L : Int} (h : okD (S_Disk.mk S P L false) = true) {a : Nat} {x : List UInt8} (h1 : a < S.length) (h2 : x.length = 128) (hp : P.length < 4096) : writeR (S_Disk.mk S P L false) (a : Int) x = (S_Disk.mk S (P ++ [S_Write.mk (a : Int) x]) L false, 0) := by
 unfold writeR runs has
 rw [h, decide_eq_true (show (0 : Int) <= (a : Int) by omega), decide_eq_true (show (a : Int) < (S.length : Int) by omega)]
 rw [if_pos (show (true && !(S_Disk.mk S P L false).Stopped && (true && true)) = true from rfl), if_neg (by omega), if_neg (by show ¬ P.length = 4096; omega), pad_all h2]
theorem min112 (b : List UInt8) : (if (112 : Int) < (b.length : Int) then (112 : Int) else (b.length : Int)) = ((min 112 b.length : Nat) : Int) := by split <;> omega
theorem sub_lo (b : List UInt8) : subI b 0 (if (112 : Int) < (b.length : Int) then (112 : Int) else (b.length : Int)) = some (b.take 112) := by
 rw [min112]
 refine (subI_take b _ (Nat.min_le_right _ _)).trans ?_
 congr 1
 rw [Nat.min_def]
 split
 ·rfl
 ·rw [List.take_of_length_le (Nat.le_refl _), List.take_of_length_le (by omega)]
theorem sub_hi (b : List UInt8) : subI b (if (112 : Int) < (b.length : Int) then (112 : Int) else (b.length : Int)) (b.length : Int) = some (b.drop 112) := by
 rw [min112]
 refine (subI_drop b _ (Nat.min_le_right _ _)).trans ?_
 congr 1
 rw [Nat.min_def]
 split
 ·rfl
 ·rw [List.drop_eq_nil_of_le (Nat.le_refl _), List.drop_eq_nil_of_le (by omega)]
theorem f212 (g : Nat) (hg : g < 18446744073709551616) (S : List (List UInt8)) (L : Int) (v75 : List (List UInt8)) (v76 v77 : Int) (v78 : S_Journal) (v80 : List (List UInt8)) (v81 v82 : Int) (v83 : List (List UInt8)) (v84 : List S_Write) (v85 : Int) (v86 : Bool) (v87 : S_Journal) : ∀ (k a : Nat) (f : Bool) (b : List UInt8) (P : List S_Write) (m : Nat), okD (S_Disk.mk S P L false) = true -> a + k <= S.length -> P.length <= a -> k + 1 <= m ->
  F21_21_2 fuel0 (g : Int) v75 v76 v77 v78 v80 v81 v82 v83 v84 v85 v86 v87 m 0 (a : Int) b (kindC f false : Nat) (k : Int) (S_Disk.mk S P L false) = some (.inr (0, ((a + k : Nat) : Int), S, P ++ wpiece g k a f b, L, false)) /\ okD (S_Disk.mk S (P ++ wpiece g k a f b) L false) = true
 | _, _, _, _, _, 0, _, _, _, h => by omega
 | 0, a, f, b, P, m + 1, ho, ha, hp, hm => by
  unfold F21_21_2
  rw [decide_eq_false (show ¬ (0 : Int) < ((0 : Nat) : Int) by omega)]
  unfold wpiece
  rw [List.append_nil]
  exact ⟨rfl, ho⟩
 | k + 1, a, f, b, P, m + 1, ho, ha, hp, hm => by
  have hl := okD_len ho
  have hS : S.length <= 4096 := hl.2.1
  have hb : (b.take 112).length <= 112 := by rw [List.length_take]; omega
  have he := enc_len (g := g) (k := a) (c := kindC f (k == 0)) hb
  have hP' := okD_more ho (a := a) (by omega) he (by omega)
  have hw := write_one ho (a := a) (by omega) he (by omega)
  have ih := f212 g hg S L v75 v76 v77 v78 v80 v81 v82 v83 v84 v85 v86 v87 k (a + 1) false (b.drop 112) (P ++ [S_Write.mk (a : Int) (enc g a (kindC f (k == 0)) (b.take 112))]) m hP' (by omega) (by simp; omega) (by omega)
  have hG := g26 (S_Disk.mk S P L false) (a : Int) (enc g a (kindC f (k == 0)) (b.take 112)) (fits_ok ho)
  rw [hw] at hG
  rw [show a + 1 + k = a + (k + 1) by omega, List.append_assoc] at ih
  unfold F21_21_2 wpiece
  rw [decide_eq_true (show (0 : Int) < ((k + 1 : Nat) : Int) by omega), sub_lo, sub_hi, wr64 (n := (a : Int) + 1) (by omega) (by omega), wr64 (n := ((k + 1 : Nat) : Int) - 1) (by omega) (by omega)]
  simp only [cond_true, Option.bind_some]
  have hcd : kindC f false < 256 := by cases f <;> decide
  have hor : orI .u8 ((kindC f false : Nat) : Int) 2 = ((kindC f true : Nat) : Int) := by cases f <;> decide
  rw [show (a : Int) + 1 = ((a + 1 : Nat) : Int) by omega, show ((k + 1 : Nat) : Int) - 1 = (k : Int) by omega]
  by_cases hk : k = 0
  ·subst hk
   rw [show (((0 + 1 : Nat) : Int) == 1) = true from rfl, cond_true, hor, g44 g a (kindC f true) _ hg (by omega) (by cases f <;> decide) hb]
   simp only [Option.bind_some]
   rw [show (0 == 0) = true from rfl] at hG ih
   rw [hG]
   simp only [Option.bind_some, bne_self_eq_false, cond_false]
   exact ih
  ·rw [show (((k + 1 : Nat) : Int) == 1) = false by rw [beq_eq_false_iff_ne]; omega, cond_false, g44 g a (kindC f false) _ hg (by omega) hcd hb]
   simp only [Option.bind_some]
   rw [show (k == 0) = false by rw [beq_eq_false_iff_ne]; exact hk] at hG ih ⊢
   rw [hG]
   simp only [Option.bind_some, bne_self_eq_false, cond_false]
   exact ih
theorem f211 (g : Nat) (hg : g < 18446744073709551616) (S : List (List UInt8)) (L : Int) (R : List (List UInt8)) (v56 : S_Journal) (v58 : List (List UInt8)) (v59 v60 : Int) (v61 : List (List UInt8)) (v62 : List S_Write) (v63 : Int) (v64 : Bool) (v65 : S_Journal) (hR : bsum R <= 1048576) : ∀ (k i a : Nat) (P : List S_Write) (m : Nat), okD (S_Disk.mk S P L false) = true -> a + tot (R.drop i) <= S.length -> P.length <= a -> k + i = R.length -> k + 1 <= m ->
  F21_21_1 fuel0 (g : Int) R (R.length : Int) v56 v58 v59 v60 v61 v62 v63 v64 v65 m 0 (a : Int) (i : Int) (S_Disk.mk S P L false) = some (.inr (S, P ++ writes g a (R.drop i), L, false)) /\ okD (S_Disk.mk S (P ++ writes g a (R.drop i)) L false) = true
 | _, _, _, _, 0, _, _, _, _, h => by omega
 | 0, i, a, P, m + 1, ho, ha, hp, hk, hm => by
  unfold F21_21_1
  rw [decide_eq_false (show ¬ (i : Int) < (R.length : Int) by omega), List.drop_eq_nil_of_le (by omega)]
  unfold writes
  rw [List.append_nil]
  exact ⟨rfl, ho⟩
 | k + 1, i, a, P, m + 1, ho, ha, hp, hk, hm => by
  have hi : i < R.length := by omega
  have hb := bsum_get hi
  have hb2 := bsum_drop R i
  have hS : S.length <= 4096 := (okD_len ho).2.1
  rw [List.drop_eq_getElem_cons hi, tot_cons] at ha
  have hlb := len_bsum R
  have h2 := f212 g hg S L R (R.length : Int) (i : Int) v56 v58 v59 v60 v61 v62 v63 v64 v65 (secN R[i].length) a true R[i] P (fuel0 + 8) ho (by omega) hp (by have := fu; omega)
  have ih := f211 g hg S L R v56 v58 v59 v60 v61 v62 v63 v64 v65 hR k (i + 1) (a + secN R[i].length) (P ++ wpiece g (secN R[i].length) a true R[i]) m h2.2 (by omega) (by rw [List.length_append, wpiece_len]; omega) (by omega) (by omega)
  unfold F21_21_1
  rw [decide_eq_true (show (i : Int) < (R.length : Int) by omega), getI_nat, List.getElem?_eq_getElem hi]
  simp only [cond_true, Option.bind_some]
  rw [g35 _ (by omega)]
  simp only [Option.bind_some]
  rw [show (1 : Int) = ((kindC true false : Nat) : Int) from rfl, h2.1]
  simp only [Option.bind_some]
  rw [wr64 (by rw [show ((kindC true false : Nat) : Int) = 1 from rfl]; omega) (by rw [show ((kindC true false : Nat) : Int) = 1 from rfl]; omega), show (i : Int) + ((kindC true false : Nat) : Int) = ((i + 1 : Nat) : Int) from rfl, List.drop_eq_getElem_cons hi]
  unfold writes
  rw [<- List.append_assoc]
  exact ih
end Go.Proofs.Ytobjniabioaefaa
