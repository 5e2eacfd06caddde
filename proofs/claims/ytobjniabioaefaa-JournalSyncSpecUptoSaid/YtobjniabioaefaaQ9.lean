/-
 Layer 05, in plain Lean: the reference's Sync; JournalSyncSpec.
-/
import Derived.Test.YtobjniabioaefaaP
import Derived.Test.YtobjniabioaefaaQ8
namespace Go.Proofs.Ytobjniabioaefaa
set_option linter.unusedVariables false
set_option linter.unusedSimpArgs false
set_option maxRecDepth 100000
set_option maxHeartbeats 4000000
theorem sub_piece (b : List UInt8) (i : Nat) (h : 112 * i <= b.length) (hb : b.length <= 1048576) : subI b (wr .i64 ((i : Int) * 112)) (if wr .i64 (wr .i64 ((i : Int) + 1) * 112) < (b.length : Int) then wr .i64 (wr .i64 ((i : Int) + 1) * 112) else (b.length : Int)) = some ((b.drop (112 * i)).take 112) := by
 rw [wr64 (n := (i : Int) * 112) (by omega) (by omega), wr64 (n := (i : Int) + 1) (by omega) (by omega), wr64 (by omega) (by omega)]
 have e : (if ((i : Int) + 1) * 112 < (b.length : Int) then ((i : Int) + 1) * 112 else (b.length : Int)) = ((min (112 * i + 112) b.length : Nat) : Int) := by split <;> omega
 rw [e, show (i : Int) * 112 = ((112 * i : Nat) : Int) by omega, subI_at b _ _ (by omega) (by omega)]
 congr 1
 rw [Nat.min_def]
 split
 ·rw [show 112 * i + 112 - 112 * i = 112 by omega]
 ·rw [List.take_of_length_le (by rw [List.length_drop]; omega), List.take_of_length_le (by rw [List.length_drop]; omega)]
theorem f221 (g : Nat) (hg : g < 18446744073709551616) (S : List (List UInt8)) (L : Int) (b : List UInt8) (hb : b.length <= 1048576) (N : Nat) (hN : N = secN b.length) (v41 v44 : Int) (v48 : S_Journal) (v50 : List (List UInt8)) (v51 v52 : Int) (v53 : List (List UInt8)) (v54 : List S_Write) (v55 : Int) (v56 : Bool) : ∀ (k i a : Nat) (P : List S_Write) (m : Nat), okD (S_Disk.mk S P L false) = true -> a + k <= S.length -> P.length <= a -> k + i = N -> k + 1 <= m ->
  F22_22_1 fuel0 v41 (g : Int) v44 b (N : Int) v48 v50 v51 v52 v53 v54 v55 v56 m (a : Int) (i : Int) (S_Disk.mk S P L false) = some (((a + k : Nat) : Int), S, P ++ wpiece g k a (i == 0) (b.drop (112 * i)), L, false) /\ okD (S_Disk.mk S (P ++ wpiece g k a (i == 0) (b.drop (112 * i))) L false) = true
 | _, _, _, _, 0, _, _, _, _, h => by omega
 | 0, i, a, P, m + 1, ho, ha, hp, hk, hm => by
  unfold F22_22_1
  rw [decide_eq_false (show ¬ (i : Int) < (N : Int) by omega)]
  unfold wpiece
  rw [List.append_nil]
  exact ⟨rfl, ho⟩
 | k + 1, i, a, P, m + 1, ho, ha, hp, hk, hm => by
  have hl := okD_len ho
  have hS : S.length <= 4096 := hl.2.1
  have hbt : ((b.drop (112 * i)).take 112).length <= 112 := by rw [List.length_take]; omega
  have h112 : 112 * i <= b.length := by unfold secN at hN; omega
  have he := enc_len (g := g) (k := a) (c := kindC (i == 0) (k == 0)) hbt
  have hP' := okD_more ho (a := a) (by omega) he (by omega)
  have hw := write_one ho (a := a) (by omega) he (by omega)
  have ih := f221 g hg S L b hb N hN v41 v44 v48 v50 v51 v52 v53 v54 v55 v56 k (i + 1) (a + 1) (P ++ [S_Write.mk (a : Int) (enc g a (kindC (i == 0) (k == 0)) ((b.drop (112 * i)).take 112))]) m hP' (by omega) (by simp; omega) (by omega) (by omega)
  have hG := g46 (S_Disk.mk S P L false) (a : Int) (enc g a (kindC (i == 0) (k == 0)) ((b.drop (112 * i)).take 112)) (fits_ok ho)
  rw [hw] at hG
  rw [show a + 1 + k = a + (k + 1) by omega, List.append_assoc, show 112 * (i + 1) = 112 * i + 112 by omega, <- List.drop_drop, show (i + 1 == 0) = false by rw [beq_eq_false_iff_ne]; omega] at ih
  unfold F22_22_1 wpiece
  rw [decide_eq_true (show (i : Int) < (N : Int) by omega), sub_piece b i h112 hb]
  simp only [cond_true, Option.bind_some]
  rw [wr64 (n := (N : Int) - 1) (by unfold secN at hN; omega) (by unfold secN at hN; omega), show ((i : Int) == (N : Int) - 1) = (k == 0) by rw [Bool.eq_iff_iff]; simp only [beq_iff_eq]; omega, show ((i : Int) == 0) = (i == 0) by rw [Bool.eq_iff_iff]; simp only [beq_iff_eq]; omega, g47 g a (i == 0) (k == 0) _ hg (by omega) hbt]
  simp only [Option.bind_some]
  rw [hG]
  simp only [Option.bind_some]
  rw [wr64 (n := (a : Int) + 1) (by omega) (by omega), wr64 (n := (i : Int) + 1) (by omega) (by unfold secN at hN; omega), show (a : Int) + 1 = ((a + 1 : Nat) : Int) by omega, show (i : Int) + 1 = ((i + 1 : Nat) : Int) by omega]
  exact ih
theorem f220 (g : Nat) (hg : g < 18446744073709551616) (S : List (List UInt8)) (L : Int) (l : S_Journal) (v25 : Int) (v31 : List (List UInt8)) (v32 v33 : Int) (v34 : List (List UInt8)) (v35 : List S_Write) (v36 : Int) (v37 : Bool) (hR : bsum l.Records <= 1048576) : ∀ (k i a : Nat) (P : List S_Write) (m : Nat), okD (S_Disk.mk S P L false) = true -> a + tot (l.Records.drop i) <= S.length -> P.length <= a -> k + i = l.Records.length -> k + 1 <= m ->
  F22_22_0 fuel0 v25 (g : Int) l v31 v32 v33 v34 v35 v36 v37 m (a : Int) (i : Int) (S_Disk.mk S P L false) = some (S, P ++ writes g a (l.Records.drop i), L, false) /\ okD (S_Disk.mk S (P ++ writes g a (l.Records.drop i)) L false) = true
 | _, _, _, _, 0, _, _, _, _, h => by omega
 | 0, i, a, P, m + 1, ho, ha, hp, hk, hm => by
  unfold F22_22_0
  rw [decide_eq_false (show ¬ (i : Int) < (l.Records.length : Int) by omega), List.drop_eq_nil_of_le (by omega)]
  unfold writes
  rw [List.append_nil]
  exact ⟨rfl, ho⟩
 | k + 1, i, a, P, m + 1, ho, ha, hp, hk, hm => by
  have hi : i < l.Records.length := by omega
  have hb := bsum_get hi
  have hb2 := bsum_drop l.Records i
  have hS : S.length <= 4096 := (okD_len ho).2.1
  rw [List.drop_eq_getElem_cons hi, tot_cons] at ha
  have hlb := len_bsum l.Records
  have h2 := f221 g hg S L l.Records[i] (by omega) (secN l.Records[i].length) rfl v25 (i : Int) l v31 v32 v33 v34 v35 v36 v37 (secN l.Records[i].length) 0 a P (fuel0 + 8) ho (by omega) hp (by omega) (by have := fu; omega)
  rw [Nat.mul_zero, List.drop_zero, show (0 == 0) = true from rfl] at h2
  have ih := f220 g hg S L l v25 v31 v32 v33 v34 v35 v36 v37 hR k (i + 1) (a + secN l.Records[i].length) (P ++ wpiece g (secN l.Records[i].length) a true l.Records[i]) m h2.2 (by omega) (by rw [List.length_append, wpiece_len]; omega) (by omega) (by omega)
  unfold F22_22_0
  rw [decide_eq_true (show (i : Int) < (l.Records.length : Int) by omega), getI_nat, List.getElem?_eq_getElem hi]
  simp only [cond_true, Option.bind_some]
  rw [g39 _ (by omega)]
  simp only [Option.bind_some]
  refine ⟨(congrArg (fun z => Option.bind z _) h2.1).trans ?_, ?_⟩
  ·simp only [Option.bind_some]
   rw [wr64 (by omega) (by omega), show (i : Int) + 1 = ((i + 1 : Nat) : Int) by omega, List.drop_eq_getElem_cons hi]
   unfold writes
   rw [<- List.append_assoc]
   exact ih.1
  ·rw [List.drop_eq_getElem_cons hi]
   unfold writes
   rw [<- List.append_assoc]
   exact ih.2
theorem tail22 (l : S_Journal) (d : S_Disk) (hb : bsum l.Records <= 1048576) (hj : okJ l = true) (ho : okD d = true) (hst : d.Stopped = false) (hm : l.Many = (d.Sectors.length : Int)) (hp : d.Pending.length = 0) :
  (bif (l.Synced == ((l.Records.length : Int))) then (some ((l, d, 0))) else (Option.bind (subI l.Records 0 l.Synced) fun y23 => Option.bind (G40 y23) fun y24 => Option.bind (F22_22_0 fuel0 0 ((gmax 0 d.Sectors + 1 : Nat) : Int) l ([]) 0 0 ([]) ([]) 0 false (fuel0+8) y24 l.Synced d) fun o70 => match o70 with | (y71, y72, y73, y74) => Option.bind (G48 ((S_Disk.mk y71 y72 y73 y74))) fun y79 => bif (y79.2 != 0) then (some (((S_Journal.mk ([]) 0 0), y79.1, y79.2))) else (some (((S_Journal.mk l.Records l.Many ((l.Records.length : Int))), y79.1, 0))))) = some (goOn l d) := by
 obtain ⟨S, P, L, st⟩ := d
 obtain rfl : st = false := hst
 obtain rfl : P = [] := List.eq_nil_of_length_eq_zero hp
 obtain ⟨⟨o1, o2⟩, ⟨o3, o4⟩, o5⟩ := ok_of hj
 have hs := okD_secs ho
 have hgm := gmax_lt S 0 hs.1 (by decide)
 unfold goOn
 by_cases he : l.Synced = (l.Records.length : Int)
 ·rw [if_pos he, show (l.Synced == (l.Records.length : Int)) = true by rw [beq_iff_eq]; exact he]; rfl
 ·rw [if_neg he, show (l.Synced == (l.Records.length : Int)) = false by rw [beq_eq_false_iff_ne]; exact he, cond_false]
  have hsy : l.Synced = ((l.Synced.toNat : Nat) : Int) := by omega
  have h1 : subI l.Records 0 l.Synced = some (l.Records.take l.Synced.toNat) := by rw [hsy]; exact subI_take _ _ (by omega)
  rw [h1]
  simp only [Option.bind_some]
  have hb1 := bsum_take l.Records l.Synced.toNat
  have hb2 := bsum_drop l.Records l.Synced.toNat
  rw [g40 _ (by omega)]
  simp only [Option.bind_some]
  have hts := tot_split l.Records l.Synced.toNat
  have hlb := len_bsum l.Records
  have key := f220 (gmax 0 S + 1) (by omega) S L l 0 [] 0 0 [] [] 0 false hb (l.Records.length - l.Synced.toNat) l.Synced.toNat (tot (l.Records.take l.Synced.toNat)) [] (fuel0 + 8) ho (by have : l.Many = (S.length : Int) := hm; omega) (Nat.zero_le _) (by omega) (by have := fu; omega)
  rw [<- hsy] at key
  refine Eq.trans (congrArg (fun z => Option.bind z _) key.1) ?_
  simp only [Option.bind_some, List.nil_append]
  have hk2 : okD (S_Disk.mk S (writes (gmax 0 S + 1) (tot (l.Records.take l.Synced.toNat)) (l.Records.drop l.Synced.toNat)) L false) = true := by have := key.2; rwa [List.nil_append] at this
  rw [g48 _ (fits_ok hk2)]
  unfold doW
  simp only [Option.bind_some]
  by_cases hz : (syncR (S_Disk.mk S (writes (gmax 0 S + 1) (tot (l.Records.take l.Synced.toNat)) (l.Records.drop l.Synced.toNat)) L false)).2 = 0
  ·rw [if_pos hz, show ((syncR (S_Disk.mk S (writes (gmax 0 S + 1) (tot (l.Records.take l.Synced.toNat)) (l.Records.drop l.Synced.toNat)) L false)).2 != 0) = false by rw [hz]; rfl]; rfl
  ·rw [if_neg hz, show ((syncR (S_Disk.mk S (writes (gmax 0 S + 1) (tot (l.Records.take l.Synced.toNat)) (l.Records.drop l.Synced.toNat)) L false)).2 != 0) = true by rw [bne_iff_ne]; exact hz]; rfl
theorem g22 (l : S_Journal) (d : S_Disk) (hb : bsum l.Records <= 1048576) (hd : fits d) : G22 l d = some (syncJ l d) := by
 unfold G22 F22 syncJ
 rw [g18 _ hb, g33 d hd]
 by_cases hj : okJ l = true
 ·rw [if_pos hj, if_pos hj]
  by_cases ho : okD d = true
  ·rw [if_pos ho, if_pos ho]
   have hs := okD_secs ho
   obtain ⟨⟨o1, o2⟩, ⟨o3, o4⟩, o5⟩ := ok_of hj
   simp only [Option.bind_some, bne_self_eq_false, cond_false]
   cases hst : d.Stopped with
   | true => rfl
   | false =>
    by_cases hm : l.Many = (d.Sectors.length : Int)
    ·rw [show (l.Many != (d.Sectors.length : Int)) = false by rw [hm]; exact bne_self_eq_false _]
     by_cases hp : d.Pending.length = 0
     ·rw [if_neg (by decide), if_pos ⟨hm, hp⟩, decide_eq_false (show ¬ (0 : Int) < (d.Pending.length : Int) by omega)]
      simp only [cond_false, Option.bind_some]
      have h1 : subI l.Records 0 l.Synced = some (l.Records.take l.Synced.toNat) := by rw [show l.Synced = ((l.Synced.toNat : Nat) : Int) by omega]; exact subI_take _ _ (by omega)
      have htl := tail22 l d hb hj ho hst hm hp
      have hrl := recsOf_len d.Sectors
      rw [h1] at htl
      rw [g45 _ hs, g34 _ hs, h1]
      simp only [Option.bind_some]
      rw [g24e _ _ (by have := hs.2; omega)]
      simp only [Option.bind_some]
      unfold sameL
      rw [show decide ((4294967295 : Int) < ((gmax 0 d.Sectors + 1 : Nat) : Int)) = !decide (gmax 0 d.Sectors + 1 < 4294967296) by rw [Bool.eq_iff_iff]; simp only [decide_eq_true_eq, Bool.not_eq_true', decide_eq_false_iff_not]; omega]
      cases decide (recsOf d.Sectors = l.Records.take l.Synced.toNat) with
      | false => rfl
      | true => cases decide (gmax 0 d.Sectors + 1 < 4294967296) with
       | false => rfl
       | true => exact htl
     ·rw [if_neg (by decide), if_neg (by omega), decide_eq_true (show (0 : Int) < (d.Pending.length : Int) by omega)]
      rfl
    ·rw [show (l.Many != (d.Sectors.length : Int)) = true by rw [bne_iff_ne]; exact hm, if_neg (by decide), if_neg (by omega)]
     rfl
  ·rw [if_neg ho, if_neg ho]
   rfl
 ·rw [if_neg hj, if_neg hj]
  rfl
end Go.Proofs.Ytobjniabioaefaa
