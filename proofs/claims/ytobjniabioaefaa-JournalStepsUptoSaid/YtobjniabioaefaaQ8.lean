/-
 Layer 05, in plain Lean: Sync and its reference.
-/
import Derived.Test.YtobjniabioaefaaQ7
import Derived.Test.YtobjniabioaefaaQ5
namespace Go.Proofs.Ytobjniabioaefaa
set_option linter.unusedVariables false
set_option linter.unusedSimpArgs false
set_option maxRecDepth 100000
set_option maxHeartbeats 4000000
theorem g43 (a b : List UInt8) : G43 a b = some (decide (a = b)) := by
 unfold G43 F43
 rw [strEq_b]
theorem f42 (A B : List (List UInt8)) (hl : B.length = A.length) (hA : A.length <= 4194304) (v153 : Bool) : ∀ (k i m : Nat), k + i = A.length -> k + 1 <= m -> F42_43_42_0 fuel0 B v153 A (A.length : Int) m (i : Int) = some (if A.drop i = B.drop i then Sum.inr () else Sum.inl false)
 | _, i, 0, _, hm => by omega
 | 0, i, m + 1, hk, hm => by
  unfold F42_43_42_0
  rw [decide_eq_false (show ¬ (i : Int) < (A.length : Int) by omega), List.drop_eq_nil_of_le (by omega), List.drop_eq_nil_of_le (by omega), if_pos rfl]
  rfl
 | k + 1, i, m + 1, hk, hm => by
  have hi : i < A.length := by omega
  have hi2 : i < B.length := by omega
  unfold F42_43_42_0
  rw [decide_eq_true (show (i : Int) < (A.length : Int) by omega), getI_nat, List.getElem?_eq_getElem hi, getI_nat, List.getElem?_eq_getElem hi2]
  simp only [cond_true, Option.bind_some]
  rw [g43]
  simp only [Option.bind_some]
  rw [wr64 (by omega) (by omega), show (i : Int) + 1 = ((i + 1 : Nat) : Int) by omega, f42 A B hl hA v153 k (i + 1) m (by omega) (by omega)]
  rw [List.drop_eq_getElem_cons hi, List.drop_eq_getElem_cons hi2]
  by_cases h : A[i] = B[i]
  ·rw [decide_eq_true h]
   simp only [Bool.not_true, cond_false, List.cons.injEq, h, true_and]
  ·rw [decide_eq_false h, if_neg (show ¬ (A[i] :: A.drop (i + 1) = B[i] :: B.drop (i + 1)) from fun e => h (List.cons.inj e).1)]
   rfl
theorem g42 (A B : List (List UInt8)) (hA : A.length <= 4194304) : G42_43 A B = some (decide (A = B)) := by
 unfold G42_43 F42_43
 by_cases hl : A.length = B.length
 ·rw [show ((A.length : Int) != (B.length : Int)) = false by unfold bne; rw [natbeq, decide_eq_true hl]; rfl, cond_false]
  have h := f42 A B hl.symm hA false A.length 0 (fuel0 + 8) (by omega) (by have := fu; omega)
  rw [List.drop_zero, List.drop_zero] at h
  refine Eq.trans (congrArg (fun z => Option.bind z _) h) ?_
  by_cases e : A = B
  ·rw [if_pos e, decide_eq_true e]; rfl
  ·rw [if_neg e, decide_eq_false e]; rfl
 ·rw [show ((A.length : Int) != (B.length : Int)) = true by unfold bne; rw [natbeq, decide_eq_false hl]; rfl, cond_true, decide_eq_false (fun e => hl (by rw [e]))]
def doW (l : S_Journal) (d : S_Disk) : S_Journal × S_Disk × Int :=
 if (syncR (S_Disk.mk d.Sectors (writes (gmax 0 d.Sectors + 1) (tot (l.Records.take l.Synced.toNat)) (l.Records.drop l.Synced.toNat)) d.Left false)).2 = 0
 then (S_Journal.mk l.Records l.Many (l.Records.length : Int), (syncR (S_Disk.mk d.Sectors (writes (gmax 0 d.Sectors + 1) (tot (l.Records.take l.Synced.toNat)) (l.Records.drop l.Synced.toNat)) d.Left false)).1, 0)
 else (zeroJ, (syncR (S_Disk.mk d.Sectors (writes (gmax 0 d.Sectors + 1) (tot (l.Records.take l.Synced.toNat)) (l.Records.drop l.Synced.toNat)) d.Left false)).1, (syncR (S_Disk.mk d.Sectors (writes (gmax 0 d.Sectors + 1) (tot (l.Records.take l.Synced.toNat)) (l.Records.drop l.Synced.toNat)) d.Left false)).2)
def goOn (l : S_Journal) (d : S_Disk) : S_Journal × S_Disk × Int := if l.Synced = (l.Records.length : Int) then (l, d, 0) else doW l d
def sameL (l : S_Journal) (d : S_Disk) : Bool := decide (recsOf d.Sectors = l.Records.take l.Synced.toNat) && decide (gmax 0 d.Sectors + 1 < 4294967296)
def syncJ (l : S_Journal) (d : S_Disk) : S_Journal × S_Disk × Int :=
 if okJ l = true then (if okD d = true then (if d.Stopped = true then (zeroJ, zeroD, 40) else if l.Many = (d.Sectors.length : Int) /\ d.Pending.length = 0 then (if sameL l d = true then goOn l d else (zeroJ, zeroD, 50)) else (zeroJ, zeroD, 1)) else (zeroJ, zeroD, 40)) else (zeroJ, zeroD, 1)
theorem bsum_take : ∀ (l : List (List UInt8)) (i : Nat), bsum (l.take i) <= bsum l
 | [], i => by simp
 | b :: l, 0 => by simp [bsum]
 | b :: l, i + 1 => by rw [List.take_succ_cons, bsum_cons, bsum_cons]; have := bsum_take l i; omega
theorem tot_split (l : List (List UInt8)) (i : Nat) : tot l = tot (l.take i) + tot (l.drop i) := by rw [<- tot_app, List.take_append_drop]
theorem tail21 (l : S_Journal) (d : S_Disk) (hb : bsum l.Records <= 1048576) (hj : okJ l = true) (ho : okD d = true) (hst : d.Stopped = false) (hm : l.Many = (d.Sectors.length : Int)) (hp : d.Pending.length = 0) (J : S_Journal) :
  (bif (l.Synced == ((l.Records.length : Int))) then (some ((l, d, 0))) else (Option.bind (subI l.Records 0 l.Synced) fun y47 => Option.bind (G36 y47) fun y48 => Option.bind (subI l.Records l.Synced ((l.Records.length : Int))) fun y49 => Option.bind (F21_21_1 fuel0 ((gmax 0 d.Sectors + 1 : Nat) : Int) y49 ((y49.length : Int)) l ([]) 0 0 ([]) ([]) 0 false J (fuel0+8) 0 y48 0 d) fun o123 => match o123 with | (Sum.inl ((y124, y125, y126, y127, y128, y129, y130, y131, y132))) => some (((S_Journal.mk ([]) y129 y130), (S_Disk.mk ([]) ([]) y131 y132), y124)) | (Sum.inr ((y140, y141, y142, y143))) => Option.bind (G27 ((S_Disk.mk y140 y141 y142 y143))) fun y150 => bif (y150.2 != 0) then (some (((S_Journal.mk ([]) 0 0), y150.1, y150.2))) else (some (((S_Journal.mk l.Records l.Many ((l.Records.length : Int))), y150.1, 0))))) = some (goOn l d) := by
 obtain ⟨S, P, L, st⟩ := d
 obtain rfl : st = false := hst
 obtain rfl : P = [] := List.eq_nil_of_length_eq_zero hp
 obtain ⟨⟨o1, o2⟩, ⟨o3, o4⟩, o5⟩ := ok_of hj
 have hs := okD_secs ho
 have hgm := gmax_lt S 0 hs.1 (by decide)
 unfold goOn
 by_cases he : l.Synced = (l.Records.length : Int)
 ·rw [if_pos he, show (l.Synced == (l.Records.length : Int)) = true by rw [beq_iff_eq]; exact he]; rfl
 ·rw [if_neg he, show (l.Synced == (l.Records.length : Int)) = false by rw [beq_eq_false_iff_ne]; exact he, cond_false]
  have hsy : l.Synced = ((l.Synced.toNat : Nat) : Int) := by omega
  have h1 : subI l.Records 0 l.Synced = some (l.Records.take l.Synced.toNat) := by rw [hsy]; exact subI_take _ _ (by omega)
  have h2 : subI l.Records l.Synced (l.Records.length : Int) = some (l.Records.drop l.Synced.toNat) := by rw [hsy]; exact subI_drop _ _ (by omega)
  rw [h1, h2]
  simp only [Option.bind_some]
  have hb1 := bsum_take l.Records l.Synced.toNat
  have hb2 := bsum_drop l.Records l.Synced.toNat
  rw [g36 _ (by omega)]
  simp only [Option.bind_some]
  have hts := tot_split l.Records l.Synced.toNat
  have hlb := len_bsum (l.Records.drop l.Synced.toNat)
  have key := f211 (gmax 0 S + 1) (by omega) S L (l.Records.drop l.Synced.toNat) l [] 0 0 [] [] 0 false J (by omega) (l.Records.drop l.Synced.toNat).length 0 (tot (l.Records.take l.Synced.toNat)) [] (fuel0 + 8) ho (by rw [List.drop_zero]; have : l.Many = (S.length : Int) := hm; omega) (Nat.zero_le _) (by omega) (by have := fu; omega)
  rw [List.drop_zero] at key
  refine Eq.trans (congrArg (fun z => Option.bind z _) key.1) ?_
  simp only [Option.bind_some, List.nil_append]
  have hk2 : okD (S_Disk.mk S (writes (gmax 0 S + 1) (tot (l.Records.take l.Synced.toNat)) (l.Records.drop l.Synced.toNat)) L false) = true := by have := key.2; rwa [List.nil_append] at this
  rw [g27 _ (fits_ok hk2)]
  unfold doW
  simp only [Option.bind_some]
  by_cases hz : (syncR (S_Disk.mk S (writes (gmax 0 S + 1) (tot (l.Records.take l.Synced.toNat)) (l.Records.drop l.Synced.toNat)) L false)).2 = 0
  ·rw [if_pos hz, show ((syncR (S_Disk.mk S (writes (gmax 0 S + 1) (tot (l.Records.take l.Synced.toNat)) (l.Records.drop l.Synced.toNat)) L false)).2 != 0) = false by rw [hz]; rfl]; rfl
  ·rw [if_neg hz, show ((syncR (S_Disk.mk S (writes (gmax 0 S + 1) (tot (l.Records.take l.Synced.toNat)) (l.Records.drop l.Synced.toNat)) L false)).2 != 0) = true by rw [bne_iff_ne]; exact hz]; rfl
theorem shr32 (g : Nat) : (shrI .u64 (g : Int) 32 != 0) = !decide (g < 4294967296) := by
 unfold shrI
 rw [show min (32 : Int).toNat IntKind.u64.bits = 32 from rfl, Int.fdiv_eq_ediv_of_nonneg _ (by decide)]
 rw [Bool.eq_iff_iff]
 simp only [bne_iff_ne, ne_eq, Bool.not_eq_true', decide_eq_false_iff_not]
 omega
theorem g21 (l : S_Journal) (d : S_Disk) (hb : bsum l.Records <= 1048576) (hd : fits d) : G21 l d = some (syncJ l d) := by
 unfold G21 F21 syncJ
 rw [g17 _ hb, g31 d hd]
 by_cases hj : okJ l = true
 ·rw [if_pos hj, if_pos hj]
  by_cases ho : okD d = true
  ·rw [if_pos ho, if_pos ho, g12 d hd]
   have hs := okD_secs ho
   obtain ⟨⟨o1, o2⟩, ⟨o3, o4⟩, o5⟩ := ok_of hj
   simp only [Option.bind_some, bne_self_eq_false, cond_false]
   cases hst : d.Stopped with
   | true =>
    unfold openR
    rw [if_pos ho, if_pos hst]
    cases (l.Many != (d.Sectors.length : Int)) <;> rfl
   | false =>
    by_cases hm : l.Many = (d.Sectors.length : Int)
    ·rw [show (l.Many != (d.Sectors.length : Int)) = false by rw [hm]; exact bne_self_eq_false _]
     by_cases hp : d.Pending.length = 0
     ·have hop : openR d = (S_Journal.mk (recsOf d.Sectors) (d.Sectors.length : Int) ((recsOf d.Sectors).length : Int), 0) := by
       unfold openR
       rw [if_pos ho, if_neg (by rw [hst]; decide), if_neg (by omega)]
      rw [hop, if_neg (by decide), if_pos ⟨hm, hp⟩]
      simp only [cond_false, Option.bind_some, bne_self_eq_false]
      have h1 : subI l.Records 0 l.Synced = some (l.Records.take l.Synced.toNat) := by rw [show l.Synced = ((l.Synced.toNat : Nat) : Int) by omega]; exact subI_take _ _ (by omega)
      have hgm := f210 d.Sectors hs 0 l d [] 0 0 [] [] 0 false (S_Journal.mk (recsOf d.Sectors) (d.Sectors.length : Int) ((recsOf d.Sectors).length : Int)) d.Sectors.length 0 0 (fuel0 + 8) (by omega) (by have := fu; have := hs.2; omega) (by decide)
      rw [List.drop_zero] at hgm
      refine Eq.trans (congrArg (fun z => Option.bind z _) hgm) ?_
      simp only [Option.bind_some]
      rw [h1]
      simp only [Option.bind_some]
      have htl := tail21 l d hb hj ho hst hm hp (S_Journal.mk (recsOf d.Sectors) (d.Sectors.length : Int) ((recsOf d.Sectors).length : Int))
      rw [h1] at htl
      have hrl := recsOf_len d.Sectors
      rw [g42 _ _ (by have := hs.2; omega)]
      simp only [Option.bind_some]
      unfold sameL
      rw [shr32]
      cases decide (recsOf d.Sectors = l.Records.take l.Synced.toNat) with
      | false => rfl
      | true => cases decide (gmax 0 d.Sectors + 1 < 4294967296) with
       | false => rfl
       | true => exact htl
     ·have hop : openR d = (zeroJ, 1) := by
       unfold openR
       rw [if_pos ho, if_neg (by rw [hst]; decide), if_pos (by omega)]
      rw [hop, if_neg (by decide), if_neg (by omega)]
      rfl
    ·rw [show (l.Many != (d.Sectors.length : Int)) = true by rw [bne_iff_ne]; exact hm, if_neg (by decide), if_neg (by omega)]
     rfl
  ·rw [if_neg ho, if_neg ho]
   rfl
 ·rw [if_neg hj, if_neg hj]
  rfl
theorem writes_ok {S : List (List UInt8)} {L : Int} {g : Nat} {R : List (List UInt8)} {a : Nat} (h : okD (S_Disk.mk S [] L false) = true) (ha : a + tot R <= S.length) : okD (S_Disk.mk S (writes g a R) L false) = true := by
 rw [okD_iff] at h ⊢
 obtain ⟨a1, a2, a3, a4, a5, a6, a7⟩ := h
 refine ⟨a1, a2, ?_, a4, a5, fun w hw => ?_, a7⟩
 ·show (writes g a R).length <= 4096
  rw [writes_len]
  have : S.length <= 4096 := a2
  omega
 ·have h := writes_at g R a w hw
  refine ⟨by omega, ?_, h.2.2⟩
  have := h.2.1
  show w.At < (S.length : Int)
  omega
end Go.Proofs.Ytobjniabioaefaa
