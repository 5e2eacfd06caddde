/-
 Layer 05, in plain Lean: JournalSteps.
-/
import Derived.Test.YtobjniabioaefaaP
import Derived.Test.YtobjniabioaefaaQ13
namespace Go.Proofs.Ytobjniabioaefaa
set_option linter.unusedVariables false
set_option linter.unusedSimpArgs false
set_option maxRecDepth 100000
set_option maxHeartbeats 4000000
theorem open_ok8 {S : List (List UInt8)} {L : Int} (h : okD (S_Disk.mk S [] L false) = true) : openR (S_Disk.mk S [] L false) = (S_Journal.mk (recsOf S) (S.length : Int) ((recsOf S).length : Int), 0) := by
 unfold openR
 rw [if_pos h]
 rfl
theorem f28 (s : Nat) (l : List (List UInt8)) (v5 : List (List UInt8)) (v6 v7 : Int) (hb : bsum l <= 1048576) : ∀ (k i m : Nat) (R : List (List UInt8)), k + i = l.length -> k + 1 <= m -> tot R <= 40 -> s <= R.length -> F28_28_0 fuel0 l (l.length : Int) v5 v6 v7 m (i : Int) (S_Journal.mk R 40 (s : Int)) = some (pick 40 R (l.drop i), 40, (s : Int))
 | _, i, 0, _, _, h, _, _ => by omega
 | 0, i, m + 1, R, hk, _, hR, hs => by
  unfold F28_28_0
  rw [decide_eq_false (show ¬ (i : Int) < (l.length : Int) by omega), List.drop_eq_nil_of_le (by omega)]
  rfl
 | k + 1, i, m + 1, R, hk, hm, hR, hs => by
  have hi : i < l.length := by omega
  have a1 := bsum_get hi
  have a2 := bsum_drop l i
  have a3 := bsum_tot R
  have a4 := len_bsum l
  have hg := g15 (S_Journal.mk R 40 (s : Int)) l[i] (by show bsum R <= _; omega) (by omega)
  have hap := app_pick (N := 40) (s := s) (R0 := R) (by decide) (by decide) hs hR l[i]
  rw [show ((40 : Nat) : Int) = 40 from rfl] at hap
  unfold F28_28_0
  rw [decide_eq_true (show (i : Int) < (l.length : Int) by omega), getI_nat, List.getElem?_eq_getElem hi]
  simp only [cond_true, Option.bind_some]
  rw [hg]
  simp only [Option.bind_some]
  rw [hap, wr64 (by omega) (by omega), show (i : Int) + 1 = ((i + 1 : Nat) : Int) by omega, List.drop_eq_getElem_cons hi]
  unfold pick
  by_cases hf : tot R + secN l[i].length <= 40
  ·rw [if_pos hf, if_pos hf]
   simp only [beq_self_eq_true, cond_true]
   exact f28 s l v5 v6 v7 hb k (i + 1) m (R ++ [l[i]]) (by omega) (by omega) (by rw [tot_app, tot_cons, show tot [] = 0 from rfl]; omega) (by rw [List.length_append]; omega)
  ·rw [if_neg hf, if_neg hf]
   exact f28 s l v5 v6 v7 hb k (i + 1) m R (by omega) (by omega) hR hs
theorem g28 (s : Nat) (l R : List (List UInt8)) (hb : bsum l <= 1048576) (hR : tot R <= 40) (hs : s <= R.length) : G28 (S_Journal.mk R 40 (s : Int)) l = some (S_Journal.mk (pick 40 R l) 40 (s : Int)) := by
 have a4 := len_bsum l
 have h := f28 s l [] 0 0 hb l.length 0 (fuel0 + 8) R (by omega) (by have := fu; omega) hR hs
 rw [List.drop_zero] at h
 unfold G28 F28
 refine (congrArg (fun w => Option.bind w _) h).trans ?_
 rfl
theorem bsum_app : ∀ (a b : List (List UInt8)), bsum (a ++ b) = bsum a + bsum b
 | [], b => by rw [List.nil_append, show bsum [] = 0 from rfl, Nat.zero_add]
 | x :: a, b => by rw [List.cons_append, bsum_cons, bsum_cons, bsum_app a b]; omega
theorem sync8 {S R0 R : List (List UInt8)} {m : Nat} (h : Std S R0 m) (hS : S.length = 40) (hm : m + 1 < 4294967296) (hR : tot (R0 ++ R) <= 40) : ∃ T, G21 (S_Journal.mk (R0 ++ R) 40 (R0.length : Int)) (S_Disk.mk S [] (-1) false) = some (S_Journal.mk (R0 ++ R) 40 ((R0 ++ R).length : Int), S_Disk.mk T [] (-1) false, 0) /\ Std T (R0 ++ R) (m + 1) /\ T.length = 40 := by
 have hb := bsum_tot (R0 ++ R)
 rw [tot_app] at hR
 have hso := sync_out h hm (by rw [hS]; exact hR) (L := -1) (by omega) (by omega)
 rw [hS] at hso
 rcases hso with ⟨T, L', e, hT, hTl, hL⟩ | ⟨h0, _⟩
 ·obtain rfl := hL rfl
  refine ⟨T, ?_, hT, hTl⟩
  rw [g21 _ _ (by show bsum (R0 ++ R) <= _; rw [tot_app] at hb; omega) (fits_ok (okD_st h (by omega) (by omega) false))]
  exact congrArg some e
 ·omega
theorem pure8 : Pure8 := by
 intro a b _ _ ha hb
 have ha : bsum a <= 1048576 := by have := wt_recs a; omega
 have hb : bsum b <= 1048576 := by have := wt_recs b; omega
 have hS := st_new (n := 40) (by decide) (by decide)
 have hok := okD_st hS (L := -1) (by omega) (by omega) false
 have hn : newR 40 = (S_Disk.mk (List.replicate 40 (List.replicate 128 0)) [] (-1) false, 0) := rfl
 have la := len_bsum a
 have lb := len_bsum b
 unfold G8 F8
 rw [sane10, g25 _ (by omega), hn]
 simp only [Option.bind_some, Bool.not_true, cond_false, bne_self_eq_false]
 rw [appI_some 24 [] a (by rw [lim]; simp; omega), List.nil_append]
 simp only [Option.bind_some]
 rw [appI_some 24 a b (by rw [lim]; omega)]
 simp only [Option.bind_some]
 rw [g11w _ _ (by rw [bsum_app]; omega)]
 simp only [Option.bind_some]
 cases fewB (S_Disk.mk (List.replicate 40 (List.replicate 128 0)) [] (-1) false) (a ++ b) with
 | false => rfl
 | true =>
  have hlen : (List.replicate 40 (List.replicate 128 (0 : UInt8))).length = 40 := List.length_replicate ..
  generalize hz : List.replicate 40 (List.replicate 128 (0 : UInt8)) = Z at *
  obtain ⟨⟨A, hA⟩, tA⟩ := pick_ext 40 a [] (by decide)
  rw [List.nil_append] at hA
  obtain ⟨⟨B, hB⟩, tB⟩ := pick_ext 40 b (pick 40 [] a) tA
  have hB2 := hB
  rw [hA] at hB tA
  rw [hA, hB] at tB
  have s1 := g28 0 a [] ha (by decide) (Nat.le_refl _)
  have s2 := g28 0 b A hb tA (Nat.zero_le _)
  have s3 := g28 A.length b A hb tA (Nat.le_refl _)
  rw [hA] at s1
  rw [hB] at s2 s3
  obtain ⟨T1, r1, q1, l1⟩ := sync8 (R := A ++ B) hS hlen (by decide) (by rw [List.nil_append]; exact tB)
  obtain ⟨T2, r2, q2, l2⟩ := sync8 (R := A) hS hlen (by decide) (by rw [List.nil_append]; exact tA)
  rw [List.nil_append] at r1 q1 r2 q2
  obtain ⟨T3, r3, q3, l3⟩ := sync8 (R := B) q2 l2 (by decide) tB
  obtain ⟨T4, r4, q4, l4⟩ := sync8 (R := []) q3 l3 (by decide) (by rw [List.append_nil]; exact tB)
  have e4 : T4 = T3 := by
   have h := sync_same q3 (by decide) (by rw [l3]; exact tB) (L := -1) (by omega) (by omega)
   have hb4 := bsum_tot (A ++ B)
   rw [List.append_nil, g21 _ _ (by show bsum (A ++ B) <= _; omega) (fits_ok (okD_st q3 (by omega) (by omega) false))] at r4
   rw [l3] at h
   have r4' := (congrArg some h).symm.trans r4
   injection r4' with r4'
   injection r4' with _ r4'
   injection r4' with r4' _
   injection r4' with r4' _
   exact r4'.symm
  subst e4
  have hk1 := okD_st q1 (L := -1) (by omega) (by omega) false
  have hk3 := okD_st q3 (L := -1) (by omega) (by omega) false
  have hll := len_le (A ++ B)
  simp only [Bool.not_true, cond_false]
  rw [g12 _ (fits_ok hok), open_ok8 hok, hS.recs, hlen]
  simp only [Option.bind_some, bne_self_eq_false, cond_false]
  have s1' : G28 (S_Journal.mk [] ((40 : Nat) : Int) ((([] : List (List UInt8)).length : Nat) : Int)) a = some (S_Journal.mk A 40 0) := s1
  rw [s1']
  simp only [Option.bind_some]
  have s2' : G28 (S_Journal.mk A 40 0) b = some (S_Journal.mk (A ++ B) 40 0) := s2
  rw [s2']
  simp only [Option.bind_some]
  have r1' : G21 (S_Journal.mk (A ++ B) 40 0) (S_Disk.mk Z [] (-1) false) = _ := r1
  have r2' : G21 (S_Journal.mk A 40 0) (S_Disk.mk Z [] (-1) false) = _ := r2
  rw [r1']
  simp only [Option.bind_some]
  rw [r2']
  simp only [Option.bind_some]
  rw [s3]
  simp only [Option.bind_some]
  rw [r3]
  simp only [Option.bind_some]
  rw [List.append_nil] at r4
  rw [r4]
  simp only [Option.bind_some]
  rw [g12 _ (fits_ok hk1), open_ok8 hk1, q1.recs, g12 _ (fits_ok hk3), open_ok8 hk3, q3.recs]
  simp only [Option.bind_some, beq_self_eq_true, cond_true]
  rw [g14 _ (by show (A ++ B).length <= _; omega)]
  simp only [Option.bind_some, cond_true]
  rw [g24 _ (by omega)]
  simp only [Option.bind_some, cond_true]
  rw [g23r _ (fits_ok hk3)]
  rfl
end Go.Proofs.Ytobjniabioaefaa
