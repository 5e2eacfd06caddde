/-
 Layer 05, in plain Lean: JournalSurvives.
-/
import Derived.Test.YtobjniabioaefaaP
import Derived.Test.YtobjniabioaefaaQ13
namespace Go.Proofs.Ytobjniabioaefaa
set_option linter.unusedVariables false
set_option linter.unusedSimpArgs false
set_option maxRecDepth 100000
set_option maxHeartbeats 4000000
theorem run_fit {S : List (List UInt8)} {Q : Nat -> Nat -> Prop} : ∀ (R : List (List UInt8)) (a last : Nat), a <= S.length -> Run S Q a last R -> a + tot R <= S.length
 | [], a, last, h, _ => by rw [show tot [] = 0 from rfl]; omega
 | b :: R, a, last, h, hr => by
  obtain ⟨g, g1, g2, g3, g4, g5, g6⟩ := hr
  have := run_fit R _ g g4 g6
  rw [tot_cons]
  omega
theorem Std.fit {S R : List (List UInt8)} {m : Nat} (h : Std S R m) : tot R <= S.length := by
 have := run_fit R 0 0 (Nat.zero_le _) h.run
 omega
theorem open_okS {S : List (List UInt8)} {L : Int} (h : okD (S_Disk.mk S [] L false) = true) : openR (S_Disk.mk S [] L false) = (S_Journal.mk (recsOf S) (S.length : Int) ((recsOf S).length : Int), 0) := by
 unfold openR
 rw [if_pos h]
 rfl
theorem f91 (N s : Nat) (h1 : 1 <= N) (h2 : N <= 30) (v34 : Bool) (v35 : List (List UInt8)) (v36 : List S_kinespherelaw05_Crash) (v37 v38 : Int) (l : List (List UInt8)) (v42 : S_Disk) (v43 : S_kinespherelaw05_Crash) (hb : bsum l <= 1048576) : ∀ (k i m : Nat) (R : List (List UInt8)), k + i = l.length -> k + 1 <= m -> tot R <= N -> s <= R.length -> F9_9_1 fuel0 v34 v35 v36 v37 v38 l (l.length : Int) v42 v43 m (i : Int) (S_Journal.mk R (N : Int) (s : Int)) = some (pick N R (l.drop i), (N : Int), (s : Int))
 | _, i, 0, _, _, h, _, _ => by omega
 | 0, i, m + 1, R, hk, _, hR, hs => by
  unfold F9_9_1
  rw [decide_eq_false (show ¬ (i : Int) < (l.length : Int) by omega), List.drop_eq_nil_of_le (by omega)]
  rfl
 | k + 1, i, m + 1, R, hk, hm, hR, hs => by
  have hi : i < l.length := by omega
  have a1 := bsum_get hi
  have a2 := bsum_drop l i
  have a3 := bsum_tot R
  have a4 := len_bsum l
  have hg := g15 (S_Journal.mk R (N : Int) (s : Int)) l[i] (by show bsum R <= _; omega) (by omega)
  unfold F9_9_1
  rw [decide_eq_true (show (i : Int) < (l.length : Int) by omega), getI_nat, List.getElem?_eq_getElem hi]
  simp only [cond_true, Option.bind_some]
  rw [hg]
  simp only [Option.bind_some]
  rw [app_pick h1 (by omega) hs hR, wr64 (by omega) (by omega), show (i : Int) + 1 = ((i + 1 : Nat) : Int) by omega, List.drop_eq_getElem_cons hi]
  unfold pick
  by_cases hf : tot R + secN l[i].length <= N
  ·rw [if_pos hf, if_pos hf]
   simp only [beq_self_eq_true, cond_true]
   exact f91 N s h1 h2 v34 v35 v36 v37 v38 l v42 v43 hb k (i + 1) m (R ++ [l[i]]) (by omega) (by omega) (by rw [tot_app, tot_cons, show tot [] = 0 from rfl]; omega) (by rw [List.length_append]; omega)
  ·rw [if_neg hf, if_neg hf]
   exact f91 N s h1 h2 v34 v35 v36 v37 v38 l v42 v43 hb k (i + 1) m R (by omega) (by omega) hR hs
def Out9 (x : Option ((Bool × (List (List UInt8)) × (List S_Write) × Int × Bool × (List (List UInt8)) × Bool × Int) ⊕ ((Bool × (List (List UInt8)) × (List S_Write) × Int × Bool × (List (List UInt8)) × Bool × Int × (List (List UInt8)) × Int × Int) ⊕ ((Bool × (List (List UInt8)) × (List S_Write) × Int × Bool × (List (List UInt8)) × Bool × Int × (List (List UInt8)) × Int × Int × (List (List UInt8)) × Int × Int × (List (List UInt8)) × (List S_Write) × Int × Bool) ⊕ ((Bool × (List (List UInt8)) × (List S_Write) × Int × Bool × (List (List UInt8)) × Bool × Int × (List (List UInt8)) × Int × Int × (List (List UInt8)) × Int × Int × (List (List UInt8)) × (List S_Write) × Int × Bool × (List (List UInt8)) × Int × Int) ⊕ ((List (List UInt8)) × (List (List UInt8)) × (List S_Write) × Int × Bool)))))) : Prop :=
 (∃ a b c d e f g, x = some (.inl (true, a, b, c, d, e, f, g))) ∨ ∃ R S m, x = some (.inr (.inr (.inr (.inr (R, S, [], -1, false))))) /\ Std S R m
theorem f90 (v6 : Bool) (l : List S_kinespherelaw05_Crash) (hl : l.length <= 8) (hlb : ∀ c ∈ l, bsum c.Records <= 1048576 /\ InU8 c.Left) (N : Nat) (hN : N <= 30) : ∀ (k i m : Nat) (S R : List (List UInt8)), k + i = l.length -> k + 1 <= m -> Std S R i -> S.length = N -> Out9 (F9_9_0 fuel0 v6 l (l.length : Int) m R (i : Int) (S_Disk.mk S [] (-1) false))
 | _, i, 0, _, _, _, h, _, _ => by omega
 | 0, i, m + 1, S, R, hk, _, hS, hSN => by
  refine .inr ⟨R, S, i, ?_, hS⟩
  unfold F9_9_0
  rw [decide_eq_false (show ¬ (i : Int) < (l.length : Int) by omega)]
  rfl
 | k + 1, i, m + 1, S, R, hk, hm, hS, hSN => by
  have hi : i < l.length := by omega
  have hc := hlb l[i] (List.getElem_mem hi)
  have ih := fun S R hS hSN => f90 v6 l hl hlb N hN k (i + 1) m S R (by omega) (by omega) hS hSN
  have hok := okD_st hS (L := -1) (by omega) (by omega) false
  have hpos := hS.pos
  have hfit := hS.fit
  have hRb := bsum_tot R
  have hRl := len_le R
  obtain ⟨⟨R2, hpk⟩, hpt⟩ := pick_ext N l[i].Records R (by omega)
  have hpb := bsum_tot (pick N R l[i].Records)
  have hpl := len_le (pick N R l[i].Records)
  have hRR : tot R + tot R2 <= S.length := by
   have e := hpt
   rw [hpk, tot_app] at e
   omega
  have hlb1 := len_bsum l[i].Records
  have h91 := f91 N R.length (by omega) hN v6 R l (l.length : Int) (i : Int) l[i].Records (S_Disk.mk S [] (-1) false) l[i] hc.1 l[i].Records.length 0 (fuel0 + 8) R (by omega) (by have := fu; omega) (by omega) (Nat.le_refl _)
  rw [List.drop_zero, hpk] at h91
  rw [hpk] at hpb hpl hpt
  unfold F9_9_0
  rw [decide_eq_true (show (i : Int) < (l.length : Int) by omega), getI_nat, List.getElem?_eq_getElem hi]
  simp only [cond_true, Option.bind_some]
  rw [g11 _ _ hc.1]
  generalize l[i] = c at *
  obtain ⟨rec, st, lf⟩ := c
  simp only [Option.bind_some]
  cases fewB (S_Disk.mk S [] (-1) false) rec with
  | false => exact .inl ⟨_, _, _, _, _, _, _, rfl⟩
  | true =>
   simp only [Bool.not_true, cond_false]
   rw [g12 _ (fits_ok hok), open_okS hok, hS.recs]
   simp only [Option.bind_some, bne_self_eq_false, cond_false]
   rw [g24 R (by omega)]
   simp only [Option.bind_some, Bool.not_true, cond_false]
   rw [hSN]
   rw [show F9_9_1 fuel0 v6 R l (l.length : Int) (i : Int) rec (rec.length : Int) (S_Disk.mk S [] (-1) false) (S_kinespherelaw05_Crash.mk rec st lf) (fuel0 + 8) 0 (S_Journal.mk R (N : Int) (R.length : Int)) = some (R ++ R2, (N : Int), (R.length : Int)) from h91]
   simp only [Option.bind_some]
   rw [decide_eq_false (show ¬ ((R ++ R2).length : Int) < (R.length : Int) by rw [List.length_append]; omega), wr64 (n := (i : Int) + 1) (by omega) (by omega), show (i : Int) + 1 = ((i + 1 : Nat) : Int) by omega]
   cases st with
   | true =>
    have hlf : ∃ a : Nat, a < 40 /\ wr .i64 (Int.tmod lf 40) = (a : Int) := by
     have h8 := hc.2
     have h81 : 0 <= lf := h8.1
     rw [Int.tmod_eq_emod_of_nonneg h81, wr64 (by omega) (by omega)]
     exact ⟨(lf % 40).toNat, by omega, by omega⟩
    obtain ⟨a, ha, hae⟩ := hlf
    have hst : stopR (S_Disk.mk S [] (-1) false) (a : Int) = (S_Disk.mk S [] (a : Int) false, 0) := by
     unfold stopR runs
     rw [hok, if_pos (show (true && !false) = true from rfl), if_neg (by omega)]
    have hok2 := okD_st hS (L := (a : Int)) (by omega) (by omega) false
    simp only [cond_false, cond_true]
    rw [hae, g29 _ _ (fits_ok hok), hst]
    simp only [Option.bind_some, bne_self_eq_false, cond_false]
    rw [g21 _ _ (by show bsum (R ++ R2) <= _; omega) (fits_ok hok2)]
    simp only [Option.bind_some]
    have hso := sync_out (R := R2) hS (by omega) hRR (L := (a : Int)) (by omega) (by omega)
    rw [hSN] at hso
    rcases hso with ⟨T, L', e1, hT, hTl, _⟩ | ⟨_, T, j, e1, hT, hTl, hj1, hj2⟩
    ·rw [e1]
     simp only [beq_self_eq_true, cond_true, bne_self_eq_false, cond_false, Option.bind_some]
     rw [g24 _ (by omega)]
     simp only [Option.bind_some, Bool.not_true, cond_false]
     rw [g30]
     exact ih T (R ++ R2) hT hTl
    ·have hTok := okD_st hT (L := -1) (by omega) (by omega) false
     rw [e1]
     simp only [show ((40 : Int) == 0) = false from rfl, show ((40 : Int) == 40) = true from rfl, cond_true, cond_false]
     rw [g30]
     simp only [Option.bind_some]
     rw [show restR (S_Disk.mk T [] 0 true) = S_Disk.mk T [] (-1) false from rfl, g12 _ (fits_ok hTok), open_okS hTok, hT.recs]
     have hlj : ((R ++ R2).take j).length = j := by rw [List.length_take]; omega
     simp only [Option.bind_some, bne_self_eq_false, cond_false, Bool.not_true, hlj]
     rw [decide_eq_false (show ¬ (j : Int) < (R.length : Int) by omega), decide_eq_false (show ¬ ((R ++ R2).length : Int) < (j : Int) by omega), subI_take _ _ hj2]
     simp only [Option.bind_some, cond_false]
     rw [g24 _ (by omega)]
     simp only [Option.bind_some, Bool.not_true, cond_false]
     exact ih T ((R ++ R2).take j) hT hTl
   | false =>
    simp only [cond_false, cond_true]
    rw [g21 _ _ (by show bsum (R ++ R2) <= _; omega) (fits_ok hok)]
    simp only [Option.bind_some]
    have hso := sync_out (R := R2) hS (by omega) hRR (L := -1) (by omega) (by omega)
    rw [hSN] at hso
    rcases hso with ⟨T, L', e1, hT, hTl, _⟩ | ⟨h0, _⟩
    ·rw [e1]
     simp only [beq_self_eq_true, cond_true, bne_self_eq_false, cond_false, Option.bind_some]
     rw [g24 _ (by omega)]
     simp only [Option.bind_some, Bool.not_true, cond_false]
     rw [g30]
     exact ih T (R ++ R2) hT hTl
    ·omega
theorem wt_crash : ∀ (l : List S_kinespherelaw05_Crash), ∀ c ∈ l, bsum c.Records <= (l.map wt_S_kinespherelaw05_Crash).sum
 | [], c, h => by cases h
 | a :: l, c, h => by
  rw [List.map_cons, List.sum_cons]
  rcases List.mem_cons.1 h with rfl | h
  ·have := wt_recs c.Records
   unfold wt_S_kinespherelaw05_Crash
   omega
  ·have := wt_crash l c h
   omega
theorem pure9 : Pure9 := by
 intro a l h8 hl hw
 have hlb : ∀ c ∈ l, bsum c.Records <= 1048576 /\ InU8 c.Left := fun c hc => ⟨by have := wt_crash l c hc; unfold wtL at hw; omega, (hl.2 c hc).2⟩
 unfold G9 F9
 rw [sane10]
 simp only [Option.bind_some, Bool.not_true, cond_false]
 by_cases h9 : l.length <= 8
 ·rw [decide_eq_false (show ¬ (8 : Int) < (l.length : Int) by omega), cond_false]
  have hN : ∃ N : Nat, 1 <= N /\ N <= 30 /\ wr .i64 (wr .i64 (Int.tmod a 30) + 1) = (N : Int) := by
   have h81 : 0 <= a := h8.1
   rw [Int.tmod_eq_emod_of_nonneg h81, wr64 (n := a % 30) (by omega) (by omega), wr64 (by omega) (by omega)]
   exact ⟨(a % 30 + 1).toNat, by omega, by omega, by omega⟩
  obtain ⟨N, hN1, hN2, hNe⟩ := hN
  have hS := st_new (n := N) hN1 (by omega)
  have hn : newR (N : Int) = (S_Disk.mk (List.replicate N (List.replicate 128 0)) [] (-1) false, 0) := by
   unfold newR
   rw [if_neg (by omega)]
   rfl
  rw [hNe, g25 _ (by omega), hn]
  simp only [Option.bind_some, bne_self_eq_false, cond_false]
  rcases f90 false l h9 hlb N hN2 l.length 0 (fuel0 + 8) _ [] (by omega) (by have := fu; omega) hS (List.length_replicate ..) with ⟨x1, x2, x3, x4, x5, x6, x7, h⟩ | ⟨R, S, m, h, hR⟩
  ·exact (congrArg (fun w => Option.bind w _) h).trans rfl
  ·refine (congrArg (fun w => Option.bind w _) h).trans ?_
   have hok := okD_st hR (L := -1) (by omega) (by omega) false
   have h1 := hR.fit
   have h2 := len_le R
   have h3 := hR.len
   simp only [Option.bind_some]
   rw [g12 _ (fits_ok hok), open_okS hok, hR.recs]
   simp only [Option.bind_some, beq_self_eq_true, cond_true]
   rw [g24 R (by omega)]
   rfl
 ·rw [decide_eq_true (show (8 : Int) < (l.length : Int) by omega), cond_true]
end Go.Proofs.Ytobjniabioaefaa
