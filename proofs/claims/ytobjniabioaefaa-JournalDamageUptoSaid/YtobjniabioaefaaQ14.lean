/-
 Layer 05, in plain Lean: JournalDamage.
-/
import Derived.Test.YtobjniabioaefaaP
import Derived.Test.YtobjniabioaefaaQ13
namespace Go.Proofs.Ytobjniabioaefaa
set_option linter.unusedVariables false
set_option linter.unusedSimpArgs false
set_option maxRecDepth 100000
set_option maxHeartbeats 4000000
def ends : Nat -> List (List UInt8) -> List Int
 | _, [] => []
 | a, b :: r => ((a + secN b.length : Nat) : Int) :: ends (a + secN b.length) r
theorem ends_len : ∀ (R : List (List UInt8)) (a : Nat), (ends a R).length = R.length
 | [], _ => rfl
 | b :: r, a => by
  unfold ends
  rw [List.length_cons, List.length_cons, ends_len r]
theorem ends_app : ∀ (R : List (List UInt8)) (a : Nat) (b : List UInt8), ends a (R ++ [b]) = ends a R ++ [((a + tot R + secN b.length : Nat) : Int)]
 | [], a, b => rfl
 | c :: r, a, b => by
  show _ :: ends (a + secN c.length) (r ++ [b]) = _ :: (ends (a + secN c.length) r ++ [_])
  rw [ends_app r, tot_cons, Nat.add_assoc a]
theorem ends_get : ∀ (R : List (List UInt8)) (a i : Nat), i < R.length -> (ends a R)[i]? = some ((a + tot (R.take (i + 1)) : Nat) : Int)
 | [], _, _, h => by cases h
 | b :: r, a, 0, _ => by
  rw [List.take_succ_cons, tot_cons, List.take_zero]
  rfl
 | b :: r, a, i + 1, h => by
  unfold ends
  rw [List.getElem?_cons_succ, ends_get r _ i (by rw [List.length_cons] at h; omega), List.take_succ_cons, tot_cons, Nat.add_assoc]
theorem ends_last {R : List (List UInt8)} (h : R ≠ []) (hl : R.length <= 4194304) : getI (ends 0 R) (wr .i64 (((ends 0 R).length : Int) - 1)) = some ((tot R : Nat) : Int) := by
 have hp := List.length_pos_iff.2 h
 rw [ends_len]
 rw [wr64 (by omega) (by omega), show (R.length : Int) - 1 = ((R.length - 1 : Nat) : Int) by omega, getI_nat, ends_get R 0 _ (by omega), show R.length - 1 + 1 = R.length by omega, List.take_length, Nat.zero_add]
theorem sec_eval2 (n : Nat) (h : n <= 1048576) : (if 1 < wr .i64 (Int.tdiv (wr .i64 ((n : Int) + 111)) 112) then wr .i64 (Int.tdiv (wr .i64 ((n : Int) + 111)) 112) else 1) = (secN n : Int) := by
 rw [wr64 (n := (n : Int) + 111) (by omega) (by omega)]
 rw [show (n : Int) + 111 = ((n + 111 : Nat) : Int) by omega]
 have e : Int.tdiv ((n + 111 : Nat) : Int) 112 = (((n + 111) / 112 : Nat) : Int) := rfl
 rw [e, wr64 (by omega) (by omega)]
 unfold secN
 split <;> omega
theorem f70 (v23 v24 v25 : Int) (v26 : Bool) (l : List (List UInt8)) (d : S_Disk) (hb : bsum l <= 1048576) : ∀ (k i m : Nat) (R : List (List UInt8)), k + i = l.length -> k + 1 <= m -> tot R <= 40 ->
  ∃ R', tot R' <= 40 /\ ((∃ x y z, F7_7_0 fuel0 v23 v24 v25 v26 l (l.length : Int) d m (i : Int) (S_Journal.mk R 40 0) (ends 0 R) = some (.inl (R', 40, 0, ends 0 R', x, y, z))) ∨ F7_7_0 fuel0 v23 v24 v25 v26 l (l.length : Int) d m (i : Int) (S_Journal.mk R 40 0) (ends 0 R) = some (.inr (R', 40, 0, ends 0 R')))
 | _, i, 0, _, _, h, _ => by omega
 | 0, i, m + 1, R, hk, _, hR => by
  refine ⟨R, hR, .inr ?_⟩
  unfold F7_7_0
  rw [decide_eq_false (show ¬ (i : Int) < (l.length : Int) by omega)]
  rfl
 | k + 1, i, m + 1, R, hk, hm, hR => by
  have hi : i < l.length := by omega
  have h1 := bsum_get hi
  have h2 := bsum_drop l i
  have h3 := bsum_tot R
  have h4 := len_le R
  have h5 := len_bsum l
  have hap := app_pick (N := 40) (s := 0) (R0 := R) (by decide) (by decide) (Nat.zero_le _) hR l[i]
  have hg := g15 (S_Journal.mk R 40 0) l[i] (by show bsum R <= _; omega) (by omega)
  unfold F7_7_0
  rw [decide_eq_true (show (i : Int) < (l.length : Int) by omega), getI_nat, List.getElem?_eq_getElem hi]
  simp only [cond_true, Option.bind_some]
  rw [hg]
  simp only [Option.bind_some]
  rw [show ((40 : Nat) : Int) = 40 from rfl, show ((0 : Nat) : Int) = 0 from rfl] at hap
  rw [hap]
  by_cases hf : tot R + secN l[i].length <= 40
  ·have hE : ends 0 (R ++ [l[i]]) = ends 0 R ++ [((tot R + secN l[i].length : Nat) : Int)] := by rw [ends_app, Nat.zero_add]
   have ih := f70 v23 v24 v25 v26 l d hb k (i + 1) m (R ++ [l[i]]) (by omega) (by omega) (by rw [tot_app, tot_cons, show tot [] = 0 from rfl]; omega)
   rw [hE] at ih
   rw [if_pos hf]
   simp only [bne_self_eq_false, cond_false]
   rw [sec_eval2 _ (by omega), wr64 (n := (i : Int) + 1) (by omega) (by omega), show (i : Int) + 1 = ((i + 1 : Nat) : Int) by omega]
   by_cases hR0 : R = []
   ·subst hR0
    rw [show ends 0 [] = [] from rfl, decide_eq_false (show ¬ (0 : Int) < (([] : List Int).length : Int) by simp), cond_false, appI_some 8 [] _ (by rw [lim]; simp)]
    rw [show ends 0 [] = [] from rfl, show tot [] = 0 from rfl, Nat.zero_add] at ih
    exact ih
   ·have hp := List.length_pos_iff.2 hR0
    rw [decide_eq_true (show (0 : Int) < ((ends 0 R).length : Int) by rw [ends_len]; omega), cond_true, ends_last hR0 (by omega)]
    simp only [Option.bind_some]
    rw [wr64 (by omega) (by omega), appI_some 8 _ _ (by rw [lim, ends_len]; simp; omega), show (secN l[i].length : Int) + (tot R : Int) = ((tot R + secN l[i].length : Nat) : Int) by omega]
    exact ih
  ·rw [if_neg hf]
   exact ⟨R, hR, .inl ⟨_, _, _, rfl⟩⟩
theorem xor8 {a b : Nat} (ha : a < 256) (hb : b < 256) : xorI .u8 (a : Int) (b : Int) = ((a ^^^ b : Nat) : Int) := by
 have key : (BitVec.ofInt 8 (a : Int) ^^^ BitVec.ofInt 8 (b : Int)).toNat = a ^^^ b := by
  rw [BitVec.ofInt_natCast, BitVec.ofInt_natCast, BitVec.toNat_xor, BitVec.toNat_ofNat, BitVec.toNat_ofNat, Nat.mod_eq_of_lt (by omega), Nat.mod_eq_of_lt (by omega)]
 show wr .u8 (((BitVec.ofInt 8 (a : Int) ^^^ BitVec.ofInt 8 (b : Int)).toNat : Nat) : Int) = _
 rw [key, wru8]
 have : a ^^^ b < 256 := Nat.xor_lt_two_pow (n := 8) ha hb
 omega
def tail7 (K : Int -> S_Journal -> S_Disk × Int -> S_Disk × Int -> S_Journal × Int -> Option Int) (a1 a2 a3 : Int) (d0 : S_Disk) (R : List (List UInt8)) (M s : Int) (E : List Int) : Option Bool :=
 Option.bind (G21 ((S_Journal.mk R M s)) d0) fun y52 => Option.bind (bif (y52.2.2 != 0) then (some true) else (some (((E.length : Int)) == 0))) fun y54 => bif y54 then (some (y52.2.2 == 0)) else (Option.bind (getI E (wr .i64 (((E.length : Int)) - 1))) fun y59 => bif decide ((wr .u64 (y59)) ≠ 0) then (Option.bind (bif (decide (((y52.2.1.Sectors.length : Int)) <= (wr .i64 (Int.tmod (wr .u64 (a1)) (wr .u64 (y59)))))) then (some true) else (some (decide (((R.length : Int)) < ((E.length : Int)))))) fun y61 => Option.bind (bif y61 then (some true) else (Option.bind (getI y52.2.1.Sectors (wr .i64 (Int.tmod (wr .u64 (a1)) (wr .u64 (y59))))) fun y69 => some (((y69.length : Int)) != 128))) fun y70 => bif y70 then (some false) else (Option.bind (getI y52.2.1.Sectors (wr .i64 (Int.tmod (wr .u64 (a1)) (wr .u64 (y59))))) fun y79 => Option.bind (appI 1 ([]) y79) fun y80 => Option.bind (idxN y80.length (Int.tmod (wr .u64 (a2)) 128)) fun k81 => Option.bind (y80[k81]?) fun y82 => Option.bind (idxN y80.length (Int.tmod (wr .u64 (a2)) 128)) fun k83 => bif (decide (0 <= (xorI .u8 ((y82.toNat : Int)) a3)) && decide ((xorI .u8 ((y82.toNat : Int)) a3) < 256)) then (Option.bind (modI y80 k83 (fun (y : UInt8) => (UInt8.ofNat (Int.toNat (xorI .u8 ((y82.toNat : Int)) a3))))) fun y84 => Option.bind (G26 y52.2.1 (wr .i64 (Int.tmod (wr .u64 (a1)) (wr .u64 (y59)))) ((List.take y80.length (List.drop 0 y84)))) fun y85 => Option.bind (G27 y85.1) fun y86 => Option.bind (G12 y86.1) fun y87 => Option.bind (K y59 y52.1 y85 y86 y87) fun o116 => match o116 with | y117 => Option.bind (bif (y85.2 == 0) then (some (y86.2 == 0)) else (some false)) fun y122 => Option.bind (bif y122 then (some (y87.2 == 0)) else (some false)) fun y126 => bif y126 then (Option.bind (subI R 0 y117) fun y130 => Option.bind (Option.bind (G24 y87.1.Records y130) fun y131 => some y131) fun y132 => some y132) else (Option.bind (some false) fun y134 => some y134)) else none)) else none)
theorem open_ok {S : List (List UInt8)} {L : Int} (h : okD (S_Disk.mk S [] L false) = true) : openR (S_Disk.mk S [] L false) = (S_Journal.mk (recsOf S) (S.length : Int) ((recsOf S).length : Int), 0) := by
 unfold openR
 rw [if_pos h]
 rfl
theorem tail7_ok {S : List (List UInt8)} {n : Nat} (hS : Std S [] 0) (h40 : S.length = 40) {R : List (List UInt8)} (hR : tot R <= 40) {a1 a2 : Int} {a : Nat} (ha0 : a ≠ 0) (ha : a < 256) {K : Int -> S_Journal -> S_Disk × Int -> S_Disk × Int -> S_Journal × Int -> Option Int}
  (hK : ∀ (p j : Nat), p < tot R -> (wr .i64 (Int.tmod (wr .u64 a1) (tot R : Int))) = (p : Int) -> j < R.length -> tot (R.take j) <= p -> p < tot (R.take (j + 1)) -> ∀ x y z w, K (tot R : Int) x y z w = some (j : Int)) : tail7 K a1 a2 (a : Int) (S_Disk.mk S [] (-1) false) R 40 0 (ends 0 R) = some true := by
 have hb := bsum_tot R
 have hll := len_le R
 have hso := sync_out (R := R) hS (by decide) (by rw [show tot [] = 0 from rfl]; omega) (L := -1) (by omega) (by omega)
 rw [h40, List.nil_append] at hso
 rcases hso with ⟨T, L', e1, hT, hTl, hL'⟩ | ⟨h, _⟩
 ·obtain rfl := hL' rfl
  have e2 : syncJ (S_Journal.mk R 40 0) (S_Disk.mk S [] (-1) false) = (S_Journal.mk R 40 (R.length : Int), S_Disk.mk T [] (-1) false, 0) := e1
  unfold tail7
  rw [g21 _ _ (by show bsum R <= _; omega) (fits_ok (okD_st hS (by omega) (by omega) false)), e2]
  by_cases hne : R = []
  ·subst hne
   rfl
  ·have hp := List.length_pos_iff.2 hne
   have htp : 1 <= tot R := by have := len_le R; omega
   have hmod : ∃ p : Nat, p < tot R /\ wr .i64 (Int.tmod (wr .u64 a1) (tot R : Int)) = (p : Int) := by
    rw [wru64m, Int.tmod_eq_emod_of_nonneg (by omega)]
    refine ⟨(a1 % 18446744073709551616 % (tot R : Int)).toNat, ?_, ?_⟩
    ·have := Int.emod_lt_of_pos (a1 % 18446744073709551616) (show (0 : Int) < (tot R : Int) by omega)
     omega
    ·have h1 := Int.emod_lt_of_pos (a1 % 18446744073709551616) (show (0 : Int) < (tot R : Int) by omega)
     have h2 := Int.emod_nonneg (a1 % 18446744073709551616) (show (tot R : Int) ≠ 0 by omega)
     rw [wr64 (by omega) (by omega)]
     omega
   have hmod2 : ∃ i : Nat, i < 128 /\ Int.tmod (wr .u64 a2) 128 = (i : Int) := by
    rw [wru64m, Int.tmod_eq_emod_of_nonneg (by omega)]
    exact ⟨(a2 % 18446744073709551616 % 128).toNat, by omega, by omega⟩
   obtain ⟨p, hp1, hp2⟩ := hmod
   obtain ⟨i, hi1, hi2⟩ := hmod2
   have hpT : p < T.length := by omega
   have hlen := hT.sec _ (getD_mem hpT)
   simp only [Option.bind_some, bne_self_eq_false, cond_false]
   rw [show ((((ends 0 R).length : Int)) == (0 : Int)) = false by rw [ends_len, beq_eq_false_iff_ne]; omega, cond_false, ends_last hne (by omega)]
   simp only [Option.bind_some]
   rw [wru64 (n := ((tot R : Nat) : Int)) (by omega) (by omega), decide_eq_true (show ((tot R : Nat) : Int) ≠ (0 : Int) by omega), cond_true, hp2, hTl, decide_eq_false (show ¬ ((40 : Nat) : Int) <= (p : Int) by omega), cond_false, ends_len, decide_eq_false (show ¬ (R.length : Int) < (R.length : Int) by omega)]
   simp only [Option.bind_some, cond_false]
   rw [getI_sec hpT]
   simp only [Option.bind_some]
   rw [hlen, show (((128 : Nat) : Int) != 128) = false from rfl, cond_false, app1 (by rw [hlen]; decide), List.nil_append, hi2]
   simp only [Option.bind_some]
   rw [hlen, idxN_at rfl hi1]
   simp only [Option.bind_some]
   have hget : (T.getD p [])[i]? = some ((T.getD p []).getD i 0) := by
    rw [List.getD_eq_getElem?_getD (l := T.getD p []), List.getElem?_eq_getElem (by omega)]
    rfl
   rw [hget]
   have hc := u8lt ((T.getD p []).getD i 0)
   have hx : ((T.getD p []).getD i 0).toNat ^^^ a < 256 := Nat.xor_lt_two_pow (n := 8) hc ha
   simp only [Option.bind_some]
   rw [xor8 hc ha, decide_eq_true (show (0 : Int) <= ((((T.getD p []).getD i 0).toNat ^^^ a : Nat) : Int) by omega), decide_eq_true (show ((((T.getD p []).getD i 0).toNat ^^^ a : Nat) : Int) < 256 by omega), modI_at (by omega)]
   simp only [Bool.and_self, cond_true, Option.bind_some, Int.toNat_natCast]
   have hv : UInt8.ofNat (((T.getD p []).getD i 0).toNat ^^^ a) ≠ (T.getD p []).getD i 0 := by
    intro e
    have e2 := congrArg UInt8.toNat e
    rw [UInt8.toNat_ofNat', Nat.mod_eq_of_lt (by omega)] at e2
    have e3 := congrArg (((T.getD p []).getD i 0).toNat ^^^ ·) e2
    simp only [<- Nat.xor_assoc, Nat.xor_self, Nat.zero_xor] at e3
    exact ha0 e3
   obtain ⟨j, j1, j2, j3, j4⟩ := hT.flip hp1 hpT hi1 hv
   generalize hX : (T.getD p []).set i (UInt8.ofNat (((T.getD p []).getD i 0).toNat ^^^ a)) = X at *
   have hXl : X.length = 128 := by rw [<- hX, List.length_set]; exact hlen
   have hTok := okD_st hT (L := -1) (by omega) (by omega) false
   have hTok2 := okD_more hTok hpT hXl (by show 0 < 4096; omega)
   have hfin : okD (S_Disk.mk (T.set p X) [] (-1) false) = true := by
    rw [okD_iff]
    refine ⟨by show 1 <= (T.set p X).length; rw [List.length_set]; exact hT.pos, by show (T.set p X).length <= 4096; rw [List.length_set]; exact hT.len, Nat.zero_le _, Int.le_refl _, (show (-1 : Int) <= 65536 by decide), (fun w hw => by cases hw), fun b hb => ?_⟩
    rcases List.mem_or_eq_of_mem_set hb with hb | rfl
    ·exact hT.sec b hb
    ·exact hXl
   rw [List.drop_zero, List.take_of_length_le (by omega), g26 _ _ _ (fits_ok hTok), write_one hTok hpT hXl (by show 0 < 4096; omega)]
   simp only [Option.bind_some]
   have hr : runs (S_Disk.mk T ([] ++ [S_Write.mk (p : Int) X]) (-1) false) = true := by unfold runs; rw [hTok2]; rfl
   rw [g27 _ (fits_ok hTok2), syncR_full hr (by show ¬ ((0 : Int) <= -1 /\ _); omega)]
   simp only [Option.bind_some]
   rw [if_neg (show ¬ (0 : Int) <= -1 by omega), show perf T ([] ++ [S_Write.mk (p : Int) X]) = T.set p X from rfl, g12 _ (fits_ok hfin), open_ok hfin]
   simp only [Option.bind_some]
   rw [hK p j hp1 hp2 j1 j2 j3]
   simp only [Option.bind_some]
   rw [show ((0 : Int) == (0 : Int)) = true from rfl, cond_true]
   simp only [Option.bind_some, cond_true]
   rw [subI_take R j (by omega), j4]
   simp only [Option.bind_some]
   rw [g24 _ (by rw [List.length_take]; omega)]
   rfl
 ·omega
theorem f71w (R : List (List UInt8)) (p j : Nat) (hR : R.length <= 4194304) (hj : j < R.length) (h1 : tot (R.take j) <= p) (h2 : p < tot (R.take (j + 1))) (v88 : Bool) (v90 v92 v93 : Int) (v95 : S_Disk) (v96 : List (List UInt8)) (v97 v98 : Int) (v99 : List Int) (v100 : List (List UInt8)) (v101 v102 : Int) (v103 : S_Journal) (v104 : S_Disk) (v105 : S_Journal) : ∀ (k i m : Nat), k + i = j -> k + 1 <= m -> F7_7_1 fuel0 v88 (ends 0 R) v90 (p : Int) v92 v93 v95 v96 v97 v98 v99 v100 v101 v102 v103 v104 v105 m (i : Int) = some (j : Int)
 | _, i, 0, _, h => by omega
 | 0, i, m + 1, hk, _ => by
  obtain rfl : i = j := by omega
  unfold F7_7_1
  rw [ends_len, decide_eq_true (show (i : Int) < (R.length : Int) by omega), getI_nat, ends_get R 0 i hj]
  simp only [cond_true, Option.bind_some]
  rw [decide_eq_false (by omega)]
  rfl
 | k + 1, i, m + 1, hk, hm => by
  have h3 := tot_take_le R (show i + 1 <= j by omega)
  unfold F7_7_1
  rw [ends_len, decide_eq_true (show (i : Int) < (R.length : Int) by omega), getI_nat, ends_get R 0 i (by omega)]
  simp only [cond_true, Option.bind_some]
  rw [decide_eq_true (by omega), cond_true, wr64 (by omega) (by omega), show (i : Int) + 1 = ((i + 1 : Nat) : Int) by omega]
  exact f71w R p j hR hj h1 h2 v88 v90 v92 v93 v95 v96 v97 v98 v99 v100 v101 v102 v103 v104 v105 k (i + 1) m (by omega) (by omega)
theorem f71x (R : List (List UInt8)) (p j : Nat) (hR : R.length <= 4194304) (hj : j < R.length) (h1 : tot (R.take j) <= p) (h2 : p < tot (R.take (j + 1))) (v88 : Bool) (v90 v92 v93 : Int) (v95 : S_Disk) (v96 : List (List UInt8)) (v97 v98 : Int) (v99 : List Int) (v103 : S_Journal) (v104 : S_Disk) (v105 : S_Journal) : ∀ (k i m : Nat), k + i = j -> k + 1 <= m -> F7_7_1a fuel0 v88 (ends 0 R) v90 (p : Int) v92 v93 v95 v96 v97 v98 v99 v103 v104 v105 m (i : Int) = some (j : Int)
 | _, i, 0, _, h => by omega
 | 0, i, m + 1, hk, _ => by
  obtain rfl : i = j := by omega
  unfold F7_7_1a
  rw [ends_len, decide_eq_true (show (i : Int) < (R.length : Int) by omega), getI_nat, ends_get R 0 i hj]
  simp only [cond_true, Option.bind_some]
  rw [decide_eq_false (by omega)]
  rfl
 | k + 1, i, m + 1, hk, hm => by
  have h3 := tot_take_le R (show i + 1 <= j by omega)
  unfold F7_7_1a
  rw [ends_len, decide_eq_true (show (i : Int) < (R.length : Int) by omega), getI_nat, ends_get R 0 i (by omega)]
  simp only [cond_true, Option.bind_some]
  rw [decide_eq_true (by omega), cond_true, wr64 (by omega) (by omega), show (i : Int) + 1 = ((i + 1 : Nat) : Int) by omega]
  exact f71x R p j hR hj h1 h2 v88 v90 v92 v93 v95 v96 v97 v98 v99 v103 v104 v105 k (i + 1) m (by omega) (by omega)
theorem pure7 : Pure7 := by
 intro l a1 a2 a3 _ _ _ h8 hw
 have hl : bsum l <= 1048576 := by have := wt_recs l; omega
 have hS := st_new (n := 40) (by decide) (by decide)
 have hok := okD_st hS (L := -1) (by omega) (by omega) false
 have hn : newR 40 = (S_Disk.mk (List.replicate 40 (List.replicate 128 0)) [] (-1) false, 0) := rfl
 unfold G7 F7
 rw [sane10, g25 _ (by omega), hn]
 simp only [Option.bind_some, Bool.not_true, cond_false, bne_self_eq_false]
 rw [g11 _ _ hl]
 simp only [Option.bind_some]
 cases fewB (S_Disk.mk (List.replicate 40 (List.replicate 128 0)) [] (-1) false) l with
 | false => rfl
 | true =>
  simp only [Option.bind_some, Bool.not_true, cond_false]
  by_cases h0 : ((l.length : Int) == 0) = true
  ·rw [h0]; rfl
  ·rw [Bool.eq_false_iff.2 h0]
   simp only [Option.bind_some, cond_false]
   by_cases h3 : (a3 == 0) = true
   ·rw [h3]; rfl
   ·rw [Bool.eq_false_iff.2 h3]
    simp only [Option.bind_some, cond_false]
    rw [g12 _ (fits_ok hok), open_ok hok, hS.recs]
    simp only [Option.bind_some, bne_self_eq_false, cond_false]
    obtain ⟨a, rfl⟩ := Int.eq_ofNat_of_zero_le h8.1
    have ha0 : a ≠ 0 := fun e => h3 (by rw [e]; rfl)
    have ha : a < 256 := by have := h8.2; omega
    have hlb := len_bsum l
    obtain ⟨R, hR, hf⟩ := f70 a1 a2 (a : Int) false l (S_Disk.mk (List.replicate 40 (List.replicate 128 0)) [] (-1) false) hl l.length 0 (fuel0 + 8) [] (by omega) (by have := fu; omega) (by decide)
    have hlen := len_le R
    rcases hf with ⟨x, y, z, hf⟩ | hf
    ·refine (congrArg (fun w => Option.bind w _) hf).trans ?_
     exact tail7_ok (n := 0) hS rfl hR ha0 ha (K := fun y59 y52 y85 y86 y87 => F7_7_1 fuel0 false (ends 0 R) y85.2 (wr .i64 (Int.tmod (wr .u64 a1) (wr .u64 y59))) y86.2 y87.2 (S_Disk.mk (List.replicate 40 (List.replicate 128 0)) [] (-1) false) R 40 0 (ends 0 R) x y z y52 y86.1 y87.1 (fuel0 + 8) 0) (fun p j h1 h2 h3 h4 h5 b c d e => by
      show F7_7_1 fuel0 false (ends 0 R) c.2 (wr .i64 (Int.tmod (wr .u64 a1) (wr .u64 (tot R : Int)))) d.2 e.2 (S_Disk.mk (List.replicate 40 (List.replicate 128 0)) [] (-1) false) R 40 0 (ends 0 R) x y z b d.1 e.1 (fuel0 + 8) 0 = some (j : Int)
      rw [wru64 (n := (tot R : Int)) (by omega) (by omega), h2]
      exact f71w R p j (by omega) h3 h4 h5 _ _ _ _ _ _ _ _ _ _ _ _ _ _ _ j 0 _ (by omega) (by have := fu; omega))
    ·refine (congrArg (fun w => Option.bind w _) hf).trans ?_
     exact tail7_ok (n := 0) hS rfl hR ha0 ha (K := fun y59 y52 y85 y86 y87 => F7_7_1a fuel0 false (ends 0 R) y85.2 (wr .i64 (Int.tmod (wr .u64 a1) (wr .u64 y59))) y86.2 y87.2 (S_Disk.mk (List.replicate 40 (List.replicate 128 0)) [] (-1) false) R 40 0 (ends 0 R) y52 y86.1 y87.1 (fuel0 + 8) 0) (fun p j h1 h2 h3 h4 h5 b c d e => by
      show F7_7_1a fuel0 false (ends 0 R) c.2 (wr .i64 (Int.tmod (wr .u64 a1) (wr .u64 (tot R : Int)))) d.2 e.2 (S_Disk.mk (List.replicate 40 (List.replicate 128 0)) [] (-1) false) R 40 0 (ends 0 R) b d.1 e.1 (fuel0 + 8) 0 = some (j : Int)
      rw [wru64 (n := (tot R : Int)) (by omega) (by omega), h2]
      exact f71x R p j (by omega) h3 h4 h5 _ _ _ _ _ _ _ _ _ _ _ _ j 0 _ (by omega) (by have := fu; omega))
end Go.Proofs.Ytobjniabioaefaa
