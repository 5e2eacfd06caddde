/-
 Layer 01, in plain Lean: the reference's Decode.
-/
import Derived.Test.YtmjaehondldaaaaP9
namespace Go.Proofs.Ytmjaehondldaaaa
set_option linter.unusedVariables false
set_option linter.unusedSimpArgs false
set_option maxRecDepth 100000
set_option maxHeartbeats 4000000
theorem loop34 (bs : List UInt8) (f : List UInt8 -> Option (S_Value × List UInt8)) (self : (List UInt8) -> Int -> Bool -> Int -> Option (S_Value × Int × Bool)) (N d n : Nat) (z0 z1 : Int) (z2 : ByteArray) (z3 : List S_Value) (z4 z5 : Int) (z6 : ByteArray) (hd : d <= 16) (hn : n <= 1000000)
  (hf : ∀ i : Nat, i <= bs.length -> match f (bs.drop i) with
   | some (v, r) => ∃ j : Nat, self bs (i : Int) false ((d : Int) + 1) = some (v, (j : Int), false) /\ r = bs.drop j /\ j <= bs.length
   | none => ∃ (v : S_Value) (j : Nat), self bs (i : Int) false ((d : Int) + 1) = some (v, (j : Int), true) /\ j <= bs.length) :
  ∀ (k m i j : Nat) (acc : List S_Value), i + k = n -> k < m -> j <= bs.length -> acc.length <= i -> match getLs f k (bs.drop j) with
   | some (vs, r) => ∃ j' : Nat, F34w_34_0b self N (d : Int) (n : Int) bs z0 z1 z2 z3 z4 z5 z6 m (i : Int) (j : Int) false acc = some ((j' : Int), false, acc ++ vs) /\ r = bs.drop j' /\ j' <= bs.length
   | none => ∃ (j' : Nat) (l : List S_Value), F34w_34_0b self N (d : Int) (n : Int) bs z0 z1 z2 z3 z4 z5 z6 m (i : Int) (j : Int) false acc = some ((j' : Int), true, l) /\ j' <= bs.length
 | 0, m, i, j, acc, h1, h2, h3, h4 => by
  obtain ⟨m, rfl⟩ : ∃ q, m = q + 1 := ⟨m - 1, by omega⟩
  rw [getLs, F34w_34_0b, decide_eq_false (by omega)]
  exact ⟨j, by rw [List.append_nil]; rfl, rfl, h3⟩
 | k + 1, m, i, j, acc, h1, h2, h3, h4 => by
  obtain ⟨m, rfl⟩ : ∃ q, m = q + 1 := ⟨m - 1, by omega⟩
  have hl := hf j h3
  rw [getLs, F34w_34_0b, decide_eq_true (by omega), wr64 (n := (d : Int) + 1) (by omega) (by omega), show (i : Int) + 1 = ((i + 1 : Nat) : Int) by omega, wun _ (by omega)]
  simp only [cond_true, Bool.not_false, Option.bind_some]
  cases hv : f (bs.drop j) with
  | none =>
   rw [hv] at hl
   obtain ⟨v, j', hl, hj⟩ := hl
   simp only
   rw [hl]
   simp only [Option.bind_some]
   rw [app56 _ _ (by omega), Option.bind_some]
   obtain ⟨m, rfl⟩ : ∃ q, m = q + 1 := ⟨m - 1, by omega⟩
   refine ⟨j', acc ++ [v], ?_, hj⟩
   rw [F34w_34_0b]
   cases decide (((i + 1 : Nat) : Int) < (n : Int)) <;> rfl
  | some p =>
   obtain ⟨v, r⟩ := p
   rw [hv] at hl
   obtain ⟨j', hl, hr, hj⟩ := hl
   simp only
   rw [hl]
   simp only [Option.bind_some]
   rw [app56 _ _ (by omega), Option.bind_some, hr]
   have ih := loop34 bs f self N d n z0 z1 z2 z3 z4 z5 z6 hd hn hf k m (i + 1) j' (acc ++ [v]) (by omega) (by omega) hj (by simp; omega)
   cases hg : getLs f k (bs.drop j') with
   | none => rw [hg] at ih; exact ih
   | some p =>
    obtain ⟨vs, t⟩ := p
    rw [hg] at ih
    simp only at ih ⊢
    obtain ⟨j2, ih, h5, h6⟩ := ih
    exact ⟨j2, by rw [ih]; simp, h5, h6⟩
theorem sgn (n : Nat) (h : n < 18446744073709551616) (j : Int) (b : Bool) : (bif ((Int.tmod (n : Int) 2) == 1) then (some (((S_Value.mk 1 (wr .i64 ((wr .i64 (0 - (wr .i64 (wr .u64 (Int.tdiv (n : Int) 2))))) - 1)) ByteArray.empty ([])), j, b))) else (some (((S_Value.mk 1 (wr .i64 (wr .u64 (Int.tdiv (n : Int) 2))) ByteArray.empty ([])), j, b)))) = some (S_Value.mk 1 (sg n) ByteArray.empty [], j, b) := by
 have e1 : Int.tmod (n : Int) 2 = ((n % 2 : Nat) : Int) := rfl
 have e2 : Int.tdiv (n : Int) 2 = ((n / 2 : Nat) : Int) := rfl
 rw [e1, e2, wun _ (by omega), wr64 (n := ((n / 2 : Nat) : Int)) (by omega) (by omega), wr64 (n := 0 - ((n / 2 : Nat) : Int)) (by omega) (by omega), wr64 (n := 0 - ((n / 2 : Nat) : Int) - 1) (by omega) (by omega)]
 unfold sg
 by_cases h2 : n % 2 = 1
 ·rw [if_pos h2, h2, show (0 : Int) - ((n / 2 : Nat) : Int) = -((n / 2 : Nat) : Int) by omega]; rfl
 ·rw [if_neg h2, show n % 2 = 0 by omega]; rfl
theorem sgn_any (x j : Int) : ∃ v, (bif ((Int.tmod x 2) == 1) then (some (((S_Value.mk 1 (wr .i64 ((wr .i64 (0 - (wr .i64 (wr .u64 (Int.tdiv x 2))))) - 1)) ByteArray.empty ([])), j, true))) else (some (((S_Value.mk 1 (wr .i64 (wr .u64 (Int.tdiv x 2))) ByteArray.empty ([])), j, true)))) = some (v, j, true) := by
 cases (Int.tmod x 2) == 1 <;> exact ⟨_, rfl⟩
def getK : Nat -> Nat -> List UInt8 -> Option (List S_Value × List UInt8)
 | 0 => fun _ _ => none
 | k + 1 => getLs (getV k)
theorem w34 (bs : List UInt8) (hbs : bs.length <= 1000000) : ∀ (k N d i : Nat), d + k = 16 -> 2000000 + k <= N -> i <= bs.length -> match getV k (bs.drop i) with
  | some (v, r) => ∃ j : Nat, W34 N bs (i : Int) false (d : Int) = some (v, (j : Int), false) /\ r = bs.drop j /\ j <= bs.length
  | none => ∃ (v : S_Value) (j : Nat), W34 N bs (i : Int) false (d : Int) = some (v, (j : Int), true) /\ j <= bs.length
 | k, N, d, i, hd, hN, hi => by
  obtain ⟨N, rfl⟩ : ∃ q, N = q + 1 := ⟨N - 1, by omega⟩
  have eW : W34 (N + 1) bs (i : Int) false (d : Int) = F34w (W34 N) (N - 8) bs (i : Int) false (d : Int) := by
   show (bif Nat.ble 8 N then F34w (W34 N) (N - 8) bs (i : Int) false (d : Int) else none) = _
   rw [Nat.ble_eq_true_of_le (by omega : 8 <= N)]; rfl
  rw [eW]
  by_cases hil : i < bs.length
  ·rw [List.drop_eq_getElem_cons hil]
   generalize hb' : bs[i] = b
   have hb := b.toNat_lt
   have eg : getV k (b :: bs.drop (i + 1)) = getA b (bs.drop (i + 1)) (getK k) := by cases k <;> (rw [getV]; rfl)
   rw [eg]
   unfold F34w
   rw [decide_eq_false (by omega), wr64 (n := (i : Int) + 1) (by omega) (by omega), show (i : Int) + 1 - 1 = (i : Int) by omega, wr64 (n := (i : Int)) (by omega) (by omega), getI_nat, List.getElem?_eq_getElem hil, hb']
   simp only [cond_false, Option.bind_some]
   rw [show ((b.toNat : Int) == 1) = decide (b.toNat = 1) by rw [Bool.eq_iff_iff]; simp; omega, show ((b.toNat : Int) == 2) = decide (b.toNat = 2) by rw [Bool.eq_iff_iff]; simp; omega, show ((b.toNat : Int) == 3) = decide (b.toNat = 3) by rw [Bool.eq_iff_iff]; simp; omega]
   have ei : (i : Int) + 1 = ((i + 1 : Nat) : Int) := by omega
   rw [ei]
   unfold getA
   by_cases h1 : b.toNat = 1
   ·rw [if_pos h1, decide_eq_true h1]
    have hr := rdloop2 bs hbs (fun m u i l => F34w_49_0 (W34 N) (N - 8) 0 bs false 0 0 ByteArray.empty m u i l) (fun _ _ _ _ => rfl) (bs.length - (i + 1)) (i + 1) (N - 8 + 7) 0 0 (by omega) (by omega) (by omega) (by decide)
    simp only [cond_true]
    cases hg : getN 0 (bs.drop (i + 1)) with
    | none =>
     rw [hg] at hr
     obtain ⟨x, j, hr, hj⟩ := hr
     obtain ⟨v, hv⟩ := sgn_any x j
     refine ⟨v, j, ?_, hj⟩
     exact (congrArg (fun x => Option.bind x _) hr).trans hv
    | some p =>
     obtain ⟨n, r⟩ := p
     rw [hg] at hr
     obtain ⟨_, hn, _⟩ := getN_len hg
     obtain ⟨j, hr, hrj, hj⟩ := hr
     simp only
     refine ⟨j, ?_, hrj, hj⟩
     refine (congrArg (fun x => Option.bind x _) hr).trans ?_
     rw [show (0 + 2 ^ (7 * 0) * n : Nat) = n by omega]
     exact sgn n hn j false
   rw [if_neg h1, decide_eq_false h1]
   simp only [cond_false]
   by_cases h2 : b.toNat = 2
   ·rw [if_pos h2, decide_eq_true h2]
    have hr := rdloop2 bs hbs (fun m u i l => F34w_49_0a (W34 N) (N - 8) 0 bs false 0 0 ByteArray.empty m u i l) (fun _ _ _ _ => rfl) (bs.length - (i + 1)) (i + 1) (N - 8 + 7) 0 0 (by omega) (by omega) (by omega) (by decide)
    simp only [cond_true]
    cases hg : getN 0 (bs.drop (i + 1)) with
    | none =>
     rw [hg] at hr
     obtain ⟨x, j, hr, hj⟩ := hr
     refine ⟨.mk 0 0 ByteArray.empty [], j, ?_, hj⟩
     exact (congrArg (fun x => Option.bind x _) hr).trans rfl
    | some p =>
     obtain ⟨n, r⟩ := p
     rw [hg] at hr
     obtain ⟨_, hn, hrl⟩ := getN_len hg
     obtain ⟨j, hr, hrj, hj⟩ := hr
     have hlr : r.length = bs.length - j := by rw [hrj, List.length_drop]
     have el : wr .u64 (wr .i64 ((bs.length : Int) - (j : Int))) = ((bs.length - j : Nat) : Int) := by
      rw [show (bs.length : Int) - (j : Int) = ((bs.length - j : Nat) : Int) by omega, wr64 (by omega) (by omega), wun _ (by omega)]
     simp only
     by_cases hnr : n <= r.length
     ·rw [if_pos hnr]
      refine ⟨j + n, ?_, by rw [hrj, List.drop_drop], by omega⟩
      refine (congrArg (fun x => Option.bind x _) hr).trans ?_
      rw [show (0 + 2 ^ (7 * 0) * n : Nat) = n by omega]
      simp only [Option.bind_some, cond_false]
      rw [el, decide_eq_false (by omega), wr64 (n := (n : Int)) (by omega) (by omega), wr64 (n := (j : Int) + (n : Int)) (by omega) (by omega), show (j : Int) + (n : Int) - (n : Int) = (j : Int) by omega, wr64 (n := (j : Int)) (by omega) (by omega)]
      simp only [cond_false]
      unfold subI
      rw [decide_eq_true (show (0 : Int) <= (j : Int) by omega), decide_eq_true (show (j : Int) <= (j : Int) + (n : Int) by omega), decide_eq_true (show (j : Int) + (n : Int) <= (bs.length : Int) by omega)]
      simp only [Bool.and_self, cond_true, Option.bind_some]
      rw [show ((j : Int) + (n : Int)).toNat - (j : Int).toNat = n by omega, hrj]
      rfl
     ·rw [if_neg hnr]
      refine ⟨.mk 0 0 ByteArray.empty [], j, ?_, hj⟩
      refine (congrArg (fun x => Option.bind x _) hr).trans ?_
      rw [show (0 + 2 ^ (7 * 0) * n : Nat) = n by omega]
      simp only [Option.bind_some, cond_false]
      rw [el, decide_eq_true (by omega)]
      rfl
   rw [if_neg h2, decide_eq_false h2]
   simp only [cond_false]
   by_cases h3 : b.toNat = 3
   ·rw [if_pos h3, decide_eq_true h3]
    have hr := rdloop2 bs hbs (fun m u i l => F34w_49_0b (W34 N) (N - 8) 0 bs false 0 0 ByteArray.empty m u i l) (fun _ _ _ _ => rfl) (bs.length - (i + 1)) (i + 1) (N - 8 + 7) 0 0 (by omega) (by omega) (by omega) (by decide)
    simp only [cond_true]
    cases hg : getN 0 (bs.drop (i + 1)) with
    | none =>
     rw [hg] at hr
     obtain ⟨x, j, hr, hj⟩ := hr
     refine ⟨.mk 0 0 ByteArray.empty [], j, ?_, hj⟩
     exact (congrArg (fun x => Option.bind x _) hr).trans rfl
    | some p =>
     obtain ⟨n, r⟩ := p
     rw [hg] at hr
     obtain ⟨_, hn, hrl⟩ := getN_len hg
     obtain ⟨j, hr, hrj, hj⟩ := hr
     have hlr : r.length = bs.length - j := by rw [hrj, List.length_drop]
     have el : wr .u64 (wr .i64 ((bs.length : Int) - (j : Int))) = ((bs.length - j : Nat) : Int) := by
      rw [show (bs.length : Int) - (j : Int) = ((bs.length - j : Nat) : Int) by omega, wr64 (by omega) (by omega), wun _ (by omega)]
     simp only
     by_cases hnr : n <= r.length
     ·rw [if_pos hnr]
      cases k with
      | zero =>
       refine ⟨.mk 0 0 ByteArray.empty [], j, ?_, hj⟩
       refine (congrArg (fun x => Option.bind x _) hr).trans ?_
       rw [show (0 + 2 ^ (7 * 0) * n : Nat) = n by omega]
       simp only [Option.bind_some, cond_false]
       rw [show d = 16 by omega]
       cases decide ((wr .u64 (wr .i64 ((bs.length : Int) - (j : Int)))) < (n : Int)) <;> rfl
      | succ k =>
       have hL := loop34 bs (getV k) (W34 N) (N - 8) d n 0 0 ByteArray.empty [] 3 0 ByteArray.empty (by omega) (by omega) (fun i hi => by
        have := w34 bs hbs k N (d + 1) i (by omega) (by omega) hi
        exact this) n (N - 8 + 8) 0 j [] (by omega) (by omega) hj (by simp)
       rw [<- hrj] at hL
       show (match (match getLs (getV k) n r with
        | none => none
        | some (vs, t) => some (S_Value.mk 3 0 ByteArray.empty vs, t)) with
        | some (v, r) => _
        | none => _)
       cases hls : getLs (getV k) n r with
       | none =>
        rw [hls] at hL
        obtain ⟨j', l, hL, hj'⟩ := hL
        refine ⟨.mk 3 0 ByteArray.empty l, j', ?_, hj'⟩
        refine (congrArg (fun x => Option.bind x _) hr).trans ?_
        rw [show (0 + 2 ^ (7 * 0) * n : Nat) = n by omega]
        simp only [Option.bind_some, cond_false]
        rw [el, decide_eq_false (by omega), show ((d : Int) == 16) = false by simp; omega]
        exact (congrArg (fun x => Option.bind x _) hL).trans rfl
       | some p =>
        obtain ⟨vs, t⟩ := p
        rw [hls] at hL
        obtain ⟨j', hL, ht, hj'⟩ := hL
        simp only
        refine ⟨j', ?_, ht, hj'⟩
        refine (congrArg (fun x => Option.bind x _) hr).trans ?_
        rw [show (0 + 2 ^ (7 * 0) * n : Nat) = n by omega]
        simp only [Option.bind_some, cond_false]
        rw [el, decide_eq_false (by omega), show ((d : Int) == 16) = false by simp; omega]
        exact (congrArg (fun x => Option.bind x _) hL).trans rfl
     ·rw [if_neg hnr]
      refine ⟨.mk 0 0 ByteArray.empty [], j, ?_, hj⟩
      refine (congrArg (fun x => Option.bind x _) hr).trans ?_
      rw [show (0 + 2 ^ (7 * 0) * n : Nat) = n by omega]
      simp only [Option.bind_some, cond_false]
      rw [el, decide_eq_true (by omega)]
      rfl
   ·rw [if_neg h3, decide_eq_false h3]
    exact ⟨_, i + 1, by simp only [cond_false, Bool.false_eq_true]; rfl, by omega⟩
  ·have : getV k [] = none := by cases k <;> rw [getV]
   rw [List.drop_eq_nil_iff.2 (by omega), this]
   refine ⟨.mk 0 0 ByteArray.empty [], i, ?_, hi⟩
   unfold F34w
   rw [decide_eq_true (by omega)]
   rfl
theorem g19 (bs : List UInt8) (h : bs.length <= 1000000) : G19 bs = some (decR bs) := by
 unfold G19 F19
 have hw := w34 bs h 16 (fuel0 + 8) 0 0 (by omega) (by rw [fu]; omega) (by omega)
 rw [show ((0 : Nat) : Int) = 0 from rfl, List.drop_zero] at hw
 unfold decR
 cases hg : getV 16 bs with
 | none =>
  rw [hg] at hw
  obtain ⟨v, j, hw, _⟩ := hw
  rw [hw]; rfl
 | some p =>
  obtain ⟨v, r⟩ := p
  rw [hg] at hw
  obtain ⟨j, hw, hr, hj⟩ := hw
  rw [hw]
  simp only [Option.bind_some, cond_false]
  cases r with
  | cons a r =>
   have : j < bs.length := by
    rcases Nat.lt_or_ge j bs.length with h | h
    ·exact h
    ·rw [List.drop_eq_nil_iff.2 h] at hr; cases hr
   rw [show ((j : Int) != (bs.length : Int)) = true by simp; omega]
   rfl
  | nil =>
   have hj2 : j = bs.length := by
    have := congrArg List.length hr
    rw [List.length_drop] at this
    simp at this; omega
   obtain ⟨h1, h2, h3, h4⟩ := decR_ok (v := v) h (by unfold decR; rw [hg])
   rw [show ((j : Int) != (bs.length : Int)) = false by simp; omega, g17 v h4]
   simp only [cond_false, Option.bind_some, h2]
   rw [show ((0 : Int) != 0) = false from rfl]
   simp only [cond_false, Option.bind_some, g27 v h3 h4]
   rw [strEq_b, <- h1, decide_eq_true rfl]
   rfl
end Go.Proofs.Ytmjaehondldaaaa
