/-
 Layer 05, in plain Lean: one changed byte; a disk that stops; Sync in sum.
-/
import Derived.Test.YtobjniabioaefaaQ11
namespace Go.Proofs.Ytobjniabioaefaa
set_option linter.unusedVariables false
set_option linter.unusedSimpArgs false
set_option maxRecDepth 100000
set_option maxHeartbeats 4000000
theorem xor_inj {a b c : Nat} (h : a ^^^ c = b ^^^ c) : a = b := by
 have := congrArg (· ^^^ c) h
 simpa only [Nat.xor_assoc, Nat.xor_self, Nat.xor_zero] using this
theorem xor_not {a b : Nat} (ha : a < 2147483648) (hb : b < 2147483648) : a ^^^ 3988292384 ≠ b := by
 intro h
 have h2 : a ^^^ b = 3988292384 := by rw [<- h, <- Nat.xor_assoc, Nat.xor_self, Nat.zero_xor]
 have := Nat.xor_lt_two_pow (n := 31) ha hb
 omega
theorem crcS_inj {a b : Nat} (ha : a < 4294967296) (hb : b < 4294967296) (h : crcS a = crcS b) : a = b := by
 unfold crcS at h
 by_cases h1 : a % 2 = 1
 ·by_cases h2 : b % 2 = 1
  ·rw [if_pos h1, if_pos h2] at h
   have := xor_inj h
   omega
  ·rw [if_pos h1, if_neg h2] at h
   exact absurd h (xor_not (by omega) (by omega))
 ·by_cases h2 : b % 2 = 1
  ·rw [if_neg h1, if_pos h2] at h
   exact absurd h.symm (xor_not (by omega) (by omega))
  ·rw [if_neg h1, if_neg h2] at h
   omega
theorem crc8_inj {a b : Nat} (ha : a < 4294967296) (hb : b < 4294967296) (h : crc8 a = crc8 b) : a = b := by
 have l := @crcS_lt
 unfold crc8 at h
 have h := crcS_inj (l (l (l (l (l (l (l ha))))))) (l (l (l (l (l (l (l hb))))))) h
 have h := crcS_inj (l (l (l (l (l (l ha)))))) (l (l (l (l (l (l hb)))))) h
 have h := crcS_inj (l (l (l (l (l ha))))) (l (l (l (l (l hb))))) h
 have h := crcS_inj (l (l (l (l ha)))) (l (l (l (l hb)))) h
 have h := crcS_inj (l (l (l ha))) (l (l (l hb))) h
 have h := crcS_inj (l (l ha)) (l (l hb)) h
 have h := crcS_inj (l ha) (l hb) h
 exact crcS_inj ha hb h
theorem crcB_inj {a b : Nat} (ha : a < 4294967296) (hb : b < 4294967296) (c : UInt8) (h : crcB a c = crcB b c) : a = b := by
 have := u8lt c
 exact xor_inj (crc8_inj (xor_lt ha (by omega)) (xor_lt hb (by omega)) h)
theorem crcB_inj2 {a : Nat} (ha : a < 4294967296) (c d : UInt8) (h : crcB a c = crcB a d) : c = d := by
 have := u8lt c
 have := u8lt d
 have h := crc8_inj (xor_lt ha (by omega)) (xor_lt ha (by omega)) h
 rw [Nat.xor_comm a, Nat.xor_comm a] at h
 exact UInt8.toNat_inj.1 (xor_inj h)
theorem crcA_inj : ∀ (l : List UInt8) (a b : Nat), a < 4294967296 -> b < 4294967296 -> crcA a l = crcA b l -> a = b
 | [], _, _, _, _, h => h
 | c :: l, a, b, ha, hb, h => crcB_inj ha hb c (crcA_inj l _ _ (crcB_lt ha c) (crcB_lt hb c) h)
theorem crcA_set : ∀ (l : List UInt8) (i a : Nat) (v : UInt8), a < 4294967296 -> i < l.length -> crcA a (l.set i v) = crcA a l -> l.set i v = l
 | [], i, _, _, _, h, _ => by cases h
 | c :: l, 0, a, v, ha, _, h => by
  have h := crcA_inj l _ _ (crcB_lt ha v) (crcB_lt ha c) h
  rw [List.set_cons_zero, crcB_inj2 ha v c h]
 | c :: l, i + 1, a, v, ha, hi, h => by
  rw [List.set_cons_succ] at h ⊢
  rw [crcA_set l i (crcB a c) v (crcB_lt ha c) (by rw [List.length_cons] at hi; omega) h]
theorem crc_set {l : List UInt8} {i : Nat} {v : UInt8} (hi : i < l.length) (h : crc (l.set i v) = crc l) : l.set i v = l := by
 unfold crc at h
 rw [Nat.xor_comm, Nat.xor_comm 4294967295] at h
 exact crcA_set l i _ v (by decide) hi (xor_inj h)
theorem num4_inj {A B : List UInt8} (hA : A.length = 4) (hB : B.length = 4) (h : num A = num B) : A = B := by
 rw [<- be4_num hA, <- be4_num hB, h]
theorem set_val {l : List UInt8} {i : Nat} {v : UInt8} (hi : i < l.length) (h : l.set i v = l) : v = l.getD i 0 := by
 have h2 : (l.set i v).getD i 0 = v := by rw [List.getD_eq_getElem?_getD, List.getElem?_set_self hi]; rfl
 rw [h] at h2
 exact h2.symm
theorem getD_take {l : List UInt8} {i n : Nat} (h : i < n) : (l.take n).getD i 0 = l.getD i 0 := by
 rw [List.getD_eq_getElem?_getD, List.getD_eq_getElem?_getD, List.getElem?_take_of_lt h]
theorem getD_drop {l : List UInt8} {i n : Nat} : (l.drop n).getD i 0 = l.getD (n + i) 0 := by
 rw [List.getD_eq_getElem?_getD, List.getD_eq_getElem?_getD, List.getElem?_drop]
theorem flip_bad {b : List UInt8} {k i : Nat} {v : UInt8} (hb : b.length = 128) (hg : goodB b k = true) (hi : i < 128) (hv : v ≠ b.getD i 0) : goodB (b.set i v) k = false := by
 refine Bool.eq_false_iff.2 fun h => ?_
 obtain ⟨a1, a2⟩ := good_nums hg
 obtain ⟨c1, c2⟩ := good_nums h
 unfold genOf at a1 c1
 rw [List.take_set, List.drop_set] at c1
 rw [List.drop_set, List.drop_set] at c2
 have l4 : (b.take 4).length = 4 := by rw [List.length_take]; omega
 have l124 : (b.drop 124).length = 4 := by rw [List.length_drop]; omega
 have l48 : ((b.drop 4).take 4).length = 4 := by rw [List.length_take, List.length_drop]; omega
 have l8 : ((b.drop 8).take 116).length = 116 := by rw [List.length_take, List.length_drop]; omega
 by_cases h1 : i < 4
 ·rw [if_pos (by omega), <- a1] at c1
  have := set_val (by omega) (num4_inj (by rw [List.length_set]; exact l4) l4 c1)
  rw [getD_take h1] at this
  exact hv this
 ·by_cases h2 : i < 8
  ·rw [if_neg h1, if_pos h2, List.take_set, <- a2] at c2
   have := set_val (by omega) (num4_inj (by rw [List.length_set]; exact l48) l48 c2)
   rw [getD_take (by omega), getD_drop, show 4 + (i - 4) = i by omega] at this
   exact hv this
  ·by_cases h3 : i < 124
   ·rw [if_neg h1, if_neg h2, List.take_set, List.set_eq_of_length_le (l := (b.drop 4).take 4) (i := i - 4) (by omega), a2, List.take_set] at c2
    have := set_val (by omega) (crc_set (by omega) c2.symm)
    rw [getD_take (by omega), getD_drop, show 8 + (i - 8) = i by omega] at this
    exact hv this
   ·rw [if_neg h3, List.set_eq_of_length_le (l := b.take 4) (i := i) (by omega), a1] at c1
    have := set_val (by omega) (num4_inj (by rw [List.length_set]; exact l124) l124 c1.symm)
    rw [getD_drop, show 124 + (i - 124) = i by omega] at this
    exact hv this
theorem Std.flip {S R : List (List UInt8)} {m : Nat} (h : Std S R m) {p i : Nat} {v : UInt8} (hp : p < tot R) (hpS : p < S.length) (hi : i < 128) (hv : v ≠ (S.getD p []).getD i 0) : ∃ j, j < R.length /\ tot (R.take j) <= p /\ p < tot (R.take (j + 1)) /\ recsOf (S.set p ((S.getD p []).set i v)) = R.take j := by
 have hg := run_good h.len R 0 0 h.run p (by omega) (by omega)
 have hb := flip_bad (h.sec _ (getD_mem hpS)) hg hi hv
 obtain ⟨j, j1, j2, j3, j4⟩ := run_cut (T := S) (U := S.set p ((S.getD p []).set i v)) (p := p) (by rw [List.length_set]) (by rw [set_eq hpS]; exact hb) R 0 0 (by omega) (by omega) (fun i _ hi => set_ne (by omega)) h.run
 refine ⟨j, j1, by omega, by omega, recs_run (by rw [List.length_set]; exact h.len) _ _ _ _ (by rw [List.length_set]; omega) j4⟩
theorem tot_take_le (R : List (List UInt8)) {i j : Nat} (h : i <= j) : tot (R.take i) <= tot (R.take j) := by
 have := tot_split (R.take j) i
 rw [List.take_take, Nat.min_eq_left h] at this
 omega
theorem torn_gen {s : List (List UInt8)} {w : S_Write} (hw : w.Data.length = 128) : genOf (torn s w) = genOf w.Data := by
 unfold genOf torn
 rw [List.take_append_of_le_length (by rw [List.length_take]; omega), List.take_take]
 rfl
theorem torn_tail {s : List (List UInt8)} {w : S_Write} (hw : w.Data.length = 128) : (torn s w).drop 124 = (s.getD w.At.toNat []).drop 124 := by
 unfold torn
 rw [List.drop_append, List.drop_eq_nil_of_le (by rw [List.length_take]; omega), List.nil_append, List.length_take, List.drop_drop, show 64 + (124 - min 64 w.Data.length) = 124 by omega, List.getD_eq_getElem?_getD]
theorem torn_len {s : List (List UInt8)} {w : S_Write} (hw : w.Data.length = 128) (hs : (s.getD w.At.toNat []).length = 128) : (torn s w).length = 128 := by
 unfold torn
 rw [List.getD_eq_getElem?_getD] at hs
 rw [List.length_append, List.length_take, List.length_drop, hs]
 omega
theorem good_no {b : List UInt8} {k : Nat} (h : genOf b ≠ num (b.drop 124)) : goodB b k = false := by
 unfold goodB
 rw [decide_eq_false h, Bool.and_false]
 rfl
theorem Std.stops {S R0 : List (List UInt8)} {m : Nat} (h : Std S R0 m) {R : List (List UInt8)} (hR : tot R0 + tot R <= S.length) {g : Nat} (hg : m < g) (hg2 : g < 4294967296) {L : Nat} {w : S_Write} (hw : (writes g (tot R0) R)[L]? = some w) :
  ∃ j, R0.length <= j /\ j <= (R0 ++ R).length /\ Std ((perf S ((writes g (tot R0) R).take L)).set w.At.toNat (torn (perf S ((writes g (tot R0) R).take L)) w)) ((R0 ++ R).take j) g := by
 have hat := writes_at g R (tot R0)
 have hA := writes_get g R (tot R0) L w hw
 have hmem : w ∈ writes g (tot R0) R := List.mem_of_getElem? hw
 have hLt : L < tot R := by
  have h1 := (List.getElem?_eq_some_iff.1 hw).1
  rw [writes_len] at h1
  exact h1
 have hne : R ≠ [] := fun e => by rw [e, show tot [] = 0 from rfl] at hLt; omega
 have hD := (hat w hmem).2.2
 have hp : w.At.toNat = tot R0 + L := by omega
 have hlow : ∀ v ∈ (writes g (tot R0) R).take L, v.At.toNat < tot R0 + L := fun v hv => by
  obtain ⟨i, hi, hv⟩ := List.getElem_of_mem hv
  rw [List.length_take] at hi
  have := writes_get g R (tot R0) i v (by rw [<- List.getElem?_take_of_lt (show i < L by omega), List.getElem?_eq_getElem (by rw [List.length_take]; exact hi), hv])
  omega
 have hhigh : ∀ v ∈ (writes g (tot R0) R).drop L, tot R0 + L <= v.At.toNat := fun v hv => by
  obtain ⟨i, hi, hv⟩ := List.getElem_of_mem hv
  have := writes_get g R (tot R0) (L + i) v (by rw [<- List.getElem?_drop, List.getElem?_eq_getElem hi, hv])
  omega
 have hold : (perf S ((writes g (tot R0) R).take L)).getD (tot R0 + L) [] = S.getD (tot R0 + L) [] := perf_out _ _ _ fun v hv => by have := hlow v hv; omega
 have hU : (perf S ((writes g (tot R0) R).take L)).length = S.length := perf_len _ _
 have hsec : ∀ b ∈ perf S ((writes g (tot R0) R).take L), b.length = 128 := perf_sec _ _ h.sec fun v hv => (hat v (List.mem_of_mem_take hv)).2.2
 have hgen : ∀ b ∈ perf S ((writes g (tot R0) R).take L), genOf b <= g /\ num (b.drop 124) <= g := fun b hb => by
  rcases perf_mem _ _ _ hb with hb | ⟨v, hv, rfl⟩
  ·have := h.gen b hb; omega
  ·have := writes_data g hg2 R _ v (List.mem_of_mem_take hv); omega
 have hpS : tot R0 + L < S.length := by omega
 have hT := (Std.full h hR hne hg hg2).run
 have hag : ∀ i, i < tot R0 + L -> (perf S (writes g (tot R0) R)).getD i [] = (perf S ((writes g (tot R0) R).take L)).getD i [] := fun i hi => by
  conv => lhs; rw [<- List.take_append_drop L (writes g (tot R0) R)]
  rw [perf_app, perf_out _ _ _ fun v hv => by have := hhigh v hv; omega]
 have hwd := writes_data g hg2 R _ w hmem
 have htl : num ((torn (perf S ((writes g (tot R0) R).take L)) w).drop 124) <= m := by
  rw [torn_tail hD, hp, hold]
  exact (h.gen _ (getD_mem hpS)).2
 have htg : genOf (torn (perf S ((writes g (tot R0) R).take L)) w) = g := by rw [torn_gen hD]; exact hwd.1
 have htlen : (torn (perf S ((writes g (tot R0) R).take L)) w).length = 128 := torn_len hD (by rw [hp, hold]; exact h.sec _ (getD_mem hpS))
 rw [hp]
 generalize torn (perf S ((writes g (tot R0) R).take L)) w = X at *
 obtain ⟨j, j1, j2, j3, j4⟩ := run_cut (T := perf S (writes g (tot R0) R)) (U := (perf S ((writes g (tot R0) R).take L)).set (tot R0 + L) X) (p := tot R0 + L) (by rw [List.length_set, hU, perf_len]) (by
  rw [set_eq (by omega)]
  exact good_no (by omega)) (R0 ++ R) 0 0 (by omega) (by rw [tot_app]; omega) (fun i _ hi => by rw [set_ne (by omega), hag i hi]) hT
 refine ⟨j, ?_, by omega, by rw [List.length_set, hU]; exact h.pos, by rw [List.length_set, hU]; exact h.len, fun b hb => ?_, fun b hb => ?_, j4⟩
 ·rcases Nat.lt_or_ge j R0.length with hlt | hge
  ·have h1 := tot_take_le (R0 ++ R) (show j + 1 <= R0.length by omega)
   rw [List.take_left' rfl] at h1
   omega
  ·exact hge
 ·rcases List.mem_or_eq_of_mem_set hb with hb | rfl
  ·exact hsec b hb
  ·exact htlen
 ·rcases List.mem_or_eq_of_mem_set hb with hb | rfl
  ·exact hgen b hb
  ·omega
end Go.Proofs.Ytobjniabioaefaa
