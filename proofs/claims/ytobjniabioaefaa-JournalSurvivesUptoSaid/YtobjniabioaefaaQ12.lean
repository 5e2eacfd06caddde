/-
 Layer 05, in plain Lean: one changed byte; a disk that stops; Sync in sum.
-/
import Derived.Test.YtobjniabioaefaaQ11
namespace Go.Proofs.Ytobjniabioaefaa
set_option linter.unusedVariables false
set_option linter.unusedSimpArgs false
set_option maxRecDepth 100000
set_option maxHeartbeats 4000000
theorem tot_take_le (R : List (List UInt8)) {i j : Nat} (h : i <= j) : tot (R.take i) <= tot (R.take j) := by
 have := tot_split (R.take j) i
 rw [List.take_take, Nat.min_eq_left h] at this
 omega
theorem torn_gen {s : List (List UInt8)} {w : S_Write} (hw : w.Data.length = 128) : genOf (torn s w) = genOf w.Data := by
 unfold genOf torn
 rw [List.take_append_of_le_length (by rw [List.length_take]; omega), List.take_take]
 rfl
theorem torn_tail {s : List (List UInt8)} {w : S_Write} (hw : w.Data.length = 128) : (torn s w).drop 124 = (s.getD w.At.toNat []).drop 124 := by
 unfold torn
 rw [List.drop_append, List.drop_eq_nil_of_le (by rw [List.length_take]; omega), List.nil_append, List.length_take, List.drop_drop, show 64 + (124 - min 64 w.Data.length) = 124 by omega, List.getD_eq_getElem?_getD]
theorem torn_len {s : List (List UInt8)} {w : S_Write} (hw : w.Data.length = 128) (hs : (s.getD w.At.toNat []).length = 128) : (torn s w).length = 128 := by
 unfold torn
 rw [List.getD_eq_getElem?_getD] at hs
 rw [List.length_append, List.length_take, List.length_drop, hs]
 omega
theorem good_no {b : List UInt8} {k : Nat} (h : genOf b ≠ num (b.drop 124)) : goodB b k = false := by
 unfold goodB
 rw [decide_eq_false h, Bool.and_false]
 rfl
theorem Std.stops {S R0 : List (List UInt8)} {m : Nat} (h : Std S R0 m) {R : List (List UInt8)} (hR : tot R0 + tot R <= S.length) {g : Nat} (hg : m < g) (hg2 : g < 4294967296) {L : Nat} {w : S_Write} (hw : (writes g (tot R0) R)[L]? = some w) :
  ∃ j, R0.length <= j /\ j <= (R0 ++ R).length /\ Std ((perf S ((writes g (tot R0) R).take L)).set w.At.toNat (torn (perf S ((writes g (tot R0) R).take L)) w)) ((R0 ++ R).take j) g := by
 have hat := writes_at g R (tot R0)
 have hA := writes_get g R (tot R0) L w hw
 have hmem : w ∈ writes g (tot R0) R := List.mem_of_getElem? hw
 have hLt : L < tot R := by
  have h1 := (List.getElem?_eq_some_iff.1 hw).1
  rw [writes_len] at h1
  exact h1
 have hne : R ≠ [] := fun e => by rw [e, show tot [] = 0 from rfl] at hLt; omega
 have hD := (hat w hmem).2.2
 have hp : w.At.toNat = tot R0 + L := by omega
 have hlow : ∀ v ∈ (writes g (tot R0) R).take L, v.At.toNat < tot R0 + L := fun v hv => by
  obtain ⟨i, hi, hv⟩ := List.getElem_of_mem hv
  rw [List.length_take] at hi
  have := writes_get g R (tot R0) i v (by rw [<- List.getElem?_take_of_lt (show i < L by omega), List.getElem?_eq_getElem (by rw [List.length_take]; exact hi), hv])
  omega
 have hhigh : ∀ v ∈ (writes g (tot R0) R).drop L, tot R0 + L <= v.At.toNat := fun v hv => by
  obtain ⟨i, hi, hv⟩ := List.getElem_of_mem hv
  have := writes_get g R (tot R0) (L + i) v (by rw [<- List.getElem?_drop, List.getElem?_eq_getElem hi, hv])
  omega
 have hold : (perf S ((writes g (tot R0) R).take L)).getD (tot R0 + L) [] = S.getD (tot R0 + L) [] := perf_out _ _ _ fun v hv => by have := hlow v hv; omega
 have hU : (perf S ((writes g (tot R0) R).take L)).length = S.length := perf_len _ _
 have hsec : ∀ b ∈ perf S ((writes g (tot R0) R).take L), b.length = 128 := perf_sec _ _ h.sec fun v hv => (hat v (List.mem_of_mem_take hv)).2.2
 have hgen : ∀ b ∈ perf S ((writes g (tot R0) R).take L), genOf b <= g /\ num (b.drop 124) <= g := fun b hb => by
  rcases perf_mem _ _ _ hb with hb | ⟨v, hv, rfl⟩
  ·have := h.gen b hb; omega
  ·have := writes_data g hg2 R _ v (List.mem_of_mem_take hv); omega
 have hpS : tot R0 + L < S.length := by omega
 have hT := (Std.full h hR hne hg hg2).run
 have hag : ∀ i, i < tot R0 + L -> (perf S (writes g (tot R0) R)).getD i [] = (perf S ((writes g (tot R0) R).take L)).getD i [] := fun i hi => by
  conv => lhs; rw [<- List.take_append_drop L (writes g (tot R0) R)]
  rw [perf_app, perf_out _ _ _ fun v hv => by have := hhigh v hv; omega]
 have hwd := writes_data g hg2 R _ w hmem
 have htl : num ((torn (perf S ((writes g (tot R0) R).take L)) w).drop 124) <= m := by
  rw [torn_tail hD, hp, hold]
  exact (h.gen _ (getD_mem hpS)).2
 have htg : genOf (torn (perf S ((writes g (tot R0) R).take L)) w) = g := by rw [torn_gen hD]; exact hwd.1
 have htlen : (torn (perf S ((writes g (tot R0) R).take L)) w).length = 128 := torn_len hD (by rw [hp, hold]; exact h.sec _ (getD_mem hpS))
 rw [hp]
 generalize torn (perf S ((writes g (tot R0) R).take L)) w = X at *
 obtain ⟨j, j1, j2, j3, j4⟩ := run_cut (T := perf S (writes g (tot R0) R)) (U := (perf S ((writes g (tot R0) R).take L)).set (tot R0 + L) X) (p := tot R0 + L) (by rw [List.length_set, hU, perf_len]) (by
  rw [set_eq (by omega)]
  exact good_no (by omega)) (R0 ++ R) 0 0 (by omega) (by rw [tot_app]; omega) (fun i _ hi => by rw [set_ne (by omega), hag i hi]) hT
 refine ⟨j, ?_, by omega, by rw [List.length_set, hU]; exact h.pos, by rw [List.length_set, hU]; exact h.len, fun b hb => ?_, fun b hb => ?_, j4⟩
 ·rcases Nat.lt_or_ge j R0.length with hlt | hge
  ·have h1 := tot_take_le (R0 ++ R) (show j + 1 <= R0.length by omega)
   rw [List.take_left' rfl] at h1
   omega
  ·exact hge
 ·rcases List.mem_or_eq_of_mem_set hb with hb | rfl
  ·exact hsec b hb
  ·exact htlen
 ·rcases List.mem_or_eq_of_mem_set hb with hb | rfl
  ·exact hgen b hb
  ·omega
end Go.Proofs.Ytobjniabioaefaa
