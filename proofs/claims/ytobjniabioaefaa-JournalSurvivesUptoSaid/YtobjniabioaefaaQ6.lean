/-
 Layer 05, in plain Lean: a sector, as the reference writes it; generations.
-/
import Derived.Test.YtobjniabioaefaaQ4
import Derived.Test.YtobjniabioaefaaQe
namespace Go.Proofs.Ytobjniabioaefaa
set_option linter.unusedVariables false
set_option linter.unusedSimpArgs false
set_option maxRecDepth 100000
set_option maxHeartbeats 4000000
def kindC (f e : Bool) : Nat := (if f = true then 1 else 0) + (if e = true then 2 else 0)
def gmax (a : Nat) (l : List (List UInt8)) : Nat := l.foldl (fun n b => max (max n (genOf b)) (num (b.drop 124))) a
theorem gen_lt {b : List UInt8} (hb : b.length = 128) : genOf b < 4294967296 := num_lt4 (by rw [List.length_take]; omega)
theorem tail_lt {b : List UInt8} (hb : b.length = 128) : num (b.drop 124) < 4294967296 := num_lt4 (by rw [List.length_drop]; omega)
theorem gmax_lt : ∀ (l : List (List UInt8)) (a : Nat), (∀ b ∈ l, b.length = 128) -> a < 4294967296 -> gmax a l < 4294967296
 | [], a, _, h => h
 | b :: l, a, hl, h => by
  have h1 := gen_lt (hl b (by simp)); have h2 := tail_lt (hl b (by simp))
  exact gmax_lt l (max (max a (genOf b)) (num (b.drop 124))) (fun c hc => hl c (by simp [hc])) (by omega)
theorem sub124 {b : List UInt8} (hb : b.length = 128) : subI b 124 (b.length : Int) = some (b.drop 124) := (subI_at b 124 b.length (by omega) (by omega)).trans (congrArg some (List.take_of_length_le (by simp)))
theorem tail41 {b : List UInt8} (hb : b.length = 128) : G41 (b.drop 124) = some (num (b.drop 124) : Int) := g41 _ (by rw [List.length_drop]; omega)
theorem f210 (S : List (List UInt8)) (hs : secs S) (v13 : Int) (j : S_Journal) (d : S_Disk) (v20 : List (List UInt8)) (v21 v22 : Int) (v23 : List (List UInt8)) (v24 : List S_Write) (v25 : Int) (v26 : Bool) (v27 : S_Journal) : ∀ (k i a m : Nat), k + i = S.length -> k + 1 <= m -> a < 4294967296 -> F21_21_0 fuel0 v13 S (S.length : Int) j d v20 v21 v22 v23 v24 v25 v26 v27 m ((a + 1 : Nat) : Int) (i : Int) = some ((gmax a (S.drop i) + 1 : Nat) : Int)
 | _, i, a, 0, _, hm, _ => by omega
 | 0, i, a, m + 1, hk, hm, ha => by
  unfold F21_21_0
  rw [decide_eq_false (show ¬ (i : Int) < (S.length : Int) by omega), List.drop_eq_nil_of_le (by omega)]
  rfl
 | k + 1, i, a, m + 1, hk, hm, ha => by
  have hi : i < S.length := by omega
  have hl := hs.2
  have hb := secs_get hs hi
  have h1 := gen_lt hb; have h2 := tail_lt hb
  unfold F21_21_0
  rw [decide_eq_true (show (i : Int) < (S.length : Int) by omega), getI_sec hi]
  simp only [cond_true, Option.bind_some]
  rw [sub04 hb]; simp only [Option.bind_some]
  rw [gen41]; simp only [Option.bind_some]
  rw [sub124 hb]; simp only [Option.bind_some]
  rw [tail41 hb]; simp only [Option.bind_some]
  rw [wru64 (n := (genOf (S.getD i []) : Int) + 1) (by omega) (by omega), wru64 (n := (num ((S.getD i []).drop 124) : Int) + 1) (by omega) (by omega), wr64 (by omega) (by omega)]
  have e : (if (if ((a + 1 : Nat) : Int) < (genOf (S.getD i []) : Int) + 1 then (genOf (S.getD i []) : Int) + 1 else ((a + 1 : Nat) : Int)) < (num ((S.getD i []).drop 124) : Int) + 1 then (num ((S.getD i []).drop 124) : Int) + 1 else (if ((a + 1 : Nat) : Int) < (genOf (S.getD i []) : Int) + 1 then (genOf (S.getD i []) : Int) + 1 else ((a + 1 : Nat) : Int))) = ((max (max a (genOf (S.getD i []))) (num ((S.getD i []).drop 124)) + 1 : Nat) : Int) := by
   split <;> split <;> omega
  rw [e, show (i : Int) + 1 = ((i + 1 : Nat) : Int) by omega, f210 S hs v13 j d v20 v21 v22 v23 v24 v25 v26 v27 k (i + 1) _ m (by omega) (by omega) (by omega)]
  rw [List.drop_eq_getElem_cons hi, <- getD_at hi]
  rfl
end Go.Proofs.Ytobjniabioaefaa
