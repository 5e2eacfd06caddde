/-
 Layer 05, in plain Lean: sectors of records, checks, appending (what both forms of the statements use).
-/
import Derived.Test.YtobjniabioaefaaL
import Derived.Test.YtobjniabioaefaaPure
import Derived.KernelRfl
namespace Go.Proofs.Ytobjniabioaefaa
set_option linter.unusedVariables false
set_option linter.unusedSimpArgs false
set_option maxRecDepth 100000
set_option maxHeartbeats 4000000
theorem fu : fuel0 = 1208925819614629174706176 := rfl
theorem sane10 : G10 = some true := by kernel_rfl
def secN (n : Nat) : Nat := max 1 ((n + 111) / 112)
def tot (l : List (List UInt8)) : Nat := (l.map fun b => secN b.length).sum
def bsum (l : List (List UInt8)) : Nat := (l.map fun b => b.length + 1).sum
theorem secN_pos (n : Nat) : 1 <= secN n := by unfold secN; omega
theorem secN_le (n : Nat) : secN n <= n + 1 := by unfold secN; omega
theorem tot_cons (b : List UInt8) (l : List (List UInt8)) : tot (b :: l) = secN b.length + tot l := by unfold tot; rw [List.map_cons, List.sum_cons]
theorem bsum_cons (b : List UInt8) (l : List (List UInt8)) : bsum (b :: l) = b.length + 1 + bsum l := by unfold bsum; rw [List.map_cons, List.sum_cons]
theorem tot_app (l r : List (List UInt8)) : tot (l ++ r) = tot l + tot r := by unfold tot; rw [List.map_append, List.sum_append]
theorem tot_le : ∀ l : List (List UInt8), tot l <= bsum l
 | [] => Nat.le_refl _
 | b :: l => by rw [tot_cons, bsum_cons]; have := tot_le l; have := secN_le b.length; omega
theorem len_le : ∀ l : List (List UInt8), l.length <= tot l
 | [] => Nat.zero_le _
 | b :: l => by rw [tot_cons, List.length_cons]; have := len_le l; have := secN_pos b.length; omega
theorem sec_eval (n : Nat) (h : n <= 1048576) : (if 1 < wr .i64 (Int.tdiv (wr .i64 ((wr .i64 ((n : Int) + 112)) - 1)) 112) then wr .i64 (Int.tdiv (wr .i64 ((wr .i64 ((n : Int) + 112)) - 1)) 112) else 1) = (secN n : Int) := by
 rw [wr64 (n := (n : Int) + 112) (by omega) (by omega), wr64 (n := (n : Int) + 112 - 1) (by omega) (by omega)]
 rw [show (n : Int) + 112 - 1 = ((n + 111 : Nat) : Int) by omega]
 have e : Int.tdiv ((n + 111 : Nat) : Int) 112 = (((n + 111) / 112 : Nat) : Int) := rfl
 rw [e, wr64 (by omega) (by omega)]
 unfold secN
 split <;> omega
theorem g35 (b : List UInt8) (h : b.length <= 1048576) : G35 b = some (secN b.length : Int) := by
 unfold G35 F35
 rw [sec_eval _ h]
theorem bsum_drop : ∀ (l : List (List UInt8)) (i : Nat), bsum (l.drop i) <= bsum l
 | [], i => by simp
 | b :: l, 0 => Nat.le_refl _
 | b :: l, i + 1 => by rw [List.drop_succ_cons, bsum_cons]; have := bsum_drop l i; omega
theorem bsum_get {l : List (List UInt8)} {i : Nat} (h : i < l.length) : bsum (l.drop i) = l[i].length + 1 + bsum (l.drop (i + 1)) := by rw [List.drop_eq_getElem_cons h, bsum_cons]
theorem tot_get {l : List (List UInt8)} {i : Nat} (h : i < l.length) : tot (l.drop i) = secN l[i].length + tot (l.drop (i + 1)) := by rw [List.drop_eq_getElem_cons h, tot_cons]
theorem len_bsum : ∀ l : List (List UInt8), l.length <= bsum l
 | [] => Nat.zero_le _
 | b :: l => by rw [bsum_cons, List.length_cons]; have := len_bsum l; omega
theorem f36 (n : Nat) (l : List (List UInt8)) (hb : bsum l <= 1048576) : ∀ (k i acc m : Nat), k + i = l.length -> k + 1 <= m -> acc + tot (l.drop i) <= 4194304 -> F36_36_0 n l (l.length : Int) m (acc : Int) (i : Int) = some ((acc + tot (l.drop i) : Nat) : Int)
 | _, i, acc, 0, _, hm, _ => by omega
 | 0, i, acc, m + 1, hk, hm, ha => by
  unfold F36_36_0
  rw [decide_eq_false (show ¬ (i : Int) < (l.length : Int) by omega), List.drop_eq_nil_of_le (by omega)]
  rfl
 | k + 1, i, acc, m + 1, hk, hm, ha => by
  have hi : i < l.length := by omega
  have h1 := bsum_get hi
  have h2 := bsum_drop l i
  have h3 := tot_get hi
  have hl := len_bsum l
  unfold F36_36_0
  rw [decide_eq_true (show (i : Int) < (l.length : Int) by omega), getI_nat, List.getElem?_eq_getElem hi]
  simp only [cond_true, Option.bind_some]
  rw [g35 _ (by omega), Option.bind_some, wr64 (by omega) (by omega), wr64 (by omega) (by omega), show (acc : Int) + (secN l[i].length : Int) = ((acc + secN l[i].length : Nat) : Int) by omega, show ((i : Int) + 1) = ((i + 1 : Nat) : Int) by omega]
  rw [f36 n l hb k (i + 1) (acc + secN l[i].length) m (by omega) (by omega) (by omega), h3, Nat.add_assoc]
theorem g36 (l : List (List UInt8)) (hb : bsum l <= 1048576) : G36 l = some (tot l : Int) := by
 unfold G36 F36
 have h := f36 fuel0 l hb l.length 0 0 (fuel0 + 8) (by omega) (by have := fu; have := len_bsum l; omega) (by have := tot_le l; rw [List.drop_zero]; omega)
 rw [List.drop_zero, Nat.zero_add] at h
 refine Eq.trans (congrArg (fun z => Option.bind z _) h) ?_
 rfl
theorem f11 (n : Nat) (b : Bool) (l : List (List UInt8)) (d : S_Disk) (hb : bsum l <= 4194304) : ∀ (k i acc m : Nat), k + i = l.length -> k + 1 <= m -> acc + bsum (l.drop i) <= 4194304 -> F11_11_0 n b l (l.length : Int) d m (acc : Int) (i : Int) = some ((acc + bsum (l.drop i) : Nat) : Int)
 | _, i, acc, 0, _, hm, _ => by omega
 | 0, i, acc, m + 1, hk, hm, ha => by
  unfold F11_11_0
  rw [decide_eq_false (show ¬ (i : Int) < (l.length : Int) by omega), List.drop_eq_nil_of_le (by omega)]
  rfl
 | k + 1, i, acc, m + 1, hk, hm, ha => by
  have hi : i < l.length := by omega
  have h1 := bsum_get hi
  have h2 := bsum_drop l i
  have hl := len_bsum l
  unfold F11_11_0
  rw [decide_eq_true (show (i : Int) < (l.length : Int) by omega), getI_nat, List.getElem?_eq_getElem hi]
  simp only [cond_true, Option.bind_some]
  rw [wr64 (n := 1 + _) (by omega) (by omega), wr64 (by omega) (by omega), wr64 (by omega) (by omega), show (acc : Int) + (1 + (l[i].length : Int)) = ((acc + (l[i].length + 1) : Nat) : Int) by omega, show ((i : Int) + 1) = ((i + 1 : Nat) : Int) by omega]
  rw [f11 n b l d hb k (i + 1) (acc + (l[i].length + 1)) m (by omega) (by omega) (by omega), h1, Nat.add_assoc]
def fewB (d : S_Disk) (l : List (List UInt8)) : Bool := (decide (d.Sectors.length <= 40) && decide (d.Pending.length <= 40)) && decide (bsum l <= 4000)
theorem g11w (d : S_Disk) (l : List (List UInt8)) (hb : bsum l <= 4194304) : G11 d l = some (fewB d l) := by
 unfold G11 F11
 have h := f11 fuel0 false l d hb l.length 0 0 (fuel0 + 8) (by omega) (by have := fu; have := len_bsum l; omega) (by rw [List.drop_zero]; omega)
 rw [List.drop_zero, Nat.zero_add] at h
 refine Eq.trans (congrArg (fun z => Option.bind z _) h) ?_
 unfold fewB
 simp only [Option.bind_some]
 rw [show decide ((d.Sectors.length : Int) <= 40) = decide (d.Sectors.length <= 40) by by_cases h : d.Sectors.length <= 40 <;> simp [h] <;> omega, show decide ((d.Pending.length : Int) <= 40) = decide (d.Pending.length <= 40) by by_cases h : d.Pending.length <= 40 <;> simp [h] <;> omega, show decide ((bsum l : Int) <= 4000) = decide (bsum l <= 4000) by by_cases h : bsum l <= 4000 <;> simp [h] <;> omega]
 cases decide (d.Sectors.length <= 40) <;> cases decide (d.Pending.length <= 40) <;> rfl
theorem g11 (d : S_Disk) (l : List (List UInt8)) (hb : bsum l <= 1048576) : G11 d l = some (fewB d l) := g11w d l (by omega)
def okJ (l : S_Journal) : Bool := decide (1 <= l.Many) && (decide (l.Many <= 4096) && (decide (0 <= l.Synced) && (decide (l.Synced <= (l.Records.length : Int)) && decide ((tot l.Records : Int) <= l.Many))))
theorem dlt (a b : Int) : decide (a < b) = !decide (b <= a) := by by_cases h : b <= a <;> simp [h] <;> omega
theorem g17 (l : S_Journal) (hb : bsum l.Records <= 1048576) : G17 l = some (if okJ l = true then 0 else 1) := by
 unfold G17 F17 okJ
 rw [g36 _ hb]
 simp only [Option.bind_some, dlt]
 cases decide (1 <= l.Many) <;> cases decide (l.Many <= 4096) <;> cases decide (0 <= l.Synced) <;> cases decide (l.Synced <= (l.Records.length : Int)) <;> cases decide ((tot l.Records : Int) <= l.Many) <;> rfl
theorem ok_of {l : S_Journal} (h : okJ l = true) : (1 <= l.Many /\ l.Many <= 4096) /\ (0 <= l.Synced /\ l.Synced <= (l.Records.length : Int)) /\ (tot l.Records : Int) <= l.Many := by
 unfold okJ at h
 simp only [Bool.and_eq_true, decide_eq_true_eq] at h
 exact ⟨⟨h.1, h.2.1⟩, ⟨h.2.2.1, h.2.2.2.1⟩, h.2.2.2.2⟩
theorem appI_some {T : Type} (b : Nat) (l l2 : List T) (h : (l.length + l2.length) * b <= limit) : appI b l l2 = some (l ++ l2) := by unfold appI; rw [decide_eq_true h]; rfl
theorem lim : limit = 140737488355328 := rfl
theorem subI_all {T : Type} (l : List T) : subI l 0 (l.length : Int) = some l := by
 unfold subI
 simp
theorem g38 (b : List UInt8) (h : b.length <= 1048576) : G38 b = some b := by
 unfold G38 F38
 rw [appI_some _ _ _ (by rw [lim]; simp; omega)]
 rfl
def zeroJ : S_Journal := S_Journal.mk [] 0 0
def appR (l : S_Journal) (b : List UInt8) : S_Journal × Int := if okJ l = true then (if (secN b.length : Int) <= l.Many - tot l.Records then (S_Journal.mk (l.Records ++ [b]) l.Many l.Synced, 0) else (zeroJ, 2)) else (zeroJ, 1)
theorem g15 (l : S_Journal) (b : List UInt8) (hl : bsum l.Records <= 1048576) (hb : b.length <= 1048576) : G15 l b = some (appR l b) := by
 unfold G15 F15 appR
 rw [g17 _ hl, g36 _ hl, g35 _ hb, g38 _ hb]
 cases h : okJ l with
 | false => rfl
 | true =>
  have ho := ok_of h
  have hle := len_bsum l.Records
  simp only [if_true, Option.bind_some, bne_self_eq_false, cond_false]
  rw [wr64 (by omega) (by omega), subI_all]
  by_cases hs : (secN b.length : Int) <= l.Many - tot l.Records
  ·rw [decide_eq_false (show ¬ l.Many - (tot l.Records : Int) < (secN b.length : Int) by omega), if_pos hs]
   simp only [cond_false, Option.bind_some]
   rw [appI_some _ _ _ (by rw [lim]; simp; omega)]
   rfl
  ·rw [decide_eq_true (show l.Many - (tot l.Records : Int) < (secN b.length : Int) by omega), if_neg hs]
   rfl
theorem strEq_refl (s : ByteArray) : strEq s s = true := by unfold strEq; exact beq_self_eq_true _
theorem f24 (n : Nat) (l : List (List UInt8)) (b : Bool) (hl : l.length <= 4194304) : ∀ (k i m : Nat), k + i = l.length -> k + 1 <= m -> F24_24_0 n l l b m (i : Int) = some (Sum.inr ())
 | _, i, 0, _, hm => by omega
 | 0, i, m + 1, hk, hm => by
  unfold F24_24_0
  rw [decide_eq_false (show ¬ (i : Int) < (l.length : Int) by omega)]
  rfl
 | k + 1, i, m + 1, hk, hm => by
  have hi : i < l.length := by omega
  unfold F24_24_0
  rw [decide_eq_true (show (i : Int) < (l.length : Int) by omega), getI_nat, List.getElem?_eq_getElem hi]
  simp only [cond_true, Option.bind_some, strEq_refl, Bool.not_true, cond_false]
  rw [wr64 (by omega) (by omega), show ((i : Int) + 1) = ((i + 1 : Nat) : Int) by omega]
  exact f24 n l b hl k (i + 1) m (by omega) (by omega)
theorem g24 (l : List (List UInt8)) (hl : l.length <= 4194304) : G24 l l = some true := by
 unfold G24 F24
 have h := f24 fuel0 l false hl l.length 0 (fuel0 + 8) (by omega) (by have := fu; omega)
 rw [bne_self_eq_false]
 refine Eq.trans (congrArg (fun z => Option.bind z _) h) ?_
 rfl
theorem g14 (l : S_Journal) (hl : l.Records.length <= 4194304) : G14 l l = some true := by
 unfold G14 F14
 rw [g24 _ hl]
 simp only [beq_self_eq_true, cond_true, Option.bind_some]
end Go.Proofs.Ytobjniabioaefaa
