/-
 Layer 05, in plain Lean: records on sectors.
-/
import Derived.Test.YtobjniabioaefaaQ3
namespace Go.Proofs.Ytobjniabioaefaa
set_option linter.unusedVariables false
set_option linter.unusedSimpArgs false
set_option maxRecDepth 100000
set_option maxHeartbeats 4000000
def goes (l : List (List UInt8)) (a n : Nat) : Bool := goodB (l.getD n []) n && (decide (kindOf (l.getD n []) % 2 = 1) == decide (n = a)) && decide (genOf (l.getD n []) = genOf (l.getD a []))
def scan (l : List (List UInt8)) (a : Nat) : Nat -> Nat -> List UInt8 -> Option (List UInt8 × Nat)
 | 0, _, _ => none
 | k + 1, n, acc => bif goes l a n then (bif decide (2 <= kindOf (l.getD n [])) then some (acc ++ dataOf (l.getD n []), n + 1) else scan l a k (n + 1) (acc ++ dataOf (l.getD n []))) else none
def recs (l : List (List UInt8)) : Nat -> Nat -> Nat -> List (List UInt8)
 | 0, _, _ => []
 | f + 1, a, last => match scan l a (l.length - a) a [] with
  | some (b, e) => bif decide (last <= genOf (l.getD a [])) then b :: recs l f e (genOf (l.getD a [])) else []
  | none => []
def secs (l : List (List UInt8)) : Prop := (∀ b ∈ l, b.length = 128) /\ l.length <= 4096
theorem good_form {b : List UInt8} {k : Nat} (h : goodB b k = true) : kindOf b <= 3 /\ lenOf b <= 112 := by
 unfold goodB form at h
 simp only [Bool.and_eq_true, decide_eq_true_eq] at h
 exact ⟨h.1.2.1.1.1, h.1.2.1.1.2⟩
theorem sub_data {b : List UInt8} (hb : b.length = 128) (h : lenOf b <= 112) : subI b 12 (wr .i64 (12 + wr .i64 ((b.getD 11 0).toNat : Int))) = some (dataOf b) := by
 rw [show ((b.getD 11 0).toNat : Int) = ((lenOf b : Nat) : Int) from rfl, wr64 (n := ((lenOf b : Nat) : Int)) (by omega) (by omega), wr64 (by omega) (by omega)]
 have := subI_at b 12 (12 + lenOf b) (by omega) (by omega)
 rw [show 12 + lenOf b - 12 = lenOf b by omega] at this
 rw [show (12 : Int) + (lenOf b : Int) = ((12 + lenOf b : Nat) : Int) by omega]
 exact this
theorem data_len {b : List UInt8} (h : lenOf b <= 112) : (dataOf b).length <= 112 := by unfold dataOf; rw [List.length_take]; omega
theorem getD_at {l : List (List UInt8)} {i : Nat} (h : i < l.length) : l.getD i [] = l[i] := by rw [List.getD_eq_getElem?_getD, List.getElem?_eq_getElem h]; rfl
theorem secs_get {l : List (List UInt8)} (hs : secs l) {i : Nat} (h : i < l.length) : (l.getD i []).length = 128 := by rw [getD_at h]; exact hs.1 _ (List.getElem_mem h)
theorem getI_sec {l : List (List UInt8)} {i : Nat} (h : i < l.length) : getI l (i : Int) = some (l.getD i []) := by rw [getI_nat, List.getElem?_eq_getElem h, getD_at h]
theorem sub04 {b : List UInt8} (hb : b.length = 128) : subI b 0 4 = some (b.take 4) := subI_at b 0 4 (by omega) (by omega)
theorem gen41 (b : List UInt8) : G41 (b.take 4) = some (genOf b : Int) := g41 _ (by rw [List.length_take]; omega)
theorem g10at {b : List UInt8} (hb : b.length = 128) : getI b 10 = some (b.getD 10 0) := getI_D b 10 (by omega)
theorem g11at {b : List UInt8} (hb : b.length = 128) : getI b 11 = some (b.getD 11 0) := getI_D b 11 (by omega)
theorem k10 (b : List UInt8) : ((b.getD 10 0).toNat : Int) = (kindOf b : Int) := rfl
theorem k10n (b : List UInt8) : (b.getD 10 0).toNat = kindOf b := rfl
theorem app1 {acc d : List UInt8} (h : acc.length + d.length <= 1048576) : appI 1 acc d = some (acc ++ d) := appI_some _ _ _ (by rw [lim]; omega)
theorem scan_end (l : List (List UInt8)) (a : Nat) : ∀ (k n : Nat) (acc : List UInt8) (b : List UInt8) (e : Nat), scan l a k n acc = some (b, e) -> n < e /\ e <= n + k
 | 0, n, acc, b, e, h => by unfold scan at h; cases h
 | k + 1, n, acc, b, e, h => by
  unfold scan at h
  cases h1 : goes l a n with
  | false => rw [h1] at h; cases h
  | true =>
   rw [h1, cond_true] at h
   cases h2 : decide (2 <= kindOf (l.getD n [])) with
   | true => rw [h2, cond_true] at h; cases h; omega
   | false =>
    rw [h2, cond_false] at h
    have := scan_end l a k (n + 1) _ b e h
    omega
def recsOf (l : List (List UInt8)) : List (List UInt8) := recs l (l.length + 1) 0 0
theorem f601 (l : List (List UInt8)) (hs : secs l) (a last : Nat) (d : S_Disk) (v16 v17 : Int) (r : List (List UInt8)) (hr : r.length <= 4096) : ∀ (k n : Nat) (acc : List UInt8) (m : Nat), n + k = l.length -> a <= n -> k + 1 <= m -> acc.length <= 112 * n -> (a < n -> last <= genOf (l.getD a [])) ->
  (∃ b e, scan l a k n acc = some (b, e) /\ last <= genOf (l.getD a []) /\ F12_60_1 fuel0 (a : Int) (last : Int) d v16 v17 l r m (n : Int) acc = some (.inr (.inl ((e : Int), (genOf (l.getD a []) : Int), r ++ [b], b)))) ∨ ((scan l a k n acc = none ∨ ¬ last <= genOf (l.getD a [])) /\ ((∃ y, F12_60_1 fuel0 (a : Int) (last : Int) d v16 v17 l r m (n : Int) acc = some (.inl y)) ∨ ∃ y, F12_60_1 fuel0 (a : Int) (last : Int) d v16 v17 l r m (n : Int) acc = some (.inr (.inr y))))
 | _, _, _, 0, _, _, h, _, _ => by omega
 | 0, n, acc, m + 1, hk, han, hm, hacc, hla => by
  refine .inr ⟨.inl rfl, .inr ⟨acc, ?_⟩⟩
  unfold F12_60_1
  rw [decide_eq_false (show ¬ ((n : Int) < (l.length : Int)) by omega)]
  rfl
 | k + 1, n, acc, m + 1, hk, han, hm, hacc, hla => by
  have h2 := hs.2
  have hi : n < l.length := by omega
  have hb := secs_get hs hi
  have ha0 : (l.getD a []).length = 128 := secs_get hs (by omega)
  unfold F12_60_1
  rw [decide_eq_true (show ((n : Nat) : Int) < (l.length : Int) by omega), getI_sec hi, getI_sec (show a < l.length by omega)]
  simp only [cond_true, Option.bind_some]
  rw [g61 _ _ hb (by omega), sub04 hb, sub04 ha0, g10at hb, g11at hb]
  simp only [Option.bind_some, or_some, gen41, k10n]
  simp only [bit1n (kind_lt _), wr64 (n := (n : Int) + 1) (by omega) (by omega), natbne]
  rw [show ((n : Int) == (a : Int)) = decide (n = a) from natbeq n a, show (n : Int) + 1 = ((n + 1 : Nat) : Int) by omega]
  have hG : goes l a n = (goodB (l.getD n []) n && (decide (kindOf (l.getD n []) % 2 = 1) == decide (n = a)) && decide (genOf (l.getD n []) = genOf (l.getD a []))) := rfl
  have ih := fun x hx hl' => f601 l hs a last d v16 v17 r hr k (n + 1) x m (by omega) (by omega) (by omega) hx hl'
  unfold scan
  rw [hG]
  generalize hB : l.getD n [] = b at *
  cases hg : goodB b n with
  | false => exact .inr ⟨.inl rfl, .inl ⟨_, rfl⟩⟩
  | true =>
   obtain ⟨hf1, hf2⟩ := good_form hg
   have hd := data_len hf2
   rw [sub_data hb hf2]
   simp only [Option.bind_some]
   rw [app1 (d := dataOf b) (by omega)]
   simp only [Option.bind_some, bit2n hf1]
   cases hp : (decide (kindOf b % 2 = 1) == decide (n = a)) with
   | false =>
    have : (decide (kindOf b % 2 = 1) != decide (n = a)) = true := by unfold bne; rw [hp]; rfl
    rw [this]
    exact .inr ⟨.inl rfl, .inl ⟨_, rfl⟩⟩
   | true =>
    have : (decide (kindOf b % 2 = 1) != decide (n = a)) = false := by unfold bne; rw [hp]; rfl
    rw [this]
    cases hgen : decide (genOf b = genOf (l.getD a [])) with
    | false => exact .inr ⟨.inl rfl, .inl ⟨_, rfl⟩⟩
    | true =>
     have hge : genOf b = genOf (l.getD a []) := of_decide_eq_true hgen
     rw [hge]
     by_cases hl : last <= genOf (l.getD a [])
     ·rw [decide_eq_false (show ¬ ((genOf (l.getD a []) : Nat) : Int) < (last : Int) by omega)]
      simp only [Bool.not_true, Bool.or_self, cond_false, Bool.true_and, cond_true]
      rw [appI_some 24 r [_] (by rw [lim]; simp; omega)]
      by_cases h2 : 2 <= kindOf b
      ·rw [decide_eq_true h2]
       exact .inl ⟨_, _, rfl, hl, rfl⟩
      ·rw [decide_eq_false h2]
       exact ih _ (by rw [List.length_append]; omega) (fun _ => hl)
     ·rw [decide_eq_true (show ((genOf (l.getD a []) : Nat) : Int) < (last : Int) by omega)]
      exact .inr ⟨.inr hl, .inl ⟨_, rfl⟩⟩
theorem f600 (l : List (List UInt8)) (hs : secs l) (d : S_Disk) (v8 v9 : Int) : ∀ (f a last : Nat) (r : List (List UInt8)) (m : Nat), a <= l.length -> l.length - a + 1 <= f -> l.length - a + 1 <= m -> r.length <= a -> ∃ y, F12_60_0 fuel0 d v8 v9 l m (a : Int) (last : Int) r = some (r ++ recs l f a last, y)
 | 0, a, last, r, m, _, h, _, _ => by omega
 | f + 1, a, last, r, 0, _, _, h, _ => by omega
 | f + 1, a, last, r, m + 1, ha, hf, hm, hr => by
  have h2 := hs.2
  unfold F12_60_0 recs
  rcases f601 l hs a last d v8 v9 r (by omega) (l.length - a) a [] (fuel0 + 7) (by omega) (Nat.le_refl _) (by have := fu; omega) (Nat.zero_le _) (by omega) with ⟨b, e, h3, h4, h5⟩ | ⟨h3, h4⟩
  ·have he := scan_end _ _ _ _ _ _ _ h3
   obtain ⟨y, hy⟩ := f600 l hs d v8 v9 f e (genOf (l.getD a [])) (r ++ [b]) m (by omega) (by omega) (by omega) (by simp; omega)
   refine ⟨y, ?_⟩
   refine Eq.trans (congrArg (fun z => Option.bind z _) h5) ?_
   refine Eq.trans hy ?_
   rw [h3]
   simp only []
   rw [decide_eq_true h4, cond_true]
   simp
  ·have hz : (match scan l a (l.length - a) a [] with
    | some (b, e) => bif decide (last <= genOf (l.getD a [])) then b :: recs l f e (genOf (l.getD a [])) else []
    | none => []) = [] := by
    rcases h3 with h3 | h3
    ·rw [h3]
    ·cases scan l a (l.length - a) a [] with
     | none => rfl
     | some p => simp only []; rw [decide_eq_false h3]; rfl
   rw [hz, List.append_nil]
   rcases h4 with ⟨y, h4⟩ | ⟨y, h4⟩
   ·exact ⟨y, congrArg (fun z => Option.bind z _) h4⟩
   ·exact ⟨y, congrArg (fun z => Option.bind z _) h4⟩
theorem okD_secs {d : S_Disk} (h : okD d = true) : secs d.Sectors := by
 unfold okD at h
 simp only [Bool.and_eq_true, decide_eq_true_eq, List.all_eq_true] at h
 refine ⟨fun b hb => ?_, h.1.1.1.1.1.2⟩
 have := h.2 b hb
 unfold isSec at this
 simpa using this
def openR (d : S_Disk) : S_Journal × Int := if okD d = true then (if d.Stopped = true then (zeroJ, 40) else if 0 < d.Pending.length then (zeroJ, 1) else (S_Journal.mk (recsOf d.Sectors) (d.Sectors.length : Int) ((recsOf d.Sectors).length : Int), 0)) else (zeroJ, 40)
theorem g12 (d : S_Disk) (hd : fits d) : G12 d = some (openR d) := by
 unfold G12 F12 openR
 rw [g31 d hd]
 by_cases ho : okD d = true
 ·rw [if_pos ho, if_pos ho]
  simp only [Option.bind_some]
  cases hst : d.Stopped with
  | true => rfl
  | false =>
   by_cases hp : 0 < d.Pending.length
   ·rw [decide_eq_true (show (0 : Int) < (d.Pending.length : Int) by omega), if_pos hp]; rfl
   ·rw [decide_eq_false (show ¬ (0 : Int) < (d.Pending.length : Int) by omega), if_neg hp]
    have hs := okD_secs ho
    obtain ⟨y, hy⟩ := f600 d.Sectors hs d (d.Sectors.length : Int) 0 (d.Sectors.length + 1) 0 0 [] (fuel0 + 7) (Nat.zero_le _) (by omega) (by have := fu; have := hs.2; omega) (Nat.le_refl _)
    refine Eq.trans (congrArg (fun z => Option.bind z _) hy) ?_
    rfl
 ·rw [if_neg ho, if_neg ho]
  rfl
end Go.Proofs.Ytobjniabioaefaa
