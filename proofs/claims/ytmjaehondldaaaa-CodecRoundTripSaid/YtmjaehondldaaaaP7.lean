/-
 Layer 01, in plain Lean: a number that is read.
-/
import Derived.Test.YtmjaehondldaaaaP6
namespace Go.Proofs.Ytmjaehondldaaaa
set_option linter.unusedVariables false
set_option linter.unusedSimpArgs false
set_option maxRecDepth 100000
set_option maxHeartbeats 4000000
def getN : Nat -> List UInt8 -> Option (Nat × List UInt8)
 | _, [] => none
 | c, b :: r => if (0 < c /\ b.toNat = 0) ∨ (9 <= c /\ 1 < b.toNat) then none else if b.toNat < 128 then some (b.toNat, r) else match getN (c + 1) r with
  | some (n, t) => some (b.toNat - 128 + 128 * n, t)
  | none => none
theorem pw (c : Nat) : 2 ^ (7 * (c + 1)) = 128 * 2 ^ (7 * c) := by rw [Nat.mul_add, Nat.pow_add]; omega
theorem u8n {n : Nat} (h : n < 256) : (UInt8.ofNat n).toNat = n := by simp; omega
theorem getN_num : ∀ (k n c : Nat) (t : List UInt8), n < 128 ^ k -> c <= 9 -> 2 ^ (7 * c) * n < 18446744073709551616 -> (0 < c -> n ≠ 0) -> getN c (num n ++ t) = some (n, t)
 | 0, n, c, t, h1, h2, h3, h4 => by
  have h1 : n < 1 := h1
  have h5 : c = 0 := by
   rcases Nat.eq_zero_or_pos c with h | h
   ·exact h
   ·have := h4 h; omega
  subst h5
  rw [num_lt (by omega), List.singleton_append, getN, u8n (by omega), if_neg (by omega), if_pos (by omega)]
 | k + 1, n, c, t, h1, h2, h3, h4 => by
  have h9 : c = 9 -> n <= 1 := by
   intro h
   subst h
   have : 2 ^ (7 * 9) = 9223372036854775808 := by decide
   omega
  by_cases hn : n < 128
  ·rw [num_lt hn, List.singleton_append, getN, u8n (by omega), if_neg (by
    rintro (⟨h5, h6⟩ | ⟨h5, h6⟩)
    ·exact h4 h5 h6
    ·have := h9 (by omega); omega), if_pos hn]
  ·have h5 : c ≠ 9 := fun h => by have := h9 h; omega
   have h6 : n / 128 < 128 ^ k := by rw [Nat.div_lt_iff_lt_mul (by decide)]; rw [Nat.pow_succ] at h1; exact h1
   have h7 : 2 ^ (7 * (c + 1)) * (n / 128) <= 2 ^ (7 * c) * n := by
    rw [pw, Nat.mul_comm 128, Nat.mul_assoc]
    exact Nat.mul_le_mul_left _ (by omega)
   rw [num_ge hn, List.cons_append, getN, u8n (by omega), if_neg (by omega), if_neg (by omega), getN_num k (n / 128) (c + 1) t h6 (by omega) (by omega) (by omega)]
   simp only
   congr 2
   omega
theorem getN_big {n : Nat} {t : List UInt8} (h : n < 18446744073709551616) : getN 0 (num n ++ t) = some (n, t) := getN_num 10 n 0 t (p10 h) (by omega) (by omega) (by omega)
theorem getN_inv : ∀ (l : List UInt8) (c n : Nat) (r : List UInt8), getN c l = some (n, r) -> c <= 9 -> l = num n ++ r /\ (0 < c -> n ≠ 0) /\ 2 ^ (7 * c) * n < 18446744073709551616
 | [], c, n, r, h, _ => by rw [getN] at h; cases h
 | b :: l, c, n, r, h, hc => by
  have hb := b.toNat_lt
  rw [getN] at h
  split at h
  ·cases h
  rename_i h1
  split at h
  ·rename_i h2
   cases h
   refine ⟨?_, fun h3 h4 => h1 (.inl ⟨h3, h4⟩), ?_⟩
   ·rw [num_lt h2, UInt8.ofNat_toNat]; rfl
   ·have : 2 ^ (7 * 9) = 9223372036854775808 := by decide
    by_cases h9 : c = 9
    ·subst h9; omega
    ·have h8 : 2 ^ (7 * c) <= 2 ^ 56 := Nat.pow_le_pow_right (by decide) (by omega)
     have h7 : 2 ^ (7 * c) * b.toNat <= 2 ^ 56 * 127 := Nat.mul_le_mul h8 (by omega)
     omega
  ·rename_i h2
   split at h
   ·rename_i m t h3
    cases h
    have h9 : c ≠ 9 := fun h => h1 (.inr ⟨by omega, by omega⟩)
    obtain ⟨h4, h5, h6⟩ := getN_inv l (c + 1) m _ h3 (by omega)
    have h5 := h5 (by omega)
    refine ⟨?_, fun _ => by omega, ?_⟩
    ·rw [num_ge (by omega), show (b.toNat - 128 + 128 * m) % 128 + 128 = b.toNat by omega, show (b.toNat - 128 + 128 * m) / 128 = m by omega, UInt8.ofNat_toNat, h4]
     rfl
    ·rw [pw] at h6
     have h8 : 2 ^ (7 * c) * (b.toNat - 128) + 2 ^ (7 * c) * (128 * m) < 18446744073709551616 := by
      have e : 2 ^ (7 * c) * (128 * m) = 128 * 2 ^ (7 * c) * m := by rw [Nat.mul_comm 128 (2 ^ (7 * c)), Nat.mul_assoc]
      rw [e]
      have hlt : b.toNat - 128 < 128 := by omega
      have h10 : 2 ^ (7 * c) * (b.toNat - 128) < 2 ^ (7 * c) * 128 := Nat.mul_lt_mul_of_pos_left hlt (Nat.two_pow_pos _)
      have h11 : 2 ^ (7 * c) * 128 * m < 18446744073709551616 := by rw [Nat.mul_comm (2 ^ (7 * c))]; exact h6
      have hd : 18446744073709551616 = 2 ^ (7 * c) * 128 * 2 ^ (64 - (7 * c + 7)) := by
       rw [Nat.mul_assoc, show 128 * 2 ^ (64 - (7 * c + 7)) = 2 ^ (64 - 7 * c) by
        rw [show 128 = 2 ^ 7 from rfl, <- Nat.pow_add]; congr 1; omega, <- Nat.pow_add, show 7 * c + (64 - 7 * c) = 64 by omega]
      rw [hd] at h11
      have h12 : m < 2 ^ (64 - (7 * c + 7)) := Nat.lt_of_mul_lt_mul_left h11
      have h13 : 2 ^ (7 * c) * 128 * (m + 1) <= 2 ^ (7 * c) * 128 * 2 ^ (64 - (7 * c + 7)) := Nat.mul_le_mul_left _ h12
      rw [<- hd, Nat.mul_add, Nat.mul_one] at h13
      rw [Nat.mul_comm 128 (2 ^ (7 * c))]
      omega
     rw [Nat.mul_add]; exact h8
   ·cases h
theorem getN_len {l : List UInt8} {n : Nat} {r : List UInt8} (h : getN 0 l = some (n, r)) : l = num n ++ r /\ n < 18446744073709551616 /\ r.length < l.length := by
 obtain ⟨h1, _, h2⟩ := getN_inv l 0 n r h (by omega)
 refine ⟨h1, by omega, ?_⟩
 have : num n ≠ [] := by
  rw [num]; split <;> simp
 have := List.length_pos_iff.2 this
 rw [h1, List.length_append]; omega
theorem and127 : ∀ c : Fin 256, andI .u8 (c.val : Int) 127 = ((c.val % 128 : Nat) : Int) := by decide +kernel
theorem sh7 {b c : Nat} (hc : c <= 9) (h : c = 9 -> b <= 1) (hb : b < 128) : shlI .u64 (wr .u64 (b : Int)) (wr .i64 (7 * (c : Int))) = ((2 ^ (7 * c) * b : Nat) : Int) := by
 rw [wr64 (by omega) (by omega), wun _ (by omega)]
 unfold shlI
 rw [show (7 * (c : Int)).toNat = 7 * c by omega, show min (7 * c) (IntKind.bits .u64) = 7 * c from Nat.min_eq_left (by show 7 * c <= 64; omega)]
 have e : ((b : Int) * 2 ^ (7 * c)) = ((2 ^ (7 * c) * b : Nat) : Int) := by rw [Int.natCast_mul, Int.natCast_pow, Int.mul_comm]; rfl
 rw [e]
 have := wun (2 ^ (7 * c) * b) (by
  have h9 : 2 ^ (7 * 9) = 9223372036854775808 := by decide
  by_cases h1 : c = 9
  ·have := h h1; subst h1; rcases (show b = 0 ∨ b = 1 by omega) with rfl | rfl <;> omega
  ·have h8 : 2 ^ (7 * c) <= 2 ^ 56 := Nat.pow_le_pow_right (by decide) (by omega)
   have := Nat.mul_le_mul h8 (show b <= 127 by omega)
   omega)
 exact this
theorem lt64 {a b c : Nat} (hc : c <= 9) (h : c = 9 -> b <= 1) (hb : b < 128) (ha : a < 2 ^ (7 * c)) : a + 2 ^ (7 * c) * b < 18446744073709551616 := by
 have h9 : 2 ^ (7 * 9) = 9223372036854775808 := by decide
 by_cases h1 : c = 9
 ·have := h h1; subst h1; rcases (show b = 0 ∨ b = 1 by omega) with rfl | rfl <;> omega
 ·have h8 : 2 ^ (7 * c) <= 2 ^ 56 := Nat.pow_le_pow_right (by decide) (by omega)
  have := Nat.mul_le_mul h8 (show b <= 127 by omega)
  omega
theorem or7 {a b c : Nat} (hc : c <= 9) (h : c = 9 -> b <= 1) (hb : b < 128) (ha : a < 2 ^ (7 * c)) : orI .u64 (a : Int) ((2 ^ (7 * c) * b : Nat) : Int) = ((a + 2 ^ (7 * c) * b : Nat) : Int) := by
 have h1 := lt64 hc h hb ha
 unfold orI
 show IntKind.wrap .u64 ((BitVec.ofInt 64 (a : Int) ||| BitVec.ofInt 64 ((2 ^ (7 * c) * b : Nat) : Int)).toNat : Int) = _
 rw [BitVec.toNat_or, BitVec.toNat_ofInt, BitVec.toNat_ofInt]
 have e1 : ((a : Int) % ((2 ^ 64 : Nat) : Int)).toNat = a := by omega
 have e2 : (((2 ^ (7 * c) * b : Nat) : Int) % ((2 ^ 64 : Nat) : Int)).toNat = 2 ^ (7 * c) * b := by omega
 rw [e1, e2, Nat.or_comm, <- Nat.two_pow_add_eq_or_of_lt ha, Nat.add_comm]
 exact wun _ h1
theorem rdloop (G : Nat -> Int -> Int -> List UInt8 -> Option ((List UInt8) ⊕ (Int × List UInt8))) (hG : ∀ m v6 v7 v8, G (m + 1) v6 v7 v8 = bif (!(decide (1 <= ((v8.length : Int))))) then (some ((Sum.inl v8))) else (Option.bind (subI v8 0 1) fun y13 => Option.bind (subI v8 1 ((v8.length : Int))) fun y14 => Option.bind (getI y13 0) fun y15 => Option.bind (bif (v7 == 0) then (some true) else (some (((y15.toNat : Int)) != 0))) fun y17 => Option.bind (bif y17 then (Option.bind (bif (decide (v7 < 9)) then (some true) else (some (decide (((y15.toNat : Int)) <= 1)))) fun y22 => some y22) else (some false)) fun y25 => bif (!y25) then (some ((Sum.inl y14))) else (bif decide (0 <= (wr .i64 (7 * v7))) then (bif (decide (((y15.toNat : Int)) < 128)) then (some ((Sum.inr ((orI .u64 v6 (shlI .u64 (wr .u64 (andI .u8 ((y15.toNat : Int)) 127)) (wr .i64 (7 * v7))), y14))))) else (G m (orI .u64 v6 (shlI .u64 (wr .u64 (andI .u8 ((y15.toNat : Int)) 127)) (wr .i64 (7 * v7)))) (wr .i64 (v7 + 1)) y14)) else none))) :
  ∀ (l : List UInt8) (m a c : Nat), c <= 9 -> 10 <= m + c -> a < 2 ^ (7 * c) -> match getN c l with
   | some (n, r) => G m (a : Int) (c : Int) l = some (.inr (((a + 2 ^ (7 * c) * n : Nat) : Int), r))
   | none => ∃ r, G m (a : Int) (c : Int) l = some (.inl r)
 | [], m, a, c, hc, hm, ha => by
  obtain ⟨m, rfl⟩ : ∃ q, m = q + 1 := ⟨m - 1, by omega⟩
  rw [getN, hG]
  exact ⟨_, rfl⟩
 | b :: l, m, a, c, hc, hm, ha => by
  obtain ⟨m, rfl⟩ : ∃ q, m = q + 1 := ⟨m - 1, by omega⟩
  have hb := b.toNat_lt
  have hs1 : subI (b :: l) 0 1 = some [b] := by
   unfold subI
   rw [show decide ((1 : Int) <= ((b :: l).length : Int)) = true from decide_eq_true (by rw [List.length_cons]; omega)]
   rfl
  have hs2 : subI (b :: l) 1 ((b :: l).length : Int) = some l := by
   unfold subI
   rw [show decide ((1 : Int) <= ((b :: l).length : Int)) = true from decide_eq_true (by rw [List.length_cons]; omega), decide_eq_true (Int.le_refl _)]
   simp
  have hc1 : (bif ((c : Int) == 0) then (some true) else (some (((b.toNat : Int)) != 0))) = some (!decide (0 < c /\ b.toNat = 0)) := by
   by_cases h : c = 0
   ·subst h; simp
   ·rw [show ((c : Int) == 0) = false by simp; omega]
    simp only [cond_false]
    congr 1
    rw [Bool.eq_iff_iff]
    simp
    omega
  have hc2 : (bif (decide ((c : Int) < 9)) then (some true) else (some (decide (((b.toNat : Int)) <= 1)))) = some (!decide (9 <= c /\ 1 < b.toNat)) := by
   by_cases h : c < 9
   ·rw [decide_eq_true (by omega)]
    simp only [cond_true]
    congr 1
    rw [Bool.eq_iff_iff]
    simp
    omega
   ·rw [decide_eq_false (by omega)]
    simp only [cond_false]
    congr 1
    rw [Bool.eq_iff_iff]
    simp
    omega
  have e127 : andI .u8 ((b.toNat : Int)) 127 = ((b.toNat % 128 : Nat) : Int) := and127 ⟨b.toNat, hb⟩
  rw [getN, hG, hs1, hs2, decide_eq_true (show (1 : Int) <= ((b :: l).length : Int) by rw [List.length_cons]; omega)]
  simp only [Bool.not_true, cond_false, Option.bind_some, show getI [b] 0 = some b from rfl, hc1, hc2]
  by_cases h : (0 < c /\ b.toNat = 0) ∨ (9 <= c /\ 1 < b.toNat)
  ·rw [if_pos h]
   refine ⟨l, ?_⟩
   by_cases h5 : 0 < c /\ b.toNat = 0
   ·rw [decide_eq_true h5]; rfl
   ·rw [decide_eq_false h5, decide_eq_true (show 9 <= c /\ 1 < b.toNat by omega)]; rfl
  ·rw [if_neg h, decide_eq_false (show ¬ (0 < c /\ b.toNat = 0) by omega), decide_eq_false (show ¬ (9 <= c /\ 1 < b.toNat) by omega)]
   have hb9 : c = 9 -> b.toNat % 128 <= 1 := fun h9 => by omega
   rw [e127, sh7 hc hb9 (by omega), or7 hc hb9 (by omega) ha, decide_eq_true (show 0 <= wr .i64 (7 * (c : Int)) by rw [wr64 (by omega) (by omega)]; omega)]
   simp only [Bool.not_false, cond_true, Option.bind_some, Bool.not_true, cond_false]
   by_cases h8 : b.toNat < 128
   ·rw [if_pos h8, decide_eq_true (by omega), Nat.mod_eq_of_lt h8]
    rfl
   ·rw [if_neg h8, decide_eq_false (by omega), wr64 (n := (c : Int) + 1) (by omega) (by omega)]
    have hlt : a + 2 ^ (7 * c) * (b.toNat % 128) < 2 ^ (7 * (c + 1)) := by
     rw [pw]
     have := Nat.mul_le_mul_left (2 ^ (7 * c)) (show b.toNat % 128 <= 127 by omega)
     omega
    have ih := rdloop G hG l m (a + 2 ^ (7 * c) * (b.toNat % 128)) (c + 1) (by omega) (by omega) hlt
    rw [show ((c + 1 : Nat) : Int) = (c : Int) + 1 by omega] at ih
    simp only [cond_false]
    cases hg : getN (c + 1) l with
    | none => rw [hg] at ih; exact ih
    | some p =>
     obtain ⟨n, r⟩ := p
     rw [hg] at ih
     simp only at ih ⊢
     rw [ih, pw]
     congr 4
     rw [Nat.mul_add, show b.toNat % 128 = b.toNat - 128 by omega, Nat.add_assoc, Nat.mul_comm 128 (2 ^ (7 * c)), Nat.mul_assoc]
end Go.Proofs.Ytmjaehondldaaaa
