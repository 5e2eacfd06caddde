/-
 Layer 05, in plain Lean: a sector, as the reference writes it; generations.
-/
import Derived.Test.YtobjniabioaefaaQ4
import Derived.Test.YtobjniabioaefaaQe
namespace Go.Proofs.Ytobjniabioaefaa
set_option linter.unusedVariables false
set_option linter.unusedSimpArgs false
set_option maxRecDepth 100000
set_option maxHeartbeats 4000000
theorem p66 (N m x i : Nat) (l : List UInt8) (hl : l.length = N) (hi : i < N) (hN : N <= 8) (hx : x < 18446744073709551616) : F66_66_0 fuel0 [] N (m + 1) (x : Int) (i : Int) l = F66_66_0 fuel0 [] N m ((x / 256 : Nat) : Int) ((i : Int) - 1) (l.set i (byt x 0)) := by
 conv => lhs; unfold F66_66_0
 have hb : x % 256 < 256 := Nat.mod_lt _ (by decide)
 have e1 : Int.tmod (x : Int) 256 = ((x % 256 : Nat) : Int) := rfl
 have e2 : Int.tdiv (x : Int) 256 = ((x / 256 : Nat) : Int) := rfl
 rw [decide_eq_true (show (0 : Int) <= (i : Int) by omega), idxN_at (i := i) rfl hi, e1, e2, wr8 (n := ((x % 256 : Nat) : Int)) (by omega) (by omega), decide_eq_true (show (0 : Int) <= ((x % 256 : Nat) : Int) by omega), decide_eq_true (show ((x % 256 : Nat) : Int) < 256 by omega)]
 simp only [cond_true, Option.bind_some, Bool.and_self]
 rw [bytof, modI_at (by omega), Option.bind_some, wr64 (by omega) (by omega), wru64 (by omega) (by omega)]
 show F66_66_0 fuel0 [] N m _ _ (l.set i (UInt8.ofNat (x % 256))) = F66_66_0 fuel0 [] N m _ _ (l.set i (UInt8.ofNat (x / 256 ^ 0 % 256)))
 rw [Nat.pow_zero, Nat.div_one]
theorem byt_div (x i j : Nat) : byt (x / 256 ^ i) j = byt x (i + j) := by
 unfold byt
 rw [Nat.div_div_eq_div_mul, <- Nat.pow_add]
theorem end66 (N m : Nat) (x : Int) (l : List UInt8) : F66_66_0 fuel0 [] N (m + 1) x (-1) l = some (N, l) := by
 unfold F66_66_0
 rfl
theorem g66_4 (g : Nat) (hg : g < 18446744073709551616) : G66 (g : Int) 4 = some (be4 g) := by
 unfold G66 F66
 rw [show mkI 1 4 (0 : UInt8) = some [0, 0, 0, 0] from rfl]
 simp only [Option.bind_some]
 have h0 := p66 4 (fuel0 + 7) g 3 [0, 0, 0, 0] rfl (by decide) (by decide) hg
 have h1 := p66 4 (fuel0 + 6) (g / 256) 2 ([0, 0, 0, 0].set 3 (byt g 0)) rfl (by decide) (by decide) (by omega)
 have h2 := p66 4 (fuel0 + 5) (g / 256 / 256) 1 (([0, 0, 0, 0].set 3 (byt g 0)).set 2 (byt (g / 256) 0)) rfl (by decide) (by decide) (by omega)
 have h3 := p66 4 (fuel0 + 4) (g / 256 / 256 / 256) 0 ((([0, 0, 0, 0].set 3 (byt g 0)).set 2 (byt (g / 256) 0)).set 1 (byt (g / 256 / 256) 0)) rfl (by decide) (by decide) (by omega)
 have h4 := end66 4 (fuel0 + 3) ((g / 256 / 256 / 256 / 256 : Nat) : Int) (((([0, 0, 0, 0].set 3 (byt g 0)).set 2 (byt (g / 256) 0)).set 1 (byt (g / 256 / 256) 0)).set 0 (byt (g / 256 / 256 / 256) 0))
 have key := h0.trans (h1.trans (h2.trans (h3.trans h4)))
 have b1 : byt (g / 256) 0 = byt g 1 := by have := byt_div g 1 0; rwa [Nat.pow_one] at this
 have b2 : byt (g / 256 / 256) 0 = byt g 2 := by have := byt_div g 2 0; rw [Nat.div_div_eq_div_mul]; exact this
 have b3 : byt (g / 256 / 256 / 256) 0 = byt g 3 := by have := byt_div g 3 0; rw [Nat.div_div_eq_div_mul, Nat.div_div_eq_div_mul]; exact this
 refine Eq.trans (congrArg (fun z => Option.bind z _) key) ?_
 rw [b1, b2, b3]
 rfl
theorem g66_2 (g : Nat) (hg : g < 18446744073709551616) : G66 (g : Int) 2 = some (be2 g) := by
 unfold G66 F66
 rw [show mkI 1 2 (0 : UInt8) = some [0, 0] from rfl]
 simp only [Option.bind_some]
 have h0 := p66 2 (fuel0 + 7) g 1 [0, 0] rfl (by decide) (by decide) hg
 have h1 := p66 2 (fuel0 + 6) (g / 256) 0 ([0, 0].set 1 (byt g 0)) rfl (by decide) (by decide) (by omega)
 have h4 := end66 2 (fuel0 + 5) ((g / 256 / 256 : Nat) : Int) (([0, 0].set 1 (byt g 0)).set 0 (byt (g / 256) 0))
 have key := h0.trans (h1.trans h4)
 have b1 : byt (g / 256) 0 = byt g 1 := by have := byt_div g 1 0; rwa [Nat.pow_one] at this
 refine Eq.trans (congrArg (fun z => Option.bind z _) key) ?_
 rw [b1]
 rfl
def kindC (f e : Bool) : Nat := (if f = true then 1 else 0) + (if e = true then 2 else 0)
theorem g47 (g k : Nat) (f e : Bool) (b : List UInt8) (hg : g < 18446744073709551616) (hk : k < 9223372036854775808) (hb : b.length <= 112) : G47 (g : Int) (k : Int) f e b = some (enc g k (kindC f e) b) := by
 have a1 : ∀ c : UInt8, (appI 1 (be2 k) [c, UInt8.ofNat (Int.toNat (b.length : Int))]) = some (be2 k ++ [c, UInt8.ofNat b.length]) := fun c => by
  rw [Int.toNat_natCast]; exact appI_some _ _ _ (by rw [lim]; simp [be2])
 have a2 : ∀ c : UInt8, (appI 1 (be2 k ++ [c, UInt8.ofNat b.length]) b) = some (be2 k ++ [c, UInt8.ofNat b.length] ++ b) := fun c => appI_some _ _ _ (by rw [lim]; simp [be2]; omega)
 have a3 : ∀ c : UInt8, appZ 1 (be2 k ++ [c, UInt8.ofNat b.length] ++ b) (112 - (b.length : Int)) (0 : UInt8) = some (be2 k ++ [c, UInt8.ofNat b.length] ++ (b ++ List.replicate (112 - b.length) 0)) := fun c => by
  unfold appZ
  rw [lim, decide_eq_true (show (0 : Int) <= 112 - (b.length : Int) by omega), decide_eq_true (show (112 - (b.length : Int)) * ((1 : Nat) : Int) <= ((140737488355328 : Nat) : Int) by omega), decide_eq_true (show (112 - (b.length : Int)) <= ((140737488355328 : Nat) : Int) by omega), decide_eq_true (by simp [be2]; omega)]
  rw [show (112 - (b.length : Int)).toNat = 112 - b.length by omega]
  simp
 have hw : wr .u8 (b.length : Int) = (b.length : Int) := wr8 (by omega) (by omega)
 have hw2 : wr .i64 (112 - (b.length : Int)) = 112 - (b.length : Int) := wr64 (by omega) (by omega)
 have hw3 : wr .u64 (k : Int) = (k : Int) := wru64 (by omega) (by omega)
 have d1 : decide ((0 : Int) <= (b.length : Int)) = true := decide_eq_true (by omega)
 have d2 : decide ((b.length : Int) < 256) = true := decide_eq_true (by omega)
 have hbody : ∀ c : Nat, (be2 k ++ [UInt8.ofNat c, UInt8.ofNat b.length] ++ (b ++ List.replicate (112 - b.length) 0)) = body k c b := fun c => rfl
 have h67 : ∀ c : Nat, G67 (body k c b) = some (crc (body k c b) : Int) := fun c => g67 _ (by rw [body_len hb]; omega)
 have hc : ∀ c : Nat, crc (body k c b) < 4294967296 := fun c => xor_lt (by decide) (crcA_lt _ (by decide))
 have hw4 : ∀ c : Nat, wr .u64 (crc (body k c b) : Int) = (crc (body k c b) : Int) := fun c => wru64 (by omega) (by have := hc c; omega)
 have a4 : ∀ x : Nat, appI 1 (be4 g) (be4 x) = some (be4 g ++ be4 x) := fun x => appI_some _ _ _ (by rw [lim]; simp [be4])
 have a5 : ∀ x c : Nat, appI 1 (be4 g ++ be4 x) (body k c b) = some (be4 g ++ be4 x ++ body k c b) := fun x c => appI_some _ _ _ (by rw [lim, body_len hb]; simp [be4])
 have a6 : ∀ x c : Nat, appI 1 (be4 g ++ be4 x ++ body k c b) (be4 g) = some (be4 g ++ be4 x ++ body k c b ++ be4 g) := fun x c => appI_some _ _ _ (by rw [lim, List.length_append, body_len hb]; simp [be4])
 unfold G47 F47
 rw [hw, hw2, hw3, d1, d2, g66_2 k (by omega), g66_4 g hg]
 have fin : ∀ c : Nat, (Option.bind (appI 1 (be2 k) [UInt8.ofNat c, UInt8.ofNat (Int.toNat (b.length : Int))]) fun y4 => Option.bind (appI 1 y4 b) fun y5 => Option.bind (appZ 1 y5 (112 - (b.length : Int)) (0 : UInt8)) fun y6 => Option.bind (some (be4 g)) fun y7 => Option.bind (G67 y6) fun y8 => Option.bind (G66 (wr .u64 (y8)) 4) fun y9 => Option.bind (appI 1 y7 y9) fun y10 => Option.bind (appI 1 y10 y6) fun y11 => Option.bind (some (be4 g)) fun y12 => Option.bind (appI 1 y11 y12) fun y13 => some y13) = some (enc g k c b) := fun c => by
  rw [a1]; simp only [Option.bind_some]
  rw [a2]; simp only [Option.bind_some]
  rw [a3]; simp only [Option.bind_some]
  rw [hbody, h67]; simp only [Option.bind_some]
  rw [hw4, g66_4 _ (by have := hc c; omega)]; simp only [Option.bind_some]
  rw [a4]; simp only [Option.bind_some]
  rw [a5]; simp only [Option.bind_some]
  rw [a6]; rfl
 cases f <;> cases e
 ·exact fin 0
 ·exact fin 2
 ·exact fin 1
 ·exact fin 3
def gmax (a : Nat) (l : List (List UInt8)) : Nat := l.foldl (fun n b => max (max n (genOf b)) (num (b.drop 124))) a
theorem gen_lt {b : List UInt8} (hb : b.length = 128) : genOf b < 4294967296 := num_lt4 (by rw [List.length_take]; omega)
theorem tail_lt {b : List UInt8} (hb : b.length = 128) : num (b.drop 124) < 4294967296 := num_lt4 (by rw [List.length_drop]; omega)
theorem gmax_lt : ∀ (l : List (List UInt8)) (a : Nat), (∀ b ∈ l, b.length = 128) -> a < 4294967296 -> gmax a l < 4294967296
 | [], a, _, h => h
 | b :: l, a, hl, h => by
  have h1 := gen_lt (hl b (by simp)); have h2 := tail_lt (hl b (by simp))
  exact gmax_lt l (max (max a (genOf b)) (num (b.drop 124))) (fun c hc => hl c (by simp [hc])) (by omega)
theorem sub124 {b : List UInt8} (hb : b.length = 128) : subI b 124 (b.length : Int) = some (b.drop 124) := (subI_at b 124 b.length (by omega) (by omega)).trans (congrArg some (List.take_of_length_le (by simp)))
theorem tail41 {b : List UInt8} (hb : b.length = 128) : G41 (b.drop 124) = some (num (b.drop 124) : Int) := g41 _ (by rw [List.length_drop]; omega)
theorem tail63 {b : List UInt8} (hb : b.length = 128) : G63 (b.drop 124) = some (num (b.drop 124) : Int) := g63 _ (by rw [List.length_drop]; omega)
theorem f210 (S : List (List UInt8)) (hs : secs S) (v13 : Int) (j : S_Journal) (d : S_Disk) (v20 : List (List UInt8)) (v21 v22 : Int) (v23 : List (List UInt8)) (v24 : List S_Write) (v25 : Int) (v26 : Bool) (v27 : S_Journal) : ∀ (k i a m : Nat), k + i = S.length -> k + 1 <= m -> a < 4294967296 -> F21_21_0 fuel0 v13 S (S.length : Int) j d v20 v21 v22 v23 v24 v25 v26 v27 m ((a + 1 : Nat) : Int) (i : Int) = some ((gmax a (S.drop i) + 1 : Nat) : Int)
 | _, i, a, 0, _, hm, _ => by omega
 | 0, i, a, m + 1, hk, hm, ha => by
  unfold F21_21_0
  rw [decide_eq_false (show ¬ (i : Int) < (S.length : Int) by omega), List.drop_eq_nil_of_le (by omega)]
  rfl
 | k + 1, i, a, m + 1, hk, hm, ha => by
  have hi : i < S.length := by omega
  have hl := hs.2
  have hb := secs_get hs hi
  have h1 := gen_lt hb; have h2 := tail_lt hb
  unfold F21_21_0
  rw [decide_eq_true (show (i : Int) < (S.length : Int) by omega), getI_sec hi]
  simp only [cond_true, Option.bind_some]
  rw [sub04 hb]; simp only [Option.bind_some]
  rw [gen41]; simp only [Option.bind_some]
  rw [sub124 hb]; simp only [Option.bind_some]
  rw [tail41 hb]; simp only [Option.bind_some]
  rw [wru64 (n := (genOf (S.getD i []) : Int) + 1) (by omega) (by omega), wru64 (n := (num ((S.getD i []).drop 124) : Int) + 1) (by omega) (by omega), wr64 (by omega) (by omega)]
  have e : (if (if ((a + 1 : Nat) : Int) < (genOf (S.getD i []) : Int) + 1 then (genOf (S.getD i []) : Int) + 1 else ((a + 1 : Nat) : Int)) < (num ((S.getD i []).drop 124) : Int) + 1 then (num ((S.getD i []).drop 124) : Int) + 1 else (if ((a + 1 : Nat) : Int) < (genOf (S.getD i []) : Int) + 1 then (genOf (S.getD i []) : Int) + 1 else ((a + 1 : Nat) : Int))) = ((max (max a (genOf (S.getD i []))) (num ((S.getD i []).drop 124)) + 1 : Nat) : Int) := by
   split <;> split <;> omega
  rw [e, show (i : Int) + 1 = ((i + 1 : Nat) : Int) by omega, f210 S hs v13 j d v20 v21 v22 v23 v24 v25 v26 v27 k (i + 1) _ m (by omega) (by omega) (by omega)]
  rw [List.drop_eq_getElem_cons hi, <- getD_at hi]
  rfl
theorem f45 (S : List (List UInt8)) (hs : secs S) (v : Int) : ∀ (k i a m : Nat), k + i = S.length -> k + 1 <= m -> a < 4294967296 -> F45_45_0 fuel0 S v m (a : Int) (i : Int) = some (gmax a (S.drop i) : Int)
 | _, i, a, 0, _, hm, _ => by omega
 | 0, i, a, m + 1, hk, hm, ha => by
  unfold F45_45_0
  rw [decide_eq_false (show ¬ (i : Int) < (S.length : Int) by omega), List.drop_eq_nil_of_le (by omega)]
  rfl
 | k + 1, i, a, m + 1, hk, hm, ha => by
  have hi : i < S.length := by omega
  have hl := hs.2
  have hb := secs_get hs hi
  have h1 := gen_lt hb; have h2 := tail_lt hb
  unfold F45_45_0
  rw [decide_eq_true (show (i : Int) < (S.length : Int) by omega), getI_sec hi]
  simp only [cond_true, Option.bind_some]
  rw [sub04 hb]; simp only [Option.bind_some]
  rw [gen63]; simp only [Option.bind_some]
  rw [sub124 hb]; simp only [Option.bind_some]
  rw [tail63 hb]; simp only [Option.bind_some]
  rw [wr64 (by omega) (by omega)]
  have e : (if (if (a : Int) < (genOf (S.getD i []) : Int) then (genOf (S.getD i []) : Int) else (a : Int)) < (num ((S.getD i []).drop 124) : Int) then (num ((S.getD i []).drop 124) : Int) else (if (a : Int) < (genOf (S.getD i []) : Int) then (genOf (S.getD i []) : Int) else (a : Int))) = ((max (max a (genOf (S.getD i []))) (num ((S.getD i []).drop 124)) : Nat) : Int) := by
   split <;> split <;> omega
  rw [e, show (i : Int) + 1 = ((i + 1 : Nat) : Int) by omega, f45 S hs v k (i + 1) _ m (by omega) (by omega) (by omega)]
  rw [List.drop_eq_getElem_cons hi, <- getD_at hi]
  rfl
theorem g45 (S : List (List UInt8)) (hs : secs S) : G45 S = some ((gmax 0 S + 1 : Nat) : Int) := by
 unfold G45 F45
 have h := f45 S hs 0 S.length 0 0 (fuel0 + 8) (by omega) (by have := fu; have := hs.2; omega) (by decide)
 rw [List.drop_zero] at h
 have hg := gmax_lt S 0 hs.1 (by decide)
 refine Eq.trans (congrArg (fun z => Option.bind z _) h) ?_
 show some (wr .u64 ((gmax 0 S : Int) + 1)) = _
 rw [wru64 (by omega) (by omega)]
 rfl
end Go.Proofs.Ytobjniabioaefaa
