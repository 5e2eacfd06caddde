/-
 Layer 05, in plain Lean: a sector, written.
-/
import Derived.Test.YtobjniabioaefaaQ1
namespace Go.Proofs.Ytobjniabioaefaa
set_option linter.unusedVariables false
set_option linter.unusedSimpArgs false
set_option maxRecDepth 100000
set_option maxHeartbeats 4000000
def byt (g i : Nat) : UInt8 := UInt8.ofNat (g / 256 ^ i % 256)
def be4 (g : Nat) : List UInt8 := [byt g 3, byt g 2, byt g 1, byt g 0]
def be2 (g : Nat) : List UInt8 := [byt g 1, byt g 0]
theorem shr_byt (g i : Nat) (hi : i <= 7) : wr .u8 (shrI .u64 (g : Int) (8 * (i : Int))) = ((g / 256 ^ i % 256 : Nat) : Int) := by
 rw [wru8]
 unfold shrI
 have e : (2 : Int) ^ (8 * i) = ((256 ^ i : Nat) : Int) := by rw [show (256 : Nat) = 2 ^ 8 from rfl, <- Nat.pow_mul]; push_cast; rfl
 rw [show (8 * (i : Int)).toNat = 8 * i by omega, Nat.min_eq_left (by show 8 * i <= 64; omega), e, Int.fdiv_eq_ediv_of_nonneg _ (Int.natCast_nonneg _)]
 norm_cast
theorem modI_at {T : Type} {l : List T} {i : Nat} (h : i < l.length) (x : T) : modI l i (fun _ => x) = some (l.set i x) := by
 unfold modI
 rw [List.getElem?_eq_getElem h]
theorem idxN_at {N : Nat} {a : Int} {i : Nat} (h : a = i) (h1 : i < N) : idxN N a = some i := by
 unfold idxN
 rw [h, decide_eq_true (show (0 : Int) <= i by omega), decide_eq_true (show (i : Int) < N by omega)]
 rfl
theorem bytof (x : Nat) : UInt8.ofNat (Int.toNat ((x : Nat) : Int)) = UInt8.ofNat x := by rw [Int.toNat_natCast]
theorem p44 (n g m i : Nat) (l : List UInt8) (hl : l.length = 128) (hi : i < 4) : F44_64_0 n (g : Int) 4 (m + 1) (i : Int) l = F44_64_0 n (g : Int) 4 m ((i + 1 : Nat) : Int) (l.set (3 - i) (byt g i)) := by
 have hb : g / 256 ^ i % 256 < 256 := Nat.mod_lt _ (by decide)
 conv => lhs; unfold F44_64_0
 rw [decide_eq_true (show (i : Int) < 4 by omega), wr64 (n := 8 * (i : Int)) (by omega) (by omega), decide_eq_true (show (0 : Int) <= 8 * (i : Int) by omega), wr64 (n := 3 - (i : Int)) (by omega) (by omega), idxN_at (i := 3 - i) (by omega) (by omega), shr_byt _ _ (by omega), decide_eq_true (show (0 : Int) <= ((g / 256 ^ i % 256 : Nat) : Int) by omega), decide_eq_true (show ((g / 256 ^ i % 256 : Nat) : Int) < 256 by omega)]
 simp only [cond_true, Option.bind_some, Bool.and_self]
 rw [bytof, modI_at (by omega), Option.bind_some, wr64 (by omega) (by omega), show (i : Int) + 1 = ((i + 1 : Nat) : Int) by omega]
 rfl
theorem q44 (g : Nat) (l : List UInt8) (hl : l.length = 128) : F44_64_0 fuel0 (g : Int) 4 (fuel0 + 7) 0 l = some ((((l.set 3 (byt g 0)).set 2 (byt g 1)).set 1 (byt g 2)).set 0 (byt g 3)) := by
 refine (p44 fuel0 g (fuel0 + 6) 0 l hl (by decide)).trans ?_
 refine (p44 fuel0 g (fuel0 + 5) 1 _ (by simp [hl]) (by decide)).trans ?_
 refine (p44 fuel0 g (fuel0 + 4) 2 _ (by simp [hl]) (by decide)).trans ?_
 refine (p44 fuel0 g (fuel0 + 3) 3 _ (by simp [hl]) (by decide)).trans ?_
 show F44_64_0 fuel0 (g : Int) 4 (fuel0 + 2 + 1) 4 _ = _
 unfold F44_64_0
 rw [decide_eq_false (by decide)]
 rfl
theorem p44a (n g m i : Nat) (l : List UInt8) (hl : l.length = 128) (hi : i < 2) : F44_64_0a n (g : Int) 2 (m + 1) (i : Int) l = F44_64_0a n (g : Int) 2 m ((i + 1 : Nat) : Int) (l.set (8 + (1 - i)) (byt g i)) := by
 have hb : g / 256 ^ i % 256 < 256 := Nat.mod_lt _ (by decide)
 conv => lhs; unfold F44_64_0a
 rw [decide_eq_true (show (i : Int) < 2 by omega), wr64 (n := 8 * (i : Int)) (by omega) (by omega), decide_eq_true (show (0 : Int) <= 8 * (i : Int) by omega), wr64 (n := 1 - (i : Int)) (by omega) (by omega), idxN_at (i := 1 - i) (by omega) (by omega), shr_byt _ _ (by omega), decide_eq_true (show (0 : Int) <= ((g / 256 ^ i % 256 : Nat) : Int) by omega), decide_eq_true (show ((g / 256 ^ i % 256 : Nat) : Int) < 256 by omega)]
 simp only [cond_true, Option.bind_some, Bool.and_self]
 rw [bytof, modI_at (by omega), Option.bind_some, wr64 (by omega) (by omega), show (i : Int) + 1 = ((i + 1 : Nat) : Int) by omega]
 rfl
theorem q44a (g : Nat) (l : List UInt8) (hl : l.length = 128) : F44_64_0a fuel0 (g : Int) 2 (fuel0 + 7) 0 l = some ((l.set 9 (byt g 0)).set 8 (byt g 1)) := by
 refine (p44a fuel0 g (fuel0 + 6) 0 l hl (by decide)).trans ?_
 refine (p44a fuel0 g (fuel0 + 5) 1 _ (by simp [hl]) (by decide)).trans ?_
 show F44_64_0a fuel0 (g : Int) 2 (fuel0 + 4 + 1) 2 _ = _
 unfold F44_64_0a
 rw [decide_eq_false (by decide)]
 rfl
theorem p44b (n g m i : Nat) (l : List UInt8) (hl : l.length = 128) (hi : i < 4) : F44_64_0b n (g : Int) 4 (m + 1) (i : Int) l = F44_64_0b n (g : Int) 4 m ((i + 1 : Nat) : Int) (l.set (124 + (3 - i)) (byt g i)) := by
 have hb : g / 256 ^ i % 256 < 256 := Nat.mod_lt _ (by decide)
 conv => lhs; unfold F44_64_0b
 rw [decide_eq_true (show (i : Int) < 4 by omega), wr64 (n := 8 * (i : Int)) (by omega) (by omega), decide_eq_true (show (0 : Int) <= 8 * (i : Int) by omega), wr64 (n := 3 - (i : Int)) (by omega) (by omega), idxN_at (i := 3 - i) (by omega) (by omega), shr_byt _ _ (by omega), decide_eq_true (show (0 : Int) <= ((g / 256 ^ i % 256 : Nat) : Int) by omega), decide_eq_true (show ((g / 256 ^ i % 256 : Nat) : Int) < 256 by omega)]
 simp only [cond_true, Option.bind_some, Bool.and_self]
 rw [bytof, modI_at (by omega), Option.bind_some, wr64 (by omega) (by omega), show (i : Int) + 1 = ((i + 1 : Nat) : Int) by omega]
 rfl
theorem q44b (g : Nat) (l : List UInt8) (hl : l.length = 128) : F44_64_0b fuel0 (g : Int) 4 (fuel0 + 7) 0 l = some ((((l.set 127 (byt g 0)).set 126 (byt g 1)).set 125 (byt g 2)).set 124 (byt g 3)) := by
 refine (p44b fuel0 g (fuel0 + 6) 0 l hl (by decide)).trans ?_
 refine (p44b fuel0 g (fuel0 + 5) 1 _ (by simp [hl]) (by decide)).trans ?_
 refine (p44b fuel0 g (fuel0 + 4) 2 _ (by simp [hl]) (by decide)).trans ?_
 refine (p44b fuel0 g (fuel0 + 3) 3 _ (by simp [hl]) (by decide)).trans ?_
 show F44_64_0b fuel0 (g : Int) 4 (fuel0 + 2 + 1) 4 _ = _
 unfold F44_64_0b
 rw [decide_eq_false (by decide)]
 rfl
theorem p44c (n g m i : Nat) (l : List UInt8) (hl : l.length = 128) (hi : i < 4) : F44_64_0c n (g : Int) 4 (m + 1) (i : Int) l = F44_64_0c n (g : Int) 4 m ((i + 1 : Nat) : Int) (l.set (4 + (3 - i)) (byt g i)) := by
 have hb : g / 256 ^ i % 256 < 256 := Nat.mod_lt _ (by decide)
 conv => lhs; unfold F44_64_0c
 rw [decide_eq_true (show (i : Int) < 4 by omega), wr64 (n := 8 * (i : Int)) (by omega) (by omega), decide_eq_true (show (0 : Int) <= 8 * (i : Int) by omega), wr64 (n := 3 - (i : Int)) (by omega) (by omega), idxN_at (i := 3 - i) (by omega) (by omega), shr_byt _ _ (by omega), decide_eq_true (show (0 : Int) <= ((g / 256 ^ i % 256 : Nat) : Int) by omega), decide_eq_true (show ((g / 256 ^ i % 256 : Nat) : Int) < 256 by omega)]
 simp only [cond_true, Option.bind_some, Bool.and_self]
 rw [bytof, modI_at (by omega), Option.bind_some, wr64 (by omega) (by omega), show (i : Int) + 1 = ((i + 1 : Nat) : Int) by omega]
 rfl
theorem q44c (g : Nat) (l : List UInt8) (hl : l.length = 128) : F44_64_0c fuel0 (g : Int) 4 (fuel0 + 7) 0 l = some ((((l.set 7 (byt g 0)).set 6 (byt g 1)).set 5 (byt g 2)).set 4 (byt g 3)) := by
 refine (p44c fuel0 g (fuel0 + 6) 0 l hl (by decide)).trans ?_
 refine (p44c fuel0 g (fuel0 + 5) 1 _ (by simp [hl]) (by decide)).trans ?_
 refine (p44c fuel0 g (fuel0 + 4) 2 _ (by simp [hl]) (by decide)).trans ?_
 refine (p44c fuel0 g (fuel0 + 3) 3 _ (by simp [hl]) (by decide)).trans ?_
 show F44_64_0c fuel0 (g : Int) 4 (fuel0 + 2 + 1) 4 _ = _
 unfold F44_64_0c
 rw [decide_eq_false (by decide)]
 rfl
def body (k c : Nat) (b : List UInt8) : List UInt8 := be2 k ++ [UInt8.ofNat c, UInt8.ofNat b.length] ++ (b ++ List.replicate (112 - b.length) 0)
def enc (g k c : Nat) (b : List UInt8) : List UInt8 := be4 g ++ be4 (crc (body k c b)) ++ body k c b ++ be4 g
theorem be4_len (g : Nat) : (be4 g).length = 4 := rfl
theorem body_len {k c : Nat} {b : List UInt8} (h : b.length <= 112) : (body k c b).length = 116 := by
 unfold body be2
 simp
 omega
theorem enc_len {g k c : Nat} {b : List UInt8} (h : b.length <= 112) : (enc g k c b).length = 128 := by
 unfold enc
 simp only [List.length_append, be4_len, body_len h]
theorem f65 (l B : List UInt8) (hB : B.length = 116) (h : ∀ i, i < 116 -> l[8 + i]? = B[i]?) : ∀ (k i acc m : Nat), k + i = 116 -> k + 1 <= m -> acc < 4294967296 -> F44_65_0 fuel0 0 116 l m (acc : Int) (i : Int) = some (crcA acc (B.drop i) : Int)
 | _, i, acc, 0, _, hm, _ => by omega
 | 0, i, acc, m + 1, hk, hm, ha => by
  unfold F44_65_0
  rw [decide_eq_false (show ¬ (i : Int) < 116 by omega), List.drop_eq_nil_of_le (by omega)]
  rfl
 | k + 1, i, acc, m + 1, hk, hm, ha => by
  have hi : i < B.length := by omega
  have hc := u8lt B[i]
  unfold F44_65_0
  rw [decide_eq_true (show (i : Int) < 116 by omega), idxN_at (i := i) rfl (by omega)]
  simp only [cond_true, Option.bind_some]
  rw [h i (by omega), List.getElem?_eq_getElem hi]
  simp only [Option.bind_some]
  rw [wru32 (by omega) (by omega), xorI_nat ha (by omega)]
  have h1 := l65_1 fuel0 0 116 (i : Int) l (fuel0 - 2) (xor_lt ha (show B[i].toNat < 4294967296 by omega))
  rw [show fuel0 - 2 + 9 = fuel0 + 7 from rfl] at h1
  refine Eq.trans (congrArg (fun z => Option.bind z _) h1) ?_
  show F44_65_0 fuel0 0 116 l m (crcB acc B[i] : Int) _ = _
  rw [wr64 (by omega) (by omega), show ((i : Int) + 1) = ((i + 1 : Nat) : Int) by omega]
  rw [f65 l B hB h k (i + 1) _ m (by omega) (by omega) (crcB_lt ha _), List.drop_eq_getElem_cons hi]
  rfl
theorem set_tail {A D : List UInt8} (hA : A.length = 12) (hD : D.length = 112) (T : List UInt8) (j : Nat) (x : UInt8) : (A ++ D ++ T).set (124 + j) x = A ++ D ++ T.set j x := by
 rw [List.set_append_right _ _ (by simp; omega)]
 congr 2
 simp; omega
theorem set_head {A : List UInt8} (X : List UInt8) (i : Nat) (x : UInt8) (h : i < A.length) : (A ++ X).set i x = A.set i x ++ X := List.set_append_left _ _ h
def pad112 (b : List UInt8) : List UInt8 := b ++ List.replicate (112 - b.length) 0
theorem pad112_len {b : List UInt8} (h : b.length <= 112) : (pad112 b).length = 112 := by unfold pad112; simp; omega
theorem copy12 {A b : List UInt8} (hA : A.length = 12) (h : b.length <= 112) : copyI (A ++ List.replicate 116 (0 : UInt8)) 12 116 b = A ++ pad112 b ++ [0, 0, 0, 0] := by
 unfold copyI splice pad112
 rw [List.take_of_length_le (by omega : b.length <= 116), List.take_append_of_le_length (by omega), List.take_of_length_le (by omega), List.drop_append, List.drop_eq_nil_of_le (by omega : A.length <= _), List.drop_replicate, hA]
 rw [show 116 - (12 + b.length - 12) = (112 - b.length) + 4 by omega, <- List.replicate_append_replicate]
 simp
theorem len128 (L : List UInt8) (h : L.length = 128) : decide (128 <= L.length) = true := by rw [h]; rfl
theorem c10 (L : List UInt8) (h : L.length = 128) : (decide (0 <= 10) && decide (10 < 128) && decide ((10 : Int) < (L.length : Int))) = true := by rw [h]; rfl
theorem c11 (L : List UInt8) (h : L.length = 128) : (decide (0 <= 11) && decide (11 < 128) && decide ((11 : Int) < (L.length : Int))) = true := by rw [h]; rfl
theorem g44 (g k c : Nat) (b : List UInt8) (hg : g < 18446744073709551616) (hk : k < 18446744073709551616) (hc : c < 256) (hb : b.length <= 112) : G44 (g : Int) (k : Int) (c : Int) b = some (enc g k c b) := by
 unfold G44 F44
 rw [decide_eq_true (show 128 <= (List.replicate 128 (0 : UInt8)).length by simp), cond_true, q44 g _ (by simp), Option.bind_some]
 rw [show ((((List.replicate 128 (0 : UInt8)).set 3 (byt g 0)).set 2 (byt g 1)).set 1 (byt g 2)).set 0 (byt g 3) = be4 g ++ List.replicate 124 0 from rfl]
 try simp only []
 rw [len128 _ (by simp [be4]), cond_true, wru64 (n := (k : Int)) (by omega) (by omega), q44a k _ (by simp [be4]), Option.bind_some]
 rw [show List.set (List.set (be4 g ++ List.replicate 124 (0 : UInt8) : List UInt8) 9 (byt k 0)) 8 (byt k 1) = be4 g ++ [0, 0, 0, 0] ++ be2 k ++ List.replicate 118 0 from rfl]
 try simp only []
 rw [c10 _ (by simp [be4, be2]), cond_true]
 rw [decide_eq_true (show (0 : Int) <= (c : Int) by omega), decide_eq_true (show (c : Int) < 256 by omega), Bool.and_self, cond_true, show Int.toNat 10 = 10 from rfl, bytof, modI_at (by simp [be4, be2]), Option.bind_some]
 rw [show List.set (be4 g ++ [0, 0, 0, 0] ++ be2 k ++ List.replicate 118 (0 : UInt8) : List UInt8) 10 (UInt8.ofNat c) = be4 g ++ [0, 0, 0, 0] ++ be2 k ++ [UInt8.ofNat c] ++ List.replicate 117 0 from rfl]
 rw [c11 _ (by simp [be4, be2]), cond_true]
 rw [wr8 (n := (b.length : Int)) (by omega) (by omega), decide_eq_true (show (0 : Int) <= (b.length : Int) by omega), decide_eq_true (show (b.length : Int) < 256 by omega), Bool.and_self, cond_true, show Int.toNat 11 = 11 from rfl, bytof, modI_at (by simp [be4, be2]), Option.bind_some]
 rw [show List.set (be4 g ++ [0, 0, 0, 0] ++ be2 k ++ [UInt8.ofNat c] ++ List.replicate 117 (0 : UInt8) : List UInt8) 11 (UInt8.ofNat b.length) = (be4 g ++ [0, 0, 0, 0] ++ be2 k ++ [UInt8.ofNat c, UInt8.ofNat b.length]) ++ List.replicate 116 0 from rfl]
 rw [copy12 (by simp [be4, be2]) hb]
 have hp := pad112_len hb
 have hA : (be4 g ++ [0, 0, 0, 0] ++ be2 k ++ [UInt8.ofNat c, UInt8.ofNat b.length]).length = 12 := rfl
 rw [len128 _ (by rw [List.length_append, hA]; rfl), cond_true]
 generalize hAe : be4 g ++ [0, 0, 0, 0] ++ be2 k ++ [UInt8.ofNat c, UInt8.ofNat b.length] = A at hA ⊢
 rw [len128 _ (by simp only [List.length_append, hA, hp]; rfl), cond_true, q44b g _ (by simp only [List.length_append, hA, hp]; rfl), Option.bind_some]
 have e4 : ((((A ++ pad112 b ++ [0, 0, 0, 0]).set 127 (byt g 0)).set 126 (byt g 1)).set 125 (byt g 2)).set 124 (byt g 3) = A ++ pad112 b ++ be4 g := by
  rw [set_tail hA hp _ 3, set_tail hA hp _ 2, set_tail hA hp _ 1, set_tail hA hp _ 0]
  rfl
 rw [e4]
 try simp only []
 rw [len128 _ (by simp only [List.length_append, hA, hp]; rfl), cond_true, cond_true]
 have hbl := body_len (k := k) (c := c) hb
 have hAb : A ++ pad112 b = be4 g ++ [0, 0, 0, 0] ++ body k c b := by
  rw [<- hAe]; unfold body pad112; simp only [List.append_assoc]; try rfl
 have hcrc := f65 (A ++ pad112 b ++ be4 g) (body k c b) hbl (by
  intro i hi
  rw [hAb, List.append_assoc, List.getElem?_append_right (by simp [be4]), List.getElem?_append_left (by rw [hbl]; simp [be4]; try omega)]
  congr 1
  try simp [be4]) 116 0 4294967295 (fuel0 + 7) (by omega) (by have := fu; omega) (by decide)
 rw [List.drop_zero] at hcrc
 rw [show (4294967295 : Int) = ((4294967295 : Nat) : Int) from rfl]
 refine Eq.trans (congrArg (fun z => Option.bind (Option.bind z _) _) hcrc) ?_
 simp only [Option.bind_some]
 rw [xorI_nat (by decide) (crcA_lt _ (by decide)), wru64 (by omega) (by have := xor_lt (show 4294967295 < 4294967296 by decide) (crcA_lt (body k c b) (show 4294967295 < 4294967296 by decide)); omega)]
 rw [q44c _ _ (by simp only [List.length_append, hA, hp]; rfl), Option.bind_some]
 try simp only []
 have e5 : ∀ x : Nat, ((((A ++ pad112 b ++ be4 g).set 7 (byt x 0)).set 6 (byt x 1)).set 5 (byt x 2)).set 4 (byt x 3) = be4 g ++ be4 x ++ body k c b ++ be4 g := by
  intro x
  rw [hAb, List.append_assoc, set_head _ _ _ (by simp [be4]), set_head _ _ _ (by simp [be4]), set_head _ _ _ (by simp [be4]), set_head _ _ _ (by simp [be4]), <- List.append_assoc]
  rfl
 rw [e5]
 have hl : (be4 g ++ be4 (4294967295 ^^^ crcA 4294967295 (body k c b)) ++ body k c b ++ be4 g).length = 128 := enc_len hb
 rw [len128 _ hl, cond_true, List.drop_zero, List.take_of_length_le (by omega)]
 rfl
end Go.Proofs.Ytobjniabioaefaa
