/-
 Layer 05, in plain Lean: when a sector has the right form.
-/
import Derived.Test.YtobjniabioaefaaQ2
import Derived.Test.YtobjniabioaefaaQd
import Derived.Laws.Strings
namespace Go.Proofs.Ytobjniabioaefaa
set_option linter.unusedVariables false
set_option linter.unusedSimpArgs false
set_option maxRecDepth 100000
set_option maxHeartbeats 4000000
theorem byt_of {n i : Nat} {c : UInt8} (h : n / 256 ^ i % 256 = c.toNat) : byt n i = c := by
 unfold byt
 rw [h]
 exact UInt8.ofNat_toNat
theorem byt_nat (g i : Nat) : (byt g i).toNat = g / 256 ^ i % 256 := by
 unfold byt
 rw [UInt8.toNat_ofNat']
 exact Nat.mod_eq_of_lt (Nat.mod_lt _ (by decide))
theorem num4 (a b c d : UInt8) : num [a, b, c, d] = 256 * (256 * (256 * a.toNat + b.toNat) + c.toNat) + d.toNat := by
 show 256 * (256 * (256 * (256 * 0 + a.toNat) + b.toNat) + c.toNat) + d.toNat = _
 omega
theorem num2 (a b : UInt8) : num [a, b] = 256 * a.toNat + b.toNat := by
 show 256 * (256 * 0 + a.toNat) + b.toNat = _
 omega
theorem len4 {A : List UInt8} (h : A.length = 4) : ∃ a b c d, A = [a, b, c, d] := by
 match A, h with | [a, b, c, d], _ => exact ⟨a, b, c, d, rfl⟩
theorem len2 {A : List UInt8} (h : A.length = 2) : ∃ a b, A = [a, b] := by
 match A, h with | [a, b], _ => exact ⟨a, b, rfl⟩
theorem num_lt4 {A : List UInt8} (h : A.length = 4) : num A < 4294967296 := by
 obtain ⟨a, b, c, d, rfl⟩ := len4 h
 rw [num4]
 have := u8lt a; have := u8lt b; have := u8lt c; have := u8lt d
 omega
theorem be4_num {A : List UInt8} (h : A.length = 4) : be4 (num A) = A := by
 obtain ⟨a, b, c, d, rfl⟩ := len4 h
 rw [num4]
 have := u8lt a; have := u8lt b; have := u8lt c; have := u8lt d
 unfold be4
 rw [byt_of (c := a) (i := 3) (by omega), byt_of (c := b) (i := 2) (by omega), byt_of (c := c) (i := 1) (by omega), byt_of (c := d) (i := 0) (by omega)]
theorem num_be4 {g : Nat} (h : g < 4294967296) : num (be4 g) = g := by
 unfold be4
 rw [num4, byt_nat, byt_nat, byt_nat, byt_nat]
 have : (256 : Nat) ^ 3 = 16777216 := by decide
 have : (256 : Nat) ^ 2 = 65536 := by decide
 omega
theorem be2_num {A : List UInt8} (h : A.length = 2) : be2 (num A) = A := by
 obtain ⟨a, b, rfl⟩ := len2 h
 rw [num2]
 have := u8lt a; have := u8lt b
 unfold be2
 rw [byt_of (c := a) (i := 1) (by omega), byt_of (c := b) (i := 0) (by omega)]
theorem num_be2 {g : Nat} (h : g < 65536) : num (be2 g) = g := by
 unfold be2
 rw [num2, byt_nat, byt_nat]
 omega
theorem be4_iff {A : List UInt8} (h : A.length = 4) {g : Nat} (hg : g < 4294967296) : A = be4 g ↔ num A = g :=
 ⟨fun e => by rw [e, num_be4 hg], fun e => by rw [<- e, be4_num h]⟩
theorem be2_iff {A : List UInt8} (h : A.length = 2) {g : Nat} (hg : g < 65536) : A = be2 g ↔ num A = g :=
 ⟨fun e => by rw [e, num_be2 hg], fun e => by rw [<- e, be2_num h]⟩
theorem subI_at {T : Type} (l : List T) (lo hi : Nat) (h : lo <= hi) (h2 : hi <= l.length) : subI l (lo : Int) (hi : Int) = some ((l.drop lo).take (hi - lo)) := by
 unfold subI
 rw [decide_eq_true (show (0 : Int) <= lo by omega), decide_eq_true (show (lo : Int) <= hi by omega), decide_eq_true (show (hi : Int) <= l.length by omega)]
 rfl
theorem getI_D (l : List UInt8) (i : Nat) (h : i < l.length) : getI l (i : Int) = some (l.getD i 0) := by
 rw [getI_nat, List.getElem?_eq_getElem h, List.getD_eq_getElem?_getD, List.getElem?_eq_getElem h]
 rfl
def kindOf (b : List UInt8) : Nat := (b.getD 10 0).toNat
def lenOf (b : List UInt8) : Nat := (b.getD 11 0).toNat
def genOf (b : List UInt8) : Nat := num (b.take 4)
def dataOf (b : List UInt8) : List UInt8 := (b.drop 12).take (lenOf b)
def form (c n : Nat) : Bool := decide (c <= 3) && decide (n <= 112) && (decide (2 <= c) || decide (n = 112)) && (decide (c % 2 = 1) || decide (n ≠ 0))
def goodB (b : List UInt8) (k : Nat) : Bool := decide (genOf b ≠ 0) && decide (genOf b = num (b.drop 124)) && decide (num ((b.drop 4).take 4) = crc ((b.drop 8).take 116)) && decide (num ((b.drop 8).take 2) = k) && form (kindOf b) (lenOf b) && ((b.drop (12 + lenOf b)).take (112 - lenOf b)).all (· == 0)
theorem natbeq (a b : Nat) : (((a : Int)) == (b : Int)) = decide (a = b) := by rw [Bool.eq_iff_iff]; simp; omega
theorem natbne (a b : Nat) : (((a : Int)) != (b : Int)) = !decide (a = b) := by unfold bne; rw [natbeq]
theorem strEq_b (a b : List UInt8) : strEq (bstr a) (bstr b) = decide (a = b) := by
 rw [Bool.eq_iff_iff]
 unfold strEq
 rw [ByteArray.toList_eq, ByteArray.toList_eq]
 simp [bstr]
theorem bits3 : ∀ c : Fin 256, (andI .u8 (c.val : Int) 1 == 0) = !decide (c.val % 2 = 1) /\ (andI .u8 (c.val : Int) 1 != 0) = decide (c.val % 2 = 1) /\ (c.val <= 3 -> (andI .u8 (c.val : Int) 2 == 0) = (!decide (2 <= c.val)) /\ (andI .u8 (c.val : Int) 2 != 0) = decide (2 <= c.val)) := by decide +kernel
theorem bit1 {c : Nat} (h : c < 256) : (andI .u8 (c : Int) 1 == 0) = !decide (c % 2 = 1) := (bits3 ⟨c, h⟩).1
theorem bit1n {c : Nat} (h : c < 256) : (andI .u8 (c : Int) 1 != 0) = decide (c % 2 = 1) := (bits3 ⟨c, h⟩).2.1
theorem bit2 {c : Nat} (h : c <= 3) : (andI .u8 (c : Int) 2 == 0) = !decide (2 <= c) := ((bits3 ⟨c, by omega⟩).2.2 h).1
theorem bit2n {c : Nat} (h : c <= 3) : (andI .u8 (c : Int) 2 != 0) = decide (2 <= c) := ((bits3 ⟨c, by omega⟩).2.2 h).2
theorem parts {b : List UInt8} (hb : b.length = 128) : b = b.take 4 ++ (b.drop 4).take 4 ++ (b.drop 8).take 116 ++ b.drop 124 := by
 have e1 : b.drop 8 = (b.drop 8).take 116 ++ b.drop 124 := by
  conv => lhs; rw [<- List.take_append_drop 116 (b.drop 8)]
  rw [List.drop_drop]
 have e2 : b.drop 4 = (b.drop 4).take 4 ++ b.drop 8 := by
  conv => lhs; rw [<- List.take_append_drop 4 (b.drop 4)]
  rw [List.drop_drop]
 conv => lhs; rw [<- List.take_append_drop 4 b, e2, e1]
 simp only [List.append_assoc]
theorem bodyParts {b : List UInt8} (hb : b.length = 128) : (b.drop 8).take 116 = (b.drop 8).take 2 ++ [b.getD 10 0, b.getD 11 0] ++ (b.drop 12).take 112 := by
 have e1 : (b.drop 8).take 116 = (b.drop 8).take 2 ++ (b.drop 10).take 114 := by
  rw [show 116 = 2 + 114 from rfl, List.take_add, List.drop_drop]
 have e2 : (b.drop 10).take 114 = b.getD 10 0 :: (b.drop 11).take 113 := by
  rw [List.drop_eq_getElem_cons (by omega : 10 < b.length), List.take_succ_cons, List.getD_eq_getElem?_getD, List.getElem?_eq_getElem (by omega)]
  rfl
 have e3 : (b.drop 11).take 113 = b.getD 11 0 :: (b.drop 12).take 112 := by
  rw [List.drop_eq_getElem_cons (by omega : 11 < b.length), List.take_succ_cons, List.getD_eq_getElem?_getD, List.getElem?_eq_getElem (by omega)]
  rfl
 rw [e1, e2, e3]
 simp
theorem all_zero : ∀ (l : List UInt8), (l.all (· == 0)) = true ↔ l = List.replicate l.length 0
 | [] => by simp
 | a :: l => by
  rw [List.all_cons, Bool.and_eq_true, all_zero l, List.length_cons, List.replicate_succ, List.cons.injEq, beq_iff_eq]
theorem ofD (c : UInt8) : UInt8.ofNat c.toNat = c := UInt8.ofNat_toNat
theorem enc_iff {b : List UInt8} {k : Nat} (hb : b.length = 128) (hk : k < 65536) (hn : lenOf b <= 112) :
  b = enc (genOf b) k (kindOf b) (dataOf b) ↔ (genOf b = num (b.drop 124) /\ num ((b.drop 4).take 4) = crc ((b.drop 8).take 116) /\ num ((b.drop 8).take 2) = k) /\ ((b.drop (12 + lenOf b)).take (112 - lenOf b)).all (· == 0) = true := by
 have ld : (dataOf b).length = lenOf b := by unfold dataOf; rw [List.length_take, List.length_drop]; omega
 have hg : genOf b < 4294967296 := num_lt4 (by rw [List.length_take]; omega)
 have hc : ∀ x : List UInt8, crc x < 4294967296 := fun x => xor_lt (by decide) (crcA_lt _ (by decide))
 have h112 : (b.drop 12).take 112 = dataOf b ++ (b.drop (12 + lenOf b)).take (112 - lenOf b) := by
  unfold dataOf
  rw [show 112 = lenOf b + (112 - lenOf b) by omega, List.take_add, List.drop_drop, show lenOf b + (112 - lenOf b) - lenOf b = 112 - lenOf b by omega]
 have hz : ((b.drop (12 + lenOf b)).take (112 - lenOf b)).length = 112 - lenOf b := by rw [List.length_take, List.length_drop]; omega
 have hbody : (b.drop 8).take 116 = body k (kindOf b) (dataOf b) ↔ num ((b.drop 8).take 2) = k /\ ((b.drop (12 + lenOf b)).take (112 - lenOf b)).all (· == 0) = true := by
  rw [bodyParts hb, h112, all_zero, hz]
  unfold body
  rw [ld, show UInt8.ofNat (kindOf b) = b.getD 10 0 from ofD _, show UInt8.ofNat (lenOf b) = b.getD 11 0 from ofD _]
  have l2 : ((b.drop 8).take 2).length = (be2 k).length := by rw [List.length_take, List.length_drop]; show _ = 2; omega
  rw [<- be2_iff (by rw [l2]; rfl) hk]
  constructor
  ·intro h
   rw [List.append_assoc, List.append_assoc] at h
   have h1 := List.append_inj h l2
   refine ⟨h1.1, ?_⟩
   have h2 := (List.append_inj h1.2 rfl).2
   exact (List.append_inj h2 rfl).2
  ·intro h; rw [h.1, h.2]
 have hp := parts hb
 constructor
 ·intro h
  have h' := hp.symm.trans h
  unfold enc at h'
  rw [List.append_assoc, List.append_assoc, List.append_assoc, List.append_assoc] at h'
  have l4 : (b.take 4).length = 4 := by rw [List.length_take]; omega
  have l8 : ((b.drop 4).take 4).length = 4 := by rw [List.length_take, List.length_drop]; omega
  have h1 := List.append_inj h' (by rw [l4]; rfl)
  have h2 := List.append_inj h1.2 (by rw [l8]; rfl)
  have h3 := List.append_inj h2.2 (by rw [List.length_take, List.length_drop, body_len (by omega)]; omega)
  have h4 := hbody.1 h3.1
  refine ⟨⟨?_, ?_, h4.1⟩, h4.2⟩
  ·exact ((be4_iff (by rw [List.length_drop]; omega) hg).1 h3.2).symm
  ·rw [h3.1]; exact (be4_iff l8 (hc _)).1 h2.1
 ·intro h
  have hB := hbody.2 ⟨h.1.2.2, h.2⟩
  unfold enc
  rw [<- hB, <- h.1.2.1, be4_num (by rw [List.length_take, List.length_drop]; omega), show be4 (genOf b) = b.take 4 from be4_num (by rw [List.length_take]; omega)]
  have ht : b.take 4 = b.drop 124 := by
   rw [<- be4_num (A := b.take 4) (by rw [List.length_take]; omega), <- be4_num (A := b.drop 124) (by rw [List.length_drop]; omega)]
   exact congrArg be4 h.1.1
  conv => rhs; rhs; rw [ht]
  exact hp
theorem kind_lt (b : List UInt8) : kindOf b < 256 := u8lt _
theorem g61 (b : List UInt8) (k : Nat) (hb : b.length = 128) (hk : k < 65536) : G61 b (k : Int) = some (goodB b k) := by
 have s04 : subI b 0 4 = some (b.take 4) := subI_at b 0 4 (by omega) (by omega)
 have g10 : getI b 10 = some (b.getD 10 0) := getI_D b 10 (by omega)
 have g11 : getI b 11 = some (b.getD 11 0) := getI_D b 11 (by omega)
 have n4 : G41 (b.take 4) = some (genOf b : Int) := g41 (b.take 4) (by rw [List.length_take]; omega)
 have hn : lenOf b < 256 := u8lt _
 have hg : genOf b < 4294967296 := num_lt4 (by rw [List.length_take]; omega)
 have hc := kind_lt b
 unfold G61 F61 goodB form
 rw [g11]
 simp only [Option.bind_some, s04, g10, n4]
 rw [show ((b.getD 11 0).toNat : Int) = ((lenOf b : Nat) : Int) from rfl, show ((b.getD 10 0).toNat : Int) = ((kindOf b : Nat) : Int) from rfl]
 rw [wr64 (n := ((lenOf b : Nat) : Int)) (by omega) (by omega), wr64 (n := 12 + ((lenOf b : Nat) : Int)) (by omega) (by omega)]
 have t5 : decide (3 < (kindOf b : Int)) = !decide (kindOf b <= 3) := by rw [Bool.eq_iff_iff]; simp; omega
 have t6 : decide (112 < (lenOf b : Int)) = !decide (lenOf b <= 112) := by rw [Bool.eq_iff_iff]; simp; omega
 rw [t5, t6]
 by_cases h112 : lenOf b <= 112
 ·by_cases h3 : kindOf b <= 3
  ·have t7 : decide ((lenOf b : Int) < 112) = !decide (lenOf b = 112) := by rw [Bool.eq_iff_iff]; simp; omega
   have t3 : ((lenOf b : Int) == 0) = decide (lenOf b = 0) := natbeq _ 0
   have t8 : decide (genOf b ≠ 0) = !decide (genOf b = 0) := by rw [Bool.eq_iff_iff]; simp
   have t9 : decide (lenOf b ≠ 0) = !decide (lenOf b = 0) := by rw [Bool.eq_iff_iff]; simp
   have t4 : decide (0 < (genOf b : Int)) = !decide (genOf b = 0) := by rw [Bool.eq_iff_iff]; simp; omega
   have hs : subI b 12 (12 + (lenOf b : Int)) = some (dataOf b) := by
    have := subI_at b 12 (12 + lenOf b) (by omega) (by omega)
    rw [show 12 + lenOf b - 12 = lenOf b by omega] at this
    rw [show (12 : Int) + (lenOf b : Int) = ((12 + lenOf b : Nat) : Int) by omega]
    exact this
   have ld : (dataOf b).length <= 112 := by unfold dataOf; rw [List.length_take]; omega
   have he := g44 (genOf b) k (kindOf b) (dataOf b) (by omega) (by omega) hc ld
   have hq : G43 b (enc (genOf b) k (kindOf b) (dataOf b)) = some (decide (genOf b = num (b.drop 124)) && decide (num ((b.drop 4).take 4) = crc ((b.drop 8).take 116)) && decide (num ((b.drop 8).take 2) = k) && ((b.drop (12 + lenOf b)).take (112 - lenOf b)).all (· == 0)) := by
    unfold G43 F43
    rw [strEq_b]
    congr 1
    rw [Bool.eq_iff_iff]
    simp only [decide_eq_true_eq, Bool.and_eq_true, enc_iff hb hk h112, and_assoc]
   rw [bit1 hc, bit2 h3, t7, t3, t8, t9, t4, hs, decide_eq_true h112, decide_eq_true h3]
   simp only [Option.bind_some, he, hq]
   generalize ((b.drop (12 + lenOf b)).take (112 - lenOf b)).all (· == 0) = z
   generalize decide (genOf b = num (b.drop 124)) = b1
   generalize decide (num ((b.drop 4).take 4) = crc ((b.drop 8).take 116)) = b2
   generalize decide (num ((b.drop 8).take 2) = k) = b3
   generalize decide (genOf b = 0) = b4
   generalize decide (2 <= kindOf b) = b7
   generalize decide (lenOf b = 112) = b8
   generalize decide (kindOf b % 2 = 1) = b9
   generalize decide (lenOf b = 0) = b10
   clear hs hq he
   revert z b1 b2 b3 b4 b7 b8 b9 b10
   decide +kernel
  ·rw [decide_eq_false h3]
   simp
 ·rw [decide_eq_false h112]
  simp
end Go.Proofs.Ytobjniabioaefaa
