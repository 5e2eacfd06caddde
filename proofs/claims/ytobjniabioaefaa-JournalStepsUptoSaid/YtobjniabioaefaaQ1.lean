/-
 Layer 05, in plain Lean: numbers in bytes, and the checksum.
-/
import Derived.Test.YtobjniabioaefaaP0
namespace Go.Proofs.Ytobjniabioaefaa
set_option linter.unusedVariables false
set_option linter.unusedSimpArgs false
set_option maxRecDepth 100000
set_option maxHeartbeats 4000000
theorem wru64 {n : Int} (h : 0 <= n) (h' : n <= 18446744073709551615) : wr .u64 n = n := by
 simp only [wr, IntKind.wrap, IntKind.bits, IntKind.signed]
 simp
 omega
theorem wru32 {n : Int} (h : 0 <= n) (h' : n <= 4294967295) : wr .u32 n = n := by
 simp only [wr, IntKind.wrap, IntKind.bits, IntKind.signed]
 simp
 omega
theorem wru8 (n : Int) : wr .u8 n = n % 256 := by
 simp only [wr, IntKind.wrap, IntKind.bits, IntKind.signed]
 simp
def numA (a : Nat) (l : List UInt8) : Nat := l.foldl (fun a c => 256 * a + c.toNat) a
def num (l : List UInt8) : Nat := numA 0 l
theorem u8lt (c : UInt8) : c.toNat < 256 := c.toNat_lt
theorem numA_cons (a : Nat) (c : UInt8) (l : List UInt8) : numA a (c :: l) = numA (256 * a + c.toNat) l := rfl
theorem or_shl (a b : Nat) (ha : a < 72057594037927936) (hb : b < 256) : orI .u64 (shlI .u64 (a : Int) 8) (b : Int) = ((256 * a + b : Nat) : Int) := by
 have h1 : shlI .u64 (a : Int) 8 = ((256 * a : Nat) : Int) := by
  unfold shlI
  rw [show min (8 : Int).toNat IntKind.u64.bits = 8 from rfl]
  show wr .u64 ((a : Int) * 2 ^ 8) = _
  rw [wru64 (by omega) (by omega)]
  omega
 rw [h1]
 have e3 : (256 * a) ||| b = 256 * a + b := by
  have := Nat.shiftLeft_add_eq_or_of_lt (show b < 2 ^ 8 by omega) a
  rw [Nat.shiftLeft_eq] at this
  rw [show 256 * a = a * 2 ^ 8 by omega]
  exact this.symm
 have key : (BitVec.ofInt 64 ((256 * a : Nat) : Int) ||| BitVec.ofInt 64 ((b : Nat) : Int)).toNat = 256 * a + b := by
  rw [BitVec.ofInt_natCast, BitVec.ofInt_natCast, BitVec.toNat_or, BitVec.toNat_ofNat, BitVec.toNat_ofNat, Nat.mod_eq_of_lt (by omega), Nat.mod_eq_of_lt (by omega), e3]
 show wr .u64 (((BitVec.ofInt 64 ((256 * a : Nat) : Int) ||| BitVec.ofInt 64 ((b : Nat) : Int)).toNat : Nat) : Int) = _
 rw [key]
 exact wru64 (by omega) (by omega)
theorem f41 (n : Nat) (l : List UInt8) (hl : l.length <= 8) : ∀ (k i acc m : Nat), k + i = l.length -> k + 1 <= m -> acc < 256 ^ i -> F41_41_0 n l (l.length : Int) m (acc : Int) (i : Int) = some (numA acc (l.drop i) : Int)
 | _, i, acc, 0, _, hm, _ => by omega
 | 0, i, acc, m + 1, hk, hm, ha => by
  unfold F41_41_0
  rw [decide_eq_false (show ¬ (i : Int) < (l.length : Int) by omega), List.drop_eq_nil_of_le (by omega)]
  rfl
 | k + 1, i, acc, m + 1, hk, hm, ha => by
  have hi : i < l.length := by omega
  have hc := u8lt l[i]
  have hp : 256 ^ i <= 256 ^ 7 := Nat.pow_le_pow_right (by omega) (by omega)
  have hp7 : (256 : Nat) ^ 7 = 72057594037927936 := by decide
  unfold F41_41_0
  rw [decide_eq_true (show (i : Int) < (l.length : Int) by omega), getI_nat, List.getElem?_eq_getElem hi]
  simp only [cond_true, Option.bind_some]
  rw [wru64 (n := (l[i].toNat : Int)) (by omega) (by omega), or_shl _ _ (by omega) hc, wr64 (by omega) (by omega), show ((i : Int) + 1) = ((i + 1 : Nat) : Int) by omega]
  rw [f41 n l hl k (i + 1) _ m (by omega) (by omega) (by rw [Nat.pow_succ]; omega), List.drop_eq_getElem_cons hi, numA_cons]
theorem g41 (l : List UInt8) (hl : l.length <= 8) : G41 l = some (num l : Int) := by
 unfold G41 F41
 have h := f41 fuel0 l hl l.length 0 0 (fuel0 + 8) (by omega) (by have := fu; omega) (by decide)
 rw [List.drop_zero] at h
 refine Eq.trans (congrArg (fun z => Option.bind z _) h) ?_
 rfl
def crcS (n : Nat) : Nat := if n % 2 = 1 then n / 2 ^^^ 3988292384 else n / 2
theorem xor_lt {a b : Nat} (ha : a < 4294967296) (hb : b < 4294967296) : a ^^^ b < 4294967296 := Nat.xor_lt_two_pow (n := 32) ha hb
theorem crcS_lt {n : Nat} (h : n < 4294967296) : crcS n < 4294967296 := by
 unfold crcS
 split
 ·exact xor_lt (by omega) (by decide)
 ·omega
theorem xorI_nat {a b : Nat} (ha : a < 4294967296) (hb : b < 4294967296) : xorI .u32 (a : Int) (b : Int) = ((a ^^^ b : Nat) : Int) := by
 have key : (BitVec.ofInt 32 (a : Int) ^^^ BitVec.ofInt 32 (b : Int)).toNat = a ^^^ b := by
  rw [BitVec.ofInt_natCast, BitVec.ofInt_natCast, BitVec.toNat_xor, BitVec.toNat_ofNat, BitVec.toNat_ofNat, Nat.mod_eq_of_lt (by omega), Nat.mod_eq_of_lt (by omega)]
 show wr .u32 (((BitVec.ofInt 32 (a : Int) ^^^ BitVec.ofInt 32 (b : Int)).toNat : Nat) : Int) = _
 rw [key]
 have := xor_lt ha hb
 exact wru32 (by omega) (by omega)
theorem shr1_nat (a : Nat) : shrI .u32 (a : Int) 1 = ((a / 2 : Nat) : Int) := by
 unfold shrI
 rw [show min (1 : Int).toNat IntKind.u32.bits = 1 from rfl]
 rw [Int.fdiv_eq_ediv_of_nonneg _ (by decide)]
 rfl
theorem and1_nat {a : Nat} (ha : a < 4294967296) : andI .u32 (a : Int) 1 = ((a % 2 : Nat) : Int) := by
 have key : (BitVec.ofInt 32 (a : Int) &&& BitVec.ofInt 32 (1 : Int)).toNat = a % 2 := by
  rw [BitVec.ofInt_natCast, show BitVec.ofInt 32 (1 : Int) = BitVec.ofNat 32 1 from rfl, BitVec.toNat_and, BitVec.toNat_ofNat, BitVec.toNat_ofNat, Nat.mod_eq_of_lt (by omega), Nat.mod_eq_of_lt (by omega), Nat.and_one_is_mod]
 show wr .u32 (((BitVec.ofInt 32 (a : Int) &&& BitVec.ofInt 32 (1 : Int)).toNat : Nat) : Int) = _
 rw [key]
 exact wru32 (by omega) (by omega)
theorem st65 {a : Nat} (ha : a < 4294967296) : xorI .u32 (shrI .u32 (a : Int) 1) (wr .u32 (3988292384 * (andI .u32 (a : Int) 1))) = (crcS a : Int) := by
 rw [and1_nat ha, shr1_nat]
 unfold crcS
 by_cases h : a % 2 = 1
 ·rw [if_pos h, h, wru32 (by omega) (by omega), show (3988292384 : Int) * ((1 : Nat) : Int) = ((3988292384 : Nat) : Int) from rfl, xorI_nat (by omega) (by decide)]
 ·have h0 : a % 2 = 0 := by omega
  rw [if_neg h, h0, wru32 (by omega) (by omega), show (3988292384 : Int) * ((0 : Nat) : Int) = ((0 : Nat) : Int) from rfl, xorI_nat (by omega) (by decide), Nat.xor_zero]
def crc8 (n : Nat) : Nat := crcS (crcS (crcS (crcS (crcS (crcS (crcS (crcS n)))))))
def crcB (a : Nat) (c : UInt8) : Nat := crc8 (a ^^^ c.toNat)
def crcA (a : Nat) (l : List UInt8) : Nat := l.foldl crcB a
def crc (l : List UInt8) : Nat := 4294967295 ^^^ crcA 4294967295 l
theorem crc8_lt {n : Nat} (h : n < 4294967296) : crc8 n < 4294967296 := crcS_lt (crcS_lt (crcS_lt (crcS_lt (crcS_lt (crcS_lt (crcS_lt (crcS_lt h)))))))
theorem crcB_lt {n : Nat} (h : n < 4294967296) (c : UInt8) : crcB n c < 4294967296 := crc8_lt (xor_lt h (by have := u8lt c; omega))
theorem crcA_lt : ∀ (l : List UInt8) {n : Nat}, n < 4294967296 -> crcA n l < 4294967296
 | [], _, h => h
 | c :: l, _, h => crcA_lt l (crcB_lt h c)
theorem l65_s (n : Nat) (v w u : Int) (l : List UInt8) (m : Nat) {a : Nat} (ha : a < 4294967296) (i : Int) (hi : i < 8) (hi0 : 0 <= i) : F44_65_1 n v w u l (m + 1) (a : Int) i = F44_65_1 n v w u l m (crcS a : Int) (i + 1) := by
 show (bif decide (i < 8) then _ else _) = _
 rw [decide_eq_true hi, wr64 (by omega) (by omega), st65 ha]
 rfl
theorem l65_1 (n : Nat) (v w u : Int) (l : List UInt8) (m : Nat) {a : Nat} (ha : a < 4294967296) : F44_65_1 n v w u l (m + 9) (a : Int) 0 = some (crc8 a : Int) := by
 have h1 := crcS_lt ha
 have h2 := crcS_lt h1
 have h3 := crcS_lt h2
 have h4 := crcS_lt h3
 have h5 := crcS_lt h4
 have h6 := crcS_lt h5
 have h7 := crcS_lt h6
 rw [show m + 9 = m + 1 + 1 + 1 + 1 + 1 + 1 + 1 + 1 + 1 from rfl, l65_s _ _ _ _ _ _ ha _ (by decide) (by decide), l65_s _ _ _ _ _ _ h1 _ (by decide) (by decide), l65_s _ _ _ _ _ _ h2 _ (by decide) (by decide), l65_s _ _ _ _ _ _ h3 _ (by decide) (by decide), l65_s _ _ _ _ _ _ h4 _ (by decide) (by decide), l65_s _ _ _ _ _ _ h5 _ (by decide) (by decide), l65_s _ _ _ _ _ _ h6 _ (by decide) (by decide), l65_s _ _ _ _ _ _ h7 _ (by decide) (by decide)]
 rfl
end Go.Proofs.Ytobjniabioaefaa
