/-
 Layer 05, in plain Lean: disks.
-/
import Derived.Test.YtobjniabioaefaaP0
namespace Go.Proofs.Ytobjniabioaefaa
set_option linter.unusedVariables false
set_option linter.unusedSimpArgs false
set_option maxRecDepth 100000
theorem mxl : maxL = 9223372036854775807 := rfl
theorem wr1 {i : Nat} (h : i < maxL) : wr .i64 ((i : Int) + 1) = ((i + 1 : Nat) : Int) := by
 rw [mxl] at h
 rw [wr64 (by omega) (by omega)]
 omega
theorem subI_take {T : Type} (l : List T) (i : Nat) (h : i <= l.length) : subI l 0 (i : Int) = some (l.take i) := by
 unfold subI
 simp [h]
theorem subI_drop {T : Type} (l : List T) (i : Nat) (h : i <= l.length) : subI l (i : Int) (l.length : Int) = some (l.drop i) := by
 unfold subI
 rw [decide_eq_true (by omega : (0 : Int) <= (i : Int)), decide_eq_true (by omega : (i : Int) <= (l.length : Int)), decide_eq_true (Int.le_refl _)]
 simp only [Int.toNat_natCast, Bool.and_self, cond_true]
 rw [List.take_of_length_le (by simp)]
theorem dltN {i n : Nat} (h : i < n) : decide ((i : Int) < (n : Int)) = true := by simpa using h
theorem dnlt {i n : Nat} (h : ¬ i < n) : decide ((i : Int) < (n : Int)) = false := by simpa using h
def isSec (b : List UInt8) : Bool := b.length == 128
def okW (n : Nat) (w : S_Write) : Bool := decide (0 <= w.At) && decide (w.At < n) && isSec w.Data
def okD (d : S_Disk) : Bool := decide (1 <= d.Sectors.length) && decide (d.Sectors.length <= 4096) && decide (d.Pending.length <= 4096) && decide (-1 <= d.Left) && decide (d.Left <= 65536) && d.Pending.all (okW d.Sectors.length) && d.Sectors.all isSec
theorem g56 (b : List UInt8) : G56 b = some (isSec b) := by
 unfold G56 F56 isSec
 congr 1
 rw [Bool.eq_iff_iff]; simp; omega
theorem g59 (b : List UInt8) : G59 b = some (!isSec b) := by
 unfold G59 F59
 rw [g56, Option.bind_some]
theorem f71 (n : Nat) (l : List (List UInt8)) (v2 : Int) (hl : l.length <= maxL) : ∀ (m i : Nat), i <= l.length -> l.length - i < m ->
  (∃ j : Int, 0 <= j /\ F71_59_71_0 n l v2 (l.length : Int) m (i : Int) = some (.inl j) /\ (l.drop i).all isSec = false) ∨ (F71_59_71_0 n l v2 (l.length : Int) m (i : Int) = some (.inr ()) /\ (l.drop i).all isSec = true)
 | 0, i, _, h => absurd h (Nat.not_lt_zero _)
 | m + 1, i, hi, h => by
  unfold F71_59_71_0
  by_cases hlt : i < l.length
  ·rw [dltN hlt, cond_true, getI_nat, List.getElem?_eq_getElem hlt, Option.bind_some, g59, Option.bind_some, wr1 (by omega), List.drop_eq_getElem_cons hlt, List.all_cons]
   cases hp : isSec l[i] with
   | false => exact .inl ⟨i, by omega, rfl, rfl⟩
   | true =>
    simp only [Bool.not_true, cond_false, Bool.true_and]
    exact f71 n l v2 hl m (i + 1) (by omega) (by omega)
  ·rw [dnlt hlt, cond_false, List.drop_eq_nil_iff.2 (by omega)]
   exact .inr ⟨rfl, rfl⟩
theorem g58 (l : List (List UInt8)) (hl : l.length <= maxL) : G58_59 l = some (!l.all isSec) := by
 unfold G58_59 F58_59 G71_59 F71_59
 rcases f71 fuel0 l 0 hl (fuel0 + 8) 0 (Nat.zero_le _) (by rw [fu]; rw [mxl] at hl; omega) with ⟨j, h1, h2, h3⟩ | ⟨h2, h3⟩
 ·rw [List.drop_zero] at h3
  rw [show ((0 : Nat) : Int) = 0 from rfl] at h2
  rw [h2, h3]
  simp only [Option.bind_some]
  rw [decide_eq_true h1]; rfl
 ·rw [List.drop_zero] at h3
  rw [show ((0 : Nat) : Int) = 0 from rfl] at h2
  rw [h2, h3]
  rfl
theorem f31 (n : Nat) (l : List S_Write) (v27 : Int) (S : List (List UInt8)) (P : List S_Write) (L : Int) (st : Bool) (hl : l.length <= maxL) : ∀ (m i : Nat), i <= l.length -> l.length - i < m ->
  (∃ (j : Int) (a : Int) (b : List UInt8), 0 <= j /\ F31_70_0 n l v27 (l.length : Int) (S_Disk.mk S P L st) (S.length : Int) m (i : Int) = some (.inl (j, a, b)) /\ (l.drop i).all (okW S.length) = false) ∨ (F31_70_0 n l v27 (l.length : Int) (S_Disk.mk S P L st) (S.length : Int) m (i : Int) = some (.inr ()) /\ (l.drop i).all (okW S.length) = true)
 | 0, i, _, h => absurd h (Nat.not_lt_zero _)
 | m + 1, i, hi, h => by
  unfold F31_70_0
  by_cases hlt : i < l.length
  ·rw [dltN hlt, cond_true, getI_nat, List.getElem?_eq_getElem hlt, Option.bind_some, wr1 (by omega), List.drop_eq_getElem_cons hlt, List.all_cons]
   have ih := f31 n l v27 S P L st hl m (i + 1) (by omega) (by omega)
   simp only [g56, Option.bind_some]
   generalize l[i] = w
   have hw : okW S.length w = (!decide (w.At < 0) && !decide ((S.length : Int) <= w.At) && isSec w.Data) := by
    unfold okW
    congr 2
    ·rw [Bool.eq_iff_iff]; simp
    ·rw [Bool.eq_iff_iff]; simp
   rw [hw]
   cases decide (w.At < 0) with
   | true => exact .inl ⟨i, _, _, by omega, rfl, rfl⟩
   | false => cases decide ((S.length : Int) <= w.At) with
    | true => exact .inl ⟨i, _, _, by omega, rfl, rfl⟩
    | false => cases isSec w.Data with
     | false => exact .inl ⟨i, _, _, by omega, rfl, rfl⟩
     | true => simpa using ih
  ·rw [dnlt hlt, cond_false, List.drop_eq_nil_iff.2 (by omega)]
   exact .inr ⟨rfl, rfl⟩
theorem okD_eq (d : S_Disk) : okD d = (!(decide ((d.Sectors.length : Int) < 1)) && !(decide (4096 < (d.Sectors.length : Int))) && !(decide (4096 < (d.Pending.length : Int))) && !(decide (d.Left < -1)) && !(decide (65536 < d.Left)) && d.Pending.all (okW d.Sectors.length) && d.Sectors.all isSec) := by
 unfold okD
 have e1 : decide (1 <= d.Sectors.length) = !(decide ((d.Sectors.length : Int) < 1)) := by rw [Bool.eq_iff_iff]; simp; omega
 have e2 : decide (d.Sectors.length <= 4096) = !(decide (4096 < (d.Sectors.length : Int))) := by rw [Bool.eq_iff_iff]; simp; omega
 have e3 : decide (d.Pending.length <= 4096) = !(decide (4096 < (d.Pending.length : Int))) := by rw [Bool.eq_iff_iff]; simp; omega
 have e4 : decide (-1 <= d.Left) = !(decide (d.Left < -1)) := by rw [Bool.eq_iff_iff]; simp
 have e5 : decide (d.Left <= 65536) = !(decide (65536 < d.Left)) := by rw [Bool.eq_iff_iff]; simp
 rw [e1, e2, e3, e4, e5]
def fits (d : S_Disk) : Prop := d.Sectors.length <= maxL /\ d.Pending.length <= maxL
theorem g31 (d : S_Disk) (hd : fits d) : G31 d = some (if okD d = true then 0 else 40) := by
 unfold G31 F31
 rw [okD_eq, g58 _ hd.1]
 cases decide ((d.Sectors.length : Int) < 1) with
 | true => simp
 | false => cases decide (4096 < (d.Sectors.length : Int)) with
  | true => simp
  | false => cases decide (4096 < (d.Pending.length : Int)) with
   | true => simp
   | false => cases decide (d.Left < -1) with
    | true => simp
    | false => cases decide (65536 < d.Left) with
     | true => simp
     | false =>
      simp only [cond_false, Option.bind_some, Bool.not_false, Bool.true_and]
      rcases f31 fuel0 d.Pending 0 d.Sectors d.Pending d.Left d.Stopped hd.2 (fuel0 + 6) 0 (Nat.zero_le _) (by rw [fu]; have := hd.2; rw [mxl] at this; omega) with ⟨j, a, b, h1, h2, h3⟩ | ⟨h2, h3⟩
      ·rw [List.drop_zero] at h3
       rw [show ((0 : Nat) : Int) = 0 from rfl] at h2
       rw [h2, h3]
       simp only [Option.bind_some]
       rw [decide_eq_true h1]
       rfl
      ·rw [List.drop_zero] at h3
       rw [show ((0 : Nat) : Int) = 0 from rfl] at h2
       rw [h2, h3]
       simp only [Option.bind_some, cond_false, Bool.true_and]
       cases d.Sectors.all isSec <;> rfl
end Go.Proofs.Ytobjniabioaefaa
