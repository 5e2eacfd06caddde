/-
 Layer 4, in plain Lean: what the disk's functions compute.
-/
import Derived.Test.YthoomfjliekbdaaL
import Derived.Test.YthoomfjliekbdaaPure
import Derived.KernelRfl
namespace Go.Proofs.Ythoomfjliekbdaa
set_option linter.unusedVariables false
set_option linter.unusedSimpArgs false
set_option maxRecDepth 100000
theorem fu : fuel0 = 1208925819614629174706176 := rfl
theorem lim : limit = 140737488355328 := rfl
theorem mxl : maxL = 9223372036854775807 := rfl
theorem sane10 : G10 = some true := by kernel_rfl
theorem wr1 {i : Nat} (h : i < maxL) : wr .i64 ((i : Int) + 1) = ((i + 1 : Nat) : Int) := by
 rw [mxl] at h
 rw [wr64 (by omega) (by omega)]
 omega
theorem appI_some {T : Type} (b : Nat) (l l2 : List T) (h : (l.length + l2.length) * b <= limit) : appI b l l2 = some (l ++ l2) := by unfold appI; rw [decide_eq_true h]; rfl
theorem subI_all {T : Type} (l : List T) : subI l 0 (l.length : Int) = some l := by
 unfold subI
 simp
theorem subI_take {T : Type} (l : List T) (i : Nat) (h : i <= l.length) : subI l 0 (i : Int) = some (l.take i) := by
 unfold subI
 simp [h]
theorem dlt {i n : Nat} (h : i < n) : decide ((i : Int) < (n : Int)) = true := by simpa using h
theorem dnlt {i n : Nat} (h : ¬ i < n) : decide ((i : Int) < (n : Int)) = false := by simpa using h
def isSec (b : List UInt8) : Bool := b.length == 128
def okW (n : Nat) (w : S_Write) : Bool := decide (0 <= w.At) && decide (w.At < n) && isSec w.Data
def okDk (d : S_Disk) : Bool := decide (1 <= d.Sectors.length) && decide (d.Sectors.length <= 4096) && decide (d.Pending.length <= 4096) && decide (-1 <= d.Left) && decide (d.Left <= 65536) && d.Pending.all (okW d.Sectors.length) && d.Sectors.all isSec
theorem g31 (b : List UInt8) : G31 b = some (isSec b) := by
 unfold G31 F31 isSec
 congr 1
 rw [Bool.eq_iff_iff]; simp; omega
theorem g34 (b : List UInt8) : G34 b = some (!isSec b) := by
 unfold G34 F34
 rw [g31, Option.bind_some]
theorem f44 (n : Nat) (l : List (List UInt8)) (v2 : Int) (hl : l.length <= maxL) : ∀ (m i : Nat), i <= l.length -> l.length - i < m ->
  (∃ j : Int, 0 <= j /\ F44_34_44_0 n l v2 (l.length : Int) m (i : Int) = some (.inl j) /\ (l.drop i).all isSec = false) ∨ (F44_34_44_0 n l v2 (l.length : Int) m (i : Int) = some (.inr ()) /\ (l.drop i).all isSec = true)
 | 0, i, _, h => absurd h (Nat.not_lt_zero _)
 | m + 1, i, hi, h => by
  unfold F44_34_44_0
  by_cases hlt : i < l.length
  ·rw [dlt hlt, cond_true, getI_nat, List.getElem?_eq_getElem hlt, Option.bind_some, g34, Option.bind_some, wr1 (by omega), List.drop_eq_getElem_cons hlt, List.all_cons]
   cases hp : isSec l[i] with
   | false => exact .inl ⟨i, by omega, rfl, rfl⟩
   | true =>
    simp only [Bool.not_true, cond_false, Bool.true_and]
    exact f44 n l v2 hl m (i + 1) (by omega) (by omega)
  ·rw [dnlt hlt, cond_false, List.drop_eq_nil_iff.2 (by omega)]
   exact .inr ⟨rfl, rfl⟩
theorem g33 (l : List (List UInt8)) (hl : l.length <= maxL) : G33_34 l = some (!l.all isSec) := by
 unfold G33_34 F33_34 G44_34 F44_34
 rcases f44 fuel0 l 0 hl (fuel0 + 8) 0 (Nat.zero_le _) (by rw [fu]; rw [mxl] at hl; omega) with ⟨j, h1, h2, h3⟩ | ⟨h2, h3⟩
 ·rw [List.drop_zero] at h3
  rw [show ((0 : Nat) : Int) = 0 from rfl] at h2
  rw [h2, h3]
  simp only [Option.bind_some]
  rw [decide_eq_true h1]; rfl
 ·rw [List.drop_zero] at h3
  rw [show ((0 : Nat) : Int) = 0 from rfl] at h2
  rw [h2, h3]
  rfl
theorem f15 (n : Nat) (l : List S_Write) (v27 : Int) (D : S_Disk) (N : Nat) (hl : l.length <= maxL) : ∀ (m i : Nat), i <= l.length -> l.length - i < m ->
  (∃ (j : Int) (a : Int) (b : List UInt8), 0 <= j /\ F15_43_0 n l v27 (l.length : Int) D (N : Int) m (i : Int) = some (.inl (j, a, b)) /\ (l.drop i).all (okW N) = false) ∨ (F15_43_0 n l v27 (l.length : Int) D (N : Int) m (i : Int) = some (.inr ()) /\ (l.drop i).all (okW N) = true)
 | 0, i, _, h => absurd h (Nat.not_lt_zero _)
 | m + 1, i, hi, h => by
  unfold F15_43_0
  by_cases hlt : i < l.length
  ·rw [dlt hlt, cond_true, getI_nat, List.getElem?_eq_getElem hlt, Option.bind_some, wr1 (by omega), List.drop_eq_getElem_cons hlt, List.all_cons]
   have ih := f15 n l v27 D N hl m (i + 1) (by omega) (by omega)
   simp only [g31, Option.bind_some]
   generalize l[i] = w
   have hw : okW N w = (!decide (w.At < 0) && !decide ((N : Int) <= w.At) && isSec w.Data) := by
    unfold okW
    congr 2
    ·rw [Bool.eq_iff_iff]; simp
    ·rw [Bool.eq_iff_iff]; simp
   rw [hw]
   cases decide (w.At < 0) with
   | true => exact .inl ⟨i, _, _, by omega, rfl, rfl⟩
   | false => cases decide ((N : Int) <= w.At) with
    | true => exact .inl ⟨i, _, _, by omega, rfl, rfl⟩
    | false => cases isSec w.Data with
     | false => exact .inl ⟨i, _, _, by omega, rfl, rfl⟩
     | true => simpa using ih
  ·rw [dnlt hlt, cond_false, List.drop_eq_nil_iff.2 (by omega)]
   exact .inr ⟨rfl, rfl⟩
theorem okDk_eq (d : S_Disk) : okDk d = (!(decide ((d.Sectors.length : Int) < 1)) && !(decide (4096 < (d.Sectors.length : Int))) && !(decide (4096 < (d.Pending.length : Int))) && !(decide (d.Left < -1)) && !(decide (65536 < d.Left)) && d.Pending.all (okW d.Sectors.length) && d.Sectors.all isSec) := by
 unfold okDk
 have e1 : decide (1 <= d.Sectors.length) = !(decide ((d.Sectors.length : Int) < 1)) := by rw [Bool.eq_iff_iff]; simp; omega
 have e2 : decide (d.Sectors.length <= 4096) = !(decide (4096 < (d.Sectors.length : Int))) := by rw [Bool.eq_iff_iff]; simp; omega
 have e3 : decide (d.Pending.length <= 4096) = !(decide (4096 < (d.Pending.length : Int))) := by rw [Bool.eq_iff_iff]; simp; omega
 have e4 : decide (-1 <= d.Left) = !(decide (d.Left < -1)) := by rw [Bool.eq_iff_iff]; simp
 have e5 : decide (d.Left <= 65536) = !(decide (65536 < d.Left)) := by rw [Bool.eq_iff_iff]; simp
 rw [e1, e2, e3, e4, e5]
def fits (d : S_Disk) : Prop := d.Sectors.length <= maxL /\ d.Pending.length <= maxL
theorem g15 (d : S_Disk) (hd : fits d) : G15 d = some (if okDk d = true then 0 else 40) := by
 unfold G15 F15
 rw [okDk_eq, g33 _ hd.1]
 cases decide ((d.Sectors.length : Int) < 1) with
 | true => simp
 | false => cases decide (4096 < (d.Sectors.length : Int)) with
  | true => simp
  | false => cases decide (4096 < (d.Pending.length : Int)) with
   | true => simp
   | false => cases decide (d.Left < -1) with
    | true => simp
    | false => cases decide (65536 < d.Left) with
     | true => simp
     | false =>
      simp only [cond_false, Option.bind_some, Bool.not_false, Bool.true_and]
      rcases f15 fuel0 d.Pending 0 d d.Sectors.length hd.2 (fuel0 + 6) 0 (Nat.zero_le _) (by rw [fu]; have := hd.2; rw [mxl] at this; omega) with ⟨j, a, b, h1, h2, h3⟩ | ⟨h2, h3⟩
      ·rw [List.drop_zero] at h3
       rw [show ((0 : Nat) : Int) = 0 from rfl] at h2
       rw [h2, h3]
       simp only [Option.bind_some]
       rw [decide_eq_true h1]
       rfl
      ·rw [List.drop_zero] at h3
       rw [show ((0 : Nat) : Int) = 0 from rfl] at h2
       rw [h2, h3]
       simp only [Option.bind_some, cond_false, Bool.true_and]
       cases d.Sectors.all isSec <;> rfl
end Go.Proofs.Ythoomfjliekbdaa
