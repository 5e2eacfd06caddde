/-
 Layer 4, in plain Lean: new disks, reads, writes, stops.
-/
import Derived.Test.YthoomfjliekbdaaP
namespace Go.Proofs.Ythoomfjliekbdaa
set_option linter.unusedVariables false
set_option linter.unusedSimpArgs false
set_option maxRecDepth 100000
def zeroD : S_Disk := S_Disk.mk [] [] 0 false
def runs (d : S_Disk) : Bool := okDk d && !d.Stopped
def has (d : S_Disk) (a : Int) : Bool := decide (0 <= a) && decide (a < d.Sectors.length)
theorem g35 (d : S_Disk) (hd : fits d) : G35 d = some (runs d) := by
 unfold G35 F35 runs
 rw [g15 d hd]
 cases okDk d <;> rfl
theorem g36 (d : S_Disk) (a : Int) : G36 d a = some (has d a) := by
 unfold G36 F36 has
 cases decide (0 <= a) <;> rfl
theorem okDk_sec {d : S_Disk} (h : okDk d = true) : ∀ b ∈ d.Sectors, b.length = 128 := by
 unfold okDk at h
 simp only [Bool.and_eq_true, List.all_eq_true] at h
 intro b hb
 have := h.2 b hb
 simpa [isSec] using this
theorem okDk_pend {d : S_Disk} (h : okDk d = true) : ∀ w ∈ d.Pending, 0 <= w.At /\ w.At < d.Sectors.length /\ w.Data.length = 128 := by
 unfold okDk at h
 simp only [Bool.and_eq_true, List.all_eq_true] at h
 intro w hw
 have := h.1.2 w hw
 simp only [okW, Bool.and_eq_true, decide_eq_true_eq, isSec, beq_iff_eq] at this
 exact ⟨this.1.1, this.1.2, this.2⟩
theorem okDk_len {d : S_Disk} (h : okDk d = true) : 1 <= d.Sectors.length /\ d.Sectors.length <= 4096 /\ d.Pending.length <= 4096 /\ -1 <= d.Left /\ d.Left <= 65536 := by
 unfold okDk at h
 simp only [Bool.and_eq_true, decide_eq_true_eq] at h
 exact ⟨h.1.1.1.1.1.1, h.1.1.1.1.1.2, h.1.1.1.1.2, h.1.1.1.2, h.1.1.2⟩
def stopR (d : S_Disk) (a : Int) : S_Disk × Int := if runs d = true then (if a < 0 ∨ 65536 < a then (zeroD, 1) else (S_Disk.mk d.Sectors d.Pending a d.Stopped, 0)) else (zeroD, 40)
theorem g25 (d : S_Disk) (a : Int) (hd : fits d) : G25 d a = some (stopR d a) := by
 unfold G25 F25 stopR
 rw [g35 d hd]
 cases runs d with
 | false => rfl
 | true =>
  by_cases h1 : a < 0
  ·simp [h1, zeroD]
  ·by_cases h2 : 65536 < a
   ·simp [h1, h2, zeroD]
   ·simp [h1, h2]
def restR (d : S_Disk) : S_Disk := S_Disk.mk d.Sectors [] (-1) false
theorem g17 (d : S_Disk) : G17 d = some (restR d) := rfl
def lastW (l : List S_Write) (a : Int) (b : List UInt8) : List UInt8 := l.foldl (fun b w => if w.At = a then w.Data else b) b
def readR (d : S_Disk) (a : Int) : List UInt8 × Int := if (runs d && has d a) = true then (lastW d.Pending a (d.Sectors[a.toNat]?.getD []), 0) else ([], 40)
theorem f21 (n : Nat) (D : S_Disk) (P : List S_Write) (a : Int) (v16 : List UInt8) (v17 : Int) (hP : P.length <= maxL) (b : List UInt8) : ∀ (m i : Nat), i <= P.length -> i < m ->
  (∃ (c : Int) (f : List UInt8), F21_45_0 n D a v16 v17 P m ((i : Int) - 1) = some (.inl (lastW (P.take i) a b, 0, c, f))) ∨ (F21_45_0 n D a v16 v17 P m ((i : Int) - 1) = some (.inr ()) /\ lastW (P.take i) a b = b)
 | 0, i, _, h => absurd h (Nat.not_lt_zero _)
 | m + 1, 0, hi, h => by
  unfold F21_45_0
  right
  exact ⟨rfl, rfl⟩
 | m + 1, i + 1, hi, h => by
  unfold F21_45_0
  have hlt : i < P.length := by omega
  rw [show (((i + 1 : Nat) : Int) - 1) = (i : Int) by omega, show decide ((0 : Int) <= (i : Int)) = true by simp, cond_true, getI_nat, List.getElem?_eq_getElem hlt, Option.bind_some]
  have ht : P.take (i + 1) = P.take i ++ [P[i]] := by rw [List.take_succ_eq_append_getElem hlt]
  have hl : lastW (P.take (i + 1)) a b = if P[i].At = a then P[i].Data else lastW (P.take i) a b := by
   unfold lastW
   rw [ht, List.foldl_append]
   rfl
  rw [hl, show (P[i].At == a) = decide (P[i].At = a) from rfl]
  by_cases e : P[i].At = a
  ·rw [if_pos e, decide_eq_true e, cond_true]
   exact .inl ⟨_, _, rfl⟩
  ·rw [if_neg e, decide_eq_false e, cond_false, wr64 (by omega) (by rw [mxl] at hP; omega)]
   exact f21 n D P a v16 v17 hP b m i (by omega) (by omega)
theorem getI_has {T : Type} {l : List T} {a : Int} (h0 : 0 <= a) (h1 : a < l.length) : getI l a = some (l[a.toNat]'(by omega)) := by
 have := getI_nat l a.toNat
 rw [show ((a.toNat : Nat) : Int) = a by omega] at this
 rw [this]
 exact List.getElem?_eq_getElem _
theorem g21 (d : S_Disk) (a : Int) (hd : fits d) : G21 d a = some (readR d a) := by
 unfold G21 F21 readR
 rw [g35 d hd, g36]
 cases runs d with
 | false => rfl
 | true =>
  cases hh : has d a with
  | false => rfl
  | true =>
   unfold has at hh
   simp only [Bool.and_eq_true, decide_eq_true_eq] at hh
   obtain ⟨h0, h1⟩ := hh
   have hP := hd.2
   rw [mxl] at hP
   have hg := getI_has (l := d.Sectors) h0 h1
   have hg2 : d.Sectors[a.toNat]? = some (d.Sectors[a.toNat]'(by omega)) := List.getElem?_eq_getElem _
   simp only [Option.bind_some, Bool.not_true, cond_false, Bool.and_self, if_true]
   rw [wr64 (by omega) (by omega)]
   have key := f21 fuel0 d d.Pending a [] 0 hd.2 (d.Sectors[a.toNat]?.getD []) (fuel0 + 7) d.Pending.length (Nat.le_refl _) (by rw [fu]; omega)
   rw [List.take_length] at key
   rcases key with ⟨c, f, h⟩ | ⟨h, h'⟩
   ·rw [h]; rfl
   ·rw [h, h', hg, hg2]; rfl
def pad (b : List UInt8) : List UInt8 := b ++ List.replicate (128 - b.length) 0
def writeR (d : S_Disk) (a : Int) (b : List UInt8) : S_Disk × Int :=
 if (runs d && has d a) = true then (if 128 < b.length then (zeroD, 1) else if d.Pending.length = 4096 then (zeroD, 2) else (S_Disk.mk d.Sectors (d.Pending ++ [S_Write.mk a (pad b)]) d.Left d.Stopped, 0)) else (zeroD, 40)
theorem mk128 : mkI 1 128 (0 : UInt8) = some (List.replicate 128 0) := rfl
theorem copy_pad {b : List UInt8} (h : b.length <= 128) : List.take 128 (List.drop 0 (copyI (List.replicate 128 (0 : UInt8)) 0 128 b)) = pad b := by
 unfold copyI splice pad
 rw [List.drop_zero, List.take_zero, List.nil_append, List.take_of_length_le h, Nat.zero_add, List.drop_replicate]
 exact List.take_of_length_le (by simp; omega)
theorem g38 (l : List S_Write) (h : l.length <= 4096) : G38 l = some l := by
 unfold G38 F38
 rw [appI_some 32 [] l (by rw [lim]; simp; omega)]
 rfl
theorem runs_ok {d : S_Disk} (h : runs d = true) : okDk d = true := by unfold runs at h; rw [Bool.and_eq_true] at h; exact h.1
theorem g19 (d : S_Disk) (a : Int) (b : List UInt8) (hd : fits d) : G19 d a b = some (writeR d a b) := by
 unfold G19 F19 writeR
 rw [g35 d hd, g36]
 cases hr : runs d with
 | false => rfl
 | true =>
  have hlen := okDk_len (runs_ok hr)
  cases hh : has d a with
  | false => rfl
  | true =>
   simp only [Option.bind_some, Bool.not_true, cond_false, Bool.and_self, if_true]
   by_cases hb : 128 < b.length
   ·rw [decide_eq_true (show (128 : Int) < (b.length : Int) by omega), if_pos hb]; rfl
   ·rw [decide_eq_false (show ¬ (128 : Int) < (b.length : Int) by omega), if_neg hb, cond_false]
    by_cases hp : d.Pending.length = 4096
    ·rw [show ((d.Pending.length : Int) == 4096) = true by rw [beq_iff_eq]; omega, if_pos hp]; rfl
    ·rw [show ((d.Pending.length : Int) == 4096) = false by rw [beq_eq_false_iff_ne]; omega, if_neg hp, cond_false, mk128, Option.bind_some, g38 _ hlen.2.2.1, Option.bind_some, subI_all, Option.bind_some]
     rw [show (List.replicate 128 (0 : UInt8)).length = 128 by simp, copy_pad (by omega)]
     rw [appI_some 32 _ _ (by rw [lim]; simp; omega)]
     rfl
end Go.Proofs.Ythoomfjliekbdaa
