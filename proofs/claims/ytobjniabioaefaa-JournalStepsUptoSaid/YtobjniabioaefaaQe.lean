/-
 Layer 05, in plain Lean: what the disk's functions compute.
-/
import Derived.Test.YtobjniabioaefaaQ3
namespace Go.Proofs.Ytobjniabioaefaa
set_option linter.unusedVariables false
set_option linter.unusedSimpArgs false
set_option maxRecDepth 100000
theorem getI_has {T : Type} {l : List T} {a : Int} (h0 : 0 <= a) (h1 : a < l.length) : getI l a = some (l[a.toNat]'(by omega)) := by
 have := getI_nat l a.toNat
 rw [show ((a.toNat : Nat) : Int) = a by omega] at this
 rw [this]
 exact List.getElem?_eq_getElem _
theorem fA (n : Nat) (v : Bool) (S : List (List UInt8)) (P1 P2 : List S_Write) (L1 L2 : Int) (b1 b2 : Bool) (hl : S.length <= maxL) : ∀ (m i : Nat), i <= S.length -> S.length - i < m -> F23_23_0 n v (S_Disk.mk S P1 L1 b1) (S_Disk.mk S P2 L2 b2) m (i : Int) = some (.inr ())
 | 0, i, _, h => absurd h (Nat.not_lt_zero _)
 | m + 1, i, hi, h => by
  unfold F23_23_0
  by_cases hlt : i < S.length
  ·rw [dltN hlt, cond_true, getI_nat, List.getElem?_eq_getElem hlt, Option.bind_some, Option.bind_some, strEq_refl, wr1 (by omega)]
   exact fA n v S P1 P2 L1 L2 b1 b2 hl m (i + 1) (by omega) (by omega)
  ·rw [dnlt hlt]; rfl
theorem fB (n : Nat) (v : Bool) (S1 S2 : List (List UInt8)) (P : List S_Write) (L1 L2 : Int) (b1 b2 : Bool) (hl : P.length <= maxL) : ∀ (m i : Nat), i <= P.length -> P.length - i < m -> F23_23_1 n v (S_Disk.mk S1 P L1 b1) (S_Disk.mk S2 P L2 b2) m (i : Int) = some (.inr ())
 | 0, i, _, h => absurd h (Nat.not_lt_zero _)
 | m + 1, i, hi, h => by
  unfold F23_23_1
  by_cases hlt : i < P.length
  ·rw [dltN hlt, cond_true, getI_nat, List.getElem?_eq_getElem hlt, Option.bind_some, Option.bind_some, wr1 (by omega)]
   simp only [bne_self_eq_false, cond_false, Option.bind_some, strEq_refl, Bool.not_true]
   exact fB n v S1 S2 P L1 L2 b1 b2 hl m (i + 1) (by omega) (by omega)
  ·rw [dnlt hlt]; rfl
theorem g23r (d : S_Disk) (hd : fits d) : G23 d d = some true := by
 unfold G23 F23
 have e1 := fA fuel0 false d.Sectors d.Pending d.Pending d.Left d.Left d.Stopped d.Stopped hd.1 (fuel0 + 8) 0 (Nat.zero_le _) (by rw [fu]; have := hd.1; rw [mxl] at this; omega)
 have e2 := fB fuel0 false d.Sectors d.Sectors d.Pending d.Left d.Left d.Stopped d.Stopped hd.2 (fuel0 + 8) 0 (Nat.zero_le _) (by rw [fu]; have := hd.2; rw [mxl] at this; omega)
 rw [show ((0 : Nat) : Int) = 0 from rfl] at e1 e2
 simp only [bne_self_eq_false, cond_false, Option.bind_some, e1, e2]
def zeroD : S_Disk := S_Disk.mk [] [] 0 false
def runs (d : S_Disk) : Bool := okD d && !d.Stopped
def has (d : S_Disk) (a : Int) : Bool := decide (0 <= a) && decide (a < d.Sectors.length)
theorem g50 (d : S_Disk) (hd : fits d) : G50 d = some (runs d) := by
 unfold G50 F50 runs
 rw [g31 d hd]
 cases okD d <;> rfl
theorem g51 (d : S_Disk) (a : Int) : G51 d a = some (has d a) := by
 unfold G51 F51 has
 cases decide (0 <= a) <;> rfl
theorem okD_sec {d : S_Disk} (h : okD d = true) : ∀ b ∈ d.Sectors, b.length = 128 := by
 unfold okD at h
 simp only [Bool.and_eq_true, List.all_eq_true] at h
 intro b hb
 have := h.2 b hb
 simpa [isSec] using this
theorem okD_pend {d : S_Disk} (h : okD d = true) : ∀ w ∈ d.Pending, 0 <= w.At /\ w.At < d.Sectors.length /\ w.Data.length = 128 := by
 unfold okD at h
 simp only [Bool.and_eq_true, List.all_eq_true] at h
 intro w hw
 have := h.1.2 w hw
 simp only [okW, Bool.and_eq_true, decide_eq_true_eq, isSec, beq_iff_eq] at this
 exact ⟨this.1.1, this.1.2, this.2⟩
theorem okD_len {d : S_Disk} (h : okD d = true) : 1 <= d.Sectors.length /\ d.Sectors.length <= 4096 /\ d.Pending.length <= 4096 /\ -1 <= d.Left /\ d.Left <= 65536 := by
 unfold okD at h
 simp only [Bool.and_eq_true, decide_eq_true_eq] at h
 exact ⟨h.1.1.1.1.1.1, h.1.1.1.1.1.2, h.1.1.1.1.2, h.1.1.1.2, h.1.1.2⟩
def pad (b : List UInt8) : List UInt8 := b ++ List.replicate (128 - b.length) 0
def writeR (d : S_Disk) (a : Int) (b : List UInt8) : S_Disk × Int :=
 if (runs d && has d a) = true then (if 128 < b.length then (zeroD, 1) else if d.Pending.length = 4096 then (zeroD, 2) else (S_Disk.mk d.Sectors (d.Pending ++ [S_Write.mk a (pad b)]) d.Left d.Stopped, 0)) else (zeroD, 40)
theorem mk128 : mkI 1 128 (0 : UInt8) = some (List.replicate 128 0) := rfl
theorem copy_pad {b : List UInt8} (h : b.length <= 128) : List.take 128 (List.drop 0 (copyI (List.replicate 128 (0 : UInt8)) 0 128 b)) = pad b := by
 unfold copyI splice pad
 rw [List.drop_zero, List.take_zero, List.nil_append, List.take_of_length_le h, Nat.zero_add, List.drop_replicate]
 exact List.take_of_length_le (by simp; omega)
theorem g53 (l : List S_Write) (h : l.length <= 4096) : G53 l = some l := by
 unfold G53 F53
 rw [appI_some 32 [] l (by rw [lim]; simp; omega)]
 rfl
theorem runs_ok {d : S_Disk} (h : runs d = true) : okD d = true := by unfold runs at h; rw [Bool.and_eq_true] at h; exact h.1
theorem g26 (d : S_Disk) (a : Int) (b : List UInt8) (hd : fits d) : G26 d a b = some (writeR d a b) := by
 unfold G26 F26 writeR
 rw [g50 d hd, g51]
 cases hr : runs d with
 | false => rfl
 | true =>
  have hlen := okD_len (runs_ok hr)
  cases hh : has d a with
  | false => rfl
  | true =>
   simp only [Option.bind_some, Bool.not_true, cond_false, Bool.and_self, if_true]
   by_cases hb : 128 < b.length
   ·rw [decide_eq_true (show (128 : Int) < (b.length : Int) by omega), if_pos hb]; rfl
   ·rw [decide_eq_false (show ¬ (128 : Int) < (b.length : Int) by omega), if_neg hb, cond_false]
    by_cases hp : d.Pending.length = 4096
    ·rw [show ((d.Pending.length : Int) == 4096) = true by rw [beq_iff_eq]; omega, if_pos hp]; rfl
    ·rw [show ((d.Pending.length : Int) == 4096) = false by rw [beq_eq_false_iff_ne]; omega, if_neg hp, cond_false, mk128, Option.bind_some, g53 _ hlen.2.2.1, Option.bind_some, subI_all, Option.bind_some]
     rw [show (List.replicate 128 (0 : UInt8)).length = 128 by simp, copy_pad (by omega)]
     rw [appI_some 32 _ _ (by rw [lim]; simp; omega)]
     rfl
theorem mul1 : ∀ n : Fin 61, G68 1 (n.val : Int) = some (0, (n.val : Int)) := by decide +kernel
def newR (a : Int) : S_Disk × Int := if a < 1 ∨ 4096 < a then (zeroD, 1) else (S_Disk.mk (List.replicate a.toNat (List.replicate 128 0)) [] (-1) false, 0)
theorem wrU {n : Int} (h : 0 <= n) (h' : n <= 18446744073709551615) : wr .u64 n = n := by
 simp only [wr, IntKind.wrap, IntKind.bits, IntKind.signed]
 simp
 omega
theorem f49 (n : Nat) (v9 : List (List UInt8)) (z : List UInt8) (N : Nat) (hN : N <= 60) : ∀ (m i : Nat) (l : List (List UInt8)), l.length = N -> l.take i = List.replicate i z -> i <= N -> 0 < i -> N - i < m ->
  F49_49_0 n v9 N m (i : Int) l = some (N, List.replicate N z)
 | 0, i, _, _, _, _, _, h => absurd h (Nat.not_lt_zero _)
 | m + 1, i, l, hl, ht, hi, h0, h => by
  unfold F49_49_0
  by_cases hlt : i < N
  ·have s1 : subN N (i : Int) ((N : Nat) : Int) = some (i, N - i) := by
    unfold subN
    rw [show (decide ((0 : Int) <= (i : Int)) && decide ((i : Int) <= ((N : Nat) : Int)) && decide (((N : Nat) : Int) <= (N : Int))) = true by simp; omega]
    simp
   have s2 : subN N 0 (i : Int) = some (0, i) := by
    unfold subN
    rw [show (decide ((0 : Int) <= 0) && decide ((0 : Int) <= (i : Int)) && decide ((i : Int) <= (N : Int))) = true by simp; omega]
    simp
   rw [dltN hlt, cond_true, s1, Option.bind_some, s2, Option.bind_some]
   simp only [List.drop_zero, ht, List.length_replicate]
   rw [wr64 (by omega) (by omega), show (i : Int) + ((min i (N - i) : Nat) : Int) = ((i + min i (N - i) : Nat) : Int) by omega]
   refine f49 n v9 z N hN m _ _ ?_ ?_ (by omega) (by omega) (by omega)
   ·unfold copyI splice
    simp [hl]; omega
   ·unfold copyI splice
    rw [ht]
    have e : (List.replicate i z).take (N - i) = List.replicate (min i (N - i)) z := by rw [List.take_replicate, Nat.min_comm]
    rw [e]
    rw [List.take_append_of_le_length (by simp), List.take_of_length_le (by simp)]
    rw [List.replicate_append_replicate]
  ·have e : i = N := by omega
   subst e
   rw [dnlt hlt, cond_false]
   rw [List.take_of_length_le (by omega)] at ht
   rw [ht]
theorem g49 (z : List UInt8) (N : Nat) (h1 : 1 <= N) (h2 : N <= 60) : G49 [z] (N : Int) = some (List.replicate N z) := by
 unfold G49 F49
 have hm := mul1 ⟨N, by omega⟩
 simp only at hm
 rw [show decide ((N : Int) < 0) = false by simp, cond_false, wrU (by simp) (by simp), wrU (by omega) (by omega)]
 simp only [List.length_cons, List.length_nil, Nat.zero_add]
 rw [show (((1 : Nat) : Int)) = 1 from rfl, hm, Option.bind_some]
 simp only [show decide ((0 : Int) < 0) = false from rfl, cond_false, Option.bind_some]
 rw [decide_eq_false (show ¬ (9223372036854775807 : Int) < (N : Int) by omega), cond_false, wr64 (by omega) (by omega)]
 have mk : mkI 24 (N : Int) ([] : List UInt8) = some (List.replicate N []) := by
  unfold mkI
  rw [show (decide ((0 : Int) <= (N : Int)) && decide ((N : Int) * ((24 : Nat) : Int) <= ((limit : Nat) : Int)) && decide ((N : Int) <= ((limit : Nat) : Int))) = true by rw [lim]; simp; omega]
  simp
 have ec : copyI (List.replicate N []) 0 N [z] = z :: List.drop 1 (List.replicate N []) := by
  unfold copyI splice
  rw [List.take_zero, List.nil_append, List.take_of_length_le (by simp; omega)]
  rfl
 rw [mk, Option.bind_some]
 simp only [List.length_replicate]
 rw [show (((min 1 N : Nat)) : Int) = ((1 : Nat) : Int) by omega, f49 fuel0 [] z N h2 (fuel0 + 8) 1 (copyI (List.replicate N []) 0 N [z]) ?_ ?_ h1 (by omega) (by rw [fu]; omega), Option.bind_some]
 ·simp
 ·rw [ec]; simp; omega
 ·rw [ec]; rfl
theorem g25 (a : Int) (h : a <= 60 ∨ 4096 < a) : G25 a = some (newR a) := by
 unfold G25 F25 newR
 by_cases h1 : a < 1
 ·simp [h1, zeroD]
 ·by_cases h2 : 4096 < a
  ·simp [h1, h2, zeroD]
  ·rw [decide_eq_false h1, decide_eq_false h2, if_neg (by omega)]
   have := g49 (List.replicate 128 0) a.toNat (by omega) (by omega)
   rw [show ((a.toNat : Nat) : Int) = a by omega] at this
   simp only [cond_false, Option.bind_some, mk128, this]
def perf (S : List (List UInt8)) (P : List S_Write) : List (List UInt8) := P.foldl (fun s w => s.set w.At.toNat w.Data) S
theorem perf_len : ∀ (P : List S_Write) (S : List (List UInt8)), (perf S P).length = S.length
 | [], S => rfl
 | w :: P, S => by
  show (perf (S.set w.At.toNat w.Data) P).length = _
  rw [perf_len P, List.length_set]
theorem perf_sec : ∀ (P : List S_Write) (S : List (List UInt8)), (∀ b ∈ S, b.length = 128) -> (∀ w ∈ P, w.Data.length = 128) -> ∀ b ∈ perf S P, b.length = 128
 | [], S, h, _ => h
 | w :: P, S, h, hP => perf_sec P (S.set w.At.toNat w.Data) (fun b hb => by
   rcases List.mem_or_eq_of_mem_set hb with hb | rfl
   ·exact h b hb
   ·exact hP w (by simp)) (fun w hw => hP w (by simp [hw]))
theorem idxN_in {N : Nat} {a : Int} (h0 : 0 <= a) (h1 : a < N) : idxN N a = some a.toNat := by
 unfold idxN
 rw [decide_eq_true h0, decide_eq_true h1]; rfl
theorem f54 (n : Nat) (v2 : List (List UInt8)) (N : Nat) (P : List S_Write) (hP : P.length <= 4096) (hw : ∀ w ∈ P, 0 <= w.At /\ w.At < N) : ∀ (m i : Nat) (s : List (List UInt8)), s.length = N -> i <= P.length -> P.length - i < m ->
  F54_54_0 n v2 N P (P.length : Int) m (i : Int) s = some (N, perf s (P.drop i))
 | 0, i, _, _, _, h => absurd h (Nat.not_lt_zero _)
 | m + 1, i, s, hs, hi, h => by
  unfold F54_54_0
  by_cases hlt : i < P.length
  ·obtain ⟨h0, h1⟩ := hw _ (List.getElem_mem hlt)
   rw [dltN hlt, cond_true, getI_nat, List.getElem?_eq_getElem hlt, Option.bind_some, idxN_in h0 h1, Option.bind_some, modI_at (by omega), Option.bind_some, wr1 (by rw [mxl]; omega), List.drop_eq_getElem_cons hlt]
   exact f54 n v2 N P hP hw m (i + 1) _ (by simpa using hs) (by omega) (by omega)
  ·rw [dnlt hlt, cond_false, List.drop_eq_nil_iff.2 (by omega)]
   rfl
theorem f27 (n : Nat) (v12 : List (List UInt8)) (N : Nat) (P : List S_Write) (a1 : List (List UInt8)) (a2 : List S_Write) (a3 : Int) (a4 : Bool) (c1 : List (List UInt8)) (c2 : List S_Write) (c3 : Int) (c4 : Bool) (hP : P.length <= 4096) (hw : ∀ w ∈ P, 0 <= w.At /\ w.At < N) : ∀ (m i : Nat) (s : List (List UInt8)), s.length = N -> i <= P.length -> P.length - i < m ->
  F27_54_0 n v12 N P (P.length : Int) (S_Disk.mk a1 a2 a3 a4) c1 c2 c3 c4 m (i : Int) s = some (N, perf s (P.drop i))
 | 0, i, _, _, _, h => absurd h (Nat.not_lt_zero _)
 | m + 1, i, s, hs, hi, h => by
  unfold F27_54_0
  by_cases hlt : i < P.length
  ·obtain ⟨h0, h1⟩ := hw _ (List.getElem_mem hlt)
   rw [dltN hlt, cond_true, getI_nat, List.getElem?_eq_getElem hlt, Option.bind_some, idxN_in h0 h1, Option.bind_some, modI_at (by omega), Option.bind_some, wr1 (by rw [mxl]; omega), List.drop_eq_getElem_cons hlt]
   exact f27 n v12 N P a1 a2 a3 a4 c1 c2 c3 c4 hP hw m (i + 1) _ (by simpa using hs) (by omega) (by omega)
  ·rw [dnlt hlt, cond_false, List.drop_eq_nil_iff.2 (by omega)]
   rfl
def torn (s : List (List UInt8)) (w : S_Write) : List UInt8 := w.Data.take 64 ++ (s[w.At.toNat]?.getD []).drop 64
def syncR (d : S_Disk) : S_Disk × Int :=
 if runs d = true then
  (if 0 <= d.Left /\ d.Left < d.Pending.length then
   (match d.Pending[d.Left.toNat]? with
    | some w => (S_Disk.mk ((perf d.Sectors (d.Pending.take d.Left.toNat)).set w.At.toNat (torn (perf d.Sectors (d.Pending.take d.Left.toNat)) w)) [] 0 true, 40)
    | none => (zeroD, 40))
  else (S_Disk.mk (perf d.Sectors d.Pending) [] (if 0 <= d.Left then d.Left - d.Pending.length else d.Left) false, 0))
 else (zeroD, 40)
theorem g54 (d : S_Disk) (ho : okD d = true) : G54 d.Sectors d.Pending = some (perf d.Sectors d.Pending) := by
 have hl := okD_len ho
 have hw := okD_pend ho
 unfold G54 F54
 rw [appI_some 24 [] _ (by rw [lim]; simp; omega), Option.bind_some, List.nil_append]
 have := f54 fuel0 [] d.Sectors.length d.Pending hl.2.2.1 (fun w h => ⟨(hw w h).1, (hw w h).2.1⟩) (fuel0 + 8) 0 d.Sectors rfl (Nat.zero_le _) (by rw [fu]; omega)
 rw [show ((0 : Nat) : Int) = 0 from rfl, List.drop_zero] at this
 rw [this, Option.bind_some]
 simp only [List.drop_zero]
 rw [List.take_of_length_le (by rw [perf_len]; exact Nat.le_refl _)]
theorem g27 (d : S_Disk) (hd : fits d) : G27 d = some (syncR d) := by
 unfold G27 F27 syncR
 rw [g50 d hd]
 cases hr : runs d with
 | false => rfl
 | true =>
  have ho := runs_ok hr
  have hl := okD_len ho
  have hw := okD_pend ho
  simp only [Option.bind_some, Bool.not_true, cond_false, if_true]
  by_cases h0 : 0 <= d.Left
  ·by_cases h1 : d.Left < (d.Pending.length : Int)
   ·rw [decide_eq_true h0, decide_eq_true h1, if_pos ⟨h0, h1⟩]
    have hk : d.Left.toNat < d.Pending.length := by omega
    have hLk : d.Left = ((d.Left.toNat : Nat) : Int) := by omega
    obtain ⟨w0, w1, w2⟩ := hw _ (List.getElem_mem hk)
    have hg : getI d.Pending d.Left = some d.Pending[d.Left.toNat] := getI_has h0 h1
    have hsub : subI d.Pending 0 d.Left = some (d.Pending.take d.Left.toNat) := by
     have := subI_take d.Pending d.Left.toNat (by omega)
     rwa [<- hLk] at this
    have hlt : (d.Pending.take d.Left.toNat).length <= 4096 := by simp; omega
    have hlp := f27 fuel0 [] d.Sectors.length (d.Pending.take d.Left.toNat) d.Sectors d.Pending d.Left d.Stopped [] [] 0 false hlt (fun w h => ⟨(hw w (List.mem_of_mem_take h)).1, (hw w (List.mem_of_mem_take h)).2.1⟩) (fuel0 + 7) 0 d.Sectors rfl (Nat.zero_le _) (by rw [fu]; omega)
    rw [show ((0 : Nat) : Int) = 0 from rfl, List.drop_zero] at hlp
    simp only [cond_true, hsub, Option.bind_some]
    rw [appI_some 24 [] _ (by rw [lim]; simp; omega), Option.bind_some, List.nil_append, hlp, Option.bind_some, hg, List.getElem?_eq_getElem hk]
    generalize hs : perf d.Sectors (d.Pending.take d.Left.toNat) = s
    have hsl : s.length = d.Sectors.length := by rw [<- hs, perf_len]
    have hsec : ∀ b ∈ s, b.length = 128 := by rw [<- hs]; exact perf_sec _ _ (okD_sec ho) (fun w h => (hw w (List.mem_of_mem_take h)).2.2)
    generalize hww : d.Pending[d.Left.toNat] = w at w0 w1 w2
    have hat : w.At.toNat < s.length := by omega
    have hb := hsec _ (List.getElem_mem hat)
    simp only [Option.bind_some, idxN_in w0 w1, List.getElem?_eq_getElem hat]
    rw [appI_some 1 [] _ (by rw [lim]; simp; omega), Option.bind_some, List.nil_append, hb, show subN 128 0 64 = some (0, 64) from rfl, Option.bind_some, modI_at hat, Option.bind_some]
    have ht : List.take 128 (List.drop 0 (copyI s[w.At.toNat] 0 64 w.Data)) = torn s w := by
     unfold copyI splice torn
     rw [List.drop_zero, List.take_zero, List.nil_append, List.getElem?_eq_getElem hat, Option.getD_some, List.length_take, w2]
     exact List.take_of_length_le (by simp [w2, hb])
    rw [ht, List.drop_zero, List.take_of_length_le (by simp [hsl])]
   ·rw [decide_eq_true h0, decide_eq_false h1, if_neg (by omega), if_pos h0]
    simp only [cond_true, cond_false, Option.bind_some, g54 d ho]
    rw [wr64 (by omega) (by omega)]
  ·rw [decide_eq_false h0, if_neg (by omega), if_neg h0]
   simp only [cond_false, Option.bind_some, g54 d ho]
end Go.Proofs.Ytobjniabioaefaa
