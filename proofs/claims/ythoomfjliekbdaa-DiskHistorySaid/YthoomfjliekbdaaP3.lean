/-
 Layer 4, in plain Lean: new disks and syncs.
-/
import Derived.Test.YthoomfjliekbdaaP2
namespace Go.Proofs.Ythoomfjliekbdaa
set_option linter.unusedVariables false
set_option linter.unusedSimpArgs false
set_option maxRecDepth 100000
theorem mul1 : ∀ n : Fin 61, G42 1 (n.val : Int) = some (0, (n.val : Int)) := by decide +kernel
def newR (a : Int) : S_Disk × Int := if a < 1 ∨ 4096 < a then (zeroD, 1) else (S_Disk.mk (List.replicate a.toNat (List.replicate 128 0)) [] (-1) false, 0)
theorem wrU {n : Int} (h : 0 <= n) (h' : n <= 18446744073709551615) : wr .u64 n = n := by
 simp only [wr, IntKind.wrap, IntKind.bits, IntKind.signed]
 simp
 omega
theorem f29 (n : Nat) (v9 : List (List UInt8)) (z : List UInt8) (N : Nat) (hN : N <= 60) : ∀ (m i : Nat) (l : List (List UInt8)), l.length = N -> l.take i = List.replicate i z -> i <= N -> 0 < i -> N - i < m ->
  F29_29_0 n v9 N m (i : Int) l = some (N, List.replicate N z)
 | 0, i, _, _, _, _, _, h => absurd h (Nat.not_lt_zero _)
 | m + 1, i, l, hl, ht, hi, h0, h => by
  unfold F29_29_0
  by_cases hlt : i < N
  ·have s1 : subN N (i : Int) ((N : Nat) : Int) = some (i, N - i) := by
    unfold subN
    rw [show (decide ((0 : Int) <= (i : Int)) && decide ((i : Int) <= ((N : Nat) : Int)) && decide (((N : Nat) : Int) <= (N : Int))) = true by simp; omega]
    simp
   have s2 : subN N 0 (i : Int) = some (0, i) := by
    unfold subN
    rw [show (decide ((0 : Int) <= 0) && decide ((0 : Int) <= (i : Int)) && decide ((i : Int) <= (N : Int))) = true by simp; omega]
    simp
   rw [dlt hlt, cond_true, s1, Option.bind_some, s2, Option.bind_some]
   simp only [List.drop_zero, ht, List.length_replicate]
   rw [wr64 (by omega) (by omega), show (i : Int) + ((min i (N - i) : Nat) : Int) = ((i + min i (N - i) : Nat) : Int) by omega]
   refine f29 n v9 z N hN m _ _ ?_ ?_ (by omega) (by omega) (by omega)
   ·unfold copyI splice
    simp [hl]; omega
   ·unfold copyI splice
    rw [ht]
    have e : (List.replicate i z).take (N - i) = List.replicate (min i (N - i)) z := by rw [List.take_replicate, Nat.min_comm]
    rw [e]
    rw [List.take_append_of_le_length (by simp), List.take_of_length_le (by simp)]
    rw [List.replicate_append_replicate]
  ·have e : i = N := by omega
   subst e
   rw [dnlt hlt, cond_false]
   rw [List.take_of_length_le (by omega)] at ht
   rw [ht]
theorem g29 (z : List UInt8) (N : Nat) (h1 : 1 <= N) (h2 : N <= 60) : G29 [z] (N : Int) = some (List.replicate N z) := by
 unfold G29 F29
 have hm := mul1 ⟨N, by omega⟩
 simp only at hm
 rw [show decide ((N : Int) < 0) = false by simp, cond_false, wrU (by simp) (by simp), wrU (by omega) (by omega)]
 simp only [List.length_cons, List.length_nil, Nat.zero_add]
 rw [show (((1 : Nat) : Int)) = 1 from rfl, hm, Option.bind_some]
 simp only [show decide ((0 : Int) < 0) = false from rfl, cond_false, Option.bind_some]
 rw [decide_eq_false (show ¬ (9223372036854775807 : Int) < (N : Int) by omega), cond_false, wr64 (by omega) (by omega)]
 have mk : mkI 24 (N : Int) ([] : List UInt8) = some (List.replicate N []) := by
  unfold mkI
  rw [show (decide ((0 : Int) <= (N : Int)) && decide ((N : Int) * ((24 : Nat) : Int) <= ((limit : Nat) : Int)) && decide ((N : Int) <= ((limit : Nat) : Int))) = true by rw [lim]; simp; omega]
  simp
 have ec : copyI (List.replicate N []) 0 N [z] = z :: List.drop 1 (List.replicate N []) := by
  unfold copyI splice
  rw [List.take_zero, List.nil_append, List.take_of_length_le (by simp; omega)]
  rfl
 rw [mk, Option.bind_some]
 simp only [List.length_replicate]
 rw [show (((min 1 N : Nat)) : Int) = ((1 : Nat) : Int) by omega, f29 fuel0 [] z N h2 (fuel0 + 8) 1 (copyI (List.replicate N []) 0 N [z]) ?_ ?_ h1 (by omega) (by rw [fu]; omega), Option.bind_some]
 ·simp
 ·rw [ec]; simp; omega
 ·rw [ec]; rfl
theorem g12 (a : Int) (h : a <= 60 ∨ 4096 < a) : G12 a = some (newR a) := by
 unfold G12 F12 newR
 by_cases h1 : a < 1
 ·simp [h1, zeroD]
 ·by_cases h2 : 4096 < a
  ·simp [h1, h2, zeroD]
  ·rw [decide_eq_false h1, decide_eq_false h2, if_neg (by omega)]
   have := g29 (List.replicate 128 0) a.toNat (by omega) (by omega)
   rw [show ((a.toNat : Nat) : Int) = a by omega] at this
   simp only [cond_false, Option.bind_some, mk128, this]
def perf (S : List (List UInt8)) (P : List S_Write) : List (List UInt8) := P.foldl (fun s w => s.set w.At.toNat w.Data) S
theorem perf_len : ∀ (P : List S_Write) (S : List (List UInt8)), (perf S P).length = S.length
 | [], S => rfl
 | w :: P, S => by
  show (perf (S.set w.At.toNat w.Data) P).length = _
  rw [perf_len P, List.length_set]
theorem perf_sec : ∀ (P : List S_Write) (S : List (List UInt8)), (∀ b ∈ S, b.length = 128) -> (∀ w ∈ P, w.Data.length = 128) -> ∀ b ∈ perf S P, b.length = 128
 | [], S, h, _ => h
 | w :: P, S, h, hP => perf_sec P (S.set w.At.toNat w.Data) (fun b hb => by
   rcases List.mem_or_eq_of_mem_set hb with hb | rfl
   ·exact h b hb
   ·exact hP w (by simp)) (fun w hw => hP w (by simp [hw]))
theorem idxN_at {N : Nat} {a : Int} (h0 : 0 <= a) (h1 : a < N) : idxN N a = some a.toNat := by
 unfold idxN
 rw [decide_eq_true h0, decide_eq_true h1]; rfl
theorem modI_at {T : Type} {l : List T} {i : Nat} (h : i < l.length) (x : T) : modI l i (fun _ => x) = some (l.set i x) := by
 unfold modI
 rw [List.getElem?_eq_getElem h]
theorem f40 (n : Nat) (v2 : List (List UInt8)) (N : Nat) (P : List S_Write) (hP : P.length <= 4096) (hw : ∀ w ∈ P, 0 <= w.At /\ w.At < N) : ∀ (m i : Nat) (s : List (List UInt8)), s.length = N -> i <= P.length -> P.length - i < m ->
  F40_40_0 n v2 N P (P.length : Int) m (i : Int) s = some (N, perf s (P.drop i))
 | 0, i, _, _, _, h => absurd h (Nat.not_lt_zero _)
 | m + 1, i, s, hs, hi, h => by
  unfold F40_40_0
  by_cases hlt : i < P.length
  ·obtain ⟨h0, h1⟩ := hw _ (List.getElem_mem hlt)
   rw [dlt hlt, cond_true, getI_nat, List.getElem?_eq_getElem hlt, Option.bind_some, idxN_at h0 h1, Option.bind_some, modI_at (by omega), Option.bind_some, wr1 (by rw [mxl]; omega), List.drop_eq_getElem_cons hlt]
   exact f40 n v2 N P hP hw m (i + 1) _ (by simpa using hs) (by omega) (by omega)
  ·rw [dnlt hlt, cond_false, List.drop_eq_nil_iff.2 (by omega)]
   rfl
theorem f23 (n : Nat) (v12 : List (List UInt8)) (N : Nat) (P : List S_Write) (D : S_Disk) (c1 : List (List UInt8)) (c2 : List S_Write) (c3 : Int) (c4 : Bool) (hP : P.length <= 4096) (hw : ∀ w ∈ P, 0 <= w.At /\ w.At < N) : ∀ (m i : Nat) (s : List (List UInt8)), s.length = N -> i <= P.length -> P.length - i < m ->
  F23_40_0 n v12 N P (P.length : Int) D c1 c2 c3 c4 m (i : Int) s = some (N, perf s (P.drop i))
 | 0, i, _, _, _, h => absurd h (Nat.not_lt_zero _)
 | m + 1, i, s, hs, hi, h => by
  unfold F23_40_0
  by_cases hlt : i < P.length
  ·obtain ⟨h0, h1⟩ := hw _ (List.getElem_mem hlt)
   rw [dlt hlt, cond_true, getI_nat, List.getElem?_eq_getElem hlt, Option.bind_some, idxN_at h0 h1, Option.bind_some, modI_at (by omega), Option.bind_some, wr1 (by rw [mxl]; omega), List.drop_eq_getElem_cons hlt]
   exact f23 n v12 N P D c1 c2 c3 c4 hP hw m (i + 1) _ (by simpa using hs) (by omega) (by omega)
  ·rw [dnlt hlt, cond_false, List.drop_eq_nil_iff.2 (by omega)]
   rfl
def torn (s : List (List UInt8)) (w : S_Write) : List UInt8 := w.Data.take 64 ++ (s[w.At.toNat]?.getD []).drop 64
def syncR (d : S_Disk) : S_Disk × Int :=
 if runs d = true then
  (if 0 <= d.Left /\ d.Left < d.Pending.length then
   (match d.Pending[d.Left.toNat]? with
    | some w => (S_Disk.mk ((perf d.Sectors (d.Pending.take d.Left.toNat)).set w.At.toNat (torn (perf d.Sectors (d.Pending.take d.Left.toNat)) w)) [] 0 true, 40)
    | none => (zeroD, 40))
  else (S_Disk.mk (perf d.Sectors d.Pending) [] (if 0 <= d.Left then d.Left - d.Pending.length else d.Left) false, 0))
 else (zeroD, 40)
theorem g40 (d : S_Disk) (ho : okDk d = true) : G40 d.Sectors d.Pending = some (perf d.Sectors d.Pending) := by
 have hl := okDk_len ho
 have hw := okDk_pend ho
 unfold G40 F40
 rw [appI_some 24 [] _ (by rw [lim]; simp; omega), Option.bind_some, List.nil_append]
 have := f40 fuel0 [] d.Sectors.length d.Pending hl.2.2.1 (fun w h => ⟨(hw w h).1, (hw w h).2.1⟩) (fuel0 + 8) 0 d.Sectors rfl (Nat.zero_le _) (by rw [fu]; omega)
 rw [show ((0 : Nat) : Int) = 0 from rfl, List.drop_zero] at this
 rw [this, Option.bind_some]
 simp only [List.drop_zero]
 rw [List.take_of_length_le (by rw [perf_len]; exact Nat.le_refl _)]
theorem g23 (d : S_Disk) (hd : fits d) : G23 d = some (syncR d) := by
 unfold G23 F23 syncR
 rw [g35 d hd]
 cases hr : runs d with
 | false => rfl
 | true =>
  have ho := runs_ok hr
  have hl := okDk_len ho
  have hw := okDk_pend ho
  simp only [Option.bind_some, Bool.not_true, cond_false, if_true]
  by_cases h0 : 0 <= d.Left
  ·by_cases h1 : d.Left < (d.Pending.length : Int)
   ·rw [decide_eq_true h0, decide_eq_true h1, if_pos ⟨h0, h1⟩]
    have hk : d.Left.toNat < d.Pending.length := by omega
    have hLk : d.Left = ((d.Left.toNat : Nat) : Int) := by omega
    obtain ⟨w0, w1, w2⟩ := hw _ (List.getElem_mem hk)
    have hg : getI d.Pending d.Left = some d.Pending[d.Left.toNat] := getI_has h0 h1
    have hsub : subI d.Pending 0 d.Left = some (d.Pending.take d.Left.toNat) := by
     have := subI_take d.Pending d.Left.toNat (by omega)
     rwa [<- hLk] at this
    have hlt : (d.Pending.take d.Left.toNat).length <= 4096 := by simp; omega
    have hlp := f23 fuel0 [] d.Sectors.length (d.Pending.take d.Left.toNat) d [] [] 0 false hlt (fun w h => ⟨(hw w (List.mem_of_mem_take h)).1, (hw w (List.mem_of_mem_take h)).2.1⟩) (fuel0 + 7) 0 d.Sectors rfl (Nat.zero_le _) (by rw [fu]; omega)
    rw [show ((0 : Nat) : Int) = 0 from rfl, List.drop_zero] at hlp
    simp only [cond_true, hsub, Option.bind_some]
    rw [appI_some 24 [] _ (by rw [lim]; simp; omega), Option.bind_some, List.nil_append, hlp, Option.bind_some, hg, List.getElem?_eq_getElem hk]
    generalize hs : perf d.Sectors (d.Pending.take d.Left.toNat) = s
    have hsl : s.length = d.Sectors.length := by rw [<- hs, perf_len]
    have hsec : ∀ b ∈ s, b.length = 128 := by rw [<- hs]; exact perf_sec _ _ (okDk_sec ho) (fun w h => (hw w (List.mem_of_mem_take h)).2.2)
    generalize hww : d.Pending[d.Left.toNat] = w at w0 w1 w2
    have hat : w.At.toNat < s.length := by omega
    have hb := hsec _ (List.getElem_mem hat)
    simp only [Option.bind_some, idxN_at w0 w1, List.getElem?_eq_getElem hat]
    rw [appI_some 1 [] _ (by rw [lim]; simp; omega), Option.bind_some, List.nil_append, hb, show subN 128 0 64 = some (0, 64) from rfl, Option.bind_some, modI_at hat, Option.bind_some]
    have ht : List.take 128 (List.drop 0 (copyI s[w.At.toNat] 0 64 w.Data)) = torn s w := by
     unfold copyI splice torn
     rw [List.drop_zero, List.take_zero, List.nil_append, List.getElem?_eq_getElem hat, Option.getD_some, List.length_take, w2]
     exact List.take_of_length_le (by simp [w2, hb])
    rw [ht, List.drop_zero, List.take_of_length_le (by simp [hsl])]
   ·rw [decide_eq_true h0, decide_eq_false h1, if_neg (by omega), if_pos h0]
    simp only [cond_true, cond_false, Option.bind_some, g40 d ho]
    rw [wr64 (by omega) (by omega)]
  ·rw [decide_eq_false h0, if_neg (by omega), if_neg h0]
   simp only [cond_false, Option.bind_some, g40 d ho]
end Go.Proofs.Ythoomfjliekbdaa
