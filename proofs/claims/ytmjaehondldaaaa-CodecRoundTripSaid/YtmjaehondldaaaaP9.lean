/-
 Layer 01, in plain Lean: Decode.
-/
import Derived.Test.YtmjaehondldaaaaP8
namespace Go.Proofs.Ytmjaehondldaaaa
set_option linter.unusedVariables false
set_option linter.unusedSimpArgs false
set_option maxRecDepth 100000
set_option maxHeartbeats 4000000
theorem app56 (l : List S_Value) (x : S_Value) (h : l.length <= 1000000) : appI 56 l [x] = some (l ++ [x]) := appI_some _ _ _ (by rw [lim]; simp; omega)
theorem getV_len {k : Nat} {l : List UInt8} {v : S_Value} {r : List UInt8} (hl : l.length <= 1000000) (h : getV k l = some (v, r)) : r.length <= l.length := by
 have := (getV_inv k l v r hl h).1
 rw [this, List.length_append]; omega
theorem loop32 (f : List UInt8 -> Option (S_Value × List UInt8)) (self : (List UInt8) -> Int -> Option (Bool × S_Value × (List UInt8))) (N d n : Nat) (z0 z1 : Int) (z2 : ByteArray) (hd : d <= 16) (hn : n <= 1000000)
  (hf : ∀ l : List UInt8, l.length <= 1000000 -> match f l with
   | some (v, r) => self l ((d : Int) + 1) = some (true, v, r) /\ r.length <= l.length
   | none => ∃ v r, self l ((d : Int) + 1) = some (false, v, r)) :
  ∀ (k m i : Nat) (l : List UInt8) (acc : List S_Value), i + k = n -> k < m -> l.length <= 1000000 -> acc.length <= i -> match getLs f k l with
   | some (vs, r) => F32w_32_0 self N (d : Int) (n : Int) z0 z1 z2 m (i : Int) l acc = some (.inr (r, acc ++ vs))
   | none => ∃ x, F32w_32_0 self N (d : Int) (n : Int) z0 z1 z2 m (i : Int) l acc = some (.inl x)
 | 0, m, i, l, acc, h1, h2, h3, h4 => by
  obtain ⟨m, rfl⟩ : ∃ q, m = q + 1 := ⟨m - 1, by omega⟩
  rw [getLs, F32w_32_0, decide_eq_false (by omega)]
  simp
 | k + 1, m, i, l, acc, h1, h2, h3, h4 => by
  obtain ⟨m, rfl⟩ : ∃ q, m = q + 1 := ⟨m - 1, by omega⟩
  have hl := hf l h3
  rw [getLs, F32w_32_0, decide_eq_true (by omega), wr64 (n := (d : Int) + 1) (by omega) (by omega), wr64 (n := (i : Int) + 1) (by omega) (by omega)]
  simp only [cond_true]
  cases hv : f l with
  | none =>
   rw [hv] at hl
   obtain ⟨v, r, hl⟩ := hl
   simp only
   rw [hl]
   exact ⟨_, rfl⟩
  | some p =>
   obtain ⟨v, r⟩ := p
   rw [hv] at hl
   simp only at hl ⊢
   rw [hl.1]
   simp only [Option.bind_some, cond_true]
   rw [app56 _ _ (by omega), Option.bind_some, show (i : Int) + 1 = ((i + 1 : Nat) : Int) by omega]
   have ih := loop32 f self N d n z0 z1 z2 hd hn hf k m (i + 1) r (acc ++ [v]) (by omega) (by omega) (by omega) (by simp; omega)
   cases hr : getLs f k r with
   | none => rw [hr] at ih; exact ih
   | some p =>
    obtain ⟨vs, t⟩ := p
    rw [hr] at ih
    simp only at ih ⊢
    rw [ih]; simp
theorem b1 {b : UInt8} (n : Nat) (h : n < 256) : (wr .i64 ((b.toNat : Int)) == (n : Int)) = decide (b.toNat = n) := by
 have := b.toNat_lt
 rw [wr64 (by omega) (by omega), Bool.eq_iff_iff]
 simp
 omega
theorem w32 : ∀ (k N d : Nat) (l : List UInt8), d + k = 16 -> 2000000 + k <= N -> l.length <= 1000000 -> match getV k l with
  | some (v, r) => W32 N l (d : Int) = some (true, v, r)
  | none => ∃ v r, W32 N l (d : Int) = some (false, v, r)
 | k, N, d, [], hd, hN, hl => by
  obtain ⟨N, rfl⟩ : ∃ q, N = q + 1 := ⟨N - 1, by omega⟩
  have : getV k [] = none := by cases k <;> rw [getV]
  rw [this]
  show ∃ v r, (bif Nat.ble 8 N then F32w (W32 N) (N - 8) [] d else none) = _
  rw [Nat.ble_eq_true_of_le (by omega : 8 <= N)]
  exact ⟨_, _, rfl⟩
 | k, N, d, b :: l, hd, hN, hl => by
  obtain ⟨N, rfl⟩ : ∃ q, N = q + 1 := ⟨N - 1, by omega⟩
  rw [List.length_cons] at hl
  have hb := b.toNat_lt
  have hs1 : subI (b :: l) 0 1 = some [b] := by
   unfold subI
   rw [show decide ((1 : Int) <= ((b :: l).length : Int)) = true from decide_eq_true (by rw [List.length_cons]; omega)]
   rfl
  have hs2 : subI (b :: l) 1 ((b :: l).length : Int) = some l := by
   unfold subI
   rw [show decide ((1 : Int) <= ((b :: l).length : Int)) = true from decide_eq_true (by rw [List.length_cons]; omega), decide_eq_true (Int.le_refl _)]
   simp
  have eW : W32 (N + 1) (b :: l) (d : Int) = F32w (W32 N) (N - 8) (b :: l) (d : Int) := by
   show (bif Nat.ble 8 N then F32w (W32 N) (N - 8) (b :: l) d else none) = _
   rw [Nat.ble_eq_true_of_le (by omega : 8 <= N)]; rfl
  have eg : getV k (b :: l) = getA b l (match k with | 0 => fun _ _ => none | k + 1 => getLs (getV k)) := by cases k <;> rw [getV]
  rw [eW, eg]
  unfold F32w
  rw [hs1, hs2, decide_eq_true (show (1 : Int) <= ((b :: l).length : Int) by rw [List.length_cons]; omega)]
  simp only [Bool.not_true, cond_false, Option.bind_some, show getI [b] 0 = some b from rfl]
  rw [show (wr .i64 ((b.toNat : Int)) == 1) = decide (b.toNat = 1) from b1 1 (by omega), show (wr .i64 ((b.toNat : Int)) == 2) = decide (b.toNat = 2) from b1 2 (by omega), show (wr .i64 ((b.toNat : Int)) == 3) = decide (b.toNat = 3) from b1 3 (by omega), wr64 (n := (b.toNat : Int)) (by omega) (by omega)]
  unfold getA
  by_cases h1 : b.toNat = 1
  ·rw [if_pos h1, decide_eq_true h1]
   have hr := rdloop (fun m u i l => F32w_46_0 (W32 N) (N - 8) (b.toNat : Int) 0 ByteArray.empty m u i l) (fun _ _ _ _ => rfl) l (N - 8 + 7) 0 0 (by omega) (by omega) (by decide)
   simp only [cond_true]
   cases hg : getN 0 l with
   | none =>
    rw [hg] at hr
    obtain ⟨r, hr⟩ := hr
    refine ⟨default, r, ?_⟩
    exact (congrArg (fun x => Option.bind x _) hr).trans rfl
   | some p =>
    obtain ⟨n, r⟩ := p
    rw [hg] at hr
    obtain ⟨_, hn, _⟩ := getN_len hg
    simp only at hr ⊢
    refine (congrArg (fun x => Option.bind x _) hr).trans ?_
    rw [show (0 + 2 ^ (7 * 0) * n : Nat) = n by omega]
    simp only [Option.bind_some, g45 n hn]
    rw [h1]; rfl
  rw [if_neg h1, decide_eq_false h1]
  simp only [cond_false]
  by_cases h2 : b.toNat = 2
  ·rw [if_pos h2, decide_eq_true h2]
   have hr := rdloop (fun m u i l => F32w_46_0a (W32 N) (N - 8) (b.toNat : Int) 0 ByteArray.empty m u i l) (fun _ _ _ _ => rfl) l (N - 8 + 6) 0 0 (by omega) (by omega) (by decide)
   simp only [cond_true]
   cases hg : getN 0 l with
   | none =>
    rw [hg] at hr
    obtain ⟨r, hr⟩ := hr
    refine ⟨default, r, ?_⟩
    exact (congrArg (fun x => Option.bind x _) hr).trans rfl
   | some p =>
    obtain ⟨n, r⟩ := p
    rw [hg] at hr
    obtain ⟨_, hn, hrl⟩ := getN_len hg
    simp only at hr ⊢
    by_cases hnr : n <= r.length
    ·rw [if_pos hnr]
     refine (congrArg (fun x => Option.bind x _) hr).trans ?_
     rw [show (0 + 2 ^ (7 * 0) * n : Nat) = n by omega]
     simp only [Option.bind_some]
     rw [wun _ (show r.length < 18446744073709551616 by omega), wr64 (n := (n : Int)) (by omega) (by omega), decide_eq_true (show (n : Int) <= (r.length : Int) by omega)]
     simp only [Bool.not_true, cond_false]
     unfold subI
     rw [decide_eq_true (show (n : Int) <= (r.length : Int) by omega), decide_eq_true (show (0 : Int) <= (n : Int) by omega), decide_eq_true (Int.le_refl _)]
     simp [h2]
     exact List.take_of_length_le (by simp)
    ·rw [if_neg hnr]
     refine ⟨default, r, ?_⟩
     refine (congrArg (fun x => Option.bind x _) hr).trans ?_
     rw [show (0 + 2 ^ (7 * 0) * n : Nat) = n by omega]
     simp only [Option.bind_some]
     rw [wun _ (show r.length < 18446744073709551616 by omega), decide_eq_false (show ¬ (n : Int) <= (r.length : Int) by omega)]
     rfl
  rw [if_neg h2, decide_eq_false h2]
  simp only [cond_false]
  by_cases h3 : b.toNat = 3
  ·rw [if_pos h3, decide_eq_true h3]
   simp only [cond_true]
   cases k with
   | zero =>
    rw [decide_eq_false (show ¬ ((d : Int) < 16) by omega)]
    have : ∃ v r, (bif !false then some (false, (default : S_Value), l) else none) = some (false, v, r) := ⟨_, _, rfl⟩
    cases hg : getN 0 l with
    | none => exact ⟨_, _, rfl⟩
    | some p =>
     obtain ⟨n, r⟩ := p
     simp only
     split <;> rename_i hx
     ·split at hx <;> cases hx
     ·exact ⟨_, _, rfl⟩
   | succ k =>
    rw [decide_eq_true (show ((d : Int) < 16) by omega)]
    have hr := rdloop (fun m u i l => F32w_46_0b (W32 N) (N - 8) (b.toNat : Int) 0 ByteArray.empty m u i l) (fun _ _ _ _ => rfl) l (N - 8 + 6) 0 0 (by omega) (by omega) (by decide)
    simp only [Bool.not_true, cond_false]
    cases hg : getN 0 l with
    | none =>
     rw [hg] at hr
     obtain ⟨r, hr⟩ := hr
     refine ⟨default, r, ?_⟩
     exact (congrArg (fun x => Option.bind x _) hr).trans rfl
    | some p =>
     obtain ⟨n, r⟩ := p
     rw [hg] at hr
     obtain ⟨_, hn, hrl⟩ := getN_len hg
     simp only at hr ⊢
     by_cases hnr : n <= r.length
     ·rw [if_pos hnr]
      have hL := loop32 (getV k) (W32 N) (N - 8) d n (b.toNat : Int) 0 ByteArray.empty (by omega) (by omega) (fun l hl => by
       have := w32 k N (d + 1) l (by omega) (by omega) hl
       cases hgv : getV k l with
       | none => rw [hgv] at this; exact this
       | some p =>
        obtain ⟨v, r⟩ := p
        rw [hgv] at this
        exact ⟨this, getV_len hl hgv⟩) n (N - 8 + 8) 0 r [] (by omega) (by omega) (by omega) (by simp)
      cases hls : getLs (getV k) n r with
      | none =>
       rw [hls] at hL
       obtain ⟨x, hL⟩ := hL
       refine ⟨default, x.1, ?_⟩
       refine (congrArg (fun x => Option.bind x _) hr).trans ?_
       rw [show (0 + 2 ^ (7 * 0) * n : Nat) = n by omega]
       simp only [Option.bind_some]
       rw [wun _ (show r.length < 18446744073709551616 by omega), wr64 (n := (n : Int)) (by omega) (by omega), decide_eq_true (show (n : Int) <= (r.length : Int) by omega)]
       simp only [Bool.not_true, cond_false]
       exact (congrArg (fun x => Option.bind x _) hL).trans rfl
      | some p =>
       obtain ⟨vs, t⟩ := p
       rw [hls] at hL
       simp only at hL ⊢
       refine (congrArg (fun x => Option.bind x _) hr).trans ?_
       rw [show (0 + 2 ^ (7 * 0) * n : Nat) = n by omega]
       simp only [Option.bind_some]
       rw [wun _ (show r.length < 18446744073709551616 by omega), wr64 (n := (n : Int)) (by omega) (by omega), decide_eq_true (show (n : Int) <= (r.length : Int) by omega)]
       simp only [Bool.not_true, cond_false]
       refine (congrArg (fun x => Option.bind x _) hL).trans ?_
       rw [h3]; rfl
     ·rw [if_neg hnr]
      refine ⟨default, r, ?_⟩
      refine (congrArg (fun x => Option.bind x _) hr).trans ?_
      rw [show (0 + 2 ^ (7 * 0) * n : Nat) = n by omega]
      simp only [Option.bind_some]
      rw [wun _ (show r.length < 18446744073709551616 by omega), decide_eq_false (show ¬ (n : Int) <= (r.length : Int) by omega)]
      rfl
  ·rw [if_neg h3, decide_eq_false h3]
   exact ⟨_, _, rfl⟩
def decR (bs : List UInt8) : S_Value × Int := match getV 16 bs with
 | some (v, []) => (v, 0)
 | _ => (.mk 0 0 ByteArray.empty [], 10)
theorem g18 (bs : List UInt8) (h : bs.length <= 1000000) : G18 bs = some (decR bs) := by
 unfold G18 F18
 have hw := w32 16 (fuel0 + 8) 0 bs (by omega) (by rw [fu]; omega) h
 rw [show ((0 : Nat) : Int) = 0 from rfl] at hw
 unfold decR
 cases hg : getV 16 bs with
 | none =>
  rw [hg] at hw
  obtain ⟨v, r, hw⟩ := hw
  rw [hw]; rfl
 | some p =>
  obtain ⟨v, r⟩ := p
  rw [hg] at hw
  simp only at hw
  rw [hw]
  cases r with
  | nil => rfl
  | cons a r =>
   have : (((a :: r).length : Int) == 0) = false := by simp; omega
   simp only [Option.bind_some, cond_true]
   rw [this]; rfl
theorem decR_ok {bs : List UInt8} {v : S_Value} (h : bs.length <= 1000000) (e : decR bs = (v, 0)) : bs = encV v /\ chk v = 0 /\ ok_S_Value v /\ nod v <= 1000000 := by
 unfold decR at e
 split at e
 ·rename_i u hg
  cases e
  obtain ⟨h1, h2, h3, h4, h5⟩ := getV_inv 16 bs v [] h hg
  rw [List.append_nil] at h1
  refine ⟨h1, ?_, h4, ?_⟩
  ·unfold chk
   rw [h2]
   simp only [cond_true]
   rw [decide_eq_false (by omega)]; rfl
  ·rw [h1] at h; omega
 ·cases e
theorem decR_enc {v : S_Value} (hc : chk v = 0) (hv : ok_S_Value v) : decR (encV v) = (v, 0) := by
 have hf := chk_frm hc
 have hd : dep v <= 16 := by
  unfold chk at hc
  rw [hf] at hc
  simp only [cond_true] at hc
  rcases Nat.lt_or_ge 16 (dep v) with h | h
  ·rw [decide_eq_true h] at hc; cases hc
  ·exact h
 unfold decR
 have := getV_enc 16 v [] hf hd hv
 rw [List.append_nil] at this
 rw [this]
theorem decR_cases (bs : List UInt8) : (∃ v, decR bs = (v, 0)) ∨ decR bs = (.mk 0 0 ByteArray.empty [], 10) := by
 unfold decR
 split
 ·exact .inl ⟨_, rfl⟩
 ·exact .inr rfl
end Go.Proofs.Ytmjaehondldaaaa
