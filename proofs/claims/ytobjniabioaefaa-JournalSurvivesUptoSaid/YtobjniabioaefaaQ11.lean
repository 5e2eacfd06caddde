/-
 Layer 05, in plain Lean: what is read of what was written.
-/
import Derived.Test.YtobjniabioaefaaQ8
namespace Go.Proofs.Ytobjniabioaefaa
set_option linter.unusedVariables false
set_option linter.unusedSimpArgs false
set_option maxRecDepth 100000
set_option maxHeartbeats 4000000
theorem enc_gen {g k c : Nat} {b : List UInt8} (hg : g < 4294967296) : genOf (enc g k c b) = g := by
 unfold genOf enc
 rw [List.append_assoc, List.append_assoc, List.take_append_of_le_length (by rw [be4_len]; omega), List.take_of_length_le (by rw [be4_len]; omega)]
 exact num_be4 hg
theorem enc_10 {g k c : Nat} {b : List UInt8} (hc : c < 256) : kindOf (enc g k c b) = c := by
 show (UInt8.ofNat c).toNat = c
 rw [UInt8.toNat_ofNat']
 exact Nat.mod_eq_of_lt hc
theorem enc_11 {g k c : Nat} {b : List UInt8} (hb : b.length <= 112) : lenOf (enc g k c b) = b.length := by
 show (UInt8.ofNat b.length).toNat = b.length
 rw [UInt8.toNat_ofNat']
 exact Nat.mod_eq_of_lt (by omega)
theorem enc_data {g k c : Nat} {b : List UInt8} (hb : b.length <= 112) : dataOf (enc g k c b) = b := by
 unfold dataOf
 rw [enc_11 hb]
 show (b ++ List.replicate (112 - b.length) 0 ++ be4 g).take b.length = b
 rw [List.append_assoc, List.take_append_of_le_length (Nat.le_refl _), List.take_of_length_le (Nat.le_refl _)]
theorem enc_good {g k c : Nat} {b : List UInt8} (hg0 : 0 < g) (hg : g < 4294967296) (hk : k < 65536) (hc : c < 256) (hb : b.length <= 112) (hf : form c b.length = true) : goodB (enc g k c b) k = true := by
 have hl := enc_len (g := g) (k := k) (c := c) hb
 have hn : lenOf (enc g k c b) <= 112 := by rw [enc_11 hb]; exact hb
 have h := (enc_iff hl hk hn).1 (by rw [enc_gen hg, enc_10 hc, enc_data hb])
 obtain ⟨⟨h1, h2, h3⟩, h4⟩ := h
 unfold goodB
 rw [h4, enc_10 hc, enc_11 hb, hf, decide_eq_true h1, decide_eq_true h2, decide_eq_true h3, enc_gen hg, decide_eq_true (show g ≠ 0 by omega)]
 rfl
def Put (S : List (List UInt8)) (g : Nat) : Nat -> Nat -> Bool -> List UInt8 -> Prop
 | 0, _, _, _ => True
 | k + 1, a, f, b => S.getD a [] = enc g a (kindC f (k == 0)) (b.take 112) /\ Put S g k (a + 1) false (b.drop 112)
def fit (k : Nat) (f : Bool) (b : List UInt8) : Prop := b.length <= 112 * k /\ (112 * (k - 1) < b.length ∨ (f = true /\ k = 1))
theorem fit_sec (b : List UInt8) : fit (secN b.length) true b := by
 unfold fit secN
 by_cases h : b.length <= 112
 ·exact ⟨by omega, .inr ⟨rfl, by omega⟩⟩
 ·exact ⟨by omega, .inl (by omega)⟩
theorem kind_odd (f e : Bool) : decide (kindC f e % 2 = 1) = f := by cases f <;> cases e <;> rfl
theorem kind_two (f e : Bool) : decide (2 <= kindC f e) = e := by cases f <;> cases e <;> rfl
theorem kind_256 (f e : Bool) : kindC f e < 256 := by cases f <;> cases e <;> decide
theorem enc_tail {g k c : Nat} {b : List UInt8} (hg : g < 4294967296) (hb : b.length <= 112) : num ((enc g k c b).drop 124) = g := by
 unfold enc
 rw [List.drop_left' (by simp only [List.length_append, be4_len, body_len hb])]
 exact num_be4 hg
theorem piece_good {g k n : Nat} {f : Bool} {b : List UInt8} (hg0 : 0 < g) (hg : g < 4294967296) (hn : n < 65536) (hf : fit (k + 1) f b) : goodB (enc g n (kindC f (k == 0)) (b.take 112)) n = true := by
 obtain ⟨hf1, hf2⟩ := hf
 have hbt : (b.take 112).length <= 112 := by rw [List.length_take]; omega
 refine enc_good hg0 hg hn (kind_256 f (k == 0)) hbt ?_
 unfold form
 rw [kind_odd, kind_two, decide_eq_true hbt, decide_eq_true (show kindC f (k == 0) <= 3 by cases f <;> cases (k == 0) <;> decide)]
 by_cases hk : k = 0
 ·subst hk
  rw [show (0 == 0) = true from rfl]
  rcases hf2 with hf2 | ⟨rfl, _⟩
  ·rw [decide_eq_true (show (b.take 112).length ≠ 0 by rw [List.length_take]; omega), Bool.or_true]; rfl
  ·rfl
 ·rcases hf2 with hf2 | ⟨_, hf2⟩
  ·rw [decide_eq_true (show (b.take 112).length = 112 by rw [List.length_take]; omega), decide_eq_true (show (b.take 112).length ≠ 0 by rw [List.length_take]; omega), Bool.or_true, Bool.or_true]; rfl
  ·omega
theorem fit_next {k : Nat} {f : Bool} {b : List UInt8} (hk : k ≠ 0) (hf : fit (k + 1) f b) : fit k false (b.drop 112) := by
 obtain ⟨hf1, hf2⟩ := hf
 refine ⟨by rw [List.length_drop]; omega, ?_⟩
 rcases hf2 with hf2 | ⟨_, hf2⟩
 ·left; rw [List.length_drop]; omega
 ·omega
theorem scan_put {S : List (List UInt8)} {g a : Nat} (hg0 : 0 < g) (hg : g < 4294967296) (hga : genOf (S.getD a []) = g) : ∀ (k K n : Nat) (f : Bool) (b acc : List UInt8), Put S g k n f b -> fit k f b -> 1 <= k -> k <= K -> n + k <= 65536 -> a <= n -> f = decide (n = a) -> scan S a K n acc = some (acc ++ b, n + k)
 | 0, _, _, _, _, _, _, _, h, _, _, _, _ => by omega
 | k + 1, 0, _, _, _, _, _, _, _, h, _, _, _ => by omega
 | k + 1, K + 1, n, f, b, acc, hp, hf, h1, hK, hn, han, hfa => by
  unfold Put at hp
  obtain ⟨hp1, hp2⟩ := hp
  have hbt : (b.take 112).length <= 112 := by rw [List.length_take]; omega
  have hgood := piece_good (n := n) hg0 hg (by omega) hf
  have hgoes : goes S a n = true := by
   unfold goes
   rw [hga, hp1, hgood, enc_10 (kind_256 _ _), kind_odd, enc_gen hg, <- hfa, decide_eq_true rfl]
   cases f <;> rfl
  unfold scan
  rw [hgoes, cond_true, hp1, enc_10 (kind_256 _ _), kind_two, enc_data hbt]
  by_cases hk : k = 0
  ·subst hk
   have := hf.1
   rw [show (0 == 0) = true from rfl, cond_true, List.take_of_length_le (by omega)]
  ·rw [show (k == 0) = false by rw [beq_eq_false_iff_ne]; exact hk, cond_false]
   have ih := scan_put hg0 hg hga k K (n + 1) false (b.drop 112) (acc ++ b.take 112) hp2 (fit_next hk hf) (by omega) (by omega) (by omega) (by omega) (by
    rw [eq_comm, decide_eq_false_iff_not]
    omega)
   rw [ih, List.append_assoc, List.take_append_drop, show n + 1 + k = n + (k + 1) by omega]
theorem put_congr {S T : List (List UInt8)} {g : Nat} : ∀ (k a : Nat) (f : Bool) (b : List UInt8), Put S g k a f b -> (∀ i, a <= i -> i < a + k -> T.getD i [] = S.getD i []) -> Put T g k a f b
 | 0, _, _, _, _, _ => trivial
 | k + 1, a, f, b, h, ht => by
  unfold Put at h ⊢
  exact ⟨(ht a (Nat.le_refl _) (by omega)).trans h.1, put_congr k (a + 1) false (b.drop 112) h.2 fun i h1 h2 => ht i (by omega) (by omega)⟩
theorem put_gen {S : List (List UInt8)} {g a : Nat} {f : Bool} {b : List UInt8} (hg : g < 4294967296) : ∀ {k : Nat}, Put S g k a f b -> 1 <= k -> genOf (S.getD a []) = g
 | 0, _, h => by omega
 | k + 1, h, _ => by
  unfold Put at h
  rw [h.1, enc_gen hg]
theorem put_kind {S : List (List UInt8)} {g : Nat} : ∀ (k a : Nat) (f : Bool) (b : List UInt8), Put S g k a f b -> ∀ i, a <= i -> i + 1 < a + k -> kindOf (S.getD i []) < 2
 | 0, _, _, _, _, _, h1, h2 => by omega
 | k + 1, a, f, b, h, i, h1, h2 => by
  unfold Put at h
  by_cases e : i = a
  ·subst e
   rw [h.1, enc_10 (kind_256 _ _), show (k == 0) = false by rw [beq_eq_false_iff_ne]; omega]
   cases f <;> decide
  ·exact put_kind k (a + 1) false (b.drop 112) h.2 i (by omega) (by omega)
def Run (S : List (List UInt8)) (Q : Nat -> Nat -> Prop) : Nat -> Nat -> List (List UInt8) -> Prop
 | a, last, [] => Q a last
 | a, last, b :: r => ∃ g, last <= g /\ 0 < g /\ g < 4294967296 /\ a + secN b.length <= S.length /\ Put S g (secN b.length) a true b /\ Run S Q (a + secN b.length) g r
def Stop (S : List (List UInt8)) (a last : Nat) : Prop := scan S a (S.length - a) a [] = none ∨ genOf (S.getD a []) < last
theorem recs_run {S : List (List UInt8)} (hS : S.length <= 4096) : ∀ (f : Nat) (R : List (List UInt8)) (a last : Nat), S.length - a < f -> Run S (Stop S) a last R -> recs S f a last = R
 | 0, _, _, _, h, _ => by omega
 | f + 1, [], a, last, h, hr => by
  unfold Run Stop at hr
  unfold recs
  rcases hr with hr | hr
  ·rw [hr]
  ·cases scan S a (S.length - a) a [] with
   | none => rfl
   | some p =>
    obtain ⟨b, e⟩ := p
    simp only []
    rw [decide_eq_false (by omega)]
    rfl
 | f + 1, b :: R, a, last, h, hr => by
  unfold Run at hr
  obtain ⟨g, h1, h2, h3, h4, h5, h6⟩ := hr
  have hp := secN_pos b.length
  have hga := put_gen h3 h5 hp
  have hs := scan_put h2 h3 hga (secN b.length) (S.length - a) a true b [] h5 (fit_sec b) hp (by omega) (by omega) (Nat.le_refl a) (by simp)
  unfold recs
  rw [hs]
  simp only [List.nil_append]
  rw [hga, decide_eq_true h1, cond_true, recs_run hS f R (a + secN b.length) g (by omega) h6]
theorem run_app {S : List (List UInt8)} {Q : Nat -> Nat -> Prop} (R2 : List (List UInt8)) : ∀ (R : List (List UInt8)) (a last : Nat), Run S (fun e l => Run S Q e l R2) a last R -> Run S Q a last (R ++ R2)
 | [], _, _, h => h
 | b :: R, a, last, h => by
  obtain ⟨g, h1, h2, h3, h4, h5, h6⟩ := h
  exact ⟨g, h1, h2, h3, h4, h5, run_app R2 R _ g h6⟩
theorem getD_mem {S : List (List UInt8)} {i : Nat} (h : i < S.length) : S.getD i [] ∈ S := by
 rw [getD_at h]
 exact List.getElem_mem h
theorem run_mono {S T : List (List UInt8)} {m : Nat} (hm : ∀ b ∈ S, genOf b <= m) (hl : T.length = S.length) {P Q : Nat -> Nat -> Prop} : ∀ (R : List (List UInt8)) (a last : Nat), last <= m -> (∀ i, a <= i -> i < a + tot R -> T.getD i [] = S.getD i []) -> (∀ l, l <= m -> P (a + tot R) l -> Q (a + tot R) l) -> Run S P a last R -> Run T Q a last R
 | [], a, last, h, _, hq, hr => hq last h hr
 | b :: R, a, last, h, ht, hq, hr => by
  obtain ⟨g, h1, h2, h3, h4, h5, h6⟩ := hr
  have hp := secN_pos b.length
  rw [tot_cons] at ht hq
  have hga : g <= m := by
   rw [<- put_gen h3 h5 hp]
   exact hm _ (getD_mem (by omega))
  exact ⟨g, h1, h2, h3, by omega, put_congr _ _ _ _ h5 (fun i h1 h2 => ht i h1 (by omega)), run_mono hm hl R (a + secN b.length) g hga (fun i h1 h2 => ht i (by omega) (by omega)) (by rw [Nat.add_assoc]; exact hq) h6⟩
theorem perf_app (S : List (List UInt8)) (P R : List S_Write) : perf S (P ++ R) = perf (perf S P) R := List.foldl_append
theorem set_ne {S : List (List UInt8)} {i j : Nat} {x : List UInt8} (h : i ≠ j) : (S.set i x).getD j [] = S.getD j [] := by
 rw [List.getD_eq_getElem?_getD, List.getD_eq_getElem?_getD, List.getElem?_set_ne h]
theorem set_eq {S : List (List UInt8)} {i : Nat} {x : List UInt8} (h : i < S.length) : (S.set i x).getD i [] = x := by
 rw [List.getD_eq_getElem?_getD, List.getElem?_set_self h]
 rfl
theorem perf_out : ∀ (P : List S_Write) (S : List (List UInt8)) (i : Nat), (∀ w ∈ P, w.At.toNat ≠ i) -> (perf S P).getD i [] = S.getD i []
 | [], S, i, _ => rfl
 | w :: P, S, i, h => by
  show (perf (S.set w.At.toNat w.Data) P).getD i [] = _
  rw [perf_out P _ i (fun w hw => h w (List.mem_cons_of_mem _ hw)), set_ne (h w List.mem_cons_self)]
theorem perf_mem : ∀ (P : List S_Write) (S : List (List UInt8)) (b : List UInt8), b ∈ perf S P -> b ∈ S ∨ ∃ w ∈ P, b = w.Data
 | [], S, b, h => .inl h
 | w :: P, S, b, h => by
  rcases perf_mem P (S.set w.At.toNat w.Data) b h with h | ⟨v, hv, h⟩
  ·rcases List.mem_or_eq_of_mem_set h with h | h
   ·exact .inl h
   ·exact .inr ⟨w, List.mem_cons_self, h⟩
  ·exact .inr ⟨v, List.mem_cons_of_mem _ hv, h⟩
theorem perf_piece (g : Nat) : ∀ (k a : Nat) (f : Bool) (b : List UInt8) (S : List (List UInt8)), a + k <= S.length -> Put (perf S (wpiece g k a f b)) g k a f b
 | 0, _, _, _, _, _ => trivial
 | k + 1, a, f, b, S, h => by
  unfold Put wpiece
  show (perf (S.set a (enc g a (kindC f (k == 0)) (b.take 112))) (wpiece g k (a + 1) false (b.drop 112))).getD a [] = _ /\ Put (perf (S.set a (enc g a (kindC f (k == 0)) (b.take 112))) (wpiece g k (a + 1) false (b.drop 112))) g k (a + 1) false (b.drop 112)
  refine ⟨?_, perf_piece g k (a + 1) false (b.drop 112) _ (by rw [List.length_set]; omega)⟩
  rw [perf_out _ _ _ (fun w hw => by have := wpiece_at g k (a + 1) false (b.drop 112) w hw; omega), set_eq (by omega)]
theorem run_writes (g : Nat) (hg0 : 0 < g) (hg : g < 4294967296) {Q : Nat -> Nat -> Prop} : ∀ (R : List (List UInt8)) (a : Nat) (S : List (List UInt8)), a + tot R <= S.length -> Q (a + tot R) g -> Run (perf S (writes g a R)) Q a g R
 | [], a, S, _, h => h
 | b :: R, a, S, h, hq => by
  rw [tot_cons] at h hq
  have hp : ∀ w ∈ writes g (a + secN b.length) R, ∀ i, i < a + secN b.length -> w.At.toNat ≠ i := fun w hw i hi => by
   have := writes_at g R _ w hw
   omega
  unfold writes
  rw [perf_app]
  refine ⟨g, Nat.le_refl _, hg0, hg, by rw [perf_len, perf_len]; omega, put_congr _ _ _ _ (perf_piece g (secN b.length) a true b S (by omega)) (fun i h1 h2 => perf_out _ _ _ fun w hw => hp w hw i h2), ?_⟩
  exact run_writes g hg0 hg R (a + secN b.length) _ (by rw [perf_len]; omega) (by rw [Nat.add_assoc]; exact hq)
theorem run_last {S : List (List UInt8)} {Q : Nat -> Nat -> Prop} {a last l : Nat} {R : List (List UInt8)} (hR : R ≠ []) (hl : l <= last) (h : Run S Q a last R) : Run S Q a l R := by
 cases R with
 | nil => exact absurd rfl hR
 | cons b R =>
  obtain ⟨g, g1, g2⟩ := h
  exact ⟨g, by omega, g2⟩
theorem wpiece_data (g : Nat) (hg : g < 4294967296) : ∀ (k a : Nat) (f : Bool) (b : List UInt8), ∀ w ∈ wpiece g k a f b, genOf w.Data = g /\ num (w.Data.drop 124) = g
 | 0, _, _, _, w, hw => by cases hw
 | k + 1, a, f, b, w, hw => by
  unfold wpiece at hw
  rcases List.mem_cons.1 hw with rfl | hw
  ·exact ⟨enc_gen hg, enc_tail hg (by rw [List.length_take]; omega)⟩
  ·exact wpiece_data g hg k (a + 1) false (b.drop 112) w hw
theorem writes_data (g : Nat) (hg : g < 4294967296) : ∀ (R : List (List UInt8)) (a : Nat), ∀ w ∈ writes g a R, genOf w.Data = g /\ num (w.Data.drop 124) = g
 | [], _, w, hw => by cases hw
 | b :: R, a, w, hw => by
  unfold writes at hw
  rcases List.mem_append.1 hw with hw | hw
  ·exact wpiece_data g hg _ _ _ _ w hw
  ·exact writes_data g hg R _ w hw
theorem wpiece_get (g : Nat) : ∀ (k a : Nat) (f : Bool) (b : List UInt8) (i : Nat) (w : S_Write), (wpiece g k a f b)[i]? = some w -> w.At = ((a + i : Nat) : Int)
 | 0, _, _, _, i, w, h => by cases h
 | k + 1, a, f, b, 0, w, h => by
  unfold wpiece at h
  rw [List.getElem?_cons_zero, Option.some.injEq] at h
  rw [<- h]
  rfl
 | k + 1, a, f, b, i + 1, w, h => by
  unfold wpiece at h
  rw [List.getElem?_cons_succ] at h
  rw [wpiece_get g k (a + 1) false (b.drop 112) i w h, show a + 1 + i = a + (i + 1) by omega]
theorem writes_get (g : Nat) : ∀ (R : List (List UInt8)) (a i : Nat) (w : S_Write), (writes g a R)[i]? = some w -> w.At = ((a + i : Nat) : Int)
 | [], _, i, w, h => by cases h
 | b :: R, a, i, w, h => by
  unfold writes at h
  by_cases e : i < secN b.length
  ·rw [List.getElem?_append_left (by rw [wpiece_len]; exact e)] at h
   exact wpiece_get g _ _ _ _ i w h
  ·rw [List.getElem?_append_right (by rw [wpiece_len]; omega), wpiece_len] at h
   rw [writes_get g R _ _ w h, show a + secN b.length + (i - secN b.length) = a + i by omega]
structure Std (S R : List (List UInt8)) (m : Nat) : Prop where
 pos : 1 <= S.length
 len : S.length <= 4096
 sec : ∀ b ∈ S, b.length = 128
 gen : ∀ b ∈ S, genOf b <= m /\ num (b.drop 124) <= m
 run : Run S (Stop S) 0 0 R
theorem Std.recs {S R : List (List UInt8)} {m : Nat} (h : Std S R m) : recsOf S = R := recs_run h.len _ _ _ _ (by omega) h.run
theorem Std.weak {S R : List (List UInt8)} {m n : Nat} (h : Std S R m) (hn : m <= n) : Std S R n := ⟨h.pos, h.len, h.sec, fun b hb => by have := h.gen b hb; omega, h.run⟩
theorem Std.full {S R0 : List (List UInt8)} {m : Nat} (h : Std S R0 m) {R : List (List UInt8)} (hR : tot R0 + tot R <= S.length) (hne : R ≠ []) {g : Nat} (hg : m < g) (hg2 : g < 4294967296) : Std (perf S (writes g (tot R0) R)) (R0 ++ R) g := by
 have hat := writes_at g R (tot R0)
 refine ⟨by rw [perf_len]; exact h.pos, by rw [perf_len]; exact h.len, perf_sec _ _ h.sec (fun w hw => (hat w hw).2.2), fun b hb => ?_, ?_⟩
 ·rcases perf_mem _ _ _ hb with hb | ⟨w, hw, rfl⟩
  ·have := h.gen b hb; omega
  ·have := writes_data g hg2 R _ w hw; omega
 ·refine run_app R R0 0 0 (run_mono (m := m) (fun b hb => (h.gen b hb).1) (perf_len _ _) R0 0 0 (Nat.zero_le _) (fun i _ hi => perf_out _ _ _ fun w hw => by have := hat w hw; omega) ?_ h.run)
  intro l hl _
  rw [Nat.zero_add]
  refine run_last hne (by omega) (run_writes g (by omega) hg2 R (tot R0) S hR ?_)
  unfold Stop
  rw [perf_len]
  by_cases e : tot R0 + tot R = S.length
  ·left
   rw [show S.length - (tot R0 + tot R) = 0 by omega]
   rfl
  ·right
   rw [perf_out _ _ _ (fun w hw => by have := hat w hw; omega)]
   have := (h.gen _ (getD_mem (show tot R0 + tot R < S.length by omega))).1
   omega
theorem scan_bad {U : List (List UInt8)} {a p : Nat} (hb : goodB (U.getD p []) p = false) : ∀ (k n : Nat) (acc : List UInt8), n <= p -> (∀ i, n <= i -> i < p -> kindOf (U.getD i []) < 2) -> scan U a k n acc = none
 | 0, _, _, _, _ => rfl
 | k + 1, n, acc, hn, hk => by
  unfold scan
  cases hg : goes U a n with
  | false => rfl
  | true =>
   by_cases e : n = p
   ·subst e
    unfold goes at hg
    rw [hb] at hg
    cases hg
   ·have := hk n (Nat.le_refl _) (by omega)
    rw [cond_true, decide_eq_false (show ¬ 2 <= kindOf (U.getD n []) by omega), cond_false]
    exact scan_bad hb k (n + 1) _ (by omega) (fun i h1 h2 => hk i (by omega) h2)
theorem run_cut {T U : List (List UInt8)} {p : Nat} (hl : U.length = T.length) (hb : goodB (U.getD p []) p = false) {Q : Nat -> Nat -> Prop} : ∀ (R : List (List UInt8)) (a last : Nat), a <= p -> p < a + tot R -> (∀ i, a <= i -> i < p -> U.getD i [] = T.getD i []) -> Run T Q a last R -> ∃ j, j < R.length /\ a + tot (R.take j) <= p /\ p < a + tot (R.take (j + 1)) /\ Run U (Stop U) a last (R.take j)
 | [], a, last, h1, h2, _, _ => by rw [show tot [] = 0 from rfl] at h2; omega
 | b :: R, a, last, h1, h2, hu, hr => by
  obtain ⟨g, g1, g2, g3, g4, g5, g6⟩ := hr
  rw [tot_cons] at h2
  by_cases e : p < a + secN b.length
  ·refine ⟨0, by rw [List.length_cons]; omega, by rw [List.take_zero, show tot [] = 0 from rfl]; omega, by rw [List.take_succ_cons, tot_cons]; omega, .inl ?_⟩
   exact scan_bad hb _ _ _ h1 (fun i i1 i2 => by rw [hu i i1 i2]; exact put_kind _ _ _ _ g5 i i1 (by omega))
  ·obtain ⟨j, j1, j2, j3, j4⟩ := run_cut hl hb R (a + secN b.length) g (by omega) (by omega) (fun i i1 i2 => hu i (by omega) i2) g6
   refine ⟨j + 1, by rw [List.length_cons]; omega, by rw [List.take_succ_cons, tot_cons]; omega, by rw [List.take_succ_cons, tot_cons]; omega, ?_⟩
   rw [List.take_succ_cons]
   exact ⟨g, g1, g2, g3, by omega, put_congr _ _ _ _ g5 (fun i i1 i2 => hu i i1 (by omega)), j4⟩
end Go.Proofs.Ytobjniabioaefaa
