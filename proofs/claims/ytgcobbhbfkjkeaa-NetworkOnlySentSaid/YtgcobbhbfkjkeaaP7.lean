/-
  Layer 6, in plain Lean: what is delivered has been sent.
-/
import Derived.Test.YtgcobbhbfkjkeaaP5
namespace Go.Proofs.Ytgcobbhbfkjkeaa
set_option linter.unusedVariables false
set_option linter.unusedSimpArgs false
set_option maxRecDepth 100000
def atOf (x : S_Net) (m : S_kinespherelaw06_Move) : Int := if 0 < x.Queue.length then Int.tmod (wr .i64 m.At) (x.Queue.length : Int) else 0
/-- What happens. -/
def hap (x : S_Net) (m : S_kinespherelaw06_Move) : S_Net × S_Packet × Int :=
  let k := Int.tmod m.Kind 6
  let a := Int.tmod (wr .i64 m.A) 24
  let b := Int.tmod (wr .i64 m.B) 24
  if k = 0 then ((sendR x (S_Packet.mk a b [UInt8.ofNat (Int.toNat m.Data)])).1, zeroP, (sendR x (S_Packet.mk a b [UInt8.ofNat (Int.toNat m.Data)])).2)
  else if k = 1 then ((delR x (atOf x m)).2.1, (delR x (atOf x m)).1, (delR x (atOf x m)).2.2)
  else if k = 2 then ((loseR x (atOf x m)).1, zeroP, (loseR x (atOf x m)).2)
  else if k = 3 then ((repR x (atOf x m)).1, zeroP, (repR x (atOf x m)).2)
  else if k = 4 then ((cutR x a b true).1, zeroP, (cutR x a b true).2)
  else if k = 5 then ((cutR x a b false).1, zeroP, (cutR x a b false).2)
  else (zeroN, zeroP, 0)
theorem bif_if {α : Type} {p : Prop} [Decidable p] (a b : α) : (bif decide p then a else b) = if p then a else b := by by_cases h : p <;> simp [h]
theorem g27 (x : S_Net) (m : S_kinespherelaw06_Move) (hd : 0 ≤ m.Data ∧ m.Data < 256) (hq : x.Queue.length ≤ 4095) (hA : x.Apart.length ≤ fuel0) : G27 x m = some (hap x m) := by
  unfold G27 F27 hap atOf
  have e : (decide (0 ≤ m.Data) && decide (m.Data < 256)) = true := by simp [hd]
  have eq0 : ∀ (k c : Int), (k == c) = decide (k = c) := fun k c => rfl
  by_cases h : 0 < x.Queue.length
  · rw [show decide ((0 : Int) < (x.Queue.length : Int)) = true by simpa using h, decide_eq_true (show ((x.Queue.length : Int)) ≠ 0 by omega)]
    simp only [cond_true, e, if_pos h, g11 x _ hq hA, g18 x _ hA, g23 x _ hA, g25 x _ hq hA, g20 x _ _ _ hA, Option.bind_some, eq0, bif_if]
    repeat' split
    all_goals rfl
  · rw [show decide ((0 : Int) < (x.Queue.length : Int)) = false by simpa using h]
    simp only [cond_false, cond_true, e, if_neg h, g11 x _ hq hA, g18 x _ hA, g23 x _ hA, g25 x _ hq hA, g20 x _ _ _ hA, Option.bind_some, eq0, bif_if]
    repeat' split
    all_goals rfl
/-- What has been reached. -/
structure Inv (x : S_Net) (sent : List S_Packet) (cuts : Int) (i : Nat) : Prop where
  ok : okN x = true
  sub : ∀ p ∈ x.Queue, p ∈ sent
  cut : cuts = 0 → x.Apart = []
  c0 : 0 ≤ cuts ∧ cuts ≤ i
  ql : x.Queue.length ≤ i
  sl : sent.length ≤ i
  al : x.Apart.length ≤ 576
theorem Inv.next {x : S_Net} {sent : List S_Packet} {cuts : Int} {i : Nat} (h : Inv x sent cuts i) : Inv x sent cuts (i + 1) :=
  ⟨h.ok, h.sub, h.cut, by have := h.c0; omega, by have := h.ql; omega, by have := h.sl; omega, h.al⟩
theorem Inv.without {x : S_Net} {sent : List S_Packet} {cuts : Int} {i : Nat} (h : Inv x sent cuts i) (k : Nat) : Inv (without x k) sent cuts (i + 1) := by
  refine ⟨okN_without h.ok k, fun p hp => h.sub p ?_, h.cut, by have := h.c0; omega, ?_, by have := h.sl; omega, h.al⟩
  · rcases List.mem_append.1 hp with hp | hp
    · exact List.mem_of_mem_take hp
    · exact List.mem_of_mem_drop hp
  · have := h.ql
    unfold Proofs.Ytgcobbhbfkjkeaa.without
    simp; omega
theorem f71 (n : Nat) (L : List S_kinespherelaw06_Move) (v39 : Bool) (v40 v41 : Int) (Q : List S_Packet) (A : List (Int × Int)) (sent Q2 : List S_Packet) (A2 : List (Int × Int)) (p : S_Packet) (hl : sent.length ≤ 100) : ∀ (m i : Nat) (b : Bool), i ≤ sent.length → sent.length - i < m →
    F7_7_1 n L v39 v40 v41 Q A sent Q2 A2 p.From p.To p.Data m b (i : Int) = some (b || (sent.drop i).any fun q => sameP q p)
  | 0, i, b, _, h => absurd h (Nat.not_lt_zero _)
  | m + 1, i, b, hi, h => by
    unfold F7_7_1
    by_cases hlt : i < sent.length
    · have ih := fun b => f71 n L v39 v40 v41 Q A sent Q2 A2 p hl m (i + 1) b (by omega) (by omega)
      rw [show decide ((i : Int) < (sent.length : Int)) = true by simpa using hlt, cond_true, wr1 (by rw [fu]; omega), List.drop_eq_getElem_cons hlt, List.any_cons]
      cases b with
      | true => simp only [cond_true, Option.bind_some, ih]; simp
      | false =>
        simp only [cond_false]
        rw [getI_nat, List.getElem?_eq_getElem hlt, Option.bind_some, g19]
        simp only [Option.bind_some, ih]
        simp
    · rw [show decide ((i : Int) < (sent.length : Int)) = false by simpa using hlt, List.drop_eq_nil_iff.2 (by omega)]
      simp
theorem zero_same : G15 zeroN (S_Net.mk [] []) = some true := g15r (S_Net.mk [] []) (Nat.zero_le _) (Nat.zero_le _)
theorem step7 {x : S_Net} {sent : List S_Packet} {cuts : Int} {i : Nat} (h : Inv x sent cuts i) (hi : i ≤ 60) (m : S_kinespherelaw06_Move) :
    ((hap x m).2.2 ≠ 0 ∧ (hap x m).1 = zeroN) ∨
    ((hap x m).2.2 = 0 ∧ okN (hap x m).1 = true ∧
      ((Int.tmod m.Kind 6 = 0 ∧ ∃ p, (hap x m).1.Queue = x.Queue ++ [p] ∧ Inv (hap x m).1 (sent ++ [p]) cuts (i + 1)) ∨
       (Int.tmod m.Kind 6 ≠ 0 ∧ Int.tmod m.Kind 6 = 1 ∧ ((sameP (hap x m).2.1 zeroP && decide (0 < cuts)) || sent.any fun q => sameP q (hap x m).2.1) = true ∧ Inv (hap x m).1 sent cuts (i + 1)) ∨
       (Int.tmod m.Kind 6 ≠ 0 ∧ Int.tmod m.Kind 6 ≠ 1 ∧ Int.tmod m.Kind 6 = 4 ∧ Inv (hap x m).1 sent (cuts + 1) (i + 1)) ∨
       (Int.tmod m.Kind 6 ≠ 0 ∧ Int.tmod m.Kind 6 ≠ 1 ∧ Int.tmod m.Kind 6 ≠ 4 ∧ Inv (hap x m).1 sent cuts (i + 1)))) := by
  have hql := h.ql
  have hk : 0 ≤ Int.tmod m.Kind 6 ∨ Int.tmod m.Kind 6 < 0 := by omega
  have send : ∀ p : S_Packet, (sendR x p).2 ≠ 0 ∧ (sendR x p).1 = zeroN ∨ (okP p = true ∧ sendR x p = (S_Net.mk (x.Queue ++ [p]) x.Apart, 0)) := fun p => by
    unfold sendR
    rw [h.ok]
    cases hp : okP p with
    | false => left; simp [zeroN]
    | true => right; simp
  have app : ∀ (p : S_Packet) (s : List S_Packet), okP p = true → (∀ q ∈ x.Queue ++ [p], q ∈ s) → s.length ≤ i + 1 → Inv (S_Net.mk (x.Queue ++ [p]) x.Apart) s cuts (i + 1) := fun p s hp hs hl =>
    ⟨okN_more h.ok hp (by omega), hs, h.cut, by have := h.c0; omega, by simp; omega, hl, h.al⟩
  have hat : ∀ a, (atR x a).2 ≠ 0 ∨ ∃ k : Nat, a = k ∧ ∃ hlt : k < x.Queue.length, atR x a = (x.Queue[k], 0) := fun a => by
    by_cases e : (atR x a).2 = 0
    · obtain ⟨_, h2, h3, h4⟩ := atR_ok e
      right
      exact ⟨a.toNat, by omega, h3, Prod.ext h4 e⟩
    · exact .inl e
  have cutI : ∀ on c', (c' = 0 → on = false ∧ cuts = 0) → (0 ≤ c' ∧ c' ≤ cuts + 1) → ∀ a b, okL (link a b) = true → Inv (S_Net.mk x.Queue (allK (keepL x.Apart (link a b) on) 24)) sent c' (i + 1) := fun on c' h1 h2 a b hl =>
    ⟨okN_cut h.ok _, h.sub, fun hc => by
      obtain ⟨e1, e2⟩ := h1 hc
      subst e1
      have hx0 := h.cut e2
      have : allK (keepL [] (link a b) false) 24 = allK (fun _ _ => false) 24 := all_same fun u v _ => by
        unfold keepL isCut
        cases (u == (link a b).1 && v == (link a b).2) <;> rfl
      show allK (keepL x.Apart (link a b) false) 24 = []
      rw [hx0, this]
      decide +kernel, by have := h.c0; omega, by simp; omega, by have := h.sl; omega, allK_small _⟩
  have cutC : ∀ on a b, (cutR x a b on).2 ≠ 0 ∧ (cutR x a b on).1 = zeroN ∨ (okL (link a b) = true ∧ cutR x a b on = (S_Net.mk x.Queue (allK (keepL x.Apart (link a b) on) 24), 0)) := fun on a b => by
    cases hl : okL (link a b) with
    | false => left; unfold cutR; rw [if_pos h.ok, if_neg (by rw [hl]; simp)]; exact ⟨by simp, rfl⟩
    | true => right; exact ⟨rfl, cutR_ok h.ok hl on⟩
  unfold hap
  simp only
  by_cases k0 : Int.tmod m.Kind 6 = 0
  · simp only [k0, if_true]
    rcases send (S_Packet.mk (Int.tmod (wr .i64 m.A) 24) (Int.tmod (wr .i64 m.B) 24) [UInt8.ofNat (Int.toNat m.Data)]) with hs | ⟨hp, hs⟩
    · exact .inl hs
    · right
      rw [hs]
      refine ⟨rfl, okN_more h.ok hp (by omega), .inl ⟨trivial, _, rfl, app _ _ hp (fun q hq => ?_) (by have := h.sl; simp; omega)⟩⟩
      rcases List.mem_append.1 hq with hq | hq
      · exact List.mem_append.2 (.inl (h.sub q hq))
      · exact List.mem_append.2 (.inr hq)
  · by_cases k1 : Int.tmod m.Kind 6 = 1
    · simp only [k1, if_true, show ¬ ((1 : Int) = 0) by decide, if_false]
      rcases hat (atOf x m) with e | ⟨k, hk, hlt, e⟩
      · left
        unfold delR
        rw [if_neg e]
        exact ⟨e, rfl⟩
      · right
        rw [hk, delR_cut h.ok hlt]
        refine ⟨rfl, okN_without h.ok k, .inr (.inl ⟨by decide, trivial, ?_, h.without k⟩)⟩
        simp only
        split
        · rename_i hc
          have : cuts ≠ 0 := fun e => by
            rw [h.cut e] at hc; cases hc
          have hc0 := h.c0.1
          rw [sameP_refl, decide_eq_true (by omega)]
          rfl
        · rw [Bool.or_eq_true]
          right
          exact List.any_eq_true.2 ⟨_, h.sub _ (List.getElem_mem hlt), sameP_refl _⟩
    · by_cases k2 : Int.tmod m.Kind 6 = 2
      · simp only [k2, if_true, show ¬ ((2 : Int) = 0) by decide, show ¬ ((2 : Int) = 1) by decide, if_false]
        rcases hat (atOf x m) with e | ⟨k, hk, hlt, e⟩
        · left
          unfold loseR
          rw [if_neg e]
          exact ⟨e, rfl⟩
        · right
          have : loseR x (k : Int) = (without x k, 0) := by unfold loseR; rw [atR_at h.ok hlt]; simp
          rw [hk, this]
          exact ⟨rfl, okN_without h.ok k, .inr (.inr (.inr ⟨by decide, by decide, by decide, h.without k⟩))⟩
      · by_cases k3 : Int.tmod m.Kind 6 = 3
        · simp only [k3, if_true, show ¬ ((3 : Int) = 0) by decide, show ¬ ((3 : Int) = 1) by decide, show ¬ ((3 : Int) = 2) by decide, if_false]
          rcases hat (atOf x m) with e | ⟨k, hk, hlt, e⟩
          · left
            unfold repR
            rw [if_neg e]
            exact ⟨e, rfl⟩
          · right
            have hp : okP x.Queue[k] = true := ((okN_iff x).1 h.ok).2.1 _ (List.getElem_mem hlt)
            have : repR x (k : Int) = (S_Net.mk (x.Queue ++ [x.Queue[k]]) x.Apart, 0) := by
              unfold repR sendR; rw [atR_at h.ok hlt]; simp [h.ok, hp]
            rw [hk, this]
            refine ⟨rfl, okN_more h.ok hp (by omega), .inr (.inr (.inr ⟨by decide, by decide, by decide, app _ _ hp (fun q hq => ?_) (by have := h.sl; omega)⟩))⟩
            rcases List.mem_append.1 hq with hq | hq
            · exact h.sub q hq
            · have : q = x.Queue[k] := by simpa using hq
              rw [this]; exact h.sub _ (List.getElem_mem hlt)
        · by_cases k4 : Int.tmod m.Kind 6 = 4
          · simp only [k4, if_true, show ¬ ((4 : Int) = 0) by decide, show ¬ ((4 : Int) = 1) by decide, show ¬ ((4 : Int) = 2) by decide, show ¬ ((4 : Int) = 3) by decide, if_false]
            rcases cutC true (Int.tmod (wr .i64 m.A) 24) (Int.tmod (wr .i64 m.B) 24) with e | ⟨hl, e⟩
            · exact .inl e
            · right
              rw [e]
              exact ⟨rfl, okN_cut h.ok _, .inr (.inr (.inl ⟨by decide, by decide, trivial, cutI true (cuts + 1) (fun hc => by have := h.c0; omega) (by have := h.c0; omega) _ _ hl⟩))⟩
          · by_cases k5 : Int.tmod m.Kind 6 = 5
            · simp only [k5, if_true, show ¬ ((5 : Int) = 0) by decide, show ¬ ((5 : Int) = 1) by decide, show ¬ ((5 : Int) = 2) by decide, show ¬ ((5 : Int) = 3) by decide, show ¬ ((5 : Int) = 4) by decide, if_false]
              rcases cutC false (Int.tmod (wr .i64 m.A) 24) (Int.tmod (wr .i64 m.B) 24) with e | ⟨hl, e⟩
              · exact .inl e
              · right
                rw [e]
                exact ⟨rfl, okN_cut h.ok _, .inr (.inr (.inr ⟨by decide, by decide, by decide, cutI false cuts (fun hc => ⟨rfl, hc⟩) (by have := h.c0; omega) _ _ hl⟩))⟩
            · simp only [k0, k1, k2, k3, k4, k5, if_false]
              right
              refine ⟨trivial, by decide, .inr (.inr (.inr ⟨k0, k1, k4, ⟨by decide, fun p hp => (by cases hp), fun _ => rfl, by have := h.c0; omega, Nat.zero_le _, by have := h.sl; omega, Nat.zero_le _⟩⟩))⟩
theorem f70 (n : Nat) (hn : 200 ≤ n) (L : List S_kinespherelaw06_Move) (hL : L.length ≤ 60) (hok : ∀ m ∈ L, 0 ≤ m.Data ∧ m.Data < 256) (v6 : Bool) : ∀ (f i : Nat) (cuts : Int) (x : S_Net) (sent : List S_Packet), i ≤ L.length → L.length - i < f → Inv x sent cuts i →
    ∃ y, F7_7_0 n L v6 f cuts (i : Int) x.Queue x.Apart sent = some (.inr y)
  | 0, i, _, _, _, _, h, _ => absurd h (Nat.not_lt_zero _)
  | f + 1, i, cuts, x, sent, hi, h, hI => by
    unfold F7_7_0
    by_cases hlt : i < L.length
    · have hA : x.Apart.length ≤ fuel0 := by have := hI.al; rw [fu]; omega
      have hq : x.Queue.length ≤ 4095 := by have := hI.ql; omega
      rw [show decide ((i : Int) < (L.length : Int)) = true by simpa using hlt, cond_true, getI_nat, List.getElem?_eq_getElem hlt, Option.bind_some, g27 x _ (hok _ (List.getElem_mem hlt)) hq hA, Option.bind_some, wr1 (by rw [fu]; omega)]
      generalize hm : L[i] = m
      have ih := fun cuts' x' sent' hI' => f70 n hn L hL hok v6 f (i + 1) cuts' x' sent' (by omega) (by omega) hI'
      rcases step7 hI (by omega) m with ⟨e1, e2⟩ | ⟨e1, e2, e3⟩
      · rw [show ((hap x m).2.2 != 0) = true by simpa using e1, e2, cond_true, g13 x hA, if_pos hI.ok]
        simp only [bne_self_eq_false, Option.bind_some, cond_false, zero_same, Bool.not_true]
        exact ih cuts x sent hI.next
      · rw [e1]
        have w13 : ∀ {s : List S_Packet} {c : Int}, Inv (hap x m).1 s c (i + 1) → G13 (hap x m).1 = some 0 := fun hI' => by
          rw [g13 _ (by have := hI'.al; rw [fu]; omega), if_pos e2]
        simp only [bne_self_eq_false, cond_false, Option.bind_some]
        rcases e3 with ⟨k0, p, hp, hI'⟩ | ⟨k0, k1, hmet, hI'⟩ | ⟨k0, k1, k4, hI'⟩ | ⟨k0, k1, k4, hI'⟩
        · have hql := hI.ql
          have hsl := hI.sl
          have hlen : ((hap x m).1.Queue.length : Int) = (x.Queue.length : Int) + 1 := by rw [hp]; simp
          rw [k0, w13 hI']
          simp only [beq_self_eq_true, cond_true, hlen, Option.bind_some]
          rw [show ((x.Queue.length : Int) + 1 == 0) = false by rw [beq_eq_false_iff_ne]; omega, wr64 (by omega) (by omega), show (x.Queue.length : Int) + 1 - 1 = ((x.Queue.length : Nat) : Int) by omega, getI_nat, hp]
          simp only [cond_false]
          rw [List.getElem?_append_right (Nat.le_refl _)]
          simp only [Nat.sub_self, List.getElem?_cons_zero, Option.bind_some]
          rw [appI_some 40 sent _ (by rw [lim]; simp; omega), Option.bind_some]
          simp only [bne_self_eq_false, cond_false]
          rw [← hp]
          exact ih cuts _ _ hI'
        · have hsl := hI.sl
          rw [k1, w13 hI', g19]
          simp only [show ((1 : Int) == 0) = false from rfl, show ((1 : Int) == 1) = true from rfl, cond_true, cond_false, Option.bind_some, and_some]
          have h71 := f71 n L v6 cuts (i : Int) x.Queue x.Apart sent (hap x m).1.Queue (hap x m).1.Apart (hap x m).2.1 (by omega) (n + 8) 0 (sameP (hap x m).2.1 zeroP && decide (0 < cuts)) (Nat.zero_le _) (by omega)
          rw [show ((0 : Nat) : Int) = 0 from rfl, List.drop_zero] at h71
          rw [show S_Packet.mk 0 0 [] = zeroP from rfl, h71, hmet]
          simp only [Option.bind_some, Bool.not_true, cond_false, bne_self_eq_false]
          exact ih cuts _ _ hI'
        · rw [k4, w13 hI']
          have hc := hI.c0
          simp only [show ((4 : Int) == 0) = false from rfl, show ((4 : Int) == 1) = false from rfl, show ((4 : Int) == 4) = true from rfl, cond_true, cond_false, Option.bind_some, bne_self_eq_false]
          rw [wr64 (by omega) (by omega)]
          exact ih (cuts + 1) _ _ hI'
        · rw [w13 hI', show (Int.tmod m.Kind 6 == 0) = false by simpa using k0, show (Int.tmod m.Kind 6 == 1) = false by simpa using k1, show (Int.tmod m.Kind 6 == 4) = false by simpa using k4]
          simp only [cond_false, Option.bind_some, bne_self_eq_false]
          exact ih cuts _ _ hI'
    · rw [show decide ((i : Int) < (L.length : Int)) = false by simpa using hlt]
      exact ⟨_, rfl⟩
theorem pure7 : Pure7 := by
  intro L hL
  unfold G7 F7
  rw [sane9, Option.bind_some]
  by_cases h60 : L.length ≤ 60
  · have e16 : G16 = some (S_Net.mk [] []) := rfl
    rw [show decide ((60 : Int) < (L.length : Int)) = false by simp; omega, e16]
    obtain ⟨y, hy⟩ := f70 fuel0 (by decide) L h60 (fun m hm => by have := hL.2 m hm; unfold ok_S_kinespherelaw06_Move InU8 at this; omega) false (fuel0 + 8) 0 0 (S_Net.mk [] []) [] (Nat.zero_le _) (by rw [fu]; omega) ⟨by decide, fun p hp => (by cases hp), fun _ => rfl, by omega, Nat.zero_le _, Nat.zero_le _, Nat.zero_le _⟩
    rw [show ((0 : Nat) : Int) = 0 from rfl] at hy
    simp only [Option.bind_some, Bool.not_true, cond_false, hy]
  · rw [show decide ((60 : Int) < (L.length : Int)) = true by simp; omega]
    rfl
end Go.Proofs.Ytgcobbhbfkjkeaa
