/-
  Layer 15: what the functions are, in plain terms.
-/
import Derived.Test.YtmhnhokhlkppeaaDoorL
import Derived.Test.YtmhnhokhlkppeaaDoorPure
namespace Go.Proofs.YtmhnhokhlkppeaaDoor
set_option linter.unusedVariables false
set_option linter.unusedSimpArgs false
set_option linter.unusedVariables false
theorem sane_true : G10 = some true := by kernel_rfl
/-! ### within -/
def wIn (most x : Int) : Bool := !(decide (x < wr .i64 (0 - most)) || decide (most < x))
theorem l32 (n : Nat) (most : Int) (b : Bool) (l : List Int) (hl : l.length < 4611686018427387904) : ∀ (rest : List Int) (m i : Nat), l.drop i = rest → i ≤ l.length → rest.length < m → F32_32_0 n most b l l.length m i = some (bif rest.all (wIn most) then .inr () else .inl false)
  | [], 0, i, _, _, h => by simp at h
  | [], m + 1, i, hd, hi, h => by
    have : l.length = i := by have := List.drop_eq_nil_iff.1 hd; omega
    simp [F32_32_0, this]
  | a :: rest, 0, i, _, _, h => by simp at h
  | a :: rest, m + 1, i, hd, hi, h => by
    have hlt : i < l.length := by
      rcases Nat.lt_or_ge i l.length with h | h
      · exact h
      · rw [List.drop_eq_nil_iff.2 h] at hd; cases hd
    have ha : l[i]? = some a := by rw [← List.head?_drop, hd]; rfl
    have hr : l.drop (i + 1) = rest := by rw [← List.drop_drop, hd]; rfl
    have ih := l32 n most b l hl rest m (i + 1) hr hlt (by simpa using h)
    have hw : wr .i64 ((i : Int) + 1) = ((i + 1 : Nat) : Int) := by rw [wr64] <;> omega
    rw [F32_32_0, getI_nat, ha]
    simp only [Option.bind_some, or_some, hw, ih]
    rw [show decide ((i : Int) < (l.length : Int)) = true from by simpa using hlt]
    simp only [cond_true, List.all_cons, wIn]
    generalize (decide (a < wr .i64 (0 - most)) || decide (most < a)) = q
    cases q <;> simp
theorem g32 (most : Int) (l : List Int) (hl : l.length < 4611686018427387904) : G32 most l = some (l.all (wIn most)) := by
  unfold G32 F32
  have := l32 fuel0 most false l hl l (fuel0 + 4) 0 rfl (Nat.zero_le _) (by unfold fuel0; omega)
  rw [show F32_32_0 fuel0 most false l (l.length : Int) (fuel0 + 4) 0 = _ from this]
  cases l.all (wIn most) <;> rfl
/-! ### Vectors -/
def sm (v : S_Vec) : Bool := decide (-1048576 ≤ v.X ∧ v.X ≤ 1048576 ∧ -1048576 ≤ v.Y ∧ v.Y ≤ 1048576 ∧ -1048576 ≤ v.Z ∧ v.Z ≤ 1048576)
def dotw (u v : S_Vec) : Int := wr .i64 ((wr .i64 ((wr .i64 (u.X * v.X)) + (wr .i64 (u.Y * v.Y)))) + (wr .i64 (u.Z * v.Z)))
theorem g33 (v : S_Vec) : G33 v = some (sm v) := by
  unfold G33 F33 sm
  simp only [and_some, Option.bind_some, Option.some.injEq]
  rw [Bool.eq_iff_iff]
  simp only [Bool.and_eq_true, decide_eq_true_eq]
  omega
theorem g19 (u v : S_Vec) : G19 u v = some (if sm u && sm v then (dotw u v, 0) else (0, 2)) := by
  unfold G19 F19
  rw [g32 _ _ (by simp)]
  have e : [u.X, u.Y, u.Z, v.X, v.Y, v.Z].all (wIn 1048576) = (sm u && sm v) := by
    rw [Bool.eq_iff_iff]
    simp only [List.all_cons, List.all_nil, wIn, sm, Bool.and_eq_true, Bool.not_eq_true', Bool.or_eq_false_iff, decide_eq_false_iff_not, decide_eq_true_eq, wr64 (n := 0 - 1048576) (by omega) (by omega), Bool.and_true]
    omega
  rw [e, Option.bind_some]
  cases sm u && sm v <;> rfl
theorem g20 (u v : S_Vec) : G20 u v = some (if sm u && sm v then (dotw u v, 0) else (0, 2)) := by
  unfold G20 F20
  rw [g33, g33]
  simp only [Option.bind_some, or_some]
  cases sm u <;> cases sm v <;> rfl
/-! ### Boxes -/
def rg (a : S_Range) : Bool := decide (-1099511627776 ≤ a.Lo ∧ a.Lo ≤ a.Hi ∧ a.Hi ≤ 1099511627776)
def vb (a : S_Box) : Bool := rg a.X && rg a.Y
def zb : S_Box := ⟨⟨0, 0⟩, ⟨0, 0⟩⟩
def hull (a b : S_Range) : S_Range := ⟨if b.Lo < a.Lo then b.Lo else a.Lo, if a.Hi < b.Hi then b.Hi else a.Hi⟩
def meet (a b : S_Range) : Bool := decide (a.Lo ≤ b.Hi) && decide (b.Lo ≤ a.Hi)
def inn (a b : S_Range) : Bool := decide (b.Lo ≤ a.Lo) && decide (a.Hi ≤ b.Hi)
def mv (a : S_Range) (n : Int) : S_Range := ⟨wr .i64 (a.Lo + n), wr .i64 (a.Hi + n)⟩
def lim (n : Int) : Bool := decide (-2199023255552 ≤ n ∧ n ≤ 2199023255552)
theorem g43 (a : S_Range) : G43 a = some (rg a) := by
  unfold G43 F43 rg
  simp only [and_some, Option.bind_some, Option.some.injEq]
  rw [Bool.eq_iff_iff]
  simp only [Bool.and_eq_true, decide_eq_true_eq]
  omega
theorem g34 (a : S_Box) : G34 a = some (vb a) := by
  unfold G34 F34
  rw [g32 _ _ (by simp)]
  simp only [Option.bind_some, and_some, Option.some.injEq, vb, rg]
  rw [Bool.eq_iff_iff]
  simp only [List.all_cons, List.all_nil, wIn, Bool.and_eq_true, Bool.not_eq_true', Bool.or_eq_false_iff, decide_eq_false_iff_not, decide_eq_true_eq, wr64 (n := 0 - 1099511627776) (by omega) (by omega), Bool.and_true]
  omega
theorem g35 (a : S_Box) : G35 a = some (vb a) := by
  unfold G35 F35
  simp only [g43, Option.bind_some, and_some, vb]
theorem g36 (a b : S_Range) : G36 a b = some (hull a b) := rfl
theorem g38 (a b : S_Range) : G38 a b = some (meet a b) := by unfold G38 F38 meet; simp
theorem g39 (a b : S_Range) : G39 a b = some (meet a b) := by unfold G39 F39 meet; simp
theorem g40 (a b : S_Range) : G40 a b = some (inn a b) := by unfold G40 F40 inn; simp
theorem g41 (a b : S_Range) : G41 a b = some (inn a b) := by unfold G41 F41 inn; simp
theorem g21 (a b : S_Box) : G21 a b = some (if vb a && vb b then (⟨hull a.X b.X, hull a.Y b.Y⟩, 0) else (zb, 150)) := by
  unfold G21 F21
  simp only [g34, Option.bind_some, or_some]
  cases vb a <;> cases vb b <;> rfl
theorem g22 (a b : S_Box) : G22 a b = some (if vb a && vb b then (⟨hull a.X b.X, hull a.Y b.Y⟩, 0) else (zb, 150)) := by
  unfold G22 F22
  simp only [g35, g36, Option.bind_some, or_some]
  cases vb a <;> cases vb b <;> rfl
def apart (a b : S_Box) : Bool := !(meet a.X b.X && meet a.Y b.Y)
def inside (a b : S_Box) : Bool := inn a.X b.X && inn a.Y b.Y
theorem g23 (a b : S_Box) : G23 a b = some (if vb a && vb b then (apart a b, 0) else (false, 150)) := by
  unfold G23 F23 G37_38 F37_38
  simp only [g34, g38, Option.bind_some, or_some, and_some, apart]
  cases vb a <;> cases vb b <;> rfl
theorem g24 (a b : S_Box) : G24 a b = some (if vb a && vb b then (apart a b, 0) else (false, 150)) := by
  unfold G24 F24
  simp only [g35, g39, Option.bind_some, or_some, and_some, apart]
  cases vb a <;> cases vb b <;> cases meet a.X b.X <;> cases meet a.Y b.Y <;> rfl
theorem g25 (a b : S_Box) : G25 a b = some (if vb a && vb b then (inside a b, 0) else (false, 150)) := by
  unfold G25 F25 G37_40 F37_40
  simp only [g34, g40, Option.bind_some, or_some, and_some, inside]
  cases vb a <;> cases vb b <;> rfl
theorem g26 (a b : S_Box) : G26 a b = some (if vb a && vb b then (inside a b, 0) else (false, 150)) := by
  unfold G26 F26
  simp only [g35, g41, Option.bind_some, or_some, and_some, inside]
  cases vb a <;> cases vb b <;> cases inn a.X b.X <;> cases inn a.Y b.Y <;> rfl
def mvb (a : S_Box) (x y : Int) : S_Box := ⟨mv a.X x, mv a.Y y⟩
def shift (a : S_Box) (x y : Int) : S_Box × Int := if vb a then if lim x && lim y && vb (mvb a x y) then (mvb a x y, 0) else (zb, 2) else (zb, 150)
theorem g27 (a : S_Box) (x y : Int) : G27 a x y = some (shift a x y) := by
  unfold G27 F27
  rw [g32 _ _ (by simp)]
  have e : [x, y].all (wIn 2199023255552) = (lim x && lim y) := by
    rw [Bool.eq_iff_iff]
    simp only [List.all_cons, List.all_nil, wIn, lim, Bool.and_eq_true, Bool.not_eq_true', Bool.or_eq_false_iff, decide_eq_false_iff_not, decide_eq_true_eq, wr64 (n := 0 - 2199023255552) (by omega) (by omega), Bool.and_true]
    omega
  rw [e]
  simp only [g34, Option.bind_some]
  rw [show (⟨⟨wr .i64 (a.X.Lo + x), wr .i64 (a.X.Hi + x)⟩, ⟨wr .i64 (a.Y.Lo + y), wr .i64 (a.Y.Hi + y)⟩⟩ : S_Box) = mvb a x y from rfl]
  unfold shift
  cases vb a <;> cases lim x <;> cases lim y <;> cases vb (mvb a x y) <;> rfl
theorem g28 (a : S_Box) (x y : Int) : G28 a x y = some (shift a x y) := by
  have e42 : ∀ (r : S_Range) (n : Int), G42 r n = some (if lim n then (mv r n, rg (mv r n)) else (r, false)) := fun r n => by
    unfold G42 F42
    have e : (decide (n < -2199023255552) || decide (2199023255552 < n)) = !lim n := by
      rw [Bool.eq_iff_iff]
      simp only [lim, Bool.or_eq_true, Bool.not_eq_true', decide_eq_true_eq, decide_eq_false_iff_not]
      omega
    simp only [g43, Option.bind_some, or_some, e]
    cases lim n <;> rfl
  unfold G28 F28
  simp only [g35, e42, Option.bind_some, or_some]
  unfold shift
  have : vb (mvb a x y) = (rg (mv a.X x) && rg (mv a.Y y)) := rfl
  rw [this]
  cases vb a <;> cases lim x <;> cases lim y <;> cases rg (mv a.X x) <;> cases rg (mv a.Y y) <;> rfl
/-! ### Directions -/
theorem g1112 (a b : Int) : G11 a b = G12 a b := by
  by_cases h1 : a < 0
  · simp [G11, F11, G12, F12, h1]
  by_cases h2 : 8 < a
  · simp [G11, F11, G12, F12, h2]
  by_cases h3 : b < 1
  · simp [G11, F11, G12, F12, h3]
  by_cases h4 : 3 < b
  · simp [G11, F11, G12, F12, h4]
  have hb : b = 1 ∨ b = 2 ∨ b = 3 := by omega
  have ha : a = 0 ∨ a = 1 ∨ a = 2 ∨ a = 3 ∨ a = 4 ∨ a = 5 ∨ a = 6 ∨ a = 7 ∨ a = 8 := by omega
  clear h1 h2 h3 h4
  rcases hb with rfl | rfl | rfl <;> rcases ha with rfl | rfl | rfl | rfl | rfl | rfl | rfl | rfl | rfl <;> rfl
theorem g1314 (a : Int) : G13 a = G14 a := by
  have ha : a = 1 ∨ a = 2 ∨ a = 3 ∨ a = 4 ∨ a = 5 ∨ a = 6 ∨ a = 7 ∨ a = 8 ∨ (a < 1 ∨ 8 < a) := by omega
  rcases ha with rfl | rfl | rfl | rfl | rfl | rfl | rfl | rfl | ha
  iterate 8 rfl
  have e : ∀ k : Int, 1 ≤ k → k ≤ 8 → (a == k) = false := fun k h1 h2 => by simp; omega
  have e2 : (decide (a < 1) || decide (8 < a)) = true := by simpa using ha
  simp [G13, F13, G14, F14, e, e2]
theorem g1516 (a b : Int) : G15 a b = G16 a b := by
  by_cases h1 : a < 0
  · simp [G15, F15, G16, F16, h1]
  by_cases h2 : 8 < a
  · simp [G15, F15, G16, F16, h2]
  by_cases h3 : b < 0
  · simp [G15, F15, G16, F16, h3]
  by_cases h4 : 7 < b
  · simp [G15, F15, G16, F16, h4]
  have hb : b = 0 ∨ b = 1 ∨ b = 2 ∨ b = 3 ∨ b = 4 ∨ b = 5 ∨ b = 6 ∨ b = 7 := by omega
  have ha : a = 0 ∨ a = 1 ∨ a = 2 ∨ a = 3 ∨ a = 4 ∨ a = 5 ∨ a = 6 ∨ a = 7 ∨ a = 8 := by omega
  clear h1 h2 h3 h4
  rcases hb with rfl | rfl | rfl | rfl | rfl | rfl | rfl | rfl <;> rcases ha with rfl | rfl | rfl | rfl | rfl | rfl | rfl | rfl | rfl <;> rfl
theorem g1718 (a : Int) : G17 a = G18 a := by
  unfold G17 F17 G18 F18
  rw [show decide (a ≤ 1) = decide (a < 2) from by rw [decide_eq_decide]; omega]
theorem some11 (a b : Int) : ∃ v, G11 a b = some v := by
  rw [g1112]
  unfold G12 F12
  have h14 : ∃ v, G14 a = some v := by
    unfold G14 F14
    repeat (first | exact ⟨_, rfl⟩ | (rw [bcond]; split))
  obtain ⟨v, hv⟩ := h14
  simp only [Option.bind_some, or_some, hv]
  repeat (first | exact ⟨_, rfl⟩ | (rw [bcond]; split))
theorem some14 (a : Int) : ∃ v, G14 a = some v := by
  unfold G14 F14
  repeat (first | exact ⟨_, rfl⟩ | (rw [bcond]; split))
theorem some16 (a b : Int) : ∃ v, G16 a b = some v := by
  unfold G16 F16
  simp only [Option.bind_some, or_some]
  repeat (first | exact ⟨_, rfl⟩ | (rw [bcond]; split))
theorem some18 (a : Int) : ∃ v, G18 a = some v := by
  unfold G18 F18
  simp only [Option.bind_some, or_some]
  repeat (first | exact ⟨_, rfl⟩ | (rw [bcond]; split))
theorem pure3 : Pure3 := by
  intro a b _ _
  unfold G3 F3
  obtain ⟨v, hv⟩ := some11 a b
  obtain ⟨w, hw⟩ := some14 a
  obtain ⟨x, hx⟩ := some16 a b
  obtain ⟨y, hy⟩ := some18 a
  rw [← g1112, g1314, g1516, g1718, hv, hw, hx, hy, sane_true]
  simp
theorem pure4 : Pure4 := by
  intro u v a b x y _ _ _ _ _ _
  unfold G4 F4
  simp only [g19, g20, g21, g22, g23, g24, g25, g26, g27, g28, sane_true, Option.bind_some, or_some, and_some]
  simp
/-! ### The main theorem, and turning: all cases -/
theorem fin9 {a : Int} (h : InU8 a) : ∃ i : Fin 9, Int.tmod (wr .i64 a) 9 = (i.val : Int) := by
  obtain ⟨h1, h2⟩ := h
  rw [wr64 (by omega) (by omega), Int.tmod_eq_emod_of_nonneg h1]
  exact ⟨⟨(a % 9).toNat, by omega⟩, by simp; omega⟩
theorem fin8 {a : Int} (h : InU8 a) : ∃ i : Fin 8, Int.tmod (wr .i64 a) 8 = (i.val : Int) := by
  obtain ⟨h1, h2⟩ := h
  rw [wr64 (by omega) (by omega), Int.tmod_eq_emod_of_nonneg h1]
  exact ⟨⟨(a % 8).toNat, by omega⟩, by simp; omega⟩
theorem fin3 {a : Int} (h : InU8 a) : ∃ i : Fin 3, wr .i64 (1 + Int.tmod (wr .i64 a) 3) = (i.val : Int) + 1 := by
  obtain ⟨h1, h2⟩ := h
  rw [wr64 (n := a) (by omega) (by omega), Int.tmod_eq_emod_of_nonneg h1, wr64 (by omega) (by omega)]
  exact ⟨⟨(a % 3).toNat, by omega⟩, by simp; omega⟩
theorem pure5 : Pure5 := by
  intro a b c d ha hb hc hd
  unfold G5 F5
  rw [sane_true]
  obtain ⟨i, hi⟩ := fin9 ha
  obtain ⟨j, hj⟩ := fin3 hb
  obtain ⟨k, hk⟩ := fin9 hc
  obtain ⟨l, hl⟩ := fin3 hd
  rw [hi, hj, hk, hl]
  clear hi hj hk hl ha hb hc hd
  revert i j k l
  decide +kernel
theorem pure6 : Pure6 := by
  intro a b c d ha hb hc hd
  unfold G6 F6
  rw [sane_true]
  obtain ⟨i, hi⟩ := fin9 ha
  obtain ⟨j, hj⟩ := fin3 hb
  obtain ⟨k, hk⟩ := fin8 hc
  obtain ⟨l, hl⟩ := fin8 hd
  rw [hi, hj, hk, hl]
  clear hi hj hk hl ha hb hc hd
  revert i j k l
  decide +kernel
/-! ### Shifting -/
theorem vb_iff (a : S_Box) : vb a = true ↔ (-1099511627776 ≤ a.X.Lo ∧ a.X.Lo ≤ a.X.Hi ∧ a.X.Hi ≤ 1099511627776) ∧ -1099511627776 ≤ a.Y.Lo ∧ a.Y.Lo ≤ a.Y.Hi ∧ a.Y.Hi ≤ 1099511627776 := by
  simp [vb, rg]
theorem lim_iff (n : Int) : lim n = true ↔ -2199023255552 ≤ n ∧ n ≤ 2199023255552 := by simp [lim]
theorem mvb_eq {a : S_Box} {x y : Int} (h : vb a = true) (hx : lim x = true) (hy : lim y = true) : mvb a x y = ⟨⟨a.X.Lo + x, a.X.Hi + x⟩, ⟨a.Y.Lo + y, a.Y.Hi + y⟩⟩ := by
  rw [vb_iff] at h
  rw [lim_iff] at hx hy
  simp only [mvb, mv]
  rw [wr64 (n := a.X.Lo + x) (by omega) (by omega), wr64 (n := a.X.Hi + x) (by omega) (by omega), wr64 (n := a.Y.Lo + y) (by omega) (by omega), wr64 (n := a.Y.Hi + y) (by omega) (by omega)]
theorem pure9 : Pure9 := by
  intro a b x y _ _ hx hy
  unfold G9 F9
  simp only [g23, g25, g27, sane_true, Option.bind_some, or_some, and_some, Bool.not_true, cond_false]
  have z : ((zb.X.Lo == 0 && zb.X.Hi == 0) && (zb.Y.Lo == 0 && zb.Y.Hi == 0)) = true := rfl
  have bad : ∀ a : S_Box, (shift a x y).2 = 0 ∨ (shift a x y).1 = zb := fun a => by
    unfold shift
    split
    · split
      · exact .inl rfl
      · exact .inr rfl
    · exact .inr rfl
  by_cases h1 : (shift a x y).2 = 0
  · by_cases h2 : (shift b x y).2 = 0
    · have un : ∀ a : S_Box, (shift a x y).2 = 0 → vb a = true ∧ lim x = true ∧ lim y = true ∧ vb (mvb a x y) = true ∧ (shift a x y).1 = mvb a x y := fun a h => by
        unfold shift at h ⊢
        split at h
        · rename_i hv
          rw [if_pos hv]
          split at h
          · rename_i hc
            rw [if_pos hc]
            simp only [Bool.and_eq_true] at hc
            exact ⟨hv, hc.1.1, hc.1.2, hc.2, rfl⟩
          · cases h
        · cases h
      obtain ⟨va, lx, ly, vma, ea⟩ := un a h1
      obtain ⟨vb', _, _, vmb, eb⟩ := un b h2
      rw [h1, h2, ea, eb]
      have hlx := (lim_iff x).1 lx
      have hly := (lim_iff y).1 ly
      have e1 : decide (x < -2199023255552) = false := by simp; omega
      have e2 : decide (2199023255552 < x) = false := by simp; omega
      have e3 : decide (y < -2199023255552) = false := by simp; omega
      have e4 : decide (2199023255552 < y) = false := by simp; omega
      have hva := (vb_iff a).1 va
      have hvb := (vb_iff b).1 vb'
      have hma := vma
      rw [mvb_eq va lx ly] at hma
      have hmb := vmb
      rw [mvb_eq vb' lx ly] at hmb
      have ap : apart (mvb a x y) (mvb b x y) = apart a b := by
        rw [mvb_eq va lx ly, mvb_eq vb' lx ly]
        simp only [apart, meet]
        congr 1
        rw [Bool.eq_iff_iff]
        simp only [Bool.and_eq_true, decide_eq_true_eq]
        omega
      have ins : inside (mvb a x y) (mvb b x y) = inside a b := by
        rw [mvb_eq va lx ly, mvb_eq vb' lx ly]
        simp only [inside, inn]
        rw [Bool.eq_iff_iff]
        simp only [Bool.and_eq_true, decide_eq_true_eq]
        omega
      have lnx : lim (0 - x) = true := by rw [lim_iff]; omega
      have lny : lim (0 - y) = true := by rw [lim_iff]; omega
      have bk : shift (mvb a x y) (wr .i64 (0 - x)) (wr .i64 (0 - y)) = (a, 0) := by
        rw [wr64 (n := 0 - x) (by omega) (by omega), wr64 (n := 0 - y) (by omega) (by omega)]
        unfold shift
        rw [if_pos vma, mvb_eq vma lnx lny, lnx, lny]
        have e : (⟨⟨(mvb a x y).X.Lo + (0 - x), (mvb a x y).X.Hi + (0 - x)⟩, ⟨(mvb a x y).Y.Lo + (0 - y), (mvb a x y).Y.Hi + (0 - y)⟩⟩ : S_Box) = a := by
          rw [mvb_eq va lx ly]
          obtain ⟨⟨p, q⟩, ⟨r, s⟩⟩ := a
          simp only [S_Box.mk.injEq, S_Range.mk.injEq]
          omega
        rw [e, va]
        rfl
      rw [e1, e2, e3, e4, bk, ap, ins, va, vb', vma, vmb]
      simp
    · have e := bad b
      rcases e with e | e
      · exact absurd e h2
      · rw [e, h1]
        have : ((shift b x y).2 == 0) = false := by simpa using h2
        simp [this, h2, z, bcond, zb]
  · rcases bad a with e | e
    · exact absurd e h1
    · have h1' : ((shift a x y).2 == 0) = false := by simpa using h1
      rw [e, h1']
      rcases bad b with e2 | e2
      · simp [h1, e2, zb, bcond]
      · rw [e2]
        simp [h1, zb, bcond]
/-! ### The least box -/
theorem meet_comm (a b : S_Range) : meet a b = meet b a := by
  simp only [meet]; rw [Bool.and_comm]
theorem apart_comm (a b : S_Box) : apart a b = apart b a := by
  simp only [apart, meet_comm a.X, meet_comm a.Y]
def cut (a b : S_Range) : S_Range := ⟨if a.Lo < b.Lo then b.Lo else a.Lo, if b.Hi < a.Hi then b.Hi else a.Hi⟩
theorem pure8 : Pure8 := by
  intro a b c _ _ _
  unfold G8 F8
  simp only [g21, g23, g25, sane_true, Option.bind_some, or_some, and_some, Bool.not_true, cond_false]
  rw [show (⟨⟨if a.X.Lo < b.X.Lo then b.X.Lo else a.X.Lo, if b.X.Hi < a.X.Hi then b.X.Hi else a.X.Hi⟩, ⟨if a.Y.Lo < b.Y.Lo then b.Y.Lo else a.Y.Lo, if b.Y.Hi < a.Y.Hi then b.Y.Hi else a.Y.Hi⟩⟩ : S_Box) = ⟨cut a.X b.X, cut a.Y b.Y⟩ from rfl]
  by_cases hab : (vb a && vb b) = true
  · have hba : (vb b && vb a) = true := by rw [Bool.and_comm]; exact hab
    simp only [hab, hba, if_true]
    obtain ⟨va, vb'⟩ := Bool.and_eq_true_iff.1 hab
    have ha := (vb_iff a).1 va
    have hb := (vb_iff b).1 vb'
    have vj : vb ⟨hull a.X b.X, hull a.Y b.Y⟩ = true := by
      rw [vb_iff]; simp only [hull]
      refine ⟨⟨?_, ?_, ?_⟩, ?_, ?_, ?_⟩ <;> (repeat' split) <;> omega
    have i1 : inside a ⟨hull a.X b.X, hull a.Y b.Y⟩ = true := by
      simp only [inside, inn, hull, Bool.and_eq_true]
      refine ⟨⟨decide_eq_true ?_, decide_eq_true ?_⟩, decide_eq_true ?_, decide_eq_true ?_⟩ <;> (repeat' split) <;> omega
    have i2 : inside b ⟨hull a.X b.X, hull a.Y b.Y⟩ = true := by
      simp only [inside, inn, hull, Bool.and_eq_true]
      refine ⟨⟨decide_eq_true ?_, decide_eq_true ?_⟩, decide_eq_true ?_, decide_eq_true ?_⟩ <;> (repeat' split) <;> omega
    have vd : vb ⟨cut a.X b.X, cut a.Y b.Y⟩ = !apart a b := by
      rw [Bool.eq_iff_iff]
      rw [vb_iff]
      simp only [apart, meet, cut, Bool.not_not, Bool.and_eq_true, decide_eq_true_eq]
      constructor
      · intro h
        refine ⟨⟨?_, ?_⟩, ?_, ?_⟩ <;> (revert h; (repeat' split) <;> (intro h; omega))
      · intro h
        refine ⟨⟨?_, ?_, ?_⟩, ?_, ?_, ?_⟩ <;> (repeat' split) <;> omega
    have d1 : inside ⟨cut a.X b.X, cut a.Y b.Y⟩ a = true := by
      simp only [inside, inn, cut, Bool.and_eq_true]
      refine ⟨⟨decide_eq_true ?_, decide_eq_true ?_⟩, decide_eq_true ?_, decide_eq_true ?_⟩ <;> (repeat' split) <;> omega
    have d2 : inside ⟨cut a.X b.X, cut a.Y b.Y⟩ b = true := by
      simp only [inside, inn, cut, Bool.and_eq_true]
      refine ⟨⟨decide_eq_true ?_, decide_eq_true ?_⟩, decide_eq_true ?_, decide_eq_true ?_⟩ <;> (repeat' split) <;> omega
    rw [apart_comm b a]
    simp only [va, vb', vj, i1, i2, d1, d2, vd, Bool.and_true, Bool.true_and, if_true, bne_self_eq_false, Bool.not_true, Bool.or_false, Bool.false_or, cond_false]
    have j1 : ∀ p q r : S_Range, inn (hull p q) r = (inn p r && inn q r) := fun p q r => by
      rw [Bool.eq_iff_iff]
      simp only [inn, Bool.and_eq_true, decide_eq_true_eq]
      by_cases h1 : q.Lo < p.Lo <;> by_cases h2 : p.Hi < q.Hi <;> simp only [hull, h1, h2, if_true, if_false] <;> omega
    have j2 : inside ⟨hull a.X b.X, hull a.Y b.Y⟩ c = (inside a c && inside b c) := by
      simp only [inside, j1]
      cases inn a.X c.X <;> cases inn b.X c.X <;> cases inn a.Y c.Y <;> cases inn b.Y c.Y <;> rfl
    by_cases vc : vb c = true
    · have hc := (vb_iff c).1 vc
      have j3 : (apart a b && inside c a && inside c b) = false := by
        rw [Bool.eq_false_iff]
        intro h
        simp only [apart, meet, inside, inn, Bool.and_eq_true, Bool.not_eq_true', Bool.and_eq_false_iff, decide_eq_true_eq, decide_eq_false_iff_not] at h
        omega
      simp only [vc, if_true, j2, j3, Bool.not_false]
      cases apart a b <;> cases inside a c <;> cases inside b c <;> rfl
    · simp only [vc]
      cases apart a b <;> rfl
  · have hba : ¬ (vb b && vb a) = true := by rw [Bool.and_comm]; exact hab
    simp only [hab, hba, if_false]
    rfl
/-! ### Near -/
def s19 (x : Int) : Bool := !(decide (x < -524288) || decide (524288 < x))
def sv (v : S_Vec) : Bool := [v.X, v.Y, v.Z].all s19
theorem l71 (n : Nat) (a b c d : Int) (e : Bool) (f : List S_Vec) (g h p1 p2 p3 p4 p5 p6 p7 p8 p9 p10 p11 p12 : Int) (l : List Int) (hl : l.length < 4611686018427387904) : ∀ (rest : List Int) (m i : Nat), l.drop i = rest → i ≤ l.length → rest.length < m →
    F7_7_1 n a b c d e f g h l l.length p1 p2 p3 p4 p5 p6 p7 p8 p9 p10 p11 p12 m i = some (bif rest.all s19 then .inr () else .inl true)
  | [], 0, i, _, _, h => by simp at h
  | [], m + 1, i, hd, hi, h => by
    have : l.length = i := by have := List.drop_eq_nil_iff.1 hd; omega
    simp [F7_7_1, this]
  | x :: rest, 0, i, _, _, h => by simp at h
  | x :: rest, m + 1, i, hd, hi, hh => by
    have hlt : i < l.length := by
      rcases Nat.lt_or_ge i l.length with h | h
      · exact h
      · rw [List.drop_eq_nil_iff.2 h] at hd; cases hd
    have ha : l[i]? = some x := by rw [← List.head?_drop, hd]; rfl
    have hr : l.drop (i + 1) = rest := by rw [← List.drop_drop, hd]; rfl
    have ih := l71 n a b c d e f g h p1 p2 p3 p4 p5 p6 p7 p8 p9 p10 p11 p12 l hl rest m (i + 1) hr hlt (by simpa using hh)
    have hw : wr .i64 ((i : Int) + 1) = ((i + 1 : Nat) : Int) := by rw [wr64] <;> omega
    rw [F7_7_1, getI_nat, ha]
    simp only [Option.bind_some, or_some, hw, ih]
    rw [show decide ((i : Int) < (l.length : Int)) = true from by simpa using hlt]
    simp only [cond_true, List.all_cons, s19]
    generalize (decide (x < -524288) || decide (524288 < x)) = q
    cases q <;> simp
theorem l70 (n : Nat) (a b c d : Int) (e : Bool) (p1 p2 p3 p4 p5 p6 p7 p8 p9 : Int) (l : List S_Vec) (hl : l.length < 4611686018427387904) : ∀ (rest : List S_Vec) (m i : Nat), l.drop i = rest → i ≤ l.length → rest.length < m →
    (rest.all sv = true → F7_7_0 n a b c d e l l.length p1 p2 p3 p4 p5 p6 p7 p8 p9 m i = some (.inr ())) ∧ (rest.all sv = false → ∃ z, F7_7_0 n a b c d e l l.length p1 p2 p3 p4 p5 p6 p7 p8 p9 m i = some (.inl (true, z)))
  | [], 0, i, _, _, h => by simp at h
  | [], m + 1, i, hd, hi, h => by
    have : l.length = i := by have := List.drop_eq_nil_iff.1 hd; omega
    refine ⟨fun _ => by simp [F7_7_0, this], fun h => by cases h⟩
  | x :: rest, 0, i, _, _, h => by simp at h
  | x :: rest, m + 1, i, hd, hi, hh => by
    have hlt : i < l.length := by
      rcases Nat.lt_or_ge i l.length with h | h
      · exact h
      · rw [List.drop_eq_nil_iff.2 h] at hd; cases hd
    have ha : l[i]? = some x := by rw [← List.head?_drop, hd]; rfl
    have hr : l.drop (i + 1) = rest := by rw [← List.drop_drop, hd]; rfl
    obtain ⟨ih1, ih2⟩ := l70 n a b c d e p1 p2 p3 p4 p5 p6 p7 p8 p9 l hl rest m (i + 1) hr hlt (by simpa using hh)
    have hw : wr .i64 ((i : Int) + 1) = ((i + 1 : Nat) : Int) := by rw [wr64] <;> omega
    have h1 := fun v8 v9 => l71 n a b c d e l v8 v9 p1 p2 p3 p4 p5 p6 p7 p8 p9 x.X x.Y x.Z [x.X, x.Y, x.Z] (by simp) [x.X, x.Y, x.Z] (n + 4) 0 rfl (by simp) (by simp)
    rw [F7_7_0, getI_nat, ha]
    simp only [Option.bind_some]
    rw [show decide ((i : Int) < (l.length : Int)) = true from by simpa using hlt]
    simp only [cond_true]
    have h2 := h1 (l.length : Int) (i : Int)
    simp only [List.length_cons, List.length_nil] at h2
    rw [show F7_7_1 n a b c d e l (l.length : Int) (i : Int) [x.X, x.Y, x.Z] 3 p1 p2 p3 p4 p5 p6 p7 p8 p9 x.X x.Y x.Z (n + 4) 0 = _ from h2]
    rw [List.all_cons, show sv x = [x.X, x.Y, x.Z].all s19 from rfl]
    cases hx : [x.X, x.Y, x.Z].all s19 with
    | true =>
      simp only [cond_true, Option.bind_some, hw, Bool.true_and]
      exact ⟨ih1, ih2⟩
    | false =>
      simp only [cond_false, Option.bind_some, Bool.false_and]
      exact ⟨fun h => (by cases h), fun _ => ⟨_, rfl⟩⟩
theorem sv_iff (v : S_Vec) : sv v = true ↔ (-524288 ≤ v.X ∧ v.X ≤ 524288) ∧ (-524288 ≤ v.Y ∧ v.Y ≤ 524288) ∧ (-524288 ≤ v.Z ∧ v.Z ≤ 524288) := by
  simp only [sv, s19, List.all_cons, List.all_nil, Bool.and_true, Bool.and_eq_true, Bool.not_eq_true', Bool.or_eq_false_iff, decide_eq_false_iff_not]
  omega
def dot (u v : S_Vec) : Int := u.X * v.X + u.Y * v.Y + u.Z * v.Z
def bd (v : S_Vec) : Prop := (-1048576 ≤ v.X ∧ v.X ≤ 1048576) ∧ (-1048576 ≤ v.Y ∧ v.Y ≤ 1048576) ∧ (-1048576 ≤ v.Z ∧ v.Z ≤ 1048576)
theorem dotw_eq {u v : S_Vec} (hu : bd u) (hv : bd v) : dotw u v = dot u v ∧ -3298534883328 ≤ dot u v ∧ dot u v ≤ 3298534883328 := by
  obtain ⟨⟨a1, a2⟩, ⟨a3, a4⟩, a5, a6⟩ := hu
  obtain ⟨⟨b1, b2⟩, ⟨b3, b4⟩, b5, b6⟩ := hv
  have x := mul_bd (A := 1048576) (B := 1048576) a1 a2 b1 b2
  have y := mul_bd (A := 1048576) (B := 1048576) a3 a4 b3 b4
  have z := mul_bd (A := 1048576) (B := 1048576) a5 a6 b5 b6
  simp only [Nat.reduceMul] at x y z
  unfold dotw dot
  rw [wr64 (n := u.X * v.X) (by omega) (by omega), wr64 (n := u.Y * v.Y) (by omega) (by omega), wr64 (n := u.Z * v.Z) (by omega) (by omega), wr64 (n := u.X * v.X + u.Y * v.Y) (by omega) (by omega), wr64 (n := u.X * v.X + u.Y * v.Y + u.Z * v.Z) (by omega) (by omega)]
  exact ⟨rfl, by omega, by omega⟩
theorem sm_of {v : S_Vec} (h : bd v) : sm v = true := by
  unfold sm; unfold bd at h; exact decide_eq_true (by omega)
theorem near_all : ∀ (i : Fin 9) (j : Fin 3) (k : Fin 9) (l : Fin 3), (Option.bind (G29 (i.val : Int) ((j.val : Int) + 1)) fun y97 => Option.bind (G29 (k.val : Int) ((l.val : Int) + 1)) fun y98 => Option.bind (G19 y97.1 y98.1) fun y99 => Option.bind (bif (!y97.2) then (some true) else (some (!y98.2))) fun y100 => Option.bind (bif y100 then (some true) else (some (y99.2 != 0))) fun y103 => Option.bind (bif y103 then (some true) else (some (decide (707281 < y99.1)))) fun y106 => Option.bind (bif y106 then (some true) else (some (decide (y99.1 < (-707281))))) fun y109 => bif y109 then (some false) else (Option.bind (bif (((y97.1.X == y98.1.X) && ((y97.1.Y == y98.1.Y) && (y97.1.Z == y98.1.Z)))) then (some (!((y97.1.X == 0) && ((y97.1.Y == 0) && (y97.1.Z == 0))))) else (some false)) fun y112 => some ((y99.1 == 707281) == y112))) = some true := by
  decide +kernel
theorem pure7 : Pure7 := by
  intro u v w a b c d _ _ _ ha hb hc hd
  unfold G7 F7
  rw [sane_true]
  obtain ⟨i, hi⟩ := fin9 ha
  obtain ⟨j, hj⟩ := fin3 hb
  obtain ⟨k, hk⟩ := fin9 hc
  obtain ⟨l, hl⟩ := fin3 hd
  rw [hi, hj, hk, hl]
  obtain ⟨h1, h2⟩ := l70 fuel0 a b c d false u.X u.Y u.Z v.X v.Y v.Z w.X w.Y w.Z [u, v, w] (by simp) [u, v, w] (fuel0 + 4) 0 rfl (by simp) (by simp)
  cases hall : [u, v, w].all sv with
  | false =>
    obtain ⟨z, hz⟩ := h2 hall
    simp only [Option.bind_some, Bool.not_true, cond_false]
    rw [show F7_7_0 fuel0 a b c d false [u, v, w] 3 u.X u.Y u.Z v.X v.Y v.Z w.X w.Y w.Z (fuel0 + 4) 0 = _ from hz]
    rfl
  | true =>
    have h1 := h1 hall
    simp only [Option.bind_some, Bool.not_true, cond_false]
    rw [show F7_7_0 fuel0 a b c d false [u, v, w] 3 u.X u.Y u.Z v.X v.Y v.Z w.X w.Y w.Z (fuel0 + 4) 0 = _ from h1]
    simp only [Option.bind_some]
    simp only [List.all_cons, List.all_nil, Bool.and_true, Bool.and_eq_true, sv_iff] at hall
    obtain ⟨hu, hv, hw⟩ := hall
    have bu : bd u := by unfold bd; omega
    have bv : bd v := by unfold bd; omega
    have bw : bd w := by unfold bd; omega
    have bs : bd ⟨u.X + w.X, u.Y + w.Y, u.Z + w.Z⟩ := by unfold bd; simp only; omega
    rw [wr64 (n := u.X + w.X) (by omega) (by omega), wr64 (n := u.Y + w.Y) (by omega) (by omega), wr64 (n := u.Z + w.Z) (by omega) (by omega)]
    rw [g19 u v, g19 v u, g19 w v, g19 ⟨u.X + w.X, u.Y + w.Y, u.Z + w.Z⟩ v, sm_of bu, sm_of bv, sm_of bw, sm_of bs]
    simp only [Bool.and_self, if_true, Option.bind_some, bne_self_eq_false, or_some, Bool.false_or]
    have e1 := dotw_eq bu bv
    have e2 := dotw_eq bw bv
    rw [(dotw_eq bs bv).1, e1.1, e2.1, (dotw_eq bv bu).1, wr64 (n := dot u v + dot w v) (by omega) (by omega)]
    have c1 : dot v u = dot u v := by simp only [dot, Int.mul_comm v.X, Int.mul_comm v.Y, Int.mul_comm v.Z]
    have c2 : dot ⟨u.X + w.X, u.Y + w.Y, u.Z + w.Z⟩ v = dot u v + dot w v := by simp only [dot, Int.add_mul]; omega
    rw [c1, c2]
    simp only [bne_self_eq_false, Bool.false_or, cond_false]
    have := near_all i j k l
    simp only [Option.bind_some, or_some] at this
    exact this
end Go.Proofs.YtmhnhokhlkppeaaDoor
