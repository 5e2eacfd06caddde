/-
  Layer 26, in plain Lean: how far a body reaches.
-/
import Derived.Test.YtooamdacfhfjoaaDoorP
import Derived.Test.YtooamdacfhfjoaaDoorP7n
namespace Go.Proofs.YtooamdacfhfjoaaDoor
set_option linter.unusedVariables false
set_option linter.unusedSimpArgs false
set_option maxRecDepth 100000
set_option maxHeartbeats 4000000
theorem bstr_len (s : ByteArray) : (bstrL s).length = s.size := by
  unfold bstrL
  first | rfl | simp [ByteArray.size]
theorem f43_some (n : Nat) (s : ByteArray) (b : Bool) (hs : (s.size : Int) ≤ 32) : ∀ (m : Nat) (i : Nat), s.size + 1 ≤ m + i → i ≤ s.size → ∃ y, F43_43_0 n s b (s.size : Int) m (i : Int) = some y
  | 0, i, h, h' => by omega
  | m + 1, i, h, h' => by
    unfold F43_43_0
    by_cases h1 : (i : Int) < (s.size : Int)
    · rw [decide_eq_true h1, getI_nat]
      have h2 : i < (bstrL s).length := by rw [bstr_len]; omega
      rw [List.getElem?_eq_getElem h2]
      obtain ⟨v, e1, e2, e3⟩ := g72 (((bstrL s)[i]).toNat : Int)
      have ih := f43_some n s b hs m (i + 1) (by omega) (by omega)
      simp only [cond_true, Option.bind_some, e1]
      rw [wr64 (by omega) (by omega), show ((i : Int) + 1) = ((i + 1 : Nat) : Int) by omega]
      obtain ⟨y, hy⟩ := ih
      rw [hy]
      cases (v != 2) <;> cases (v != 3) <;> cases (v != 5) <;> exact ⟨_, rfl⟩
    · rw [decide_eq_false h1]
      exact ⟨_, rfl⟩
theorem g43 (s : ByteArray) : ∃ y, G43 s = some y := by
  unfold G43 F43
  rw [empty_eq]
  by_cases h1 : (s.size : Int) < 1
  · rw [decide_eq_true h1]; exact ⟨_, rfl⟩
  · rw [decide_eq_false h1]
    by_cases h2 : 32 < (s.size : Int)
    · rw [decide_eq_true h2]; exact ⟨_, rfl⟩
    · rw [decide_eq_false h2]
      simp only [cond_false, Option.bind_some]
      have h3 : 0 < (bstrL s).length := by rw [bstr_len]; omega
      have h4 : getI (bstrL s) 0 = some ((bstrL s)[0]) := by
        show getI (bstrL s) ((0 : Nat) : Int) = _
        rw [getI_nat, List.getElem?_eq_getElem h3]
      rw [h4]
      obtain ⟨v, e1, e2, e3⟩ := g72 (((bstrL s)[0]).toNat : Int)
      simp only [Option.bind_some, e1]
      obtain ⟨y, hy⟩ := f43_some fuel0 s false (by omega) (fuel0 + 8) 0 (by have := fu; omega) (by omega)
      rw [show ((0 : Nat) : Int) = 0 from rfl] at hy
      rw [hy]
      cases (v != 2) <;> cases y <;> exact ⟨_, rfl⟩
def chk (b : S_Body) : Int := match G23 b with | some e => e | none => 0
theorem g39c (b : S_Body) : G23 b = some (chk b) ∧ (chk b = 0 → restB b = true) ∧ (chk b = 0 ∨ chk b = 250) := by
  obtain ⟨y, hy⟩ := g43 b.Name
  have h := g23 b
  rw [hy, Option.bind_some] at h
  have h2 : chk b = (bif y && restB b then 0 else 250) := by unfold chk; rw [h]
  rw [h2]
  refine ⟨h, ?_, ?_⟩
  · cases y <;> cases restB b <;> simp
  · cases (y && restB b) <;> simp
theorem g23c (b : S_Body) : G23 b = some (chk b) := (g39c b).1
def body_of (b : S_Body) : Prop := (1 ≤ b.Girth ∧ b.Girth ≤ 4) ∧ (1 ≤ b.Reach.1 ∧ b.Reach.1 ≤ 8) ∧ (1 ≤ b.Reach.2.1 ∧ b.Reach.2.1 ≤ 8) ∧ (1 ≤ b.Reach.2.2 ∧ b.Reach.2.2 ≤ 8)
theorem rest_body {b : S_Body} (h : restB b = true) : body_of b := by
  unfold restB btw at h
  simp only [Bool.and_eq_true, decide_eq_true_eq] at h
  unfold body_of
  refine ⟨?_, ?_, ?_, ?_⟩ <;> omega
def tipV (d f l : Int) : Int × Int := match G24 d f with | some a => (match G25 a.1 l with | some v => (v.1.X, v.1.Y) | none => (0, 0)) | none => (0, 0)
def tipB (d f l : Int) : Bool := match G24 d f with
  | some a => (a.2 == 0) && (match G25 a.1 l with | some u => (u.2 == 0) && (decide (-841 ≤ u.1.X) && decide (u.1.X ≤ 841) && decide (-841 ≤ u.1.Y) && decide (u.1.Y ≤ 841)) | _ => false)
  | _ => false
theorem tipAll : ∀ d : Fin 9, ∀ f : Fin 8, ∀ l : Fin 3, tipB (d.val : Int) (f.val : Int) ((l.val + 1 : Nat) : Int) = true := by decide +kernel
theorem tip_ok {d f l : Int} (hd : 0 ≤ d ∧ d ≤ 8) (hf : 0 ≤ f ∧ f ≤ 7) (hl : 1 ≤ l ∧ l ≤ 3) : ∃ a u, G24 d f = some (a, 0) ∧ True ∧ G25 a l = some (u, 0) ∧ True ∧ tipV d f l = (u.X, u.Y) ∧ (-841 ≤ u.X ∧ u.X ≤ 841) ∧ (-841 ≤ u.Y ∧ u.Y ≤ 841) := by
  have h := tipAll ⟨d.toNat, by omega⟩ ⟨f.toNat, by omega⟩ ⟨(l - 1).toNat, by omega⟩
  simp only [show ((d.toNat : Nat) : Int) = d by omega, show ((f.toNat : Nat) : Int) = f by omega, show (((l - 1).toNat + 1 : Nat) : Int) = l by omega] at h
  unfold tipB at h
  unfold tipV
  cases h1 : G24 d f with
  | none => rw [h1] at h; cases h
  | some a =>
    rw [h1] at h
    simp only [Bool.and_eq_true, beq_iff_eq] at h
    obtain ⟨e2, h⟩ := h
    obtain ⟨a1, a2⟩ := a
    have e2 : a2 = 0 := e2
    subst e2
    cases h3 : G25 a1 l with
    | none => simp only [h3] at h; cases h
    | some u =>
      simp only [h3, Bool.and_eq_true, beq_iff_eq, decide_eq_true_eq] at h
      obtain ⟨e4, h⟩ := h
      obtain ⟨u1, u2⟩ := u
      have e4 : u2 = 0 := e4
      subst e4
      exact ⟨a1, u1, rfl, trivial, h3, trivial, by show (match G25 a1 l with | some v => (v.1.X, v.1.Y) | none => ((0 : Int), (0 : Int))) = _; rw [h3], ⟨h.1.1.1, h.1.1.2⟩, ⟨h.1.2, h.2⟩⟩
abbrev Bx := Int × Int × Int × Int
def updB (B : Bx) (x y : Int) : Bx := ((if x < B.1 then x else B.1), (if B.2.1 < x then x else B.2.1), (if y < B.2.2.1 then y else B.2.2.1), (if B.2.2.2 < y then y else B.2.2.2))
def limbU (s : S_State) (d l r : Int) (B : Bx) : Bx := if l = 0 then B else updB B (29 * s.X + r * (tipV d s.Face l).1) (29 * s.Y + r * (tipV d s.Face l).2)
theorem mul_tip {r v : Int} (hr : 1 ≤ r ∧ r ≤ 8) (hv : -841 ≤ v ∧ v ≤ 841) : -6728 ≤ r * v ∧ r * v ≤ 6728 := by
  have : r = 1 ∨ r = 2 ∨ r = 3 ∨ r = 4 ∨ r = 5 ∨ r = 6 ∨ r = 7 ∨ r = 8 := by omega
  rcases this with rfl | rfl | rfl | rfl | rfl | rfl | rfl | rfl <;> omega
theorem limb_cases {d l : Int} (h : limbB d l = true) : (d = 0 ∧ l = 0) ∨ ((0 ≤ d ∧ d ≤ 8) ∧ (1 ≤ l ∧ l ≤ 3)) := by
  unfold limbB at h
  simp only [Bool.or_eq_true, Bool.and_eq_true, beq_iff_eq, decide_eq_true_eq] at h
  omega
theorem tip_bd {s : S_State} {d l r : Int} (hx : -1073741824 ≤ s.X ∧ s.X ≤ 1073741824) (hy : -1073741824 ≤ s.Y ∧ s.Y ≤ 1073741824) (hf : 0 ≤ s.Face ∧ s.Face ≤ 7) (hl : (0 ≤ d ∧ d ≤ 8) ∧ (1 ≤ l ∧ l ≤ 3)) (hr : 1 ≤ r ∧ r ≤ 8) :
    ∃ a u, G24 d s.Face = some (a, 0) ∧ True ∧ G25 a l = some (u, 0) ∧ True ∧ tipV d s.Face l = (u.X, u.Y) ∧ wr .i64 (r * u.X) = r * u.X ∧ wr .i64 (r * u.Y) = r * u.Y ∧ wr .i64 (29 * s.X) = 29 * s.X ∧ wr .i64 (29 * s.Y) = 29 * s.Y ∧ wr .i64 (29 * s.X + r * u.X) = 29 * s.X + r * u.X ∧ wr .i64 (29 * s.Y + r * u.Y) = 29 * s.Y + r * u.Y ∧ (-40000000000 ≤ 29 * s.X + r * u.X ∧ 29 * s.X + r * u.X ≤ 40000000000) ∧ (-40000000000 ≤ 29 * s.Y + r * u.Y ∧ 29 * s.Y + r * u.Y ≤ 40000000000) := by
  obtain ⟨a, u, h1, h2, h3, h4, h5, h6, h7⟩ := tip_ok hl.1 hf hl.2
  have b1 := mul_tip hr h6
  have b2 := mul_tip hr h7
  refine ⟨a, u, h1, h2, h3, h4, h5, wr64 (by omega) (by omega), wr64 (by omega) (by omega), wr64 (by omega) (by omega), wr64 (by omega) (by omega), wr64 (by omega) (by omega), wr64 (by omega) (by omega), ⟨by omega, by omega⟩, ⟨by omega, by omega⟩⟩
theorem place_of' {s : S_State} (h : okB s = true) : (-1073741824 ≤ s.X ∧ s.X ≤ 1073741824) ∧ (-1073741824 ≤ s.Y ∧ s.Y ≤ 1073741824) ∧ (0 ≤ s.Face ∧ s.Face ≤ 7) := by
  unfold okB placeB at h
  simp only [Bool.and_eq_true, decide_eq_true_eq] at h
  exact ⟨h.1.1.1, h.1.1.2, h.1.2⟩
theorem limbs_of' {s : S_State} (h : okB s = true) : limbL s.Limbs.1 = true ∧ limbL s.Limbs.2.1 = true ∧ limbL s.Limbs.2.2.1 = true ∧ limbL s.Limbs.2.2.2.1 = true ∧ limbL s.Limbs.2.2.2.2 = true := by
  unfold okB at h
  simp only [Bool.and_eq_true] at h
  exact h.2
theorem comb20 {α : Type} {s : S_State} {d l r : Int} {B : Bx} (h : okB s = true) (hl : limbB d l = true) (hr : 1 ≤ r ∧ r ≤ 8) (k : Int → Int → Int → Int → Option α) :
    (bif (l == 0) then k B.1 B.2.1 B.2.2.1 B.2.2.2 else Option.bind (G24 d s.Face) fun y32 => Option.bind (G25 y32.1 l) fun y33 => k (if wr .i64 ((wr .i64 (29 * s.X)) + (wr .i64 (r * y33.1.X))) < B.1 then wr .i64 ((wr .i64 (29 * s.X)) + (wr .i64 (r * y33.1.X))) else B.1) (if B.2.1 < wr .i64 ((wr .i64 (29 * s.X)) + (wr .i64 (r * y33.1.X))) then wr .i64 ((wr .i64 (29 * s.X)) + (wr .i64 (r * y33.1.X))) else B.2.1) (if wr .i64 ((wr .i64 (29 * s.Y)) + (wr .i64 (r * y33.1.Y))) < B.2.2.1 then wr .i64 ((wr .i64 (29 * s.Y)) + (wr .i64 (r * y33.1.Y))) else B.2.2.1) (if B.2.2.2 < wr .i64 ((wr .i64 (29 * s.Y)) + (wr .i64 (r * y33.1.Y))) then wr .i64 ((wr .i64 (29 * s.Y)) + (wr .i64 (r * y33.1.Y))) else B.2.2.2)) = k (limbU s d l r B).1 (limbU s d l r B).2.1 (limbU s d l r B).2.2.1 (limbU s d l r B).2.2.2 := by
  unfold limbU
  rcases limb_cases hl with ⟨_, h0⟩ | hl
  · rw [if_pos h0, show (l == 0) = true by simpa using h0]; rfl
  · obtain ⟨hx, hy, hf⟩ := place_of' h
    obtain ⟨a, u, h1, h2, h3, h4, h5, w1, w2, w3, w4, w5, w6, w7, w8⟩ := tip_bd hx hy hf hl hr
    rw [if_neg (show ¬ l = 0 by omega), h5, show (l == 0) = false by simpa using (show ¬ l = 0 by omega), h1]
    simp only [cond_false, Option.bind_some, h3, w1, w2, w3, w4, w5, w6]
    rfl
def boxB (B : Bx) : S_Box := S_Box.mk (S_Range.mk B.1 B.2.1) (S_Range.mk B.2.2.1 B.2.2.2)
theorem s20_0 (n m : Nat) (s : S_State) (b : S_Body) (B : Bx) : F20_64_0 n s.Limbs.1.Dir s.Limbs.1.Level s.Limbs.2.1.Dir s.Limbs.2.1.Level s.Limbs.2.2.1.Dir s.Limbs.2.2.1.Level s.Limbs.2.2.2.1.Dir s.Limbs.2.2.2.1.Level s.Limbs.2.2.2.2.Dir s.Limbs.2.2.2.2.Level s b s b (m + 1) 0 B.1 B.2.1 B.2.2.1 B.2.2.2 = (bif (s.Limbs.1.Level == 0) then F20_64_0 n s.Limbs.1.Dir s.Limbs.1.Level s.Limbs.2.1.Dir s.Limbs.2.1.Level s.Limbs.2.2.1.Dir s.Limbs.2.2.1.Level s.Limbs.2.2.2.1.Dir s.Limbs.2.2.2.1.Level s.Limbs.2.2.2.2.Dir s.Limbs.2.2.2.2.Level s b s b m 1 B.1 B.2.1 B.2.2.1 B.2.2.2 else Option.bind (G24 s.Limbs.1.Dir s.Face) fun y32 => Option.bind (G25 y32.1 s.Limbs.1.Level) fun y33 => F20_64_0 n s.Limbs.1.Dir s.Limbs.1.Level s.Limbs.2.1.Dir s.Limbs.2.1.Level s.Limbs.2.2.1.Dir s.Limbs.2.2.1.Level s.Limbs.2.2.2.1.Dir s.Limbs.2.2.2.1.Level s.Limbs.2.2.2.2.Dir s.Limbs.2.2.2.2.Level s b s b m 1 (if wr .i64 ((wr .i64 (29 * s.X)) + (wr .i64 (b.Reach.1 * y33.1.X))) < B.1 then wr .i64 ((wr .i64 (29 * s.X)) + (wr .i64 (b.Reach.1 * y33.1.X))) else B.1) (if B.2.1 < wr .i64 ((wr .i64 (29 * s.X)) + (wr .i64 (b.Reach.1 * y33.1.X))) then wr .i64 ((wr .i64 (29 * s.X)) + (wr .i64 (b.Reach.1 * y33.1.X))) else B.2.1) (if wr .i64 ((wr .i64 (29 * s.Y)) + (wr .i64 (b.Reach.1 * y33.1.Y))) < B.2.2.1 then wr .i64 ((wr .i64 (29 * s.Y)) + (wr .i64 (b.Reach.1 * y33.1.Y))) else B.2.2.1) (if B.2.2.2 < wr .i64 ((wr .i64 (29 * s.Y)) + (wr .i64 (b.Reach.1 * y33.1.Y))) then wr .i64 ((wr .i64 (29 * s.Y)) + (wr .i64 (b.Reach.1 * y33.1.Y))) else B.2.2.2)) := by kernel_rfl
theorem t20_0 {s : S_State} {b : S_Body} {B : Bx} (n m : Nat) (h : okB s = true) (hb : body_of b) : F20_64_0 n s.Limbs.1.Dir s.Limbs.1.Level s.Limbs.2.1.Dir s.Limbs.2.1.Level s.Limbs.2.2.1.Dir s.Limbs.2.2.1.Level s.Limbs.2.2.2.1.Dir s.Limbs.2.2.2.1.Level s.Limbs.2.2.2.2.Dir s.Limbs.2.2.2.2.Level s b s b (m + 1) 0 B.1 B.2.1 B.2.2.1 B.2.2.2 = F20_64_0 n s.Limbs.1.Dir s.Limbs.1.Level s.Limbs.2.1.Dir s.Limbs.2.1.Level s.Limbs.2.2.1.Dir s.Limbs.2.2.1.Level s.Limbs.2.2.2.1.Dir s.Limbs.2.2.2.1.Level s.Limbs.2.2.2.2.Dir s.Limbs.2.2.2.2.Level s b s b m 1 (limbU s s.Limbs.1.Dir s.Limbs.1.Level b.Reach.1 B).1 (limbU s s.Limbs.1.Dir s.Limbs.1.Level b.Reach.1 B).2.1 (limbU s s.Limbs.1.Dir s.Limbs.1.Level b.Reach.1 B).2.2.1 (limbU s s.Limbs.1.Dir s.Limbs.1.Level b.Reach.1 B).2.2.2 := by
  rw [s20_0]
  exact comb20 (r := b.Reach.1) h (limbs_of' h).1 hb.2.1 (fun a c d e => F20_64_0 n s.Limbs.1.Dir s.Limbs.1.Level s.Limbs.2.1.Dir s.Limbs.2.1.Level s.Limbs.2.2.1.Dir s.Limbs.2.2.1.Level s.Limbs.2.2.2.1.Dir s.Limbs.2.2.2.1.Level s.Limbs.2.2.2.2.Dir s.Limbs.2.2.2.2.Level s b s b m 1 a c d e)
theorem s20_1 (n m : Nat) (s : S_State) (b : S_Body) (B : Bx) : F20_64_0 n s.Limbs.1.Dir s.Limbs.1.Level s.Limbs.2.1.Dir s.Limbs.2.1.Level s.Limbs.2.2.1.Dir s.Limbs.2.2.1.Level s.Limbs.2.2.2.1.Dir s.Limbs.2.2.2.1.Level s.Limbs.2.2.2.2.Dir s.Limbs.2.2.2.2.Level s b s b (m + 1) 1 B.1 B.2.1 B.2.2.1 B.2.2.2 = (bif (s.Limbs.2.1.Level == 0) then F20_64_0 n s.Limbs.1.Dir s.Limbs.1.Level s.Limbs.2.1.Dir s.Limbs.2.1.Level s.Limbs.2.2.1.Dir s.Limbs.2.2.1.Level s.Limbs.2.2.2.1.Dir s.Limbs.2.2.2.1.Level s.Limbs.2.2.2.2.Dir s.Limbs.2.2.2.2.Level s b s b m 2 B.1 B.2.1 B.2.2.1 B.2.2.2 else Option.bind (G24 s.Limbs.2.1.Dir s.Face) fun y32 => Option.bind (G25 y32.1 s.Limbs.2.1.Level) fun y33 => F20_64_0 n s.Limbs.1.Dir s.Limbs.1.Level s.Limbs.2.1.Dir s.Limbs.2.1.Level s.Limbs.2.2.1.Dir s.Limbs.2.2.1.Level s.Limbs.2.2.2.1.Dir s.Limbs.2.2.2.1.Level s.Limbs.2.2.2.2.Dir s.Limbs.2.2.2.2.Level s b s b m 2 (if wr .i64 ((wr .i64 (29 * s.X)) + (wr .i64 (b.Reach.1 * y33.1.X))) < B.1 then wr .i64 ((wr .i64 (29 * s.X)) + (wr .i64 (b.Reach.1 * y33.1.X))) else B.1) (if B.2.1 < wr .i64 ((wr .i64 (29 * s.X)) + (wr .i64 (b.Reach.1 * y33.1.X))) then wr .i64 ((wr .i64 (29 * s.X)) + (wr .i64 (b.Reach.1 * y33.1.X))) else B.2.1) (if wr .i64 ((wr .i64 (29 * s.Y)) + (wr .i64 (b.Reach.1 * y33.1.Y))) < B.2.2.1 then wr .i64 ((wr .i64 (29 * s.Y)) + (wr .i64 (b.Reach.1 * y33.1.Y))) else B.2.2.1) (if B.2.2.2 < wr .i64 ((wr .i64 (29 * s.Y)) + (wr .i64 (b.Reach.1 * y33.1.Y))) then wr .i64 ((wr .i64 (29 * s.Y)) + (wr .i64 (b.Reach.1 * y33.1.Y))) else B.2.2.2)) := by kernel_rfl
theorem t20_1 {s : S_State} {b : S_Body} {B : Bx} (n m : Nat) (h : okB s = true) (hb : body_of b) : F20_64_0 n s.Limbs.1.Dir s.Limbs.1.Level s.Limbs.2.1.Dir s.Limbs.2.1.Level s.Limbs.2.2.1.Dir s.Limbs.2.2.1.Level s.Limbs.2.2.2.1.Dir s.Limbs.2.2.2.1.Level s.Limbs.2.2.2.2.Dir s.Limbs.2.2.2.2.Level s b s b (m + 1) 1 B.1 B.2.1 B.2.2.1 B.2.2.2 = F20_64_0 n s.Limbs.1.Dir s.Limbs.1.Level s.Limbs.2.1.Dir s.Limbs.2.1.Level s.Limbs.2.2.1.Dir s.Limbs.2.2.1.Level s.Limbs.2.2.2.1.Dir s.Limbs.2.2.2.1.Level s.Limbs.2.2.2.2.Dir s.Limbs.2.2.2.2.Level s b s b m 2 (limbU s s.Limbs.2.1.Dir s.Limbs.2.1.Level b.Reach.1 B).1 (limbU s s.Limbs.2.1.Dir s.Limbs.2.1.Level b.Reach.1 B).2.1 (limbU s s.Limbs.2.1.Dir s.Limbs.2.1.Level b.Reach.1 B).2.2.1 (limbU s s.Limbs.2.1.Dir s.Limbs.2.1.Level b.Reach.1 B).2.2.2 := by
  rw [s20_1]
  exact comb20 (r := b.Reach.1) h (limbs_of' h).2.1 hb.2.1 (fun a c d e => F20_64_0 n s.Limbs.1.Dir s.Limbs.1.Level s.Limbs.2.1.Dir s.Limbs.2.1.Level s.Limbs.2.2.1.Dir s.Limbs.2.2.1.Level s.Limbs.2.2.2.1.Dir s.Limbs.2.2.2.1.Level s.Limbs.2.2.2.2.Dir s.Limbs.2.2.2.2.Level s b s b m 2 a c d e)
theorem s20_2 (n m : Nat) (s : S_State) (b : S_Body) (B : Bx) : F20_64_0 n s.Limbs.1.Dir s.Limbs.1.Level s.Limbs.2.1.Dir s.Limbs.2.1.Level s.Limbs.2.2.1.Dir s.Limbs.2.2.1.Level s.Limbs.2.2.2.1.Dir s.Limbs.2.2.2.1.Level s.Limbs.2.2.2.2.Dir s.Limbs.2.2.2.2.Level s b s b (m + 1) 2 B.1 B.2.1 B.2.2.1 B.2.2.2 = (bif (s.Limbs.2.2.1.Level == 0) then F20_64_0 n s.Limbs.1.Dir s.Limbs.1.Level s.Limbs.2.1.Dir s.Limbs.2.1.Level s.Limbs.2.2.1.Dir s.Limbs.2.2.1.Level s.Limbs.2.2.2.1.Dir s.Limbs.2.2.2.1.Level s.Limbs.2.2.2.2.Dir s.Limbs.2.2.2.2.Level s b s b m 3 B.1 B.2.1 B.2.2.1 B.2.2.2 else Option.bind (G24 s.Limbs.2.2.1.Dir s.Face) fun y32 => Option.bind (G25 y32.1 s.Limbs.2.2.1.Level) fun y33 => F20_64_0 n s.Limbs.1.Dir s.Limbs.1.Level s.Limbs.2.1.Dir s.Limbs.2.1.Level s.Limbs.2.2.1.Dir s.Limbs.2.2.1.Level s.Limbs.2.2.2.1.Dir s.Limbs.2.2.2.1.Level s.Limbs.2.2.2.2.Dir s.Limbs.2.2.2.2.Level s b s b m 3 (if wr .i64 ((wr .i64 (29 * s.X)) + (wr .i64 (b.Reach.2.1 * y33.1.X))) < B.1 then wr .i64 ((wr .i64 (29 * s.X)) + (wr .i64 (b.Reach.2.1 * y33.1.X))) else B.1) (if B.2.1 < wr .i64 ((wr .i64 (29 * s.X)) + (wr .i64 (b.Reach.2.1 * y33.1.X))) then wr .i64 ((wr .i64 (29 * s.X)) + (wr .i64 (b.Reach.2.1 * y33.1.X))) else B.2.1) (if wr .i64 ((wr .i64 (29 * s.Y)) + (wr .i64 (b.Reach.2.1 * y33.1.Y))) < B.2.2.1 then wr .i64 ((wr .i64 (29 * s.Y)) + (wr .i64 (b.Reach.2.1 * y33.1.Y))) else B.2.2.1) (if B.2.2.2 < wr .i64 ((wr .i64 (29 * s.Y)) + (wr .i64 (b.Reach.2.1 * y33.1.Y))) then wr .i64 ((wr .i64 (29 * s.Y)) + (wr .i64 (b.Reach.2.1 * y33.1.Y))) else B.2.2.2)) := by kernel_rfl
theorem t20_2 {s : S_State} {b : S_Body} {B : Bx} (n m : Nat) (h : okB s = true) (hb : body_of b) : F20_64_0 n s.Limbs.1.Dir s.Limbs.1.Level s.Limbs.2.1.Dir s.Limbs.2.1.Level s.Limbs.2.2.1.Dir s.Limbs.2.2.1.Level s.Limbs.2.2.2.1.Dir s.Limbs.2.2.2.1.Level s.Limbs.2.2.2.2.Dir s.Limbs.2.2.2.2.Level s b s b (m + 1) 2 B.1 B.2.1 B.2.2.1 B.2.2.2 = F20_64_0 n s.Limbs.1.Dir s.Limbs.1.Level s.Limbs.2.1.Dir s.Limbs.2.1.Level s.Limbs.2.2.1.Dir s.Limbs.2.2.1.Level s.Limbs.2.2.2.1.Dir s.Limbs.2.2.2.1.Level s.Limbs.2.2.2.2.Dir s.Limbs.2.2.2.2.Level s b s b m 3 (limbU s s.Limbs.2.2.1.Dir s.Limbs.2.2.1.Level b.Reach.2.1 B).1 (limbU s s.Limbs.2.2.1.Dir s.Limbs.2.2.1.Level b.Reach.2.1 B).2.1 (limbU s s.Limbs.2.2.1.Dir s.Limbs.2.2.1.Level b.Reach.2.1 B).2.2.1 (limbU s s.Limbs.2.2.1.Dir s.Limbs.2.2.1.Level b.Reach.2.1 B).2.2.2 := by
  rw [s20_2]
  exact comb20 (r := b.Reach.2.1) h (limbs_of' h).2.2.1 hb.2.2.1 (fun a c d e => F20_64_0 n s.Limbs.1.Dir s.Limbs.1.Level s.Limbs.2.1.Dir s.Limbs.2.1.Level s.Limbs.2.2.1.Dir s.Limbs.2.2.1.Level s.Limbs.2.2.2.1.Dir s.Limbs.2.2.2.1.Level s.Limbs.2.2.2.2.Dir s.Limbs.2.2.2.2.Level s b s b m 3 a c d e)
theorem s20_3 (n m : Nat) (s : S_State) (b : S_Body) (B : Bx) : F20_64_0 n s.Limbs.1.Dir s.Limbs.1.Level s.Limbs.2.1.Dir s.Limbs.2.1.Level s.Limbs.2.2.1.Dir s.Limbs.2.2.1.Level s.Limbs.2.2.2.1.Dir s.Limbs.2.2.2.1.Level s.Limbs.2.2.2.2.Dir s.Limbs.2.2.2.2.Level s b s b (m + 1) 3 B.1 B.2.1 B.2.2.1 B.2.2.2 = (bif (s.Limbs.2.2.2.1.Level == 0) then F20_64_0 n s.Limbs.1.Dir s.Limbs.1.Level s.Limbs.2.1.Dir s.Limbs.2.1.Level s.Limbs.2.2.1.Dir s.Limbs.2.2.1.Level s.Limbs.2.2.2.1.Dir s.Limbs.2.2.2.1.Level s.Limbs.2.2.2.2.Dir s.Limbs.2.2.2.2.Level s b s b m 4 B.1 B.2.1 B.2.2.1 B.2.2.2 else Option.bind (G24 s.Limbs.2.2.2.1.Dir s.Face) fun y32 => Option.bind (G25 y32.1 s.Limbs.2.2.2.1.Level) fun y33 => F20_64_0 n s.Limbs.1.Dir s.Limbs.1.Level s.Limbs.2.1.Dir s.Limbs.2.1.Level s.Limbs.2.2.1.Dir s.Limbs.2.2.1.Level s.Limbs.2.2.2.1.Dir s.Limbs.2.2.2.1.Level s.Limbs.2.2.2.2.Dir s.Limbs.2.2.2.2.Level s b s b m 4 (if wr .i64 ((wr .i64 (29 * s.X)) + (wr .i64 (b.Reach.2.1 * y33.1.X))) < B.1 then wr .i64 ((wr .i64 (29 * s.X)) + (wr .i64 (b.Reach.2.1 * y33.1.X))) else B.1) (if B.2.1 < wr .i64 ((wr .i64 (29 * s.X)) + (wr .i64 (b.Reach.2.1 * y33.1.X))) then wr .i64 ((wr .i64 (29 * s.X)) + (wr .i64 (b.Reach.2.1 * y33.1.X))) else B.2.1) (if wr .i64 ((wr .i64 (29 * s.Y)) + (wr .i64 (b.Reach.2.1 * y33.1.Y))) < B.2.2.1 then wr .i64 ((wr .i64 (29 * s.Y)) + (wr .i64 (b.Reach.2.1 * y33.1.Y))) else B.2.2.1) (if B.2.2.2 < wr .i64 ((wr .i64 (29 * s.Y)) + (wr .i64 (b.Reach.2.1 * y33.1.Y))) then wr .i64 ((wr .i64 (29 * s.Y)) + (wr .i64 (b.Reach.2.1 * y33.1.Y))) else B.2.2.2)) := by kernel_rfl
theorem t20_3 {s : S_State} {b : S_Body} {B : Bx} (n m : Nat) (h : okB s = true) (hb : body_of b) : F20_64_0 n s.Limbs.1.Dir s.Limbs.1.Level s.Limbs.2.1.Dir s.Limbs.2.1.Level s.Limbs.2.2.1.Dir s.Limbs.2.2.1.Level s.Limbs.2.2.2.1.Dir s.Limbs.2.2.2.1.Level s.Limbs.2.2.2.2.Dir s.Limbs.2.2.2.2.Level s b s b (m + 1) 3 B.1 B.2.1 B.2.2.1 B.2.2.2 = F20_64_0 n s.Limbs.1.Dir s.Limbs.1.Level s.Limbs.2.1.Dir s.Limbs.2.1.Level s.Limbs.2.2.1.Dir s.Limbs.2.2.1.Level s.Limbs.2.2.2.1.Dir s.Limbs.2.2.2.1.Level s.Limbs.2.2.2.2.Dir s.Limbs.2.2.2.2.Level s b s b m 4 (limbU s s.Limbs.2.2.2.1.Dir s.Limbs.2.2.2.1.Level b.Reach.2.1 B).1 (limbU s s.Limbs.2.2.2.1.Dir s.Limbs.2.2.2.1.Level b.Reach.2.1 B).2.1 (limbU s s.Limbs.2.2.2.1.Dir s.Limbs.2.2.2.1.Level b.Reach.2.1 B).2.2.1 (limbU s s.Limbs.2.2.2.1.Dir s.Limbs.2.2.2.1.Level b.Reach.2.1 B).2.2.2 := by
  rw [s20_3]
  exact comb20 (r := b.Reach.2.1) h (limbs_of' h).2.2.2.1 hb.2.2.1 (fun a c d e => F20_64_0 n s.Limbs.1.Dir s.Limbs.1.Level s.Limbs.2.1.Dir s.Limbs.2.1.Level s.Limbs.2.2.1.Dir s.Limbs.2.2.1.Level s.Limbs.2.2.2.1.Dir s.Limbs.2.2.2.1.Level s.Limbs.2.2.2.2.Dir s.Limbs.2.2.2.2.Level s b s b m 4 a c d e)
theorem s20_4 (n m : Nat) (s : S_State) (b : S_Body) (B : Bx) : F20_64_0 n s.Limbs.1.Dir s.Limbs.1.Level s.Limbs.2.1.Dir s.Limbs.2.1.Level s.Limbs.2.2.1.Dir s.Limbs.2.2.1.Level s.Limbs.2.2.2.1.Dir s.Limbs.2.2.2.1.Level s.Limbs.2.2.2.2.Dir s.Limbs.2.2.2.2.Level s b s b (m + 1) 4 B.1 B.2.1 B.2.2.1 B.2.2.2 = (bif (s.Limbs.2.2.2.2.Level == 0) then F20_64_0 n s.Limbs.1.Dir s.Limbs.1.Level s.Limbs.2.1.Dir s.Limbs.2.1.Level s.Limbs.2.2.1.Dir s.Limbs.2.2.1.Level s.Limbs.2.2.2.1.Dir s.Limbs.2.2.2.1.Level s.Limbs.2.2.2.2.Dir s.Limbs.2.2.2.2.Level s b s b m 5 B.1 B.2.1 B.2.2.1 B.2.2.2 else Option.bind (G24 s.Limbs.2.2.2.2.Dir s.Face) fun y32 => Option.bind (G25 y32.1 s.Limbs.2.2.2.2.Level) fun y33 => F20_64_0 n s.Limbs.1.Dir s.Limbs.1.Level s.Limbs.2.1.Dir s.Limbs.2.1.Level s.Limbs.2.2.1.Dir s.Limbs.2.2.1.Level s.Limbs.2.2.2.1.Dir s.Limbs.2.2.2.1.Level s.Limbs.2.2.2.2.Dir s.Limbs.2.2.2.2.Level s b s b m 5 (if wr .i64 ((wr .i64 (29 * s.X)) + (wr .i64 (b.Reach.2.2 * y33.1.X))) < B.1 then wr .i64 ((wr .i64 (29 * s.X)) + (wr .i64 (b.Reach.2.2 * y33.1.X))) else B.1) (if B.2.1 < wr .i64 ((wr .i64 (29 * s.X)) + (wr .i64 (b.Reach.2.2 * y33.1.X))) then wr .i64 ((wr .i64 (29 * s.X)) + (wr .i64 (b.Reach.2.2 * y33.1.X))) else B.2.1) (if wr .i64 ((wr .i64 (29 * s.Y)) + (wr .i64 (b.Reach.2.2 * y33.1.Y))) < B.2.2.1 then wr .i64 ((wr .i64 (29 * s.Y)) + (wr .i64 (b.Reach.2.2 * y33.1.Y))) else B.2.2.1) (if B.2.2.2 < wr .i64 ((wr .i64 (29 * s.Y)) + (wr .i64 (b.Reach.2.2 * y33.1.Y))) then wr .i64 ((wr .i64 (29 * s.Y)) + (wr .i64 (b.Reach.2.2 * y33.1.Y))) else B.2.2.2)) := by kernel_rfl
theorem t20_4 {s : S_State} {b : S_Body} {B : Bx} (n m : Nat) (h : okB s = true) (hb : body_of b) : F20_64_0 n s.Limbs.1.Dir s.Limbs.1.Level s.Limbs.2.1.Dir s.Limbs.2.1.Level s.Limbs.2.2.1.Dir s.Limbs.2.2.1.Level s.Limbs.2.2.2.1.Dir s.Limbs.2.2.2.1.Level s.Limbs.2.2.2.2.Dir s.Limbs.2.2.2.2.Level s b s b (m + 1) 4 B.1 B.2.1 B.2.2.1 B.2.2.2 = F20_64_0 n s.Limbs.1.Dir s.Limbs.1.Level s.Limbs.2.1.Dir s.Limbs.2.1.Level s.Limbs.2.2.1.Dir s.Limbs.2.2.1.Level s.Limbs.2.2.2.1.Dir s.Limbs.2.2.2.1.Level s.Limbs.2.2.2.2.Dir s.Limbs.2.2.2.2.Level s b s b m 5 (limbU s s.Limbs.2.2.2.2.Dir s.Limbs.2.2.2.2.Level b.Reach.2.2 B).1 (limbU s s.Limbs.2.2.2.2.Dir s.Limbs.2.2.2.2.Level b.Reach.2.2 B).2.1 (limbU s s.Limbs.2.2.2.2.Dir s.Limbs.2.2.2.2.Level b.Reach.2.2 B).2.2.1 (limbU s s.Limbs.2.2.2.2.Dir s.Limbs.2.2.2.2.Level b.Reach.2.2 B).2.2.2 := by
  rw [s20_4]
  exact comb20 (r := b.Reach.2.2) h (limbs_of' h).2.2.2.2 hb.2.2.2 (fun a c d e => F20_64_0 n s.Limbs.1.Dir s.Limbs.1.Level s.Limbs.2.1.Dir s.Limbs.2.1.Level s.Limbs.2.2.1.Dir s.Limbs.2.2.1.Level s.Limbs.2.2.2.1.Dir s.Limbs.2.2.2.1.Level s.Limbs.2.2.2.2.Dir s.Limbs.2.2.2.2.Level s b s b m 5 a c d e)
theorem s20_5 (n m : Nat) (s : S_State) (b : S_Body) (B : Bx) : F20_64_0 n s.Limbs.1.Dir s.Limbs.1.Level s.Limbs.2.1.Dir s.Limbs.2.1.Level s.Limbs.2.2.1.Dir s.Limbs.2.2.1.Level s.Limbs.2.2.2.1.Dir s.Limbs.2.2.2.1.Level s.Limbs.2.2.2.2.Dir s.Limbs.2.2.2.2.Level s b s b (m + 1) 5 B.1 B.2.1 B.2.2.1 B.2.2.2 = some B := by kernel_rfl
def sqr (s : S_State) (b : S_Body) : Bx := (29 * s.X - 841 * b.Girth, 29 * s.X + 841 * b.Girth, 29 * s.Y - 841 * b.Girth, 29 * s.Y + 841 * b.Girth)
def ext (s : S_State) (b : S_Body) : Bx := limbU s s.Limbs.2.2.2.2.Dir s.Limbs.2.2.2.2.Level b.Reach.2.2 (limbU s s.Limbs.2.2.2.1.Dir s.Limbs.2.2.2.1.Level b.Reach.2.1 (limbU s s.Limbs.2.2.1.Dir s.Limbs.2.2.1.Level b.Reach.2.1 (limbU s s.Limbs.2.1.Dir s.Limbs.2.1.Level b.Reach.1 (limbU s s.Limbs.1.Dir s.Limbs.1.Level b.Reach.1 (sqr s b)))))
theorem wsqr {s : S_State} {b : S_Body} (h : okB s = true) (hb : body_of b) : wr .i64 (29 * s.X) = 29 * s.X ∧ wr .i64 (29 * s.Y) = 29 * s.Y ∧ wr .i64 (841 * b.Girth) = 841 * b.Girth ∧ wr .i64 (29 * s.X - 841 * b.Girth) = 29 * s.X - 841 * b.Girth ∧ wr .i64 (29 * s.X + 841 * b.Girth) = 29 * s.X + 841 * b.Girth ∧ wr .i64 (29 * s.Y - 841 * b.Girth) = 29 * s.Y - 841 * b.Girth ∧ wr .i64 (29 * s.Y + 841 * b.Girth) = 29 * s.Y + 841 * b.Girth := by
  obtain ⟨hx, hy, hf⟩ := place_of' h
  have hg := hb.1
  refine ⟨?_, ?_, ?_, ?_, ?_, ?_, ?_⟩ <;> exact wr64 (by omega) (by omega)
def zBox : S_Box := S_Box.mk (S_Range.mk 0 0) (S_Range.mk 0 0)
def extR (s : S_State) (b : S_Body) : S_Box × Int := if okB s = true then (if chk b = 0 then (boxB (ext s b), 0) else (zBox, chk b)) else (zBox, 260)
theorem g20 (s : S_State) (b : S_Body) : G20 s b = some (extR s b) := by
  unfold G20 F20 extR
  rw [g16]
  cases h : okB s with
  | false => rfl
  | true =>
    simp only [if_true, Option.bind_some, bne_self_eq_false, cond_false]
    rw [g23c]
    by_cases hc : chk b = 0
    · have hb := rest_body ((g39c b).2.1 hc)
      obtain ⟨w1, w2, w3, w4, w5, w6, w7⟩ := wsqr h hb
      rw [if_pos hc, hc]
      simp only [Option.bind_some, bne_self_eq_false, cond_false, w1, w2, w3, w4, w5, w6, w7]
      have e := t20_0 (B := sqr s b) fuel0 (fuel0 + 6) h hb
      rw [show fuel0 + 6 = fuel0 + 1 + 1 + 1 + 1 + 1 + 1 from rfl, t20_1 _ _ h hb, t20_2 _ _ h hb, t20_3 _ _ h hb, t20_4 _ _ h hb, s20_5] at e
      rw [show fuel0 + 7 = fuel0 + 1 + 1 + 1 + 1 + 1 + 1 + 1 from rfl]
      refine Eq.trans (congrArg (fun z => Option.bind z _) e) ?_
      rfl
    · rw [if_neg hc]
      simp only [Option.bind_some]
      rw [show (chk b != 0) = true by simpa using hc]
      rfl
end Go.Proofs.YtooamdacfhfjoaaDoor
