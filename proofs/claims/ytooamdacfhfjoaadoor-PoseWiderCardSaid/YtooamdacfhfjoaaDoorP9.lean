/-
  Layer 26, in plain Lean: moved places, and greater bodies.
-/
import Derived.Test.YtooamdacfhfjoaaDoorP8n
namespace Go.Proofs.YtooamdacfhfjoaaDoor
set_option linter.unusedVariables false
set_option linter.unusedSimpArgs false
set_option maxRecDepth 100000
set_option maxHeartbeats 4000000
theorem g48_s (n : Nat) (a : Int) (b : Bool) (l : List Int) (c x : Int) (m : Nat) (i : Int) (h1 : i < c) (h2 : getI l i = some x) (h3 : wr .i64 (0 - a) ≤ x) (h4 : x ≤ a) : F48_48_0 n a b l c (m + 1) i = F48_48_0 n a b l c m (wr .i64 (i + 1)) := by
  show (bif decide (i < c) then _ else _) = _
  rw [decide_eq_true h1, h2]
  simp only [cond_true, Option.bind_some]
  rw [decide_eq_false (show ¬ x < wr .i64 (0 - a) by omega), decide_eq_false (show ¬ a < x by omega)]
  rfl
theorem g48_4 (a x y z w : Int) (ha : 0 ≤ a ∧ a ≤ 4611686018427387904) (hx : -a ≤ x ∧ x ≤ a) (hy : -a ≤ y ∧ y ≤ a) (hz : -a ≤ z ∧ z ≤ a) (hw : -a ≤ w ∧ w ≤ a) : G48 a [x, y, z, w] = some true := by
  have e : wr .i64 (0 - a) = 0 - a := wr64 (by omega) (by omega)
  have f : F48_48_0 fuel0 a false [x, y, z, w] (([x, y, z, w] : List Int).length : Int) (fuel0 + 8) 0 = some (Sum.inr ()) := by
    rw [show fuel0 + 8 = fuel0 + 3 + 1 + 1 + 1 + 1 + 1 from rfl]
    rw [g48_s (x := x) (h1 := by simp only [List.length_cons, List.length_nil]; decide) (h2 := rfl) (h3 := by omega) (h4 := by omega), show wr .i64 ((0 : Int) + 1) = 1 from rfl]
    rw [g48_s (x := y) (h1 := by simp only [List.length_cons, List.length_nil]; decide) (h2 := rfl) (h3 := by omega) (h4 := by omega), show wr .i64 ((1 : Int) + 1) = 2 from rfl]
    rw [g48_s (x := z) (h1 := by simp only [List.length_cons, List.length_nil]; decide) (h2 := rfl) (h3 := by omega) (h4 := by omega), show wr .i64 ((2 : Int) + 1) = 3 from rfl]
    rw [g48_s (x := w) (h1 := by simp only [List.length_cons, List.length_nil]; decide) (h2 := rfl) (h3 := by omega) (h4 := by omega), show wr .i64 ((3 : Int) + 1) = 4 from rfl]
    rfl
  unfold G48 F48
  rw [f]
  rfl
theorem g48_2 (a x y : Int) (ha : 0 ≤ a ∧ a ≤ 4611686018427387904) (hx : -a ≤ x ∧ x ≤ a) (hy : -a ≤ y ∧ y ≤ a) : G48 a [x, y] = some true := by
  have e : wr .i64 (0 - a) = 0 - a := wr64 (by omega) (by omega)
  have f : F48_48_0 fuel0 a false [x, y] (([x, y] : List Int).length : Int) (fuel0 + 8) 0 = some (Sum.inr ()) := by
    rw [show fuel0 + 8 = fuel0 + 5 + 1 + 1 + 1 from rfl]
    rw [g48_s (x := x) (h1 := by simp only [List.length_cons, List.length_nil]; decide) (h2 := rfl) (h3 := by omega) (h4 := by omega), show wr .i64 ((0 : Int) + 1) = 1 from rfl]
    rw [g48_s (x := y) (h1 := by simp only [List.length_cons, List.length_nil]; decide) (h2 := rfl) (h3 := by omega) (h4 := by omega), show wr .i64 ((1 : Int) + 1) = 2 from rfl]
    rfl
  unfold G48 F48
  rw [f]
  rfl
theorem g47 {B : Bx} (h : InvB B) : G47 (boxB B) = some true := by
  obtain ⟨⟨h1, h2, h3⟩, h4, h5, h6⟩ := h
  have e : G48 1099511627776 [(boxB B).X.Lo, (boxB B).X.Hi, (boxB B).Y.Lo, (boxB B).Y.Hi] = some true := g48_4 _ _ _ _ _ (by decide) ⟨by show _ ≤ B.1; omega, by show B.1 ≤ _; omega⟩ ⟨by show _ ≤ B.2.1; omega, by show B.2.1 ≤ _; omega⟩ ⟨by show _ ≤ B.2.2.1; omega, by show B.2.2.1 ≤ _; omega⟩ ⟨by show _ ≤ B.2.2.2; omega, by show B.2.2.2 ≤ _; omega⟩
  unfold G47 F47
  rw [e]
  simp only [Option.bind_some, cond_true]
  rw [decide_eq_true (show (boxB B).X.Lo ≤ (boxB B).X.Hi from h2), decide_eq_true (show (boxB B).Y.Lo ≤ (boxB B).Y.Hi from h5)]
  rfl
def shB (B : Bx) (x y : Int) : Bx := (B.1 + 29 * x, B.2.1 + 29 * x, B.2.2.1 + 29 * y, B.2.2.2 + 29 * y)
theorem g26 {B : Bx} {x y : Int} (h : InvB B) (h' : InvB (shB B x y)) (hx : -32768 ≤ x ∧ x ≤ 32767) (hy : -32768 ≤ y ∧ y ≤ 32767) : G26 (boxB B) (29 * x) (29 * y) = some (boxB (shB B x y), 0) := by
  have e0 := g47 h
  have e2 := g47 h'
  have e1 : G48 2199023255552 [29 * x, 29 * y] = some true := g48_2 _ _ _ (by decide) ⟨by omega, by omega⟩ ⟨by omega, by omega⟩
  obtain ⟨⟨h1, h2, h3⟩, h4, h5, h6⟩ := h
  have eq : S_Box.mk (S_Range.mk (wr .i64 ((boxB B).X.Lo + 29 * x)) (wr .i64 ((boxB B).X.Hi + 29 * x))) (S_Range.mk (wr .i64 ((boxB B).Y.Lo + 29 * y)) (wr .i64 ((boxB B).Y.Hi + 29 * y))) = boxB (shB B x y) := by
    show S_Box.mk (S_Range.mk (wr .i64 (B.1 + 29 * x)) (wr .i64 (B.2.1 + 29 * x))) (S_Range.mk (wr .i64 (B.2.2.1 + 29 * y)) (wr .i64 (B.2.2.2 + 29 * y))) = _
    rw [wr64 (by omega) (by omega), wr64 (by omega) (by omega), wr64 (by omega) (by omega), wr64 (by omega) (by omega)]
    rfl
  unfold G26 F26
  rw [e0, e1, eq, e2]
  rfl
def Sub (B C : Bx) : Prop := C.1 ≤ B.1 ∧ B.2.1 ≤ C.2.1 ∧ C.2.2.1 ≤ B.2.2.1 ∧ B.2.2.2 ≤ C.2.2.2
def Cen (s : S_State) (B : Bx) : Prop := (B.1 ≤ 29 * s.X ∧ 29 * s.X ≤ B.2.1) ∧ (B.2.2.1 ≤ 29 * s.Y ∧ 29 * s.Y ≤ B.2.2.2)
theorem g27 {B C : Bx} (hB : InvB B) (hC : InvB C) (h : Sub B C) : G27 (boxB B) (boxB C) = some (true, 0) := by
  obtain ⟨h1, h2, h3, h4⟩ := h
  unfold G27 F27 G49_50 F49_50 G50 F50
  rw [g47 hB, g47 hC]
  simp only [Option.bind_some, Bool.not_true, cond_false]
  rw [decide_eq_true (show (boxB C).X.Lo ≤ (boxB B).X.Lo from h1), decide_eq_true (show (boxB B).X.Hi ≤ (boxB C).X.Hi from h2), decide_eq_true (show (boxB C).Y.Lo ≤ (boxB B).Y.Lo from h3), decide_eq_true (show (boxB B).Y.Hi ≤ (boxB C).Y.Hi from h4)]
  rfl
theorem far {r r' v : Int} (h : 1 ≤ r ∧ r ≤ r') : (0 ≤ v → 0 ≤ r * v ∧ r * v ≤ r' * v) ∧ (v ≤ 0 → r' * v ≤ r * v ∧ r * v ≤ 0) := by
  constructor
  · intro hv
    exact ⟨Int.mul_nonneg (by omega) hv, Int.mul_le_mul_of_nonneg_right h.2 hv⟩
  · intro hv
    have h1 := Int.mul_le_mul_of_nonneg_right h.2 (show 0 ≤ -v by omega)
    have h2 := Int.mul_nonneg (show 0 ≤ r by omega) (show 0 ≤ -v by omega)
    rw [Int.mul_neg] at h2
    rw [Int.mul_neg, Int.mul_neg] at h1
    omega
theorem upd_sub {s : S_State} {B C : Bx} {x y x' y' : Int} (h : Sub B C) (hc : Cen s C) (hx : (29 * s.X ≤ x ∧ x ≤ x') ∨ (x' ≤ x ∧ x ≤ 29 * s.X)) (hy : (29 * s.Y ≤ y ∧ y ≤ y') ∨ (y' ≤ y ∧ y ≤ 29 * s.Y)) : Sub (updB B x y) (updB C x' y') ∧ Cen s (updB C x' y') := by
  unfold Sub Cen updB at *
  obtain ⟨h1, h2, h3, h4⟩ := h
  obtain ⟨⟨c1, c2⟩, c3, c4⟩ := hc
  refine ⟨⟨?_, ?_, ?_, ?_⟩, ⟨?_, ?_⟩, ?_, ?_⟩ <;> simp only [] <;> (repeat' split) <;> omega
theorem limb_mono {s : S_State} {d l r r' : Int} {B C : Bx} (hr : 1 ≤ r ∧ r ≤ r') (h : Sub B C) (hc : Cen s C) : Sub (limbU s d l r B) (limbU s d l r' C) ∧ Cen s (limbU s d l r' C) := by
  unfold limbU
  by_cases h0 : l = 0
  · rw [if_pos h0, if_pos h0]; exact ⟨h, hc⟩
  · rw [if_neg h0, if_neg h0]
    obtain ⟨f1, f2⟩ := far (v := (tipV d s.Face l).1) hr
    obtain ⟨f3, f4⟩ := far (v := (tipV d s.Face l).2) hr
    refine upd_sub h hc ?_ ?_
    · by_cases hv : 0 ≤ (tipV d s.Face l).1
      · have := f1 hv; left; omega
      · have := f2 (by omega); right; omega
    · by_cases hv : 0 ≤ (tipV d s.Face l).2
      · have := f3 hv; left; omega
      · have := f4 (by omega); right; omega
theorem upd_sh (B : Bx) (x y a b : Int) : updB (shB B x y) (a + 29 * x) (b + 29 * y) = shB (updB B a b) x y := by
  unfold updB shB
  simp only [Prod.mk.injEq]
  refine ⟨?_, ?_, ?_, ?_⟩ <;> (split <;> split <;> omega)
def mvS (s : S_State) (x y : Int) : S_State := S_State.mk (s.X + x) (s.Y + y) s.Face s.Limbs
theorem limb_sh (s : S_State) (d l r x y : Int) (B : Bx) : limbU (mvS s x y) d l r (shB B x y) = shB (limbU s d l r B) x y := by
  unfold limbU
  by_cases h0 : l = 0
  · rw [if_pos h0, if_pos h0]
  · rw [if_neg h0, if_neg h0, ← upd_sh]
    show updB _ (29 * (s.X + x) + r * (tipV d s.Face l).1) (29 * (s.Y + y) + r * (tipV d s.Face l).2) = _
    rw [show 29 * (s.X + x) + r * (tipV d s.Face l).1 = 29 * s.X + r * (tipV d s.Face l).1 + 29 * x by omega, show 29 * (s.Y + y) + r * (tipV d s.Face l).2 = 29 * s.Y + r * (tipV d s.Face l).2 + 29 * y by omega]
theorem ext_sh (s : S_State) (b : S_Body) (x y : Int) : ext (mvS s x y) b = shB (ext s b) x y := by
  unfold ext
  rw [show sqr (mvS s x y) b = shB (sqr s b) x y by
    unfold sqr shB mvS
    simp only [Prod.mk.injEq]
    refine ⟨?_, ?_, ?_, ?_⟩ <;> omega]
  have e : (mvS s x y).Limbs = s.Limbs := rfl
  simp only [e, limb_sh]
def Wid (b c : S_Body) : Prop := b.Girth ≤ c.Girth ∧ b.Reach.1 ≤ c.Reach.1 ∧ b.Reach.2.1 ≤ c.Reach.2.1 ∧ b.Reach.2.2 ≤ c.Reach.2.2
theorem ext_mono {s : S_State} {b c : S_Body} (hb : body_of b) (h : Wid b c) : Sub (ext s b) (ext s c) := by
  obtain ⟨b1, b2, b3, b4⟩ := hb
  obtain ⟨w1, w2, w3, w4⟩ := h
  have h0 : Sub (sqr s b) (sqr s c) ∧ Cen s (sqr s c) := by
    unfold Sub Cen sqr
    refine ⟨⟨?_, ?_, ?_, ?_⟩, ⟨?_, ?_⟩, ?_, ?_⟩ <;> simp only [] <;> omega
  have h1 := limb_mono (d := s.Limbs.1.Dir) (l := s.Limbs.1.Level) (r := b.Reach.1) (r' := c.Reach.1) ⟨by omega, by omega⟩ h0.1 h0.2
  have h2 := limb_mono (d := s.Limbs.2.1.Dir) (l := s.Limbs.2.1.Level) (r := b.Reach.1) (r' := c.Reach.1) ⟨by omega, by omega⟩ h1.1 h1.2
  have h3 := limb_mono (d := s.Limbs.2.2.1.Dir) (l := s.Limbs.2.2.1.Level) (r := b.Reach.2.1) (r' := c.Reach.2.1) ⟨by omega, by omega⟩ h2.1 h2.2
  have h4 := limb_mono (d := s.Limbs.2.2.2.1.Dir) (l := s.Limbs.2.2.2.1.Level) (r := b.Reach.2.1) (r' := c.Reach.2.1) ⟨by omega, by omega⟩ h3.1 h3.2
  have h5 := limb_mono (d := s.Limbs.2.2.2.2.Dir) (l := s.Limbs.2.2.2.2.Level) (r := b.Reach.2.2) (r' := c.Reach.2.2) ⟨by omega, by omega⟩ h4.1 h4.2
  exact h5.1
theorem ext_inv {s : S_State} {b : S_Body} (h : okB s = true) (hb : body_of b) : InvB (ext s b) := by
  have l := limbs_of' h
  exact limb_inv h l.2.2.2.2 hb.2.2.2 (limb_inv h l.2.2.2.1 hb.2.2.1 (limb_inv h l.2.2.1 hb.2.2.1 (limb_inv h l.2.1 hb.2.1 (limb_inv h l.1 hb.2.1 (sqr_inv h hb)))))
def rest10 (s : S_State) (c : S_Body) (y3 : S_Box) : Option Bool := Option.bind (G23 c) fun y20 => bif (y20 != 0) then (some true) else (Option.bind (G20 s c) fun y22 => Option.bind (G27 y3 y22.1) fun y23 => Option.bind (bif (y22.2 == 0) then (some (y23.2 == 0)) else (some false)) fun y25 => Option.bind (bif y25 then (some y23.1) else (some false)) fun y29 => some y29)
def mvW (s : S_State) (x y : Int) : S_State := S_State.mk (wr .i64 (s.X + (wr .i64 (x)))) (wr .i64 (s.Y + (wr .i64 (y)))) s.Face s.Limbs
def tail10 (s : S_State) (b : S_Body) (x y : Int) (c : S_Body) (y3 : S_Box) : Option Bool := Option.bind (G16 (mvW s x y)) fun y6 => bif (y6 == 0) then (Option.bind (G20 (mvW s x y) b) fun y8 => Option.bind (G26 y3 (wr .i64 (29 * (wr .i64 (x)))) (wr .i64 (29 * (wr .i64 (y))))) fun y9 => Option.bind (bif (y8.2 != 0) then (some true) else (some (y9.2 != 0))) fun y11 => Option.bind (bif y11 then (some true) else (some (!(((y8.1.X.Lo == y9.1.X.Lo) && (y8.1.X.Hi == y9.1.X.Hi)) && ((y8.1.Y.Lo == y9.1.Y.Lo) && (y8.1.Y.Hi == y9.1.Y.Hi)))))) fun y15 => bif y15 then (some false) else (rest10 s c y3)) else rest10 s c y3
def wide0 (b : S_Body) : S_Body := S_Body.mk b.Name b.Weight b.Lift (wr .i64 (b.Girth + 1)) b.Step b.Jump b.Reach b.Speed b.Top b.Effort b.Recover
def wide1 (b : S_Body) : S_Body := S_Body.mk b.Name b.Weight b.Lift b.Girth b.Step b.Jump (wr .i64 (b.Reach.1 + 1), b.Reach.2.1, b.Reach.2.2) b.Speed b.Top b.Effort b.Recover
def wide2 (b : S_Body) : S_Body := S_Body.mk b.Name b.Weight b.Lift b.Girth b.Step b.Jump (b.Reach.1, wr .i64 (b.Reach.2.1 + 1), b.Reach.2.2) b.Speed b.Top b.Effort b.Recover
def wide3 (b : S_Body) : S_Body := S_Body.mk b.Name b.Weight b.Lift b.Girth b.Step b.Jump (b.Reach.1, b.Reach.2.1, wr .i64 (b.Reach.2.2 + 1)) b.Speed b.Top b.Effort b.Recover
theorem s10 (s : S_State) (b : S_Body) (x y w : Int) : G10 s b x y w = Option.bind G11 fun y1 => bif (!y1) then (some false) else (Option.bind (G20 s b) fun y3 => bif (y3.2 != 0) then (some true) else (bif decide ((Int.tmod w 4) = 0) then tail10 s b x y (wide0 b) y3.1 else bif decide ((Int.tmod w 4) = 1) then tail10 s b x y (wide1 b) y3.1 else bif decide ((Int.tmod w 4) = 2) then tail10 s b x y (wide2 b) y3.1 else bif decide ((Int.tmod w 4) = 3) then tail10 s b x y (wide3 b) y3.1 else none)) := by kernel_rfl
theorem rest_ok {s : S_State} {b c : S_Body} (h : okB s = true) (hb : body_of b) (hw : Wid b c) : rest10 s c (boxB (ext s b)) = some true := by
  unfold rest10
  rw [g23c, Option.bind_some]
  by_cases hc : chk c = 0
  · have hc' := rest_body ((g39c c).2.1 hc)
    have e : G20 s c = some (boxB (ext s c), 0) := by rw [g20]; unfold extR; rw [if_pos h, if_pos hc]
    rw [hc, e]
    simp only [Option.bind_some]
    rw [g27 (ext_inv h hb) (ext_inv h hc') (ext_mono hb hw)]
    rfl
  · rw [show (chk c != 0) = true by simpa using hc]
    rfl
theorem tail_ok {s : S_State} {b c : S_Body} {x y : Int} (h : okB s = true) (h0 : chk b = 0) (hw : Wid b c) (hx : -32768 ≤ x ∧ x ≤ 32767) (hy : -32768 ≤ y ∧ y ≤ 32767) : tail10 s b x y c (boxB (ext s b)) = some true := by
  have hb := rest_body ((g39c b).2.1 h0)
  have hr := rest_ok (c := c) h hb hw
  obtain ⟨px, py, pf⟩ := place_of' h
  have em : mvW s x y = mvS s x y := by
    unfold mvW mvS
    rw [wr64 (n := x) (by omega) (by omega), wr64 (n := y) (by omega) (by omega), wr64 (by omega) (by omega), wr64 (by omega) (by omega)]
  unfold tail10
  rw [em, g16, hr, Option.bind_some]
  cases hm : okB (mvS s x y) with
  | false => rfl
  | true =>
    have e : G20 (mvS s x y) b = some (boxB (shB (ext s b) x y), 0) := by rw [g20]; unfold extR; rw [if_pos hm, if_pos h0, ext_sh]
    have i2 : InvB (shB (ext s b) x y) := by rw [← ext_sh]; exact ext_inv hm hb
    rw [e, wr64 (n := x) (by omega) (by omega), wr64 (n := y) (by omega) (by omega), wr64 (n := 29 * x) (by omega) (by omega), wr64 (n := 29 * y) (by omega) (by omega), g26 (ext_inv h hb) i2 hx hy]
    simp only [if_true, Option.bind_some, beq_self_eq_true, Bool.and_self, Bool.not_true, cond_false, cond_true, bne_self_eq_false]
theorem pure10 : Pure10 := by
  intro s b x y w hs hb hx hy hw
  have hx : -32768 ≤ x ∧ x ≤ 32767 := hx
  have hy : -32768 ≤ y ∧ y ≤ 32767 := hy
  have hw : 0 ≤ w ∧ w ≤ 255 := hw
  rw [s10, sane11, g20]
  simp only [Option.bind_some, Bool.not_true, cond_false]
  unfold extR
  cases h : okB s with
  | false => rfl
  | true =>
    rw [if_pos rfl]
    by_cases h0 : chk b = 0
    · have hb := rest_body ((g39c b).2.1 h0)
      obtain ⟨b1, b2, b3, b4⟩ := hb
      rw [if_pos h0]
      simp only [bne_self_eq_false, cond_false]
      have w0 : Wid b (wide0 b) := ⟨by show _ ≤ wr .i64 (b.Girth + 1); rw [wr64 (by omega) (by omega)]; omega, Int.le_refl _, Int.le_refl _, Int.le_refl _⟩
      have w1 : Wid b (wide1 b) := ⟨Int.le_refl _, by show _ ≤ wr .i64 (b.Reach.1 + 1); rw [wr64 (by omega) (by omega)]; omega, Int.le_refl _, Int.le_refl _⟩
      have w2 : Wid b (wide2 b) := ⟨Int.le_refl _, Int.le_refl _, by show _ ≤ wr .i64 (b.Reach.2.1 + 1); rw [wr64 (by omega) (by omega)]; omega, Int.le_refl _⟩
      have w3 : Wid b (wide3 b) := ⟨Int.le_refl _, Int.le_refl _, Int.le_refl _, by show _ ≤ wr .i64 (b.Reach.2.2 + 1); rw [wr64 (by omega) (by omega)]; omega⟩
      rw [tail_ok h h0 w0 hx hy, tail_ok h h0 w1 hx hy, tail_ok h h0 w2 hx hy, tail_ok h h0 w3 hx hy]
      have ht : Int.tmod w 4 = 0 ∨ Int.tmod w 4 = 1 ∨ Int.tmod w 4 = 2 ∨ Int.tmod w 4 = 3 := by
        rw [Int.tmod_eq_emod_of_nonneg hw.1]; omega
      rcases ht with ht | ht | ht | ht <;> rw [ht] <;> rfl
    · rw [if_neg h0]
      rw [show (((zBox, chk b) : S_Box × Int).2 != 0) = true by simpa using h0]
      rfl
end Go.Proofs.YtooamdacfhfjoaaDoor
