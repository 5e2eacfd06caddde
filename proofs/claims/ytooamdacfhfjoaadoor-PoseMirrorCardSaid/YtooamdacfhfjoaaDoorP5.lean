/-
  Layer 26, in plain Lean: the mirror.
-/
import Derived.Test.YtooamdacfhfjoaaDoorP2
namespace Go.Proofs.YtooamdacfhfjoaaDoor
set_option linter.unusedVariables false
set_option linter.unusedSimpArgs false
set_option maxRecDepth 100000
set_option maxHeartbeats 4000000
def kM (k : S_Sign) : S_Sign := S_Sign.mk k.ID k.Role k.Bar k.Mark k.Kind (if k.Side = 0 then k.Side else wr .i64 (3 - k.Side)) (mirR k.Dir).1 k.Level (if k.Kind = 6 then wr .i64 (8 - k.Size) else k.Size) k.With k.From k.To
def rM (r : S_Real) : S_Real := S_Real.mk r.Sign (mirR r.Dir).1 r.Level r.Drop
def okMir (k : S_Sign) (r : S_Real) : Bool := ((mirR k.Dir).2 == 0) && ((mirR r.Dir).2 == 0)
theorem g22 (k : S_Sign) (r : S_Real) : G22 k r = some (kM k, rM r, okMir k r) := by
  unfold G22 F22 kM okMir rM
  simp only [g31, Option.bind_some]
  by_cases h1 : k.Side = 0
  · rw [if_pos h1, show (k.Side != 0) = false by rw [h1]; rfl]
    by_cases h2 : k.Kind = 6
    · rw [if_pos h2, show (k.Kind == 6) = true by rw [h2]; rfl]
      cases ((mirR k.Dir).2 == 0) <;> rfl
    · rw [if_neg h2, show (k.Kind == 6) = false by simpa using h2]
      cases ((mirR k.Dir).2 == 0) <;> rfl
  · rw [if_neg h1, show (k.Side != 0) = true by simpa using h1]
    by_cases h2 : k.Kind = 6
    · rw [if_pos h2, show (k.Kind == 6) = true by rw [h2]; rfl]
      cases ((mirR k.Dir).2 == 0) <;> rfl
    · rw [if_neg h2, show (k.Kind == 6) = false by simpa using h2]
      cases ((mirR k.Dir).2 == 0) <;> rfl
theorem mir_in {d : Int} (h : 0 ≤ d ∧ d ≤ 8) : (mirR d).2 = 0 ∧ (0 ≤ (mirR d).1 ∧ (mirR d).1 ≤ 8) ∧ (1 ≤ d → 1 ≤ (mirR d).1) ∧ (d = 0 → (mirR d).1 = 0) ∧ (mirR (mirR d).1).1 = d := by
  have : d = 0 ∨ d = 1 ∨ d = 2 ∨ d = 3 ∨ d = 4 ∨ d = 5 ∨ d = 6 ∨ d = 7 ∨ d = 8 := by omega
  rcases this with rfl | rfl | rfl | rfl | rfl | rfl | rfl | rfl | rfl <;> decide +kernel
theorem limb_mir {x : S_Limb} (h : limbL x = true) : limbL (mirL x) = true ∧ mirL (mirL x) = x := by
  unfold limbL limbB at h
  simp only [Bool.or_eq_true, Bool.and_eq_true, beq_iff_eq, decide_eq_true_eq] at h
  have h0 : 0 ≤ x.Dir ∧ x.Dir ≤ 8 := by omega
  obtain ⟨m1, m2, m3, m4, m5⟩ := mir_in h0
  refine ⟨?_, ?_⟩
  · show limbB (mirR x.Dir).1 x.Level = true
    unfold limbB
    simp only [Bool.or_eq_true, Bool.and_eq_true, beq_iff_eq, decide_eq_true_eq]
    rcases h with ⟨h, h'⟩ | ⟨h, h'⟩
    · exact .inl ⟨m4 h, h'⟩
    · exact .inr ⟨m2, h'⟩
  · show S_Limb.mk (mirR (mirR x.Dir).1).1 x.Level = x
    rw [m5]
def faceM (f : Int) : Int := Int.tmod (wr .i64 (8 - f)) 8
theorem face_mir {f : Int} (h : 0 ≤ f ∧ f ≤ 7) : (0 ≤ faceM f ∧ faceM f ≤ 7) ∧ faceM (faceM f) = f := by
  have h2 : f = 0 ∨ f = 1 ∨ f = 2 ∨ f = 3 ∨ f = 4 ∨ f = 5 ∨ f = 6 ∨ f = 7 := by omega
  rcases h2 with rfl | rfl | rfl | rfl | rfl | rfl | rfl | rfl <;> decide +kernel
theorem place_of {s : S_State} (h : okB s = true) : (-1073741824 ≤ s.X ∧ s.X ≤ 1073741824) ∧ (-1073741824 ≤ s.Y ∧ s.Y ≤ 1073741824) ∧ (0 ≤ s.Face ∧ s.Face ≤ 7) := by
  unfold okB placeB at h
  simp only [Bool.and_eq_true, decide_eq_true_eq] at h
  exact ⟨h.1.1.1, h.1.1.2, h.1.2⟩
theorem limbs_of {s : S_State} (h : okB s = true) : limbL s.Limbs.1 = true ∧ limbL s.Limbs.2.1 = true ∧ limbL s.Limbs.2.2.1 = true ∧ limbL s.Limbs.2.2.2.1 = true ∧ limbL s.Limbs.2.2.2.2 = true := by
  unfold okB at h
  simp only [Bool.and_eq_true] at h
  exact h.2
theorem okB_mk {s : S_State} (h1 : -1073741824 ≤ s.X ∧ s.X ≤ 1073741824) (h2 : -1073741824 ≤ s.Y ∧ s.Y ≤ 1073741824) (h3 : 0 ≤ s.Face ∧ s.Face ≤ 7) (h4 : limbL s.Limbs.1 = true ∧ limbL s.Limbs.2.1 = true ∧ limbL s.Limbs.2.2.1 = true ∧ limbL s.Limbs.2.2.2.1 = true ∧ limbL s.Limbs.2.2.2.2 = true) : okB s = true := by
  unfold okB placeB
  simp only [Bool.and_eq_true, decide_eq_true_eq]
  exact ⟨⟨⟨h1, h2⟩, h3⟩, h4⟩
theorem mirX {x v : Int} (hx : -1073741824 ≤ x ∧ x ≤ 1073741824) (hw : 1 ≤ v ∧ v ≤ 1000) : wr .i64 (wr .i64 (29 * v) - x) = 29 * v - x := by
  rw [wr64 (n := 29 * v) (by omega) (by omega), wr64 (by omega) (by omega)]
def mirLs (l : Limbs5) : Limbs5 := (mirL l.2.1, mirL l.1, mirL l.2.2.2.1, mirL l.2.2.1, mirL l.2.2.2.2)
theorem mir_ok {s : S_State} {v : Int} (h : okB s = true) (hw : 1 ≤ v ∧ v ≤ 1000) (hx : -1072693248 ≤ s.X) : okB (mirS s v) = true := by
  obtain ⟨p1, p2, p3⟩ := place_of h
  obtain ⟨l1, l2, l3, l4, l5⟩ := limbs_of h
  refine okB_mk ?_ p2 (face_mir p3).1 ⟨(limb_mir l2).1, (limb_mir l1).1, (limb_mir l4).1, (limb_mir l3).1, (limb_mir l5).1⟩
  show _ ≤ wr .i64 (wr .i64 (29 * v) - s.X) ∧ wr .i64 (wr .i64 (29 * v) - s.X) ≤ _
  rw [mirX p1 hw]
  omega
theorem mir_mir {s : S_State} {v : Int} (h : okB s = true) (hw : 1 ≤ v ∧ v ≤ 1000) : mirS (mirS s v) v = s := by
  obtain ⟨p1, p2, p3⟩ := place_of h
  obtain ⟨l1, l2, l3, l4, l5⟩ := limbs_of h
  show S_State.mk (wr .i64 (wr .i64 (29 * v) - wr .i64 (wr .i64 (29 * v) - s.X))) s.Y (faceM (faceM s.Face)) (mirL (mirL s.Limbs.1), mirL (mirL s.Limbs.2.1), mirL (mirL s.Limbs.2.2.1), mirL (mirL s.Limbs.2.2.2.1), mirL (mirL s.Limbs.2.2.2.2)) = s
  rw [mirX p1 hw, (face_mir p3).2, (limb_mir l1).2, (limb_mir l2).2, (limb_mir l3).2, (limb_mir l4).2, (limb_mir l5).2, wr64 (n := 29 * v) (by omega) (by omega), wr64 (by omega) (by omega), show 29 * v - (29 * v - s.X) = s.X by omega]
theorem turn_mir {d f : Int} (h : 1 ≤ d ∧ d ≤ 8) (hf : 0 ≤ f ∧ f ≤ 7) :
    (flatR (turnR (mirR d).1 (faceM f)).1).1 = -(flatR (turnR d f).1).1 ∧ (flatR (turnR (mirR d).1 (faceM f)).1).2.1 = (flatR (turnR d f).1).2.1 ∧ -29 ≤ (flatR (turnR d f).1).1 ∧ (flatR (turnR d f).1).1 ≤ 29 := by
  have h1 : d = 1 ∨ d = 2 ∨ d = 3 ∨ d = 4 ∨ d = 5 ∨ d = 6 ∨ d = 7 ∨ d = 8 := by omega
  have h2 : f = 0 ∨ f = 1 ∨ f = 2 ∨ f = 3 ∨ f = 4 ∨ f = 5 ∨ f = 6 ∨ f = 7 := by omega
  rcases h1 with rfl | rfl | rfl | rfl | rfl | rfl | rfl | rfl <;> rcases h2 with rfl | rfl | rfl | rfl | rfl | rfl | rfl | rfl <;> decide +kernel
theorem face_turn {f z : Int} (hf : 0 ≤ f ∧ f ≤ 7) (hz : 1 ≤ z ∧ z ≤ 7) : faceM (Int.tmod (wr .i64 (f + z)) 8) = Int.tmod (wr .i64 (faceM f + wr .i64 (8 - z))) 8 := by
  have h1 : z = 1 ∨ z = 2 ∨ z = 3 ∨ z = 4 ∨ z = 5 ∨ z = 6 ∨ z = 7 := by omega
  have h2 : f = 0 ∨ f = 1 ∨ f = 2 ∨ f = 3 ∨ f = 4 ∨ f = 5 ∨ f = 6 ∨ f = 7 := by omega
  rcases h1 with rfl | rfl | rfl | rfl | rfl | rfl | rfl <;> rcases h2 with rfl | rfl | rfl | rfl | rfl | rfl | rfl | rfl <;> decide +kernel
theorem there_mir {x z a v : Int} (hx : -1073741824 ≤ x ∧ x ≤ 1073741824) (hz : 1 ≤ z ∧ z ≤ 16) (ha : -29 ≤ a ∧ a ≤ 29) (hw : 1 ≤ v ∧ v ≤ 1000) : wr .i64 (wr .i64 (29 * v) - wr .i64 (x + wr .i64 (z * a))) = wr .i64 (wr .i64 (wr .i64 (29 * v) - x) + wr .i64 (z * -a)) := by
  have hb : -464 ≤ z * a ∧ z * a ≤ 464 := by
    have : z = 1 ∨ z = 2 ∨ z = 3 ∨ z = 4 ∨ z = 5 ∨ z = 6 ∨ z = 7 ∨ z = 8 ∨ z = 9 ∨ z = 10 ∨ z = 11 ∨ z = 12 ∨ z = 13 ∨ z = 14 ∨ z = 15 ∨ z = 16 := by omega
    rcases this with rfl | rfl | rfl | rfl | rfl | rfl | rfl | rfl | rfl | rfl | rfl | rfl | rfl | rfl | rfl | rfl <;> omega
  rw [mirX hx hw, Int.mul_neg, wr64 (n := z * a) (by omega) (by omega), wr64 (n := -(z * a)) (by omega) (by omega), wr64 (n := x + z * a) (by omega) (by omega), wr64 (n := 29 * v) (by omega) (by omega), wr64 (by omega) (by omega), wr64 (by omega) (by omega)]
  omega
theorem move_mir {s : S_State} {l : Limbs5} {d z v : Int} (h : okB s = true) (hd : 1 ≤ d ∧ d ≤ 8) (hz : 1 ≤ z ∧ z ≤ 16) (hw : 1 ≤ v ∧ v ≤ 1000) : mirS (lim (movR s d z) l) v = lim (movR (mirS s v) (mirR d).1 z) (mirLs l) := by
  obtain ⟨hx, hy, hf⟩ := place_of h
  obtain ⟨e1, e2, b1, b2⟩ := turn_mir hd hf
  show S_State.mk (wr .i64 (wr .i64 (29 * v) - wr .i64 (s.X + wr .i64 (z * (flatR (turnR d s.Face).1).1)))) (wr .i64 (s.Y + wr .i64 (z * (flatR (turnR d s.Face).1).2.1))) (faceM s.Face) (mirLs l) = S_State.mk (wr .i64 (wr .i64 (wr .i64 (29 * v) - s.X) + wr .i64 (z * (flatR (turnR (mirR d).1 (faceM s.Face)).1).1))) (wr .i64 (s.Y + wr .i64 (z * (flatR (turnR (mirR d).1 (faceM s.Face)).1).2.1))) (faceM s.Face) (mirLs l)
  rw [e1, e2, there_mir hx hz ⟨b1, b2⟩ hw]
theorem fit_of {b : Bool} {k : S_Sign} {a1 a2 a3 a4 a5 a6 a7 a8 : Int} (h : fit4 b k a1 a2 a3 a4 a5 a6 a7 a8 = true) : b = true ∧ (a1 ≤ k.Side ∧ k.Side ≤ a2) ∧ (a3 ≤ k.Dir ∧ k.Dir ≤ a4) ∧ (a5 ≤ k.Level ∧ k.Level ≤ a6) ∧ (a7 ≤ k.Size ∧ k.Size ≤ a8) := by
  unfold fit4 at h
  simp only [Bool.and_eq_true] at h
  exact ⟨h.1.1.1.1, rng_of h.1.1.1.2, rng_of h.1.1.2, rng_of h.1.2, rng_of h.2⟩
theorem fit_mk {b : Bool} {k : S_Sign} {a1 a2 a3 a4 a5 a6 a7 a8 : Int} (hb : b = true) (h1 : a1 ≤ k.Side ∧ k.Side ≤ a2) (h2 : a3 ≤ k.Dir ∧ k.Dir ≤ a4) (h3 : a5 ≤ k.Level ∧ k.Level ≤ a6) (h4 : a7 ≤ k.Size ∧ k.Size ≤ a8) : fit4 b k a1 a2 a3 a4 a5 a6 a7 a8 = true := by
  unfold fit4
  rw [hb, rng_iff.2 h1, rng_iff.2 h2, rng_iff.2 h3, rng_iff.2 h4]; rfl
theorem kinds_of {k : S_Sign} (h : suitR k = true) : k.Kind = 1 ∨ k.Kind = 2 ∨ k.Kind = 3 ∨ k.Kind = 4 ∨ k.Kind = 5 ∨ k.Kind = 6 ∨ k.Kind = 7 ∨ k.Kind = 8 ∨ k.Kind = 9 := by
  unfold suitR at h
  by_cases h1 : k.Kind = 1; · exact .inl h1
  by_cases h2 : k.Kind = 2; · exact .inr (.inl h2)
  by_cases h3 : k.Kind = 3; · exact .inr (.inr (.inl h3))
  by_cases h4 : k.Kind = 4; · exact .inr (.inr (.inr (.inl h4)))
  by_cases h5 : k.Kind = 5; · exact .inr (.inr (.inr (.inr (.inl h5))))
  by_cases h6 : k.Kind = 6; · exact .inr (.inr (.inr (.inr (.inr (.inl h6)))))
  by_cases h7 : k.Kind = 7; · exact .inr (.inr (.inr (.inr (.inr (.inr (.inl h7))))))
  by_cases h8 : k.Kind = 8; · exact .inr (.inr (.inr (.inr (.inr (.inr (.inr (.inl h8)))))))
  by_cases h9 : k.Kind = 9; · exact .inr (.inr (.inr (.inr (.inr (.inr (.inr (.inr h9)))))))
  simp [h1, h2, h3, h4, h5, h6, h7, h8, h9] at h
theorem side2 {k : S_Sign} (h : 1 ≤ k.Side ∧ k.Side ≤ 2) : (kM k).Side = 3 - k.Side := by
  show (if k.Side = 0 then k.Side else wr .i64 (3 - k.Side)) = _
  rw [if_neg (by omega), wr64 (by omega) (by omega)]
theorem side0 {k : S_Sign} (h : k.Side = 0) : (kM k).Side = 0 := by
  show (if k.Side = 0 then k.Side else wr .i64 (3 - k.Side)) = _
  rw [if_pos h, h]
theorem sizeM {k : S_Sign} (h : k.Kind ≠ 6) : (kM k).Size = k.Size := by
  show (if k.Kind = 6 then wr .i64 (8 - k.Size) else k.Size) = _
  rw [if_neg h]
theorem size6 {k : S_Sign} (h : k.Kind = 6) : (kM k).Size = wr .i64 (8 - k.Size) := by
  show (if k.Kind = 6 then wr .i64 (8 - k.Size) else k.Size) = _
  rw [if_pos h]
theorem suit1 {k : S_Sign} (h : k.Kind = 1) : suitR k = fit4 (rng k.Mark 1 3) k 1 2 1 8 0 0 1 16 := by unfold suitR; simp only [h, Int.reduceEq, if_true, if_false]
theorem suit2 {k : S_Sign} (h : k.Kind = 2) : suitR k = fit4 (rng k.Mark 1 3) k 0 0 1 8 0 0 1 16 := by unfold suitR; simp only [h, Int.reduceEq, if_true, if_false]
theorem suit3 {k : S_Sign} (h : k.Kind = 3) : suitR k = fit4 (rng k.Mark 1 3) k 1 2 0 8 1 3 0 0 := by unfold suitR; simp only [h, Int.reduceEq, if_true, if_false]
theorem suit4 {k : S_Sign} (h : k.Kind = 4) : suitR k = fit4 (rng k.Mark 1 3) k 1 2 0 8 1 3 0 0 := by unfold suitR; simp only [h, Int.reduceEq, if_true, if_false]
theorem suit5 {k : S_Sign} (h : k.Kind = 5) : suitR k = fit4 (rng k.Mark 1 3) k 0 0 0 8 1 3 0 0 := by unfold suitR; simp only [h, Int.reduceEq, if_true, if_false]
theorem suit6 {k : S_Sign} (h : k.Kind = 6) : suitR k = fit4 (rng k.Mark 1 3) k 0 0 0 0 0 0 1 7 := by unfold suitR; simp only [h, Int.reduceEq, if_true, if_false]
theorem suit7 {k : S_Sign} (h : k.Kind = 7) : suitR k = fit4 (rng k.Mark 1 3) k 0 0 0 0 0 0 0 0 := by unfold suitR; simp only [h, Int.reduceEq, if_true, if_false]
theorem suit8 {k : S_Sign} (h : k.Kind = 8) : suitR k = fit4 (rng k.Mark 1 3) k 0 0 0 0 0 0 0 0 := by unfold suitR; simp only [h, Int.reduceEq, if_true, if_false]
theorem suit9 {k : S_Sign} (h : k.Kind = 9) : suitR k = fit4 (rng k.Mark 1 3) k 1 2 0 0 1 3 0 0 := by unfold suitR; simp only [h, Int.reduceEq, if_true, if_false]
theorem do1a {s : S_State} {k : S_Sign} {r : S_Real} (h : k.Kind = 1) (hs : k.Side = 1) : doR s k r = lim (movR s k.Dir k.Size) (set0 s.Limbs z0) := by unfold doR; simp only [h, hs, Int.reduceEq, if_true, if_false]
theorem do1b {s : S_State} {k : S_Sign} {r : S_Real} (h : k.Kind = 1) (hs : k.Side = 2) : doR s k r = lim (movR s k.Dir k.Size) (set1 s.Limbs z0) := by unfold doR; simp only [h, hs, Int.reduceEq, if_true, if_false]
theorem do2 {s : S_State} {k : S_Sign} {r : S_Real} (h : k.Kind = 2) : doR s k r = lim (movR s k.Dir k.Size) (set1 (set0 s.Limbs z0) z0) := by unfold doR; simp only [h, Int.reduceEq, if_true, if_false]
theorem do3a {s : S_State} {k : S_Sign} {r : S_Real} (h : k.Kind = 3) (hs : k.Side = 1) : doR s k r = lim s (set0 s.Limbs (rl r)) := by unfold doR; simp only [h, hs, Int.reduceEq, if_true, if_false]
theorem do3b {s : S_State} {k : S_Sign} {r : S_Real} (h : k.Kind = 3) (hs : k.Side = 2) : doR s k r = lim s (set1 s.Limbs (rl r)) := by unfold doR; simp only [h, hs, Int.reduceEq, if_true, if_false]
theorem do4a {s : S_State} {k : S_Sign} {r : S_Real} (h : k.Kind = 4) (hs : k.Side = 1) : doR s k r = lim s (set2 s.Limbs (rl r)) := by unfold doR; simp only [h, hs, Int.reduceEq, if_true, if_false]
theorem do4b {s : S_State} {k : S_Sign} {r : S_Real} (h : k.Kind = 4) (hs : k.Side = 2) : doR s k r = lim s (set3 s.Limbs (rl r)) := by unfold doR; simp only [h, hs, Int.reduceEq, if_true, if_false]
theorem do5 {s : S_State} {k : S_Sign} {r : S_Real} (h : k.Kind = 5) : doR s k r = lim s (set4 s.Limbs (rl r)) := by unfold doR; simp only [h, Int.reduceEq, if_true, if_false]
theorem do6 {s : S_State} {k : S_Sign} {r : S_Real} (h : k.Kind = 6) : doR s k r = S_State.mk s.X s.Y (Int.tmod (wr .i64 (s.Face + k.Size)) 8) s.Limbs := by unfold doR; simp only [h, Int.reduceEq, if_true, if_false]
theorem do7 {s : S_State} {k : S_Sign} {r : S_Real} (h : k.Kind = 7) : doR s k r = lim s (set3 (set2 s.Limbs z0) z0) := by unfold doR; simp only [h, Int.reduceEq, if_true, if_false]
theorem do8 {s : S_State} {k : S_Sign} {r : S_Real} (h : k.Kind = 8) : doR s k r = lim s (set1 (set0 s.Limbs z0) z0) := by unfold doR; simp only [h, Int.reduceEq, if_true, if_false]
theorem do9a {s : S_State} {k : S_Sign} {r : S_Real} (h : k.Kind = 9) (hs : k.Side = 1) : doR s k r = lim s (set2 s.Limbs z0) := by unfold doR; simp only [h, hs, Int.reduceEq, if_true, if_false]
theorem do9b {s : S_State} {k : S_Sign} {r : S_Real} (h : k.Kind = 9) (hs : k.Side = 2) : doR s k r = lim s (set3 s.Limbs z0) := by unfold doR; simp only [h, hs, Int.reduceEq, if_true, if_false]
theorem suit_mir {k : S_Sign} (hs : suitR k = true) : suitR (kM k) = true ∧ (0 ≤ k.Dir ∧ k.Dir ≤ 8) := by
  rcases kinds_of hs with h | h | h | h | h | h | h | h | h
  · rw [suit1 h] at hs
    obtain ⟨f0, f1, f2, f3, f4⟩ := fit_of hs
    have hd : 0 ≤ k.Dir ∧ k.Dir ≤ 8 := by omega
    obtain ⟨m1, m2, m3, m4, m5⟩ := mir_in hd
    refine ⟨?_, hd⟩
    rw [suit1 (show (kM k).Kind = 1 from h)]
    exact fit_mk f0 (by rw [side2 f1]; omega) ⟨m3 f2.1, m2.2⟩ f3 (by rw [sizeM (by omega)]; exact f4)
  · rw [suit2 h] at hs
    obtain ⟨f0, f1, f2, f3, f4⟩ := fit_of hs
    have hd : 0 ≤ k.Dir ∧ k.Dir ≤ 8 := by omega
    obtain ⟨m1, m2, m3, m4, m5⟩ := mir_in hd
    refine ⟨?_, hd⟩
    rw [suit2 (show (kM k).Kind = 2 from h)]
    exact fit_mk f0 (by rw [side0 (by omega)]; omega) ⟨m3 f2.1, m2.2⟩ f3 (by rw [sizeM (by omega)]; exact f4)
  · rw [suit3 h] at hs
    obtain ⟨f0, f1, f2, f3, f4⟩ := fit_of hs
    have hd : 0 ≤ k.Dir ∧ k.Dir ≤ 8 := by omega
    obtain ⟨m1, m2, m3, m4, m5⟩ := mir_in hd
    refine ⟨?_, hd⟩
    rw [suit3 (show (kM k).Kind = 3 from h)]
    exact fit_mk f0 (by rw [side2 f1]; omega) m2 f3 (by rw [sizeM (by omega)]; exact f4)
  · rw [suit4 h] at hs
    obtain ⟨f0, f1, f2, f3, f4⟩ := fit_of hs
    have hd : 0 ≤ k.Dir ∧ k.Dir ≤ 8 := by omega
    obtain ⟨m1, m2, m3, m4, m5⟩ := mir_in hd
    refine ⟨?_, hd⟩
    rw [suit4 (show (kM k).Kind = 4 from h)]
    exact fit_mk f0 (by rw [side2 f1]; omega) m2 f3 (by rw [sizeM (by omega)]; exact f4)
  · rw [suit5 h] at hs
    obtain ⟨f0, f1, f2, f3, f4⟩ := fit_of hs
    have hd : 0 ≤ k.Dir ∧ k.Dir ≤ 8 := by omega
    obtain ⟨m1, m2, m3, m4, m5⟩ := mir_in hd
    refine ⟨?_, hd⟩
    rw [suit5 (show (kM k).Kind = 5 from h)]
    exact fit_mk f0 (by rw [side0 (by omega)]; omega) m2 f3 (by rw [sizeM (by omega)]; exact f4)
  · rw [suit6 h] at hs
    obtain ⟨f0, f1, f2, f3, f4⟩ := fit_of hs
    have hd : 0 ≤ k.Dir ∧ k.Dir ≤ 8 := by omega
    obtain ⟨m1, m2, m3, m4, m5⟩ := mir_in hd
    refine ⟨?_, hd⟩
    rw [suit6 (show (kM k).Kind = 6 from h)]
    exact fit_mk f0 (by rw [side0 (by omega)]; omega) (by show 0 ≤ (mirR k.Dir).1 ∧ (mirR k.Dir).1 ≤ 0; rw [m4 (by omega)]; omega) f3 (by rw [size6 h, wr64 (by omega) (by omega)]; omega)
  · rw [suit7 h] at hs
    obtain ⟨f0, f1, f2, f3, f4⟩ := fit_of hs
    have hd : 0 ≤ k.Dir ∧ k.Dir ≤ 8 := by omega
    obtain ⟨m1, m2, m3, m4, m5⟩ := mir_in hd
    refine ⟨?_, hd⟩
    rw [suit7 (show (kM k).Kind = 7 from h)]
    exact fit_mk f0 (by rw [side0 (by omega)]; omega) (by show 0 ≤ (mirR k.Dir).1 ∧ (mirR k.Dir).1 ≤ 0; rw [m4 (by omega)]; omega) f3 (by rw [sizeM (by omega)]; exact f4)
  · rw [suit8 h] at hs
    obtain ⟨f0, f1, f2, f3, f4⟩ := fit_of hs
    have hd : 0 ≤ k.Dir ∧ k.Dir ≤ 8 := by omega
    obtain ⟨m1, m2, m3, m4, m5⟩ := mir_in hd
    refine ⟨?_, hd⟩
    rw [suit8 (show (kM k).Kind = 8 from h)]
    exact fit_mk f0 (by rw [side0 (by omega)]; omega) (by show 0 ≤ (mirR k.Dir).1 ∧ (mirR k.Dir).1 ≤ 0; rw [m4 (by omega)]; omega) f3 (by rw [sizeM (by omega)]; exact f4)
  · rw [suit9 h] at hs
    obtain ⟨f0, f1, f2, f3, f4⟩ := fit_of hs
    have hd : 0 ≤ k.Dir ∧ k.Dir ≤ 8 := by omega
    obtain ⟨m1, m2, m3, m4, m5⟩ := mir_in hd
    refine ⟨?_, hd⟩
    rw [suit9 (show (kM k).Kind = 9 from h)]
    exact fit_mk f0 (by rw [side2 f1]; omega) (by show 0 ≤ (mirR k.Dir).1 ∧ (mirR k.Dir).1 ≤ 0; rw [m4 (by omega)]; omega) f3 (by rw [sizeM (by omega)]; exact f4)
theorem real_mir {k : S_Sign} {r : S_Real} (h : realR k r = true) : realR (kM k) (rM r) = true ∧ (0 ≤ r.Dir ∧ r.Dir ≤ 8) := by
  have e8 : ∀ {b : Bool}, (rng r.Dir 0 8 && b) = true → (rng (rM r).Dir 0 8 && b) = true ∧ (0 ≤ r.Dir ∧ r.Dir ≤ 8) := fun {b} h => by
    simp only [Bool.and_eq_true] at h ⊢
    exact ⟨⟨rng_iff.2 (mir_in (rng_of h.1)).2.1, h.2⟩, rng_of h.1⟩
  have e0 : ∀ {b : Bool}, (rng r.Dir 0 0 && b) = true → (rng (rM r).Dir 0 0 && b) = true ∧ (0 ≤ r.Dir ∧ r.Dir ≤ 8) := fun {b} h => by
    simp only [Bool.and_eq_true] at h ⊢
    have h0 := rng_of h.1
    have hd : 0 ≤ r.Dir ∧ r.Dir ≤ 8 := by omega
    refine ⟨⟨rng_iff.2 ?_, h.2⟩, hd⟩
    show 0 ≤ (mirR r.Dir).1 ∧ (mirR r.Dir).1 ≤ 0
    rw [(mir_in hd).2.2.2.1 (by omega)]; omega
  unfold realR at h ⊢
  by_cases h3 : k.Kind = 3
  · rw [if_pos h3] at h; rw [if_pos (show (kM k).Kind = 3 from h3)]; exact e8 h
  rw [if_neg h3] at h; rw [if_neg (show ¬ (kM k).Kind = 3 from h3)]
  by_cases h4 : k.Kind = 4
  · rw [if_pos h4] at h; rw [if_pos (show (kM k).Kind = 4 from h4)]; exact e8 h
  rw [if_neg h4] at h; rw [if_neg (show ¬ (kM k).Kind = 4 from h4)]
  by_cases h5 : k.Kind = 5
  · rw [if_pos h5] at h; rw [if_pos (show (kM k).Kind = 5 from h5)]; exact e8 h
  rw [if_neg h5] at h; rw [if_neg (show ¬ (kM k).Kind = 5 from h5)]
  by_cases h9 : k.Kind = 9
  · rw [if_pos h9] at h; rw [if_pos (show (kM k).Kind = 9 from h9)]; exact e0 h
  rw [if_neg h9] at h; rw [if_neg (show ¬ (kM k).Kind = 9 from h9)]
  exact e0 h
theorem okK_mir {k : S_Sign} {r : S_Real} (h : okK k r = true) : okK (kM k) (rM r) = true ∧ okMir k r = true := by
  unfold okK at h ⊢
  simp only [Bool.and_eq_true] at h ⊢
  obtain ⟨h1, h2, h3⟩ := h
  obtain ⟨s1, s2⟩ := suit_mir h1
  have key : (if (rM r).Drop = true then rng (rM r).Dir 0 0 && rng (rM r).Level 0 0 else realR (kM k) (rM r)) = true ∧ (0 ≤ r.Dir ∧ r.Dir ≤ 8) := by
    by_cases hd : r.Drop = true
    · rw [if_pos hd] at h2
      rw [if_pos (show (rM r).Drop = true from hd)]
      simp only [Bool.and_eq_true] at h2 ⊢
      have h0 := rng_of h2.1
      have hdd : 0 ≤ r.Dir ∧ r.Dir ≤ 8 := by omega
      refine ⟨⟨rng_iff.2 ?_, h2.2⟩, hdd⟩
      show 0 ≤ (mirR r.Dir).1 ∧ (mirR r.Dir).1 ≤ 0
      rw [(mir_in hdd).2.2.2.1 (by omega)]; omega
    · rw [if_neg hd] at h2
      rw [if_neg (show ¬ (rM r).Drop = true from hd)]
      exact real_mir h2
  refine ⟨⟨s1, key.1, h3⟩, ?_⟩
  unfold okMir
  rw [(mir_in s2).1, (mir_in key.2).1]; rfl
theorem comm {s : S_State} {k : S_Sign} {r : S_Real} {v : Int} (h0 : okB s = true) (hw : 1 ≤ v ∧ v ≤ 1000) (hs : suitR k = true) : mirS (doR s k r) v = doR (mirS s v) (kM k) (rM r) := by
  obtain ⟨p1, p2, p3⟩ := place_of h0
  rcases kinds_of hs with h | h | h | h | h | h | h | h | h
  · rw [suit1 h] at hs
    obtain ⟨f0, f1, f2, f3, f4⟩ := fit_of hs
    have hsd : k.Side = 1 ∨ k.Side = 2 := by omega
    rcases hsd with hd | hd
    · rw [do1a h hd, do1b (show (kM k).Kind = 1 from h) (by rw [side2 f1]; omega)]
      rw [move_mir h0 f2 f4 hw, sizeM (by omega)]
      show _ = _; kernel_rfl
    · rw [do1b h hd, do1a (show (kM k).Kind = 1 from h) (by rw [side2 f1]; omega)]
      rw [move_mir h0 f2 f4 hw, sizeM (by omega)]
      show _ = _; kernel_rfl
  · rw [suit2 h] at hs
    obtain ⟨f0, f1, f2, f3, f4⟩ := fit_of hs
    rw [do2 h, do2 (show (kM k).Kind = 2 from h)]
    rw [move_mir h0 f2 f4 hw, sizeM (by omega)]
    kernel_rfl
  · rw [suit3 h] at hs
    obtain ⟨f0, f1, f2, f3, f4⟩ := fit_of hs
    have hsd : k.Side = 1 ∨ k.Side = 2 := by omega
    rcases hsd with hd | hd
    · rw [do3a h hd, do3b (show (kM k).Kind = 3 from h) (by rw [side2 f1]; omega)]
      rfl
    · rw [do3b h hd, do3a (show (kM k).Kind = 3 from h) (by rw [side2 f1]; omega)]
      rfl
  · rw [suit4 h] at hs
    obtain ⟨f0, f1, f2, f3, f4⟩ := fit_of hs
    have hsd : k.Side = 1 ∨ k.Side = 2 := by omega
    rcases hsd with hd | hd
    · rw [do4a h hd, do4b (show (kM k).Kind = 4 from h) (by rw [side2 f1]; omega)]
      rfl
    · rw [do4b h hd, do4a (show (kM k).Kind = 4 from h) (by rw [side2 f1]; omega)]
      rfl
  · rw [suit5 h] at hs
    obtain ⟨f0, f1, f2, f3, f4⟩ := fit_of hs
    rw [do5 h, do5 (show (kM k).Kind = 5 from h)]
    rfl
  · rw [suit6 h] at hs
    obtain ⟨f0, f1, f2, f3, f4⟩ := fit_of hs
    rw [do6 h, do6 (show (kM k).Kind = 6 from h)]
    rw [size6 h]
    show S_State.mk _ _ (faceM (Int.tmod (wr .i64 (s.Face + k.Size)) 8)) _ = S_State.mk _ _ (Int.tmod (wr .i64 (faceM s.Face + wr .i64 (8 - k.Size))) 8) _
    rw [face_turn p3 f4]; rfl
  · rw [suit7 h] at hs
    obtain ⟨f0, f1, f2, f3, f4⟩ := fit_of hs
    rw [do7 h, do7 (show (kM k).Kind = 7 from h)]
    kernel_rfl
  · rw [suit8 h] at hs
    obtain ⟨f0, f1, f2, f3, f4⟩ := fit_of hs
    rw [do8 h, do8 (show (kM k).Kind = 8 from h)]
    kernel_rfl
  · rw [suit9 h] at hs
    obtain ⟨f0, f1, f2, f3, f4⟩ := fit_of hs
    have hsd : k.Side = 1 ∨ k.Side = 2 := by omega
    rcases hsd with hd | hd
    · rw [do9a h hd, do9b (show (kM k).Kind = 9 from h) (by rw [side2 f1]; omega)]
      show _ = _; kernel_rfl
    · rw [do9b h hd, do9a (show (kM k).Kind = 9 from h) (by rw [side2 f1]; omega)]
      show _ = _; kernel_rfl
theorem mirr_of {s : S_State} {v : Int} (h : okB s = true) (hw : 1 ≤ v ∧ v ≤ 1000) : mirrR s v = if okB (mirS s v) = true then (mirS s v, 0) else (zeroS, 2) := by
  unfold mirrR
  rw [if_pos h, if_pos hw]
theorem same (s : S_State) : ((s.X == s.X) && ((s.Y == s.Y) && ((s.Face == s.Face) && (((s.Limbs.1.Dir == s.Limbs.1.Dir) && (s.Limbs.1.Level == s.Limbs.1.Level)) && (((s.Limbs.2.1.Dir == s.Limbs.2.1.Dir) && (s.Limbs.2.1.Level == s.Limbs.2.1.Level)) && (((s.Limbs.2.2.1.Dir == s.Limbs.2.2.1.Dir) && (s.Limbs.2.2.1.Level == s.Limbs.2.2.1.Level)) && (((s.Limbs.2.2.2.1.Dir == s.Limbs.2.2.2.1.Dir) && (s.Limbs.2.2.2.1.Level == s.Limbs.2.2.2.1.Level)) && ((s.Limbs.2.2.2.2.Dir == s.Limbs.2.2.2.2.Dir) && (s.Limbs.2.2.2.2.Level == s.Limbs.2.2.2.2.Level))))))))) = true := by
  simp only [beq_self_eq_true, Bool.and_self]
theorem ends {s : S_State} {k : S_Sign} {r : S_Real} {v : Int} (h0 : okB s = true) (hw : 1 ≤ v ∧ v ≤ 1000) (hm : okB (mirS s v) = true) (ha : (afterR s k r).2 = 0) :
    okMir k r = true ∧ ((afterR (mirS s v) (kM k) (rM r)).2 = 2 ∨ ((afterR (mirS s v) (kM k) (rM r)).2 = 0 ∧ ((mirrR (afterR s k r).1 v).2 = 2 ∨ mirrR (afterR s k r).1 v = afterR (mirS s v) (kM k) (rM r)))) := by
  have hk : okK k r = true := by
    cases hk : okK k r with
    | true => rfl
    | false => unfold afterR at ha; rw [if_pos h0, if_neg (by rw [hk]; simp)] at ha; cases ha
  obtain ⟨hk', hM⟩ := okK_mir hk
  refine ⟨hM, ?_⟩
  by_cases hd : r.Drop = true
  · have e1 : afterR s k r = (s, 0) := by unfold afterR; rw [if_pos h0, if_pos hk, if_pos hd]
    have e2 : afterR (mirS s v) (kM k) (rM r) = (mirS s v, 0) := by unfold afterR; rw [if_pos hm, if_pos hk', if_pos (show (rM r).Drop = true from hd)]
    rw [e1, e2]
    refine .inr ⟨rfl, .inr ?_⟩
    show mirrR s v = _
    rw [mirr_of h0 hw, if_pos hm]
  · have hs : suitR k = true := by unfold okK at hk; simp only [Bool.and_eq_true] at hk; exact hk.1
    have h1 : okB (doR s k r) = true := by
      cases h1 : okB (doR s k r) with
      | true => rfl
      | false => unfold afterR at ha; rw [if_pos h0, if_pos hk, if_neg hd, if_neg (by rw [h1]; simp)] at ha; cases ha
    have e1 : afterR s k r = (doR s k r, 0) := by unfold afterR; rw [if_pos h0, if_pos hk, if_neg hd, if_pos h1]
    have e2 : afterR (mirS s v) (kM k) (rM r) = if okB (doR (mirS s v) (kM k) (rM r)) = true then (doR (mirS s v) (kM k) (rM r), 0) else (zeroS, 2) := by unfold afterR; rw [if_pos hm, if_pos hk', if_neg (show ¬ (rM r).Drop = true from hd)]
    rw [e1, e2]
    by_cases h2 : okB (doR (mirS s v) (kM k) (rM r)) = true
    · rw [if_pos h2]
      refine .inr ⟨rfl, .inr ?_⟩
      show mirrR (doR s k r) v = _
      rw [mirr_of h1 hw, comm h0 hw hs, if_pos h2]
    · rw [if_neg h2]
      exact .inl rfl
theorem pure6 : Pure6 := by
  intro s k r v _ _ _ _
  unfold G6 F6
  rw [sane11]
  simp only [g14, g16, g18, g22, Option.bind_some, Bool.not_true, cond_false]
  by_cases h0 : okB s = true
  · by_cases hw : 1 ≤ v ∧ v ≤ 1000
    · by_cases hm : okB (mirS s v) = true
      · rw [mirr_of h0 hw, if_pos hm]
        simp only [bne_self_eq_false, cond_false]
        rw [mirr_of hm hw, mir_mir h0 hw, if_pos h0, if_pos hm]
        simp only [bne_self_eq_false, cond_false, Option.bind_some]
        rw [same]
        simp only [Bool.not_true, Option.bind_some, cond_false]
        cases ha : ((afterR s k r).2 != 0) with
        | true => rfl
        | false =>
          have ha' : (afterR s k r).2 = 0 := by simpa using ha
          obtain ⟨hM, hE⟩ := ends h0 hw hm ha'
          simp only [cond_false, hM, Bool.not_true, Option.bind_some]
          generalize afterR (mirS s v) (kM k) (rM r) = y at hE ⊢
          generalize mirrR (afterR s k r).1 v = z at hE ⊢
          rcases hE with hE | ⟨hE, hE' | hE'⟩
          · rw [hE]; rfl
          · rw [hE, hE']; rfl
          · subst hE'
            rw [hE, same]; rfl
      · have hx : s.X < -1072693248 := Int.lt_of_not_ge fun hx => hm (mir_ok h0 hw hx)
        rw [mirr_of h0 hw, if_neg hm, if_pos h0, decide_eq_true hx]; rfl
    · have e : mirrR s v = (zeroS, 1) := by unfold mirrR; rw [if_pos h0, if_neg hw]
      rw [e, if_pos h0]
      by_cases h1 : v < 1
      · rw [decide_eq_true h1]; rfl
      · rw [decide_eq_false h1, decide_eq_true (show 1000 < v by omega)]; rfl
  · have e : mirrR s v = (zeroS, 260) := by unfold mirrR; rw [if_neg h0]
    rw [e, if_neg h0]; rfl
end Go.Proofs.YtooamdacfhfjoaaDoor
