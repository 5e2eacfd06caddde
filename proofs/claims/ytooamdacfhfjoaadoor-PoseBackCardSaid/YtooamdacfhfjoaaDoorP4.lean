/-
  Layer 26, in plain Lean: there and back.
-/
import Derived.Test.YtooamdacfhfjoaaDoorP2
namespace Go.Proofs.YtooamdacfhfjoaaDoor
set_option linter.unusedVariables false
set_option linter.unusedSimpArgs false
set_option maxRecDepth 100000
set_option maxHeartbeats 4000000
def oppD (d : Int) : Int := wr .i64 ((Int.tmod (wr .i64 (d + 3)) 8) + 1)
theorem opp_in {d : Int} (h : 1 ≤ d ∧ d ≤ 8) : 1 ≤ oppD d ∧ oppD d ≤ 8 := by
  have : d = 1 ∨ d = 2 ∨ d = 3 ∨ d = 4 ∨ d = 5 ∨ d = 6 ∨ d = 7 ∨ d = 8 := by omega
  rcases this with rfl | rfl | rfl | rfl | rfl | rfl | rfl | rfl <;> decide
theorem opp_flat {d f : Int} (h : 1 ≤ d ∧ d ≤ 8) (hf : 0 ≤ f ∧ f ≤ 7) :
    (flatR (turnR (oppD d) f).1).1 = -(flatR (turnR d f).1).1 ∧ (flatR (turnR (oppD d) f).1).2.1 = -(flatR (turnR d f).1).2.1 ∧ -29 ≤ (flatR (turnR d f).1).1 ∧ (flatR (turnR d f).1).1 ≤ 29 ∧ -29 ≤ (flatR (turnR d f).1).2.1 ∧ (flatR (turnR d f).1).2.1 ≤ 29 := by
  have h1 : d = 1 ∨ d = 2 ∨ d = 3 ∨ d = 4 ∨ d = 5 ∨ d = 6 ∨ d = 7 ∨ d = 8 := by omega
  have h2 : f = 0 ∨ f = 1 ∨ f = 2 ∨ f = 3 ∨ f = 4 ∨ f = 5 ∨ f = 6 ∨ f = 7 := by omega
  rcases h1 with rfl | rfl | rfl | rfl | rfl | rfl | rfl | rfl <;> rcases h2 with rfl | rfl | rfl | rfl | rfl | rfl | rfl | rfl <;> decide +kernel
theorem there_back {x z a : Int} (hx : -1073741824 ≤ x ∧ x ≤ 1073741824) (hz : 1 ≤ z ∧ z ≤ 16) (ha : -29 ≤ a ∧ a ≤ 29) : wr .i64 (wr .i64 (x + wr .i64 (z * a)) + wr .i64 (z * -a)) = x := by
  have hb : -464 ≤ z * a ∧ z * a ≤ 464 := by
    have h := hz.1; have h' := hz.2
    have : z = 1 ∨ z = 2 ∨ z = 3 ∨ z = 4 ∨ z = 5 ∨ z = 6 ∨ z = 7 ∨ z = 8 ∨ z = 9 ∨ z = 10 ∨ z = 11 ∨ z = 12 ∨ z = 13 ∨ z = 14 ∨ z = 15 ∨ z = 16 := by omega
    rcases this with rfl | rfl | rfl | rfl | rfl | rfl | rfl | rfl | rfl | rfl | rfl | rfl | rfl | rfl | rfl | rfl <;> omega
  rw [Int.mul_neg, wr64 (n := z * a) (by omega) (by omega), wr64 (n := -(z * a)) (by omega) (by omega), wr64 (n := x + z * a) (by omega) (by omega), wr64 (by omega) (by omega)]
  omega
theorem place_of {s : S_State} (h : okB s = true) : (-1073741824 ≤ s.X ∧ s.X ≤ 1073741824) ∧ (-1073741824 ≤ s.Y ∧ s.Y ≤ 1073741824) ∧ (0 ≤ s.Face ∧ s.Face ≤ 7) := by
  unfold okB placeB at h
  simp only [Bool.and_eq_true, decide_eq_true_eq] at h
  exact ⟨h.1.1.1, h.1.1.2, h.1.2⟩
theorem okB_limbs {s t u : S_State} (h : okB s = true) (h' : okB t = true) (ux : u.X = s.X) (uy : u.Y = s.Y) (uf : u.Face = s.Face) (ul : u.Limbs = t.Limbs) : okB u = true := by
  have e : placeB u = placeB s := by unfold placeB; rw [ux, uy, uf]
  unfold okB at h h' ⊢
  rw [e, ul]
  simp only [Bool.and_eq_true] at h h' ⊢
  exact ⟨h.1, h'.2⟩
def signD (k : S_Sign) : S_Sign := S_Sign.mk k.ID k.Role k.Bar k.Mark k.Kind k.Side (oppD k.Dir) k.Level k.Size k.With k.From k.To
def signZ (k : S_Sign) : S_Sign := S_Sign.mk k.ID k.Role k.Bar k.Mark k.Kind k.Side k.Dir k.Level (wr .i64 (8 - k.Size)) k.With k.From k.To
theorem fit_of {b : Bool} {k : S_Sign} {a1 a2 a3 a4 a5 a6 a7 a8 : Int} (h : fit4 b k a1 a2 a3 a4 a5 a6 a7 a8 = true) : b = true ∧ (a1 ≤ k.Side ∧ k.Side ≤ a2) ∧ (a3 ≤ k.Dir ∧ k.Dir ≤ a4) ∧ (a5 ≤ k.Level ∧ k.Level ≤ a6) ∧ (a7 ≤ k.Size ∧ k.Size ≤ a8) := by
  unfold fit4 at h
  simp only [Bool.and_eq_true] at h
  exact ⟨h.1.1.1.1, rng_of h.1.1.1.2, rng_of h.1.1.2, rng_of h.1.2, rng_of h.2⟩
theorem fit_mk {b : Bool} {k : S_Sign} {a1 a2 a3 a4 a5 a6 a7 a8 : Int} (hb : b = true) (h1 : a1 ≤ k.Side ∧ k.Side ≤ a2) (h2 : a3 ≤ k.Dir ∧ k.Dir ≤ a4) (h3 : a5 ≤ k.Level ∧ k.Level ≤ a6) (h4 : a7 ≤ k.Size ∧ k.Size ≤ a8) : fit4 b k a1 a2 a3 a4 a5 a6 a7 a8 = true := by
  unfold fit4
  rw [hb, rng_iff.2 h1, rng_iff.2 h2, rng_iff.2 h3, rng_iff.2 h4]; rfl
theorem after_of {s : S_State} {k : S_Sign} {r : S_Real} (h : okB s = true) (hk : okK k r = true) (hd : r.Drop = false) (h' : okB (doR s k r) = true) : afterR s k r = (doR s k r, 0) := by
  unfold afterR
  rw [if_pos h, if_pos hk, hd, if_neg (by simp), if_pos h']
theorem move_back {s : S_State} {l : Limbs5} {d z : Int} (h : okB s = true) (hd : 1 ≤ d ∧ d ≤ 8) (hz : 1 ≤ z ∧ z ≤ 16) :
    (movR (lim (movR s d z) l) (oppD d) z).X = s.X ∧ (movR (lim (movR s d z) l) (oppD d) z).Y = s.Y ∧ (movR (lim (movR s d z) l) (oppD d) z).Face = s.Face := by
  obtain ⟨hx, hy, hf⟩ := place_of h
  obtain ⟨e1, e2, b1, b2, b3, b4⟩ := opp_flat hd hf
  refine ⟨?_, ?_, rfl⟩
  · show wr .i64 (wr .i64 (s.X + wr .i64 (z * (flatR (turnR d s.Face).1).1)) + wr .i64 (z * (flatR (turnR (oppD d) s.Face).1).1)) = s.X
    rw [e1]; exact there_back hx hz ⟨b1, b2⟩
  · show wr .i64 (wr .i64 (s.Y + wr .i64 (z * (flatR (turnR d s.Face).1).2.1)) + wr .i64 (z * (flatR (turnR (oppD d) s.Face).1).2.1)) = s.Y
    rw [e2]; exact there_back hy hz ⟨b3, b4⟩
def Back (s t : S_State) (y : S_State × Int) : Prop := y.2 = 0 ∧ y.1.X = s.X ∧ y.1.Y = s.Y ∧ y.1.Face = s.Face
theorem back1 {s : S_State} {k : S_Sign} {r : S_Real} (h : okB s = true) (hk : okK k r = true) (hd : r.Drop = false) (h' : okB (doR s k r) = true) (hq : k.Kind = 1 ∨ k.Kind = 2) : Back s s (afterR (doR s k r) (signD k) r) := by
  have hs : suitR k = true ∧ (realR k r && (r.Sign == k.ID)) = true := by
    unfold okK at hk
    rw [hd] at hk
    simpa only [Bool.and_eq_true, Bool.false_eq_true, if_false] using hk
  rcases hq with hq | hq
  · have hf := hs.1
    unfold suitR at hf
    rw [if_pos hq] at hf
    obtain ⟨f0, f1, f2, f3, f4⟩ := fit_of hf
    have hk' : okK (signD k) r = true := by
      unfold okK
      rw [hd]
      have : suitR (signD k) = true := by
        unfold suitR
        rw [if_pos (show (signD k).Kind = 1 from hq)]
        exact fit_mk f0 f1 (opp_in f2) f3 f4
      rw [this]
      exact hs.2
    have hside : k.Side = 1 ∨ k.Side = 2 := by omega
    rcases hside with hsd | hsd
    · have e : doR s k r = lim (movR s k.Dir k.Size) (set0 s.Limbs z0) := by unfold doR; rw [if_pos hq, if_pos hsd]
      have e2 : doR (doR s k r) (signD k) r = lim (movR (doR s k r) (oppD k.Dir) k.Size) (set0 (doR s k r).Limbs z0) := by
        unfold doR
        rw [if_pos (show (signD k).Kind = 1 from hq), if_pos (show (signD k).Side = 1 from hsd)]; rfl
      obtain ⟨m1, m2, m3⟩ := move_back (l := set0 s.Limbs z0) h f2 f4
      rw [← e] at m1 m2 m3
      have hl : (doR (doR s k r) (signD k) r).Limbs = (doR s k r).Limbs := by rw [e2, e]; rfl
      have c1 : (doR (doR s k r) (signD k) r).X = s.X := by rw [e2]; exact m1
      have c2 : (doR (doR s k r) (signD k) r).Y = s.Y := by rw [e2]; exact m2
      have c3 : (doR (doR s k r) (signD k) r).Face = s.Face := by rw [e2]; exact m3
      rw [after_of h' hk' hd (okB_limbs h h' c1 c2 c3 hl)]
      exact ⟨rfl, c1, c2, c3⟩
    · have hn : ¬ k.Side = 1 := by omega
      have e : doR s k r = lim (movR s k.Dir k.Size) (set1 s.Limbs z0) := by unfold doR; rw [if_pos hq, if_neg hn]
      have e2 : doR (doR s k r) (signD k) r = lim (movR (doR s k r) (oppD k.Dir) k.Size) (set1 (doR s k r).Limbs z0) := by
        unfold doR
        rw [if_pos (show (signD k).Kind = 1 from hq), if_neg (show ¬ (signD k).Side = 1 from hn)]; rfl
      obtain ⟨m1, m2, m3⟩ := move_back (l := set1 s.Limbs z0) h f2 f4
      rw [← e] at m1 m2 m3
      have hl : (doR (doR s k r) (signD k) r).Limbs = (doR s k r).Limbs := by rw [e2, e]; rfl
      have c1 : (doR (doR s k r) (signD k) r).X = s.X := by rw [e2]; exact m1
      have c2 : (doR (doR s k r) (signD k) r).Y = s.Y := by rw [e2]; exact m2
      have c3 : (doR (doR s k r) (signD k) r).Face = s.Face := by rw [e2]; exact m3
      rw [after_of h' hk' hd (okB_limbs h h' c1 c2 c3 hl)]
      exact ⟨rfl, c1, c2, c3⟩
  · have hq1 : ¬ k.Kind = 1 := by omega
    have hf := hs.1
    unfold suitR at hf
    rw [if_neg hq1, if_pos hq] at hf
    obtain ⟨f0, f1, f2, f3, f4⟩ := fit_of hf
    have hk' : okK (signD k) r = true := by
      unfold okK
      rw [hd]
      have : suitR (signD k) = true := by
        unfold suitR
        rw [if_neg (show ¬ (signD k).Kind = 1 from hq1), if_pos (show (signD k).Kind = 2 from hq)]
        exact fit_mk f0 f1 (opp_in f2) f3 f4
      rw [this]
      exact hs.2
    have e : doR s k r = lim (movR s k.Dir k.Size) (set1 (set0 s.Limbs z0) z0) := by unfold doR; rw [if_neg hq1, if_pos hq]
    have e2 : doR (doR s k r) (signD k) r = lim (movR (doR s k r) (oppD k.Dir) k.Size) (set1 (set0 (doR s k r).Limbs z0) z0) := by
      unfold doR
      rw [if_neg (show ¬ (signD k).Kind = 1 from hq1), if_pos (show (signD k).Kind = 2 from hq)]; rfl
    obtain ⟨m1, m2, m3⟩ := move_back (l := set1 (set0 s.Limbs z0) z0) h f2 f4
    rw [← e] at m1 m2 m3
    have hl : (doR (doR s k r) (signD k) r).Limbs = (doR s k r).Limbs := by rw [e2, e]; rfl
    have c1 : (doR (doR s k r) (signD k) r).X = s.X := by rw [e2]; exact m1
    have c2 : (doR (doR s k r) (signD k) r).Y = s.Y := by rw [e2]; exact m2
    have c3 : (doR (doR s k r) (signD k) r).Face = s.Face := by rw [e2]; exact m3
    rw [after_of h' hk' hd (okB_limbs h h' c1 c2 c3 hl)]
    exact ⟨rfl, c1, c2, c3⟩
theorem face_back {f z : Int} (hf : 0 ≤ f ∧ f ≤ 7) (hz : 1 ≤ z ∧ z ≤ 7) : Int.tmod (wr .i64 (Int.tmod (wr .i64 (f + z)) 8 + wr .i64 (8 - z))) 8 = f := by
  have h1 : z = 1 ∨ z = 2 ∨ z = 3 ∨ z = 4 ∨ z = 5 ∨ z = 6 ∨ z = 7 := by omega
  have h2 : f = 0 ∨ f = 1 ∨ f = 2 ∨ f = 3 ∨ f = 4 ∨ f = 5 ∨ f = 6 ∨ f = 7 := by omega
  rcases h1 with rfl | rfl | rfl | rfl | rfl | rfl | rfl <;> rcases h2 with rfl | rfl | rfl | rfl | rfl | rfl | rfl | rfl <;> decide +kernel
theorem back6 {s : S_State} {k : S_Sign} {r : S_Real} (h : okB s = true) (hk : okK k r = true) (hd : r.Drop = false) (h' : okB (doR s k r) = true) (hq : k.Kind = 6) : Back s s (afterR (doR s k r) (signZ k) r) := by
  have hs : suitR k = true ∧ (realR k r && (r.Sign == k.ID)) = true := by
    unfold okK at hk
    rw [hd] at hk
    simpa only [Bool.and_eq_true, Bool.false_eq_true, if_false] using hk
  have n1 : ¬ k.Kind = 1 := by omega
  have n2 : ¬ k.Kind = 2 := by omega
  have n3 : ¬ k.Kind = 3 := by omega
  have n4 : ¬ k.Kind = 4 := by omega
  have n5 : ¬ k.Kind = 5 := by omega
  have hf := hs.1
  unfold suitR at hf
  rw [if_neg n1, if_neg n2, if_neg n3, if_neg n4, if_neg n5, if_pos hq] at hf
  obtain ⟨f0, f1, f2, f3, f4⟩ := fit_of hf
  have hz : wr .i64 (8 - k.Size) = 8 - k.Size := wr64 (by omega) (by omega)
  have hk' : okK (signZ k) r = true := by
    unfold okK
    rw [hd]
    have : suitR (signZ k) = true := by
      unfold suitR
      rw [if_neg (show ¬ (signZ k).Kind = 1 from n1), if_neg (show ¬ (signZ k).Kind = 2 from n2), if_neg (show ¬ (signZ k).Kind = 3 from n3), if_neg (show ¬ (signZ k).Kind = 4 from n4), if_neg (show ¬ (signZ k).Kind = 5 from n5), if_pos (show (signZ k).Kind = 6 from hq)]
      exact fit_mk f0 f1 f2 f3 (by show 1 ≤ wr .i64 (8 - k.Size) ∧ wr .i64 (8 - k.Size) ≤ 7; rw [hz]; omega)
    rw [this]
    exact hs.2
  have e : doR s k r = S_State.mk s.X s.Y (Int.tmod (wr .i64 (s.Face + k.Size)) 8) s.Limbs := by unfold doR; rw [if_neg n1, if_neg n2, if_neg n3, if_neg n4, if_neg n5, if_pos hq]
  have e2 : doR (doR s k r) (signZ k) r = S_State.mk (doR s k r).X (doR s k r).Y (Int.tmod (wr .i64 ((doR s k r).Face + wr .i64 (8 - k.Size))) 8) (doR s k r).Limbs := by
    generalize doR s k r = t
    unfold doR
    rw [if_neg (show ¬ (signZ k).Kind = 1 from n1), if_neg (show ¬ (signZ k).Kind = 2 from n2), if_neg (show ¬ (signZ k).Kind = 3 from n3), if_neg (show ¬ (signZ k).Kind = 4 from n4), if_neg (show ¬ (signZ k).Kind = 5 from n5), if_pos (show (signZ k).Kind = 6 from hq)]; rfl
  obtain ⟨hx, hy, hfc⟩ := place_of h
  have hl : (doR (doR s k r) (signZ k) r).Limbs = (doR s k r).Limbs := by rw [e2]
  have c1 : (doR (doR s k r) (signZ k) r).X = s.X := by rw [e2, e]
  have c2 : (doR (doR s k r) (signZ k) r).Y = s.Y := by rw [e2, e]
  have c3 : (doR (doR s k r) (signZ k) r).Face = s.Face := by rw [e2, e]; exact face_back hfc f4
  rw [after_of h' hk' hd (okB_limbs h h' c1 c2 c3 hl)]
  exact ⟨rfl, c1, c2, c3⟩
theorem pure7 : Pure7 := by
  intro s k r _ _ _
  unfold G7 F7
  rw [sane11, g18]
  simp only [Option.bind_some, Bool.not_true, cond_false]
  by_cases h0 : okB s = true
  · by_cases h1 : okK k r = true
    · cases hd : r.Drop with
      | true =>
        have e : afterR s k r = (s, 0) := by unfold afterR; rw [if_pos h0, if_pos h1, if_pos hd]
        rw [e, g16, if_pos h0]
        simp
      | false =>
        by_cases h2 : okB (doR s k r) = true
        · rw [after_of h0 h1 hd h2]
          simp only [g16, if_pos h2, Option.bind_some, bne_self_eq_false, cond_false]
          by_cases q6 : k.Kind = 6
          · have hb := back6 h0 h1 hd h2 q6
            unfold signZ at hb
            simp only [q6] at hb ⊢
            rw [g18]
            obtain ⟨b0, b1, b2, b3⟩ := hb
            simp [b0, b1, b2, b3]
          · by_cases q : k.Kind = 1 ∨ k.Kind = 2
            · have hb := back1 h0 h1 hd h2 q
              unfold signD oppD at hb
              obtain ⟨b0, b1, b2, b3⟩ := hb
              have e6 : (k.Kind == 6) = false := by simpa using q6
              have e12 : (k.Kind != 1 && k.Kind != 2) = false := by rcases q with q | q <;> rw [q] <;> rfl
              have e : ((bif k.Kind != 1 then some (k.Kind != 2) else some false).bind fun y23 => (bif y23 then some (k.Kind != 6) else some false).bind fun y8 => some y8) = some false := by
                rcases q with q | q <;> rw [q] <;> rfl
              rw [e]
              simp only [g18, Option.bind_some, cond_false, e6, b0, b1, b2, b3, beq_self_eq_true, cond_true]
            · have q1 : ¬ k.Kind = 1 := fun h => q (.inl h)
              have q2 : ¬ k.Kind = 2 := fun h => q (.inr h)
              have e1 : (k.Kind != 1) = true := by simpa using q1
              have e2 : (k.Kind != 2) = true := by simpa using q2
              have e6 : (k.Kind != 6) = true := by simpa using q6
              simp only [e1, e2, e6, cond_true, Option.bind_some]
        · have e : afterR s k r = (zeroS, 2) := by unfold afterR; rw [if_pos h0, if_pos h1, if_neg (by rw [hd]; simp), if_neg h2]
          rw [e]; rfl
    · have e : afterR s k r = (zeroS, 1) := by unfold afterR; rw [if_pos h0, if_neg h1]
      rw [e]; rfl
  · have e : afterR s k r = (zeroS, 260) := by unfold afterR; rw [if_neg h0]
    rw [e]; rfl
end Go.Proofs.YtooamdacfhfjoaaDoor
