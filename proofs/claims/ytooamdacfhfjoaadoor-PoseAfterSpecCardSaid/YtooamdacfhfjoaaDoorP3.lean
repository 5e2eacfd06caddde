/-
  Layer 26, in plain Lean: the reference's After.
-/
import Derived.Test.YtooamdacfhfjoaaDoorP2
namespace Go.Proofs.YtooamdacfhfjoaaDoor
set_option linter.unusedVariables false
set_option linter.unusedSimpArgs false
set_option maxRecDepth 100000
set_option maxHeartbeats 4000000
theorem g61 (a b c : Int) : G61 a b c = some (rng a b c) := by
  unfold G61 F61 rng
  cases decide (b ≤ a) <;> rfl
theorem g30' (a b c : Int) : G30 a b c = some (rng a b c) := g30 a b c
theorem rng0 (x : Int) : (x == 0) = rng x 0 0 := by
  unfold rng
  rw [Bool.eq_iff_iff]
  simp
  omega
theorem g35 (k : S_Sign) : G35 k.Mark k.Kind k.Side k.Dir k.Level k.Size = some (suitR k) := by
  unfold G35 F35 suitR fit4
  simp only [g61, Option.bind_some, rng0]
  cases rng k.Mark 1 3 with
  | false => simp
  | true =>
    simp only [Bool.not_true, cond_false, Bool.true_and]
    by_cases h1 : k.Kind = 1
    · rw [h1]
      cases rng k.Side 1 2 <;> cases rng k.Dir 1 8 <;> cases rng k.Level 0 0 <;> cases rng k.Size 1 16 <;> kernel_rfl
    by_cases h2 : k.Kind = 2
    · rw [h2]
      cases rng k.Side 0 0 <;> cases rng k.Dir 1 8 <;> cases rng k.Level 0 0 <;> cases rng k.Size 1 16 <;> kernel_rfl
    by_cases h3 : k.Kind = 3
    · rw [h3]
      cases rng k.Side 1 2 <;> cases rng k.Dir 0 8 <;> cases rng k.Level 1 3 <;> cases rng k.Size 0 0 <;> kernel_rfl
    by_cases h4 : k.Kind = 4
    · rw [h4]
      cases rng k.Side 1 2 <;> cases rng k.Dir 0 8 <;> cases rng k.Level 1 3 <;> cases rng k.Size 0 0 <;> kernel_rfl
    by_cases h5 : k.Kind = 5
    · rw [h5]
      cases rng k.Side 0 0 <;> cases rng k.Dir 0 8 <;> cases rng k.Level 1 3 <;> cases rng k.Size 0 0 <;> kernel_rfl
    by_cases h6 : k.Kind = 6
    · rw [h6]
      cases rng k.Side 0 0 <;> cases rng k.Dir 0 0 <;> cases rng k.Level 0 0 <;> cases rng k.Size 1 7 <;> kernel_rfl
    by_cases h7 : k.Kind = 7
    · rw [h7]
      cases rng k.Side 0 0 <;> cases rng k.Dir 0 0 <;> cases rng k.Level 0 0 <;> cases rng k.Size 0 0 <;> kernel_rfl
    by_cases h8 : k.Kind = 8
    · rw [h8]
      cases rng k.Side 0 0 <;> cases rng k.Dir 0 0 <;> cases rng k.Level 0 0 <;> cases rng k.Size 0 0 <;> kernel_rfl
    by_cases h9 : k.Kind = 9
    · rw [h9]
      cases rng k.Side 1 2 <;> cases rng k.Dir 0 0 <;> cases rng k.Level 1 3 <;> cases rng k.Size 0 0 <;> kernel_rfl
    simp only [h1, h2, h3, h4, h5, h6, h7, h8, h9, if_false, show (k.Kind == 1) = false by simpa using h1, show (k.Kind == 2) = false by simpa using h2, show (k.Kind == 3) = false by simpa using h3, show (k.Kind == 4) = false by simpa using h4, show (k.Kind == 5) = false by simpa using h5, show (k.Kind == 6) = false by simpa using h6, show (k.Kind == 7) = false by simpa using h7, show (k.Kind == 8) = false by simpa using h8, show (k.Kind == 9) = false by simpa using h9, cond_false]
def formR (k : S_Sign) (r : S_Real) : Bool := (if r.Drop = true then rng r.Dir 0 0 && rng r.Level 0 0 else realR k r) && (r.Sign == k.ID)
theorem g36 (k : S_Sign) (r : S_Real) : G36 k r = some (formR k r) := by
  unfold G36 F36 formR realR
  simp only [g30', rng0, sign_eq, Option.bind_some]
  cases (r.Sign == k.ID) with
  | false => simp
  | true =>
    cases r.Drop with
    | true => cases rng r.Dir 0 0 <;> cases rng r.Level 0 0 <;> kernel_rfl
    | false =>
      by_cases h3 : k.Kind = 3
      · rw [h3]; cases rng r.Dir 0 8 <;> cases rng r.Level 1 3 <;> kernel_rfl
      · by_cases h4 : k.Kind = 4
        · rw [h4]; cases rng r.Dir 0 8 <;> cases rng r.Level 1 3 <;> kernel_rfl
        · by_cases h5 : k.Kind = 5
          · rw [h5]; cases rng r.Dir 0 8 <;> cases rng r.Level 1 3 <;> kernel_rfl
          · by_cases h9 : k.Kind = 9
            · rw [h9]; cases rng r.Dir 0 0 <;> cases rng r.Level 1 3 <;> kernel_rfl
            · simp only [h3, h4, h5, h9, if_false, show (k.Kind == 3) = false by simpa using h3, show (k.Kind == 4) = false by simpa using h4, show (k.Kind == 5) = false by simpa using h5, show (k.Kind == 9) = false by simpa using h9, Bool.not_true, cond_false]
              cases rng r.Dir 0 0 <;> cases rng r.Level 0 0 <;> kernel_rfl
theorem tmod8 {x : Int} (h0 : 0 ≤ x) (h1 : x < 16) : Int.tmod x 8 = if x < 8 then x else x - 8 := by
  rw [Int.tmod_eq_emod_of_nonneg h0]
  split <;> omega
theorem g62 (d f : Int) : G62 d f = some (turnR d f) := by
  unfold G62 F62 turnR
  by_cases h1 : d < 0
  · simp [h1]
  · by_cases h2 : 8 < d
    · simp [h1, h2]
    · by_cases h3 : f < 0
      · simp [h1, h2, h3]
      · by_cases h4 : 7 < f
        · simp [h1, h2, h3, h4]
        · by_cases h5 : d = 0
          · simp [h1, h2, h3, h4, h5]
          · have e0 : wr .i64 (d - 1) = d - 1 := wr64 (by omega) (by omega)
            have e1 : wr .i64 (d - 1 + f) = d - 1 + f := wr64 (by omega) (by omega)
            rw [decide_eq_false h1, decide_eq_false h2, decide_eq_false h3, decide_eq_false h4, if_neg (by omega), if_neg h5, e0, e1, show (d == 0) = false by simpa using h5, tmod8 (by omega) (by omega)]
            by_cases h6 : 8 < d + f
            · rw [if_neg (by omega), if_pos h6, wr64 (by omega) (by omega)]
              show some (d - 1 + f - 8 + 1, (0 : Int)) = _
              congr 2; omega
            · rw [if_pos (by omega), if_neg h6, wr64 (by omega) (by omega)]
              show some (d - 1 + f + 1, (0 : Int)) = _
              congr 2; omega
theorem g63 (d : Int) : G63 d = some (flatR d) := by
  unfold G63 F63 flatR
  by_cases h1 : d = 1
  · rw [h1]; rfl
  by_cases h2 : d = 2
  · rw [h2]; rfl
  by_cases h3 : d = 3
  · rw [h3]; rfl
  by_cases h4 : d = 4
  · rw [h4]; rfl
  by_cases h5 : d = 5
  · rw [h5]; rfl
  by_cases h6 : d = 6
  · rw [h6]; rfl
  by_cases h7 : d = 7
  · rw [h7]; rfl
  by_cases h8 : d = 8
  · rw [h8]; rfl
  simp only [h1, h2, h3, h4, h5, h6, h7, h8, if_false, show (d == 1) = false by simpa using h1, show (d == 2) = false by simpa using h2, show (d == 3) = false by simpa using h3, show (d == 4) = false by simpa using h4, show (d == 5) = false by simpa using h5, show (d == 6) = false by simpa using h6, show (d == 7) = false by simpa using h7, show (d == 8) = false by simpa using h8, cond_false]
theorem g37 (s : S_State) (d z : Int) : G37 s d z = some (movR s d z) := by
  unfold G37 F37 movR
  rw [g62, Option.bind_some, g63]
  rfl
def fin17 (t : S_State) : Option (S_State × Int) := Option.bind (G17 t) fun y => bif (y != 0) then some (zeroS, (2 : Int)) else some (t, 0)
theorem fin17_eq (t : S_State) : fin17 t = some (if okB t = true then (t, 0) else (zeroS, 2)) := by
  unfold fin17
  rw [g17]
  cases okB t <;> rfl
theorem kinds_of {k : S_Sign} (h : suitR k = true) : k.Kind = 1 ∨ k.Kind = 2 ∨ k.Kind = 3 ∨ k.Kind = 4 ∨ k.Kind = 5 ∨ k.Kind = 6 ∨ k.Kind = 7 ∨ k.Kind = 8 ∨ k.Kind = 9 := by
  unfold suitR at h
  by_cases h1 : k.Kind = 1; · exact .inl h1
  by_cases h2 : k.Kind = 2; · exact .inr (.inl h2)
  by_cases h3 : k.Kind = 3; · exact .inr (.inr (.inl h3))
  by_cases h4 : k.Kind = 4; · exact .inr (.inr (.inr (.inl h4)))
  by_cases h5 : k.Kind = 5; · exact .inr (.inr (.inr (.inr (.inl h5))))
  by_cases h6 : k.Kind = 6; · exact .inr (.inr (.inr (.inr (.inr (.inl h6)))))
  by_cases h7 : k.Kind = 7; · exact .inr (.inr (.inr (.inr (.inr (.inr (.inl h7))))))
  by_cases h8 : k.Kind = 8; · exact .inr (.inr (.inr (.inr (.inr (.inr (.inr (.inl h8)))))))
  by_cases h9 : k.Kind = 9; · exact .inr (.inr (.inr (.inr (.inr (.inr (.inr (.inr h9)))))))
  simp [h1, h2, h3, h4, h5, h6, h7, h8, h9] at h
theorem fit4_of {b : Bool} {k : S_Sign} {a1 a2 a3 a4 a5 a6 a7 a8 : Int} (h : fit4 b k a1 a2 a3 a4 a5 a6 a7 a8 = true) : b = true ∧ (a1 ≤ k.Side ∧ k.Side ≤ a2) ∧ (a3 ≤ k.Dir ∧ k.Dir ≤ a4) ∧ (a5 ≤ k.Level ∧ k.Level ≤ a6) ∧ (a7 ≤ k.Size ∧ k.Size ≤ a8) := by
  unfold fit4 at h
  simp only [Bool.and_eq_true] at h
  exact ⟨h.1.1.1.1, rng_of h.1.1.1.2, rng_of h.1.1.2, rng_of h.1.2, rng_of h.2⟩
theorem g19 (s : S_State) (k : S_Sign) (r : S_Real) : G19 s k r = some (afterR s k r) := by
  unfold G19 F19 afterR
  rw [g17, g35, g36]
  cases okB s with
  | false => rfl
  | true =>
    have e : okK k r = (suitR k && formR k r) := rfl
    rw [e]
    cases hs : suitR k with
    | false => show _ = _; kernel_rfl
    | true =>
      cases formR k r with
      | false => show _ = _; kernel_rfl
      | true =>
        cases r.Drop with
        | true => show _ = _; kernel_rfl
        | false =>
          rcases kinds_of hs with h | h | h | h | h | h | h | h | h
          · have hsd : k.Side = 1 ∨ k.Side = 2 := by
              unfold suitR at hs
              simp only [h, Int.reduceEq, if_true, if_false] at hs
              have := (fit4_of hs).2.1
              omega
            rcases hsd with hd | hd
            · refine Eq.trans (b := Option.bind (G37 s k.Dir k.Size) fun y => fin17 (S_State.mk y.X y.Y y.Face (set0 y.Limbs z0))) (by rw [h, hd]; kernel_rfl) ?_
              rw [g37, Option.bind_some, fin17_eq]; unfold doR; rw [h, hd]; kernel_rfl
            · refine Eq.trans (b := Option.bind (G37 s k.Dir k.Size) fun y => fin17 (S_State.mk y.X y.Y y.Face (set1 y.Limbs z0))) (by rw [h, hd]; kernel_rfl) ?_
              rw [g37, Option.bind_some, fin17_eq]; unfold doR; rw [h, hd]; kernel_rfl
          · refine Eq.trans (b := Option.bind (G37 s k.Dir k.Size) fun y => fin17 (S_State.mk y.X y.Y y.Face (set1 (set0 y.Limbs z0) z0))) (by rw [h]; kernel_rfl) ?_
            rw [g37, Option.bind_some, fin17_eq]; unfold doR; rw [h]; kernel_rfl
          · have hsd : k.Side = 1 ∨ k.Side = 2 := by
              unfold suitR at hs
              simp only [h, Int.reduceEq, if_true, if_false] at hs
              have := (fit4_of hs).2.1
              omega
            rcases hsd with hd | hd
            · refine Eq.trans (b := fin17 (lim s (set0 s.Limbs (rl r)))) (by rw [h, hd]; kernel_rfl) ?_
              rw [fin17_eq]; unfold doR; rw [h, hd]; kernel_rfl
            · refine Eq.trans (b := fin17 (lim s (set1 s.Limbs (rl r)))) (by rw [h, hd]; kernel_rfl) ?_
              rw [fin17_eq]; unfold doR; rw [h, hd]; kernel_rfl
          · have hsd : k.Side = 1 ∨ k.Side = 2 := by
              unfold suitR at hs
              simp only [h, Int.reduceEq, if_true, if_false] at hs
              have := (fit4_of hs).2.1
              omega
            rcases hsd with hd | hd
            · refine Eq.trans (b := fin17 (lim s (set2 s.Limbs (rl r)))) (by rw [h, hd]; kernel_rfl) ?_
              rw [fin17_eq]; unfold doR; rw [h, hd]; kernel_rfl
            · refine Eq.trans (b := fin17 (lim s (set3 s.Limbs (rl r)))) (by rw [h, hd]; kernel_rfl) ?_
              rw [fin17_eq]; unfold doR; rw [h, hd]; kernel_rfl
          · refine Eq.trans (b := fin17 (lim s (set4 s.Limbs (rl r)))) (by rw [h]; kernel_rfl) ?_
            rw [fin17_eq]; unfold doR; rw [h]; kernel_rfl
          · refine Eq.trans (b := fin17 (S_State.mk s.X s.Y (Int.tmod (wr .i64 (s.Face + k.Size)) 8) s.Limbs)) (by rw [h]; kernel_rfl) ?_
            rw [fin17_eq]; unfold doR; rw [h]; kernel_rfl
          · refine Eq.trans (b := fin17 (lim s (set3 (set2 s.Limbs z0) z0))) (by rw [h]; kernel_rfl) ?_
            rw [fin17_eq]; unfold doR; rw [h]; kernel_rfl
          · refine Eq.trans (b := fin17 (lim s (set1 (set0 s.Limbs z0) z0))) (by rw [h]; kernel_rfl) ?_
            rw [fin17_eq]; unfold doR; rw [h]; kernel_rfl
          · have hsd : k.Side = 1 ∨ k.Side = 2 := by
              unfold suitR at hs
              simp only [h, Int.reduceEq, if_true, if_false] at hs
              have := (fit4_of hs).2.1
              omega
            rcases hsd with hd | hd
            · refine Eq.trans (b := fin17 (lim s (set2 s.Limbs z0))) (by rw [h, hd]; kernel_rfl) ?_
              rw [fin17_eq]; unfold doR; rw [h, hd]; kernel_rfl
            · refine Eq.trans (b := fin17 (lim s (set3 s.Limbs z0))) (by rw [h, hd]; kernel_rfl) ?_
              rw [fin17_eq]; unfold doR; rw [h, hd]; kernel_rfl
theorem pure4 : Pure4 := by
  intro s k r hs hk hr
  unfold G4 F4
  rw [sane11, g18, g19]
  simp only [Option.bind_some, beq_self_eq_true, Bool.and_self, Bool.not_true, cond_false, cond_true]
end Go.Proofs.YtooamdacfhfjoaaDoor
