/-
  Layer 26, in plain Lean: what a sign makes of a state.
-/
import Derived.Test.YtooamdacfhfjoaaDoorP
namespace Go.Proofs.YtooamdacfhfjoaaDoor
set_option linter.unusedVariables false
set_option linter.unusedSimpArgs false
set_option maxRecDepth 100000
set_option maxHeartbeats 4000000
def rng (x a b : Int) : Bool := decide (a ≤ x) && decide (x ≤ b)
theorem g29' (a b c : Int) : G29 a b c = some (rng a b c) := g29 a b c
theorem g33 : G33 = some () := by kernel_rfl
def fit4 (b : Bool) (k : S_Sign) (a1 a2 a3 a4 a5 a6 a7 a8 : Int) : Bool := b && rng k.Side a1 a2 && rng k.Dir a3 a4 && rng k.Level a5 a6 && rng k.Size a7 a8
def suitR (k : S_Sign) : Bool :=
  if k.Kind = 1 then fit4 (rng k.Mark 1 3) k 1 2 1 8 0 0 1 16 else
  if k.Kind = 2 then fit4 (rng k.Mark 1 3) k 0 0 1 8 0 0 1 16 else
  if k.Kind = 3 then fit4 (rng k.Mark 1 3) k 1 2 0 8 1 3 0 0 else
  if k.Kind = 4 then fit4 (rng k.Mark 1 3) k 1 2 0 8 1 3 0 0 else
  if k.Kind = 5 then fit4 (rng k.Mark 1 3) k 0 0 0 8 1 3 0 0 else
  if k.Kind = 6 then fit4 (rng k.Mark 1 3) k 0 0 0 0 0 0 1 7 else
  if k.Kind = 7 then fit4 (rng k.Mark 1 3) k 0 0 0 0 0 0 0 0 else
  if k.Kind = 8 then fit4 (rng k.Mark 1 3) k 0 0 0 0 0 0 0 0 else
  if k.Kind = 9 then fit4 (rng k.Mark 1 3) k 1 2 0 0 1 3 0 0 else false
def realR (k : S_Sign) (r : S_Real) : Bool :=
  if k.Kind = 3 then rng r.Dir 0 8 && rng r.Level 1 3 else
  if k.Kind = 4 then rng r.Dir 0 8 && rng r.Level 1 3 else
  if k.Kind = 5 then rng r.Dir 0 8 && rng r.Level 1 3 else
  if k.Kind = 9 then rng r.Dir 0 0 && rng r.Level 1 3 else rng r.Dir 0 0 && rng r.Level 0 0
def turnR (d f : Int) : Int × Int := if d < 0 ∨ 8 < d ∨ f < 0 ∨ 7 < f then (0, 150) else if d = 0 then (0, 0) else if 8 < d + f then (d + f - 8, 0) else (d + f, 0)
def flatR (d : Int) : Int × Int × Int := if d = 1 then (0, 29, 0) else if d = 2 then (20, 21, 0) else if d = 3 then (29, 0, 0) else if d = 4 then (20, -21, 0) else if d = 5 then (0, -29, 0) else if d = 6 then (-20, -21, 0) else if d = 7 then (-29, 0, 0) else if d = 8 then (-20, 21, 0) else (0, 0, 150)
def movR (s : S_State) (d z : Int) : S_State := S_State.mk (wr .i64 (s.X + wr .i64 (z * (flatR (turnR d s.Face).1).1))) (wr .i64 (s.Y + wr .i64 (z * (flatR (turnR d s.Face).1).2.1))) s.Face s.Limbs
abbrev Limbs5 : Type := S_Limb × S_Limb × S_Limb × S_Limb × S_Limb
def z0 : S_Limb := S_Limb.mk 0 0
def lim (s : S_State) (l : Limbs5) : S_State := S_State.mk s.X s.Y s.Face l
def set0 (l : Limbs5) (x : S_Limb) : Limbs5 := (x, l.2.1, l.2.2.1, l.2.2.2.1, l.2.2.2.2)
def set1 (l : Limbs5) (x : S_Limb) : Limbs5 := (l.1, x, l.2.2.1, l.2.2.2.1, l.2.2.2.2)
def set2 (l : Limbs5) (x : S_Limb) : Limbs5 := (l.1, l.2.1, x, l.2.2.2.1, l.2.2.2.2)
def set3 (l : Limbs5) (x : S_Limb) : Limbs5 := (l.1, l.2.1, l.2.2.1, x, l.2.2.2.2)
def set4 (l : Limbs5) (x : S_Limb) : Limbs5 := (l.1, l.2.1, l.2.2.1, l.2.2.2.1, x)
def rl (r : S_Real) : S_Limb := S_Limb.mk r.Dir r.Level
def doR (s : S_State) (k : S_Sign) (r : S_Real) : S_State :=
  if k.Kind = 1 then (if k.Side = 1 then lim (movR s k.Dir k.Size) (set0 s.Limbs z0) else lim (movR s k.Dir k.Size) (set1 s.Limbs z0)) else
  if k.Kind = 2 then lim (movR s k.Dir k.Size) (set1 (set0 s.Limbs z0) z0) else
  if k.Kind = 3 then (if k.Side = 1 then lim s (set0 s.Limbs (rl r)) else lim s (set1 s.Limbs (rl r))) else
  if k.Kind = 4 then (if k.Side = 1 then lim s (set2 s.Limbs (rl r)) else lim s (set3 s.Limbs (rl r))) else
  if k.Kind = 5 then lim s (set4 s.Limbs (rl r)) else
  if k.Kind = 6 then S_State.mk s.X s.Y (Int.tmod (wr .i64 (s.Face + k.Size)) 8) s.Limbs else
  if k.Kind = 7 then lim s (set3 (set2 s.Limbs z0) z0) else
  if k.Kind = 8 then lim s (set1 (set0 s.Limbs z0) z0) else
  if k.Side = 1 then lim s (set2 s.Limbs z0) else lim s (set3 s.Limbs z0)
def okK (k : S_Sign) (r : S_Real) : Bool := suitR k && ((if r.Drop = true then rng r.Dir 0 0 && rng r.Level 0 0 else realR k r) && (r.Sign == k.ID))
def afterR (s : S_State) (k : S_Sign) (r : S_Real) : S_State × Int :=
  if okB s = true then (if okK k r = true then (if r.Drop = true then (s, 0) else if okB (doR s k r) = true then (doR s k r, 0) else (zeroS, 2)) else (zeroS, 1)) else (zeroS, 260)
theorem rng_of {x a b : Int} (h : rng x a b = true) : a ≤ x ∧ x ≤ b := by
  unfold rng at h
  simpa using h
theorem g24 (d f : Int) : G24 d f = some (turnR d f) := by
  unfold G24 F24 turnR
  by_cases h1 : d < 0
  · simp [h1]
  · by_cases h2 : 8 < d
    · simp [h1, h2]
    · by_cases h3 : f < 0
      · simp [h1, h2, h3]
      · by_cases h4 : 7 < f
        · simp [h1, h2, h3, h4]
        · by_cases h5 : d = 0
          · simp [h1, h2, h3, h4, h5]
          · have e1 : wr .i64 (d + f) = d + f := wr64 (by omega) (by omega)
            rw [decide_eq_false h1, decide_eq_false h2, decide_eq_false h3, decide_eq_false h4, if_neg (by omega), if_neg h5, e1, show (d == 0) = false by simpa using h5]
            by_cases h6 : 8 < d + f
            · rw [decide_eq_true h6, if_pos h6, wr64 (by omega) (by omega)]; rfl
            · rw [decide_eq_false h6, if_neg h6]; rfl
theorem g86 (d : Int) : G86 d = some (flatR d) := by
  unfold G86 F86 flatR
  by_cases h1 : d < 1
  · have : d ≠ 1 ∧ d ≠ 2 ∧ d ≠ 3 ∧ d ≠ 4 ∧ d ≠ 5 ∧ d ≠ 6 ∧ d ≠ 7 ∧ d ≠ 8 := by omega
    simp [h1, this]
  · by_cases h2 : 8 < d
    · have : d ≠ 1 ∧ d ≠ 2 ∧ d ≠ 3 ∧ d ≠ 4 ∧ d ≠ 5 ∧ d ≠ 6 ∧ d ≠ 7 ∧ d ≠ 8 := by omega
      simp [h1, h2, this]
    · have h : d = 1 ∨ d = 2 ∨ d = 3 ∨ d = 4 ∨ d = 5 ∨ d = 6 ∨ d = 7 ∨ d = 8 := by omega
      rcases h with rfl | rfl | rfl | rfl | rfl | rfl | rfl | rfl <;> rfl
theorem f180s0 (n : Nat) (v32 : Int) (v33 : Int) (v34 : Int) (v35 : Int) (v36 : Int) (v38 : S_State) (v39 : S_Sign) (v40 : S_Real) (v41 : Int) (v42 : Int) (v43 : Int) (v44 : Int) (v45 : Int) (v46 : Int) (v47 : Int) (v48 : Int) (v49 : Int) (v50 : Int) (v51 : Int) (v52 : Int) (v53 : Int) (v54 : Int) (v55 : Int) (v56 : Int) (v57 : Int) (v58 : Int) (v59 : Int) (v60 : Int) (v61 : Int) (v62 : Int) (v63 : Int) (v64 : Int) (v65 : Int) (v66 : Nat) (v68 : Int) (v69 : Int) (m : Nat) (b : Bool) : F18_18_0 n v32 v33 v34 v35 v36 v38 v39 v40 v41 v42 v43 v44 v45 v46 v47 v48 v49 v50 v51 v52 v53 v54 v55 v56 v57 v58 v59 v60 v61 v62 v63 v64 v65 v66 v68 v69 (m + 1) 0 b = Option.bind (bif b then (Option.bind (G29 v33 v54 v55) fun y => some y) else (some false)) fun y => F18_18_0 n v32 v33 v34 v35 v36 v38 v39 v40 v41 v42 v43 v44 v45 v46 v47 v48 v49 v50 v51 v52 v53 v54 v55 v56 v57 v58 v59 v60 v61 v62 v63 v64 v65 v66 v68 v69 m 1 y := by kernel_rfl
theorem f180s1 (n : Nat) (v32 : Int) (v33 : Int) (v34 : Int) (v35 : Int) (v36 : Int) (v38 : S_State) (v39 : S_Sign) (v40 : S_Real) (v41 : Int) (v42 : Int) (v43 : Int) (v44 : Int) (v45 : Int) (v46 : Int) (v47 : Int) (v48 : Int) (v49 : Int) (v50 : Int) (v51 : Int) (v52 : Int) (v53 : Int) (v54 : Int) (v55 : Int) (v56 : Int) (v57 : Int) (v58 : Int) (v59 : Int) (v60 : Int) (v61 : Int) (v62 : Int) (v63 : Int) (v64 : Int) (v65 : Int) (v66 : Nat) (v68 : Int) (v69 : Int) (m : Nat) (b : Bool) : F18_18_0 n v32 v33 v34 v35 v36 v38 v39 v40 v41 v42 v43 v44 v45 v46 v47 v48 v49 v50 v51 v52 v53 v54 v55 v56 v57 v58 v59 v60 v61 v62 v63 v64 v65 v66 v68 v69 (m + 1) 1 b = Option.bind (bif b then (Option.bind (G29 v34 v56 v57) fun y => some y) else (some false)) fun y => F18_18_0 n v32 v33 v34 v35 v36 v38 v39 v40 v41 v42 v43 v44 v45 v46 v47 v48 v49 v50 v51 v52 v53 v54 v55 v56 v57 v58 v59 v60 v61 v62 v63 v64 v65 v66 v68 v69 m 2 y := by kernel_rfl
theorem f180s2 (n : Nat) (v32 : Int) (v33 : Int) (v34 : Int) (v35 : Int) (v36 : Int) (v38 : S_State) (v39 : S_Sign) (v40 : S_Real) (v41 : Int) (v42 : Int) (v43 : Int) (v44 : Int) (v45 : Int) (v46 : Int) (v47 : Int) (v48 : Int) (v49 : Int) (v50 : Int) (v51 : Int) (v52 : Int) (v53 : Int) (v54 : Int) (v55 : Int) (v56 : Int) (v57 : Int) (v58 : Int) (v59 : Int) (v60 : Int) (v61 : Int) (v62 : Int) (v63 : Int) (v64 : Int) (v65 : Int) (v66 : Nat) (v68 : Int) (v69 : Int) (m : Nat) (b : Bool) : F18_18_0 n v32 v33 v34 v35 v36 v38 v39 v40 v41 v42 v43 v44 v45 v46 v47 v48 v49 v50 v51 v52 v53 v54 v55 v56 v57 v58 v59 v60 v61 v62 v63 v64 v65 v66 v68 v69 (m + 1) 2 b = Option.bind (bif b then (Option.bind (G29 v35 v58 v59) fun y => some y) else (some false)) fun y => F18_18_0 n v32 v33 v34 v35 v36 v38 v39 v40 v41 v42 v43 v44 v45 v46 v47 v48 v49 v50 v51 v52 v53 v54 v55 v56 v57 v58 v59 v60 v61 v62 v63 v64 v65 v66 v68 v69 m 3 y := by kernel_rfl
theorem f180s3 (n : Nat) (v32 : Int) (v33 : Int) (v34 : Int) (v35 : Int) (v36 : Int) (v38 : S_State) (v39 : S_Sign) (v40 : S_Real) (v41 : Int) (v42 : Int) (v43 : Int) (v44 : Int) (v45 : Int) (v46 : Int) (v47 : Int) (v48 : Int) (v49 : Int) (v50 : Int) (v51 : Int) (v52 : Int) (v53 : Int) (v54 : Int) (v55 : Int) (v56 : Int) (v57 : Int) (v58 : Int) (v59 : Int) (v60 : Int) (v61 : Int) (v62 : Int) (v63 : Int) (v64 : Int) (v65 : Int) (v66 : Nat) (v68 : Int) (v69 : Int) (m : Nat) (b : Bool) : F18_18_0 n v32 v33 v34 v35 v36 v38 v39 v40 v41 v42 v43 v44 v45 v46 v47 v48 v49 v50 v51 v52 v53 v54 v55 v56 v57 v58 v59 v60 v61 v62 v63 v64 v65 v66 v68 v69 (m + 1) 3 b = Option.bind (bif b then (Option.bind (G29 v36 v60 v61) fun y => some y) else (some false)) fun y => F18_18_0 n v32 v33 v34 v35 v36 v38 v39 v40 v41 v42 v43 v44 v45 v46 v47 v48 v49 v50 v51 v52 v53 v54 v55 v56 v57 v58 v59 v60 v61 v62 v63 v64 v65 v66 v68 v69 m 4 y := by kernel_rfl
theorem f180s4 (n : Nat) (v32 : Int) (v33 : Int) (v34 : Int) (v35 : Int) (v36 : Int) (v38 : S_State) (v39 : S_Sign) (v40 : S_Real) (v41 : Int) (v42 : Int) (v43 : Int) (v44 : Int) (v45 : Int) (v46 : Int) (v47 : Int) (v48 : Int) (v49 : Int) (v50 : Int) (v51 : Int) (v52 : Int) (v53 : Int) (v54 : Int) (v55 : Int) (v56 : Int) (v57 : Int) (v58 : Int) (v59 : Int) (v60 : Int) (v61 : Int) (v62 : Int) (v63 : Int) (v64 : Int) (v65 : Int) (v66 : Nat) (v68 : Int) (v69 : Int) (m : Nat) (b : Bool) : F18_18_0 n v32 v33 v34 v35 v36 v38 v39 v40 v41 v42 v43 v44 v45 v46 v47 v48 v49 v50 v51 v52 v53 v54 v55 v56 v57 v58 v59 v60 v61 v62 v63 v64 v65 v66 v68 v69 (m + 1) 4 b = some (v66, b) := by kernel_rfl
theorem andG (b : Bool) (x a c : Int) : (bif b then (Option.bind (G29 x a c) fun y => some y) else (some false)) = some (b && rng x a c) := by
  rw [g29']; cases b <;> rfl
theorem f180 (n : Nat) (v32 : Int) (v33 : Int) (v34 : Int) (v35 : Int) (v36 : Int) (v38 : S_State) (v39 : S_Sign) (v40 : S_Real) (v41 : Int) (v42 : Int) (v43 : Int) (v44 : Int) (v45 : Int) (v46 : Int) (v47 : Int) (v48 : Int) (v49 : Int) (v50 : Int) (v51 : Int) (v52 : Int) (v53 : Int) (v54 : Int) (v55 : Int) (v56 : Int) (v57 : Int) (v58 : Int) (v59 : Int) (v60 : Int) (v61 : Int) (v62 : Int) (v63 : Int) (v64 : Int) (v65 : Int) (v66 : Nat) (v68 : Int) (v69 : Int) (m : Nat) (b : Bool) : F18_18_0 n v32 v33 v34 v35 v36 v38 v39 v40 v41 v42 v43 v44 v45 v46 v47 v48 v49 v50 v51 v52 v53 v54 v55 v56 v57 v58 v59 v60 v61 v62 v63 v64 v65 v66 v68 v69 (m + 5) 0 b = some (v66, b && rng v33 v54 v55 && rng v34 v56 v57 && rng v35 v58 v59 && rng v36 v60 v61) := by
  rw [show m + 5 = m + 1 + 1 + 1 + 1 + 1 from rfl, f180s0, andG, Option.bind_some, f180s1, andG, Option.bind_some, f180s2, andG, Option.bind_some, f180s3, andG, Option.bind_some, f180s4]
def fin (t : S_State) : Option (S_State × Int) := Option.bind (G16 t) fun y => bif (y != 0) then some (zeroS, (2 : Int)) else some (t, 0)
theorem fin_eq (t : S_State) : fin t = some (if okB t = true then (t, 0) else (zeroS, 2)) := by
  unfold fin
  rw [g16]
  cases okB t <;> rfl
theorem sign_eq (a b : Int) : (a != b) = !(a == b) := rfl
theorem g18 (s : S_State) (k : S_Sign) (r : S_Real) : G18 s k r = some (afterR s k r) := by
  unfold G18 F18 afterR okK
  rw [g16, g33]
  cases okB s with
  | false => rfl
  | true =>
    simp only [if_true, Option.bind_some, bne_self_eq_false, cond_false]
    by_cases h1 : k.Kind = 1
    · simp only [h1, Int.reduceEq, decide_true, decide_false, cond_true, cond_false, if_true, if_false, Option.bind_some, andG]
      rw [show fuel0 + 8 = fuel0 + 3 + 5 from rfl, f180, Option.bind_some]
      unfold suitR realR doR
      simp only [h1, Int.reduceEq, if_true, if_false, Bool.true_and, sign_eq]
      rw [show (rng k.Mark 1 3 && rng k.Side 1 2 && rng k.Dir 1 8 && rng k.Level 0 0 && rng k.Size 1 16) = fit4 (rng k.Mark 1 3) k 1 2 1 8 0 0 1 16 from rfl]
      cases hf : fit4 (rng k.Mark 1 3) k 1 2 1 8 0 0 1 16 with
      | false => cases r.Drop <;> kernel_rfl
      | true =>
        simp only [Bool.true_and]
        cases r.Drop with
        | true =>
          simp only [cond_true, Bool.true_and, if_true]
          cases rng r.Dir 0 0 <;> cases rng r.Level 0 0 <;> cases (r.Sign == k.ID) <;> kernel_rfl
        | false =>
          simp only [cond_false, Bool.true_and, Bool.false_eq_true, if_false]
          cases rng r.Dir 0 0 with
          | false => cases rng r.Level 0 0 <;> kernel_rfl
          | true =>
            cases rng r.Level 0 0 with
            | false => kernel_rfl
            | true =>
              cases (r.Sign == k.ID) with
              | false => kernel_rfl
              | true =>
                have hsd : k.Side = 1 ∨ k.Side = 2 := by
                  unfold fit4 at hf
                  simp only [Bool.and_eq_true] at hf
                  have := rng_of hf.1.1.1.2
                  omega
                rcases hsd with hs | hs
                · refine Eq.trans (b := Option.bind (G24 k.Dir s.Face) fun y => Option.bind (G86 y.1) fun z => fin (S_State.mk (wr .i64 (s.X + wr .i64 (k.Size * z.1))) (wr .i64 (s.Y + wr .i64 (k.Size * z.2.1))) s.Face (set0 s.Limbs z0))) (by rw [hs]; kernel_rfl) ?_
                  rw [g24, Option.bind_some, g86, Option.bind_some, fin_eq, hs]
                  kernel_rfl
                · refine Eq.trans (b := Option.bind (G24 k.Dir s.Face) fun y => Option.bind (G86 y.1) fun z => fin (S_State.mk (wr .i64 (s.X + wr .i64 (k.Size * z.1))) (wr .i64 (s.Y + wr .i64 (k.Size * z.2.1))) s.Face (set1 s.Limbs z0))) (by rw [hs]; kernel_rfl) ?_
                  rw [g24, Option.bind_some, g86, Option.bind_some, fin_eq, hs]
                  kernel_rfl
    by_cases h2 : k.Kind = 2
    · simp only [h2, Int.reduceEq, decide_true, decide_false, cond_true, cond_false, if_true, if_false, Option.bind_some, andG]
      rw [show fuel0 + 8 = fuel0 + 3 + 5 from rfl, f180, Option.bind_some]
      unfold suitR realR doR
      simp only [h2, Int.reduceEq, if_true, if_false, Bool.true_and, sign_eq]
      rw [show (rng k.Mark 1 3 && rng k.Side 0 0 && rng k.Dir 1 8 && rng k.Level 0 0 && rng k.Size 1 16) = fit4 (rng k.Mark 1 3) k 0 0 1 8 0 0 1 16 from rfl]
      cases hf : fit4 (rng k.Mark 1 3) k 0 0 1 8 0 0 1 16 with
      | false => cases r.Drop <;> kernel_rfl
      | true =>
        simp only [Bool.true_and]
        cases r.Drop with
        | true =>
          simp only [cond_true, Bool.true_and, if_true]
          cases rng r.Dir 0 0 <;> cases rng r.Level 0 0 <;> cases (r.Sign == k.ID) <;> kernel_rfl
        | false =>
          simp only [cond_false, Bool.true_and, Bool.false_eq_true, if_false]
          cases rng r.Dir 0 0 with
          | false => cases rng r.Level 0 0 <;> kernel_rfl
          | true =>
            cases rng r.Level 0 0 with
            | false => kernel_rfl
            | true =>
              cases (r.Sign == k.ID) with
              | false => kernel_rfl
              | true =>
                refine Eq.trans (b := Option.bind (G24 k.Dir s.Face) fun y => Option.bind (G86 y.1) fun z => fin (S_State.mk (wr .i64 (s.X + wr .i64 (k.Size * z.1))) (wr .i64 (s.Y + wr .i64 (k.Size * z.2.1))) s.Face (set1 (set0 s.Limbs z0) z0))) (by kernel_rfl) ?_
                rw [g24, Option.bind_some, g86, Option.bind_some, fin_eq]
                kernel_rfl
    by_cases h3 : k.Kind = 3
    · simp only [h3, Int.reduceEq, decide_true, decide_false, cond_true, cond_false, if_true, if_false, Option.bind_some, andG]
      rw [show fuel0 + 8 = fuel0 + 3 + 5 from rfl, f180, Option.bind_some]
      unfold suitR realR doR
      simp only [h3, Int.reduceEq, if_true, if_false, Bool.true_and, sign_eq]
      rw [show (rng k.Mark 1 3 && rng k.Side 1 2 && rng k.Dir 0 8 && rng k.Level 1 3 && rng k.Size 0 0) = fit4 (rng k.Mark 1 3) k 1 2 0 8 1 3 0 0 from rfl]
      cases hf : fit4 (rng k.Mark 1 3) k 1 2 0 8 1 3 0 0 with
      | false => cases r.Drop <;> kernel_rfl
      | true =>
        simp only [Bool.true_and]
        cases r.Drop with
        | true =>
          simp only [cond_true, Bool.true_and, if_true]
          cases rng r.Dir 0 0 <;> cases rng r.Level 0 0 <;> cases (r.Sign == k.ID) <;> kernel_rfl
        | false =>
          simp only [cond_false, Bool.true_and, Bool.false_eq_true, if_false]
          cases rng r.Dir 0 8 with
          | false => cases rng r.Level 1 3 <;> kernel_rfl
          | true =>
            cases rng r.Level 1 3 with
            | false => kernel_rfl
            | true =>
              cases (r.Sign == k.ID) with
              | false => kernel_rfl
              | true =>
                have hsd : k.Side = 1 ∨ k.Side = 2 := by
                  unfold fit4 at hf
                  simp only [Bool.and_eq_true] at hf
                  have := rng_of hf.1.1.1.2
                  omega
                rcases hsd with hs | hs
                · refine Eq.trans (b := fin (lim s (set0 s.Limbs (rl r)))) (by rw [hs]; kernel_rfl) ?_
                  rw [fin_eq, hs]; kernel_rfl
                · refine Eq.trans (b := fin (lim s (set1 s.Limbs (rl r)))) (by rw [hs]; kernel_rfl) ?_
                  rw [fin_eq, hs]; kernel_rfl
    by_cases h4 : k.Kind = 4
    · simp only [h4, Int.reduceEq, decide_true, decide_false, cond_true, cond_false, if_true, if_false, Option.bind_some, andG]
      rw [show fuel0 + 8 = fuel0 + 3 + 5 from rfl, f180, Option.bind_some]
      unfold suitR realR doR
      simp only [h4, Int.reduceEq, if_true, if_false, Bool.true_and, sign_eq]
      rw [show (rng k.Mark 1 3 && rng k.Side 1 2 && rng k.Dir 0 8 && rng k.Level 1 3 && rng k.Size 0 0) = fit4 (rng k.Mark 1 3) k 1 2 0 8 1 3 0 0 from rfl]
      cases hf : fit4 (rng k.Mark 1 3) k 1 2 0 8 1 3 0 0 with
      | false => cases r.Drop <;> kernel_rfl
      | true =>
        simp only [Bool.true_and]
        cases r.Drop with
        | true =>
          simp only [cond_true, Bool.true_and, if_true]
          cases rng r.Dir 0 0 <;> cases rng r.Level 0 0 <;> cases (r.Sign == k.ID) <;> kernel_rfl
        | false =>
          simp only [cond_false, Bool.true_and, Bool.false_eq_true, if_false]
          cases rng r.Dir 0 8 with
          | false => cases rng r.Level 1 3 <;> kernel_rfl
          | true =>
            cases rng r.Level 1 3 with
            | false => kernel_rfl
            | true =>
              cases (r.Sign == k.ID) with
              | false => kernel_rfl
              | true =>
                have hsd : k.Side = 1 ∨ k.Side = 2 := by
                  unfold fit4 at hf
                  simp only [Bool.and_eq_true] at hf
                  have := rng_of hf.1.1.1.2
                  omega
                rcases hsd with hs | hs
                · refine Eq.trans (b := fin (lim s (set2 s.Limbs (rl r)))) (by rw [hs]; kernel_rfl) ?_
                  rw [fin_eq, hs]; kernel_rfl
                · refine Eq.trans (b := fin (lim s (set3 s.Limbs (rl r)))) (by rw [hs]; kernel_rfl) ?_
                  rw [fin_eq, hs]; kernel_rfl
    by_cases h5 : k.Kind = 5
    · simp only [h5, Int.reduceEq, decide_true, decide_false, cond_true, cond_false, if_true, if_false, Option.bind_some, andG]
      rw [show fuel0 + 8 = fuel0 + 3 + 5 from rfl, f180, Option.bind_some]
      unfold suitR realR doR
      simp only [h5, Int.reduceEq, if_true, if_false, Bool.true_and, sign_eq]
      rw [show (rng k.Mark 1 3 && rng k.Side 0 0 && rng k.Dir 0 8 && rng k.Level 1 3 && rng k.Size 0 0) = fit4 (rng k.Mark 1 3) k 0 0 0 8 1 3 0 0 from rfl]
      cases hf : fit4 (rng k.Mark 1 3) k 0 0 0 8 1 3 0 0 with
      | false => cases r.Drop <;> kernel_rfl
      | true =>
        simp only [Bool.true_and]
        cases r.Drop with
        | true =>
          simp only [cond_true, Bool.true_and, if_true]
          cases rng r.Dir 0 0 <;> cases rng r.Level 0 0 <;> cases (r.Sign == k.ID) <;> kernel_rfl
        | false =>
          simp only [cond_false, Bool.true_and, Bool.false_eq_true, if_false]
          cases rng r.Dir 0 8 with
          | false => cases rng r.Level 1 3 <;> kernel_rfl
          | true =>
            cases rng r.Level 1 3 with
            | false => kernel_rfl
            | true =>
              cases (r.Sign == k.ID) with
              | false => kernel_rfl
              | true =>
                refine Eq.trans (b := fin (lim s (set4 s.Limbs (rl r)))) (by kernel_rfl) ?_
                rw [fin_eq]
                kernel_rfl
    by_cases h6 : k.Kind = 6
    · simp only [h6, Int.reduceEq, decide_true, decide_false, cond_true, cond_false, if_true, if_false, Option.bind_some, andG]
      rw [show fuel0 + 8 = fuel0 + 3 + 5 from rfl, f180, Option.bind_some]
      unfold suitR realR doR
      simp only [h6, Int.reduceEq, if_true, if_false, Bool.true_and, sign_eq]
      rw [show (rng k.Mark 1 3 && rng k.Side 0 0 && rng k.Dir 0 0 && rng k.Level 0 0 && rng k.Size 1 7) = fit4 (rng k.Mark 1 3) k 0 0 0 0 0 0 1 7 from rfl]
      cases hf : fit4 (rng k.Mark 1 3) k 0 0 0 0 0 0 1 7 with
      | false => cases r.Drop <;> kernel_rfl
      | true =>
        simp only [Bool.true_and]
        cases r.Drop with
        | true =>
          simp only [cond_true, Bool.true_and, if_true]
          cases rng r.Dir 0 0 <;> cases rng r.Level 0 0 <;> cases (r.Sign == k.ID) <;> kernel_rfl
        | false =>
          simp only [cond_false, Bool.true_and, Bool.false_eq_true, if_false]
          cases rng r.Dir 0 0 with
          | false => cases rng r.Level 0 0 <;> kernel_rfl
          | true =>
            cases rng r.Level 0 0 with
            | false => kernel_rfl
            | true =>
              cases (r.Sign == k.ID) with
              | false => kernel_rfl
              | true =>
                refine Eq.trans (b := fin (S_State.mk s.X s.Y (Int.tmod (wr .i64 (s.Face + k.Size)) 8) s.Limbs)) (by kernel_rfl) ?_
                rw [fin_eq]
                kernel_rfl
    by_cases h7 : k.Kind = 7
    · simp only [h7, Int.reduceEq, decide_true, decide_false, cond_true, cond_false, if_true, if_false, Option.bind_some, andG]
      rw [show fuel0 + 8 = fuel0 + 3 + 5 from rfl, f180, Option.bind_some]
      unfold suitR realR doR
      simp only [h7, Int.reduceEq, if_true, if_false, Bool.true_and, sign_eq]
      rw [show (rng k.Mark 1 3 && rng k.Side 0 0 && rng k.Dir 0 0 && rng k.Level 0 0 && rng k.Size 0 0) = fit4 (rng k.Mark 1 3) k 0 0 0 0 0 0 0 0 from rfl]
      cases hf : fit4 (rng k.Mark 1 3) k 0 0 0 0 0 0 0 0 with
      | false => cases r.Drop <;> kernel_rfl
      | true =>
        simp only [Bool.true_and]
        cases r.Drop with
        | true =>
          simp only [cond_true, Bool.true_and, if_true]
          cases rng r.Dir 0 0 <;> cases rng r.Level 0 0 <;> cases (r.Sign == k.ID) <;> kernel_rfl
        | false =>
          simp only [cond_false, Bool.true_and, Bool.false_eq_true, if_false]
          cases rng r.Dir 0 0 with
          | false => cases rng r.Level 0 0 <;> kernel_rfl
          | true =>
            cases rng r.Level 0 0 with
            | false => kernel_rfl
            | true =>
              cases (r.Sign == k.ID) with
              | false => kernel_rfl
              | true =>
                refine Eq.trans (b := fin (lim s (set3 (set2 s.Limbs z0) z0))) (by kernel_rfl) ?_
                rw [fin_eq]
                kernel_rfl
    by_cases h8 : k.Kind = 8
    · simp only [h8, Int.reduceEq, decide_true, decide_false, cond_true, cond_false, if_true, if_false, Option.bind_some, andG]
      rw [show fuel0 + 8 = fuel0 + 3 + 5 from rfl, f180, Option.bind_some]
      unfold suitR realR doR
      simp only [h8, Int.reduceEq, if_true, if_false, Bool.true_and, sign_eq]
      rw [show (rng k.Mark 1 3 && rng k.Side 0 0 && rng k.Dir 0 0 && rng k.Level 0 0 && rng k.Size 0 0) = fit4 (rng k.Mark 1 3) k 0 0 0 0 0 0 0 0 from rfl]
      cases hf : fit4 (rng k.Mark 1 3) k 0 0 0 0 0 0 0 0 with
      | false => cases r.Drop <;> kernel_rfl
      | true =>
        simp only [Bool.true_and]
        cases r.Drop with
        | true =>
          simp only [cond_true, Bool.true_and, if_true]
          cases rng r.Dir 0 0 <;> cases rng r.Level 0 0 <;> cases (r.Sign == k.ID) <;> kernel_rfl
        | false =>
          simp only [cond_false, Bool.true_and, Bool.false_eq_true, if_false]
          cases rng r.Dir 0 0 with
          | false => cases rng r.Level 0 0 <;> kernel_rfl
          | true =>
            cases rng r.Level 0 0 with
            | false => kernel_rfl
            | true =>
              cases (r.Sign == k.ID) with
              | false => kernel_rfl
              | true =>
                refine Eq.trans (b := fin (lim s (set1 (set0 s.Limbs z0) z0))) (by kernel_rfl) ?_
                rw [fin_eq]
                kernel_rfl
    by_cases h9 : k.Kind = 9
    · simp only [h9, Int.reduceEq, decide_true, decide_false, cond_true, cond_false, if_true, if_false, Option.bind_some, andG]
      rw [show fuel0 + 8 = fuel0 + 3 + 5 from rfl, f180, Option.bind_some]
      unfold suitR realR doR
      simp only [h9, Int.reduceEq, if_true, if_false, Bool.true_and, sign_eq]
      rw [show (rng k.Mark 1 3 && rng k.Side 1 2 && rng k.Dir 0 0 && rng k.Level 1 3 && rng k.Size 0 0) = fit4 (rng k.Mark 1 3) k 1 2 0 0 1 3 0 0 from rfl]
      cases hf : fit4 (rng k.Mark 1 3) k 1 2 0 0 1 3 0 0 with
      | false => cases r.Drop <;> kernel_rfl
      | true =>
        simp only [Bool.true_and]
        cases r.Drop with
        | true =>
          simp only [cond_true, Bool.true_and, if_true]
          cases rng r.Dir 0 0 <;> cases rng r.Level 0 0 <;> cases (r.Sign == k.ID) <;> kernel_rfl
        | false =>
          simp only [cond_false, Bool.true_and, Bool.false_eq_true, if_false]
          cases rng r.Dir 0 0 with
          | false => cases rng r.Level 1 3 <;> kernel_rfl
          | true =>
            cases rng r.Level 1 3 with
            | false => kernel_rfl
            | true =>
              cases (r.Sign == k.ID) with
              | false => kernel_rfl
              | true =>
                have hsd : k.Side = 1 ∨ k.Side = 2 := by
                  unfold fit4 at hf
                  simp only [Bool.and_eq_true] at hf
                  have := rng_of hf.1.1.1.2
                  omega
                rcases hsd with hs | hs
                · refine Eq.trans (b := fin (lim s (set2 s.Limbs z0))) (by rw [hs]; kernel_rfl) ?_
                  rw [fin_eq, hs]; kernel_rfl
                · refine Eq.trans (b := fin (lim s (set3 s.Limbs z0))) (by rw [hs]; kernel_rfl) ?_
                  rw [fin_eq, hs]; kernel_rfl
    simp only [h1, h2, h3, h4, h5, h6, h7, h8, h9, decide_false, cond_false, Option.bind_some]
    rw [show fuel0 + 8 = fuel0 + 3 + 5 from rfl, f180, Option.bind_some]
    unfold suitR
    simp only [h1, h2, h3, h4, h5, h6, h7, h8, h9, if_false, Bool.false_and, Bool.false_eq_true]
    cases r.Drop <;> kernel_rfl
end Go.Proofs.YtooamdacfhfjoaaDoor
