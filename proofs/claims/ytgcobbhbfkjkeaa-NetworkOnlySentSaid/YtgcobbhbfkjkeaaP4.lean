/-
  Layer 6, in plain Lean: links that are cut and mended.
-/
import Derived.Test.YtgcobbhbfkjkeaaP3
namespace Go.Proofs.Ytgcobbhbfkjkeaa
set_option linter.unusedVariables false
set_option linter.unusedSimpArgs false
set_option maxRecDepth 100000
/-- The pairs of a row, of which d are left. -/
def rowK (K : Int → Int → Bool) (x : Int) : Nat → List (Int × Int)
  | 0 => []
  | d + 1 => (if K x (24 - ((d + 1 : Nat) : Int)) = true then [(x, 24 - ((d + 1 : Nat) : Int))] else []) ++ rowK K x d
/-- All pairs, of which d rows are left. -/
def allK (K : Int → Int → Bool) : Nat → List (Int × Int)
  | 0 => []
  | d + 1 => rowK K (24 - ((d + 1 : Nat) : Int)) d ++ allK K d
def keepL (l : List (Int × Int)) (p : Int × Int) (on : Bool) (x y : Int) : Bool := bif x == p.1 && y == p.2 then on else isCut l (x, y)
/-- What Cut answers. -/
def cutR (x : S_Net) (a b : Int) (on : Bool) : S_Net × Int := if okN x = true then (if okL (link a b) = true then (S_Net.mk x.Queue (allK (keepL x.Apart (link a b) on) 24), 0) else (zeroN, 1)) else (zeroN, 60)
theorem rowK_len (K : Int → Int → Bool) (x : Int) : ∀ d, (rowK K x d).length ≤ d
  | 0 => Nat.le_refl _
  | d + 1 => by
    unfold rowK
    have := rowK_len K x d
    rw [List.length_append]
    split <;> simp <;> omega
theorem allK_len (K : Int → Int → Bool) : ∀ d, (allK K d).length ≤ d * d
  | 0 => Nat.le_refl _
  | d + 1 => by
    unfold allK
    have h1 := rowK_len K (24 - ((d + 1 : Nat) : Int)) d
    have h2 := allK_len K d
    rw [List.length_append, Nat.mul_add, Nat.add_mul]
    omega
theorem app1 {l : List (Int × Int)} {p : Int × Int} (h : l.length ≤ 100000) : appI 16 l [p] = some (l ++ [p]) := appI_some _ _ _ (by rw [lim]; simp; omega)
theorem row20 (n : Nat) (v20 : Int) (q1 q2 : List S_Packet) (A1 A2 : List (Int × Int)) (v24 v25 x c e : Int) (on : Bool) (hA : A2.length ≤ fuel0) : ∀ (m d : Nat) (acc : List (Int × Int)), d ≤ 24 → d < m → acc.length + d ≤ 100000 →
    F20_46_1 n x v20 q1 A1 q2 v24 v25 A2 c e on m (24 - (d : Int)) acc = some (acc ++ rowK (keepL A2 (c, e) on) x d)
  | 0, d, _, _, h, _ => absurd h (Nat.not_lt_zero _)
  | m + 1, 0, acc, _, _, _ => by unfold F20_46_1; simp [rowK]
  | m + 1, d + 1, acc, hd, h, hl => by
    have hw : wr .i64 (24 - ((d + 1 : Nat) : Int) + 1) = 24 - (d : Int) := by rw [wr64 (by omega) (by omega)]; omega
    have ih := fun acc' hl' => row20 n v20 q1 q2 A1 A2 v24 v25 x c e on hA m d acc' (by omega) (by omega) hl'
    unfold F20_46_1 rowK
    rw [show decide (24 - ((d + 1 : Nat) : Int) < 24) = true by rw [decide_eq_true_eq]; omega, cond_true, g36 _ _ hA, hw]
    generalize hy : 24 - ((d + 1 : Nat) : Int) = y
    have hk : keepL A2 (c, e) on x y = bif x == c && y == e then on else isCut A2 (x, y) := rfl
    rw [hk]
    cases hs : (x == c && y == e) with
    | true =>
      cases on with
      | true =>
        simp only [cond_true, cond_false, Bool.not_true, Option.bind_some]
        rw [app1 (by omega), Option.bind_some, ih _ (by simp; omega), if_pos trivial, List.append_assoc]
      | false =>
        simp only [cond_true, cond_false, Bool.not_true, Bool.not_false, Option.bind_some]
        rw [ih _ (by omega), if_neg (by simp), List.nil_append]
    | false =>
      simp only [cond_true, cond_false, Bool.not_true, Bool.not_false, Option.bind_some]
      cases isCut A2 (x, y) with
      | true =>
        simp only [cond_true, cond_false, Bool.not_true, Option.bind_some]
        rw [app1 (by omega), Option.bind_some, ih _ (by simp; omega), if_pos trivial, List.append_assoc]
      | false =>
        simp only [cond_true, cond_false, Bool.not_false, Option.bind_some]
        rw [ih _ (by omega), if_neg (by simp), List.nil_append]
theorem all20 (n : Nat) (hn : 24 ≤ n) (q1 q2 : List S_Packet) (A1 A2 : List (Int × Int)) (v10 v11 c e : Int) (on : Bool) (hA : A2.length ≤ fuel0) : ∀ (m d : Nat) (acc : List (Int × Int)), d ≤ 24 → d < m → acc.length + d * d ≤ 10000 →
    F20_46_0 n q1 A1 q2 v10 v11 A2 c e on m (24 - (d : Int)) acc = some (acc ++ allK (keepL A2 (c, e) on) d)
  | 0, d, _, _, h, _ => absurd h (Nat.not_lt_zero _)
  | m + 1, 0, acc, _, _, _ => by unfold F20_46_0; simp [allK]
  | m + 1, d + 1, acc, hd, h, hl => by
    have hw : wr .i64 (24 - ((d + 1 : Nat) : Int) + 1) = 24 - (d : Int) := by rw [wr64 (by omega) (by omega)]; omega
    rw [Nat.mul_add, Nat.add_mul] at hl
    unfold F20_46_0 allK
    rw [show decide (24 - ((d + 1 : Nat) : Int) < 24) = true by rw [decide_eq_true_eq]; omega, cond_true, hw, row20 n _ q1 q2 A1 A2 v10 v11 _ c e on hA (n + 7) d acc (by omega) (by omega) (by omega), Option.bind_some]
    simp only
    have := rowK_len (keepL A2 (c, e) on) (24 - ((d + 1 : Nat) : Int)) d
    rw [all20 n hn q1 q2 A1 A2 v10 v11 c e on hA m d _ (by omega) (by omega) (by rw [List.length_append]; omega), List.append_assoc]
theorem g20 (x : S_Net) (a b : Int) (on : Bool) (hA : x.Apart.length ≤ fuel0) : G20 x a b on = some (cutR x a b on) := by
  unfold G20 F20 cutR
  rw [g13 x hA, Option.bind_some, g37]
  cases okN x with
  | false => rfl
  | true =>
    simp only [Option.bind_some]
    rw [g32, show ((if b < a then b else a, if a < b then b else a) : Int × Int) = link a b from rfl, Option.bind_some]
    cases okL (link a b) with
    | false => rfl
    | true =>
      have := all20 fuel0 (by decide) x.Queue x.Queue x.Apart x.Apart (link a b).1 (link a b).2 (link a b).1 (link a b).2 on hA (fuel0 + 7) 24 [] (by omega) (by rw [fu]; omega) (by simp)
      rw [show (24 : Int) - ((24 : Nat) : Int) = 0 from rfl] at this
      simp only [if_true, bne_self_eq_false, cond_false, Bool.not_true]
      rw [show (if b < a then b else a) = (link a b).1 from rfl, show (if a < b then b else a) = (link a b).2 from rfl, this]
      simp
theorem link_self {x y : Int} (h : x < y) : link x y = (x, y) := by
  unfold link
  rw [if_neg (by omega), if_pos h]
theorem okL_link (a b : Int) : okL (link a b) = (site a && site b && !(a == b)) := by
  unfold okL link site
  rw [Bool.eq_iff_iff]
  simp only [Bool.and_eq_true, decide_eq_true_eq, Bool.not_eq_true', beq_eq_false_iff_ne]
  split <;> split <;> omega
end Go.Proofs.Ytgcobbhbfkjkeaa
