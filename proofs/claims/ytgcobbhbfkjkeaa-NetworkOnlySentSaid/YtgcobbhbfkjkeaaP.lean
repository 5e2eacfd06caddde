/-
  Layer 6, in plain Lean: what the functions compute.
-/
import Derived.Test.YtgcobbhbfkjkeaaL
import Derived.Test.YtgcobbhbfkjkeaaPure
import Derived.KernelRfl
namespace Go.Proofs.Ytgcobbhbfkjkeaa
set_option linter.unusedVariables false
set_option linter.unusedSimpArgs false
set_option maxRecDepth 100000
theorem sane9 : G9 = some true := by kernel_rfl
theorem g37 (a b : Int) : G37 a b = some (if b < a then b else a, if a < b then b else a) := rfl
/-- A link's two parties. -/
def okL (p : Int × Int) : Bool := decide (0 ≤ p.1) && decide (p.1 < p.2) && decide (p.2 < 24)
theorem g32 (p : Int × Int) : G32 p = some (okL p) := by
  unfold G32 F32 okL
  cases decide (0 ≤ p.1) <;> cases decide (p.1 < p.2) <;> rfl
def okP (p : S_Packet) : Bool := okL (if p.To < p.From then p.To else p.From, if p.From < p.To then p.To else p.From) && decide ((p.Data.length : Int) ≤ 1048576)
theorem g28 (p : S_Packet) : G28 p = some (okP p) := by
  unfold G28 F28 okP
  rw [g37, Option.bind_some, g32, Option.bind_some]
  cases okL _ <;> rfl
theorem g31 (p : S_Packet) : G31 p = some (!okP p) := by
  unfold G31 F31
  rw [g28, Option.bind_some]
theorem g47 (a : Int) : G47 a = some false := by
  unfold G47 F47
  simp
theorem wr1 {i : Nat} (h : i ≤ fuel0) : wr .i64 ((i : Int) + 1) = ((i + 1 : Nat) : Int) := by
  have : fuel0 = 4611686018427387904 := rfl
  rw [wr64 (by omega) (by omega)]
  omega
theorem f43 (n : Nat) (v2 : Int) (l : List S_Packet) (hl : l.length ≤ fuel0) : ∀ (m i : Nat), i ≤ l.length → l.length - i < m →
    (∃ j : Int, 0 ≤ j ∧ F43_31_43_0 n l v2 (l.length : Int) m (i : Int) = some (.inl j) ∧ (l.drop i).any (fun p => !okP p) = true) ∨ (F43_31_43_0 n l v2 (l.length : Int) m (i : Int) = some (.inr ()) ∧ (l.drop i).any (fun p => !okP p) = false)
  | 0, i, _, h => absurd h (Nat.not_lt_zero _)
  | m + 1, i, hi, h => by
    unfold F43_31_43_0
    by_cases hlt : i < l.length
    · rw [show decide ((i : Int) < (l.length : Int)) = true by simpa using hlt, cond_true, getI_nat, List.getElem?_eq_getElem hlt, Option.bind_some, g31, Option.bind_some, wr1 (by omega), List.drop_eq_getElem_cons hlt, List.any_cons]
      cases hp : okP l[i] with
      | false => exact .inl ⟨i, by omega, rfl, rfl⟩
      | true =>
        simp only [Bool.not_true, cond_false, Bool.false_or]
        exact f43 n v2 l hl m (i + 1) (by omega) (by omega)
    · rw [show decide ((i : Int) < (l.length : Int)) = false by simpa using hlt, cond_false, List.drop_eq_nil_iff.2 (by omega)]
      exact .inr ⟨rfl, rfl⟩
theorem g30 (l : List S_Packet) (hl : l.length ≤ fuel0) : G30_31 l = some (l.any fun p => !okP p) := by
  unfold G30_31 F30_31 G43_31 F43_31
  have e : l.drop 0 = l := rfl
  rcases f43 fuel0 0 l hl (fuel0 + 8) 0 (Nat.zero_le _) (by omega) with ⟨j, h1, h2, h3⟩ | ⟨h2, h3⟩
  · rw [e] at h3
    rw [show ((0 : Nat) : Int) = 0 from rfl] at h2
    rw [h2, h3]
    simp only [Option.bind_some]
    rw [decide_eq_true h1]
  · rw [e] at h3
    rw [show ((0 : Nat) : Int) = 0 from rfl] at h2
    rw [h2, h3]
    rfl
/-- Pairs in order. -/
def lexlt (p q : Int × Int) : Bool := decide (p.1 < q.1) || (p.1 == q.1 && decide (p.2 < q.2))
theorem f33 (n : Nat) (a b c d : Int) (q : List S_Packet) (r : List (Int × Int)) (m : Nat) :
    F13_33_0 n [a, b] 0 [a, b] 2 q r c d (m + 3) 0 = some (if a < c then .inl (-1) else if c < a then .inl 1 else if b < d then .inl (-1) else if d < b then .inl 1 else .inr ()) := by
  have w1 : wr .i64 (0 + 1) = 1 := by decide +kernel
  have w2 : wr .i64 (1 + 1) = 2 := by decide +kernel
  have x0 : getI [a, b] 0 = some a := rfl
  have x1 : getI [a, b] 1 = some b := rfl
  have tail : F13_33_0 n [a, b] 0 [a, b] 2 q r c d (m + 2) 1 = some (if b < d then .inl (-1) else if d < b then .inl 1 else .inr ()) := by
    rw [F13_33_0]
    simp only [x1, g47, w2, Option.bind_some, show decide ((1 : Int) < 2) = true from rfl, show decide ((2 : Int) ≤ 1) = false from rfl, show decide ((1 : Int) = 0) = false from rfl, show decide ((1 : Int) = 1) = true from rfl, cond_true, cond_false]
    by_cases h1 : b < d
    · simp [h1]
    · by_cases h2 : d < b
      · simp [h1, h2]
      · rw [F13_33_0]; simp [h1, h2]
  rw [F13_33_0]
  simp only [x0, g47, w1, Option.bind_some, show decide ((0 : Int) < 2) = true from rfl, show decide ((2 : Int) ≤ 0) = false from rfl, show decide ((0 : Int) = 0) = true from rfl, cond_true, cond_false]
  by_cases h1 : a < c
  · simp [h1]
  · by_cases h2 : c < a
    · simp [h1, h2]
    · simp only [h1, h2, decide_false, cond_false, if_false]
      exact tail
def prevOf (l : List (Int × Int)) (i : Nat) : Option (Int × Int) := if i = 0 then none else l[i - 1]?
/-- Links that are cut: valid, and in order. -/
def okAp : Option (Int × Int) → List (Int × Int) → Bool
  | _, [] => true
  | o, p :: r => okL p && (match o with | some q => lexlt q p | none => true) && okAp (some p) r
theorem f13 (n : Nat) (v8 : Int) (q : List S_Packet) (l : List (Int × Int)) (hl : l.length ≤ fuel0) : ∀ (m i : Nat), i ≤ l.length → l.length - i < m →
    (okAp (prevOf l i) (l.drop i) = true ∧ F13_13_0 n v8 l (l.length : Int) q l m (i : Int) = some (.inr ())) ∨ (okAp (prevOf l i) (l.drop i) = false ∧ ∃ a b, F13_13_0 n v8 l (l.length : Int) q l m (i : Int) = some (.inl (60, a, b)))
  | 0, i, _, h => absurd h (Nat.not_lt_zero _)
  | m + 1, i, hi, h => by
    by_cases hlt : i < l.length
    · have ih := f13 n v8 q l hl m (i + 1) (by omega) (by omega)
      have hp : prevOf l (i + 1) = some l[i] := by unfold prevOf; rw [if_neg (by omega)]; exact List.getElem?_eq_getElem hlt
      rw [hp] at ih
      rw [List.drop_eq_getElem_cons hlt]
      unfold okAp F13_13_0
      rw [show decide ((i : Int) < (l.length : Int)) = true by simpa using hlt, cond_true, getI_nat, List.getElem?_eq_getElem hlt, Option.bind_some, g32, Option.bind_some, wr1 (by omega)]
      cases hk : okL l[i] with
      | false => exact .inr ⟨by simp, _, _, rfl⟩
      | true =>
        simp only [Bool.not_true, cond_false, Bool.true_and]
        by_cases h0 : 0 < i
        · have hpi : prevOf l i = some l[i - 1] := by unfold prevOf; rw [if_neg (by omega)]; exact List.getElem?_eq_getElem (by omega)
          have hw : wr .i64 ((i : Int) - 1) = ((i - 1 : Nat) : Int) := by
            have : fuel0 = 4611686018427387904 := rfl
            rw [wr64 (by omega) (by omega)]; omega
          rw [hpi, show decide ((0 : Int) < (i : Int)) = true by simpa using h0, cond_true, hw, getI_nat, List.getElem?_eq_getElem (by omega), Option.bind_some]
          rw [show n + 7 = (n + 4) + 3 from rfl, f33]
          simp only [Option.bind_some]
          have key : (lexlt l[i - 1] l[i] = true ∧ (if l[i - 1].1 < l[i].1 then (Sum.inl (-1) : Int ⊕ Unit) else if l[i].1 < l[i - 1].1 then .inl 1 else if l[i - 1].2 < l[i].2 then .inl (-1) else if l[i].2 < l[i - 1].2 then .inl 1 else .inr ()) = .inl (-1)) ∨
              (lexlt l[i - 1] l[i] = false ∧ ((if l[i - 1].1 < l[i].1 then (Sum.inl (-1) : Int ⊕ Unit) else if l[i].1 < l[i - 1].1 then .inl 1 else if l[i - 1].2 < l[i].2 then .inl (-1) else if l[i].2 < l[i - 1].2 then .inl 1 else .inr ()) = .inl 1 ∨ (if l[i - 1].1 < l[i].1 then (Sum.inl (-1) : Int ⊕ Unit) else if l[i].1 < l[i - 1].1 then .inl 1 else if l[i - 1].2 < l[i].2 then .inl (-1) else if l[i].2 < l[i - 1].2 then .inl 1 else .inr ()) = .inr ())) := by
            unfold lexlt
            generalize l[i - 1] = p
            generalize l[i] = r
            by_cases a1 : p.1 < r.1
            · exact .inl ⟨by simp [a1], by rw [if_pos a1]⟩
            · by_cases a2 : r.1 < p.1
              · exact .inr ⟨by simp [a1]; intro e; omega, .inl (by rw [if_neg a1, if_pos a2])⟩
              · have e : p.1 = r.1 := by omega
                by_cases a3 : p.2 < r.2
                · exact .inl ⟨by simp [e, a3], by rw [if_neg a1, if_neg a2, if_pos a3]⟩
                · refine .inr ⟨by simp [e, a3], ?_⟩
                  by_cases a4 : r.2 < p.2
                  · exact .inl (by rw [if_neg a1, if_neg a2, if_neg a3, if_pos a4])
                  · exact .inr (by rw [if_neg a1, if_neg a2, if_neg a3, if_neg a4])
          rcases key with ⟨k1, k2⟩ | ⟨k1, k2 | k2⟩
          · rw [k1, k2]
            simp only [Bool.true_and]
            exact ih
          · rw [k1, k2]
            exact .inr ⟨by simp, _, _, rfl⟩
          · rw [k1, k2]
            exact .inr ⟨by simp, _, _, rfl⟩
        · obtain rfl : i = 0 := by omega
          have hp0 : prevOf l 0 = none := rfl
          rw [hp0, show decide ((0 : Int) < ((0 : Nat) : Int)) = false from rfl]
          simp only [cond_false, Option.bind_some, Bool.true_and]
          exact ih
    · rw [List.drop_eq_nil_iff.2 (by omega)]
      unfold F13_13_0
      rw [show decide ((i : Int) < (l.length : Int)) = false by simpa using hlt, cond_false]
      exact .inl ⟨rfl, rfl⟩
/-- Are links valid? -/
def okN (x : S_Net) : Bool := decide (x.Queue.length ≤ 4096) && x.Queue.all okP && okAp none x.Apart
theorem any_all (l : List S_Packet) : (l.any fun p => !okP p) = !l.all okP := by
  induction l with
  | nil => rfl
  | cons x l ih => rw [List.any_cons, List.all_cons, ih]; cases okP x <;> simp
theorem g13 (x : S_Net) (hA : x.Apart.length ≤ fuel0) : G13 x = some (if okN x = true then 0 else 60) := by
  unfold G13 F13 okN
  by_cases hq : x.Queue.length ≤ 4096
  · have hq' : decide ((4096 : Int) < (x.Queue.length : Int)) = false := by simp; omega
    have hqf : x.Queue.length ≤ fuel0 := Nat.le_trans hq (by decide)
    rw [hq', cond_false, g30 _ hqf, Option.bind_some, Option.bind_some, any_all, decide_eq_true hq]
    cases x.Queue.all okP with
    | false => rfl
    | true =>
      simp only [Bool.not_true, cond_false, Bool.true_and]
      have h13 := f13 fuel0 0 x.Queue x.Apart hA (fuel0 + 8) 0 (Nat.zero_le _) (by omega)
      have e : prevOf x.Apart 0 = none := rfl
      rw [e, List.drop_zero, show ((0 : Nat) : Int) = 0 from rfl] at h13
      rcases h13 with ⟨h1, h2⟩ | ⟨h1, a, b, h2⟩
      · rw [h2, h1]; rfl
      · rw [h2, h1]; rfl
  · have hq' : decide ((4096 : Int) < (x.Queue.length : Int)) = true := by simp; omega
    rw [hq', cond_true, Option.bind_some, decide_eq_false hq]
    rfl
def site (a : Int) : Bool := decide (0 ≤ a) && decide (a < 24)
theorem strEq_refl (x : ByteArray) : strEq x x = true := by simp [strEq]
theorem g19r (p : S_Packet) : G19 p p = some true := by
  unfold G19 F19
  simp [strEq_refl]
theorem f150 (n : Nat) (v : Bool) (A B : List (Int × Int)) (l : List S_Packet) (hl : l.length ≤ fuel0) : ∀ (m i : Nat), i ≤ l.length → l.length - i < m → F15_15_0 n v l A l B m (i : Int) = some (.inr ())
  | 0, i, _, h => absurd h (Nat.not_lt_zero _)
  | m + 1, i, hi, h => by
    unfold F15_15_0
    by_cases hlt : i < l.length
    · rw [show decide ((i : Int) < (l.length : Int)) = true by simpa using hlt, cond_true, getI_nat, List.getElem?_eq_getElem hlt, Option.bind_some, Option.bind_some, g19r, Option.bind_some, wr1 (by omega)]
      exact f150 n v A B l hl m (i + 1) (by omega) (by omega)
    · rw [show decide ((i : Int) < (l.length : Int)) = false by simpa using hlt]
      rfl
theorem f151 (n : Nat) (v : Bool) (A B : List S_Packet) (l : List (Int × Int)) (hl : l.length ≤ fuel0) : ∀ (m i : Nat), i ≤ l.length → l.length - i < m → F15_15_1 n v A l B l m (i : Int) = some (.inr ())
  | 0, i, _, h => absurd h (Nat.not_lt_zero _)
  | m + 1, i, hi, h => by
    unfold F15_15_1
    by_cases hlt : i < l.length
    · rw [show decide ((i : Int) < (l.length : Int)) = true by simpa using hlt, cond_true, getI_nat, List.getElem?_eq_getElem hlt, Option.bind_some, Option.bind_some, wr1 (by omega)]
      simp only [beq_self_eq_true, Bool.and_true, Bool.not_true, cond_false]
      exact f151 n v A B l hl m (i + 1) (by omega) (by omega)
    · rw [show decide ((i : Int) < (l.length : Int)) = false by simpa using hlt]
      rfl
theorem g15r (x : S_Net) (h1 : x.Queue.length ≤ fuel0) (h2 : x.Apart.length ≤ fuel0) : G15 x x = some true := by
  unfold G15 F15
  have e1 := f150 fuel0 false x.Apart x.Apart x.Queue h1 (fuel0 + 8) 0 (Nat.zero_le _) (by omega)
  have e2 := f151 fuel0 false x.Queue x.Queue x.Apart h2 (fuel0 + 8) 0 (Nat.zero_le _) (by omega)
  rw [show ((0 : Nat) : Int) = 0 from rfl] at e1 e2
  simp only [bne_self_eq_false, cond_false, Option.bind_some, e1, e2]
theorem lim : limit = 140737488355328 := rfl
theorem fu : fuel0 = 4611686018427387904 := rfl
theorem appI_some {T : Type} (b : Nat) (l l2 : List T) (h : (l.length + l2.length) * b ≤ limit) : appI b l l2 = some (l ++ l2) := by unfold appI; rw [decide_eq_true h]; rfl
theorem subI_all {T : Type} (l : List T) : subI l 0 (l.length : Int) = some l := by
  unfold subI
  simp
/-- What Send answers. -/
def sendR (x : S_Net) (p : S_Packet) : S_Net × Int := if okN x && okP p then (S_Net.mk (x.Queue ++ [p]) x.Apart, 0) else (S_Net.mk [] [], 60)
theorem g11 (x : S_Net) (p : S_Packet) (hq : x.Queue.length ≤ 4095) (hA : x.Apart.length ≤ fuel0) : G11 x p = some (sendR x p) := by
  unfold G11 F11 sendR
  rw [g13 x hA, Option.bind_some, g28]
  have e : ((x.Queue.length : Int) == 4096) = false := by simp; omega
  cases okN x with
  | false => rfl
  | true => cases okP p with
    | false => rfl
    | true =>
      simp only [e, subI_all, Option.bind_some]
      rw [appI_some _ _ _ (by rw [lim]; simp; omega)]
      rfl
theorem sendR_len (x : S_Net) (p : S_Packet) (hq : x.Queue.length ≤ 4095) (hA : x.Apart.length ≤ fuel0) : (sendR x p).1.Queue.length ≤ fuel0 ∧ (sendR x p).1.Apart.length ≤ fuel0 := by
  unfold sendR
  rw [fu] at *
  split
  · exact ⟨by simp; omega, hA⟩
  · exact ⟨Nat.zero_le _, Nat.zero_le _⟩
end Go.Proofs.Ytgcobbhbfkjkeaa
