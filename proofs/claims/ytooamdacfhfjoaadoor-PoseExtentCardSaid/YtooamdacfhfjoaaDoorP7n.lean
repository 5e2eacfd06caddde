/-
  Layer 26, in plain Lean: the body's check, without the reference.
-/
import Derived.Test.YtooamdacfhfjoaaDoorL
import Derived.Test.YtooamdacfhfjoaaDoorPure
import Derived.KernelRfl
namespace Go.Proofs.YtooamdacfhfjoaaDoor
set_option linter.unusedVariables false
set_option linter.unusedSimpArgs false
set_option maxRecDepth 100000
set_option maxHeartbeats 4000000
def btw (x a b : Int) : Bool := decide (a ≤ x) && decide (x ≤ b)
def letter (c : Int) : Bool := btw c 97 122 || btw c 65 90
def wordc (c : Int) : Bool := letter c || btw c 48 57 || c == 95
theorem g72 (c : Int) : ∃ v, G72 c = some v ∧ (v == 2) = letter c ∧ (v == 2 || v == 3 || v == 5) = wordc c := by
  unfold G72 F72 G85 wordc letter btw
  cases (decide (97 ≤ c)) <;> cases (decide (c ≤ 122)) <;> cases (decide (65 ≤ c)) <;> cases (decide (c ≤ 90)) <;> first
    | exact ⟨2, rfl, rfl, rfl⟩
    | (cases (decide (48 ≤ c)) <;> cases (decide (c ≤ 57)) <;> first
        | exact ⟨3, rfl, rfl, rfl⟩
        | (cases (c == 95) <;> first
            | exact ⟨5, rfl, rfl, rfl⟩
            | (cases (c == 32) <;> cases (c == 9) <;> cases (c == 10) <;> cases (c == 13) <;> first
                | exact ⟨1, rfl, rfl, rfl⟩
                | (simp only [Option.bind_some, cond_false, cond_true]
                   cases decide (0 ≤ Lib.indexByte (ByteArray.mk #[123, 125, 40, 41, 59, 44, 61, 58, 46, 60, 62, 33, 43, 45, 42, 47]).data.toList c.toNat.toUInt8)
                   · exact ⟨0, rfl, rfl, rfl⟩
                   · exact ⟨4, rfl, rfl, rfl⟩))))
theorem empty_eq (s : ByteArray) : strEq s (ByteArray.mk #[]) = decide ((s.size : Int) < 1) := by
  rw [Bool.eq_iff_iff]
  unfold strEq
  simp only [beq_iff_eq, decide_eq_true_eq]
  constructor
  · intro h
    have h0 : s.data.toList = [] := by
      have e : s.toList = s.data.toList := by first | exact ByteArray.toList_eq .. | exact ByteArray.toList_data .. | simp [ByteArray.toList]
      have e2 : (ByteArray.mk #[]).toList = [] := by decide +kernel
      rw [← e, h, e2]
    have h1 : s.data.size = 0 := by rw [← Array.length_toList, h0]; rfl
    have h2 : s.size = 0 := h1
    omega
  · intro h
    have h0 : s.size = 0 := by omega
    obtain ⟨d⟩ := s
    have : d.size = 0 := h0
    rw [Array.eq_empty_of_size_eq_zero this]
theorem out_btw (x a b : Int) : (bif decide (x < a) then (some true) else (some (decide (b < x)))) = some (!btw x a b) := by
  unfold btw
  by_cases h1 : a ≤ x
  · rw [decide_eq_true h1, decide_eq_false (show ¬ x < a by omega)]
    by_cases h2 : x ≤ b
    · rw [decide_eq_true h2, decide_eq_false (show ¬ b < x by omega)]; rfl
    · rw [decide_eq_false h2, decide_eq_true (show b < x by omega)]; rfl
  · rw [decide_eq_false h1, decide_eq_true (show x < a by omega)]; rfl
theorem g44_s (n : Nat) (a b : Int) (l : List Int) (c x : Int) (m : Nat) (i : Int) (h1 : i < c) (h2 : getI l i = some x) : F44_44_0 n a b false l c (m + 1) i = bif btw x a b then F44_44_0 n a b false l c m (wr .i64 (i + 1)) else some (.inl false) := by
  show (bif decide (i < c) then _ else _) = _
  rw [decide_eq_true h1, h2]
  simp only [cond_true, Option.bind_some, out_btw]
  cases btw x a b <;> rfl
theorem g44_1 (a b x : Int) : G44 a b [x] = some (btw x a b) := by
  unfold G44 F44
  rw [show fuel0 + 8 = fuel0 + 7 + 1 from rfl, g44_s (x := x) (h1 := by simp only [List.length_cons, List.length_nil]; decide) (h2 := rfl)]
  cases btw x a b <;> rfl
theorem g44_3 (a b x y z : Int) : G44 a b [x, y, z] = some (btw x a b && btw y a b && btw z a b) := by
  unfold G44 F44
  rw [show fuel0 + 8 = fuel0 + 5 + 1 + 1 + 1 from rfl, g44_s (x := x) (h1 := by simp only [List.length_cons, List.length_nil]; decide) (h2 := rfl)]
  cases btw x a b with
  | false => rfl
  | true =>
    rw [cond_true, show wr .i64 ((0 : Int) + 1) = 1 from rfl, g44_s (x := y) (h1 := by simp only [List.length_cons, List.length_nil]; decide) (h2 := rfl)]
    cases btw y a b with
    | false => rfl
    | true =>
      rw [cond_true, show wr .i64 ((1 : Int) + 1) = 2 from rfl, g44_s (x := z) (h1 := by simp only [List.length_cons, List.length_nil]; decide) (h2 := rfl)]
      cases btw z a b <;> rfl
def restB (b : S_Body) : Bool := (btw b.Weight 1 500) && (btw b.Lift 0 500) && (btw b.Girth 1 4) && (btw b.Step 1 16) && (btw b.Jump 0 16) && (btw b.Reach.1 1 8 && btw b.Reach.2.1 1 8 && btw b.Reach.2.2 1 8) && (btw b.Speed.1 1 1048576 && btw b.Speed.2.1 1 1048576 && btw b.Speed.2.2 1 1048576) && (btw b.Top.1 1 3 && btw b.Top.2.1 1 3 && btw b.Top.2.2 1 3) && (btw b.Effort 0 1048576) && (btw b.Recover 0 1048576)
theorem r73_0 (n : Nat) (b : S_Body) (m : Nat) : F23_23_1 n 0 6 0 3 b 73 1 3 2 (m + 1) 0 = Option.bind (G44 1 3 [b.Top.1]) fun y => bif !y then some (.inl (250, 73)) else F23_23_1 n 0 6 0 3 b 73 1 3 2 m 1 := by kernel_rfl
theorem r73_1 (n : Nat) (b : S_Body) (m : Nat) : F23_23_1 n 0 6 0 3 b 73 1 3 2 (m + 1) 1 = Option.bind (G44 1 3 [b.Top.2.1]) fun y => bif !y then some (.inl (250, 73)) else F23_23_1 n 0 6 0 3 b 73 1 3 2 m 2 := by kernel_rfl
theorem r73_2 (n : Nat) (b : S_Body) (m : Nat) : F23_23_1 n 0 6 0 3 b 73 1 3 2 (m + 1) 2 = Option.bind (G44 1 3 [b.Top.2.2]) fun y => bif !y then some (.inl (250, 73)) else F23_23_1 n 0 6 0 3 b 73 1 3 2 m 3 := by kernel_rfl
theorem r73 (n : Nat) (b : S_Body) (m : Nat) : F23_23_1 n 0 6 0 3 b 73 1 3 2 (m + 4) 0 = bif btw b.Top.1 1 3 && btw b.Top.2.1 1 3 && btw b.Top.2.2 1 3 then some (.inr 73) else some (.inl (250, 73)) := by
  rw [show m + 4 = m + 3 + 1 from rfl, r73_0, g44_1, Option.bind_some]
  cases btw b.Top.1 1 3 with
  | false => rfl
  | true =>
    rw [Bool.not_true, cond_false, show m + 3 = m + 2 + 1 from rfl, r73_1, g44_1, Option.bind_some]
    cases btw b.Top.2.1 1 3 with
    | false => rfl
    | true =>
      rw [Bool.not_true, cond_false, show m + 2 = m + 1 + 1 from rfl, r73_2, g44_1, Option.bind_some]
      cases btw b.Top.2.2 1 3 with
      | false => rfl
      | true =>
        show _ = _; kernel_rfl
theorem r74_0 (n : Nat) (b : S_Body) (m : Nat) : F23_23_1 n 0 6 1 3 b 74 1 1048576 2 (m + 1) 0 = Option.bind (G44 1 1048576 [b.Speed.1]) fun y => bif !y then some (.inl (250, 74)) else F23_23_1 n 0 6 1 3 b 74 1 1048576 2 m 1 := by kernel_rfl
theorem r74_1 (n : Nat) (b : S_Body) (m : Nat) : F23_23_1 n 0 6 1 3 b 74 1 1048576 2 (m + 1) 1 = Option.bind (G44 1 1048576 [b.Speed.2.1]) fun y => bif !y then some (.inl (250, 74)) else F23_23_1 n 0 6 1 3 b 74 1 1048576 2 m 2 := by kernel_rfl
theorem r74_2 (n : Nat) (b : S_Body) (m : Nat) : F23_23_1 n 0 6 1 3 b 74 1 1048576 2 (m + 1) 2 = Option.bind (G44 1 1048576 [b.Speed.2.2]) fun y => bif !y then some (.inl (250, 74)) else F23_23_1 n 0 6 1 3 b 74 1 1048576 2 m 3 := by kernel_rfl
theorem r74 (n : Nat) (b : S_Body) (m : Nat) : F23_23_1 n 0 6 1 3 b 74 1 1048576 2 (m + 4) 0 = bif btw b.Speed.1 1 1048576 && btw b.Speed.2.1 1 1048576 && btw b.Speed.2.2 1 1048576 then some (.inr 74) else some (.inl (250, 74)) := by
  rw [show m + 4 = m + 3 + 1 from rfl, r74_0, g44_1, Option.bind_some]
  cases btw b.Speed.1 1 1048576 with
  | false => rfl
  | true =>
    rw [Bool.not_true, cond_false, show m + 3 = m + 2 + 1 from rfl, r74_1, g44_1, Option.bind_some]
    cases btw b.Speed.2.1 1 1048576 with
    | false => rfl
    | true =>
      rw [Bool.not_true, cond_false, show m + 2 = m + 1 + 1 from rfl, r74_2, g44_1, Option.bind_some]
      cases btw b.Speed.2.2 1 1048576 with
      | false => rfl
      | true =>
        show _ = _; kernel_rfl
theorem r75_0 (n : Nat) (b : S_Body) (m : Nat) : F23_23_1 n 0 6 2 1 b 75 1 16 0 (m + 1) 0 = Option.bind (G44 1 16 [b.Step]) fun y => bif !y then some (.inl (250, 75)) else F23_23_1 n 0 6 2 1 b 75 1 16 0 m 1 := by kernel_rfl
theorem r75 (n : Nat) (b : S_Body) (m : Nat) : F23_23_1 n 0 6 2 1 b 75 1 16 0 (m + 4) 0 = bif btw b.Step 1 16 then some (.inr 75) else some (.inl (250, 75)) := by
  rw [show m + 4 = m + 3 + 1 from rfl, r75_0, g44_1, Option.bind_some]
  cases btw b.Step 1 16 with
  | false => rfl
  | true =>
    show _ = _; kernel_rfl
theorem r76_0 (n : Nat) (b : S_Body) (m : Nat) : F23_23_1 n 0 6 3 1 b 76 0 16 0 (m + 1) 0 = Option.bind (G44 0 16 [b.Jump]) fun y => bif !y then some (.inl (250, 76)) else F23_23_1 n 0 6 3 1 b 76 0 16 0 m 1 := by kernel_rfl
theorem r76 (n : Nat) (b : S_Body) (m : Nat) : F23_23_1 n 0 6 3 1 b 76 0 16 0 (m + 4) 0 = bif btw b.Jump 0 16 then some (.inr 76) else some (.inl (250, 76)) := by
  rw [show m + 4 = m + 3 + 1 from rfl, r76_0, g44_1, Option.bind_some]
  cases btw b.Jump 0 16 with
  | false => rfl
  | true =>
    show _ = _; kernel_rfl
theorem r77_0 (n : Nat) (b : S_Body) (m : Nat) : F23_23_1 n 0 6 4 1 b 77 0 500 0 (m + 1) 0 = Option.bind (G44 0 500 [b.Lift]) fun y => bif !y then some (.inl (250, 77)) else F23_23_1 n 0 6 4 1 b 77 0 500 0 m 1 := by kernel_rfl
theorem r77 (n : Nat) (b : S_Body) (m : Nat) : F23_23_1 n 0 6 4 1 b 77 0 500 0 (m + 4) 0 = bif btw b.Lift 0 500 then some (.inr 77) else some (.inl (250, 77)) := by
  rw [show m + 4 = m + 3 + 1 from rfl, r77_0, g44_1, Option.bind_some]
  cases btw b.Lift 0 500 with
  | false => rfl
  | true =>
    show _ = _; kernel_rfl
theorem r78_0 (n : Nat) (b : S_Body) (m : Nat) : F23_23_1 n 0 6 5 1 b 78 0 1048576 0 (m + 1) 0 = Option.bind (G44 0 1048576 [b.Effort]) fun y => bif !y then some (.inl (250, 78)) else F23_23_1 n 0 6 5 1 b 78 0 1048576 0 m 1 := by kernel_rfl
theorem r78 (n : Nat) (b : S_Body) (m : Nat) : F23_23_1 n 0 6 5 1 b 78 0 1048576 0 (m + 4) 0 = bif btw b.Effort 0 1048576 then some (.inr 78) else some (.inl (250, 78)) := by
  rw [show m + 4 = m + 3 + 1 from rfl, r78_0, g44_1, Option.bind_some]
  cases btw b.Effort 0 1048576 with
  | false => rfl
  | true =>
    show _ = _; kernel_rfl
theorem q73 (n : Nat) (b : S_Body) (m : Nat) : F23_23_0 n 0 6 b (m + 1) 0 = bif btw b.Top.1 1 3 && btw b.Top.2.1 1 3 && btw b.Top.2.2 1 3 then F23_23_0 n 0 6 b m 1 else some (.inl (250, 73, 1, 3, 2)) := by
  refine Eq.trans (b := Option.bind (F23_23_1 n 0 6 0 3 b 73 1 3 2 (n + 4 + 4) 0) fun o => match o with | .inl (y91, y92) => some (.inl (y91, y92, 1, 3, 2)) | .inr _ => F23_23_0 n 0 6 b m 1) (by kernel_rfl) ?_
  rw [r73]
  cases (btw b.Top.1 1 3 && btw b.Top.2.1 1 3 && btw b.Top.2.2 1 3) <;> rfl
theorem q74 (n : Nat) (b : S_Body) (m : Nat) : F23_23_0 n 0 6 b (m + 1) 1 = bif btw b.Speed.1 1 1048576 && btw b.Speed.2.1 1 1048576 && btw b.Speed.2.2 1 1048576 then F23_23_0 n 0 6 b m 2 else some (.inl (250, 74, 1, 1048576, 2)) := by
  refine Eq.trans (b := Option.bind (F23_23_1 n 0 6 1 3 b 74 1 1048576 2 (n + 4 + 4) 0) fun o => match o with | .inl (y91, y92) => some (.inl (y91, y92, 1, 1048576, 2)) | .inr _ => F23_23_0 n 0 6 b m 2) (by kernel_rfl) ?_
  rw [r74]
  cases (btw b.Speed.1 1 1048576 && btw b.Speed.2.1 1 1048576 && btw b.Speed.2.2 1 1048576) <;> rfl
theorem q75 (n : Nat) (b : S_Body) (m : Nat) : F23_23_0 n 0 6 b (m + 1) 2 = bif btw b.Step 1 16 then F23_23_0 n 0 6 b m 3 else some (.inl (250, 75, 1, 16, 0)) := by
  refine Eq.trans (b := Option.bind (F23_23_1 n 0 6 2 1 b 75 1 16 0 (n + 4 + 4) 0) fun o => match o with | .inl (y91, y92) => some (.inl (y91, y92, 1, 16, 0)) | .inr _ => F23_23_0 n 0 6 b m 3) (by kernel_rfl) ?_
  rw [r75]
  cases (btw b.Step 1 16) <;> rfl
theorem q76 (n : Nat) (b : S_Body) (m : Nat) : F23_23_0 n 0 6 b (m + 1) 3 = bif btw b.Jump 0 16 then F23_23_0 n 0 6 b m 4 else some (.inl (250, 76, 0, 16, 0)) := by
  refine Eq.trans (b := Option.bind (F23_23_1 n 0 6 3 1 b 76 0 16 0 (n + 4 + 4) 0) fun o => match o with | .inl (y91, y92) => some (.inl (y91, y92, 0, 16, 0)) | .inr _ => F23_23_0 n 0 6 b m 4) (by kernel_rfl) ?_
  rw [r76]
  cases (btw b.Jump 0 16) <;> rfl
theorem q77 (n : Nat) (b : S_Body) (m : Nat) : F23_23_0 n 0 6 b (m + 1) 4 = bif btw b.Lift 0 500 then F23_23_0 n 0 6 b m 5 else some (.inl (250, 77, 0, 500, 0)) := by
  refine Eq.trans (b := Option.bind (F23_23_1 n 0 6 4 1 b 77 0 500 0 (n + 4 + 4) 0) fun o => match o with | .inl (y91, y92) => some (.inl (y91, y92, 0, 500, 0)) | .inr _ => F23_23_0 n 0 6 b m 5) (by kernel_rfl) ?_
  rw [r77]
  cases (btw b.Lift 0 500) <;> rfl
theorem q78 (n : Nat) (b : S_Body) (m : Nat) : F23_23_0 n 0 6 b (m + 1) 5 = bif btw b.Effort 0 1048576 then F23_23_0 n 0 6 b m 6 else some (.inl (250, 78, 0, 1048576, 0)) := by
  refine Eq.trans (b := Option.bind (F23_23_1 n 0 6 5 1 b 78 0 1048576 0 (n + 4 + 4) 0) fun o => match o with | .inl (y91, y92) => some (.inl (y91, y92, 0, 1048576, 0)) | .inr _ => F23_23_0 n 0 6 b m 6) (by kernel_rfl) ?_
  rw [r78]
  cases (btw b.Effort 0 1048576) <;> rfl
theorem g45 : G45 = some () := by kernel_rfl
theorem g23 (b : S_Body) : G23 b = (G43 b.Name).bind fun y => some (bif y && restB b then 0 else 250) := by
  unfold G23 F23 restB
  simp only [g44_1, g44_3, g45, Option.bind_some, show fuel0 + 8 = fuel0 + 2 + 1 + 1 + 1 + 1 + 1 + 1 from rfl, q73, q74, q75, q76, q77, q78]
  cases G43 b.Name with
  | none => rfl
  | some y =>
    cases y with
    | false => rfl
    | true =>
      cases (btw b.Weight 1 500) with
      | false => show some (250 : Int) = _; simp
      | true =>
        cases (btw b.Girth 1 4) with
        | false => show some (250 : Int) = _; simp
        | true =>
          cases (btw b.Reach.1 1 8 && btw b.Reach.2.1 1 8 && btw b.Reach.2.2 1 8) with
          | false => show some (250 : Int) = _; simp
          | true =>
            cases (btw b.Recover 0 1048576) with
            | false => show some (250 : Int) = _; simp
            | true =>
              cases (btw b.Top.1 1 3 && btw b.Top.2.1 1 3 && btw b.Top.2.2 1 3) with
              | false => show some (250 : Int) = _; simp
              | true =>
                cases (btw b.Speed.1 1 1048576 && btw b.Speed.2.1 1 1048576 && btw b.Speed.2.2 1 1048576) with
                | false => show some (250 : Int) = _; simp
                | true =>
                  cases (btw b.Step 1 16) with
                  | false => show some (250 : Int) = _; simp
                  | true =>
                    cases (btw b.Jump 0 16) with
                    | false => show some (250 : Int) = _; simp
                    | true =>
                      cases (btw b.Lift 0 500) with
                      | false => show some (250 : Int) = _; simp
                      | true =>
                        cases (btw b.Effort 0 1048576) with
                        | false => show some (250 : Int) = _; simp
                        | true =>
                          show _ = _; kernel_rfl
end Go.Proofs.YtooamdacfhfjoaaDoor
