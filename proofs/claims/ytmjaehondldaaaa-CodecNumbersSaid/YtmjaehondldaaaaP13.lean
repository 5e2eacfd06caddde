/-
 Layer 01, in plain Lean: Lists and Numbers.
-/
import Derived.Test.YtmjaehondldaaaaP12
namespace Go.Proofs.Ytmjaehondldaaaa
set_option linter.unusedVariables false
set_option linter.unusedSimpArgs false
set_option maxRecDepth 100000
set_option maxHeartbeats 4000000
theorem g23 (n : Int) : G23 n = some (.mk 1 n ByteArray.empty []) := rfl
theorem numv_frm (n : Int) : frm (.mk 1 n ByteArray.empty []) = true := by
 rw [frm_eq]
 simp only [show ((1 : Int) == 1) = true from rfl, cond_true, emp_eq.2]
 rfl
theorem numv_dep (n : Int) : dep (.mk 1 n ByteArray.empty []) = 0 := by
 rw [dep_eq]; rfl
theorem numv_chk (n : Int) : chk (.mk 1 n ByteArray.empty []) = 0 := by
 unfold chk
 rw [numv_frm, numv_dep]; rfl
theorem numv_ok {n : Int} (h : In64 n) : ok_S_Value (.mk 1 n ByteArray.empty []) := (okq_S_Value _).2 ⟨⟨by simp, by simp⟩, h, by simp, by simp, fun _ h => absurd h List.not_mem_nil⟩
theorem numv_nod (n : Int) : nod (.mk 1 n ByteArray.empty []) = 1 := by
 rw [nod_eq]
 show 1 + ByteArray.empty.size / 200 + nods [] = 1
 rw [nods_nil]; rfl
theorem numv_enc (n : Int) : encV (.mk 1 n ByteArray.empty []) = 1 :: num (zig n) := by rw [encV_eq]; rfl
theorem num_mono : ∀ (k m n : Nat), n < 128 ^ k -> m <= n -> (num m).length <= (num n).length
 | 0, m, n, h, hm => by
  have h : n < 1 := h
  rw [show m = n by omega]; omega
 | k + 1, m, n, h, hm => by
  by_cases h1 : m < 128
  ·rw [num_lt h1]; exact num_pos n
  ·have hq : n / 128 < 128 ^ k := by rw [Nat.div_lt_iff_lt_mul (by decide)]; rw [Nat.pow_succ] at h; exact h
   rw [num_ge h1, num_ge (show ¬ n < 128 by omega), List.length_cons, List.length_cons]
   have := num_mono k (m / 128) (n / 128) hq (by omega)
   omega
theorem pure9 : Pure9 := by
 intro a b ha hb
 unfold G9 F9
 rw [sane10, Option.bind_some]
 simp only [Bool.not_true, cond_false, g23, Option.bind_some]
 have e : ∀ n, In64 n -> G14 (.mk 1 n ByteArray.empty []) = some ((((num (zig n)).length + 1 : Nat) : Int), 0) := fun n h => by
  rw [g14 _ (numv_ok h) (by rw [numv_nod]; omega), encR_0 (numv_chk n), numv_enc, List.length_cons]
 have pa := num_pos (zig a)
 have pb := num_pos (zig b)
 have qa := num_10 (zig_lt ha)
 have qb := num_10 (zig_lt hb)
 rw [e a ha, e b hb]
 simp only [Option.bind_some]
 rw [show ((0 : Int) != 0) = false from rfl]
 simp only [cond_false, Option.bind_some]
 rw [decide_eq_false (show ¬ ((((num (zig a)).length + 1 : Nat) : Int) < 2) by omega), decide_eq_false (show ¬ (11 < (((num (zig a)).length + 1 : Nat) : Int)) by omega), decide_eq_false (show ¬ ((((num (zig b)).length + 1 : Nat) : Int) < 2) by omega), decide_eq_false (show ¬ (11 < (((num (zig b)).length + 1 : Nat) : Int)) by omega)]
 simp only [cond_false, Option.bind_some]
 have m1 : (Option.bind (bif decide (0 <= a) then some (decide (a <= b)) else some false) fun y29 => bif y29 then some (decide ((((num (zig b)).length + 1 : Nat) : Int) < (((num (zig a)).length + 1 : Nat) : Int))) else some false) = some false := by
  by_cases h1 : 0 <= a
  ·by_cases h2 : a <= b
   ·have := num_mono 10 (zig a) (zig b) (p10 (zig_lt hb)) (by unfold zig; rw [if_pos h1, if_pos (by omega)]; omega)
    rw [decide_eq_true h1, decide_eq_true h2, decide_eq_false (show ¬ ((((num (zig b)).length + 1 : Nat) : Int) < (((num (zig a)).length + 1 : Nat) : Int)) by omega)]; rfl
   ·rw [decide_eq_true h1, decide_eq_false h2]; rfl
  ·rw [decide_eq_false h1]; rfl
 have m2 : (Option.bind (bif decide (a < 0) then some (decide (b <= a)) else some false) fun y40 => Option.bind (bif y40 then some (decide ((((num (zig b)).length + 1 : Nat) : Int) < (((num (zig a)).length + 1 : Nat) : Int))) else some false) fun y45 => some y45) = some false := by
  by_cases h1 : a < 0
  ·by_cases h2 : b <= a
   ·have := num_mono 10 (zig a) (zig b) (p10 (zig_lt hb)) (by unfold zig; rw [if_neg (by omega), if_neg (by omega)]; omega)
    rw [decide_eq_true h1, decide_eq_true h2, decide_eq_false (show ¬ ((((num (zig b)).length + 1 : Nat) : Int) < (((num (zig a)).length + 1 : Nat) : Int)) by omega)]; rfl
   ·rw [decide_eq_true h1, decide_eq_false h2]; rfl
  ·rw [decide_eq_false h1]; rfl
 have key : (Option.bind (bif decide (0 <= a) then some (decide (a <= b)) else some false) fun y29 => Option.bind (bif y29 then some (decide ((((num (zig b)).length + 1 : Nat) : Int) < (((num (zig a)).length + 1 : Nat) : Int))) else some false) fun y34 => Option.bind (bif y34 then some true else Option.bind (bif decide (a < 0) then some (decide (b <= a)) else some false) fun y40 => Option.bind (bif y40 then some (decide ((((num (zig b)).length + 1 : Nat) : Int) < (((num (zig a)).length + 1 : Nat) : Int))) else some false) fun y45 => some y45) fun y49 => some y49) = some false := by
  generalize (bif decide (0 <= a) then some (decide (a <= b)) else some false) = X at m1 ⊢
  cases X with
  | none => cases m1
  | some x =>
   simp only [Option.bind_some] at m1 ⊢
   rw [m1]
   simp only [Option.bind_some, cond_false]
   rw [m2]; rfl
 have fin : ∀ (Z : Option Bool), (Option.bind (bif decide (0 <= a) then some (decide (a <= b)) else some false) fun y29 => Option.bind (bif y29 then some (decide ((((num (zig b)).length + 1 : Nat) : Int) < (((num (zig a)).length + 1 : Nat) : Int))) else some false) fun y34 => Option.bind (bif y34 then some true else Option.bind (bif decide (a < 0) then some (decide (b <= a)) else some false) fun y40 => Option.bind (bif y40 then some (decide ((((num (zig b)).length + 1 : Nat) : Int) < (((num (zig a)).length + 1 : Nat) : Int))) else some false) fun y45 => some y45) fun y49 => bif y49 then some false else Z) = Z := by
  intro Z
  generalize (bif decide (0 <= a) then some (decide (a <= b)) else some false) = X at m1 ⊢
  cases X with
  | none => cases m1
  | some x =>
   simp only [Option.bind_some] at m1 ⊢
   rw [m1]
   simp only [Option.bind_some, cond_false]
   rw [m2]; rfl
 rw [fin]
 have hnum := numv_ok ha
 rw [g12 _ hnum (by rw [numv_nod]; omega), encR_0 (numv_chk a)]
 simp only [Option.bind_some]
 rw [g18 _ (by rw [numv_enc, List.length_cons]; omega), decR_enc (numv_chk a) hnum]
 simp only [Option.bind_some, show ((0 : Int) == 0) = true from rfl, cond_true, show ((1 : Int) == 1) = true from rfl, beq_self_eq_true, List.length_nil, show (((0 : Nat) : Int) == 0) = true from rfl]
 show some (emp ByteArray.empty) = _
 rw [emp_eq.2 rfl]
end Go.Proofs.Ytmjaehondldaaaa
