/-
 Layer 01, in plain Lean: the check.
-/
import Derived.Test.YtmjaehondldaaaaP0
namespace Go.Proofs.Ytmjaehondldaaaa
set_option linter.unusedVariables false
set_option linter.unusedSimpArgs false
set_option maxRecDepth 100000
set_option maxHeartbeats 4000000
def emp (s : ByteArray) : Bool := strEq s (ByteArray.mk #[])
mutual
def frm : S_Value -> Bool
 | .mk k n s l => bif k == 1 then emp s && ((l.length : Int) == 0) else bif k == 2 then (n == 0) && ((l.length : Int) == 0) else bif k == 3 then frms l && ((n == 0) && emp s) else false
def frms : List S_Value -> Bool
 | [] => true
 | x :: r => frm x && frms r
end
mutual
def dep : S_Value -> Nat
 | .mk k _ _ l => bif k == 3 then deps l + 1 else 0
def deps : List S_Value -> Nat
 | [] => 0
 | x :: r => max (dep x) (deps r)
end
theorem frm_eq (v : S_Value) : frm v = bif v.Kind == 1 then emp v.S && ((v.L.length : Int) == 0) else bif v.Kind == 2 then (v.N == 0) && ((v.L.length : Int) == 0) else bif v.Kind == 3 then frms v.L && ((v.N == 0) && emp v.S) else false := by cases v; rw [frm]
theorem dep_eq (v : S_Value) : dep v = bif v.Kind == 3 then deps v.L + 1 else 0 := by cases v; rw [dep]
theorem frms_nil : frms [] = true := by rw [frms]
theorem frms_cons (x : S_Value) (r : List S_Value) : frms (x :: r) = (frm x && frms r) := by rw [frms]
theorem deps_nil : deps [] = 0 := by rw [deps]
theorem deps_cons (x : S_Value) (r : List S_Value) : deps (x :: r) = max (dep x) (deps r) := by rw [deps]
mutual
theorem dep_nod : ∀ v : S_Value, dep v <= nod v
 | .mk k n s l => by
  rw [dep, nod]
  have := deps_nod l
  cases k == 3 <;> simp <;> omega
theorem deps_nod : ∀ l : List S_Value, deps l <= nods l
 | [] => by rw [deps_nil]; omega
 | x :: r => by
  rw [deps_cons, nods_cons]
  have := dep_nod x; have := deps_nod r; omega
end
def chk (v : S_Value) : Int := bif frm v then (bif decide (16 < dep v) then 2 else 0) else 1
theorem loop28 (self : S_Value -> Option (Int × Bool)) (n : Nat) (z : Bool) (v : S_Value) (w a b c d : Bool) (hn : nod v <= 1000000) (hself : ∀ e ∈ v.L, ∃ x, self e = some (x, frm e) /\ (frm e = true -> x = (dep e : Int))) :
  ∀ (k m i t : Nat), i + k = v.L.length -> k < m -> ∃ r, F28_28_0 self n z v.L (v.L.length : Int) v w a b c m (t : Int) (i : Int) = some r /\ (match r with | .inl p => frms (v.L.drop i) = false /\ p.1 = 0 /\ p.2.1 = false | .inr x => frms (v.L.drop i) = true /\ x = ((max t (deps (v.L.drop i)) : Nat) : Int))
 | 0, m, i, t, h1, h2 => by
  obtain ⟨m, rfl⟩ : ∃ q, m = q + 1 := ⟨m - 1, by omega⟩
  rw [F28_28_0, decide_eq_false (by omega), List.drop_eq_nil_iff.2 (by omega), frms_nil, deps_nil]
  exact ⟨_, rfl, rfl, by simp⟩
 | k + 1, m, i, t, h1, h2 => by
  obtain ⟨m, rfl⟩ : ∃ q, m = q + 1 := ⟨m - 1, by omega⟩
  have hi : i < v.L.length := by omega
  have hl := nods_len v.L
  rw [nod_eq] at hn
  obtain ⟨x, h3, h4⟩ := hself _ (List.getElem_mem hi)
  rw [F28_28_0, decide_eq_true (by omega), List.drop_eq_getElem_cons hi, frms_cons, deps_cons]
  simp only [cond_true, getI_nat, List.getElem?_eq_getElem hi, Option.bind_some, h3]
  cases hf : frm v.L[i] with
  | false => exact ⟨_, rfl, rfl, rfl, rfl⟩
  | true =>
   rw [h4 hf]
   simp only [Bool.not_true, cond_false, Bool.true_and]
   rw [wr64 (by omega) (by omega), show (i : Int) + 1 = ((i + 1 : Nat) : Int) by omega, show (if (t : Int) < (dep v.L[i] : Int) then (dep v.L[i] : Int) else (t : Int)) = ((max t (dep v.L[i]) : Nat) : Int) by split <;> omega]
   have := loop28 self n z v w a b c d (by rw [nod_eq]; exact hn) hself k m (i + 1) (max t (dep v.L[i])) (by omega) (by omega)
   rw [show max t (max (dep v.L[i]) (deps (v.L.drop (i + 1)))) = max (max t (dep v.L[i])) (deps (v.L.drop (i + 1))) by omega]
   exact this
theorem r28 : ∀ (q : Nat) (v : S_Value), nod v <= q -> nod v <= 1000000 -> ∃ x, R28 q v = some (x, frm v) /\ (frm v = true -> x = (dep v : Int))
 | 0, v, h, _ => by have := nod_pos v; omega
 | q + 1, v, h, hn => by
  have hl := nods_len v.L
  have hn' := hn
  rw [nod_eq] at hn' h
  obtain ⟨r, h1, h2⟩ := loop28 (R28 q) fuel0 false v false (emp v.S && ((v.L.length : Int) == 0)) ((v.N == 0) && ((v.L.length : Int) == 0)) ((v.N == 0) && emp v.S) false hn (fun e he => by
   have := nods_mem he
   exact r28 q e (by omega) (by omega)) v.L.length (fuel0 + 8) 0 0 (by omega) (by rw [fu]; omega)
  rw [show ((0 : Nat) : Int) = 0 from rfl] at h1
  rw [List.drop_zero] at h2
  show ∃ x, F28 (R28 q) fuel0 v = _ /\ _
  unfold F28
  rw [show (bif strEq v.S (ByteArray.mk #[]) then some ((v.L.length : Int) == 0) else some false) = some (emp v.S && ((v.L.length : Int) == 0)) from by unfold emp; cases strEq v.S (ByteArray.mk #[]) <;> rfl,
   show (bif v.N == 0 then some ((v.L.length : Int) == 0) else some false) = some ((v.N == 0) && ((v.L.length : Int) == 0)) from by cases v.N == 0 <;> rfl,
   show (bif v.N == 0 then some (strEq v.S (ByteArray.mk #[])) else some false) = some ((v.N == 0) && emp v.S) from by unfold emp; cases v.N == 0 <;> rfl]
  simp only [Option.bind_some]
  rw [frm_eq, dep_eq]
  by_cases k1 : v.Kind < 1
  ·rw [decide_eq_true k1]
   refine ⟨0, ?_, ?_⟩
   ·rw [show (v.Kind == 1) = false from by simp; omega, show (v.Kind == 2) = false from by simp; omega, show (v.Kind == 3) = false from by simp; omega]; rfl
   ·rw [show (v.Kind == 1) = false from by simp; omega, show (v.Kind == 2) = false from by simp; omega, show (v.Kind == 3) = false from by simp; omega]; intro h; cases h
  by_cases k2 : 3 < v.Kind
  ·rw [decide_eq_false k1, decide_eq_true k2]
   refine ⟨0, ?_, ?_⟩
   ·rw [show (v.Kind == 1) = false from by simp; omega, show (v.Kind == 2) = false from by simp; omega, show (v.Kind == 3) = false from by simp; omega]; rfl
   ·rw [show (v.Kind == 1) = false from by simp; omega, show (v.Kind == 2) = false from by simp; omega, show (v.Kind == 3) = false from by simp; omega]; intro h; cases h
  rw [decide_eq_false k1, decide_eq_false k2]
  simp only [cond_false, cond_true, Option.bind_some]
  rcases (show v.Kind = 1 ∨ v.Kind = 2 ∨ v.Kind = 3 by omega) with hk | hk | hk
  ·rw [hk]
   simp only [show decide ((1 : Int) = 0) = false from rfl, show decide ((1 : Int) = 1) = true from rfl, show decide ((1 : Int) < 3) = true from rfl, show ((1 : Int) == 1) = true from rfl, show ((1 : Int) == 3) = false from rfl, cond_false, cond_true, Option.bind_some]
   cases emp v.S && ((v.L.length : Int) == 0) with
   | false => exact ⟨0, rfl, fun h => by cases h⟩
   | true => exact ⟨0, rfl, fun _ => rfl⟩
  ·rw [hk]
   simp only [show decide ((2 : Int) = 0) = false from rfl, show decide ((2 : Int) = 1) = false from rfl, show decide ((2 : Int) = 2) = true from rfl, show decide ((2 : Int) < 3) = true from rfl, show ((2 : Int) == 1) = false from rfl, show ((2 : Int) == 2) = true from rfl, show ((2 : Int) == 3) = false from rfl, cond_false, cond_true, Option.bind_some]
   cases (v.N == 0) && ((v.L.length : Int) == 0) with
   | false => exact ⟨0, rfl, fun h => by cases h⟩
   | true => exact ⟨0, rfl, fun _ => rfl⟩
  ·rw [hk]
   simp only [show decide ((3 : Int) = 0) = false from rfl, show decide ((3 : Int) = 1) = false from rfl, show decide ((3 : Int) = 2) = false from rfl, show decide ((3 : Int) = 3) = true from rfl, show decide ((3 : Int) < 3) = false from rfl, show ((3 : Int) == 1) = false from rfl, show ((3 : Int) == 2) = false from rfl, show ((3 : Int) == 3) = true from rfl, cond_false, cond_true, Option.bind_some]
   cases hc : (v.N == 0) && emp v.S with
   | false => exact ⟨0, by simp, fun h => by simp at h⟩
   | true =>
    rw [hc] at h1
    simp only [Bool.not_true, cond_false, h1, Option.bind_some]
    cases r with
    | inl p =>
     obtain ⟨h3, h4, h5⟩ := h2
     obtain ⟨p1, p2, p3⟩ := p
     refine ⟨0, ?_, fun h => ?_⟩
     ·rw [h3]; simp only at h4 h5; subst h4; subst h5; rfl
     ·rw [h3] at h; cases h
    | inr x =>
     obtain ⟨h3, h4⟩ := h2
     have hd := deps_nod v.L
     refine ⟨_, by rw [h3]; rfl, fun _ => ?_⟩
     rw [h4, wr64 (by omega) (by omega)]
     omega
theorem g16 (v : S_Value) (hn : nod v <= 1000000) : G16 v = some (chk v) := by
 unfold G16 F16 G28
 obtain ⟨x, h1, h2⟩ := r28 fuel0 v (by rw [fu]; omega) hn
 rw [h1, Option.bind_some]
 unfold chk
 cases hf : frm v with
 | false => rfl
 | true =>
  rw [h2 hf]
  simp only [Bool.not_true, cond_false, cond_true]
  by_cases h : 16 < dep v
  ·rw [decide_eq_true h, decide_eq_true (by omega)]; rfl
  ·rw [decide_eq_false h, decide_eq_false (by omega)]; rfl
end Go.Proofs.Ytmjaehondldaaaa
