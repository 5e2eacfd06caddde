/-
 Layer 4, in plain Lean: DiskHistory, what a sync performs.
-/
import Derived.Test.YthoomfjliekbdaaP7
namespace Go.Proofs.Ythoomfjliekbdaa
set_option linter.unusedVariables false
set_option linter.unusedSimpArgs false
set_option maxRecDepth 100000
set_option maxHeartbeats 4000000
def fill (q : Q4) (ws : List S_kinespherelaw04_Act) : Q4 := ws.foldl (fun q a => set4 q (Int.tmod a.At 4) a.Byte) q
theorem fill_cons (q : Q4) (a : S_kinespherelaw04_Act) (ws : List S_kinespherelaw04_Act) : fill q (a :: ws) = fill (set4 q (Int.tmod a.At 4) a.Byte) ws := rfl
theorem mod4 {a : S_kinespherelaw04_Act} (ha : ok_S_kinespherelaw04_Act a) : Int.tmod a.At 4 = 0 ∨ Int.tmod a.At 4 = 1 ∨ Int.tmod a.At 4 = 2 ∨ Int.tmod a.At 4 = 3 := by
 have h1 : 0 <= Int.tmod a.At 4 := Int.tmod_nonneg _ ha.1.1
 have h2 : Int.tmod a.At 4 < 4 := Int.tmod_lt_of_pos _ (by omega)
 omega
theorem f61 (n : Nat) (v52 : List S_kinespherelaw04_Act) (v53 : Bool) (L : Nat) (v55 v56 : Int) (v57 : Bool) (v59 : S_Disk) (v60 v61 v62 v63 : Int) (ws : List S_kinespherelaw04_Act) (v73 : S_kinespherelaw04_Act) (v74 : S_Disk) (hl : ws.length <= 40) (hok : ∀ a ∈ ws, ok_S_kinespherelaw04_Act a) :
  ∀ (m i : Nat) (p q : Q4), i <= ws.length -> ws.length - i < m -> F6_6_1 n v52 v53 (L : Int) v55 v56 v57 v59 v60 v61 v62 v63 ws v73 v74 m (i : Int) p.1 p.2.1 p.2.2.1 p.2.2.2 q.1 q.2.1 q.2.2.1 q.2.2.2
   = some ((fill p ((ws.take (L + 1)).drop i)).1, (fill p ((ws.take (L + 1)).drop i)).2.1, (fill p ((ws.take (L + 1)).drop i)).2.2.1, (fill p ((ws.take (L + 1)).drop i)).2.2.2, (fill q ((ws.take L).drop i)).1, (fill q ((ws.take L).drop i)).2.1, (fill q ((ws.take L).drop i)).2.2.1, (fill q ((ws.take L).drop i)).2.2.2)
 | 0, i, _, _, _, h => absurd h (Nat.not_lt_zero _)
 | m + 1, i, p, q, hi, h => by
  rw [F6_6_1]
  have done : ¬ (i < ws.length /\ i <= L) -> (ws.take (L + 1)).drop i = [] /\ (ws.take L).drop i = [] := fun hc => ⟨List.drop_eq_nil_iff.2 (by rw [List.length_take]; omega), List.drop_eq_nil_iff.2 (by rw [List.length_take]; omega)⟩
  by_cases hlt : i < ws.length
  ·rw [dlt hlt]
   simp only [cond_true, Option.bind_some]
   by_cases hL : i <= L
   ·rw [show decide ((i : Int) <= (L : Int)) = true from decide_eq_true (by omega)]
    simp only [cond_true, getI_nat, List.getElem?_eq_getElem hlt, Option.bind_some]
    rw [wr64 (n := (i : Int) + 1) (by omega) (by omega), show (i : Int) + 1 = ((i + 1 : Nat) : Int) by omega]
    have e1 : (ws.take (L + 1)).drop i = ws[i] :: (ws.take (L + 1)).drop (i + 1) := by
     rw [List.drop_eq_getElem_cons (by rw [List.length_take]; omega), List.getElem_take]
    have e2' : i < L -> (ws.take L).drop i = ws[i] :: (ws.take L).drop (i + 1) := fun h => by
     rw [List.drop_eq_getElem_cons (by rw [List.length_take]; omega), List.getElem_take]
    have ih := fun p q => f61 n v52 v53 L v55 v56 v57 v59 v60 v61 v62 v63 ws v73 v74 hl hok m (i + 1) p q (by omega) (by omega)
    rw [e1, fill_cons]
    have ha := hok _ (List.getElem_mem hlt)
    generalize ws[i] = a at *
    by_cases hL2 : i < L
    ·rw [e2' hL2, fill_cons, dlt hL2]
     have ih := ih (set4 p (Int.tmod a.At 4) a.Byte) (set4 q (Int.tmod a.At 4) a.Byte)
     rcases mod4 ha with ht | ht | ht | ht <;> (rw [ht] at ih ⊢; exact ih)
    ·have e2 : (ws.take L).drop i = [] := List.drop_eq_nil_iff.2 (by rw [List.length_take]; omega)
     have e3 : (ws.take L).drop (i + 1) = [] := List.drop_eq_nil_iff.2 (by rw [List.length_take]; omega)
     rw [dnlt hL2]
     have ih := ih (set4 p (Int.tmod a.At 4) a.Byte) q
     rw [e3] at ih
     rw [e2]
     rcases mod4 ha with ht | ht | ht | ht <;> (rw [ht] at ih ⊢; exact ih)
   ·rw [show decide ((i : Int) <= (L : Int)) = false from decide_eq_false (by omega), (done (by omega)).1, (done (by omega)).2]
    rfl
  ·rw [dnlt hlt, (done (by omega)).1, (done (by omega)).2]
   rfl
end Go.Proofs.Ythoomfjliekbdaa
