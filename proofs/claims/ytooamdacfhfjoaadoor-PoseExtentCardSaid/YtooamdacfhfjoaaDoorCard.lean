/-
  Layer 26: the frame of a card's proof: what the listed variable holds; the row; the card.
-/
import Derived.Test.YtooamdacfhfjoaaDoorAs
import Derived.Test.YtooamdacfhfjoaaDoorEvLaw
import Derived.Test.YtooamdacfhfjoaaDoorRows
import Derived.LaidMore
import Derived.Stop.Joined
namespace Go.Proofs.YtooamdacfhfjoaaDoor
set_option linter.unusedVariables false
set_option linter.unusedSimpArgs false
open Go.RowKit Go.ChangeShapes Go.WideShapes Go.ChangeAt Go.Deep
theorem own : ownKnob Tryd.prog.godebug = none := by kernel_rfl
theorem laidOut : laidOutB Tryd.prog = true := by kernel_rfl
def flatL : List (String × DataW Unit) := [("kinesphere/space.flat", Rows.laid_kinesphere_space_flat)]
def pair (a b : Int) : List Value := [.int .i64 a, .int .i64 b]
def flatV : List Value := [pair 0 29, pair 20 21, pair 29 0, pair 20 (-21), pair 0 (-29), pair (-20) (-21), pair (-29) 0, pair (-20) 21].flatten
theorem gFlat : Tryd.prog.globalNamed "kinesphere/space.flat" = some 0 := by kernel_rfl
theorem tFlat : (Tryd.prog.globals[0]?).map (·.type) = some 116 := by kernel_rfl
theorem litPair {H : Type} (a b : Int) : LitReads (H := H) Tryd.prog 58 (.agg [.lit (.int .i64 a), .lit (.int .i64 b)]) (pair a b) := by
  refine litReads_array (ds := [_, _]) (vss := [[.int .i64 a], [.int .i64 b]]) Tryd.underlying58 (by kernel_rfl) rfl fun i d vs hd hv => ?_
  match i, hd, hv with
  | 0, hd, hv => cases hd; cases hv; exact litReads_int Tryd.underlying3
  | 1, hd, hv => cases hd; cases hv; exact litReads_int Tryd.underlying3
theorem litFlat {H : Type} : LitReads (H := H) Tryd.prog 116 Rows.laid_kinesphere_space_flat flatV := by
  refine litReads_array (vss := [pair 0 29, pair 20 21, pair 29 0, pair 20 (-21), pair 0 (-29), pair (-20) (-21), pair (-29) 0, pair (-20) 21]) Tryd.underlying116 (by kernel_rfl) rfl fun i d vs hd hv => ?_
  match i, hd, hv with
  | 0, hd, hv => cases hd; cases hv; exact litPair _ _
  | 1, hd, hv => cases hd; cases hv; exact litPair _ _
  | 2, hd, hv => cases hd; cases hv; exact litPair _ _
  | 3, hd, hv => cases hd; cases hv; exact litPair _ _
  | 4, hd, hv => cases hd; cases hv; exact litPair _ _
  | 5, hd, hv => cases hd; cases hv; exact litPair _ _
  | 6, hd, hv => cases hd; cases hv; exact litPair _ _
  | 7, hd, hv => cases hd; cases hv; exact litPair _ _
theorem of_laid {W : World} (h : laidMetH Tryd.prog flatL W) : ∀ (j : Nat) (v : Value), flatV[j]? = some v → W.cell? ⟨0, j, none⟩ = some v := by
  rw [MakeChecks.laidMetH_plain _ _ _ (by kernel_rfl)] at h
  obtain ⟨ps, ⟨g0, t0, cs0, f0, p0, q0, hg0, ht0, hv0, hd0, _, _⟩, _, _⟩ := h
  obtain rfl := Option.some.inj (gFlat.symm.trans hg0)
  obtain rfl := Option.some.inj (tFlat.symm.trans ht0)
  have e := litFlat _ _ _ _ _ _ _ hd0
  intro j v hj
  have hc := World.var?_cell hg0 hv0 j
  rw [hc, ← hj, ← e]
  simp
theorem glob_of {W : World} (h : laidMetH Tryd.prog flatL W) : ∀ (G : Nat) (vs : List Value), (cx C0).glob G = some vs → ∀ (j : Nat) (v : Value), vs[j]? = some v → W.cell? ⟨G, j, none⟩ = some v := by
  intro G vs hG j v hj
  have hG : (if G = 0 then some flatV else none) = some vs := hG
  split at hG
  · rename_i e; subst e; cases hG; exact of_laid h j v hj
  · cases hG
theorem door_met (os : Os) (args : Array Value) : laidMetH Tryd.prog flatL ((World.doorLaid Tryd.prog 22 os).forCall (fun _ _ => 0) ⟨#[], args, []⟩).memory :=
  laidMetH_of_parts3 (fuel := 8) (laidMet_of_run' 8 (by kernel_rfl) (by kernel_rfl)) (by kernel_rfl) (by kernel_rfl)
end Go.Proofs.YtooamdacfhfjoaaDoor
