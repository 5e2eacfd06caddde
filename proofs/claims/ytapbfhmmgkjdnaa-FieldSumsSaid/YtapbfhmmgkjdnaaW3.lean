/-
  Layer 9: the iterator over all points but one.
-/
import Derived.Test.YtapbfhmmgkjdnaaW2
import Derived.Test.YtapbfhmmgkjdnaaIter
import Derived.RangeFuncBound
import Derived.Shelf.Abstract
import Derived.Shelf.RegionOpen
import Derived.OwnWalkIn
import Derived.TacticsInMore
import Derived.LoopNIn
import Derived.LoopIn
namespace Go.Proofs.Ytapbfhmmgkjdnaa
open Go.RowKit Go.Shelf
attribute [local go_sem] Oper.semAt_some
def encPt (p : Int × Int) : Array Value := #[.agg #[.int .i64 p.1, .int .i64 p.2]]
/-- How many points have come when p of l have been looked at. -/
def came (i p : Nat) : Nat := if i < p then p - 1 else p
theorem came_get (l : List (Int × Int)) (i p : Nat) (hi : i < l.length) (hp : p < l.length) (h : p ≠ i) : ∃ hk : came i p < (l.eraseIdx i).length, (l.eraseIdx i)[came i p] = (pX l p, pY l p) := by
  have hl : (l.eraseIdx i).length = l.length - 1 := List.length_eraseIdx_of_lt hi
  unfold came pX pY
  rw [getD_at _ _ _ hp]
  by_cases e : i < p
  · simp only [if_pos e]
    refine ⟨by omega, ?_⟩
    rw [List.getElem_eraseIdx_of_ge (by rw [hl]; omega) (by omega)]
    congr 1
    simp only [show p - 1 + 1 = p by omega]
  · simp only [if_neg e]
    exact ⟨by omega, by rw [List.getElem_eraseIdx_of_lt (by omega) (by omega)]⟩
theorem came_step (i p : Nat) (h : p ≠ i) : came i (p + 1) = came i p + 1 := by unfold came; split <;> split <;> omega
theorem came_same (p : Nat) : came p (p + 1) = came p p := by unfold came; rw [if_pos (by omega), if_neg (by omega)]; omega
theorem came_end (l : List (Int × Int)) (i : Nat) (hi : i < l.length) : came i l.length = (l.eraseIdx i).length := by rw [List.length_eraseIdx_of_lt hi]; unfold came; rw [if_pos hi]

set_option maxHeartbeats 1000000 in
theorem others_iter (l : List (Int × Int)) (v : Value) (i bl bi n₀ : Nat) (w0 : World) (hi : i < l.length) (T : Nat → Prop) (hT : ∀ k, k < n₀ → T k) (hs : SliceOf lPt n₀ w0 v l) (_hbl : T bl) (hbi : T bi) (hn : n₀ ≤ w0.heap.size)
    (hcl : w0.cell? ⟨bl, 0, none⟩ = some v) (hci : w0.cell? ⟨bi, 0, none⟩ = some (.int .i64 i)) :
    Iter Try.prog 28 #[.pointer (some ⟨bl, 0, none⟩), .pointer (some ⟨bi, 0, none⟩)] encPt (l.eraseIdx i) (KeepsOn T) w0 := by
  intro F n l0 J Jx W hWF hro hb0 hJ hJx hY h0
  have hs1 := hs.stab (Keeps.of_below hb0 hn)
  obtain ⟨a, cap, rfl, hm, hx⟩ := hs1.pts
  have hcl1 := (hb0.cell (p := ⟨bl, 0, none⟩) (World.block_lt_of_cell? w0 _ hcl)).trans hcl
  have hci1 := (hb0.cell (p := ⟨bi, 0, none⟩) (World.block_lt_of_cell? w0 _ hci)).trans hci
  have hsz := hb0.size
  clear hs hcl hci hs1
  refine callsIn_of_wp Try.func28 rfl (hWF.2 _) ?_ hro
  simp only [Try.ntmps28, List.size_toArray, List.length_cons, List.length_nil, Nat.reduceAdd, Nat.reduceSub, Array.replicate_succ, Array.replicate_zero, List.push_toArray, List.append_toArray, List.nil_append, List.cons_append]
  gi_wp2
  gi_loopw [8] (fun j wr => ∃ p : Nat, j = .int .i64 p ∧ p ≤ l.length ∧ J (came i p) wr ∧ KeepsOn T W wr) (fun j _ => l.length - (intOf j).toNat)
  case atStart => exact ⟨0, rfl, by omega, h0, KeepsOn.refl _ _⟩
  case round =>
    obtain ⟨p, rfl, hp, hj, hk⟩ := hrel
    by_cases hlt : p < l.length
    · obtain ⟨b, off, rfl, hb, hc⟩ := hx (by omega)
      have hcx := cell_keepsOn hk (a := ⟨b, off + p * 2, none⟩) (hT _ hb) (hc p hlt).1
      have hcy := cell_keepsOn hk (a := ⟨b, off + p * 2 + 1, none⟩) (hT _ hb) (hc p hlt).2
      have hci2 := cell_keepsOn hk (a := ⟨bi, 0, none⟩) hbi hci1
      clear hc hx hcl1 hci1
      have hJ1 := hJ _ _ _ hj (CalmFrom.alloc _ _ (.cells #[.int .i64 (pX l p), .int .i64 (pY l p)] 38))
      have hci3 := cell_alloc hci2
      by_cases he : p = i
      · subst he
        have hne : ((p : Int) != (p : Int)) = false := by rw [bne_eq_false_iff_eq]
        have H1 := Lib.hid (came_same p)
        gi_wp2
        refine ⟨fun _ h => (by cases h), ?_⟩
        gi_wp2
        go_roundw
        case rel => exact ⟨p + 1, by go_num, by omega, by rw [H1.out]; exact hJ1, hk.trans (KeepsOn.alloc _ _ _)⟩
        case measure => simp [intOf]; omega
      · have hne : ((p : Int) != (i : Int)) = true := by rw [bne_iff_ne]; omega
        obtain ⟨hk1, hget⟩ := came_get l i p hi hlt he
        obtain ⟨fn, tmps, assign, body, hy, hR⟩ := hY (came i p) hk1 _ hJ1
        have HG := Lib.hid hget; clear hget
        rw [HG.out] at hy
        unfold encPt at hy
        dsimp only at hy
        have H1 := Lib.hid (came_step i p he)
        gi_wp2
        refine ⟨fun h => (by rw [hWF.1] at h; cases h), ?_⟩
        refine hR.mono ?_
        rintro e W' (⟨rfl, hj2, hk2⟩ | ⟨rfl, hjx⟩)
        · gi_wp2
          go_roundw
          case rel => exact ⟨p + 1, by go_num, by omega, by rw [H1.out]; exact hj2, (hk.trans (KeepsOn.alloc _ _ _)).trans hk2⟩
          case measure => simp [intOf]; omega
        · gi_wp2
          refine bodyPost_ret (results_none rfl _ _ _) rfl ?_
          exact ⟨⟨_, rfl⟩, .inr hjx⟩
    · obtain rfl : p = l.length := by omega
      have H1 := Lib.hid (came_end l i hi)
      gi_wp2
      go_end0
      exact ⟨⟨_, rfl⟩, .inl (by rw [← H1.out]; exact hj)⟩
end Go.Proofs.Ytapbfhmmgkjdnaa
