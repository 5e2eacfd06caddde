/-
  The given statement FieldPolySpec: for all polynomials, points and integers, Value and At agree with the reference.
  No condition beyond the row's own.
-/
import Derived.Test.YtapbfhmmgkjdnaaOwn
namespace Go.Proofs.Ytapbfhmmgkjdnaa
open Go.RowKit
theorem SliceOf.go {α : Type} {L : Lay α} {B n : Nat} {w w' : World} {v : Value} {l : List α} (h : SliceOf L B w v l) (hb : Below n w w') (hn : B ≤ n) (hw : B ≤ w'.heap.size) : SliceOf L w'.heap.size w' v l :=
  (h.stab (Keeps.of_below hb hn)).mono hw
theorem few_any (a : Option Addr) (len cap : Nat) (w : World) (h : len ≤ 9223372036854775807) : Calls Try.prog 18 #[.slice a len cap] w fun e w' => e = .returned (.bool (decide (len ≤ 70))) ∧ w = w' := by
  go_enter Try.func18, Try.ntmps18
  go_wp2_with fail
  go_ret
  exact ⟨ret_bool (decide_eq_decide.2 (by omega)), rfl⟩
set_option maxRecDepth 100000 in
set_option maxHeartbeats 1000000 in
theorem fieldPolySpec_walk (p : List Int) (l : List (Int × Int)) (t : Int) (v0 v1 : Value) (w : World) (h0 : SliceOf lInt w.heap.size w v0 p) (h1 : SliceOf lPt w.heap.size w v1 l) :
    Calls Try.prog 4 #[v0, v1, .int .i64 t] w fun e w' => e = .returned (.bool true) ∧ Below w.heap.size w w' := by
  have hs0 := h0
  have hs1 := h1
  obtain ⟨a0, cap0, rfl, hm0, _⟩ := h0.ints
  obtain ⟨a1, cap1, rfl, hm1, _⟩ := h1.pts
  by_cases hp : 100 < p.length
  · go_enter Try.func4, Try.ntmps4
    go_wp2_with fail
    refine (sane_any _).mono ?_
    rintro e w1 ⟨rfl, hb1⟩
    go_wp2_with fail
    go_ret
    exact ⟨rfl, hb1⟩
  · by_cases hl : 70 < l.length
    · have hd := decide_eq_false (Nat.not_le.2 hl)
      go_enter Try.func4, Try.ntmps4
      go_wp2_with fail
      refine (sane_any _).mono ?_
      rintro e w1 ⟨rfl, hb1⟩
      go_wp2_with fail
      refine (few_any _ _ _ _ hm1).mono ?_
      rintro e w' ⟨rfl, rfl⟩
      rw [hd]
      go_wp2_with fail
      go_ret
      exact ⟨rfl, hb1⟩
    · have hd := decide_eq_true (Nat.not_lt.1 hl)
      go_enter Try.func4, Try.ntmps4
      go_wp2_with fail
      refine (sane_any _).mono ?_
      rintro e w1 ⟨rfl, hb1⟩
      have q1 := hb1.size
      go_wp2_with fail
      refine (few_any _ _ _ _ hm1).mono ?_
      rintro e w' ⟨rfl, rfl⟩
      rw [hd]
      go_wp2_with fail
      refine (at_any l _ t _ (hs1.go hb1 (Nat.le_refl _) q1)).mono ?_
      rintro e w2 ⟨rfl, hb2⟩
      have b2 := hb1.trans (hb2.mono q1)
      clear hb2
      have q2 := b2.size
      go_wp2_with fail
      refine (rat_any l _ t _ (hs1.go b2 (Nat.le_refl _) q2)).mono ?_
      rintro e w3 ⟨rfl, hb3⟩
      have b3 := b2.trans (hb3.below _)
      clear hb3
      have q3 := b3.size
      go_wp2_with fail
      refine (value_any p _ t _ (hs0.go b3 (Nat.le_refl _) q3)).mono ?_
      rintro e w4 ⟨rfl, hb4⟩
      have b4 := b3.trans (hb4.mono q3)
      clear hb4
      have q4 := b4.size
      go_wp2_with fail
      refine (rvalue_any p _ t _ (hs0.go b4 (Nat.le_refl _) q4)).mono ?_
      rintro e w5 ⟨rfl, hb5⟩
      have b5 := b4.trans (hb5.below _)
      go_wp2_with fail
      go_ret
      exact ⟨rfl, b5⟩

set_option maxRecDepth 100000 in
theorem fieldPolySpec_lifted (os : Os) (started : os.Started) (H : Type) (enc : TypeId × Value → H) :
    ReturnsInHanded {} Try.checked os 4 .any (Rows.fieldPolySpecSpec.pre6 enc Try.prog Try.f4 Rows.fieldPolySpecRow.domain false) (Rows.fieldPolySpecSpec.post enc Try.prog Try.f4 false true false false) := by
  refine returnsInHanded_of_change (C := Try.checked) own started (by kernel_rfl) Try.func4
    (ChangeSpec.witness6 (enc := enc) (C := Try.checked) false ⟨#[], #[.slice none 0 0, .slice none 0 0, .int .i64 0], []⟩ 8 (by kernel_rfl) (by kernel_rfl) (by kernel_rfl) (by kernel_rfl)) ?_
  intro W base args ds gs before hval hW _ _
  refine law_contract rfl rfl Try.underlying4 laidOut (by kernel_rfl) (fun ds h => ?_) W base args ds gs before hval hW (fun hg => ?_)
  · match ds, h with
    | [d0, d1, d2], _ => rfl
  · obtain ⟨v0, v1, v2, rfl⟩ := args_three hg.1
    obtain ⟨a0, h0⟩ := given_slice (L := lInt) hg 0 rfl rfl Try.underlying29 (by kernel_rfl) (by decide) (readsInt)
    obtain ⟨a1, h1⟩ := given_slice (L := lPt) hg 1 rfl rfl Try.underlying30 (by kernel_rfl) (by decide) (readsPt)
    obtain ⟨a2, rfl, b2⟩ := given_int hg 2 rfl rfl Try.underlying3
    exact fieldPolySpec_walk a0 a1 a2 v0 v1 W h0 h1
/-- THE STATEMENT. -/
theorem fieldPolySpec_holds : Rows.FieldPolySpecSaid :=
  OpenClaim.holds_of_wide 4 Try.f4 rfl rfl rfl rfl rfl rfl rfl ⟨rfl, rfl, rfl, rfl, rfl⟩ rfl rfl rfl rfl rfl (by kernel_rfl) Try.func4 (by kernel_rfl)
    (of_decide_eq_true (by kernel_rfl)) (by unfold Func.isWrapper; first | (rw [if_pos (by decide +kernel)]; kernel_rfl) | (rw [if_neg (by decide +kernel)]; exact ⟨rfl, rfl⟩))
    (fun os started H enc _ => fieldPolySpec_lifted os started H enc)
#print axioms fieldPolySpec_holds
end Go.Proofs.Ytapbfhmmgkjdnaa
