/-
  PoseMirror: the statement holds.
-/
import Derived.Test.YtooamdacfhfjoaaDoorP5
import Derived.Test.YtooamdacfhfjoaaDoorL
import Derived.Test.YtooamdacfhfjoaaDoorCard
import Derived.Test.YtooamdacfhfjoaaDoorCards
import Derived.Test.YtooamdacfhfjoaaDoorTie
import Derived.SevenTiedAt
namespace Go.Proofs.YtooamdacfhfjoaaDoor
open Go.RowKit Go.ChangeShapes Go.WideShapes Go.ChangeAt Go.Deep
set_option linter.unusedVariables false
set_option linter.unusedSimpArgs false
set_option maxRecDepth 100000
theorem poseMirror_lifted (os : Os) (started : os.Started) (H : Type) (enc : TypeId × Value → H) :
    ReturnsInHanded {} Tryd.checked os 6 .any (fun w args => (Rows.poseMirrorSpec.pre enc Tryd.prog Tryd.f6 [] false w args ∧ laidMetH Tryd.prog flatL w) ∧ sizedMet enc Tryd.prog Tryd.f6 (OpenSpec.ofChange Rows.poseMirrorSpec) false w args)
      (Rows.poseMirrorSpec.post enc Tryd.prog Tryd.f6 false true false false) := by
  refine returnsInHanded_of_change_and (C := Tryd.checked) (X := fun w _ => laidMetH Tryd.prog flatL w) (fun _ _ _ hh h => h.of_heap hh) own started (by kernel_rfl) Tryd.func6
    (ChangeSpec.witness_shaped (enc := enc) (C := Tryd.checked) (os := os) (X := fun w _ => laidMetH Tryd.prog flatL w) false (World.doorLaid Tryd.prog 22 os) #[.agg #[.int .i64 0, .int .i64 0, .int .i64 0, .int .i64 0, .int .i64 0, .int .i64 0, .int .i64 0, .int .i64 0, .int .i64 0, .int .i64 0, .int .i64 0, .int .i64 0, .int .i64 0], .agg #[.int .i64 0, .int .i64 0, .int .i64 0, .int .i64 0, .int .i64 0, .int .i64 0, .int .i64 0, .int .i64 0, .int .i64 0, .int .i64 0, .int .i64 0, .int .i64 0, .int .i64 0, .int .i64 0], .agg #[.int .i64 0, .int .i64 0, .int .i64 0, .bool false], .int .i64 0] 8 rfl (World.shaped_of_RefB (by kernel_rfl) (by kernel_rfl)) (by kernel_rfl) (by kernel_rfl) (by kernel_rfl) (door_met os _)) ?_
  intro W base args ds gs before hval hW _ _ hL _
  exact law_contract rfl rfl Tryd.underlying4 laidOut (by kernel_rfl) (fun ds h => (by match ds, h with | [_, _, _, _], _ => rfl)) W base args ds gs before hval hW (fun hg => walk6 pure6 W base args hg (glob_of hL))
theorem poseMirror_row : Rows.PoseMirrorSaid :=
  OpenClaim.holds_of_wide 6 Tryd.f6 rfl rfl rfl rfl rfl rfl rfl ⟨rfl, rfl, rfl, rfl, rfl⟩ rfl rfl rfl rfl rfl (by kernel_rfl) Tryd.func6 (by kernel_rfl)
    (of_decide_eq_true (by kernel_rfl)) (by unfold Func.isWrapper; first | (rw [if_pos (by decide +kernel)]; kernel_rfl) | (rw [if_neg (by decide +kernel)]; exact ⟨rfl, rfl⟩))
    (fun os started H enc _ => poseMirror_lifted os started H enc)
theorem poseMirror_card : Rows.PoseMirrorCardSaid :=
  Claim7.holds_tied_plain_at .later [] [.data] true (true, "db2d3e629726ef056b2f5b657f8ad319a8e0a5702a5810cffcd12ceb8311fcb0") false
    poseMirror_row (fun _ h => by cases h) (by kernel_rfl) (fun _ h => by cases h) poseMirror_row_tie rfl ⟨rfl, rfl⟩ (by kernel_rfl) rfl
    (fun f fn hf hfn => by
      obtain rfl : f = 6 := Option.some.inj ((show Tryd.prog.funcNamed "kinesphere/kinespherelaw26.PoseMirror" = some 6 by kernel_rfl).symm.trans hf) |>.symm
      obtain rfl : fn = Tryd.f6 := (Option.some.inj (Tryd.func6.symm.trans hfn)).symm
      exact ⟨by kernel_rfl, fun j t ht => by
        rw [Tryd.params6] at ht
        have hm : t ∈ [26, 39, 41, 3] := by simpa using Array.mem_of_getElem? ht
        have hall : ([26, 39, 41, 3].all fun u => !Tryd.prog.wantsStandIn u) = true := by kernel_rfl
        exact (show Tryd.prog.wantsStandIn t = false by simpa using List.all_eq_true.1 hall t hm)⟩)
    (by kernel_rfl)
#print axioms poseMirror_card
end Go.Proofs.YtooamdacfhfjoaaDoor
