/-
  PoseExtent: the statement holds.
-/
import Derived.Test.YtooamdacfhfjoaaDoorP10
import Derived.Test.YtooamdacfhfjoaaDoorL
import Derived.Test.YtooamdacfhfjoaaDoorCard
import Derived.Test.YtooamdacfhfjoaaDoorCards
import Derived.Test.YtooamdacfhfjoaaDoorTie
import Derived.SevenTiedAt
namespace Go.Proofs.YtooamdacfhfjoaaDoor
open Go.RowKit Go.ChangeShapes Go.WideShapes Go.ChangeAt Go.Deep
set_option linter.unusedVariables false
set_option linter.unusedSimpArgs false
set_option maxRecDepth 100000
theorem poseExtent_lifted (os : Os) (started : os.Started) (H : Type) (enc : TypeId × Value → H) :
    ReturnsInHanded {} Tryd.checked os 9 .any (fun w args => (Rows.poseExtentSpec.pre enc Tryd.prog Tryd.f9 [] false w args ∧ laidMetH Tryd.prog flatL w) ∧ sizedMet enc Tryd.prog Tryd.f9 (OpenSpec.ofChange Rows.poseExtentSpec) false w args)
      (Rows.poseExtentSpec.post enc Tryd.prog Tryd.f9 false true false false) := by
  refine returnsInHanded_of_change_and (C := Tryd.checked) (X := fun w _ => laidMetH Tryd.prog flatL w) (fun _ _ _ hh h => h.of_heap hh) own started (by kernel_rfl) Tryd.func9
    (ChangeSpec.witness_shaped (enc := enc) (C := Tryd.checked) (os := os) (X := fun w _ => laidMetH Tryd.prog flatL w) false (World.doorLaid Tryd.prog 22 os) #[.agg #[.int .i64 0, .int .i64 0, .int .i64 0, .int .i64 0, .int .i64 0, .int .i64 0, .int .i64 0, .int .i64 0, .int .i64 0, .int .i64 0, .int .i64 0, .int .i64 0, .int .i64 0], .agg #[.string ⟨#[]⟩, .int .i64 0, .int .i64 0, .int .i64 0, .int .i64 0, .int .i64 0, .int .i64 0, .int .i64 0, .int .i64 0, .int .i64 0, .int .i64 0, .int .i64 0, .int .i64 0, .int .i64 0, .int .i64 0, .int .i64 0, .int .i64 0]] 8 rfl (World.shaped_of_RefB (by kernel_rfl) (by kernel_rfl)) (by kernel_rfl) (by kernel_rfl) (by kernel_rfl) (door_met os _)) ?_
  intro W base args ds gs before hval hW _ _ hL _
  exact law_contract rfl rfl Tryd.underlying4 laidOut (by kernel_rfl) (fun ds h => (by match ds, h with | [_, _], _ => rfl)) W base args ds gs before hval hW (fun hg => walk9 pure9 W base args hg (glob_of hL))
theorem poseExtent_row : Rows.PoseExtentSaid :=
  OpenClaim.holds_of_wide 9 Tryd.f9 rfl rfl rfl rfl rfl rfl rfl ⟨rfl, rfl, rfl, rfl, rfl⟩ rfl rfl rfl rfl rfl (by kernel_rfl) Tryd.func9 (by kernel_rfl)
    (of_decide_eq_true (by kernel_rfl)) (by unfold Func.isWrapper; first | (rw [if_pos (by decide +kernel)]; kernel_rfl) | (rw [if_neg (by decide +kernel)]; exact ⟨rfl, rfl⟩))
    (fun os started H enc _ => poseExtent_lifted os started H enc)
theorem poseExtent_card : Rows.PoseExtentCardSaid :=
  Claim7.holds_tied_plain_at .later [] [.data] true (true, "db2d3e629726ef056b2f5b657f8ad319a8e0a5702a5810cffcd12ceb8311fcb0") false
    poseExtent_row (fun _ h => by cases h) (by kernel_rfl) (fun _ h => by cases h) poseExtent_row_tie rfl ⟨rfl, rfl⟩ (by kernel_rfl) rfl
    (fun f fn hf hfn => by
      obtain rfl : f = 9 := Option.some.inj ((show Tryd.prog.funcNamed "kinesphere/kinespherelaw26.PoseExtent" = some 9 by kernel_rfl).symm.trans hf) |>.symm
      obtain rfl : fn = Tryd.f9 := (Option.some.inj (Tryd.func9.symm.trans hfn)).symm
      exact ⟨by kernel_rfl, fun j t ht => by
        rw [Tryd.params9] at ht
        have hm : t ∈ [26, 46] := by simpa using Array.mem_of_getElem? ht
        have hall : ([26, 46].all fun u => !Tryd.prog.wantsStandIn u) = true := by kernel_rfl
        exact (show Tryd.prog.wantsStandIn t = false by simpa using List.all_eq_true.1 hall t hm)⟩)
    (by kernel_rfl)
#print axioms poseExtent_card
end Go.Proofs.YtooamdacfhfjoaaDoor
