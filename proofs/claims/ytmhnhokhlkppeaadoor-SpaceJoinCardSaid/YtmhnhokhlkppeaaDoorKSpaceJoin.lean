/-
  SpaceJoin: the statement holds.
-/
import Derived.Test.YtmhnhokhlkppeaaDoorP
import Derived.Test.YtmhnhokhlkppeaaDoorL
import Derived.Test.YtmhnhokhlkppeaaDoorCard
import Derived.Test.YtmhnhokhlkppeaaDoorCards
import Derived.Test.YtmhnhokhlkppeaaDoorTie
import Derived.SevenTiedAt
namespace Go.Proofs.YtmhnhokhlkppeaaDoor
open Go.RowKit Go.ChangeShapes Go.WideShapes Go.ChangeAt Go.Deep
set_option linter.unusedVariables false
set_option linter.unusedSimpArgs false
set_option maxRecDepth 100000
theorem spaceJoin_lifted (os : Os) (started : os.Started) (H : Type) (enc : TypeId × Value → H) :
    ReturnsInHanded {} Tryd.checked os 8 .any (fun w args => (Rows.spaceJoinSpec.pre enc Tryd.prog Tryd.f8 [] false w args ∧ laidMetH Tryd.prog flatL w) ∧ sizedMet enc Tryd.prog Tryd.f8 (OpenSpec.ofChange Rows.spaceJoinSpec) false w args)
      (Rows.spaceJoinSpec.post enc Tryd.prog Tryd.f8 false true false false) := by
  refine returnsInHanded_of_change_and (C := Tryd.checked) (X := fun w _ => laidMetH Tryd.prog flatL w) (fun _ _ _ hh h => h.of_heap hh) own started (by kernel_rfl) Tryd.func8
    (ChangeSpec.witness_shaped (enc := enc) (C := Tryd.checked) (os := os) (X := fun w _ => laidMetH Tryd.prog flatL w) false (World.doorLaid Tryd.prog 22 os) #[.agg #[.int .i64 0, .int .i64 0, .int .i64 0, .int .i64 0], .agg #[.int .i64 0, .int .i64 0, .int .i64 0, .int .i64 0], .agg #[.int .i64 0, .int .i64 0, .int .i64 0, .int .i64 0]] 8 rfl (World.shaped_of_RefB (by kernel_rfl) (by kernel_rfl)) (by kernel_rfl) (by kernel_rfl) (by kernel_rfl) (door_met os _)) ?_
  intro W base args ds gs before hval hW _ _ hL _
  exact law_contract rfl rfl Tryd.underlying4 laidOut (by kernel_rfl) (fun ds h => (by match ds, h with | [_, _, _], _ => rfl)) W base args ds gs before hval hW (fun hg => walk8 pure8 W base args hg (glob_of hL))
theorem spaceJoin_row : Rows.SpaceJoinSaid :=
  OpenClaim.holds_of_wide 8 Tryd.f8 rfl rfl rfl rfl rfl rfl rfl ⟨rfl, rfl, rfl, rfl, rfl⟩ rfl rfl rfl rfl rfl (by kernel_rfl) Tryd.func8 (by kernel_rfl)
    (of_decide_eq_true (by kernel_rfl)) (by unfold Func.isWrapper; first | (rw [if_pos (by decide +kernel)]; kernel_rfl) | (rw [if_neg (by decide +kernel)]; exact ⟨rfl, rfl⟩))
    (fun os started H enc _ => spaceJoin_lifted os started H enc)
theorem spaceJoin_card : Rows.SpaceJoinCardSaid :=
  Claim7.holds_tied_plain_at .later [] [.data] true (true, "1732958d83548250cedee17130b47f033e23cf8563d0ade82e10da8930a4526a") false
    spaceJoin_row (fun _ h => by cases h) (by kernel_rfl) (fun _ h => by cases h) spaceJoin_row_tie rfl ⟨rfl, rfl⟩ (by kernel_rfl) rfl
    (fun f fn hf hfn => by
      obtain rfl : f = 8 := Option.some.inj ((show Tryd.prog.funcNamed "kinesphere/kinespherelaw15.SpaceJoin" = some 8 by kernel_rfl).symm.trans hf) |>.symm
      obtain rfl : fn = Tryd.f8 := (Option.some.inj (Tryd.func8.symm.trans hfn)).symm
      exact ⟨by kernel_rfl, fun j t ht => by
        rw [Tryd.params8] at ht
        have hm : t ∈ [37, 37, 37] := by simpa using Array.mem_of_getElem? ht
        have hall : ([37, 37, 37].all fun u => !Tryd.prog.wantsStandIn u) = true := by kernel_rfl
        exact (show Tryd.prog.wantsStandIn t = false by simpa using List.all_eq_true.1 hall t hm)⟩)
    (by kernel_rfl)
#print axioms spaceJoin_card
end Go.Proofs.YtmhnhokhlkppeaaDoor
