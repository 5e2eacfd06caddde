/-
  Layer 26: strings.IndexByte, by the model's own entry (two laws laid off the kit's templates, and what is asked of an oracle).
-/
import Derived.Test.YtooamdacfhfjoaaDoorT
import Derived.Lib.Strings
import Derived.Lib.Slices
import Derived.Lib.Walk
import Derived.Lib.Bytealg
namespace Go.Proofs.YtooamdacfhfjoaaDoor
open Go.RowKit
set_option maxHeartbeats 1000000
set_option maxRecDepth 100000
set_option linter.unusedVariables false
theorem ib88 (s : ByteArray) (c : Int) (w : World) :
    Calls Tryd.prog 88 #[.string s, .int .u8 c] w fun e w' => e = .returned (.int .i64 (Lib.indexByte s.data.toList c.toNat.toUInt8)) ∧ w' = w := by
  go_enter Tryd.func88, Tryd.ntmps88
  go_wp2
  rw [run_callFunc_extern Tryd.func89 (by kernel_rfl) (by kernel_rfl) (by kernel_rfl) (e := Extern.BytealgIndexByte.indexByte) (by kernel_rfl), Lib.run_indexByteString]
  simp only [Result.andThen]
  rw [Oper.upon_value]
  go_wp2
  go_ret
  exact ⟨rfl, rfl⟩
theorem ib85 (s : ByteArray) (c : Int) (w : World) :
    Calls Tryd.prog 85 #[.string s, .int .u8 c] w fun e w' => e = .returned (.int .i64 (Lib.indexByte s.data.toList c.toNat.toUInt8)) ∧ w' = w := by
  go_enter Tryd.func85, Tryd.ntmps85
  go_wp2_with (go_at_call 88; refine (ib88 _ _ _).mono ?_; rintro e w' ⟨rfl, rfl⟩)
  go_ret
  exact ⟨rfl, rfl⟩
theorem callOK85 {glob : Nat → Option (List Value)} (s : ByteArray) (c : Int) : CallOK Tryd.prog glob 85 [.v (.string s), .v (.int .u8 c)] (.v (.int .i64 (Lib.indexByte s.data.toList c.toNat.toUInt8))) := by
  intro S w cargs _ _ hv
  rw [VRs] at hv
  obtain ⟨d1, ds1, rfl, h1, hv⟩ := hv
  rw [VRs] at hv
  obtain ⟨d2, ds2, rfl, h2, hv⟩ := hv
  rw [VRs] at hv
  subst hv
  rw [VR] at h1 h2
  subst h1
  subst h2
  refine (ib85 s c w).mono ?_
  rintro e w' ⟨rfl, rfl⟩
  exact ⟨_, rfl, Below.refl _ _, by rw [VR]⟩
end Go.Proofs.YtooamdacfhfjoaaDoor
