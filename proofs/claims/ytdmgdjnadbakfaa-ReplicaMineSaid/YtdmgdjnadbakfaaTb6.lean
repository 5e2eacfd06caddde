/-
 The program's functions as plain functions: what the interpreter answers of some, by a tool.
-/
import Derived.Test.YtdmgdjnadbakfaaTb5
import Derived.KernelRfl
namespace Go.Proofs.Ytdmgdjnadbakfaa
set_option linter.unusedVariables false
set_option linter.unusedSimpArgs false
set_option maxHeartbeats 4000000
set_option maxRecDepth 100000
theorem f9_0 : Cn 24 9 ((fun (x : S_Replica) => [(A.agg [(iA x.Self), (A.imm (List.map c_S_Lease x.Leases) false), (A.imm (List.map c_S_Call x.Calls) false), (A.imm (List.map cB x.Order) false)])]) (⟨1, [⟨0, 0, 10⟩, ⟨1, 1, 20⟩], [⟨12, 4⟩], [true, true, false]⟩)) = (fun (y : ((List (List UInt8)) × Int)) => some (A.tup [(A.imm (List.map (cL c8) y.1) false), (iA y.2)])) (([[3, 4, 1, 2, 1, 0, 1, 0, 1, 20], [3, 4, 1, 2, 1, 2, 1, 2, 1, 40], [3, 3, 1, 4, 1, 24, 1, 8]], 0)) := by kernel_rfl
end Go.Proofs.Ytdmgdjnadbakfaa
