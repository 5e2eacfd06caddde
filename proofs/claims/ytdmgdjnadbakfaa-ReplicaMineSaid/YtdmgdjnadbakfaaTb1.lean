/-
 The program's functions as plain functions: what the interpreter answers of some, by a tool.
-/
import Derived.Test.YtdmgdjnadbakfaaT
import Derived.KernelRfl
namespace Go.Proofs.Ytdmgdjnadbakfaa
set_option linter.unusedVariables false
set_option linter.unusedSimpArgs false
set_option maxHeartbeats 4000000
set_option maxRecDepth 100000
theorem f26_0 : Cn 24 26 ((fun (x : S_Replica × Int × Int) => [(A.agg [(iA x.1.Self), (A.imm (List.map c_S_Lease x.1.Leases) false), (A.imm (List.map c_S_Call x.1.Calls) false), (A.imm (List.map cB x.1.Order) false)]), (iA x.2.1), (iA x.2.2)]) ((⟨0, [⟨0, 1, 5⟩], [], [true]⟩, 0, 9))) = (fun (y : (S_Replica × Int)) => some (A.tup [(A.agg [(iA y.1.Self), (A.imm (List.map c_S_Lease y.1.Leases) false), (A.imm (List.map c_S_Call y.1.Calls) false), (A.imm (List.map cB y.1.Order) false)]), (iA y.2)])) ((⟨0, [], [], []⟩, 530)) := by kernel_rfl
theorem f11_0 : Cn 24 11 ((fun (x : Int × (List (List UInt8))) => [(iA x.1), (A.imm (List.map (cL c8) x.2) false)]) ((0, []))) = (fun (y : (S_Replica × Int)) => some (A.tup [(A.agg [(iA y.1.Self), (A.imm (List.map c_S_Lease y.1.Leases) false), (A.imm (List.map c_S_Call y.1.Calls) false), (A.imm (List.map cB y.1.Order) false)]), (iA y.2)])) ((⟨0, [], [], []⟩, 530)) := by kernel_rfl
theorem f11_1 : Cn 24 11 ((fun (x : Int × (List (List UInt8))) => [(iA x.1), (A.imm (List.map (cL c8) x.2) false)]) ((1, [[3, 4, 1, 2, 1, 0, 1, 0, 1, 20], [3, 4, 1, 2, 1, 2, 1, 2, 1, 40], [3, 3, 1, 4, 1, 24, 1, 8]]))) = (fun (y : (S_Replica × Int)) => some (A.tup [(A.agg [(iA y.1.Self), (A.imm (List.map c_S_Lease y.1.Leases) false), (A.imm (List.map c_S_Call y.1.Calls) false), (A.imm (List.map cB y.1.Order) false)]), (iA y.2)])) ((⟨1, [⟨0, 0, 10⟩, ⟨1, 1, 20⟩], [⟨12, 4⟩], [true, true, false]⟩, 0)) := by kernel_rfl
end Go.Proofs.Ytdmgdjnadbakfaa
