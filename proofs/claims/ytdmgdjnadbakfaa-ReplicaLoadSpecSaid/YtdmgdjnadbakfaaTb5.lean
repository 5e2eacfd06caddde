/-
 The program's functions as plain functions: what the interpreter answers of some, by a tool.
-/
import Derived.Test.YtdmgdjnadbakfaaTb4
import Derived.KernelRfl
namespace Go.Proofs.Ytdmgdjnadbakfaa
set_option linter.unusedVariables false
set_option linter.unusedSimpArgs false
set_option maxHeartbeats 4000000
set_option maxRecDepth 100000
variable (C:Nat->List A->Option A) (n:Nat) {ρ γ:Type} {φ:ρ->γ->Prop} {kL:R->Option ρ} (kx kg:Nat->St->Option R) (kr:St->Option R) (kp:A->St->Option R)
theorem Hs:Cn 24 17 ((fun (x:bu×bG)=>[(A.agg [(iA x.1.Desks.1.Self),(A.imm (List.map ae x.1.Desks.1.Leases) false),(A.imm (List.map ah x.1.Desks.1.Calls) false),(A.imm (List.map cB x.1.Desks.1.Order) false),(iA x.1.Desks.2.Self),(A.imm (List.map ae x.1.Desks.2.Leases) false),(A.imm (List.map ah x.1.Desks.2.Calls) false),(A.imm (List.map cB x.1.Desks.2.Order) false),(iA x.1.Synced.1),(iA x.1.Synced.2),(A.imm (List.map ae x.1.Told) false),(A.imm (List.map ah x.1.Spoken.1) false),(A.imm (List.map ah x.1.Spoken.2) false)]),(A.agg [(iA x.2.Kind),(iA x.2.Who),(iA x.2.A),(iA x.2.B)])]) ((⟨(⟨0,[⟨0,0,10⟩,⟨1,1,20⟩],[⟨3,2⟩,⟨5,1⟩],[true,false,false,true]⟩,⟨1,[⟨0,0,10⟩,⟨1,1,20⟩],[⟨12,4⟩],[true,true,false]⟩),(4,1),[⟨1,1,20⟩],([⟨5,1⟩],[])⟩,⟨7,1,2,0⟩)))=(fun (y:(bu×Int))=>some (A.tup [(A.agg [(iA y.1.Desks.1.Self),(A.imm (List.map ae y.1.Desks.1.Leases) false),(A.imm (List.map ah y.1.Desks.1.Calls) false),(A.imm (List.map cB y.1.Desks.1.Order) false),(iA y.1.Desks.2.Self),(A.imm (List.map ae y.1.Desks.2.Leases) false),(A.imm (List.map ah y.1.Desks.2.Calls) false),(A.imm (List.map cB y.1.Desks.2.Order) false),(iA y.1.Synced.1),(iA y.1.Synced.2),(A.imm (List.map ae y.1.Told) false),(A.imm (List.map ah y.1.Spoken.1) false),(A.imm (List.map ah y.1.Spoken.2) false)]),(iA y.2)])) ((⟨(⟨0,[⟨0,0,10⟩,⟨1,1,20⟩],[⟨3,2⟩,⟨5,1⟩],[true,false,false,true]⟩,⟨1,[⟨0,0,10⟩,⟨1,1,20⟩],[],[true,true]⟩),(4,1),[⟨1,1,20⟩],([⟨5,1⟩],[])⟩,0)):=by kernel_rfl
end Go.Proofs.Ytdmgdjnadbakfaa
