/-
 The program's functions as plain functions: what the interpreter answers of some, by a tool.
-/
import Derived.Test.YtebkhfhcipnfgaaT
namespace Go.Proofs.Ytebkhfhcipnfgaa
set_option linter.unusedVariables false
set_option linter.unusedSimpArgs false
set_option maxHeartbeats 4000000
set_option maxRecDepth 100000
set_option linter.defProp false
variable (C:Nat->List A->Option A) (n:Nat) {ρ γ:Type} {φ:ρ->γ->Prop} {kL:R->Option ρ} (kx kg:Nat->St->Option R) (kr:St->Option R) (kp:A->St->Option R)
theorem Ha:Cn 24 21 ((fun (x:al×Int)=>[(A.agg [(A.imm (List.map ah x.1.Net.Queue) false),(A.imm (List.map ai x.1.Net.Apart) false),(A.imm (List.map aj x.1.Ears) false),(iA x.1.Bar)]),(iA x.2)]) ((⟨⟨[],[]⟩,[⟨[],[],[]⟩,⟨[],[],[]⟩],0⟩,0)))=(fun (y:(al×Int))=>some (A.tup [(A.agg (aa y.1)),(iA y.2)])) ((⟨⟨[],[]⟩,[],0⟩,1)):=r8
theorem Hb:Cn 24 21 ((fun (x:al×Int)=>[(A.agg [(A.imm (List.map ah x.1.Net.Queue) false),(A.imm (List.map ai x.1.Net.Apart) false),(A.imm (List.map aj x.1.Ears) false),(iA x.1.Bar)]),(iA x.2)]) ((⟨⟨[⟨2,0,[3,4,1,4,1,2,1,0,1,0]⟩],[]⟩,[⟨[],[3],[3]⟩,⟨[],[0],[0]⟩],1⟩,0)))=(fun (y:(al×Int))=>some (A.tup [(A.agg (aa y.1)),(iA y.2)])) ((⟨⟨[⟨2,0,[3,4,1,4,1,2,1,0,1,0]⟩,⟨1,0,[3,4,1,4,1,0,1,0,1,6]⟩],[]⟩,[⟨[],[3],[3]⟩,⟨[],[0],[0]⟩],1⟩,0)):=r8
theorem G1:Cn 24 16 ((fun (x:al×Int)=>[(A.agg [(A.imm (List.map ah x.1.Net.Queue) false),(A.imm (List.map ai x.1.Net.Apart) false),(A.imm (List.map aj x.1.Ears) false),(iA x.1.Bar)]),(iA x.2)]) ((⟨⟨[],[]⟩,[⟨[],[],[]⟩,⟨[],[],[]⟩],0⟩,0)))=(fun (y:(al×ba×Bool×Int))=>some (A.tup [(A.agg (aa y.1)),(A.agg (au y.2.1)),(bA y.2.2.1),(iA y.2.2.2)])) ((⟨⟨[],[]⟩,[],0⟩,⟨0,0,0⟩,false,1)):=r8
end Go.Proofs.Ytebkhfhcipnfgaa
