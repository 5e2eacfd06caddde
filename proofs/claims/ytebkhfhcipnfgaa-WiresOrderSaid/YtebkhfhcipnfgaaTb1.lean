/-
 The program's functions as plain functions: what the interpreter answers of some, by a tool.
-/
import Derived.Test.YtebkhfhcipnfgaaT
namespace Go.Proofs.Ytebkhfhcipnfgaa
set_option linter.unusedVariables false
set_option linter.unusedSimpArgs false
set_option maxHeartbeats 4000000
set_option maxRecDepth 100000
set_option linter.defProp false
variable (C:Nat->List A->Option A) (n:Nat) {ρ γ:Type} {φ:ρ->γ->Prop} {kL:R->Option ρ} (kx kg:Nat->St->Option R) (kr:St->Option R) (kp:A->St->Option R)
theorem JJ:Cn 24 21 ((fun (x:aq×Int)=>[(A.agg [(A.imm (List.map af x.1.Net.Queue) false),(A.imm (List.map ai x.1.Net.Apart) false),(A.imm (List.map av x.1.Ears) false),(iA x.1.Bar)]),(iA x.2)]) ((⟨⟨[],[]⟩,[⟨[],[],[]⟩,⟨[],[],[]⟩],0⟩,0)))=(fun (y:(aq×Int))=>some (A.tup [(A.agg (aa y.1)),(iA y.2)])) ((⟨⟨[],[]⟩,[],0⟩,1)):=r7
theorem JK:Cn 24 21 ((fun (x:aq×Int)=>[(A.agg [(A.imm (List.map af x.1.Net.Queue) false),(A.imm (List.map ai x.1.Net.Apart) false),(A.imm (List.map av x.1.Ears) false),(iA x.1.Bar)]),(iA x.2)]) ((⟨⟨[⟨2,0,[3,4,1,4,1,2,1,0,1,0]⟩],[]⟩,[⟨[],[3],[3]⟩,⟨[],[0],[0]⟩],1⟩,0)))=(fun (y:(aq×Int))=>some (A.tup [(A.agg (aa y.1)),(iA y.2)])) ((⟨⟨[⟨2,0,[3,4,1,4,1,2,1,0,1,0]⟩,⟨1,0,[3,4,1,4,1,0,1,0,1,6]⟩],[]⟩,[⟨[],[3],[3]⟩,⟨[],[0],[0]⟩],1⟩,0)):=r7
theorem JF:Cn 24 19 ((fun (x:aq×(List Int)×(List Int))=>[(A.agg [(A.imm (List.map af x.1.Net.Queue) false),(A.imm (List.map ai x.1.Net.Apart) false),(A.imm (List.map av x.1.Ears) false),(iA x.1.Bar)]),(A.imm (List.map (cI .i64) x.2.1) false),(A.imm (List.map (cI .i64) x.2.2) false)]) ((⟨⟨[],[]⟩,[⟨[],[],[]⟩,⟨[],[],[]⟩],0⟩,[],[0,2])))=(fun (y:(aq×Int))=>some (A.tup [(A.agg (aa y.1)),(iA y.2)])) ((⟨⟨[],[]⟩,[],0⟩,1)):=r7
end Go.Proofs.Ytebkhfhcipnfgaa
