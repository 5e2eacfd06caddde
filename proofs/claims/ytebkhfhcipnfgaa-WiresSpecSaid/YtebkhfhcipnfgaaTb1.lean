/-
 The program's functions as plain functions: what the interpreter answers of some, by a tool.
-/
import Derived.Test.YtebkhfhcipnfgaaT
namespace Go.Proofs.Ytebkhfhcipnfgaa
set_option linter.unusedVariables false
set_option linter.unusedSimpArgs false
set_option maxHeartbeats 4000000
set_option maxRecDepth 100000
set_option linter.defProp false
variable (C:Nat->List A->Option A) (n:Nat) {ρ γ:Type} {φ:ρ->γ->Prop} {kL:R->Option ρ} (kx kg:Nat->St->Option R) (kr:St->Option R) (kp:A->St->Option R)
theorem Jh:Cn 24 21 ((fun (x:aw×Int)=>[(A.agg [(A.imm (List.map ar x.1.Net.Queue) false),(A.imm (List.map au x.1.Net.Apart) false),(A.imm (List.map aC x.1.Ears) false),(iA x.1.Bar)]),(iA x.2)]) ((⟨⟨[],[]⟩,[⟨[],[],[]⟩,⟨[],[],[]⟩],0⟩,0)))=(fun (y:(aw×Int))=>some (A.tup [(A.agg (ak y.1)),(iA y.2)])) ((⟨⟨[],[]⟩,[],0⟩,1)):=r8
theorem Ji:Cn 24 21 ((fun (x:aw×Int)=>[(A.agg [(A.imm (List.map ar x.1.Net.Queue) false),(A.imm (List.map au x.1.Net.Apart) false),(A.imm (List.map aC x.1.Ears) false),(iA x.1.Bar)]),(iA x.2)]) ((⟨⟨[⟨2,0,[3,4,1,4,1,2,1,0,1,0]⟩],[]⟩,[⟨[],[3],[3]⟩,⟨[],[0],[0]⟩],1⟩,0)))=(fun (y:(aw×Int))=>some (A.tup [(A.agg (ak y.1)),(iA y.2)])) ((⟨⟨[⟨2,0,[3,4,1,4,1,2,1,0,1,0]⟩,⟨1,0,[3,4,1,4,1,0,1,0,1,6]⟩],[]⟩,[⟨[],[3],[3]⟩,⟨[],[0],[0]⟩],1⟩,0)):=r8
theorem Jd:Cn 24 19 ((fun (x:aw×(List Int)×(List Int))=>[(A.agg [(A.imm (List.map ar x.1.Net.Queue) false),(A.imm (List.map au x.1.Net.Apart) false),(A.imm (List.map aC x.1.Ears) false),(iA x.1.Bar)]),(A.imm (List.map (cI .i64) x.2.1) false),(A.imm (List.map (cI .i64) x.2.2) false)]) ((⟨⟨[],[]⟩,[⟨[],[],[]⟩,⟨[],[],[]⟩],0⟩,[],[0,2])))=(fun (y:(aw×Int))=>some (A.tup [(A.agg (ak y.1)),(iA y.2)])) ((⟨⟨[],[]⟩,[],0⟩,1)):=r8
end Go.Proofs.Ytebkhfhcipnfgaa
