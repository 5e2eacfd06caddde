/-
 The program's functions as plain functions: what the interpreter answers of some, by a tool.
-/
import Derived.Test.YtebkhfhcipnfgaaGreatT
namespace Go.Proofs.YtebkhfhcipnfgaaGreat
set_option linter.unusedVariables false
set_option linter.unusedSimpArgs false
set_option maxHeartbeats 4000000
set_option maxRecDepth 100000
set_option linter.defProp false
variable (C:Nat->List A->Option A) (n:Nat) {ρ γ:Type} {φ:ρ->γ->Prop} {kL:R->Option ρ} (kx kg:Nat->St->Option R) (kr:St->Option R) (kp:A->St->Option R)
theorem MV:Cn 24 12 ((fun (x:av×Int)=>[(A.agg [(A.imm (List.map aq x.1.Net.Queue) false),(A.imm (List.map au x.1.Net.Apart) false),(A.imm (List.map aw x.1.Ears) false),(iA x.1.Bar)]),(iA x.2)]) ((⟨⟨[],[]⟩,[⟨[],[],[]⟩,⟨[],[],[]⟩],0⟩,0)))=(fun (y:(av×bj×Bool×Int))=>some (A.tup [(A.agg (ak y.1)),(A.agg (aD y.2.1)),(bA y.2.2.1),(iA y.2.2.2)])) ((⟨⟨[],[]⟩,[],0⟩,⟨0,0,0⟩,false,1)):=r8
theorem MW:Cn 24 12 ((fun (x:av×Int)=>[(A.agg [(A.imm (List.map aq x.1.Net.Queue) false),(A.imm (List.map au x.1.Net.Apart) false),(A.imm (List.map aw x.1.Ears) false),(iA x.1.Bar)]),(iA x.2)]) ((⟨⟨[⟨0,1,[3,5,1,2,1,8,1,0,1,0,1,4]⟩,⟨0,1,[3,5,1,2,1,10,1,0,1,0,1,6]⟩,⟨0,2,[3,5,1,2,1,12,1,2,1,0,1,6]⟩],[]⟩,[⟨[],[],[]⟩,⟨[],[],[]⟩],0⟩,1)))=(fun (y:(av×bj×Bool×Int))=>some (A.tup [(A.agg (ak y.1)),(A.agg (aD y.2.1)),(bA y.2.2.1),(iA y.2.2.2)])) ((⟨⟨[⟨0,1,[3,5,1,2,1,8,1,0,1,0,1,4]⟩,⟨0,2,[3,5,1,2,1,12,1,2,1,0,1,6]⟩],[]⟩,[⟨[⟨5,0,0,3⟩],[],[]⟩,⟨[],[],[]⟩],0⟩,⟨0,0,0⟩,false,0)):=r8
theorem MX:Cn 24 12 ((fun (x:av×Int)=>[(A.agg [(A.imm (List.map aq x.1.Net.Queue) false),(A.imm (List.map au x.1.Net.Apart) false),(A.imm (List.map aw x.1.Ears) false),(iA x.1.Bar)]),(iA x.2)]) ((⟨⟨[⟨0,1,[3,5,1,2,1,8,1,0,1,0,1,4]⟩,⟨0,2,[3,5,1,2,1,12,1,2,1,0,1,6]⟩],[]⟩,[⟨[⟨5,0,0,3⟩],[],[]⟩,⟨[],[],[]⟩],0⟩,0)))=(fun (y:(av×bj×Bool×Int))=>some (A.tup [(A.agg (ak y.1)),(A.agg (aD y.2.1)),(bA y.2.2.1),(iA y.2.2.2)])) ((⟨⟨[⟨0,2,[3,5,1,2,1,12,1,2,1,0,1,6]⟩],[]⟩,[⟨[⟨5,0,0,3⟩],[],[]⟩,⟨[],[],[]⟩],0⟩,⟨0,0,0⟩,false,0)):=r8
end Go.Proofs.YtebkhfhcipnfgaaGreat
