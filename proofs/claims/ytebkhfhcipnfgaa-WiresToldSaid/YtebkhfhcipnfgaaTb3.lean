/-
 The program's functions as plain functions: what the interpreter answers of some, by a tool.
-/
import Derived.Test.YtebkhfhcipnfgaaTb2
namespace Go.Proofs.Ytebkhfhcipnfgaa
set_option linter.unusedVariables false
set_option linter.unusedSimpArgs false
set_option maxHeartbeats 4000000
set_option maxRecDepth 100000
set_option linter.defProp false
variable (C:Nat->List A->Option A) (n:Nat) {ρ γ:Type} {φ:ρ->γ->Prop} {kL:R->Option ρ} (kx kg:Nat->St->Option R) (kr:St->Option R) (kp:A->St->Option R)
theorem TB:Cn 24 7 ((λ(x:Unit)=>[]) (()))=(λ(y:Bool)=>some (bA y)) true:=by
 show RR (Cn 23) 1000 7 []=some (bA true);rw[<-JY P9]
 kernel_rfl
end Go.Proofs.Ytebkhfhcipnfgaa
