/-
 The program's functions as plain functions: what the interpreter answers of some, by a tool.
-/
import Derived.Test.YtebkhfhcipnfgaaTb1
namespace Go.Proofs.Ytebkhfhcipnfgaa
set_option linter.unusedVariables false
set_option linter.unusedSimpArgs false
set_option maxHeartbeats 4000000
set_option maxRecDepth 100000
set_option linter.defProp false
variable (C:Nat->List A->Option A) (n:Nat) {ρ γ:Type} {φ:ρ->γ->Prop} {kL:R->Option ρ} (kx kg:Nat->St->Option R) (kr:St->Option R) (kp:A->St->Option R)
theorem TI:wy m6:=ZP
theorem TK:wy m7:=ZP
theorem TL:wy m8:=ZP
theorem PI:wy m9:=ZP
theorem PJ:wy mq:=ZP
def mt:=[m0,m1,m2,m3,m4,m5,m6,m7,m8,m9,mq]
theorem P9:∀ e∈mt,Cn 23 e.1 e.2.1=some e.2.2:=λe h=>by
 rcases qaD.1 h with rfl | h; exact TC
 rcases qaD.1 h with rfl | h; exact TD
 rcases qaD.1 h with rfl | h; exact TE
 rcases qaD.1 h with rfl | h; exact TF
 rcases qaD.1 h with rfl | h; exact TG
 rcases qaD.1 h with rfl | h; exact TH
 rcases qaD.1 h with rfl | h; exact TI
 rcases qaD.1 h with rfl | h; exact TK
 rcases qaD.1 h with rfl | h; exact TL
 rcases qaD.1 h with rfl | h; exact PI
 rcases qaD.1 h with rfl | h; exact PJ
 cases h
end Go.Proofs.Ytebkhfhcipnfgaa
