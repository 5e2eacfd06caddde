/-
  The program's functions as plain functions: by a tool; each follows the interpreter.
-/
import Derived.Test.YtooamdacfhfjoaaDoorE
import Derived.KernelRfl
import Derived.Lib.Strings
import Derived.Lib.Bytealg
namespace Go.Proofs.YtooamdacfhfjoaaDoor
set_option linter.unusedVariables false
set_option linter.unusedSimpArgs false
set_option maxHeartbeats 4000000
set_option maxRecDepth 100000
structure S_Limb where
  Dir : Int
  Level : Int
  deriving DecidableEq, Inhabited
def c_S_Limb (x : S_Limb) : List A := [(iA x.Dir), (iA x.Level)]
theorem fu_S_Limb : FlatU c_S_Limb := fun _ _ => by simp only [c_S_Limb, unders, A.under, underss_map, fu_cI, fu_c8, fu_cB, fu_cS, fu_cL, Bool.and_true, Bool.true_and]
theorem fl_S_Limb : FlatS c_S_Limb := fun _ _ => by simp only [c_S_Limb, snapW, snapWs, snapWss_map, fl_cI, fl_c8, fl_cB, fl_cS, fl_cL]
def c_A5_struct_S_Limb (x : (S_Limb × S_Limb × S_Limb × S_Limb × S_Limb)) : List A := [(iA x.1.Dir), (iA x.1.Level), (iA x.2.1.Dir), (iA x.2.1.Level), (iA x.2.2.1.Dir), (iA x.2.2.1.Level), (iA x.2.2.2.1.Dir), (iA x.2.2.2.1.Level), (iA x.2.2.2.2.Dir), (iA x.2.2.2.2.Level)]
theorem fu_A5_struct_S_Limb : FlatU c_A5_struct_S_Limb := fun _ _ => by simp only [c_A5_struct_S_Limb, unders, A.under, underss_map, fu_cI, fu_c8, fu_cB, fu_cS, fu_cL, Bool.and_true, Bool.true_and, fu_S_Limb]
theorem fl_A5_struct_S_Limb : FlatS c_A5_struct_S_Limb := fun _ _ => by simp only [c_A5_struct_S_Limb, snapW, snapWs, snapWss_map, fl_cI, fl_c8, fl_cB, fl_cS, fl_cL, fl_S_Limb]
structure S_State where
  X : Int
  Y : Int
  Face : Int
  Limbs : (S_Limb × S_Limb × S_Limb × S_Limb × S_Limb)
  deriving DecidableEq, Inhabited
def c_S_State (x : S_State) : List A := [(iA x.X), (iA x.Y), (iA x.Face), (iA x.Limbs.1.Dir), (iA x.Limbs.1.Level), (iA x.Limbs.2.1.Dir), (iA x.Limbs.2.1.Level), (iA x.Limbs.2.2.1.Dir), (iA x.Limbs.2.2.1.Level), (iA x.Limbs.2.2.2.1.Dir), (iA x.Limbs.2.2.2.1.Level), (iA x.Limbs.2.2.2.2.Dir), (iA x.Limbs.2.2.2.2.Level)]
theorem fu_S_State : FlatU c_S_State := fun _ _ => by simp only [c_S_State, unders, A.under, underss_map, fu_cI, fu_c8, fu_cB, fu_cS, fu_cL, Bool.and_true, Bool.true_and, fu_S_Limb, fu_A5_struct_S_Limb]
theorem fl_S_State : FlatS c_S_State := fun _ _ => by simp only [c_S_State, snapW, snapWs, snapWss_map, fl_cI, fl_c8, fl_cB, fl_cS, fl_cL, fl_S_Limb, fl_A5_struct_S_Limb]
def c_A3_int_i64 (x : (Int × Int × Int)) : List A := [(iA x.1), (iA x.2.1), (iA x.2.2)]
theorem fu_A3_int_i64 : FlatU c_A3_int_i64 := fun _ _ => by simp only [c_A3_int_i64, unders, A.under, underss_map, fu_cI, fu_c8, fu_cB, fu_cS, fu_cL, Bool.and_true, Bool.true_and, fu_S_Limb, fu_A5_struct_S_Limb, fu_S_State]
theorem fl_A3_int_i64 : FlatS c_A3_int_i64 := fun _ _ => by simp only [c_A3_int_i64, snapW, snapWs, snapWss_map, fl_cI, fl_c8, fl_cB, fl_cS, fl_cL, fl_S_Limb, fl_A5_struct_S_Limb, fl_S_State]
structure S_Body where
  Name : ByteArray
  Weight : Int
  Lift : Int
  Girth : Int
  Step : Int
  Jump : Int
  Reach : (Int × Int × Int)
  Speed : (Int × Int × Int)
  Top : (Int × Int × Int)
  Effort : Int
  Recover : Int
  deriving DecidableEq, Inhabited
def c_S_Body (x : S_Body) : List A := [(A.v (Value.string x.Name)), (iA x.Weight), (iA x.Lift), (iA x.Girth), (iA x.Step), (iA x.Jump), (iA x.Reach.1), (iA x.Reach.2.1), (iA x.Reach.2.2), (iA x.Speed.1), (iA x.Speed.2.1), (iA x.Speed.2.2), (iA x.Top.1), (iA x.Top.2.1), (iA x.Top.2.2), (iA x.Effort), (iA x.Recover)]
theorem fu_S_Body : FlatU c_S_Body := fun _ _ => by simp only [c_S_Body, unders, A.under, underss_map, fu_cI, fu_c8, fu_cB, fu_cS, fu_cL, Bool.and_true, Bool.true_and, fu_S_Limb, fu_A5_struct_S_Limb, fu_S_State, fu_A3_int_i64]
theorem fl_S_Body : FlatS c_S_Body := fun _ _ => by simp only [c_S_Body, snapW, snapWs, snapWss_map, fl_cI, fl_c8, fl_cB, fl_cS, fl_cL, fl_S_Limb, fl_A5_struct_S_Limb, fl_S_State, fl_A3_int_i64]
structure S_Role where
  Name : ByteArray
  X : Int
  Y : Int
  Face : Int
  deriving DecidableEq, Inhabited
def c_S_Role (x : S_Role) : List A := [(A.v (Value.string x.Name)), (iA x.X), (iA x.Y), (iA x.Face)]
theorem fu_S_Role : FlatU c_S_Role := fun _ _ => by simp only [c_S_Role, unders, A.under, underss_map, fu_cI, fu_c8, fu_cB, fu_cS, fu_cL, Bool.and_true, Bool.true_and, fu_S_Limb, fu_A5_struct_S_Limb, fu_S_State, fu_A3_int_i64, fu_S_Body]
theorem fl_S_Role : FlatS c_S_Role := fun _ _ => by simp only [c_S_Role, snapW, snapWs, snapWss_map, fl_cI, fl_c8, fl_cB, fl_cS, fl_cL, fl_S_Limb, fl_A5_struct_S_Limb, fl_S_State, fl_A3_int_i64, fl_S_Body]
structure S_Ratio where
  N : Int
  D : Int
  deriving DecidableEq, Inhabited
def c_S_Ratio (x : S_Ratio) : List A := [(iA x.N), (iA x.D)]
theorem fu_S_Ratio : FlatU c_S_Ratio := fun _ _ => by simp only [c_S_Ratio, unders, A.under, underss_map, fu_cI, fu_c8, fu_cB, fu_cS, fu_cL, Bool.and_true, Bool.true_and, fu_S_Limb, fu_A5_struct_S_Limb, fu_S_State, fu_A3_int_i64, fu_S_Body, fu_S_Role]
theorem fl_S_Ratio : FlatS c_S_Ratio := fun _ _ => by simp only [c_S_Ratio, snapW, snapWs, snapWss_map, fl_cI, fl_c8, fl_cB, fl_cS, fl_cL, fl_S_Limb, fl_A5_struct_S_Limb, fl_S_State, fl_A3_int_i64, fl_S_Body, fl_S_Role]
structure S_Sign where
  ID : Int
  Role : Int
  Bar : Int
  Mark : Int
  Kind : Int
  Side : Int
  Dir : Int
  Level : Int
  Size : Int
  With : Int
  From : S_Ratio
  To : S_Ratio
  deriving DecidableEq, Inhabited
def c_S_Sign (x : S_Sign) : List A := [(iA x.ID), (iA x.Role), (iA x.Bar), (iA x.Mark), (iA x.Kind), (iA x.Side), (iA x.Dir), (iA x.Level), (iA x.Size), (iA x.With), (iA x.From.N), (iA x.From.D), (iA x.To.N), (iA x.To.D)]
theorem fu_S_Sign : FlatU c_S_Sign := fun _ _ => by simp only [c_S_Sign, unders, A.under, underss_map, fu_cI, fu_c8, fu_cB, fu_cS, fu_cL, Bool.and_true, Bool.true_and, fu_S_Limb, fu_A5_struct_S_Limb, fu_S_State, fu_A3_int_i64, fu_S_Body, fu_S_Role, fu_S_Ratio]
theorem fl_S_Sign : FlatS c_S_Sign := fun _ _ => by simp only [c_S_Sign, snapW, snapWs, snapWss_map, fl_cI, fl_c8, fl_cB, fl_cS, fl_cL, fl_S_Limb, fl_A5_struct_S_Limb, fl_S_State, fl_A3_int_i64, fl_S_Body, fl_S_Role, fl_S_Ratio]
structure S_Real where
  Sign : Int
  Dir : Int
  Level : Int
  Drop : Bool
  deriving DecidableEq, Inhabited
def c_S_Real (x : S_Real) : List A := [(iA x.Sign), (iA x.Dir), (iA x.Level), (bA x.Drop)]
theorem fu_S_Real : FlatU c_S_Real := fun _ _ => by simp only [c_S_Real, unders, A.under, underss_map, fu_cI, fu_c8, fu_cB, fu_cS, fu_cL, Bool.and_true, Bool.true_and, fu_S_Limb, fu_A5_struct_S_Limb, fu_S_State, fu_A3_int_i64, fu_S_Body, fu_S_Role, fu_S_Ratio, fu_S_Sign]
theorem fl_S_Real : FlatS c_S_Real := fun _ _ => by simp only [c_S_Real, snapW, snapWs, snapWss_map, fl_cI, fl_c8, fl_cB, fl_cS, fl_cL, fl_S_Limb, fl_A5_struct_S_Limb, fl_S_State, fl_A3_int_i64, fl_S_Body, fl_S_Role, fl_S_Ratio, fl_S_Sign]
def c_A2_int_i64 (x : (Int × Int)) : List A := [(iA x.1), (iA x.2)]
theorem fu_A2_int_i64 : FlatU c_A2_int_i64 := fun _ _ => by simp only [c_A2_int_i64, unders, A.under, underss_map, fu_cI, fu_c8, fu_cB, fu_cS, fu_cL, Bool.and_true, Bool.true_and, fu_S_Limb, fu_A5_struct_S_Limb, fu_S_State, fu_A3_int_i64, fu_S_Body, fu_S_Role, fu_S_Ratio, fu_S_Sign, fu_S_Real]
theorem fl_A2_int_i64 : FlatS c_A2_int_i64 := fun _ _ => by simp only [c_A2_int_i64, snapW, snapWs, snapWss_map, fl_cI, fl_c8, fl_cB, fl_cS, fl_cL, fl_S_Limb, fl_A5_struct_S_Limb, fl_S_State, fl_A3_int_i64, fl_S_Body, fl_S_Role, fl_S_Ratio, fl_S_Sign, fl_S_Real]
theorem ce_A2_int_i64 : CellF c_A2_int_i64 := fun _ => rfl
def c_A4_arr_2_int_i64 (x : ((Int × Int) × (Int × Int) × (Int × Int) × (Int × Int))) : List A := [(iA x.1.1), (iA x.1.2), (iA x.2.1.1), (iA x.2.1.2), (iA x.2.2.1.1), (iA x.2.2.1.2), (iA x.2.2.2.1), (iA x.2.2.2.2)]
theorem fu_A4_arr_2_int_i64 : FlatU c_A4_arr_2_int_i64 := fun _ _ => by simp only [c_A4_arr_2_int_i64, unders, A.under, underss_map, fu_cI, fu_c8, fu_cB, fu_cS, fu_cL, Bool.and_true, Bool.true_and, fu_S_Limb, fu_A5_struct_S_Limb, fu_S_State, fu_A3_int_i64, fu_S_Body, fu_S_Role, fu_S_Ratio, fu_S_Sign, fu_S_Real, fu_A2_int_i64]
theorem fl_A4_arr_2_int_i64 : FlatS c_A4_arr_2_int_i64 := fun _ _ => by simp only [c_A4_arr_2_int_i64, snapW, snapWs, snapWss_map, fl_cI, fl_c8, fl_cB, fl_cS, fl_cL, fl_S_Limb, fl_A5_struct_S_Limb, fl_S_State, fl_A3_int_i64, fl_S_Body, fl_S_Role, fl_S_Ratio, fl_S_Sign, fl_S_Real, fl_A2_int_i64]
def c_A2_arr_2_int_i64 (x : ((Int × Int) × (Int × Int))) : List A := [(iA x.1.1), (iA x.1.2), (iA x.2.1), (iA x.2.2)]
theorem fu_A2_arr_2_int_i64 : FlatU c_A2_arr_2_int_i64 := fun _ _ => by simp only [c_A2_arr_2_int_i64, unders, A.under, underss_map, fu_cI, fu_c8, fu_cB, fu_cS, fu_cL, Bool.and_true, Bool.true_and, fu_S_Limb, fu_A5_struct_S_Limb, fu_S_State, fu_A3_int_i64, fu_S_Body, fu_S_Role, fu_S_Ratio, fu_S_Sign, fu_S_Real, fu_A2_int_i64, fu_A4_arr_2_int_i64]
theorem fl_A2_arr_2_int_i64 : FlatS c_A2_arr_2_int_i64 := fun _ _ => by simp only [c_A2_arr_2_int_i64, snapW, snapWs, snapWss_map, fl_cI, fl_c8, fl_cB, fl_cS, fl_cL, fl_S_Limb, fl_A5_struct_S_Limb, fl_S_State, fl_A3_int_i64, fl_S_Body, fl_S_Role, fl_S_Ratio, fl_S_Sign, fl_S_Real, fl_A2_int_i64, fl_A4_arr_2_int_i64]
def c_A4_int_i64 (x : (Int × Int × Int × Int)) : List A := [(iA x.1), (iA x.2.1), (iA x.2.2.1), (iA x.2.2.2)]
theorem fu_A4_int_i64 : FlatU c_A4_int_i64 := fun _ _ => by simp only [c_A4_int_i64, unders, A.under, underss_map, fu_cI, fu_c8, fu_cB, fu_cS, fu_cL, Bool.and_true, Bool.true_and, fu_S_Limb, fu_A5_struct_S_Limb, fu_S_State, fu_A3_int_i64, fu_S_Body, fu_S_Role, fu_S_Ratio, fu_S_Sign, fu_S_Real, fu_A2_int_i64, fu_A4_arr_2_int_i64, fu_A2_arr_2_int_i64]
theorem fl_A4_int_i64 : FlatS c_A4_int_i64 := fun _ _ => by simp only [c_A4_int_i64, snapW, snapWs, snapWss_map, fl_cI, fl_c8, fl_cB, fl_cS, fl_cL, fl_S_Limb, fl_A5_struct_S_Limb, fl_S_State, fl_A3_int_i64, fl_S_Body, fl_S_Role, fl_S_Ratio, fl_S_Sign, fl_S_Real, fl_A2_int_i64, fl_A4_arr_2_int_i64, fl_A2_arr_2_int_i64]
structure S_pose_change where
  State : S_State
  sign : S_Sign
  real : S_Real
  deriving DecidableEq, Inhabited
def c_S_pose_change (x : S_pose_change) : List A := [(iA x.State.X), (iA x.State.Y), (iA x.State.Face), (iA x.State.Limbs.1.Dir), (iA x.State.Limbs.1.Level), (iA x.State.Limbs.2.1.Dir), (iA x.State.Limbs.2.1.Level), (iA x.State.Limbs.2.2.1.Dir), (iA x.State.Limbs.2.2.1.Level), (iA x.State.Limbs.2.2.2.1.Dir), (iA x.State.Limbs.2.2.2.1.Level), (iA x.State.Limbs.2.2.2.2.Dir), (iA x.State.Limbs.2.2.2.2.Level), (iA x.sign.ID), (iA x.sign.Role), (iA x.sign.Bar), (iA x.sign.Mark), (iA x.sign.Kind), (iA x.sign.Side), (iA x.sign.Dir), (iA x.sign.Level), (iA x.sign.Size), (iA x.sign.With), (iA x.sign.From.N), (iA x.sign.From.D), (iA x.sign.To.N), (iA x.sign.To.D), (iA x.real.Sign), (iA x.real.Dir), (iA x.real.Level), (bA x.real.Drop)]
theorem fu_S_pose_change : FlatU c_S_pose_change := fun _ _ => by simp only [c_S_pose_change, unders, A.under, underss_map, fu_cI, fu_c8, fu_cB, fu_cS, fu_cL, Bool.and_true, Bool.true_and, fu_S_Limb, fu_A5_struct_S_Limb, fu_S_State, fu_A3_int_i64, fu_S_Body, fu_S_Role, fu_S_Ratio, fu_S_Sign, fu_S_Real, fu_A2_int_i64, fu_A4_arr_2_int_i64, fu_A2_arr_2_int_i64, fu_A4_int_i64]
theorem fl_S_pose_change : FlatS c_S_pose_change := fun _ _ => by simp only [c_S_pose_change, snapW, snapWs, snapWss_map, fl_cI, fl_c8, fl_cB, fl_cS, fl_cL, fl_S_Limb, fl_A5_struct_S_Limb, fl_S_State, fl_A3_int_i64, fl_S_Body, fl_S_Role, fl_S_Ratio, fl_S_Sign, fl_S_Real, fl_A2_int_i64, fl_A4_arr_2_int_i64, fl_A2_arr_2_int_i64, fl_A4_int_i64]
structure S_Range where
  Lo : Int
  Hi : Int
  deriving DecidableEq, Inhabited
def c_S_Range (x : S_Range) : List A := [(iA x.Lo), (iA x.Hi)]
theorem fu_S_Range : FlatU c_S_Range := fun _ _ => by simp only [c_S_Range, unders, A.under, underss_map, fu_cI, fu_c8, fu_cB, fu_cS, fu_cL, Bool.and_true, Bool.true_and, fu_S_Limb, fu_A5_struct_S_Limb, fu_S_State, fu_A3_int_i64, fu_S_Body, fu_S_Role, fu_S_Ratio, fu_S_Sign, fu_S_Real, fu_A2_int_i64, fu_A4_arr_2_int_i64, fu_A2_arr_2_int_i64, fu_A4_int_i64, fu_S_pose_change]
theorem fl_S_Range : FlatS c_S_Range := fun _ _ => by simp only [c_S_Range, snapW, snapWs, snapWss_map, fl_cI, fl_c8, fl_cB, fl_cS, fl_cL, fl_S_Limb, fl_A5_struct_S_Limb, fl_S_State, fl_A3_int_i64, fl_S_Body, fl_S_Role, fl_S_Ratio, fl_S_Sign, fl_S_Real, fl_A2_int_i64, fl_A4_arr_2_int_i64, fl_A2_arr_2_int_i64, fl_A4_int_i64, fl_S_pose_change]
structure S_Box where
  X : S_Range
  Y : S_Range
  deriving DecidableEq, Inhabited
def c_S_Box (x : S_Box) : List A := [(iA x.X.Lo), (iA x.X.Hi), (iA x.Y.Lo), (iA x.Y.Hi)]
theorem fu_S_Box : FlatU c_S_Box := fun _ _ => by simp only [c_S_Box, unders, A.under, underss_map, fu_cI, fu_c8, fu_cB, fu_cS, fu_cL, Bool.and_true, Bool.true_and, fu_S_Limb, fu_A5_struct_S_Limb, fu_S_State, fu_A3_int_i64, fu_S_Body, fu_S_Role, fu_S_Ratio, fu_S_Sign, fu_S_Real, fu_A2_int_i64, fu_A4_arr_2_int_i64, fu_A2_arr_2_int_i64, fu_A4_int_i64, fu_S_pose_change, fu_S_Range]
theorem fl_S_Box : FlatS c_S_Box := fun _ _ => by simp only [c_S_Box, snapW, snapWs, snapWss_map, fl_cI, fl_c8, fl_cB, fl_cS, fl_cL, fl_S_Limb, fl_A5_struct_S_Limb, fl_S_State, fl_A3_int_i64, fl_S_Body, fl_S_Role, fl_S_Ratio, fl_S_Sign, fl_S_Real, fl_A2_int_i64, fl_A4_arr_2_int_i64, fl_A2_arr_2_int_i64, fl_A4_int_i64, fl_S_pose_change, fl_S_Range]
structure S_body_contract where
  Body : S_Body
  deriving DecidableEq, Inhabited
def c_S_body_contract (x : S_body_contract) : List A := [(A.v (Value.string x.Body.Name)), (iA x.Body.Weight), (iA x.Body.Lift), (iA x.Body.Girth), (iA x.Body.Step), (iA x.Body.Jump), (iA x.Body.Reach.1), (iA x.Body.Reach.2.1), (iA x.Body.Reach.2.2), (iA x.Body.Speed.1), (iA x.Body.Speed.2.1), (iA x.Body.Speed.2.2), (iA x.Body.Top.1), (iA x.Body.Top.2.1), (iA x.Body.Top.2.2), (iA x.Body.Effort), (iA x.Body.Recover)]
theorem fu_S_body_contract : FlatU c_S_body_contract := fun _ _ => by simp only [c_S_body_contract, unders, A.under, underss_map, fu_cI, fu_c8, fu_cB, fu_cS, fu_cL, Bool.and_true, Bool.true_and, fu_S_Limb, fu_A5_struct_S_Limb, fu_S_State, fu_A3_int_i64, fu_S_Body, fu_S_Role, fu_S_Ratio, fu_S_Sign, fu_S_Real, fu_A2_int_i64, fu_A4_arr_2_int_i64, fu_A2_arr_2_int_i64, fu_A4_int_i64, fu_S_pose_change, fu_S_Range, fu_S_Box]
theorem fl_S_body_contract : FlatS c_S_body_contract := fun _ _ => by simp only [c_S_body_contract, snapW, snapWs, snapWss_map, fl_cI, fl_c8, fl_cB, fl_cS, fl_cL, fl_S_Limb, fl_A5_struct_S_Limb, fl_S_State, fl_A3_int_i64, fl_S_Body, fl_S_Role, fl_S_Ratio, fl_S_Sign, fl_S_Real, fl_A2_int_i64, fl_A4_arr_2_int_i64, fl_A2_arr_2_int_i64, fl_A4_int_i64, fl_S_pose_change, fl_S_Range, fl_S_Box]
structure S_Vec where
  X : Int
  Y : Int
  Z : Int
  deriving DecidableEq, Inhabited
def c_S_Vec (x : S_Vec) : List A := [(iA x.X), (iA x.Y), (iA x.Z)]
theorem fu_S_Vec : FlatU c_S_Vec := fun _ _ => by simp only [c_S_Vec, unders, A.under, underss_map, fu_cI, fu_c8, fu_cB, fu_cS, fu_cL, Bool.and_true, Bool.true_and, fu_S_Limb, fu_A5_struct_S_Limb, fu_S_State, fu_A3_int_i64, fu_S_Body, fu_S_Role, fu_S_Ratio, fu_S_Sign, fu_S_Real, fu_A2_int_i64, fu_A4_arr_2_int_i64, fu_A2_arr_2_int_i64, fu_A4_int_i64, fu_S_pose_change, fu_S_Range, fu_S_Box, fu_S_body_contract]
theorem fl_S_Vec : FlatS c_S_Vec := fun _ _ => by simp only [c_S_Vec, snapW, snapWs, snapWss_map, fl_cI, fl_c8, fl_cB, fl_cS, fl_cL, fl_S_Limb, fl_A5_struct_S_Limb, fl_S_State, fl_A3_int_i64, fl_S_Body, fl_S_Role, fl_S_Ratio, fl_S_Sign, fl_S_Real, fl_A2_int_i64, fl_A4_arr_2_int_i64, fl_A2_arr_2_int_i64, fl_A4_int_i64, fl_S_pose_change, fl_S_Range, fl_S_Box, fl_S_body_contract]
def c_A5_int_i64 (x : (Int × Int × Int × Int × Int)) : List A := [(iA x.1), (iA x.2.1), (iA x.2.2.1), (iA x.2.2.2.1), (iA x.2.2.2.2)]
theorem fu_A5_int_i64 : FlatU c_A5_int_i64 := fun _ _ => by simp only [c_A5_int_i64, unders, A.under, underss_map, fu_cI, fu_c8, fu_cB, fu_cS, fu_cL, Bool.and_true, Bool.true_and, fu_S_Limb, fu_A5_struct_S_Limb, fu_S_State, fu_A3_int_i64, fu_S_Body, fu_S_Role, fu_S_Ratio, fu_S_Sign, fu_S_Real, fu_A2_int_i64, fu_A4_arr_2_int_i64, fu_A2_arr_2_int_i64, fu_A4_int_i64, fu_S_pose_change, fu_S_Range, fu_S_Box, fu_S_body_contract, fu_S_Vec]
theorem fl_A5_int_i64 : FlatS c_A5_int_i64 := fun _ _ => by simp only [c_A5_int_i64, snapW, snapWs, snapWss_map, fl_cI, fl_c8, fl_cB, fl_cS, fl_cL, fl_S_Limb, fl_A5_struct_S_Limb, fl_S_State, fl_A3_int_i64, fl_S_Body, fl_S_Role, fl_S_Ratio, fl_S_Sign, fl_S_Real, fl_A2_int_i64, fl_A4_arr_2_int_i64, fl_A2_arr_2_int_i64, fl_A4_int_i64, fl_S_pose_change, fl_S_Range, fl_S_Box, fl_S_body_contract, fl_S_Vec]
def c_A4_bool (x : (Bool × Bool × Bool × Bool)) : List A := [(bA x.1), (bA x.2.1), (bA x.2.2.1), (bA x.2.2.2)]
theorem fu_A4_bool : FlatU c_A4_bool := fun _ _ => by simp only [c_A4_bool, unders, A.under, underss_map, fu_cI, fu_c8, fu_cB, fu_cS, fu_cL, Bool.and_true, Bool.true_and, fu_S_Limb, fu_A5_struct_S_Limb, fu_S_State, fu_A3_int_i64, fu_S_Body, fu_S_Role, fu_S_Ratio, fu_S_Sign, fu_S_Real, fu_A2_int_i64, fu_A4_arr_2_int_i64, fu_A2_arr_2_int_i64, fu_A4_int_i64, fu_S_pose_change, fu_S_Range, fu_S_Box, fu_S_body_contract, fu_S_Vec, fu_A5_int_i64]
theorem fl_A4_bool : FlatS c_A4_bool := fun _ _ => by simp only [c_A4_bool, snapW, snapWs, snapWss_map, fl_cI, fl_c8, fl_cB, fl_cS, fl_cL, fl_S_Limb, fl_A5_struct_S_Limb, fl_S_State, fl_A3_int_i64, fl_S_Body, fl_S_Role, fl_S_Ratio, fl_S_Sign, fl_S_Real, fl_A2_int_i64, fl_A4_arr_2_int_i64, fl_A2_arr_2_int_i64, fl_A4_int_i64, fl_S_pose_change, fl_S_Range, fl_S_Box, fl_S_body_contract, fl_S_Vec, fl_A5_int_i64]
def F29 (n : Nat) (a0 : Int) (a1 : Int) (a2 : Int) : Option Bool :=
  Option.bind (bif (decide (a1 ≤ a0)) then (some (decide (a0 ≤ a2))) else (some false)) fun y2 => some y2
theorem T29 (C : Nat → List A → Option A) (n : Nat) (a0 : Int) (a1 : Int) (a2 : Int) : J (fun (o : R) y => ∃ v, o.1 = .ret v ∧ snapE o.2 v = (bA y)) (evCall1 (cx C) (evCall (cx C) (n+8)) (evCallY (cx C) (n+8)) (n+8) 29 [(iA a0), (iA a1), (iA a2)] [] 0) some (F29 n a0 a1 a2) some := by
  refine .lp (e29 ..) ?_
  unfold F29
  refine .st (v := (bA (decide (a1 ≤ a0)))) (aBin_leq ..) ?_
  refine .bg (fun t (y : Bool) => ∃ j3 j4 j5 : A, t = [(bA y), j3, j4, j5]) ?_ ?_
  · refine .biH (fun hk1 => ?_) (fun hk1 => ?_)
    · refine .st (v := (bA (decide (a0 ≤ a2)))) (aBin_leq ..) ?_
      exact .lg ⟨_, _, _, rfl⟩
    exact .lg ⟨_, _, _, rfl⟩
  rintro _ y2 ⟨j3, j4, j5, rfl⟩
  iterate 4 refine .uc ?_
  exact .lf rfl rfl ⟨_, rfl, rfl⟩
def G29 (a0 : Int) (a1 : Int) (a2 : Int) : Option Bool := F29 fuel0 a0 a1 a2
def Orc29 (C : Nat → List A → Option A) : Prop := ∀ (a0 : Int) (a1 : Int) (a2 : Int), C 29 [(iA a0), (iA a1), (iA a2)] = (G29 a0 a1 a2).map fun y => (bA y)
def F12 (n : Nat) (a0 : S_Role) : Option (S_State × Int) :=
  Option.bind (G29 a0.X 0 1000) fun y1 => Option.bind (bif (!y1) then (some true) else (Option.bind (G29 a0.Y 0 1000) fun y3 => some (!y3))) fun y4 => Option.bind (bif y4 then (some true) else (Option.bind (G29 a0.Face 0 7) fun y10 => some (!y10))) fun y11 => bif y11 then (some (((S_State.mk 0 0 0 (((S_Limb.mk 0 0), (S_Limb.mk 0 0), (S_Limb.mk 0 0), (S_Limb.mk 0 0), (S_Limb.mk 0 0)))), 1))) else (some (((S_State.mk (wr .i64 (29 * a0.X)) (wr .i64 (29 * a0.Y)) a0.Face (((S_Limb.mk 0 0), (S_Limb.mk 0 0), (S_Limb.mk 0 0), (S_Limb.mk 0 0), (S_Limb.mk 0 0)))), 0)))
theorem T12 (C : Nat → List A → Option A) (n : Nat) (h29 : Orc29 C) (a0 : S_Role) : J (fun (o : R) y => ∃ v, o.1 = .ret v ∧ snapE o.2 v = (A.tup [(A.agg [(iA y.1.X), (iA y.1.Y), (iA y.1.Face), (iA y.1.Limbs.1.Dir), (iA y.1.Limbs.1.Level), (iA y.1.Limbs.2.1.Dir), (iA y.1.Limbs.2.1.Level), (iA y.1.Limbs.2.2.1.Dir), (iA y.1.Limbs.2.2.1.Level), (iA y.1.Limbs.2.2.2.1.Dir), (iA y.1.Limbs.2.2.2.1.Level), (iA y.1.Limbs.2.2.2.2.Dir), (iA y.1.Limbs.2.2.2.2.Level)]), (iA y.2)])) (evCall1 (cx C) (evCall (cx C) (n+8)) (evCallY (cx C) (n+8)) (n+8) 12 [(A.agg (c_S_Role a0))] [] 0) some (F12 n a0) some := by
  refine .lp (e12 ..) ?_
  unfold F12
  refine .s ((A.ptr 0 0), [Blk.box (c_S_Role a0)]) (.s ((A.ptr 1 0), [Blk.box (c_S_Role a0), Blk.box [(iA 0), (iA 0), (iA 0), (iA 0), (iA 0), (iA 0), (iA 0), (iA 0), (iA 0), (iA 0), (iA 0), (iA 0), (iA 0)]]) (.s (A.ptr 0 1) (.s (iA a0.X) ?_)))
  refine .bd (g := fun (y : Bool) => (bA y)) (h29 a0.X 0 1000) fun y1 => ?_
  refine .s (bA (!y1)) ?_
  refine .bg (fun t (y : Bool) => ∃ j5 j6 j7 j8 : A, t = [(bA y), j5, j6, j7, j8]) ?_ ?_
  · refine .biH (fun hk2 => ?_) (fun hk2 => ?_)
    · exact .lg ⟨_, _, _, _, rfl⟩
    refine .s (A.ptr 0 2) (.s (iA a0.Y) ?_)
    refine .bd (g := fun (y : Bool) => (bA y)) (h29 a0.Y 0 1000) fun y3 => ?_
    refine .s (bA (!y3)) ?_
    exact .lg ⟨_, _, _, _, rfl⟩
  rintro _ y4 ⟨j5, j6, j7, j8, rfl⟩
  iterate 5 refine .uc ?_
  refine .bg (fun t (y : Bool) => ∃ j12 j13 j14 j15 : A, t = [(bA y), j12, j13, j14, j15]) ?_ ?_
  · refine .biH (fun hk9 => ?_) (fun hk9 => ?_)
    · exact .lg ⟨_, _, _, _, rfl⟩
    refine .s (A.ptr 0 3) (.s (iA a0.Face) ?_)
    refine .bd (g := fun (y : Bool) => (bA y)) (h29 a0.Face 0 7) fun y10 => ?_
    refine .s (bA (!y10)) ?_
    exact .lg ⟨_, _, _, _, rfl⟩
  rintro _ y11 ⟨j12, j13, j14, j15, rfl⟩
  iterate 5 refine .uc ?_
  refine .biHN (fun hk16 => ?_) (fun hk16 => ?_)
  · refine .s (A.agg [(iA 0), (iA 0), (iA 0), (iA 0), (iA 0), (iA 0), (iA 0), (iA 0), (iA 0), (iA 0), (iA 0), (iA 0), (iA 0)]) (.s [Blk.box (c_S_Role a0), Blk.box [(iA 0), (iA 0), (iA 0), (iA 0), (iA 0), (iA 0), (iA 0), (iA 0), (iA 0), (iA 0), (iA 0), (iA 0), (iA 0)]] (.s (A.agg [(iA 0), (iA 0), (iA 0), (iA 0), (iA 0), (iA 0), (iA 0), (iA 0), (iA 0), (iA 0), (iA 0), (iA 0), (iA 0)]) ?_))
    exact .lf rfl rfl ⟨_, rfl, rfl⟩
  refine .s (A.ptr 0 1) (.s (iA a0.X) ?_)
  refine .st (v := (iA (wr .i64 (29 * a0.X)))) (aBin_mul ..) ?_
  refine .s (A.ptr 0 2) (.s (iA a0.Y) ?_)
  refine .st (v := (iA (wr .i64 (29 * a0.Y)))) (aBin_mul ..) ?_
  refine .s (A.ptr 0 3) (.s (iA a0.Face) (.s (A.agg [(iA (wr .i64 (29 * a0.X))), (iA (wr .i64 (29 * a0.Y))), (iA a0.Face), (iA 0), (iA 0), (iA 0), (iA 0), (iA 0), (iA 0), (iA 0), (iA 0), (iA 0), (iA 0)]) (.s [Blk.box (c_S_Role a0), Blk.box [(iA (wr .i64 (29 * a0.X))), (iA (wr .i64 (29 * a0.Y))), (iA a0.Face), (iA 0), (iA 0), (iA 0), (iA 0), (iA 0), (iA 0), (iA 0), (iA 0), (iA 0), (iA 0)]] (.s (A.agg [(iA (wr .i64 (29 * a0.X))), (iA (wr .i64 (29 * a0.Y))), (iA a0.Face), (iA 0), (iA 0), (iA 0), (iA 0), (iA 0), (iA 0), (iA 0), (iA 0), (iA 0), (iA 0)]) ?_))))
  exact .lf rfl rfl ⟨_, rfl, rfl⟩
def G12 (a0 : S_Role) : Option (S_State × Int) := F12 fuel0 a0
def Orc12 (C : Nat → List A → Option A) : Prop := ∀ (a0 : S_Role), C 12 [(A.agg (c_S_Role a0))] = (G12 a0).map fun y => (A.tup [(A.agg [(iA y.1.X), (iA y.1.Y), (iA y.1.Face), (iA y.1.Limbs.1.Dir), (iA y.1.Limbs.1.Level), (iA y.1.Limbs.2.1.Dir), (iA y.1.Limbs.2.1.Level), (iA y.1.Limbs.2.2.1.Dir), (iA y.1.Limbs.2.2.1.Level), (iA y.1.Limbs.2.2.2.1.Dir), (iA y.1.Limbs.2.2.2.1.Level), (iA y.1.Limbs.2.2.2.2.Dir), (iA y.1.Limbs.2.2.2.2.Level)]), (iA y.2)])
def F16_16_0 (n : Nat) (v17 : Int) (v18 : Int) (v19 : Int) (v20 : Int) (v21 : Int) (v22 : Int) (v23 : Int) (v24 : Int) (v25 : Int) (v26 : Int) (v27 : Int) (v29 : S_State) : Nat → Int → Option ((Int × Int × Int) ⊕ (Unit))
  | 0, _ => none
  | m + 1, v28 => bif (decide (v28 < 5)) then (Option.bind (bif decide (v28 = 0) then (some ((v18, v19))) else bif decide (v28 = 1) then (some ((v20, v21))) else bif decide (v28 = 2) then (some ((v22, v23))) else bif decide (v28 = 3) then (some ((v24, v25))) else bif decide (v28 = 4) then (some ((v26, v27))) else none) fun y31 => Option.bind (bif (!((y31.1 == 0) && (y31.2 == 0))) then (Option.bind (G29 y31.1 0 8) fun y38 => Option.bind (bif (!y38) then (some true) else (Option.bind (G29 y31.2 1 3) fun y40 => some (!y40))) fun y41 => some y41) else (some false)) fun y46 => bif y46 then (some ((Sum.inl ((260, y31.1, y31.2))))) else (F16_16_0 n v17 v18 v19 v20 v21 v22 v23 v24 v25 v26 v27 v29 m (wr .i64 (v28 + 1)))) else (some ((Sum.inr (()))))
theorem T16_16_0 (C : Nat → List A → Option A) (n : Nat) (h29 : Orc29 C) (v17 : Int) (v18 : Int) (v19 : Int) (v20 : Int) (v21 : Int) (v22 : Int) (v23 : Int) (v24 : Int) (v25 : Int) (v26 : Int) (v27 : Int) (v29 : S_State) {ρ γ : Type} {φ : ρ → γ → Prop} {kL : R → Option ρ} {K : ((Int × Int × Int) ⊕ (Unit)) → Option γ} (kx kg : Nat → St → Option R) (kr : St → Option R) (kp : A → St → Option R) (x0 : ∀ (o0 : Int) (o1 : Int) (o2 : Int) (s22 : A) (s23 : A), J φ (kr (St.mk [(2, (iA o0)), (22, s22), (23, s23)] [Blk.box (c_S_State v29), Blk.box [(iA o1), (iA o2)]])) kL (K (Sum.inl ((o0, o1, o2)))) some) (x1 : ∀ (s2 : A) (s22 : A) (s23 : A), J φ (kx 0 (St.mk [(2, s2), (22, s22), (23, s23)] [Blk.box (c_S_State v29)])) kL (K (Sum.inr (()))) some) :
    ∀ (m : Nat) (v28 : Int), J φ (loopR (cx C) (evCall (cx C) (n+8)) (evCallY (cx C) (n+8)) (n+8) 16 0 0 1 kx kg kr kp m (St.mk [(2, (iA v17)), (22, (A.agg [(iA v18), (iA v19), (iA v20), (iA v21), (iA v22), (iA v23), (iA v24), (iA v25), (iA v26), (iA v27)])), (23, (iA v28))] [Blk.box (c_S_State v29)])) kL (F16_16_0 n v17 v18 v19 v20 v21 v22 v23 v24 v25 v26 v27 v29 m v28) K := by
  intro m
  induction m with
  | zero => intros; exact .nn
  | succ m ih =>
    intro v28
    refine .lp (e16_0 ..) ?_
    unfold F16_16_0
    refine .st (v := (bA (decide (v28 < 5)))) (aBin_lss ..) ?_
    refine .biHN (fun hk30 => ?_) (fun hk30 => ?_)
    · refine .bg (fun t (y : Int × Int) => t = (A.agg [(iA y.1), (iA y.2)])) ?_ ?_
      · refine .sp (fun hb32 => ?_) (fun _ => ?_)
        · exact .lp (by rw [of_decide_eq_true hb32]; kernel_rfl : _ = some (A.agg [(iA v18), (iA v19)])) (.lg rfl)
        refine .sp (fun hb33 => ?_) (fun _ => ?_)
        · exact .lp (by rw [of_decide_eq_true hb33]; kernel_rfl : _ = some (A.agg [(iA v20), (iA v21)])) (.lg rfl)
        refine .sp (fun hb34 => ?_) (fun _ => ?_)
        · exact .lp (by rw [of_decide_eq_true hb34]; kernel_rfl : _ = some (A.agg [(iA v22), (iA v23)])) (.lg rfl)
        refine .sp (fun hb35 => ?_) (fun _ => ?_)
        · exact .lp (by rw [of_decide_eq_true hb35]; kernel_rfl : _ = some (A.agg [(iA v24), (iA v25)])) (.lg rfl)
        refine .sp (fun hb36 => ?_) (fun _ => ?_)
        · exact .lp (by rw [of_decide_eq_true hb36]; kernel_rfl : _ = some (A.agg [(iA v26), (iA v27)])) (.lg rfl)
        exact .nn
      rintro _ y31 rfl
      refine .s ((A.ptr 1 0), [Blk.box (c_S_State v29), Blk.box [(iA 0), (iA 0)]]) (.s [Blk.box (c_S_State v29), Blk.box [(iA y31.1), (iA y31.2)]] (.s (A.agg [(iA y31.1), (iA y31.2)]) (.s (A.agg [(iA 0), (iA 0)]) (.s (bA (!((y31.1 == 0) && (y31.2 == 0)))) ?_))))
      refine .bg (fun t (y : Bool) => ∃ j47 j48 j49 j50 j51 j52 j53 j54 j55 j56 : A, t = [(bA y), j47, j48, j49, j50, j51, j52, j53, j54, j55, j56]) ?_ ?_
      · refine .biH (fun hk37 => ?_) (fun hk37 => ?_)
        · refine .s (A.ptr 1 0) (.s (iA y31.1) ?_)
          refine .bd (g := fun (y : Bool) => (bA y)) (h29 y31.1 0 8) fun y38 => ?_
          refine .s (bA (!y38)) ?_
          refine .bg (fun t (y : Bool) => ∃ j42 j43 j44 j45 : A, t = [(bA y), j42, j43, j44, j45]) ?_ ?_
          · refine .biH (fun hk39 => ?_) (fun hk39 => ?_)
            · exact .lg ⟨_, _, _, _, rfl⟩
            refine .s (A.ptr 1 1) (.s (iA y31.2) ?_)
            refine .bd (g := fun (y : Bool) => (bA y)) (h29 y31.2 1 3) fun y40 => ?_
            refine .s (bA (!y40)) ?_
            exact .lg ⟨_, _, _, _, rfl⟩
          rintro _ y41 ⟨j42, j43, j44, j45, rfl⟩
          iterate 5 refine .uc ?_
          exact .lg ⟨_, _, _, _, _, _, _, _, _, _, rfl⟩
        exact .lg ⟨_, _, _, _, _, _, _, _, _, _, rfl⟩
      rintro _ y46 ⟨j47, j48, j49, j50, j51, j52, j53, j54, j55, j56, rfl⟩
      iterate 11 refine .uc ?_
      refine .biHN (fun hk57 => ?_) (fun hk57 => ?_)
      · exact .ex (x0 _ _ _ _ _)
      refine .st (v := (iA (wr .i64 (v28 + 1)))) (aBin_add ..) ?_
      refine .s [Blk.box (c_S_State v29)] ?_
      refine .cT (by kernel_rfl) ?_
      exact ih _
    exact .ex (x1 _ _ _)
def F16 (n : Nat) (a0 : S_State) : Option Int :=
  Option.bind (G29 a0.X (-1073741824) 1073741824) fun y1 => Option.bind (bif (!y1) then (some true) else (Option.bind (G29 a0.Y (-1073741824) 1073741824) fun y3 => some (!y3))) fun y4 => Option.bind (bif y4 then (some true) else (Option.bind (G29 a0.Face 0 7) fun y10 => some (!y10))) fun y11 => bif y11 then (some 260) else (Option.bind (F16_16_0 n 0 a0.Limbs.1.Dir a0.Limbs.1.Level a0.Limbs.2.1.Dir a0.Limbs.2.1.Level a0.Limbs.2.2.1.Dir a0.Limbs.2.2.1.Level a0.Limbs.2.2.2.1.Dir a0.Limbs.2.2.2.1.Level a0.Limbs.2.2.2.2.Dir a0.Limbs.2.2.2.2.Level a0 (n+8) 0) fun o58 => match o58 with | (Sum.inl ((y59, y60, y61))) => some y59 | (Sum.inr _) => some 0)
theorem T16 (C : Nat → List A → Option A) (n : Nat) (h29 : Orc29 C) (a0 : S_State) : J (fun (o : R) y => ∃ v, o.1 = .ret v ∧ snapE o.2 v = (iA y)) (evCall1 (cx C) (evCall (cx C) (n+8)) (evCallY (cx C) (n+8)) (n+8) 16 [(A.agg (c_S_State a0))] [] 0) some (F16 n a0) some := by
  refine .lp (e16 ..) ?_
  unfold F16
  refine .s ((A.ptr 0 0), [Blk.box (c_S_State a0)]) (.s (A.ptr 0 0) (.s (iA a0.X) ?_))
  refine .bd (g := fun (y : Bool) => (bA y)) (h29 a0.X (-1073741824) 1073741824) fun y1 => ?_
  refine .s (bA (!y1)) ?_
  refine .bg (fun t (y : Bool) => ∃ j5 j6 j7 j8 : A, t = [(bA y), j5, j6, j7, j8]) ?_ ?_
  · refine .biH (fun hk2 => ?_) (fun hk2 => ?_)
    · exact .lg ⟨_, _, _, _, rfl⟩
    refine .s (A.ptr 0 1) (.s (iA a0.Y) ?_)
    refine .bd (g := fun (y : Bool) => (bA y)) (h29 a0.Y (-1073741824) 1073741824) fun y3 => ?_
    refine .s (bA (!y3)) ?_
    exact .lg ⟨_, _, _, _, rfl⟩
  rintro _ y4 ⟨j5, j6, j7, j8, rfl⟩
  iterate 5 refine .uc ?_
  refine .bg (fun t (y : Bool) => ∃ j12 j13 j14 j15 : A, t = [(bA y), j12, j13, j14, j15]) ?_ ?_
  · refine .biH (fun hk9 => ?_) (fun hk9 => ?_)
    · exact .lg ⟨_, _, _, _, rfl⟩
    refine .s (A.ptr 0 2) (.s (iA a0.Face) ?_)
    refine .bd (g := fun (y : Bool) => (bA y)) (h29 a0.Face 0 7) fun y10 => ?_
    refine .s (bA (!y10)) ?_
    exact .lg ⟨_, _, _, _, rfl⟩
  rintro _ y11 ⟨j12, j13, j14, j15, rfl⟩
  iterate 5 refine .uc ?_
  refine .biHN (fun hk16 => ?_) (fun hk16 => ?_)
  · exact .lf rfl rfl ⟨_, rfl, rfl⟩
  refine .s (A.ptr 0 3) (.s (A.agg [(iA a0.Limbs.1.Dir), (iA a0.Limbs.1.Level), (iA a0.Limbs.2.1.Dir), (iA a0.Limbs.2.1.Level), (iA a0.Limbs.2.2.1.Dir), (iA a0.Limbs.2.2.1.Level), (iA a0.Limbs.2.2.2.1.Dir), (iA a0.Limbs.2.2.2.1.Level), (iA a0.Limbs.2.2.2.2.Dir), (iA a0.Limbs.2.2.2.2.Level)]) ?_)
  refine .as (T16_16_0 C n h29 0 a0.Limbs.1.Dir a0.Limbs.1.Level a0.Limbs.2.1.Dir a0.Limbs.2.1.Level a0.Limbs.2.2.1.Dir a0.Limbs.2.2.1.Level a0.Limbs.2.2.2.1.Dir a0.Limbs.2.2.2.1.Level a0.Limbs.2.2.2.2.Dir a0.Limbs.2.2.2.2.Level a0 _ _ _ _ ?_ ?_ _ 0)
  · intro y59 y60 y61 j62 j63
    refine .un rfl ?_
    exact .lf rfl rfl ⟨_, rfl, rfl⟩
  · intro j64 j65 j66
    refine .un rfl ?_
    refine .cT (by kernel_rfl) ?_
    exact .lf rfl rfl ⟨_, rfl, rfl⟩
def G16 (a0 : S_State) : Option Int := F16 fuel0 a0
def Orc16 (C : Nat → List A → Option A) : Prop := ∀ (a0 : S_State), C 16 [(A.agg (c_S_State a0))] = (G16 a0).map fun y => (iA y)
def F33 (n : Nat)  : Option Unit :=
  some (())
theorem T33 (C : Nat → List A → Option A) (n : Nat) : J (fun (o : R) y => ∃ v, o.1 = .ret v ∧ snapE o.2 v = (A.mv .i64 [1, 2, 3, 4, 5, 6, 7, 8, 9] [(A.agg [(iA 1), (iA 2), (iA 1), (iA 8), (iA 0), (iA 0), (iA 1), (iA 16), (iA 0), (iA 0), (iA 0), (iA 0), (A.fn (Fn.func 52) [] [])]), (A.agg [(iA 0), (iA 0), (iA 1), (iA 8), (iA 0), (iA 0), (iA 1), (iA 16), (iA 0), (iA 0), (iA 0), (iA 0), (A.fn (Fn.func 53) [] [])]), (A.agg [(iA 1), (iA 2), (iA 0), (iA 8), (iA 1), (iA 3), (iA 0), (iA 0), (iA 0), (iA 8), (iA 1), (iA 3), (A.fn (Fn.func 54) [] [])]), (A.agg [(iA 1), (iA 2), (iA 0), (iA 8), (iA 1), (iA 3), (iA 0), (iA 0), (iA 0), (iA 8), (iA 1), (iA 3), (A.fn (Fn.func 55) [] [])]), (A.agg [(iA 0), (iA 0), (iA 0), (iA 8), (iA 1), (iA 3), (iA 0), (iA 0), (iA 0), (iA 8), (iA 1), (iA 3), (A.fn (Fn.func 56) [] [])]), (A.agg [(iA 0), (iA 0), (iA 0), (iA 0), (iA 0), (iA 0), (iA 1), (iA 7), (iA 0), (iA 0), (iA 0), (iA 0), (A.fn (Fn.func 57) [] [])]), (A.agg [(iA 0), (iA 0), (iA 0), (iA 0), (iA 0), (iA 0), (iA 0), (iA 0), (iA 0), (iA 0), (iA 0), (iA 0), (A.fn (Fn.func 58) [] [])]), (A.agg [(iA 0), (iA 0), (iA 0), (iA 0), (iA 0), (iA 0), (iA 0), (iA 0), (iA 0), (iA 0), (iA 0), (iA 0), (A.fn (Fn.func 59) [] [])]), (A.agg [(iA 1), (iA 2), (iA 0), (iA 0), (iA 1), (iA 3), (iA 0), (iA 0), (iA 0), (iA 0), (iA 1), (iA 3), (A.fn (Fn.func 60) [] [])])])) (evCall1 (cx C) (evCall (cx C) (n+8)) (evCallY (cx C) (n+8)) (n+8) 33 [] [] 0) some (F33 n ) some := by
  refine .lp (e33 ..) ?_
  unfold F33
  refine .s (A.agg [(iA 0), (iA 8)]) (.s (A.agg [(iA 1), (iA 3)]) (.s (A.agg [(iA 0), (iA 8), (iA 1), (iA 3)]) (.s ((A.ptr 0 0), [Blk.box [(iA 0), (iA 0), (iA 0), (iA 0)]]) (.s [Blk.box [(iA 0), (iA 8), (iA 1), (iA 3)]] (.s ((A.mr 1), [Blk.box [(iA 0), (iA 8), (iA 1), (iA 3)], Blk.mp .i64 [] []]) (.s (A.agg [(iA 1), (iA 2)]) (.s (A.agg [(iA 1), (iA 8)]) (.s (A.agg [(iA 0), (iA 0)]) (.s (A.agg [(iA 1), (iA 16)]) (.s (A.agg [(iA 1), (iA 2), (iA 1), (iA 8), (iA 0), (iA 0), (iA 1), (iA 16)]) (.s (A.agg [(iA 1), (iA 2), (iA 1), (iA 8), (iA 0), (iA 0), (iA 1), (iA 16), (iA 0), (iA 0), (iA 0), (iA 0), (A.fn (Fn.func 52) [] [])]) (.s [Blk.box [(iA 0), (iA 8), (iA 1), (iA 3)], Blk.mp .i64 [1] [(A.agg [(iA 1), (iA 2), (iA 1), (iA 8), (iA 0), (iA 0), (iA 1), (iA 16), (iA 0), (iA 0), (iA 0), (iA 0), (A.fn (Fn.func 52) [] [])])]] ?_))))))))))))
  refine .s (A.agg [(iA 0), (iA 0)]) (.s (A.agg [(iA 1), (iA 8)]) (.s (A.agg [(iA 0), (iA 0)]) (.s (A.agg [(iA 1), (iA 16)]) (.s (A.agg [(iA 0), (iA 0), (iA 1), (iA 8), (iA 0), (iA 0), (iA 1), (iA 16)]) (.s (A.agg [(iA 0), (iA 0), (iA 1), (iA 8), (iA 0), (iA 0), (iA 1), (iA 16), (iA 0), (iA 0), (iA 0), (iA 0), (A.fn (Fn.func 53) [] [])]) (.s [Blk.box [(iA 0), (iA 8), (iA 1), (iA 3)], Blk.mp .i64 [1, 2] [(A.agg [(iA 1), (iA 2), (iA 1), (iA 8), (iA 0), (iA 0), (iA 1), (iA 16), (iA 0), (iA 0), (iA 0), (iA 0), (A.fn (Fn.func 52) [] [])]), (A.agg [(iA 0), (iA 0), (iA 1), (iA 8), (iA 0), (iA 0), (iA 1), (iA 16), (iA 0), (iA 0), (iA 0), (iA 0), (A.fn (Fn.func 53) [] [])])]] (.s (A.agg [(iA 1), (iA 2)]) (.s (A.agg [(iA 0), (iA 8)]) (.s (A.agg [(iA 1), (iA 3)]) (.s (A.agg [(iA 0), (iA 0)]) (.s (A.agg [(iA 1), (iA 2), (iA 0), (iA 8), (iA 1), (iA 3), (iA 0), (iA 0)]) (.s (A.agg [(iA 0), (iA 8), (iA 1), (iA 3)]) ?_))))))))))))
  refine .s (A.agg [(iA 1), (iA 2), (iA 0), (iA 8), (iA 1), (iA 3), (iA 0), (iA 0), (iA 0), (iA 8), (iA 1), (iA 3), (A.fn (Fn.func 54) [] [])]) (.s [Blk.box [(iA 0), (iA 8), (iA 1), (iA 3)], Blk.mp .i64 [1, 2, 3] [(A.agg [(iA 1), (iA 2), (iA 1), (iA 8), (iA 0), (iA 0), (iA 1), (iA 16), (iA 0), (iA 0), (iA 0), (iA 0), (A.fn (Fn.func 52) [] [])]), (A.agg [(iA 0), (iA 0), (iA 1), (iA 8), (iA 0), (iA 0), (iA 1), (iA 16), (iA 0), (iA 0), (iA 0), (iA 0), (A.fn (Fn.func 53) [] [])]), (A.agg [(iA 1), (iA 2), (iA 0), (iA 8), (iA 1), (iA 3), (iA 0), (iA 0), (iA 0), (iA 8), (iA 1), (iA 3), (A.fn (Fn.func 54) [] [])])]] (.s (A.agg [(iA 1), (iA 2)]) (.s (A.agg [(iA 0), (iA 8)]) (.s (A.agg [(iA 1), (iA 3)]) (.s (A.agg [(iA 0), (iA 0)]) (.s (A.agg [(iA 1), (iA 2), (iA 0), (iA 8), (iA 1), (iA 3), (iA 0), (iA 0)]) (.s (A.agg [(iA 0), (iA 8), (iA 1), (iA 3)]) (.s (A.agg [(iA 1), (iA 2), (iA 0), (iA 8), (iA 1), (iA 3), (iA 0), (iA 0), (iA 0), (iA 8), (iA 1), (iA 3), (A.fn (Fn.func 55) [] [])]) (.s [Blk.box [(iA 0), (iA 8), (iA 1), (iA 3)], Blk.mp .i64 [1, 2, 3, 4] [(A.agg [(iA 1), (iA 2), (iA 1), (iA 8), (iA 0), (iA 0), (iA 1), (iA 16), (iA 0), (iA 0), (iA 0), (iA 0), (A.fn (Fn.func 52) [] [])]), (A.agg [(iA 0), (iA 0), (iA 1), (iA 8), (iA 0), (iA 0), (iA 1), (iA 16), (iA 0), (iA 0), (iA 0), (iA 0), (A.fn (Fn.func 53) [] [])]), (A.agg [(iA 1), (iA 2), (iA 0), (iA 8), (iA 1), (iA 3), (iA 0), (iA 0), (iA 0), (iA 8), (iA 1), (iA 3), (A.fn (Fn.func 54) [] [])]), (A.agg [(iA 1), (iA 2), (iA 0), (iA 8), (iA 1), (iA 3), (iA 0), (iA 0), (iA 0), (iA 8), (iA 1), (iA 3), (A.fn (Fn.func 55) [] [])])]] ?_)))))))))
  refine .s (A.agg [(iA 0), (iA 0)]) (.s (A.agg [(iA 0), (iA 8)]) (.s (A.agg [(iA 1), (iA 3)]) (.s (A.agg [(iA 0), (iA 0)]) (.s (A.agg [(iA 0), (iA 0), (iA 0), (iA 8), (iA 1), (iA 3), (iA 0), (iA 0)]) (.s (A.agg [(iA 0), (iA 8), (iA 1), (iA 3)]) (.s (A.agg [(iA 0), (iA 0), (iA 0), (iA 8), (iA 1), (iA 3), (iA 0), (iA 0), (iA 0), (iA 8), (iA 1), (iA 3), (A.fn (Fn.func 56) [] [])]) (.s [Blk.box [(iA 0), (iA 8), (iA 1), (iA 3)], Blk.mp .i64 [1, 2, 3, 4, 5] [(A.agg [(iA 1), (iA 2), (iA 1), (iA 8), (iA 0), (iA 0), (iA 1), (iA 16), (iA 0), (iA 0), (iA 0), (iA 0), (A.fn (Fn.func 52) [] [])]), (A.agg [(iA 0), (iA 0), (iA 1), (iA 8), (iA 0), (iA 0), (iA 1), (iA 16), (iA 0), (iA 0), (iA 0), (iA 0), (A.fn (Fn.func 53) [] [])]), (A.agg [(iA 1), (iA 2), (iA 0), (iA 8), (iA 1), (iA 3), (iA 0), (iA 0), (iA 0), (iA 8), (iA 1), (iA 3), (A.fn (Fn.func 54) [] [])]), (A.agg [(iA 1), (iA 2), (iA 0), (iA 8), (iA 1), (iA 3), (iA 0), (iA 0), (iA 0), (iA 8), (iA 1), (iA 3), (A.fn (Fn.func 55) [] [])]), (A.agg [(iA 0), (iA 0), (iA 0), (iA 8), (iA 1), (iA 3), (iA 0), (iA 0), (iA 0), (iA 8), (iA 1), (iA 3), (A.fn (Fn.func 56) [] [])])]] (.s (A.agg [(iA 0), (iA 0)]) (.s (A.agg [(iA 0), (iA 0)]) (.s (A.agg [(iA 0), (iA 0)]) ?_))))))))))
  refine .s (A.agg [(iA 1), (iA 7)]) (.s (A.agg [(iA 0), (iA 0), (iA 0), (iA 0), (iA 0), (iA 0), (iA 1), (iA 7)]) (.s (A.agg [(iA 0), (iA 0), (iA 0), (iA 0), (iA 0), (iA 0), (iA 1), (iA 7), (iA 0), (iA 0), (iA 0), (iA 0), (A.fn (Fn.func 57) [] [])]) (.s [Blk.box [(iA 0), (iA 8), (iA 1), (iA 3)], Blk.mp .i64 [1, 2, 3, 4, 5, 6] [(A.agg [(iA 1), (iA 2), (iA 1), (iA 8), (iA 0), (iA 0), (iA 1), (iA 16), (iA 0), (iA 0), (iA 0), (iA 0), (A.fn (Fn.func 52) [] [])]), (A.agg [(iA 0), (iA 0), (iA 1), (iA 8), (iA 0), (iA 0), (iA 1), (iA 16), (iA 0), (iA 0), (iA 0), (iA 0), (A.fn (Fn.func 53) [] [])]), (A.agg [(iA 1), (iA 2), (iA 0), (iA 8), (iA 1), (iA 3), (iA 0), (iA 0), (iA 0), (iA 8), (iA 1), (iA 3), (A.fn (Fn.func 54) [] [])]), (A.agg [(iA 1), (iA 2), (iA 0), (iA 8), (iA 1), (iA 3), (iA 0), (iA 0), (iA 0), (iA 8), (iA 1), (iA 3), (A.fn (Fn.func 55) [] [])]), (A.agg [(iA 0), (iA 0), (iA 0), (iA 8), (iA 1), (iA 3), (iA 0), (iA 0), (iA 0), (iA 8), (iA 1), (iA 3), (A.fn (Fn.func 56) [] [])]), (A.agg [(iA 0), (iA 0), (iA 0), (iA 0), (iA 0), (iA 0), (iA 1), (iA 7), (iA 0), (iA 0), (iA 0), (iA 0), (A.fn (Fn.func 57) [] [])])]] (.s (A.agg [(iA 0), (iA 0), (iA 0), (iA 0), (iA 0), (iA 0), (iA 0), (iA 0), (iA 0), (iA 0), (iA 0), (iA 0), (A.fn (Fn.func 58) [] [])]) ?_))))
  refine .s [Blk.box [(iA 0), (iA 8), (iA 1), (iA 3)], Blk.mp .i64 [1, 2, 3, 4, 5, 6, 7] [(A.agg [(iA 1), (iA 2), (iA 1), (iA 8), (iA 0), (iA 0), (iA 1), (iA 16), (iA 0), (iA 0), (iA 0), (iA 0), (A.fn (Fn.func 52) [] [])]), (A.agg [(iA 0), (iA 0), (iA 1), (iA 8), (iA 0), (iA 0), (iA 1), (iA 16), (iA 0), (iA 0), (iA 0), (iA 0), (A.fn (Fn.func 53) [] [])]), (A.agg [(iA 1), (iA 2), (iA 0), (iA 8), (iA 1), (iA 3), (iA 0), (iA 0), (iA 0), (iA 8), (iA 1), (iA 3), (A.fn (Fn.func 54) [] [])]), (A.agg [(iA 1), (iA 2), (iA 0), (iA 8), (iA 1), (iA 3), (iA 0), (iA 0), (iA 0), (iA 8), (iA 1), (iA 3), (A.fn (Fn.func 55) [] [])]), (A.agg [(iA 0), (iA 0), (iA 0), (iA 8), (iA 1), (iA 3), (iA 0), (iA 0), (iA 0), (iA 8), (iA 1), (iA 3), (A.fn (Fn.func 56) [] [])]), (A.agg [(iA 0), (iA 0), (iA 0), (iA 0), (iA 0), (iA 0), (iA 1), (iA 7), (iA 0), (iA 0), (iA 0), (iA 0), (A.fn (Fn.func 57) [] [])]), (A.agg [(iA 0), (iA 0), (iA 0), (iA 0), (iA 0), (iA 0), (iA 0), (iA 0), (iA 0), (iA 0), (iA 0), (iA 0), (A.fn (Fn.func 58) [] [])])]] (.s (A.agg [(iA 0), (iA 0), (iA 0), (iA 0), (iA 0), (iA 0), (iA 0), (iA 0), (iA 0), (iA 0), (iA 0), (iA 0), (A.fn (Fn.func 59) [] [])]) (.s [Blk.box [(iA 0), (iA 8), (iA 1), (iA 3)], Blk.mp .i64 [1, 2, 3, 4, 5, 6, 7, 8] [(A.agg [(iA 1), (iA 2), (iA 1), (iA 8), (iA 0), (iA 0), (iA 1), (iA 16), (iA 0), (iA 0), (iA 0), (iA 0), (A.fn (Fn.func 52) [] [])]), (A.agg [(iA 0), (iA 0), (iA 1), (iA 8), (iA 0), (iA 0), (iA 1), (iA 16), (iA 0), (iA 0), (iA 0), (iA 0), (A.fn (Fn.func 53) [] [])]), (A.agg [(iA 1), (iA 2), (iA 0), (iA 8), (iA 1), (iA 3), (iA 0), (iA 0), (iA 0), (iA 8), (iA 1), (iA 3), (A.fn (Fn.func 54) [] [])]), (A.agg [(iA 1), (iA 2), (iA 0), (iA 8), (iA 1), (iA 3), (iA 0), (iA 0), (iA 0), (iA 8), (iA 1), (iA 3), (A.fn (Fn.func 55) [] [])]), (A.agg [(iA 0), (iA 0), (iA 0), (iA 8), (iA 1), (iA 3), (iA 0), (iA 0), (iA 0), (iA 8), (iA 1), (iA 3), (A.fn (Fn.func 56) [] [])]), (A.agg [(iA 0), (iA 0), (iA 0), (iA 0), (iA 0), (iA 0), (iA 1), (iA 7), (iA 0), (iA 0), (iA 0), (iA 0), (A.fn (Fn.func 57) [] [])]), (A.agg [(iA 0), (iA 0), (iA 0), (iA 0), (iA 0), (iA 0), (iA 0), (iA 0), (iA 0), (iA 0), (iA 0), (iA 0), (A.fn (Fn.func 58) [] [])]), (A.agg [(iA 0), (iA 0), (iA 0), (iA 0), (iA 0), (iA 0), (iA 0), (iA 0), (iA 0), (iA 0), (iA 0), (iA 0), (A.fn (Fn.func 59) [] [])])]] ?_))
  refine .s (A.agg [(iA 1), (iA 2)]) (.s (A.agg [(iA 0), (iA 0)]) (.s (A.agg [(iA 1), (iA 3)]) (.s (A.agg [(iA 0), (iA 0)]) (.s (A.agg [(iA 1), (iA 2), (iA 0), (iA 0), (iA 1), (iA 3), (iA 0), (iA 0)]) (.s (A.agg [(iA 0), (iA 0)]) (.s (A.agg [(iA 1), (iA 3)]) (.s (A.agg [(iA 0), (iA 0), (iA 1), (iA 3)]) (.s (A.agg [(iA 1), (iA 2), (iA 0), (iA 0), (iA 1), (iA 3), (iA 0), (iA 0), (iA 0), (iA 0), (iA 1), (iA 3), (A.fn (Fn.func 60) [] [])]) (.s [Blk.box [(iA 0), (iA 8), (iA 1), (iA 3)], Blk.mp .i64 [1, 2, 3, 4, 5, 6, 7, 8, 9] [(A.agg [(iA 1), (iA 2), (iA 1), (iA 8), (iA 0), (iA 0), (iA 1), (iA 16), (iA 0), (iA 0), (iA 0), (iA 0), (A.fn (Fn.func 52) [] [])]), (A.agg [(iA 0), (iA 0), (iA 1), (iA 8), (iA 0), (iA 0), (iA 1), (iA 16), (iA 0), (iA 0), (iA 0), (iA 0), (A.fn (Fn.func 53) [] [])]), (A.agg [(iA 1), (iA 2), (iA 0), (iA 8), (iA 1), (iA 3), (iA 0), (iA 0), (iA 0), (iA 8), (iA 1), (iA 3), (A.fn (Fn.func 54) [] [])]), (A.agg [(iA 1), (iA 2), (iA 0), (iA 8), (iA 1), (iA 3), (iA 0), (iA 0), (iA 0), (iA 8), (iA 1), (iA 3), (A.fn (Fn.func 55) [] [])]), (A.agg [(iA 0), (iA 0), (iA 0), (iA 8), (iA 1), (iA 3), (iA 0), (iA 0), (iA 0), (iA 8), (iA 1), (iA 3), (A.fn (Fn.func 56) [] [])]), (A.agg [(iA 0), (iA 0), (iA 0), (iA 0), (iA 0), (iA 0), (iA 1), (iA 7), (iA 0), (iA 0), (iA 0), (iA 0), (A.fn (Fn.func 57) [] [])]), (A.agg [(iA 0), (iA 0), (iA 0), (iA 0), (iA 0), (iA 0), (iA 0), (iA 0), (iA 0), (iA 0), (iA 0), (iA 0), (A.fn (Fn.func 58) [] [])]), (A.agg [(iA 0), (iA 0), (iA 0), (iA 0), (iA 0), (iA 0), (iA 0), (iA 0), (iA 0), (iA 0), (iA 0), (iA 0), (A.fn (Fn.func 59) [] [])]), (A.agg [(iA 1), (iA 2), (iA 0), (iA 0), (iA 1), (iA 3), (iA 0), (iA 0), (iA 0), (iA 0), (iA 1), (iA 3), (A.fn (Fn.func 60) [] [])])]] ?_)))))))))
  exact .lf rfl rfl ⟨_, rfl, rfl⟩
def G33  : Option Unit := F33 fuel0
def Orc33 (C : Nat → List A → Option A) : Prop := ∀ (_ : Unit), C 33 [] = (G33 ).map fun y => (A.mv .i64 [1, 2, 3, 4, 5, 6, 7, 8, 9] [(A.agg [(iA 1), (iA 2), (iA 1), (iA 8), (iA 0), (iA 0), (iA 1), (iA 16), (iA 0), (iA 0), (iA 0), (iA 0), (A.fn (Fn.func 52) [] [])]), (A.agg [(iA 0), (iA 0), (iA 1), (iA 8), (iA 0), (iA 0), (iA 1), (iA 16), (iA 0), (iA 0), (iA 0), (iA 0), (A.fn (Fn.func 53) [] [])]), (A.agg [(iA 1), (iA 2), (iA 0), (iA 8), (iA 1), (iA 3), (iA 0), (iA 0), (iA 0), (iA 8), (iA 1), (iA 3), (A.fn (Fn.func 54) [] [])]), (A.agg [(iA 1), (iA 2), (iA 0), (iA 8), (iA 1), (iA 3), (iA 0), (iA 0), (iA 0), (iA 8), (iA 1), (iA 3), (A.fn (Fn.func 55) [] [])]), (A.agg [(iA 0), (iA 0), (iA 0), (iA 8), (iA 1), (iA 3), (iA 0), (iA 0), (iA 0), (iA 8), (iA 1), (iA 3), (A.fn (Fn.func 56) [] [])]), (A.agg [(iA 0), (iA 0), (iA 0), (iA 0), (iA 0), (iA 0), (iA 1), (iA 7), (iA 0), (iA 0), (iA 0), (iA 0), (A.fn (Fn.func 57) [] [])]), (A.agg [(iA 0), (iA 0), (iA 0), (iA 0), (iA 0), (iA 0), (iA 0), (iA 0), (iA 0), (iA 0), (iA 0), (iA 0), (A.fn (Fn.func 58) [] [])]), (A.agg [(iA 0), (iA 0), (iA 0), (iA 0), (iA 0), (iA 0), (iA 0), (iA 0), (iA 0), (iA 0), (iA 0), (iA 0), (A.fn (Fn.func 59) [] [])]), (A.agg [(iA 1), (iA 2), (iA 0), (iA 0), (iA 1), (iA 3), (iA 0), (iA 0), (iA 0), (iA 0), (iA 1), (iA 3), (A.fn (Fn.func 60) [] [])])])
def F24 (n : Nat) (a0 : Int) (a1 : Int) : Option (Int × Int) :=
  Option.bind (bif (decide (a0 < 0)) then (some true) else (some (decide (8 < a0)))) fun y2 => Option.bind (bif y2 then (some true) else (some (decide (a1 < 0)))) fun y6 => Option.bind (bif y6 then (some true) else (some (decide (7 < a1)))) fun y10 => bif y10 then (some ((0, 150))) else (bif (a0 == 0) then (some ((0, 0))) else (bif (decide (8 < (wr .i64 (a0 + a1)))) then (some ((wr .i64 ((wr .i64 (a0 + a1)) - 8), 0))) else (some ((wr .i64 (a0 + a1), 0)))))
theorem T24 (C : Nat → List A → Option A) (n : Nat) (a0 : Int) (a1 : Int) : J (fun (o : R) y => ∃ v, o.1 = .ret v ∧ snapE o.2 v = (A.tup [(iA y.1), (iA y.2)])) (evCall1 (cx C) (evCall (cx C) (n+8)) (evCallY (cx C) (n+8)) (n+8) 24 [(iA a0), (iA a1)] [] 0) some (F24 n a0 a1) some := by
  refine .lp (e24 ..) ?_
  unfold F24
  refine .st (v := (bA (decide (a0 < 0)))) (aBin_lss ..) ?_
  refine .bg (fun t (y : Bool) => ∃ j3 j4 : A, t = [(bA y), j3, j4]) ?_ ?_
  · refine .biH (fun hk1 => ?_) (fun hk1 => ?_)
    · exact .lg ⟨_, _, rfl⟩
    refine .st (v := (bA (decide (8 < a0)))) (aBin_gtr ..) ?_
    exact .lg ⟨_, _, rfl⟩
  rintro _ y2 ⟨j3, j4, rfl⟩
  iterate 3 refine .uc ?_
  refine .bg (fun t (y : Bool) => ∃ j7 j8 : A, t = [(bA y), j7, j8]) ?_ ?_
  · refine .biH (fun hk5 => ?_) (fun hk5 => ?_)
    · exact .lg ⟨_, _, rfl⟩
    refine .st (v := (bA (decide (a1 < 0)))) (aBin_lss ..) ?_
    exact .lg ⟨_, _, rfl⟩
  rintro _ y6 ⟨j7, j8, rfl⟩
  iterate 3 refine .uc ?_
  refine .bg (fun t (y : Bool) => ∃ j11 j12 : A, t = [(bA y), j11, j12]) ?_ ?_
  · refine .biH (fun hk9 => ?_) (fun hk9 => ?_)
    · exact .lg ⟨_, _, rfl⟩
    refine .st (v := (bA (decide (7 < a1)))) (aBin_gtr ..) ?_
    exact .lg ⟨_, _, rfl⟩
  rintro _ y10 ⟨j11, j12, rfl⟩
  iterate 3 refine .uc ?_
  refine .biHN (fun hk13 => ?_) (fun hk13 => ?_)
  · exact .lf rfl rfl ⟨_, rfl, rfl⟩
  refine .st (v := (bA (a0 == 0))) (aBin_eql ..) ?_
  refine .biHN (fun hk14 => ?_) (fun hk14 => ?_)
  · exact .lf rfl rfl ⟨_, rfl, rfl⟩
  refine .st (v := (iA (wr .i64 (a0 + a1)))) (aBin_add ..) ?_
  refine .st (v := (bA (decide (8 < (wr .i64 (a0 + a1)))))) (aBin_gtr ..) ?_
  refine .biHN (fun hk15 => ?_) (fun hk15 => ?_)
  · refine .st (v := (iA (wr .i64 ((wr .i64 (a0 + a1)) - 8)))) (aBin_sub ..) ?_
    exact .lf rfl rfl ⟨_, rfl, rfl⟩
  exact .lf rfl rfl ⟨_, rfl, rfl⟩
def G24 (a0 : Int) (a1 : Int) : Option (Int × Int) := F24 fuel0 a0 a1
def Orc24 (C : Nat → List A → Option A) : Prop := ∀ (a0 : Int) (a1 : Int), C 24 [(iA a0), (iA a1)] = (G24 a0 a1).map fun y => (A.tup [(iA y.1), (iA y.2)])
def F86 (n : Nat) (a0 : Int) : Option (Int × Int × Int) :=
  Option.bind (bif (decide (a0 < 1)) then (some true) else (some (decide (8 < a0)))) fun y2 => bif y2 then (some ((0, 0, 150))) else (bif decide ((wr .i64 (a0 - 1)) = 0) then (some ((0, 29, 0))) else bif decide ((wr .i64 (a0 - 1)) = 1) then (some ((20, 21, 0))) else bif decide ((wr .i64 (a0 - 1)) = 2) then (some ((29, 0, 0))) else bif decide ((wr .i64 (a0 - 1)) = 3) then (some ((20, -21, 0))) else bif decide ((wr .i64 (a0 - 1)) = 4) then (some ((0, -29, 0))) else bif decide ((wr .i64 (a0 - 1)) = 5) then (some ((-20, -21, 0))) else bif decide ((wr .i64 (a0 - 1)) = 6) then (some ((-29, 0, 0))) else bif decide ((wr .i64 (a0 - 1)) = 7) then (some ((-20, 21, 0))) else none)
theorem T86 (C : Nat → List A → Option A) (n : Nat) (a0 : Int) : J (fun (o : R) y => ∃ v, o.1 = .ret v ∧ snapE o.2 v = (A.tup [(iA y.1), (iA y.2.1), (iA y.2.2)])) (evCall1 (cx C) (evCall (cx C) (n+8)) (evCallY (cx C) (n+8)) (n+8) 86 [(iA a0)] [] 0) some (F86 n a0) some := by
  refine .lp (e86 ..) ?_
  unfold F86
  refine .st (v := (bA (decide (a0 < 1)))) (aBin_lss ..) ?_
  refine .bg (fun t (y : Bool) => ∃ j3 j4 : A, t = [(bA y), j3, j4]) ?_ ?_
  · refine .biH (fun hk1 => ?_) (fun hk1 => ?_)
    · exact .lg ⟨_, _, rfl⟩
    refine .st (v := (bA (decide (8 < a0)))) (aBin_gtr ..) ?_
    exact .lg ⟨_, _, rfl⟩
  rintro _ y2 ⟨j3, j4, rfl⟩
  iterate 3 refine .uc ?_
  refine .biHN (fun hk5 => ?_) (fun hk5 => ?_)
  · exact .lf rfl rfl ⟨_, rfl, rfl⟩
  refine .st (v := (iA (wr .i64 (a0 - 1)))) (aBin_sub ..) ?_
  refine .sp (fun hb6 => ?_) (fun _ => ?_)
  · refine .st (v := (A.ip [(iA 0), (iA 29), (iA 20), (iA 21), (iA 29), (iA 0), (iA 20), (iA (-21)), (iA 0), (iA (-29)), (iA (-20)), (iA (-21)), (iA (-29)), (iA 0), (iA (-20)), (iA 21)])) (by rw [of_decide_eq_true hb6]; kernel_rfl) ?_
    refine .s (A.ip [(iA 0), (iA 29), (iA 20), (iA 21), (iA 29), (iA 0), (iA 20), (iA (-21)), (iA 0), (iA (-29)), (iA (-20)), (iA (-21)), (iA (-29)), (iA 0), (iA (-20)), (iA 21)]) (.s (iA 0) ?_)
    refine .st (v := (iA (wr .i64 (a0 - 1)))) (aBin_sub ..) ?_
    refine .st (v := (A.ip [(iA 0), (iA 29), (iA 20), (iA 21), (iA 29), (iA 0), (iA 20), (iA (-21)), (iA 0), (iA (-29)), (iA (-20)), (iA (-21)), (iA (-29)), (iA 0), (iA (-20)), (iA 21)])) (by rw [of_decide_eq_true hb6]; kernel_rfl) ?_
    refine .s (A.ip [(iA 29), (iA 20), (iA 21), (iA 29), (iA 0), (iA 20), (iA (-21)), (iA 0), (iA (-29)), (iA (-20)), (iA (-21)), (iA (-29)), (iA 0), (iA (-20)), (iA 21)]) (.s (iA 29) ?_)
    exact .lf rfl rfl ⟨_, rfl, rfl⟩
  refine .sp (fun hb7 => ?_) (fun _ => ?_)
  · refine .st (v := (A.ip [(iA 20), (iA 21), (iA 29), (iA 0), (iA 20), (iA (-21)), (iA 0), (iA (-29)), (iA (-20)), (iA (-21)), (iA (-29)), (iA 0), (iA (-20)), (iA 21)])) (by rw [of_decide_eq_true hb7]; kernel_rfl) ?_
    refine .s (A.ip [(iA 20), (iA 21), (iA 29), (iA 0), (iA 20), (iA (-21)), (iA 0), (iA (-29)), (iA (-20)), (iA (-21)), (iA (-29)), (iA 0), (iA (-20)), (iA 21)]) (.s (iA 20) ?_)
    refine .st (v := (iA (wr .i64 (a0 - 1)))) (aBin_sub ..) ?_
    refine .st (v := (A.ip [(iA 20), (iA 21), (iA 29), (iA 0), (iA 20), (iA (-21)), (iA 0), (iA (-29)), (iA (-20)), (iA (-21)), (iA (-29)), (iA 0), (iA (-20)), (iA 21)])) (by rw [of_decide_eq_true hb7]; kernel_rfl) ?_
    refine .s (A.ip [(iA 21), (iA 29), (iA 0), (iA 20), (iA (-21)), (iA 0), (iA (-29)), (iA (-20)), (iA (-21)), (iA (-29)), (iA 0), (iA (-20)), (iA 21)]) (.s (iA 21) ?_)
    exact .lf rfl rfl ⟨_, rfl, rfl⟩
  refine .sp (fun hb8 => ?_) (fun _ => ?_)
  · refine .st (v := (A.ip [(iA 29), (iA 0), (iA 20), (iA (-21)), (iA 0), (iA (-29)), (iA (-20)), (iA (-21)), (iA (-29)), (iA 0), (iA (-20)), (iA 21)])) (by rw [of_decide_eq_true hb8]; kernel_rfl) ?_
    refine .s (A.ip [(iA 29), (iA 0), (iA 20), (iA (-21)), (iA 0), (iA (-29)), (iA (-20)), (iA (-21)), (iA (-29)), (iA 0), (iA (-20)), (iA 21)]) (.s (iA 29) ?_)
    refine .st (v := (iA (wr .i64 (a0 - 1)))) (aBin_sub ..) ?_
    refine .st (v := (A.ip [(iA 29), (iA 0), (iA 20), (iA (-21)), (iA 0), (iA (-29)), (iA (-20)), (iA (-21)), (iA (-29)), (iA 0), (iA (-20)), (iA 21)])) (by rw [of_decide_eq_true hb8]; kernel_rfl) ?_
    refine .s (A.ip [(iA 0), (iA 20), (iA (-21)), (iA 0), (iA (-29)), (iA (-20)), (iA (-21)), (iA (-29)), (iA 0), (iA (-20)), (iA 21)]) (.s (iA 0) ?_)
    exact .lf rfl rfl ⟨_, rfl, rfl⟩
  refine .sp (fun hb9 => ?_) (fun _ => ?_)
  · refine .st (v := (A.ip [(iA 20), (iA (-21)), (iA 0), (iA (-29)), (iA (-20)), (iA (-21)), (iA (-29)), (iA 0), (iA (-20)), (iA 21)])) (by rw [of_decide_eq_true hb9]; kernel_rfl) ?_
    refine .s (A.ip [(iA 20), (iA (-21)), (iA 0), (iA (-29)), (iA (-20)), (iA (-21)), (iA (-29)), (iA 0), (iA (-20)), (iA 21)]) (.s (iA 20) ?_)
    refine .st (v := (iA (wr .i64 (a0 - 1)))) (aBin_sub ..) ?_
    refine .st (v := (A.ip [(iA 20), (iA (-21)), (iA 0), (iA (-29)), (iA (-20)), (iA (-21)), (iA (-29)), (iA 0), (iA (-20)), (iA 21)])) (by rw [of_decide_eq_true hb9]; kernel_rfl) ?_
    refine .s (A.ip [(iA (-21)), (iA 0), (iA (-29)), (iA (-20)), (iA (-21)), (iA (-29)), (iA 0), (iA (-20)), (iA 21)]) (.s (iA (-21)) ?_)
    exact .lf rfl rfl ⟨_, rfl, rfl⟩
  refine .sp (fun hb10 => ?_) (fun _ => ?_)
  · refine .st (v := (A.ip [(iA 0), (iA (-29)), (iA (-20)), (iA (-21)), (iA (-29)), (iA 0), (iA (-20)), (iA 21)])) (by rw [of_decide_eq_true hb10]; kernel_rfl) ?_
    refine .s (A.ip [(iA 0), (iA (-29)), (iA (-20)), (iA (-21)), (iA (-29)), (iA 0), (iA (-20)), (iA 21)]) (.s (iA 0) ?_)
    refine .st (v := (iA (wr .i64 (a0 - 1)))) (aBin_sub ..) ?_
    refine .st (v := (A.ip [(iA 0), (iA (-29)), (iA (-20)), (iA (-21)), (iA (-29)), (iA 0), (iA (-20)), (iA 21)])) (by rw [of_decide_eq_true hb10]; kernel_rfl) ?_
    refine .s (A.ip [(iA (-29)), (iA (-20)), (iA (-21)), (iA (-29)), (iA 0), (iA (-20)), (iA 21)]) (.s (iA (-29)) ?_)
    exact .lf rfl rfl ⟨_, rfl, rfl⟩
  refine .sp (fun hb11 => ?_) (fun _ => ?_)
  · refine .st (v := (A.ip [(iA (-20)), (iA (-21)), (iA (-29)), (iA 0), (iA (-20)), (iA 21)])) (by rw [of_decide_eq_true hb11]; kernel_rfl) ?_
    refine .s (A.ip [(iA (-20)), (iA (-21)), (iA (-29)), (iA 0), (iA (-20)), (iA 21)]) (.s (iA (-20)) ?_)
    refine .st (v := (iA (wr .i64 (a0 - 1)))) (aBin_sub ..) ?_
    refine .st (v := (A.ip [(iA (-20)), (iA (-21)), (iA (-29)), (iA 0), (iA (-20)), (iA 21)])) (by rw [of_decide_eq_true hb11]; kernel_rfl) ?_
    refine .s (A.ip [(iA (-21)), (iA (-29)), (iA 0), (iA (-20)), (iA 21)]) (.s (iA (-21)) ?_)
    exact .lf rfl rfl ⟨_, rfl, rfl⟩
  refine .sp (fun hb12 => ?_) (fun _ => ?_)
  · refine .st (v := (A.ip [(iA (-29)), (iA 0), (iA (-20)), (iA 21)])) (by rw [of_decide_eq_true hb12]; kernel_rfl) ?_
    refine .s (A.ip [(iA (-29)), (iA 0), (iA (-20)), (iA 21)]) (.s (iA (-29)) ?_)
    refine .st (v := (iA (wr .i64 (a0 - 1)))) (aBin_sub ..) ?_
    refine .st (v := (A.ip [(iA (-29)), (iA 0), (iA (-20)), (iA 21)])) (by rw [of_decide_eq_true hb12]; kernel_rfl) ?_
    refine .s (A.ip [(iA 0), (iA (-20)), (iA 21)]) (.s (iA 0) ?_)
    exact .lf rfl rfl ⟨_, rfl, rfl⟩
  refine .sp (fun hb13 => ?_) (fun _ => ?_)
  · refine .st (v := (A.ip [(iA (-20)), (iA 21)])) (by rw [of_decide_eq_true hb13]; kernel_rfl) ?_
    refine .s (A.ip [(iA (-20)), (iA 21)]) (.s (iA (-20)) ?_)
    refine .st (v := (iA (wr .i64 (a0 - 1)))) (aBin_sub ..) ?_
    refine .st (v := (A.ip [(iA (-20)), (iA 21)])) (by rw [of_decide_eq_true hb13]; kernel_rfl) ?_
    refine .s (A.ip [(iA 21)]) (.s (iA 21) ?_)
    exact .lf rfl rfl ⟨_, rfl, rfl⟩
  exact .nn
def G86 (a0 : Int) : Option (Int × Int × Int) := F86 fuel0 a0
def Orc86 (C : Nat → List A → Option A) : Prop := ∀ (a0 : Int), C 86 [(iA a0)] = (G86 a0).map fun y => (A.tup [(iA y.1), (iA y.2.1), (iA y.2.2)])
end Go.Proofs.YtooamdacfhfjoaaDoor
