/-
 What the interpreter does with the program's functions: equations, by a tool; the kernel checks each.
-/
import Derived.Test.YtmjaehondldaaaaEvTyped
import Derived.Test.YtmjaehondldaaaaRows
import Derived.KernelRfl
namespace Go.Proofs.Ytmjaehondldaaaa
open Go.Proofs.Try (prog)
set_option linter.unusedVariables false
set_option linter.unusedSimpArgs false
set_option maxHeartbeats 4000000
set_option maxRecDepth 100000
def keepTab : List ((Nat × Nat) × List Nat) := [((8, 9), [0, 2, 3, 4, 5, 29, 30, 31]), ((10, 9), [0, 77, 78, 79]), ((11, 2), [2, 5, 6, 7]), ((20, 4), [2, 3, 4, 5]), ((27, 8), [1, 2, 3, 4]), ((28, 7), [2, 3, 55, 56, 57]), ((29, 8), [1, 2, 3]), ((30, 5), [1, 2, 3, 4]), ((32, 11), [0, 1, 4, 36, 37]), ((34, 21), [0, 1, 4, 7, 8, 9]), ((35, 4), [1, 2, 6, 15, 16, 17]), ((36, 5), [1, 2, 4, 5, 6]), ((38, 1), [0, 1, 4]), ((41, 3), [0, 2, 5, 17, 18, 19]), ((46, 3), [0, 2, 3]), ((49, 3), [0, 2, 3, 4])]
def keepF (f r : Nat) : List Nat := keepOf f r keepTab
def actTab : List ((Nat × Nat) × List (Nat × Nat × Nat)) := [((32, 11), [(4, 4, 5)]), ((32, 3000000), [(4, 4, 0)]), ((34, 21), [(8, 4, 5)]), ((34, 3000000), [(4, 4, 0)]), ((40, 2000001), [(3, 0, 0)]), ((8, 9), [(3, 0, 2), (4, 0, 5)])]
def actF (f r : Nat) : List (Nat × Nat × Nat) := actOf f r actTab
def arrTab : List (Nat × Nat) := []
def arrF (f t : Nat) : Bool := inTab f t arrTab
def wrTab : List (Nat × Nat) := []
def wrF (f t : Nat) : Bool := inTab f t wrTab
def loudTab : List (Nat × Nat) := []
def loudF (f t : Nat) : Bool := inTab f t loudTab
def joinTab : List ((Nat × Nat) × List Nat) := []
def joinF (f r : Nat) : List Nat := keepOf f r joinTab
def cutTab : List (Nat × Nat) := [(32, 3), (34, 2), (41, 5), (38, 1000)]
def cutF (k : Nat) : Nat := cutOf k cutTab
def freTab : List (Nat × Nat) := [(26, 0)]
def freF (k : Nat) : Bool := inTab k 0 freTab
noncomputable def cx (C : Nat -> List A -> Option A) : Cx := { P := prog, glob := fun _ => none, isOrc := fun k => notIn k [26, 31, 32, 33, 34, 35, 37, 38, 40, 41, 44, 46, 47, 48, 49], isOrcV := fun k => notIn k [26, 31, 32, 33, 34, 35, 37, 38, 40, 41, 44, 46, 47, 48, 49], C := C, keep := keepF, wrAt := wrF, acts := actF, loud := loudF, arr := arrF, join := joinF, cut := cutF, fre := freF }
theorem lt_26 : Nat.ble prog.funcs.size 26 = false := by kernel_rfl
theorem lt_33 : Nat.ble prog.funcs.size 33 = false := by kernel_rfl
theorem lt_35 : Nat.ble prog.funcs.size 35 = false := by kernel_rfl
theorem lt_37 : Nat.ble prog.funcs.size 37 = false := by kernel_rfl
theorem lt_38 : Nat.ble prog.funcs.size 38 = false := by kernel_rfl
theorem lt_40 : Nat.ble prog.funcs.size 40 = false := by kernel_rfl
theorem lt_41 : Nat.ble prog.funcs.size 41 = false := by kernel_rfl
theorem lt_44 : Nat.ble prog.funcs.size 44 = false := by kernel_rfl
theorem lt_46 : Nat.ble prog.funcs.size 46 = false := by kernel_rfl
theorem lt_47 : Nat.ble prog.funcs.size 47 = false := by kernel_rfl
variable (C : Nat -> List A -> Option A) (call : CallT) (rg : CallT -> CallT)
abbrev lk (s : St) (i : Nat) : A := look (St.fr s) i
abbrev ud : A := A.v undef
theorem e8 (n lo : Nat) (x0 : A) (H : Heap) : evCall1 (cx C) call rg n 8 [x0] H lo =
 (C 10 []).bind fun t0 =>
 (aUn prog UnOp.not t0).bind fun t1 => bIfN t1 (some (Out.ret (A.v (.bool false)), H)) ((C 11 [snap H x0]).bind fun t2 =>
 (aUn prog UnOp.not t2).bind fun t3 =>
 (bIf t3 (some [A.v (.bool true), ud, ud, ud]) ((aLen prog 22 x0 H).bind fun t4 =>
 (aBin prog .gtr 3 false true t4 (A.v (.int .i64 20))).bind fun t5 => some [t5, t5, t4, x0])).bind fun l4 => unc l4 fun u5 l5 => unc l5 fun u6 l6 => unc l6 fun u7 l7 => unc l7 fun u8 l8 => bIfN u5 (some (Out.ret (A.v (.bool true)), H)) ((aLen prog 22 x0 H).bind fun t9 => loopR (cx C) call rg n 8 lo 0 (List.length (seed1 4 (St.H (St.mk [(3, (seed1 1 (St.H (St.mk [(0, x0), (2, A.v (.bool false)), (3, A.imm [] true), (4, A.imm [] true), (5, A.v (.int .i64 0)), (29, x0), (30, t9), (31, A.v (.int .i64 0))] H)) (look (St.fr (St.mk [(0, x0), (2, A.v (.bool false)), (3, A.imm [] true), (4, A.imm [] true), (5, A.v (.int .i64 0)), (29, x0), (30, t9), (31, A.v (.int .i64 0))] H)) (Prod.fst (3, 0, 2)))).1), (0, x0), (2, A.v (.bool false)), (3, A.imm [] true), (4, A.imm [] true), (5, A.v (.int .i64 0)), (29, x0), (30, t9), (31, A.v (.int .i64 0))] (seed1 1 (St.H (St.mk [(0, x0), (2, A.v (.bool false)), (3, A.imm [] true), (4, A.imm [] true), (5, A.v (.int .i64 0)), (29, x0), (30, t9), (31, A.v (.int .i64 0))] H)) (look (St.fr (St.mk [(0, x0), (2, A.v (.bool false)), (3, A.imm [] true), (4, A.imm [] true), (5, A.v (.int .i64 0)), (29, x0), (30, t9), (31, A.v (.int .i64 0))] H)) (Prod.fst (3, 0, 2)))).2)) (look (St.fr (St.mk [(3, (seed1 1 (St.H (St.mk [(0, x0), (2, A.v (.bool false)), (3, A.imm [] true), (4, A.imm [] true), (5, A.v (.int .i64 0)), (29, x0), (30, t9), (31, A.v (.int .i64 0))] H)) (look (St.fr (St.mk [(0, x0), (2, A.v (.bool false)), (3, A.imm [] true), (4, A.imm [] true), (5, A.v (.int .i64 0)), (29, x0), (30, t9), (31, A.v (.int .i64 0))] H)) (Prod.fst (3, 0, 2)))).1), (0, x0), (2, A.v (.bool false)), (3, A.imm [] true), (4, A.imm [] true), (5, A.v (.int .i64 0)), (29, x0), (30, t9), (31, A.v (.int .i64 0))] (seed1 1 (St.H (St.mk [(0, x0), (2, A.v (.bool false)), (3, A.imm [] true), (4, A.imm [] true), (5, A.v (.int .i64 0)), (29, x0), (30, t9), (31, A.v (.int .i64 0))] H)) (look (St.fr (St.mk [(0, x0), (2, A.v (.bool false)), (3, A.imm [] true), (4, A.imm [] true), (5, A.v (.int .i64 0)), (29, x0), (30, t9), (31, A.v (.int .i64 0))] H)) (Prod.fst (3, 0, 2)))).2)) (Prod.fst (4, 0, 5)))).2) (fun i10 s10 => bif Nat.beq i10 0 then
 (C 22 [snap (St.H s10) (lk s10 0)]).bind fun t11 =>
 (C 12 [snap (St.H s10) t11]).bind fun t12 =>
 (aExtract t12 0).bind fun t13 =>
 (aExtract t12 1).bind fun t14 =>
 (aBin prog .neq 28 false true t14 (A.v (.int .i64 0))).bind fun t15 => bIfN t15 ((aBin prog .eql 28 false true t14 (A.v (.int .i64 2))).bind fun t16 => some (Out.ret t16, St.H s10)) ((C 22 [snap (St.H s10) (lk s10 4)]).bind fun t16 =>
 (C 14 [snap (St.H s10) t16]).bind fun t17 =>
 (aExtract t17 0).bind fun t18 =>
 (aExtract t17 1).bind fun t19 =>
 (aLen prog 27 t13 (St.H s10)).bind fun t20 =>
 (aLen prog 27 (lk s10 3) (St.H s10)).bind fun t21 =>
 (aBin prog .sub 3 false false t20 t21).bind fun t22 =>
 (aBin prog .eql 28 false true t19 (A.v (.int .i64 0))).bind fun t23 =>
 (bIf t23 ((aLen prog 27 t13 (St.H s10)).bind fun t24 =>
 (aLen prog 22 (lk s10 0) (St.H s10)).bind fun t25 =>
 (aBin prog .mul 3 true false (A.v (.int .i64 2)) t25).bind fun t26 =>
 (aBin prog .sub 3 false false t18 t26).bind fun t27 =>
 (aBin prog .add 3 false false t27 (lk s10 5)).bind fun t28 =>
 (aBin prog .eql 3 false false t24 t28).bind fun t29 => some [t29, t29, t28, lk s10 5, t27, t26, t25, lk s10 0, t18, t24, t13]) (some [A.v (.bool false), ud, ud, ud, ud, ud, ud, ud, ud, ud, ud])).bind fun l24 => unc l24 fun u25 l25 => unc l25 fun u26 l26 => unc l26 fun u27 l27 => unc l27 fun u28 l28 => unc l28 fun u29 l29 => unc l29 fun u30 l30 => unc l30 fun u31 l31 => unc l31 fun u32 l32 => unc l32 fun u33 l33 => unc l33 fun u34 l34 => unc l34 fun u35 l35 =>
 (bIf u25 ((aBin prog .geq 3 false true t22 (A.v (.int .i64 2))).bind fun t36 => some [t36, t36, t22]) (some [A.v (.bool false), ud, ud])).bind fun l36 => unc l36 fun u37 l37 => unc l37 fun u38 l38 => unc l38 fun u39 l39 =>
 (gIf u37 true ((aSlice prog 27 t13 (some t22) none none (St.H s10)).bind fun t40 =>
 (aConvert prog 27 9 t40 (St.H s10)).bind fun t41 =>
 (aConvert prog 27 9 (lk s10 3) (St.H s10)).bind fun t42 => some [t42, lk s10 3, t41, t40, t22, t13]) (some [ud, ud, ud, ud, ud, ud])).bind fun l40 => unc l40 fun u41 l41 => unc l41 fun u42 l42 => unc l42 fun u43 l43 => unc l43 fun u44 l44 => unc l44 fun u45 l45 => unc l45 fun u46 l46 =>
 (bIf u37 ((aBin prog .eql 9 false false u43 u41).bind fun t47 => some [t47, t47]) (some [A.v (.bool false), ud])).bind fun l47 => unc l47 fun u48 l48 => unc l48 fun u49 l49 => some (Out.ret u48, St.H s10)) else none) (fun i10 s10 => none) (fun a10 => some (Out.ret (lk a10 2), St.H a10)) (fun i10 s10 => some (Out.pan i10, St.H s10)) n (St.mk [(0, x0), (2, A.v (.bool false)), (3, (seed1 1 (St.H (St.mk [(0, x0), (2, A.v (.bool false)), (3, A.imm [] true), (4, A.imm [] true), (5, A.v (.int .i64 0)), (29, x0), (30, t9), (31, A.v (.int .i64 0))] H)) (look (St.fr (St.mk [(0, x0), (2, A.v (.bool false)), (3, A.imm [] true), (4, A.imm [] true), (5, A.v (.int .i64 0)), (29, x0), (30, t9), (31, A.v (.int .i64 0))] H)) (Prod.fst (3, 0, 2)))).1), (4, (seed1 4 (St.H (St.mk [(3, (seed1 1 (St.H (St.mk [(0, x0), (2, A.v (.bool false)), (3, A.imm [] true), (4, A.imm [] true), (5, A.v (.int .i64 0)), (29, x0), (30, t9), (31, A.v (.int .i64 0))] H)) (look (St.fr (St.mk [(0, x0), (2, A.v (.bool false)), (3, A.imm [] true), (4, A.imm [] true), (5, A.v (.int .i64 0)), (29, x0), (30, t9), (31, A.v (.int .i64 0))] H)) (Prod.fst (3, 0, 2)))).1), (0, x0), (2, A.v (.bool false)), (3, A.imm [] true), (4, A.imm [] true), (5, A.v (.int .i64 0)), (29, x0), (30, t9), (31, A.v (.int .i64 0))] (seed1 1 (St.H (St.mk [(0, x0), (2, A.v (.bool false)), (3, A.imm [] true), (4, A.imm [] true), (5, A.v (.int .i64 0)), (29, x0), (30, t9), (31, A.v (.int .i64 0))] H)) (look (St.fr (St.mk [(0, x0), (2, A.v (.bool false)), (3, A.imm [] true), (4, A.imm [] true), (5, A.v (.int .i64 0)), (29, x0), (30, t9), (31, A.v (.int .i64 0))] H)) (Prod.fst (3, 0, 2)))).2)) (look (St.fr (St.mk [(3, (seed1 1 (St.H (St.mk [(0, x0), (2, A.v (.bool false)), (3, A.imm [] true), (4, A.imm [] true), (5, A.v (.int .i64 0)), (29, x0), (30, t9), (31, A.v (.int .i64 0))] H)) (look (St.fr (St.mk [(0, x0), (2, A.v (.bool false)), (3, A.imm [] true), (4, A.imm [] true), (5, A.v (.int .i64 0)), (29, x0), (30, t9), (31, A.v (.int .i64 0))] H)) (Prod.fst (3, 0, 2)))).1), (0, x0), (2, A.v (.bool false)), (3, A.imm [] true), (4, A.imm [] true), (5, A.v (.int .i64 0)), (29, x0), (30, t9), (31, A.v (.int .i64 0))] (seed1 1 (St.H (St.mk [(0, x0), (2, A.v (.bool false)), (3, A.imm [] true), (4, A.imm [] true), (5, A.v (.int .i64 0)), (29, x0), (30, t9), (31, A.v (.int .i64 0))] H)) (look (St.fr (St.mk [(0, x0), (2, A.v (.bool false)), (3, A.imm [] true), (4, A.imm [] true), (5, A.v (.int .i64 0)), (29, x0), (30, t9), (31, A.v (.int .i64 0))] H)) (Prod.fst (3, 0, 2)))).2)) (Prod.fst (4, 0, 5)))).1), (5, A.v (.int .i64 0)), (29, x0), (30, t9), (31, A.v (.int .i64 0))] (seed1 4 (St.H (St.mk [(3, (seed1 1 (St.H (St.mk [(0, x0), (2, A.v (.bool false)), (3, A.imm [] true), (4, A.imm [] true), (5, A.v (.int .i64 0)), (29, x0), (30, t9), (31, A.v (.int .i64 0))] H)) (look (St.fr (St.mk [(0, x0), (2, A.v (.bool false)), (3, A.imm [] true), (4, A.imm [] true), (5, A.v (.int .i64 0)), (29, x0), (30, t9), (31, A.v (.int .i64 0))] H)) (Prod.fst (3, 0, 2)))).1), (0, x0), (2, A.v (.bool false)), (3, A.imm [] true), (4, A.imm [] true), (5, A.v (.int .i64 0)), (29, x0), (30, t9), (31, A.v (.int .i64 0))] (seed1 1 (St.H (St.mk [(0, x0), (2, A.v (.bool false)), (3, A.imm [] true), (4, A.imm [] true), (5, A.v (.int .i64 0)), (29, x0), (30, t9), (31, A.v (.int .i64 0))] H)) (look (St.fr (St.mk [(0, x0), (2, A.v (.bool false)), (3, A.imm [] true), (4, A.imm [] true), (5, A.v (.int .i64 0)), (29, x0), (30, t9), (31, A.v (.int .i64 0))] H)) (Prod.fst (3, 0, 2)))).2)) (look (St.fr (St.mk [(3, (seed1 1 (St.H (St.mk [(0, x0), (2, A.v (.bool false)), (3, A.imm [] true), (4, A.imm [] true), (5, A.v (.int .i64 0)), (29, x0), (30, t9), (31, A.v (.int .i64 0))] H)) (look (St.fr (St.mk [(0, x0), (2, A.v (.bool false)), (3, A.imm [] true), (4, A.imm [] true), (5, A.v (.int .i64 0)), (29, x0), (30, t9), (31, A.v (.int .i64 0))] H)) (Prod.fst (3, 0, 2)))).1), (0, x0), (2, A.v (.bool false)), (3, A.imm [] true), (4, A.imm [] true), (5, A.v (.int .i64 0)), (29, x0), (30, t9), (31, A.v (.int .i64 0))] (seed1 1 (St.H (St.mk [(0, x0), (2, A.v (.bool false)), (3, A.imm [] true), (4, A.imm [] true), (5, A.v (.int .i64 0)), (29, x0), (30, t9), (31, A.v (.int .i64 0))] H)) (look (St.fr (St.mk [(0, x0), (2, A.v (.bool false)), (3, A.imm [] true), (4, A.imm [] true), (5, A.v (.int .i64 0)), (29, x0), (30, t9), (31, A.v (.int .i64 0))] H)) (Prod.fst (3, 0, 2)))).2)) (Prod.fst (4, 0, 5)))).2))) := by kernel_rfl
theorem e10 (n lo : Nat) (H : Heap) : evCall1 (cx C) call rg n 10 [] H lo =
 (C 23 [snap H (A.v (.int .i64 (-3)))]).bind fun t0 =>
 (C 12 [snap H t0]).bind fun t1 =>
 (aExtract t1 0).bind fun t2 =>
 (aExtract t1 1).bind fun t3 =>
 (C 23 [snap H (A.v (.int .i64 100))]).bind fun t4 =>
 (C 24 [snap H (A.v (Value.string (ByteArray.mk #[97, 98])))]).bind fun t5 =>
 (aBuildSlice prog 22 2 [(0, frzA H t4), (1, frzA H t5)]).bind fun t6 =>
 (C 22 [snap H t6]).bind fun t7 =>
 (aAlloc prog 24 H).bind fun r8 =>
 (aStore prog 24 r8.1 (stV r8.1 r8.2 t7) r8.2 lo).bind fun H9 =>
 (aLoad prog 24 r8.1 H9).bind fun t10 =>
 (C 12 [snap H9 t10]).bind fun t11 =>
 (aExtract t11 0).bind fun t12 =>
 (aExtract t11 1).bind fun t13 =>
 (C 18 [snap H9 t12]).bind fun t14 =>
 (aExtract t14 0).bind fun t15 =>
 (aExtract t14 1).bind fun t16 =>
 (aAlloc prog 24 H9).bind fun r17 =>
 (aStore prog 24 r17.1 (stV r17.1 r17.2 t15) r17.2 lo).bind fun H18 =>
 (aLoad prog 24 r8.1 H18).bind fun t19 =>
 (C 14 [snap H18 t19]).bind fun t20 =>
 (aExtract t20 0).bind fun t21 =>
 (aExtract t20 1).bind fun t22 =>
 (aBin prog .neq 28 false true t3 (A.v (.int .i64 0))).bind fun t23 =>
 (bIf t23 (some [A.v (.bool true), ud, ud, ud]) ((aConvert prog 27 9 t2 H18).bind fun t24 =>
 (aBin prog .neq 9 false true t24 (A.v (Value.string (ByteArray.mk #[1, 5])))).bind fun t25 => some [t25, t25, t24, t2])).bind fun l24 => unc l24 fun u25 l25 => unc l25 fun u26 l26 => unc l26 fun u27 l27 => unc l27 fun u28 l28 =>
 (bIf u25 (some [A.v (.bool true), ud, ud]) ((aBin prog .neq 28 false true t13 (A.v (.int .i64 0))).bind fun t29 => some [t29, t29, t13])).bind fun l29 => unc l29 fun u30 l30 => unc l30 fun u31 l31 => unc l31 fun u32 l32 =>
 (bIf u30 (some [A.v (.bool true), ud, ud, ud]) ((aConvert prog 27 9 t12 H18).bind fun t33 =>
 (aBin prog .neq 9 false true t33 (A.v (Value.string (ByteArray.mk #[3, 2, 1, 200, 1, 2, 2, 97, 98])))).bind fun t34 => some [t34, t34, t33, t12])).bind fun l33 => unc l33 fun u34 l34 => unc l34 fun u35 l35 => unc l35 fun u36 l36 => unc l36 fun u37 l37 =>
 (bIf u34 (some [A.v (.bool true), ud, ud]) ((aBin prog .neq 28 false true t16 (A.v (.int .i64 0))).bind fun t38 => some [t38, t38, t16])).bind fun l38 => unc l38 fun u39 l39 => unc l39 fun u40 l40 => unc l40 fun u41 l41 =>
 (bIf u39 (some [A.v (.bool true), ud, ud, ud, ud]) ((aLoad prog 24 r8.1 H18).bind fun t42 =>
 (aLoad prog 24 r17.1 H18).bind fun t43 =>
 (C 21 [snap H18 t42, snap H18 t43]).bind fun t44 =>
 (aUn prog UnOp.not t44).bind fun t45 => some [t45, t45, t44, t43, t42])).bind fun l42 => unc l42 fun u43 l43 => unc l43 fun u44 l44 => unc l44 fun u45 l45 => unc l45 fun u46 l46 => unc l46 fun u47 l47 =>
 (bIf u43 (some [A.v (.bool true), ud, ud]) ((aBin prog .neq 3 false true t21 (A.v (.int .i64 9))).bind fun t48 => some [t48, t48, t21])).bind fun l48 => unc l48 fun u49 l49 => unc l49 fun u50 l50 => unc l50 fun u51 l51 =>
 (bIf u49 (some [A.v (.bool true), ud, ud]) ((aBin prog .neq 28 false true t22 (A.v (.int .i64 0))).bind fun t52 => some [t52, t52, t22])).bind fun l52 => unc l52 fun u53 l53 => unc l53 fun u54 l54 => unc l54 fun u55 l55 =>
 (bIf u53 (some [A.v (.bool true), ud, ud, ud]) ((C 24 [snap H18 (A.v (Value.string (ByteArray.mk #[])))]).bind fun t56 =>
 (C 22 [snap H18 (A.imm [] true)]).bind fun t57 =>
 (C 21 [snap H18 t56, snap H18 t57]).bind fun t58 => some [t58, t58, t57, t56])).bind fun l56 => unc l56 fun u57 l57 => unc l57 fun u58 l58 => unc l58 fun u59 l59 => unc l59 fun u60 l60 => bIfN u57 (some (Out.ret (A.v (.bool false)), H18)) ((aBuildSlice prog 45 4 [(0, frzA H18 (A.v (Value.string (ByteArray.mk #[])))), (1, frzA H18 (A.v (Value.string (ByteArray.mk #[1, 128, 0])))), (2, frzA H18 (A.v (Value.string (ByteArray.mk #[1, 5, 0])))), (3, frzA H18 (A.v (Value.string (ByteArray.mk #[2, 3, 97]))))]).bind fun t61 =>
 (aLen prog 45 t61 H18).bind fun t62 => loopR (cx C) call rg n 10 lo 0 (List.length H18) (fun i63 s63 => bif Nat.beq i63 0 then
 (aBuild prog 24 []).bind fun t64 =>
 (C 16 [snap (St.H s63) t64]).bind fun t65 =>
 (aBin prog .eql 28 false true t65 (A.v (.int .i64 1))).bind fun t66 => some (Out.ret t66, St.H s63) else none) (fun i63 s63 => none) (fun a63 => some (Out.ret (lk a63 0), St.H a63)) (fun i63 s63 => some (Out.pan i63, St.H s63)) n (St.mk [(0, A.v (.bool false)), (77, t61), (78, t62), (79, A.v (.int .i64 0))] H18)) := by kernel_rfl
theorem e11 (n lo : Nat) (x0 : A) (H : Heap) : evCall1 (cx C) call rg n 11 [x0] H lo =
 (aLen prog 22 x0 H).bind fun t0 => loopR (cx C) call rg n 11 lo 0 (List.length H) (fun i1 s1 => bif Nat.beq i1 0 then some (Out.ret (A.v (.bool true)), St.H s1) else none) (fun i1 s1 => none) (fun a1 => some (Out.ret (lk a1 2), St.H a1)) (fun i1 s1 => some (Out.pan i1, St.H s1)) n (St.mk [(2, A.v (.bool false)), (5, x0), (6, t0), (7, A.v (.int .i64 0))] H) := by kernel_rfl
theorem e12 (n lo : Nat) (x0 : A) (H : Heap) : evCall1 (cx C) call rg n 12 [x0] H lo =
 (aBox x0 H).bind fun r0 =>
 (aLoad prog 24 r0.1 r0.2).bind fun t1 =>
 (C 16 [snap r0.2 t1]).bind fun t2 =>
 (aBin prog .neq 28 false true t2 (A.v (.int .i64 0))).bind fun t3 => bIfN t3 (some (Out.ret (A.tup [A.imm [] true, t2]), r0.2)) ((aFieldAddr prog 24 r0.1 0 r0.2).bind fun t4 =>
 (aLoad prog 3 t4 r0.2).bind fun t5 =>
 (aLoad prog 24 r0.1 r0.2).bind fun t6 => bif bif apartC 0 r0.1 then bif apartC 0 t4 then bif apartC 0 r0.1 then true else false else false else false then
 (call 26 [] r0.2 (List.length r0.2)).bind fun H7 => outK H7.1 (fun a8 =>
 (aNil a8 H7.2).bind fun t9 =>
 (aIndexAddr prog 66 t9 t5 H7.2).bind fun t10 =>
 (aFieldAddr prog 49 t10 0 H7.2).bind fun t11 =>
 (aLoad prog 47 t11 H7.2).bind fun t12 => dynCall (cx C) call t12 [A.imm [] true, t6] H7.2 lo (fun i13 h13 => some (Out.ret (A.tup [i13, A.v (.int .i64 0)]), h13)) fun i13 h13 => some (Out.pan i13, h13)) fun a8 => some (Out.pan a8, H7.2) else none) := by kernel_rfl
theorem e14 (n lo : Nat) (x0 : A) (H : Heap) : evCall1 (cx C) call rg n 14 [x0] H lo =
 (aBox x0 H).bind fun r0 =>
 (aLoad prog 24 r0.1 r0.2).bind fun t1 =>
 (C 12 [snap r0.2 t1]).bind fun t2 =>
 (aExtract t2 0).bind fun t3 =>
 (aExtract t2 1).bind fun t4 =>
 (aLen prog 27 t3 r0.2).bind fun t5 => some (Out.ret (A.tup [t5, t4]), r0.2) := by kernel_rfl
theorem e16 (n lo : Nat) (x0 : A) (H : Heap) : evCall1 (cx C) call rg n 16 [x0] H lo =
 (aBox x0 H).bind fun r0 =>
 (aLoad prog 24 r0.1 r0.2).bind fun t1 =>
 (C 28 [snap r0.2 t1]).bind fun t2 =>
 (aExtract t2 0).bind fun t3 =>
 (aExtract t2 1).bind fun t4 =>
 (aUn prog UnOp.not t4).bind fun t5 => bIfN t5 (some (Out.ret (A.v (.int .i64 1)), r0.2)) ((aBin prog .gtr 3 false true t3 (A.v (.int .i64 16))).bind fun t6 => bIfN t6 (some (Out.ret (A.v (.int .i64 2)), r0.2)) (some (Out.ret (A.v (.int .i64 0)), r0.2))) := by kernel_rfl
theorem e18 (n lo : Nat) (x0 : A) (H : Heap) : evCall1 (cx C) call rg n 18 [x0] H lo =
 (aAlloc prog 24 H).bind fun r0 =>
 (aAlloc prog 28 r0.2).bind fun r1 =>
 (aBuild prog 58 [(0, x0)]).bind fun t2 =>
 (aBox t2 r1.2).bind fun r3 =>
 (call 32 [r3.1, A.v (.int .i64 0)] r3.2 lo).bind fun H4 => outK H4.1 (fun a5 =>
 (aStore prog 24 r0.1 (stV r0.1 H4.2 a5) H4.2 lo).bind fun H6 =>
 (aNil r3.1 H6).bind fun t7 =>
 (aFieldAddr prog 58 t7 0 H6).bind fun t8 =>
 (aLoad prog 27 t8 H6).bind fun t9 =>
 (aLen prog 27 t9 H6).bind fun t10 =>
 (aBin prog .eql 3 false true t10 (A.v (.int .i64 0))).bind fun t11 =>
 (call 33 [r3.1, t11] H6 lo).bind fun H12 => outK H12.1 (fun a13 =>
 (aLoad prog 24 r0.1 H12.2).bind fun t14 =>
 (aStore prog 24 r0.1 (stV r0.1 H12.2 t14) H12.2 lo).bind fun H15 =>
 (aStore prog 28 r1.1 (stV r1.1 H15 (A.v (.int .i64 0))) H15 lo).bind fun H16 =>
 (aBin prog .neq 20 false true (A.v Value.nilIface) (A.v Value.nilIface)).bind fun t17 => bIfN t17 ((aBuild prog 24 []).bind fun t18 =>
 (aAssert prog (A.v Value.nilIface) 28 false).bind fun t19 =>
 (aStore prog 24 r0.1 (stV r0.1 H16 t18) H16 lo).bind fun H20 =>
 (aStore prog 28 r1.1 (stV r1.1 H20 t19) H20 lo).bind fun H21 =>
 (aLoad prog 24 r0.1 H21).bind fun t22 =>
 (aLoad prog 28 r1.1 H21).bind fun t23 => some (Out.ret (A.tup [t22, t23]), H21)) ((aLoad prog 24 r0.1 H16).bind fun t18 =>
 (aLoad prog 28 r1.1 H16).bind fun t19 => some (Out.ret (A.tup [t18, t19]), H16))) fun a13 =>
 (aBin prog .neq 20 false true a13 (A.v Value.nilIface)).bind fun t14 => bIfN t14 ((aBuild prog 24 []).bind fun t15 =>
 (aAssert prog a13 28 false).bind fun t16 =>
 (aStore prog 24 r0.1 (stV r0.1 H12.2 t15) H12.2 lo).bind fun H17 =>
 (aStore prog 28 r1.1 (stV r1.1 H17 t16) H17 lo).bind fun H18 =>
 (aLoad prog 24 r0.1 H18).bind fun t19 =>
 (aLoad prog 28 r1.1 H18).bind fun t20 => some (Out.ret (A.tup [t19, t20]), H18)) ((aLoad prog 24 r0.1 H12.2).bind fun t15 =>
 (aLoad prog 28 r1.1 H12.2).bind fun t16 => some (Out.ret (A.tup [t15, t16]), H12.2))) fun a5 =>
 (aBin prog .neq 20 false true a5 (A.v Value.nilIface)).bind fun t6 => bIfN t6 ((aBuild prog 24 []).bind fun t7 =>
 (aAssert prog a5 28 false).bind fun t8 =>
 (aStore prog 24 r0.1 (stV r0.1 H4.2 t7) H4.2 lo).bind fun H9 =>
 (aStore prog 28 r1.1 (stV r1.1 H9 t8) H9 lo).bind fun H10 =>
 (aLoad prog 24 r0.1 H10).bind fun t11 =>
 (aLoad prog 28 r1.1 H10).bind fun t12 => some (Out.ret (A.tup [t11, t12]), H10)) ((aLoad prog 24 r0.1 H4.2).bind fun t7 =>
 (aLoad prog 28 r1.1 H4.2).bind fun t8 => some (Out.ret (A.tup [t7, t8]), H4.2)) := by kernel_rfl
theorem e21 (n lo : Nat) (x0 x1 : A) (H : Heap) : evCall1 (cx C) call rg n 21 [x0, x1] H lo =
 (aBox x0 H).bind fun r0 =>
 (aBox x1 r0.2).bind fun r1 =>
 (aFieldAddr prog 24 r0.1 0 r1.2).bind fun t2 =>
 (aLoad prog 3 t2 r1.2).bind fun t3 =>
 (aFieldAddr prog 24 r1.1 0 r1.2).bind fun t4 =>
 (aLoad prog 3 t4 r1.2).bind fun t5 =>
 (aBin prog .eql 3 false false t3 t5).bind fun t6 =>
 (bIf t6 ((aFieldAddr prog 24 r0.1 1 r1.2).bind fun t7 =>
 (aLoad prog 3 t7 r1.2).bind fun t8 =>
 (aFieldAddr prog 24 r1.1 1 r1.2).bind fun t9 =>
 (aLoad prog 3 t9 r1.2).bind fun t10 =>
 (aBin prog .eql 3 false false t8 t10).bind fun t11 => some [t11, t11, t10, t9, t8, t7]) (some [A.v (.bool false), ud, ud, ud, ud, ud])).bind fun l7 => unc l7 fun u8 l8 => unc l8 fun u9 l9 => unc l9 fun u10 l10 => unc l10 fun u11 l11 => unc l11 fun u12 l12 => unc l12 fun u13 l13 =>
 (bIf u8 ((aFieldAddr prog 24 r0.1 2 r1.2).bind fun t14 =>
 (aLoad prog 9 t14 r1.2).bind fun t15 =>
 (aFieldAddr prog 24 r1.1 2 r1.2).bind fun t16 =>
 (aLoad prog 9 t16 r1.2).bind fun t17 =>
 (aBin prog .eql 9 false false t15 t17).bind fun t18 => some [t18, t18, t17, t16, t15, t14]) (some [A.v (.bool false), ud, ud, ud, ud, ud])).bind fun l14 => unc l14 fun u15 l15 => unc l15 fun u16 l16 => unc l16 fun u17 l17 => unc l17 fun u18 l18 => unc l18 fun u19 l19 => unc l19 fun u20 l20 =>
 (gIf u15 true ((aFieldAddr prog 24 r0.1 3 r1.2).bind fun t21 => some t21) (some (ud))).bind fun t21 =>
 (gIf u15 true ((aLoad prog 22 t21 r1.2).bind fun t22 => some t22) (some (ud))).bind fun t22 =>
 (gIf u15 true ((aFieldAddr prog 24 r1.1 3 r1.2).bind fun t23 => some t23) (some (ud))).bind fun t23 =>
 (gIf u15 true ((aLoad prog 22 t23 r1.2).bind fun t24 => some t24) (some (ud))).bind fun t24 => gIf u15 true ((call 35 [t22, t24, A.fn (Fn.func 21) [] []] r1.2 lo).bind fun H25 => outK H25.1 (fun a26 =>
 (bIf u15 (some a26) (some (A.v (.bool false)))).bind fun t27 => some (Out.ret t27, H25.2)) fun a26 => some (Out.pan a26, H25.2)) ((bIf u15 (some (ud)) (some (A.v (.bool false)))).bind fun t25 => some (Out.ret t25, r1.2)) := by kernel_rfl
theorem e22 (n lo : Nat) (x0 : A) (H : Heap) : evCall1 (cx C) call rg n 22 [x0] H lo =
 (aAlloc prog 24 H).bind fun r0 =>
 (aBuild prog 24 [(0, A.v (.int .i64 3)), (3, x0)]).bind fun t1 =>
 (aStore prog 24 r0.1 (stV r0.1 r0.2 t1) r0.2 lo).bind fun H2 =>
 (aLoad prog 24 r0.1 H2).bind fun t3 => some (Out.ret t3, H2) := by kernel_rfl
theorem e23 (n lo : Nat) (x0 : A) (H : Heap) : evCall1 (cx C) call rg n 23 [x0] H lo =
 (aAlloc prog 24 H).bind fun r0 =>
 (aBuild prog 24 [(0, A.v (.int .i64 1)), (1, x0)]).bind fun t1 =>
 (aStore prog 24 r0.1 (stV r0.1 r0.2 t1) r0.2 lo).bind fun H2 =>
 (aLoad prog 24 r0.1 H2).bind fun t3 => some (Out.ret t3, H2) := by kernel_rfl
theorem e24 (n lo : Nat) (x0 : A) (H : Heap) : evCall1 (cx C) call rg n 24 [x0] H lo =
 (aAlloc prog 24 H).bind fun r0 =>
 (aBuild prog 24 [(0, A.v (.int .i64 2)), (2, x0)]).bind fun t1 =>
 (aStore prog 24 r0.1 (stV r0.1 r0.2 t1) r0.2 lo).bind fun H2 =>
 (aLoad prog 24 r0.1 H2).bind fun t3 => some (Out.ret t3, H2) := by kernel_rfl
theorem e25 (n lo : Nat) (x0 x1 : A) (H : Heap) : evCall1 (cx C) call rg n 25 [x0, x1] H lo =
 (aBox x0 H).bind fun r0 =>
 (aLoad prog 24 r0.1 r0.2).bind fun t1 =>
 (C 36 [snap r0.2 t1, snap r0.2 x1]).bind fun t2 =>
 (aBin prog .leq 3 false true t2 (A.v (.int .i64 200))).bind fun t3 => some (Out.ret t3, r0.2) := by kernel_rfl
theorem e26 (n lo : Nat) (H : Heap) : evCall1 (cx C) call rg n 26 [] H lo =
 (aBuild prog 66 []).bind fun t0 =>
 (aBox t0 H).bind fun r1 =>
 (aAlloc prog 50 r1.2).bind fun r2 =>
 (aStore prog 50 r2.1 (stV r2.1 r2.2 r1.1) r2.2 lo).bind fun H3 =>
 (aLoad prog 50 r2.1 H3).bind fun t4 =>
 (aNil t4 H3).bind fun t5 =>
 (aIndexAddr prog 66 t5 (A.v (.int .i64 1)) H3).bind fun t6 =>
 (aFieldAddr prog 49 t6 0 H3).bind fun t7 =>
 (aStore prog 47 t7 (stV t7 H3 (A.fn (Fn.func 37) [] [])) H3 lo).bind fun H8 =>
 (aLoad prog 50 r2.1 H8).bind fun t9 =>
 (aNil t9 H8).bind fun t10 =>
 (aIndexAddr prog 66 t10 (A.v (.int .i64 2)) H8).bind fun t11 =>
 (aFieldAddr prog 49 t11 0 H8).bind fun t12 =>
 (aStore prog 47 t12 (stV t12 H8 (A.fn (Fn.func 40) [] [])) H8 lo).bind fun H13 =>
 (aLoad prog 50 r2.1 H13).bind fun t14 =>
 (aNil t14 H13).bind fun t15 =>
 (aIndexAddr prog 66 t15 (A.v (.int .i64 3)) H13).bind fun t16 =>
 (aFieldAddr prog 49 t16 0 H13).bind fun t17 =>
 (aStore prog 47 t17 (stV t17 H13 (A.fn (Fn.func 41) [] [r2.1])) H13 lo).bind fun H18 =>
 (aLoad prog 50 r2.1 H18).bind fun t19 => some (Out.ret t19, H18) := by kernel_rfl
theorem e28 (n lo : Nat) (x0 : A) (H : Heap) : evCall1 (cx C) call rg n 28 [x0] H lo =
 (aBox x0 H).bind fun r0 =>
 (aFieldAddr prog 24 r0.1 2 r0.2).bind fun t1 =>
 (aLoad prog 9 t1 r0.2).bind fun t2 =>
 (aBin prog .eql 9 false true t2 (A.v (Value.string (ByteArray.mk #[])))).bind fun t3 =>
 (bIf t3 ((aFieldAddr prog 24 r0.1 3 r0.2).bind fun t4 =>
 (aLoad prog 22 t4 r0.2).bind fun t5 =>
 (aLen prog 22 t5 r0.2).bind fun t6 =>
 (aBin prog .eql 3 false true t6 (A.v (.int .i64 0))).bind fun t7 => some [t7, t7, t6, t5, t4]) (some [A.v (.bool false), ud, ud, ud, ud])).bind fun l4 => unc l4 fun u5 l5 => unc l5 fun u6 l6 => unc l6 fun u7 l7 => unc l7 fun u8 l8 => unc l8 fun u9 l9 =>
 (aFieldAddr prog 24 r0.1 1 r0.2).bind fun t10 =>
 (aLoad prog 3 t10 r0.2).bind fun t11 =>
 (aBin prog .eql 3 false true t11 (A.v (.int .i64 0))).bind fun t12 =>
 (bIf t12 ((aFieldAddr prog 24 r0.1 3 r0.2).bind fun t13 =>
 (aLoad prog 22 t13 r0.2).bind fun t14 =>
 (aLen prog 22 t14 r0.2).bind fun t15 =>
 (aBin prog .eql 3 false true t15 (A.v (.int .i64 0))).bind fun t16 => some [t16, t16, t15, t14, t13]) (some [A.v (.bool false), ud, ud, ud, ud])).bind fun l13 => unc l13 fun u14 l14 => unc l14 fun u15 l15 => unc l15 fun u16 l16 => unc l16 fun u17 l17 => unc l17 fun u18 l18 =>
 (aFieldAddr prog 24 r0.1 1 r0.2).bind fun t19 =>
 (aLoad prog 3 t19 r0.2).bind fun t20 =>
 (aBin prog .eql 3 false true t20 (A.v (.int .i64 0))).bind fun t21 =>
 (bIf t21 ((aFieldAddr prog 24 r0.1 2 r0.2).bind fun t22 =>
 (aLoad prog 9 t22 r0.2).bind fun t23 =>
 (aBin prog .eql 9 false true t23 (A.v (Value.string (ByteArray.mk #[])))).bind fun t24 => some [t24, t24, t23, t22]) (some [A.v (.bool false), ud, ud, ud])).bind fun l22 => unc l22 fun u23 l23 => unc l23 fun u24 l24 => unc l24 fun u25 l25 => unc l25 fun u26 l26 =>
 (aBuild prog 71 [(1, u5), (2, u14), (3, u23)]).bind fun t27 =>
 (aAlloc prog 71 r0.2).bind fun r28 =>
 (aStore prog 71 r28.1 (stV r28.1 r28.2 t27) r28.2 lo).bind fun H29 =>
 (aFieldAddr prog 24 r0.1 0 H29).bind fun t30 =>
 (aLoad prog 3 t30 H29).bind fun t31 =>
 (aBin prog .lss 3 false true t31 (A.v (.int .i64 1))).bind fun t32 =>
 (bIf t32 (some [A.v (.bool true), ud, ud, ud]) ((aFieldAddr prog 24 r0.1 0 H29).bind fun t33 =>
 (aLoad prog 3 t33 H29).bind fun t34 =>
 (aBin prog .gtr 3 false true t34 (A.v (.int .i64 3))).bind fun t35 => some [t35, t35, t34, t33])).bind fun l33 => unc l33 fun u34 l34 => unc l34 fun u35 l35 => unc l35 fun u36 l36 => unc l36 fun u37 l37 =>
 (bIf u34 (some [A.v (.bool true), ud, ud, ud, ud, ud]) ((aFieldAddr prog 24 r0.1 0 H29).bind fun t38 =>
 (aLoad prog 3 t38 H29).bind fun t39 =>
 (aIndexAddr prog 71 r28.1 t39 H29).bind fun t40 =>
 (aLoad prog 4 t40 H29).bind fun t41 =>
 (aUn prog UnOp.not t41).bind fun t42 => some [t42, t42, t41, t40, t39, t38])).bind fun l38 => unc l38 fun u39 l39 => unc l39 fun u40 l40 => unc l40 fun u41 l41 => unc l41 fun u42 l42 => unc l42 fun u43 l43 => unc l43 fun u44 l44 => bIfN u39 (some (Out.ret (A.tup [A.v (.int .i64 0), A.v (.bool false)]), H29)) ((aFieldAddr prog 24 r0.1 0 H29).bind fun t45 =>
 (aLoad prog 3 t45 H29).bind fun t46 =>
 (aBin prog .lss 3 false true t46 (A.v (.int .i64 3))).bind fun t47 => bIfN t47 (some (Out.ret (A.tup [A.v (.int .i64 0), A.v (.bool true)]), H29)) ((aFieldAddr prog 24 r0.1 3 H29).bind fun t48 =>
 (aLoad prog 22 t48 H29).bind fun t49 =>
 (aLen prog 22 t49 H29).bind fun t50 => loopR (cx C) call rg n 28 lo 0 (List.length H29) (fun i51 s51 => bif Nat.beq i51 0 then
 (aBin prog .add 3 false true (lk s51 2) (A.v (.int .i64 1))).bind fun t52 => some (Out.ret (A.tup [t52, A.v (.bool true)]), St.H s51) else none) (fun i51 s51 => none) (fun a51 => some (Out.ret (A.tup [lk a51 2, lk a51 3]), St.H a51)) (fun i51 s51 => some (Out.pan i51, St.H s51)) n (St.mk [(2, A.v (.int .i64 0)), (3, A.v (.bool false)), (55, t49), (56, t50), (57, A.v (.int .i64 0))] H29))) := by kernel_rfl
theorem e32 (n lo : Nat) (x0 x1 : A) (H : Heap) : evCall1 (cx C) call rg n 32 [x0, x1] H lo =
 (aAlloc prog 24 H).bind fun r0 =>
 (call 44 [x0, A.v (.int .i64 1)] r0.2 lo).bind fun H1 => outK H1.1 (fun a2 =>
 (aIndexAddr prog 27 a2 (A.v (.int .i64 0)) H1.2).bind fun t3 =>
 (aLoad prog 5 t3 H1.2).bind fun t4 =>
 (aConvert prog 5 3 t4 H1.2).bind fun t5 =>
 (aFieldAddr prog 24 r0.1 0 H1.2).bind fun t6 =>
 (aStore prog 3 t6 (stV t6 H1.2 t5) H1.2 lo).bind fun H7 =>
 (aFieldAddr prog 24 r0.1 0 H7).bind fun t8 =>
 (aLoad prog 3 t8 H7).bind fun t9 =>
 (aBin prog .eql 3 false true t9 (A.v (.int .i64 1))).bind fun t10 => bIfN t10 ((call 46 [x0] H7 lo).bind fun H11 => outK H11.1 (fun a12 =>
 (C 45 [snap H11.2 a12]).bind fun t13 =>
 (aFieldAddr prog 24 r0.1 1 H11.2).bind fun t14 =>
 (aStore prog 3 t14 (stV t14 H11.2 t13) H11.2 lo).bind fun H15 =>
 (aLoad prog 24 r0.1 H15).bind fun t16 =>
 (aStore prog 24 r0.1 (stV r0.1 H15 t16) H15 lo).bind fun H17 =>
 (aLoad prog 24 r0.1 (actC lo 3 0 r0.1 H17)).bind fun t18 => some (Out.ret t18, actC lo 3 0 r0.1 H17)) fun a12 => some (Out.pan a12, H11.2)) ((aBin prog .eql 3 false true t9 (A.v (.int .i64 2))).bind fun t11 => bIfN t11 ((call 47 [x0] H7 lo).bind fun H12 => outK H12.1 (fun a13 =>
 (call 44 [x0, a13] H12.2 lo).bind fun H14 => outK H14.1 (fun a15 =>
 (aConvert prog 27 9 a15 H14.2).bind fun t16 =>
 (aFieldAddr prog 24 r0.1 2 H14.2).bind fun t17 =>
 (aStore prog 9 t17 (stV t17 H14.2 t16) H14.2 lo).bind fun H18 =>
 (aLoad prog 24 r0.1 H18).bind fun t19 =>
 (aStore prog 24 r0.1 (stV r0.1 H18 t19) H18 lo).bind fun H20 =>
 (aLoad prog 24 r0.1 (actC lo 3 0 r0.1 H20)).bind fun t21 => some (Out.ret t21, actC lo 3 0 r0.1 H20)) fun a15 => some (Out.pan a15, H14.2)) fun a13 => some (Out.pan a13, H12.2)) ((aBin prog .eql 3 false true t9 (A.v (.int .i64 3))).bind fun t12 => bIfN t12 ((aBin prog .lss 3 false true x1 (A.v (.int .i64 16))).bind fun t13 =>
 (call 33 [x0, t13] H7 lo).bind fun H14 => outK H14.1 (fun a15 =>
 (call 47 [x0] H14.2 lo).bind fun H16 => outK H16.1 (fun a17 => loopR (cx C) call rg n 32 lo 0 (List.length (actC lo 3 5 r0.1 H16.2)) (fun i18 s18 => bif Nat.beq i18 1 then
 (aLoad prog 24 (lk s18 4) (St.H s18)).bind fun t19 =>
 (aStore prog 24 (lk s18 4) (stV (lk s18 4) (St.H s18) t19) (St.H s18) lo).bind fun H20 =>
 (aLoad prog 24 (lk s18 4) (actC lo 3 0 (lk s18 4) H20)).bind fun t21 => some (Out.ret t21, actC lo 3 0 (lk s18 4) H20) else bif Nat.beq i18 0 then
 (aLoad prog 24 (lk s18 4) (St.H s18)).bind fun t19 =>
 (aStore prog 24 (lk s18 4) (stV (lk s18 4) (St.H s18) t19) (St.H s18) lo).bind fun H20 =>
 (aLoad prog 24 (lk s18 4) (actC lo 3 0 (lk s18 4) H20)).bind fun t21 => some (Out.ret t21, actC lo 3 0 (lk s18 4) H20) else none) (fun i18 s18 => none) (fun a18 =>
 (aLoad prog 24 (lk a18 4) (actC lo 3 0 (lk a18 4) (St.H a18))).bind fun t19 => some (Out.ret t19, actC lo 3 0 (lk a18 4) (St.H a18))) (fun i18 s18 => some (Out.pan i18, St.H s18)) n (St.mk [(0, x0), (1, x1), (4, r0.1), (36, a17), (37, A.v (.int .i64 0))] (actC lo 3 5 r0.1 H16.2))) fun a17 => some (Out.pan a17, H16.2)) fun a15 => some (Out.pan a15, H14.2)) ((call 33 [x0, A.v (.bool false)] H7 lo).bind fun H13 => outK H13.1 (fun a14 =>
 (aLoad prog 24 r0.1 H13.2).bind fun t15 =>
 (aStore prog 24 r0.1 (stV r0.1 H13.2 t15) H13.2 lo).bind fun H16 =>
 (aLoad prog 24 r0.1 (actC lo 3 0 r0.1 H16)).bind fun t17 => some (Out.ret t17, actC lo 3 0 r0.1 H16)) fun a14 => some (Out.pan a14, H13.2))))) fun a2 => some (Out.pan a2, H1.2) := by kernel_rfl
theorem e33 (n lo : Nat) (x0 x1 : A) (H : Heap) : evCall1 (cx C) call rg n 33 [x0, x1] H lo =
 (aUn prog UnOp.not x1).bind fun t0 => bIfN t0 ((aIfc prog 28 (A.v (.int .i64 10))).bind fun t1 => panK t1 fun a2 => some (Out.pan a2, H)) (some (Out.ret (A.tup []), H)) := by kernel_rfl
theorem e35 (n lo : Nat) (x0 x1 x2 : A) (H : Heap) : evCall1 (cx C) call rg n 35 [x0, x1, x2] H lo =
 (aLen prog 22 x0 H).bind fun t0 =>
 (aLen prog 22 x1 H).bind fun t1 =>
 (aBin prog .neq 3 false false t0 t1).bind fun t2 => bIfN t2 (some (Out.ret (A.v (.bool false)), H)) ((aLen prog 22 x0 H).bind fun t3 => loopR (cx C) call rg n 35 lo 0 (List.length H) (fun i4 s4 => bif Nat.beq i4 0 then some (Out.ret (A.v (.bool true)), St.H s4) else none) (fun i4 s4 => none) (fun a4 => some (Out.ret (lk a4 6), St.H a4)) (fun i4 s4 => some (Out.pan i4, St.H s4)) n (St.mk [(1, x1), (2, x2), (6, A.v (.bool false)), (15, x0), (16, t3), (17, A.v (.int .i64 0))] H)) := by kernel_rfl
theorem e36 (n lo : Nat) (x0 x1 : A) (H : Heap) : evCall1 (cx C) call rg n 36 [x0, x1] H lo =
 (aBox x0 H).bind fun r0 =>
 (aFieldAddr prog 24 r0.1 2 r0.2).bind fun t1 =>
 (aLoad prog 9 t1 r0.2).bind fun t2 =>
 (aLen prog 9 t2 r0.2).bind fun t3 =>
 (aBin prog .quo 3 false true t3 (A.v (.int .i64 200))).bind fun t4 =>
 (aBin prog .add 3 true false (A.v (.int .i64 1)) t4).bind fun t5 =>
 (aBin prog .lss 3 false true x1 (A.v (.int .i64 0))).bind fun t6 =>
 (bIf t6 (some [A.v (.bool true), ud, ud, ud, ud]) ((aFieldAddr prog 24 r0.1 3 r0.2).bind fun t7 =>
 (aLoad prog 22 t7 r0.2).bind fun t8 =>
 (aLen prog 22 t8 r0.2).bind fun t9 =>
 (aBin prog .gtr 3 false true t9 (A.v (.int .i64 150))).bind fun t10 => some [t10, t10, t9, t8, t7])).bind fun l7 => unc l7 fun u8 l8 => unc l8 fun u9 l9 => unc l9 fun u10 l10 => unc l10 fun u11 l11 => unc l11 fun u12 l12 => bIfN u8 (some (Out.ret (A.v (.int .i64 1000)), r0.2)) (loopR (cx C) call rg n 36 lo 0 (List.length r0.2) (fun i13 s13 => bif Nat.beq i13 0 then some (Out.ret (lk s13 5), St.H s13) else none) (fun i13 s13 => none) (fun a13 => some (Out.ret (lk a13 4), St.H a13)) (fun i13 s13 => some (Out.pan i13, St.H s13)) n (St.mk [(1, x1), (2, r0.1), (4, A.v (.int .i64 0)), (5, t5), (6, A.v (.int .i64 0))] r0.2)) := by kernel_rfl
theorem e37 (n lo : Nat) (x0 x1 : A) (H : Heap) : evCall1 (cx C) call rg n 37 [x0, x1] H lo =
 (aBox x1 H).bind fun r0 =>
 (aBuildSlice prog 27 1 [(0, frzA r0.2 (A.v (.int .u8 1)))]).bind fun t1 =>
 (aAppend prog 27 27 false x0 t1 r0.2 lo).bind fun r2 => bif bif apart r0.1 x0 then true else false then
 (aFieldAddr prog 24 r0.1 1 r2.2).bind fun t3 => bif bif apart t3 x0 then true else false then
 (aLoad prog 3 t3 r2.2).bind fun t4 =>
 (C 39 [snap r2.2 t4]).bind fun t5 =>
 (call 38 [r2.1, t5] r2.2 lo).bind fun H6 => outK H6.1 (fun a7 => some (Out.ret a7, H6.2)) fun a7 => some (Out.pan a7, H6.2) else none else none := by kernel_rfl
theorem e38 (n lo : Nat) (x0 x1 : A) (H : Heap) : evCall1 (cx C) call rg n 38 [x0, x1] H lo = loopR (cx C) call rg n 38 lo 0 (List.length H) (fun i0 s0 => bif Nat.beq i0 0 then
 (aConvert prog 68 5 (lk s0 1) (St.H s0)).bind fun t1 =>
 (aBuildSlice prog 27 1 [(0, frzA (St.H s0) t1)]).bind fun t2 =>
 (aAppend prog 27 27 false (lk s0 0) t2 (St.H s0) lo).bind fun r3 => some (Out.ret r3.1, r3.2) else none) (fun i0 s0 => none) (fun a0 => some (Out.ret (lk a0 4), St.H a0)) (fun i0 s0 => some (Out.pan i0, St.H s0)) n (St.mk [(0, x0), (1, x1), (4, A.imm [] true)] H) := by kernel_rfl
theorem e39 (n lo : Nat) (x0 : A) (H : Heap) : evCall1 (cx C) call rg n 39 [x0] H lo =
 (aConvert prog 3 68 x0 H).bind fun t0 =>
 (aBin prog .shl 68 false true t0 (A.v (.int .u64 1))).bind fun t1 =>
 (aBin prog .shr 3 false true x0 (A.v (.int .u64 63))).bind fun t2 =>
 (aConvert prog 3 68 t2 H).bind fun t3 =>
 (aBin prog .xor 68 false false t1 t3).bind fun t4 => some (Out.ret t4, H) := by kernel_rfl
theorem e40 (n lo : Nat) (x0 x1 : A) (H : Heap) : evCall1 (cx C) call rg n 40 [x0, x1] H lo =
 (aBox x1 H).bind fun r0 =>
 (aKill lo r0.1 r0.2).bind fun r1 => bif bif flatA (A.v (.int .u8 2)) then true else false then
 (aBuildSlice prog 27 1 [(0, frzA r1.2 (A.v (.int .u8 2)))]).bind fun t2 =>
 (aFieldAddr prog 24 r1.1 2 r1.2).bind fun t3 =>
 (aLoad prog 9 t3 r1.2).bind fun t4 =>
 (aLen prog 9 t4 r1.2).bind fun t5 =>
 (aConvert prog 3 68 t5 r1.2).bind fun t6 =>
 (aFieldAddr prog 24 r1.1 2 r1.2).bind fun t7 =>
 (aLoad prog 9 t7 r1.2).bind fun t8 => bif bif apart t7 x0 then bif apart r1.1 x0 then bif apart t5 x0 then bif apart t4 x0 then bif apart t3 x0 then bif apart r1.1 x0 then true else false else false else false else false else false else false then
 (aAppend prog 27 27 false x0 t2 r1.2 lo).bind fun r9 => bif bif apartC 1000 t7 then bif apartC 1000 r1.1 then true else false else false then
 (call 38 [r9.1, t6] r9.2 lo).bind fun H10 => outK H10.1 (fun a11 =>
 (aAppend prog 27 9 false a11 t8 H10.2 lo).bind fun r12 => some (Out.ret r12.1, r12.2)) fun a11 => some (Out.pan a11, H10.2) else none else none else none := by kernel_rfl
theorem e41 (n lo : Nat) (x0 x1 x2 : A) (H : Heap) : evCall1 (cx C) call rg n 41 [x0, x1, x2] H lo =
 (aBox x1 H).bind fun r0 =>
 (aBuildSlice prog 27 1 [(0, frzA r0.2 (A.v (.int .u8 3)))]).bind fun t1 =>
 (aAppend prog 27 27 false x0 t1 r0.2 lo).bind fun r2 => bif bif apart r0.1 x0 then true else false then
 (aFieldAddr prog 24 r0.1 3 r2.2).bind fun t3 => bif bif apart t3 x0 then true else false then
 (aLoad prog 22 t3 r2.2).bind fun t4 => bif bif apart t4 x0 then true else false then
 (aLen prog 22 t4 r2.2).bind fun t5 => bif bif apart t5 x0 then true else false then
 (aConvert prog 3 68 t5 r2.2).bind fun t6 =>
 (call 38 [r2.1, t6] r2.2 lo).bind fun H7 => outK H7.1 (fun a8 =>
 (aFieldAddr prog 24 r0.1 3 H7.2).bind fun t9 =>
 (aLoad prog 22 t9 H7.2).bind fun t10 =>
 (aLen prog 22 t10 H7.2).bind fun t11 => loopR (cx C) call rg n 41 lo 0 (List.length H7.2) (fun i12 s12 => bif Nat.beq i12 0 then some (Out.ret (lk s12 0), St.H s12) else none) (fun i12 s12 => none) (fun a12 => some (Out.ret (lk a12 5), St.H a12)) (fun i12 s12 => some (Out.pan i12, St.H s12)) n (St.mk [(0, a8), (2, x2), (5, A.imm [] true), (17, t10), (18, t11), (19, A.v (.int .i64 0))] H7.2)) fun a8 => some (Out.pan a8, H7.2) else none else none else none else none := by kernel_rfl
theorem e44 (n lo : Nat) (x0 x1 : A) (H : Heap) : evCall1 (cx C) call rg n 44 [x0, x1] H lo =
 (aNil x0 H).bind fun t0 =>
 (aFieldAddr prog 58 t0 0 H).bind fun t1 =>
 (aLoad prog 27 t1 H).bind fun t2 =>
 (aLen prog 27 t2 H).bind fun t3 =>
 (aBin prog .leq 3 false false x1 t3).bind fun t4 =>
 (call 33 [x0, t4] H lo).bind fun H5 => outK H5.1 (fun a6 =>
 (aNil x0 H5.2).bind fun t7 =>
 (aFieldAddr prog 58 t7 0 H5.2).bind fun t8 =>
 (aLoad prog 27 t8 H5.2).bind fun t9 =>
 (aSlice prog 27 t9 none (some x1) (some x1) H5.2).bind fun t10 =>
 (aNil x0 H5.2).bind fun t11 =>
 (aFieldAddr prog 58 t11 0 H5.2).bind fun t12 =>
 (aLoad prog 27 t12 H5.2).bind fun t13 =>
 (aSlice prog 27 t13 (some x1) none none H5.2).bind fun t14 =>
 (aNil x0 H5.2).bind fun t15 =>
 (aFieldAddr prog 58 t15 0 H5.2).bind fun t16 =>
 (aStore prog 27 t16 (stV t16 H5.2 t14) H5.2 lo).bind fun H17 => some (Out.ret t10, H17)) fun a6 => some (Out.pan a6, H5.2) := by kernel_rfl
theorem e45 (n lo : Nat) (x0 : A) (H : Heap) : evCall1 (cx C) call rg n 45 [x0] H lo =
 (aBin prog .shr 68 false true x0 (A.v (.int .u64 1))).bind fun t0 =>
 (aConvert prog 68 3 t0 H).bind fun t1 =>
 (aBin prog .and 68 false true x0 (A.v (.int .u64 1))).bind fun t2 =>
 (aConvert prog 68 3 t2 H).bind fun t3 =>
 (aUn prog UnOp.neg t3).bind fun t4 =>
 (aBin prog .xor 3 false false t1 t4).bind fun t5 => some (Out.ret t5, H) := by kernel_rfl
theorem e46 (n lo : Nat) (x0 : A) (H : Heap) : evCall1 (cx C) call rg n 46 [x0] H lo = loopR (cx C) call rg n 46 lo 0 (List.length H) (fun i0 s0 => bif Nat.beq i0 0 then some (Out.ret (lk s0 2), St.H s0) else none) (fun i0 s0 => none) (fun a0 => some (Out.ret (lk a0 2), St.H a0)) (fun i0 s0 => some (Out.pan i0, St.H s0)) n (St.mk [(0, x0), (2, A.v (.int .u64 0)), (3, A.v (.int .i64 0))] H) := by kernel_rfl
theorem e47 (n lo : Nat) (x0 : A) (H : Heap) : evCall1 (cx C) call rg n 47 [x0] H lo =
 (call 46 [x0] H lo).bind fun H0 => outK H0.1 (fun a1 =>
 (aNil x0 H0.2).bind fun t2 =>
 (aFieldAddr prog 58 t2 0 H0.2).bind fun t3 =>
 (aLoad prog 27 t3 H0.2).bind fun t4 =>
 (aLen prog 27 t4 H0.2).bind fun t5 =>
 (aConvert prog 3 68 t5 H0.2).bind fun t6 =>
 (aBin prog .leq 68 false false a1 t6).bind fun t7 =>
 (call 33 [x0, t7] H0.2 lo).bind fun H8 => outK H8.1 (fun a9 =>
 (aConvert prog 68 3 a1 H8.2).bind fun t10 => some (Out.ret t10, H8.2)) fun a9 => some (Out.pan a9, H8.2)) fun a1 => some (Out.pan a1, H0.2) := by kernel_rfl
theorem e8_0 (n lo L : Nat) (kx kg : Nat -> St -> Option R) (kr : St -> Option R) (kp : A -> St -> Option R) (m : Nat) (x0 x2 x3 x4 x5 x29 x30 x31 : A) (H : Heap) : loopR (cx C) call rg n 8 lo 0 L kx kg kr kp (m + 1) (St.mk [(0, x0), (2, x2), (3, x3), (4, x4), (5, x5), (29, x29), (30, x30), (31, x31)] H) =
 (aBin prog .lss 3 false false x31 x30).bind fun t0 => bIfN t0 ((aIndexAddr prog 22 x29 x31 H).bind fun t1 =>
 (aLoad prog 24 t1 H).bind fun t2 =>
 (aAlloc prog 24 H).bind fun r3 =>
 (aStore prog 24 r3.1 (stV r3.1 r3.2 t2) r3.2 lo).bind fun H4 =>
 (aLoad prog 24 r3.1 H4).bind fun t5 =>
 (C 12 [snap H4 t5]).bind fun t6 =>
 (aExtract t6 0).bind fun t7 =>
 (aExtract t6 1).bind fun t8 =>
 (aLoad prog 24 r3.1 H4).bind fun t9 =>
 (C 14 [snap H4 t9]).bind fun t10 =>
 (aExtract t10 0).bind fun t11 =>
 (aExtract t10 1).bind fun t12 =>
 (aBin prog .neq 28 false false t8 t12).bind fun t13 =>
 (bIf t13 (some [A.v (.bool true), ud, ud, ud, ud, ud, ud, ud, ud]) ((aBin prog .eql 28 false true t8 (A.v (.int .i64 0))).bind fun t14 =>
 (bIf t14 ((aLen prog 27 t7 H4).bind fun t15 =>
 (aBin prog .neq 3 false false t11 t15).bind fun t16 => some [t16, t16, t15, t7, t11]) (some [A.v (.bool false), ud, ud, ud, ud])).bind fun l15 => unc l15 fun u16 l16 => unc l16 fun u17 l17 => unc l17 fun u18 l18 => unc l18 fun u19 l19 => unc l19 fun u20 l20 => some [u16, u16, u17, u18, u19, u20, t14, t14, t8])).bind fun l14 => unc l14 fun u15 l15 => unc l15 fun u16 l16 => unc l16 fun u17 l17 => unc l17 fun u18 l18 => unc l18 fun u19 l19 => unc l19 fun u20 l20 => unc l20 fun u21 l21 => unc l21 fun u22 l22 => unc l22 fun u23 l23 => bIfN u15 (kr (St.mk [(0, x0), (2, A.v (.bool false)), (3, x3), (4, x4), (5, x5), (29, x29), (30, x30), (31, x31)] H4)) ((aBin prog .neq 28 false true t8 (A.v (.int .i64 0))).bind fun t24 => bIfN t24 ((C 22 [snap H4 x0]).bind fun t25 =>
 (C 12 [snap H4 t25]).bind fun t26 =>
 (aExtract t26 0).bind fun t27 =>
 (aExtract t26 1).bind fun t28 =>
 (aBin prog .neq 28 false true t28 (A.v (.int .i64 0))).bind fun t29 => kr (St.mk [(0, x0), (2, t29), (3, x3), (4, x4), (5, x5), (29, x29), (30, x30), (31, x31)] H4)) ((aAppend prog 27 27 false x3 t7 H4 lo).bind fun r25 =>
 (C 23 [snap r25.2 (A.v (.int .i64 0))]).bind fun t26 =>
 (aBuildSlice prog 22 1 [(0, frzA r25.2 t26)]).bind fun t27 =>
 (aAppend prog 22 22 false x4 t27 r25.2 lo).bind fun r28 =>
 (aBin prog .add 3 false false x5 t11).bind fun t29 =>
 (aBin prog .add 3 false true x31 (A.v (.int .i64 1))).bind fun t30 =>
 (trim L r28.2).bind fun H31 => bif bif Nat.beq (List.length r28.2) L then true else keepsUnder L [(31, t30), (78, t30), (5, t29), (77, t29), (76, t11), (75, x5), (4, r28.1), (74, r28.1), (73, t27), (72, t26), (71, x4), (3, r25.1), (70, r25.1), (69, t7), (68, x3), (59, t24), (58, t8), (57, u15), (56, u16), (55, u17), (54, u18), (53, u19), (52, u20), (51, u21), (50, u22), (49, u23), (48, t13), (47, t13), (46, t12), (45, t8), (11, t12), (10, t11), (44, t12), (43, t11), (40, t10), (42, t10), (41, t9), (9, t8), (8, t7), (39, t8), (38, t7), (35, t6), (37, t6), (36, t5), (7, r3.1), (34, t2), (33, t1), (32, t0), (0, x0), (2, x2), (3, x3), (4, x4), (5, x5), (29, x29), (30, x30), (31, x31)] [0, 2, 3, 4, 5, 29, 30, 31] then loopR (cx C) call rg n 8 lo 0 L kx kg kr kp m (St.mk [(0, x0), (2, x2), (3, r25.1), (4, r28.1), (5, t29), (29, x29), (30, x30), (31, t30)] H31) else none))) (kx 0 (St.mk [(0, x0), (2, x2), (3, x3), (4, x4), (5, x5), (29, x29), (30, x30), (31, x31)] H)) := by kernel_rfl
theorem e10_0 (n lo L : Nat) (kx kg : Nat -> St -> Option R) (kr : St -> Option R) (kp : A -> St -> Option R) (m : Nat) (x0 x77 x78 x79 : A) (H : Heap) : loopR (cx C) call rg n 10 lo 0 L kx kg kr kp (m + 1) (St.mk [(0, x0), (77, x77), (78, x78), (79, x79)] H) =
 (aBin prog .lss 3 false false x79 x78).bind fun t0 => bIfN t0 ((aIndexAddr prog 45 x77 x79 H).bind fun t1 =>
 (aLoad prog 9 t1 H).bind fun t2 =>
 (aConvert prog 9 27 t2 H).bind fun t3 =>
 (C 18 [snap H t3]).bind fun t4 =>
 (aExtract t4 0).bind fun t5 =>
 (aExtract t4 1).bind fun t6 =>
 (aAlloc prog 24 H).bind fun r7 =>
 (aStore prog 24 r7.1 (stV r7.1 r7.2 t5) r7.2 lo).bind fun H8 =>
 (aBin prog .neq 28 false true t6 (A.v (.int .i64 10))).bind fun t9 => bIfN t9 (kr (St.mk [(0, A.v (.bool false)), (77, x77), (78, x78), (79, x79)] H8)) ((aBin prog .add 3 false true x79 (A.v (.int .i64 1))).bind fun t10 =>
 (trim L H8).bind fun H11 => bif bif Nat.beq (List.length H8) L then true else keepsUnder L [(79, t10), (91, t10), (90, t9), (89, t6), (13, t6), (12, r7.1), (88, t6), (87, t5), (83, t4), (86, t4), (85, t3), (84, t2), (11, t2), (82, t2), (81, t1), (80, t0), (0, x0), (77, x77), (78, x78), (79, x79)] [0, 77, 78, 79] then loopR (cx C) call rg n 10 lo 0 L kx kg kr kp m (St.mk [(0, x0), (77, x77), (78, x78), (79, t10)] H11) else none)) (kx 0 (St.mk [(0, x0), (77, x77), (78, x78), (79, x79)] H)) := by kernel_rfl
theorem e11_0 (n lo L : Nat) (kx kg : Nat -> St -> Option R) (kr : St -> Option R) (kp : A -> St -> Option R) (m : Nat) (x2 x5 x6 x7 : A) (H : Heap) : loopR (cx C) call rg n 11 lo 0 L kx kg kr kp (m + 1) (St.mk [(2, x2), (5, x5), (6, x6), (7, x7)] H) =
 (aBin prog .lss 3 false false x7 x6).bind fun t0 => bIfN t0 ((aIndexAddr prog 22 x5 x7 H).bind fun t1 =>
 (aLoad prog 24 t1 H).bind fun t2 =>
 (aAlloc prog 24 H).bind fun r3 =>
 (aStore prog 24 r3.1 (stV r3.1 r3.2 t2) r3.2 lo).bind fun H4 =>
 (aLoad prog 24 r3.1 H4).bind fun t5 =>
 (C 25 [snap H4 t5, snap H4 (A.v (.int .i64 20))]).bind fun t6 =>
 (aUn prog UnOp.not t6).bind fun t7 => bIfN t7 (kr (St.mk [(2, A.v (.bool false)), (5, x5), (6, x6), (7, x7)] H4)) ((aBin prog .add 3 false true x7 (A.v (.int .i64 1))).bind fun t8 =>
 (trim L H4).bind fun H9 => bif bif Nat.beq (List.length H4) L then true else keepsUnder L [(7, t8), (14, t8), (13, t7), (12, t6), (11, t5), (4, r3.1), (10, t2), (9, t1), (8, t0), (2, x2), (5, x5), (6, x6), (7, x7)] [2, 5, 6, 7] then loopR (cx C) call rg n 11 lo 0 L kx kg kr kp m (St.mk [(2, x2), (5, x5), (6, x6), (7, t8)] H9) else none)) (kx 0 (St.mk [(2, x2), (5, x5), (6, x6), (7, x7)] H)) := by kernel_rfl
theorem e28_0 (n lo L : Nat) (kx kg : Nat -> St -> Option R) (kr : St -> Option R) (kp : A -> St -> Option R) (m : Nat) (x2 x3 x55 x56 x57 : A) (H : Heap) : loopR (cx C) call rg n 28 lo 0 L kx kg kr kp (m + 1) (St.mk [(2, x2), (3, x3), (55, x55), (56, x56), (57, x57)] H) =
 (aBin prog .lss 3 false false x57 x56).bind fun t0 => bIfN t0 ((aIndexAddr prog 22 x55 x57 H).bind fun t1 =>
 (aLoad prog 24 t1 H).bind fun t2 =>
 (aAlloc prog 24 H).bind fun r3 =>
 (aStore prog 24 r3.1 (stV r3.1 r3.2 t2) r3.2 lo).bind fun H4 =>
 (aLoad prog 24 r3.1 H4).bind fun t5 =>
 (C 28 [snap H4 t5]).bind fun t6 =>
 (aExtract t6 0).bind fun t7 =>
 (aExtract t6 1).bind fun t8 =>
 (aUn prog UnOp.not t8).bind fun t9 => bIfN t9 (kr (St.mk [(2, A.v (.int .i64 0)), (3, A.v (.bool false)), (55, x55), (56, x56), (57, x57)] H4)) ((aMM false x2 [t7]).bind fun t10 =>
 (aBin prog .add 3 false true x57 (A.v (.int .i64 1))).bind fun t11 =>
 (trim L H4).bind fun H12 => bif bif Nat.beq (List.length H4) L then true else keepsUnder L [(57, t11), (71, t11), (2, t10), (70, t10), (69, t7), (68, x2), (67, t9), (66, t8), (8, t8), (7, t7), (65, t8), (64, t7), (61, t6), (63, t6), (62, t5), (6, r3.1), (60, t2), (59, t1), (58, t0), (2, x2), (3, x3), (55, x55), (56, x56), (57, x57)] [2, 3, 55, 56, 57] then loopR (cx C) call rg n 28 lo 0 L kx kg kr kp m (St.mk [(2, t10), (3, x3), (55, x55), (56, x56), (57, t11)] H12) else none)) (kx 0 (St.mk [(2, x2), (3, x3), (55, x55), (56, x56), (57, x57)] H)) := by kernel_rfl
theorem e32_0 (n lo L : Nat) (kx kg : Nat -> St -> Option R) (kr : St -> Option R) (kp : A -> St -> Option R) (m : Nat) (x0 x1 x4 x36 x37 : A) (H : Heap) : loopR (cx C) call rg n 32 lo 0 L kx kg kr kp (m + 1) (St.mk [(0, x0), (1, x1), (4, x4), (36, x36), (37, x37)] H) =
 (aBin prog .lss 3 false false x37 x36).bind fun t0 => bIfN t0 ((aFieldAddr prog 24 x4 3 H).bind fun t1 =>
 (aLoad prog 22 t1 H).bind fun t2 =>
 (aBin prog .add 3 false true x1 (A.v (.int .i64 1))).bind fun t3 => bif bif apartC 3 t1 then bif apartC 3 x4 then true else false else false then
 (call 32 [x0, t3] H lo).bind fun H4 => outK H4.1 (fun a5 =>
 (aBuildSlice prog 22 1 [(0, frzA H4.2 a5)]).bind fun t6 =>
 (aAppend prog 22 22 false t2 t6 H4.2 lo).bind fun r7 =>
 (aFieldAddr prog 24 x4 3 r7.2).bind fun t8 =>
 (aStore prog 22 t8 (stV t8 r7.2 r7.1) r7.2 lo).bind fun H9 =>
 (aBin prog .add 3 false true x37 (A.v (.int .i64 1))).bind fun t10 =>
 (trim L H9).bind fun H11 => bif bif Nat.beq (List.length H9) L then true else keepsUnder L [(37, t10), (48, t10), (47, t8), (46, r7.1), (45, t6), (44, a5), (43, t3), (42, x1), (41, x0), (40, t2), (39, t1), (38, t0), (0, x0), (1, x1), (4, x4), (36, x36), (37, x37)] [0, 1, 4, 36, 37] then loopR (cx C) call rg n 32 lo 0 L kx kg kr kp m (St.mk [(0, x0), (1, x1), (4, x4), (36, x36), (37, t10)] H11) else none) fun a5 => kp a5 (St.mk [(0, A.any), (1, A.any), (4, A.any), (36, A.any), (37, A.any)] H4.2) else none) (kx 1 (St.mk [(0, x0), (1, x1), (4, x4), (36, x36), (37, x37)] H)) := by kernel_rfl
theorem e35_0 (n lo L : Nat) (kx kg : Nat -> St -> Option R) (kr : St -> Option R) (kp : A -> St -> Option R) (m : Nat) (x1 x2 x6 x15 x16 x17 : A) (H : Heap) : loopR (cx C) call rg n 35 lo 0 L kx kg kr kp (m + 1) (St.mk [(1, x1), (2, x2), (6, x6), (15, x15), (16, x16), (17, x17)] H) =
 (aBin prog .lss 3 false false x17 x16).bind fun t0 => bIfN t0 ((aIndexAddr prog 22 x15 x17 H).bind fun t1 =>
 (aLoad prog 24 t1 H).bind fun t2 =>
 (aAlloc prog 24 H).bind fun r3 =>
 (aStore prog 24 r3.1 (stV r3.1 r3.2 t2) r3.2 lo).bind fun H4 =>
 (aIndexAddr prog 22 x1 x17 H4).bind fun t5 =>
 (aLoad prog 24 t5 H4).bind fun t6 =>
 (aAlloc prog 24 H4).bind fun r7 =>
 (aStore prog 24 r7.1 (stV r7.1 r7.2 t6) r7.2 lo).bind fun H8 =>
 (aLoad prog 24 r3.1 H8).bind fun t9 =>
 (aLoad prog 24 r7.1 H8).bind fun t10 => dynCall (cx C) call x2 [t9, t10] H8 lo (fun i11 h11 =>
 (aUn prog UnOp.not i11).bind fun t12 => bIfN t12 (kr (St.mk [(1, x1), (2, x2), (6, A.v (.bool false)), (15, x15), (16, x16), (17, x17)] h11)) ((aBin prog .add 3 false true x17 (A.v (.int .i64 1))).bind fun t13 =>
 (trim L h11).bind fun H14 => bif bif Nat.beq (List.length h11) L then true else keepsUnder L [(17, t13), (31, t13), (30, t12), (29, i11), (28, t10), (27, t9), (26, x2), (9, r7.1), (25, t6), (24, t5), (23, x17), (22, x1), (7, x17), (8, r3.1), (21, t2), (20, t1), (19, x17), (18, t0), (1, x1), (2, x2), (6, x6), (15, x15), (16, x16), (17, x17)] [1, 2, 6, 15, 16, 17] then loopR (cx C) call rg n 35 lo 0 L kx kg kr kp m (St.mk [(1, x1), (2, x2), (6, x6), (15, x15), (16, x16), (17, t13)] H14) else none)) fun i11 h11 => kp i11 (St.mk [(1, x1), (2, x2), (6, x6), (15, x15), (16, x16), (17, x17)] h11)) (kx 0 (St.mk [(1, x1), (2, x2), (6, x6), (15, x15), (16, x16), (17, x17)] H)) := by kernel_rfl
theorem e36_0 (n lo L : Nat) (kx kg : Nat -> St -> Option R) (kr : St -> Option R) (kp : A -> St -> Option R) (m : Nat) (x1 x2 x4 x5 x6 : A) (H : Heap) : loopR (cx C) call rg n 36 lo 0 L kx kg kr kp (m + 1) (St.mk [(1, x1), (2, x2), (4, x4), (5, x5), (6, x6)] H) =
 (aFieldAddr prog 24 x2 3 H).bind fun t0 =>
 (aLoad prog 22 t0 H).bind fun t1 =>
 (aLen prog 22 t1 H).bind fun t2 =>
 (aBin prog .lss 3 false false x6 t2).bind fun t3 =>
 (bIf t3 ((aBin prog .leq 3 false true x5 (A.v (.int .i64 1000))).bind fun t4 => some [t4, t4, x5]) (some [A.v (.bool false), ud, ud])).bind fun l4 => unc l4 fun u5 l5 => unc l5 fun u6 l6 => unc l6 fun u7 l7 => bIfN u5 ((aFieldAddr prog 24 x2 3 H).bind fun t8 =>
 (aLoad prog 22 t8 H).bind fun t9 =>
 (aIndexAddr prog 22 t9 x6 H).bind fun t10 =>
 (aLoad prog 24 t10 H).bind fun t11 =>
 (aBin prog .sub 3 false true x1 (A.v (.int .i64 1))).bind fun t12 =>
 (C 36 [snap H t11, snap H t12]).bind fun t13 =>
 (aBin prog .add 3 false false x5 t13).bind fun t14 =>
 (aBin prog .add 3 false true x6 (A.v (.int .i64 1))).bind fun t15 =>
 (trim L H).bind fun H16 => bif bif Nat.beq (List.length H) L then true else keepsUnder L [(6, t15), (30, t15), (29, x6), (5, t14), (40, t14), (39, t13), (38, t12), (37, x1), (36, t11), (35, t10), (34, x6), (33, t9), (32, t8), (31, x5), (28, u5), (27, u6), (26, u7), (25, t3), (24, t3), (23, t2), (22, t1), (21, t0), (20, x6), (1, x1), (2, x2), (4, x4), (5, x5), (6, x6)] [1, 2, 4, 5, 6] then loopR (cx C) call rg n 36 lo 0 L kx kg kr kp m (St.mk [(1, x1), (2, x2), (4, x4), (5, t14), (6, t15)] H16) else none) (kx 0 (St.mk [(1, x1), (2, x2), (4, x4), (5, x5), (6, x6)] H)) := by kernel_rfl
theorem e38_0 (n lo L : Nat) (kx kg : Nat -> St -> Option R) (kr : St -> Option R) (kp : A -> St -> Option R) (m : Nat) (x0 x1 x4 : A) (H : Heap) : loopR (cx C) call rg n 38 lo 0 L kx kg kr kp (m + 1) (St.mk [(0, x0), (1, x1), (4, x4)] H) =
 (aBin prog .geq 68 false true x1 (A.v (.int .u64 128))).bind fun t0 => bIfN t0 ((aConvert prog 68 5 x1 H).bind fun t1 =>
 (aBin prog .or 5 false true t1 (A.v (.int .u8 128))).bind fun t2 =>
 (aBuildSlice prog 27 1 [(0, frzA H t2)]).bind fun t3 =>
 (aAppend prog 27 27 false x0 t3 H lo).bind fun r4 =>
 (aBin prog .shr 68 false true x1 (A.v (.int .u64 7))).bind fun t5 =>
 (trim L r4.2).bind fun H6 => bif bif Nat.beq (List.length r4.2) L then true else keepsUnder L [(1, t5), (8, t5), (7, x1), (0, r4.1), (14, r4.1), (13, t3), (12, t2), (11, t1), (10, x1), (9, x0), (6, t0), (5, x1), (0, x0), (1, x1), (4, x4)] [0, 1, 4] then loopR (cx C) call rg n 38 lo 0 L kx kg kr kp m (St.mk [(0, r4.1), (1, t5), (4, x4)] H6) else none) (kx 0 (St.mk [(0, x0), (1, x1), (4, x4)] H)) := by kernel_rfl
theorem e41_0 (n lo L : Nat) (kx kg : Nat -> St -> Option R) (kr : St -> Option R) (kp : A -> St -> Option R) (m : Nat) (x0 x2 x5 x17 x18 x19 : A) (H : Heap) : loopR (cx C) call rg n 41 lo 0 L kx kg kr kp (m + 1) (St.mk [(0, x0), (2, x2), (5, x5), (17, x17), (18, x18), (19, x19)] H) =
 (aBin prog .lss 3 false false x19 x18).bind fun t0 => bIfN t0 ((aIndexAddr prog 22 x17 x19 H).bind fun t1 =>
 (aLoad prog 24 t1 H).bind fun t2 =>
 (aAlloc prog 24 H).bind fun r3 =>
 (aStore prog 24 r3.1 (stV r3.1 r3.2 t2) r3.2 lo).bind fun H4 =>
 (aLoad prog 50 x2 H4).bind fun t5 =>
 (aFieldAddr prog 24 r3.1 0 H4).bind fun t6 =>
 (aLoad prog 3 t6 H4).bind fun t7 =>
 (aNil t5 H4).bind fun t8 =>
 (aIndexAddr prog 66 t8 t7 H4).bind fun t9 =>
 (aFieldAddr prog 49 t9 0 H4).bind fun t10 =>
 (aLoad prog 47 t10 H4).bind fun t11 =>
 (aLoad prog 24 r3.1 H4).bind fun t12 => dynCall (cx C) call t11 [x0, t12] H4 lo (fun i13 h13 =>
 (aBin prog .add 3 false true x19 (A.v (.int .i64 1))).bind fun t14 =>
 (trim L h13).bind fun H15 => bif bif Nat.beq (List.length h13) L then true else keepsUnder L [(19, t14), (33, t14), (0, i13), (32, i13), (31, t12), (30, x0), (29, t11), (28, t10), (27, t9), (26, t8), (25, t7), (24, t6), (23, t5), (7, r3.1), (22, t2), (21, t1), (20, t0), (0, x0), (2, x2), (5, x5), (17, x17), (18, x18), (19, x19)] [0, 2, 5, 17, 18, 19] then loopR (cx C) call rg n 41 lo 0 L kx kg kr kp m (St.mk [(0, i13), (2, x2), (5, x5), (17, x17), (18, x18), (19, t14)] H15) else none) fun i13 h13 => kp i13 (St.mk [(0, x0), (2, x2), (5, x5), (17, x17), (18, x18), (19, x19)] h13)) (kx 0 (St.mk [(0, x0), (2, x2), (5, x5), (17, x17), (18, x18), (19, x19)] H)) := by kernel_rfl
theorem e46_0 (n lo L : Nat) (kx kg : Nat -> St -> Option R) (kr : St -> Option R) (kp : A -> St -> Option R) (m : Nat) (x0 x2 x3 : A) (H : Heap) : loopR (cx C) call rg n 46 lo 0 L kx kg kr kp (m + 1) (St.mk [(0, x0), (2, x2), (3, x3)] H) =
 (call 44 [x0, A.v (.int .i64 1)] H lo).bind fun H0 => outK H0.1 (fun a1 =>
 (aIndexAddr prog 27 a1 (A.v (.int .i64 0)) H0.2).bind fun t2 =>
 (aLoad prog 5 t2 H0.2).bind fun t3 =>
 (aBin prog .eql 3 false true x3 (A.v (.int .i64 0))).bind fun t4 =>
 (bIf t4 (some [A.v (.bool true), ud, ud]) ((aBin prog .neq 5 false true t3 (A.v (.int .u8 0))).bind fun t5 => some [t5, t5, t3])).bind fun l5 => unc l5 fun u6 l6 => unc l6 fun u7 l7 => unc l7 fun u8 l8 =>
 (bIf u6 ((aBin prog .lss 3 false true x3 (A.v (.int .i64 9))).bind fun t9 =>
 (bIf t9 (some [A.v (.bool true), ud, ud]) ((aBin prog .leq 5 false true t3 (A.v (.int .u8 1))).bind fun t10 => some [t10, t10, t3])).bind fun l10 => unc l10 fun u11 l11 => unc l11 fun u12 l12 => unc l12 fun u13 l13 => some [u11, u11, u12, u13, t9, t9, x3]) (some [A.v (.bool false), ud, ud, ud, ud, ud, ud])).bind fun l9 => unc l9 fun u10 l10 => unc l10 fun u11 l11 => unc l11 fun u12 l12 => unc l12 fun u13 l13 => unc l13 fun u14 l14 => unc l14 fun u15 l15 => unc l15 fun u16 l16 =>
 (call 33 [x0, u10] H0.2 lo).bind fun H17 => outK H17.1 (fun a18 =>
 (aBin prog .and 5 false true t3 (A.v (.int .u8 127))).bind fun t19 =>
 (aConvert prog 5 68 t19 H17.2).bind fun t20 =>
 (aBin prog .mul 3 true false (A.v (.int .i64 7)) x3).bind fun t21 =>
 (aBin prog .shl 68 false false t20 t21).bind fun t22 =>
 (aBin prog .or 68 false false x2 t22).bind fun t23 =>
 (aBin prog .lss 5 false true t3 (A.v (.int .u8 128))).bind fun t24 => bIfN t24 (kr (St.mk [(0, x0), (2, t23), (3, x3)] H17.2)) ((aBin prog .add 3 false true x3 (A.v (.int .i64 1))).bind fun t25 =>
 (trim L H17.2).bind fun H26 => bif bif Nat.beq (List.length H17.2) L then true else keepsUnder L [(3, t25), (6, t25), (5, x3), (36, t24), (35, t3), (2, t23), (34, t23), (33, t22), (32, t21), (31, x3), (30, t20), (29, t19), (28, t3), (27, x2), (26, a18), (25, u10), (24, u11), (23, u12), (22, u13), (21, u14), (20, u15), (19, u16), (18, u6), (17, u6), (16, u7), (15, u8), (14, t4), (13, t4), (12, x3), (11, x0), (4, t3), (10, t3), (9, t2), (8, a1), (7, x0), (0, x0), (2, x2), (3, x3)] [0, 2, 3] then loopR (cx C) call rg n 46 lo 0 L kx kg kr kp m (St.mk [(0, x0), (2, t23), (3, t25)] H26) else none)) fun a18 => kp a18 (St.mk [(0, x0), (2, x2), (3, x3)] H17.2)) fun a1 => kp a1 (St.mk [(0, x0), (2, x2), (3, x3)] H0.2) := by kernel_rfl
end Go.Proofs.Ytmjaehondldaaaa
