/-
 What the interpreter does with the program's functions: equations, by a tool; the kernel checks each.
-/
import Derived.Test.YthoomfjliekbdaaEvTyped
import Derived.Test.YthoomfjliekbdaaRows
import Derived.KernelRfl
namespace Go.Proofs.Ythoomfjliekbdaa
open Go.Proofs.Try (prog)
set_option linter.unusedVariables false
set_option linter.unusedSimpArgs false
set_option maxHeartbeats 4000000
set_option maxRecDepth 100000
def keepTab : List ((Nat × Nat) × List Nat) := [((6, 26), [0, 4, 5, 8, 9, 10, 11, 12, 13, 17, 18, 19, 20]), ((6, 13), [0, 4, 5, 8, 9, 10, 11, 12, 13]), ((7, 20), [5, 10, 19, 21, 23]), ((8, 16), [1, 2, 4, 5, 6, 7, 12]), ((8, 8), [1, 2, 4, 5, 6, 7, 8]), ((9, 10), [1, 2, 3, 4, 8, 9, 11]), ((11, 7), [1, 2, 3, 5]), ((11, 3), [1, 2, 3, 4]), ((13, 5), [0, 2, 3, 4, 5]), ((14, 9), [2, 3, 4, 6]), ((14, 4), [2, 3, 4, 5]), ((16, 10), [1, 2, 3, 5]), ((16, 5), [1, 2, 3, 4]), ((20, 8), [1, 3, 6, 7, 8]), ((21, 1000005), [3, 4, 5]), ((22, 5), [1, 2, 4, 5, 6, 7]), ((24, 9), [1, 2, 3, 4, 5, 6, 7]), ((28, 2), [3, 4, 5, 6, 7]), ((29, 8), [4, 7, 8]), ((40, 3), [4, 5, 10, 11, 12]), ((43, 2), [0, 1, 4, 7, 8]), ((44, 2), [0, 1, 4, 7, 8]), ((45, 1), [0, 1, 3])]
def keepF (f r : Nat) : List Nat := keepOf f r keepTab
def actTab : List ((Nat × Nat) × List (Nat × Nat × Nat)) := [((12, 2000004), [(4, 0, 0)]), ((19, 2000009), [(8, 0, 0)]), ((23, 2000010), [(7, 0, 0)]), ((38, 3000000), [(2, 0, 3)]), ((41, 3000000), [(2, 0, 500002)]), ((46, 3000000), [(2, 0, 500002)]), ((13, 5), [(4, 1, 2)]), ((6, 13), [(11, 0, 1000004)])]
def actF (f r : Nat) : List (Nat × Nat × Nat) := actOf f r actTab
def arrTab : List (Nat × Nat) := [(6, 44), (28, 44)]
def arrF (f t : Nat) : Bool := inTab f t arrTab
def wrTab : List (Nat × Nat) := [(41, 7), (46, 7), (24, 35)]
def wrF (f t : Nat) : Bool := inTab f t wrTab
def loudTab : List (Nat × Nat) := [(13, 21), (10, 50)]
def loudF (f t : Nat) : Bool := inTab f t loudTab
def joinTab : List ((Nat × Nat) × List Nat) := []
def joinF (f r : Nat) : List Nat := keepOf f r joinTab
def cutTab : List (Nat × Nat) := []
def cutF (k : Nat) : Nat := cutOf k cutTab
def freTab : List (Nat × Nat) := []
def freF (k : Nat) : Bool := inTab k 0 freTab
noncomputable def cx (C : Nat -> List A -> Option A) : Cx := { P := prog, glob := fun _ => none, isOrc := fun k => notIn k [37, 39, 45, 40, 41, 46, 32, 43, 30], isOrcV := fun k => notIn k [37, 39, 45, 41, 46, 32, 43, 30], C := C, keep := keepF, wrAt := wrF, acts := actF, loud := loudF, arr := arrF, join := joinF, cut := cutF, fre := freF }
def sfx : Nat -> Go.Code -> Go.Code
 | 0, c => c
 | n + 1, .seq _ b => sfx n b
 | _, c => c
def hd1 : Go.Code -> Go.Code | .seq a _ => a | c => c
def tk : Nat -> Go.Code -> Go.Code
 | 0, c => hd1 c
 | n + 1, c => .seq (hd1 c) (tk n (sfx 1 c))
def rb : Nat -> Go.Code -> Go.Code -> Go.Code
 | 0, c, r => .seq (hd1 c) r
 | n + 1, c, r => .seq (hd1 c) (rb n (sfx 1 c) r)
noncomputable def tst (cx : Cx) (call : CallT) (rg : CallT -> CallT) (n f lo N : Nat) (c : Go.Code) (s : St) (k : E -> St -> Option R) : Option R := evF cx call rg n f lo N c s k
noncomputable def kEnd (cx : Cx) (f lo : Nat) (fn : Go.Func) (e : E) (s : St) : Option R := match e with
 | .normal | .ret => startR (actAll lo (cx.acts f 3000000) s) fun s => evResR cx fn s
 | .pan a => some (.pan a, s.H)
 | _ => none
theorem qsz (C : Nat -> List A -> Option A) : Array.size (Program.funcs (Cx.P (cx C))) = 65 := by kernel_rfl
theorem yq {C : Nat -> List A -> Option A} {m b : Nat} {base : CallT} {args : List A} {H : Heap} {lo : Nat} : evCallY (cx C) m base (Array.size (Program.funcs (Cx.P (cx C))) + b) args H lo = base (65 + b) args H lo := evCallY_y.trans (congrArg (fun q => base (q + b) args H lo) (qsz C))
theorem lt_30 : Nat.ble prog.funcs.size 30 = false := by kernel_rfl
theorem lt_32 : Nat.ble prog.funcs.size 32 = false := by kernel_rfl
theorem lt_37 : Nat.ble prog.funcs.size 37 = false := by kernel_rfl
theorem lt_39 : Nat.ble prog.funcs.size 39 = false := by kernel_rfl
theorem lt_40 : Nat.ble prog.funcs.size 40 = false := by kernel_rfl
theorem lt_41 : Nat.ble prog.funcs.size 41 = false := by kernel_rfl
theorem lt_43 : Nat.ble prog.funcs.size 43 = false := by kernel_rfl
theorem lt_45 : Nat.ble prog.funcs.size 45 = false := by kernel_rfl
theorem lt_46 : Nat.ble prog.funcs.size 46 = false := by kernel_rfl
variable (C : Nat -> List A -> Option A) (call : CallT) (rg : CallT -> CallT)
abbrev lk (s : St) (i : Nat) : A := look (St.fr s) i
abbrev ud : A := A.v undef
theorem evF_rb {cx : Cx} {call : CallT} {rg : CallT -> CallT} {m f lo N : Nat} {r : Go.Code} (hj : ∀ j, cx.join f j = []) : ∀ (n : Nat) (c : Go.Code) (s : St) (k : E -> St -> Option R), evF cx call rg m f lo N (rb n c r) s k = evF cx call rg m f lo N (tk n c) s (fun e s => match e with | .normal => evF cx call rg m f lo N r s k | e => k e s)
 | 0, c, s, k => by
  show seqJ (cx.join f (joinKey (hd1 c))) _ _ _ = _
  rw [hj]; rfl
 | n + 1, c, s, k => by
  show seqJ (cx.join f (joinKey (hd1 c))) _ _ _ = seqJ (cx.join f (joinKey (hd1 c))) _ _ _
  rw [hj]
  refine congrArg (evF cx call rg m f lo N (hd1 c) s) (funext fun e => funext fun s' => ?_)
  cases e <;> first | exact evF_rb hj n _ s' k | rfl
theorem p6 (n lo : Nat) (x0 x1 : A) (H : Heap) (k : E -> St -> Option R) : tst (cx C) call rg n 6 lo (Func.ntmps Try.f6) (tk 6 (Option.getD (Func.body Try.f6) Code.skip)) (St.mk [(0, x0), (1, x1)] H) k =
 (C 10 []).bind fun t0 =>
 (aUn prog UnOp.not t0).bind fun t1 => bIfN t1 (k E.ret (St.mk [(4, A.v (.bool false)), (22, t1), (21, t0), (4, A.v (.bool false)), (0, x0), (1, x1)] H)) ((aLen prog 43 x0 H).bind fun t2 =>
 (aBin prog .gtr 3 false true t2 (A.v (.int .i64 40))).bind fun t3 => bIfN t3 (k E.ret (St.mk [(4, A.v (.bool true)), (25, t3), (24, t2), (23, x0), (22, t1), (21, t0), (4, A.v (.bool false)), (0, x0), (1, x1)] H)) ((C 12 [snap H (A.v (.int .i64 4))]).bind fun t4 =>
 (aExtract t4 0).bind fun t5 =>
 (aExtract t4 1).bind fun t6 =>
 (aAlloc prog 25 H).bind fun r7 =>
 (aStore prog 25 r7.1 (stV r7.1 r7.2 t5) r7.2 lo).bind fun H8 =>
 (aLoad prog 25 r7.1 H8).bind fun t9 =>
 (aConvert prog 5 3 x1 H8).bind fun t10 =>
 (C 25 [snap H8 t9, snap H8 t10]).bind fun t11 =>
 (aExtract t11 0).bind fun t12 =>
 (aExtract t11 1).bind fun t13 =>
 (aStore prog 25 r7.1 (stV r7.1 H8 t12) H8 lo).bind fun H14 =>
 (aBin prog .neq 28 false true t6 (A.v (.int .i64 0))).bind fun t15 =>
 (bIf t15 (some [A.v (.bool true), ud, ud]) ((aBin prog .neq 28 false true t13 (A.v (.int .i64 0))).bind fun t16 => some [t16, t16, t13])).bind fun l16 => unc l16 fun u17 l17 => unc l17 fun u18 l18 => unc l18 fun u19 l19 => bIfN u17 (k E.ret (St.mk [(4, A.v (.bool false)), (42, u17), (41, u18), (40, u19), (39, t15), (38, t15), (37, t6), (7, t13), (36, t13), (35, t12), (30, t11), (34, t11), (33, t10), (32, x1), (31, t9), (6, t6), (5, r7.1), (29, t6), (28, t5), (26, t4), (27, t4), (25, t3), (24, t2), (23, x0), (22, t1), (21, t0), (4, A.v (.bool false)), (0, x0), (1, x1)] H14)) ((aAllocR prog 44 H14).bind fun r20 =>
 (aAllocR prog 44 r20.2).bind fun r21 =>
 (aAllocR prog 44 r21.2).bind fun r22 => k E.normal (St.mk [(10, r22.1), (9, r21.1), (8, r20.1), (42, u17), (41, u18), (40, u19), (39, t15), (38, t15), (37, t6), (7, t13), (36, t13), (35, t12), (30, t11), (34, t11), (33, t10), (32, x1), (31, t9), (6, t6), (5, r7.1), (29, t6), (28, t5), (26, t4), (27, t4), (25, t3), (24, t2), (23, x0), (22, t1), (21, t0), (4, A.v (.bool false)), (0, x0), (1, x1)] r22.2)))) := by kernel_rfl
noncomputable def r6 (n lo : Nat) (fr : List (Nat × A)) (H : Heap) (k : E -> St -> Option R) : Option R :=
 (aBuildSlice prog 43 0 []).bind fun t0 =>
 (aConvert prog 5 3 (look fr 1) H).bind fun t1 => loopR (cx C) call rg n 6 lo 0 (List.length (seedZ (1000003 - 1000000) (St.H (St.mk [(0, look fr 0), (4, look fr 4), (5, look fr 5), (8, look fr 8), (9, look fr 9), (10, look fr 10), (11, t0), (12, t1), (13, A.v (.int .i64 0))] H)) (look (St.fr (St.mk [(0, look fr 0), (4, look fr 4), (5, look fr 5), (8, look fr 8), (9, look fr 9), (10, look fr 10), (11, t0), (12, t1), (13, A.v (.int .i64 0))] H)) (Prod.fst (11, 0, 1000004)))).2) (fun i2 s2 => bif Nat.beq i2 0 then
 (aLoad prog 25 (lk s2 5) (St.H s2)).bind fun t3 =>
 (C 17 [snap (St.H s2) t3]).bind fun t4 =>
 (aLoad prog 44 (lk s2 9) (St.H s2)).bind fun t5 =>
 (aLoad prog 44 (lk s2 10) (St.H s2)).bind fun t6 =>
 (C 28 [snap (St.H s2) t4, snap (St.H s2) t5, snap (St.H s2) t6]).bind fun t7 => k E.ret (St.mk ((4, t7) :: (162, t7) :: (161, t6) :: (160, t5) :: (159, t4) :: (158, t3) :: St.fr s2) (St.H s2)) else k (E.exit i2) s2) (fun i2 s2 => k (E.goto i2) s2) (fun a2 => k E.ret a2) (fun i2 s2 => k (E.pan i2) s2) n (St.mk [(0, look fr 0), (4, look fr 4), (5, look fr 5), (8, look fr 8), (9, look fr 9), (10, look fr 10), (11, (seedZ (1000003 - 1000000) (St.H (St.mk [(0, look fr 0), (4, look fr 4), (5, look fr 5), (8, look fr 8), (9, look fr 9), (10, look fr 10), (11, t0), (12, t1), (13, A.v (.int .i64 0))] H)) (look (St.fr (St.mk [(0, look fr 0), (4, look fr 4), (5, look fr 5), (8, look fr 8), (9, look fr 9), (10, look fr 10), (11, t0), (12, t1), (13, A.v (.int .i64 0))] H)) (Prod.fst (11, 0, 1000004)))).1), (12, t1), (13, A.v (.int .i64 0))] (seedZ (1000003 - 1000000) (St.H (St.mk [(0, look fr 0), (4, look fr 4), (5, look fr 5), (8, look fr 8), (9, look fr 9), (10, look fr 10), (11, t0), (12, t1), (13, A.v (.int .i64 0))] H)) (look (St.fr (St.mk [(0, look fr 0), (4, look fr 4), (5, look fr 5), (8, look fr 8), (9, look fr 9), (10, look fr 10), (11, t0), (12, t1), (13, A.v (.int .i64 0))] H)) (Prod.fst (11, 0, 1000004)))).2)
theorem s6 (n lo : Nat) (fr : List (Nat × A)) (H : Heap) (k : E -> St -> Option R) : tst (cx C) call rg n 6 lo (Func.ntmps Try.f6) (sfx 7 (Option.getD (Func.body Try.f6) Code.skip)) (St.mk fr H) k = r6 C call rg n lo fr H k := by kernel_rfl
theorem e6 (n lo : Nat) (x0 x1 : A) (H : Heap) : evCall1 (cx C) call rg n 6 [x0, x1] H lo =
 (C 10 []).bind fun t0 =>
 (aUn prog UnOp.not t0).bind fun t1 => bIfN t1 (some (Out.ret (A.v (.bool false)), H)) ((aLen prog 43 x0 H).bind fun t2 =>
 (aBin prog .gtr 3 false true t2 (A.v (.int .i64 40))).bind fun t3 => bIfN t3 (some (Out.ret (A.v (.bool true)), H)) ((C 12 [snap H (A.v (.int .i64 4))]).bind fun t4 =>
 (aExtract t4 0).bind fun t5 =>
 (aExtract t4 1).bind fun t6 =>
 (aAlloc prog 25 H).bind fun r7 =>
 (aStore prog 25 r7.1 (stV r7.1 r7.2 t5) r7.2 lo).bind fun H8 =>
 (aLoad prog 25 r7.1 H8).bind fun t9 =>
 (aConvert prog 5 3 x1 H8).bind fun t10 =>
 (C 25 [snap H8 t9, snap H8 t10]).bind fun t11 =>
 (aExtract t11 0).bind fun t12 =>
 (aExtract t11 1).bind fun t13 =>
 (aStore prog 25 r7.1 (stV r7.1 H8 t12) H8 lo).bind fun H14 =>
 (aBin prog .neq 28 false true t6 (A.v (.int .i64 0))).bind fun t15 =>
 (bIf t15 (some [A.v (.bool true), ud, ud]) ((aBin prog .neq 28 false true t13 (A.v (.int .i64 0))).bind fun t16 => some [t16, t16, t13])).bind fun l16 => unc l16 fun u17 l17 => unc l17 fun u18 l18 => unc l18 fun u19 l19 => bIfN u17 (some (Out.ret (A.v (.bool false)), H14)) ((aAllocR prog 44 H14).bind fun r20 =>
 (aAllocR prog 44 r20.2).bind fun r21 =>
 (aAllocR prog 44 r21.2).bind fun r22 =>
 (aBuildSlice prog 43 0 []).bind fun t23 =>
 (aConvert prog 5 3 x1 r22.2).bind fun t24 => loopR (cx C) call rg n 6 lo 0 (List.length (seedZ (1000003 - 1000000) (St.H (St.mk [(0, x0), (4, A.v (.bool false)), (5, r7.1), (8, r20.1), (9, r21.1), (10, r22.1), (11, t23), (12, t24), (13, A.v (.int .i64 0))] r22.2)) (look (St.fr (St.mk [(0, x0), (4, A.v (.bool false)), (5, r7.1), (8, r20.1), (9, r21.1), (10, r22.1), (11, t23), (12, t24), (13, A.v (.int .i64 0))] r22.2)) (Prod.fst (11, 0, 1000004)))).2) (fun i25 s25 => bif Nat.beq i25 0 then
 (aLoad prog 25 (lk s25 5) (St.H s25)).bind fun t26 =>
 (C 17 [snap (St.H s25) t26]).bind fun t27 =>
 (aLoad prog 44 (lk s25 9) (St.H s25)).bind fun t28 =>
 (aLoad prog 44 (lk s25 10) (St.H s25)).bind fun t29 =>
 (C 28 [snap (St.H s25) t27, snap (St.H s25) t28, snap (St.H s25) t29]).bind fun t30 => some (Out.ret t30, St.H s25) else none) (fun i25 s25 => none) (fun a25 => some (Out.ret (lk a25 4), St.H a25)) (fun i25 s25 => some (Out.pan i25, St.H s25)) n (St.mk [(0, x0), (4, A.v (.bool false)), (5, r7.1), (8, r20.1), (9, r21.1), (10, r22.1), (11, (seedZ (1000003 - 1000000) (St.H (St.mk [(0, x0), (4, A.v (.bool false)), (5, r7.1), (8, r20.1), (9, r21.1), (10, r22.1), (11, t23), (12, t24), (13, A.v (.int .i64 0))] r22.2)) (look (St.fr (St.mk [(0, x0), (4, A.v (.bool false)), (5, r7.1), (8, r20.1), (9, r21.1), (10, r22.1), (11, t23), (12, t24), (13, A.v (.int .i64 0))] r22.2)) (Prod.fst (11, 0, 1000004)))).1), (12, t24), (13, A.v (.int .i64 0))] (seedZ (1000003 - 1000000) (St.H (St.mk [(0, x0), (4, A.v (.bool false)), (5, r7.1), (8, r20.1), (9, r21.1), (10, r22.1), (11, t23), (12, t24), (13, A.v (.int .i64 0))] r22.2)) (look (St.fr (St.mk [(0, x0), (4, A.v (.bool false)), (5, r7.1), (8, r20.1), (9, r21.1), (10, r22.1), (11, t23), (12, t24), (13, A.v (.int .i64 0))] r22.2)) (Prod.fst (11, 0, 1000004)))).2)))) := by
 have h1 : evCall1 (cx C) call rg n 6 [x0, x1] H lo = evF (cx C) call rg n 6 lo Try.f6.ntmps (rb 6 (Try.f6.body.getD .skip) (sfx 7 (Try.f6.body.getD .skip))) (St.mk [(0, x0), (1, x1)] H) (kEnd (cx C) 6 lo Try.f6) := by kernel_rfl
 have h2 : (fun (e : E) (s : St) => match e with | .normal => evF (cx C) call rg n 6 lo Try.f6.ntmps (sfx 7 (Try.f6.body.getD .skip)) s (kEnd (cx C) 6 lo Try.f6) | e => (kEnd (cx C) 6 lo Try.f6) e s) = (fun (e : E) (s : St) => match e with | .normal => r6 C call rg n lo s.fr s.H (kEnd (cx C) 6 lo Try.f6) | e => (kEnd (cx C) 6 lo Try.f6) e s) :=
  funext fun e => funext fun s => by cases e <;> first | exact s6 C call rg n lo s.fr s.H (kEnd (cx C) 6 lo Try.f6) | rfl
 have h3 := evF_rb (cx := cx C) (call := call) (rg := rg) (m := n) (f := 6) (lo := lo) (N := Try.f6.ntmps) (r := sfx 7 (Try.f6.body.getD .skip)) (fun _ => rfl) 6 (Try.f6.body.getD .skip) (St.mk [(0, x0), (1, x1)] H) (kEnd (cx C) 6 lo Try.f6)
 rw [h2] at h3
 exact h1.trans (h3.trans ((p6 C call rg n lo x0 x1 H _).trans (by kernel_rfl)))
theorem e10 (n lo : Nat) (H : Heap) : evCall1 (cx C) call rg n 10 [] H lo =
 (C 12 [snap H (A.v (.int .i64 0))]).bind fun t0 =>
 (aExtract t0 0).bind fun t1 =>
 (aExtract t0 1).bind fun t2 =>
 (aAlloc prog 25 H).bind fun r3 =>
 (aStore prog 25 r3.1 (stV r3.1 r3.2 t1) r3.2 lo).bind fun H4 =>
 (C 12 [snap H4 (A.v (.int .i64 2))]).bind fun t5 =>
 (aExtract t5 0).bind fun t6 =>
 (aExtract t5 1).bind fun t7 =>
 (aAlloc prog 25 H4).bind fun r8 =>
 (aStore prog 25 r8.1 (stV r8.1 r8.2 t6) r8.2 lo).bind fun H9 =>
 (aLoad prog 25 r8.1 H9).bind fun t10 =>
 (aBuildSlice prog 35 1 [(0, frzA H9 (A.v (.int .u8 7)))]).bind fun t11 =>
 (C 19 [snap H9 t10, snap H9 (A.v (.int .i64 1)), snap H9 t11]).bind fun t12 =>
 (aExtract t12 0).bind fun t13 =>
 (aExtract t12 1).bind fun t14 =>
 (aAlloc prog 25 H9).bind fun r15 =>
 (aStore prog 25 r15.1 (stV r15.1 r15.2 t13) r15.2 lo).bind fun H16 =>
 (aLoad prog 25 r15.1 H16).bind fun t17 =>
 (C 21 [snap H16 t17, snap H16 (A.v (.int .i64 1))]).bind fun t18 =>
 (aExtract t18 0).bind fun t19 =>
 (aExtract t18 1).bind fun t20 =>
 (aLoad prog 25 r8.1 H16).bind fun t21 =>
 (C 21 [snap H16 t21, snap H16 (A.v (.int .i64 2))]).bind fun t22 =>
 (aExtract t22 0).bind fun t23 =>
 (aExtract t22 1).bind fun t24 =>
 (aAlloc prog 25 H16).bind fun r25 =>
 (aLoad prog 25 r8.1 r25.2).bind fun t26 => bif bif apart r8.1 A.any then true else false then
 (aMakeImm prog 35 (A.v (.int .i64 129)) (A.v (.int .i64 129)) r25.2).bind fun r27 =>
 (C 19 [snap r27.2 t26, snap r27.2 (A.v (.int .i64 0)), snap r27.2 r27.1]).bind fun t28 =>
 (aExtract t28 0).bind fun t29 =>
 (aExtract t28 1).bind fun t30 =>
 (aStore prog 25 r25.1 (stV r25.1 r27.2 t29) r27.2 lo).bind fun H31 =>
 (aLoad prog 25 r15.1 H31).bind fun t32 =>
 (C 25 [snap H31 t32, snap H31 (A.v (.int .i64 1))]).bind fun t33 =>
 (aExtract t33 0).bind fun t34 =>
 (aExtract t33 1).bind fun t35 =>
 (aAlloc prog 25 H31).bind fun r36 =>
 (aStore prog 25 r36.1 (stV r36.1 r36.2 t34) r36.2 lo).bind fun H37 =>
 (aLoad prog 25 r36.1 H37).bind fun t38 =>
 (C 27 [snap H37 (A.v (.int .u8 8))]).bind fun t39 =>
 (C 19 [snap H37 t38, snap H37 (A.v (.int .i64 0)), snap H37 t39]).bind fun t40 =>
 (aExtract t40 0).bind fun t41 =>
 (aExtract t40 1).bind fun t42 =>
 (aStore prog 25 r36.1 (stV r36.1 H37 t41) H37 lo).bind fun H43 =>
 (aLoad prog 25 r36.1 H43).bind fun t44 =>
 (C 23 [snap H43 t44]).bind fun t45 =>
 (aExtract t45 0).bind fun t46 =>
 (aExtract t45 1).bind fun t47 =>
 (aAlloc prog 25 H43).bind fun r48 =>
 (aStore prog 25 r48.1 (stV r48.1 r48.2 t46) r48.2 lo).bind fun H49 =>
 (aBin prog .neq 28 false true t2 (A.v (.int .i64 1))).bind fun t50 =>
 (bIf t50 (some [A.v (.bool true), ud, ud]) ((aBin prog .neq 28 false true t7 (A.v (.int .i64 0))).bind fun t51 => some [t51, t51, t7])).bind fun l51 => unc l51 fun u52 l52 => unc l52 fun u53 l53 => unc l53 fun u54 l54 =>
 (bIf u52 (some [A.v (.bool true), ud, ud]) ((aBin prog .neq 28 false true t14 (A.v (.int .i64 0))).bind fun t55 => some [t55, t55, t14])).bind fun l55 => unc l55 fun u56 l56 => unc l56 fun u57 l57 => unc l57 fun u58 l58 =>
 (bIf u56 (some [A.v (.bool true), ud, ud]) ((aBin prog .neq 28 false true t20 (A.v (.int .i64 0))).bind fun t59 => some [t59, t59, t20])).bind fun l59 => unc l59 fun u60 l60 => unc l60 fun u61 l61 => unc l61 fun u62 l62 =>
 (bIf u60 (some [A.v (.bool true), ud, ud]) ((aBin prog .neq 28 false true t24 (A.v (.int .i64 40))).bind fun t63 => some [t63, t63, t24])).bind fun l63 => unc l63 fun u64 l64 => unc l64 fun u65 l65 => unc l65 fun u66 l66 =>
 (bIf u64 (some [A.v (.bool true), ud, ud]) ((aBin prog .neq 28 false true t30 (A.v (.int .i64 1))).bind fun t67 => some [t67, t67, t30])).bind fun l67 => unc l67 fun u68 l68 => unc l68 fun u69 l69 => unc l69 fun u70 l70 =>
 (bIf u68 (some [A.v (.bool true), ud, ud]) ((aBin prog .neq 28 false true t35 (A.v (.int .i64 0))).bind fun t71 => some [t71, t71, t35])).bind fun l71 => unc l71 fun u72 l72 => unc l72 fun u73 l73 => unc l73 fun u74 l74 =>
 (bIf u72 (some [A.v (.bool true), ud, ud]) ((aBin prog .neq 28 false true t42 (A.v (.int .i64 0))).bind fun t75 => some [t75, t75, t42])).bind fun l75 => unc l75 fun u76 l76 => unc l76 fun u77 l77 => unc l77 fun u78 l78 =>
 (bIf u76 (some [A.v (.bool true), ud, ud]) ((aBin prog .neq 28 false true t47 (A.v (.int .i64 40))).bind fun t79 => some [t79, t79, t47])).bind fun l79 => unc l79 fun u80 l80 => unc l80 fun u81 l81 => unc l81 fun u82 l82 =>
 (bIf u80 (some [A.v (.bool true), ud, ud, ud]) ((aFieldAddr prog 25 r48.1 3 H49).bind fun t83 =>
 (aLoad prog 4 t83 H49).bind fun t84 =>
 (aUn prog UnOp.not t84).bind fun t85 => some [t85, t85, t84, t83])).bind fun l83 => unc l83 fun u84 l84 => unc l84 fun u85 l85 => unc l85 fun u86 l86 => unc l86 fun u87 l87 => bIfN u84 (some (Out.ret (A.v (.bool false)), H49)) ((aLoad prog 25 r48.1 H49).bind fun t88 =>
 (C 17 [snap H49 t88]).bind fun t89 =>
 (aStore prog 25 r48.1 (stV r48.1 H49 t89) H49 lo).bind fun H90 =>
 (aLoad prog 25 r48.1 H90).bind fun t91 =>
 (C 21 [snap H90 t91, snap H90 (A.v (.int .i64 1))]).bind fun t92 =>
 (aExtract t92 0).bind fun t93 =>
 (aExtract t92 1).bind fun t94 =>
 (aLoad prog 25 r48.1 H90).bind fun t95 =>
 (C 21 [snap H90 t95, snap H90 (A.v (.int .i64 0))]).bind fun t96 =>
 (aExtract t96 0).bind fun t97 =>
 (aExtract t96 1).bind fun t98 =>
 (aLoad prog 25 r15.1 H90).bind fun t99 =>
 (C 17 [snap H90 t99]).bind fun t100 =>
 (C 21 [snap H90 t100, snap H90 (A.v (.int .i64 1))]).bind fun t101 =>
 (aExtract t101 0).bind fun t102 =>
 (aExtract t101 1).bind fun t103 =>
 (aBin prog .eql 28 false true t94 (A.v (.int .i64 0))).bind fun t104 =>
 (bIf t104 ((aBin prog .eql 28 false true t98 (A.v (.int .i64 0))).bind fun t105 => some [t105, t105, t98]) (some [A.v (.bool false), ud, ud])).bind fun l105 => unc l105 fun u106 l106 => unc l106 fun u107 l107 => unc l107 fun u108 l108 =>
 (bIf u106 ((aBin prog .eql 28 false true t103 (A.v (.int .i64 0))).bind fun t109 => some [t109, t109, t103]) (some [A.v (.bool false), ud, ud])).bind fun l109 => unc l109 fun u110 l110 => unc l110 fun u111 l111 => unc l111 fun u112 l112 =>
 (bIf u110 ((aLen prog 35 t19 H90).bind fun t113 =>
 (aBin prog .eql 3 false true t113 (A.v (.int .i64 128))).bind fun t114 => some [t114, t114, t113, t19]) (some [A.v (.bool false), ud, ud, ud])).bind fun l113 => unc l113 fun u114 l114 => unc l114 fun u115 l115 => unc l115 fun u116 l116 => unc l116 fun u117 l117 =>
 (bIf u114 ((aIndexAddr prog 35 t19 (A.v (.int .i64 0)) H90).bind fun t118 =>
 (aLoad prog 5 t118 H90).bind fun t119 =>
 (aBin prog .eql 5 false true t119 (A.v (.int .u8 7))).bind fun t120 => some [t120, t120, t119, t118, t19]) (some [A.v (.bool false), ud, ud, ud, ud])).bind fun l118 => unc l118 fun u119 l119 => unc l119 fun u120 l120 => unc l120 fun u121 l121 => unc l121 fun u122 l122 => unc l122 fun u123 l123 =>
 (bIf u119 ((aLen prog 35 t93 H90).bind fun t124 =>
 (aBin prog .eql 3 false true t124 (A.v (.int .i64 128))).bind fun t125 => some [t125, t125, t124, t93]) (some [A.v (.bool false), ud, ud, ud])).bind fun l124 => unc l124 fun u125 l125 => unc l125 fun u126 l126 => unc l126 fun u127 l127 => unc l127 fun u128 l128 =>
 (bIf u125 ((aIndexAddr prog 35 t93 (A.v (.int .i64 0)) H90).bind fun t129 =>
 (aLoad prog 5 t129 H90).bind fun t130 =>
 (aBin prog .eql 5 false true t130 (A.v (.int .u8 7))).bind fun t131 => some [t131, t131, t130, t129, t93]) (some [A.v (.bool false), ud, ud, ud, ud])).bind fun l129 => unc l129 fun u130 l130 => unc l130 fun u131 l131 => unc l131 fun u132 l132 => unc l132 fun u133 l133 => unc l133 fun u134 l134 =>
 (bIf u130 ((aLen prog 35 t97 H90).bind fun t135 =>
 (aBin prog .eql 3 false true t135 (A.v (.int .i64 128))).bind fun t136 => some [t136, t136, t135, t97]) (some [A.v (.bool false), ud, ud, ud])).bind fun l135 => unc l135 fun u136 l136 => unc l136 fun u137 l137 => unc l137 fun u138 l138 => unc l138 fun u139 l139 =>
 (bIf u136 ((aIndexAddr prog 35 t97 (A.v (.int .i64 0)) H90).bind fun t140 =>
 (aLoad prog 5 t140 H90).bind fun t141 =>
 (aBin prog .eql 5 false true t141 (A.v (.int .u8 8))).bind fun t142 => some [t142, t142, t141, t140, t97]) (some [A.v (.bool false), ud, ud, ud, ud])).bind fun l140 => unc l140 fun u141 l141 => unc l141 fun u142 l142 => unc l142 fun u143 l143 => unc l143 fun u144 l144 => unc l144 fun u145 l145 =>
 (bIf u141 ((aIndexAddr prog 35 t97 (A.v (.int .i64 64)) H90).bind fun t146 =>
 (aLoad prog 5 t146 H90).bind fun t147 =>
 (aBin prog .eql 5 false true t147 (A.v (.int .u8 0))).bind fun t148 => some [t148, t148, t147, t146, t97]) (some [A.v (.bool false), ud, ud, ud, ud])).bind fun l146 => unc l146 fun u147 l147 => unc l147 fun u148 l148 => unc l148 fun u149 l149 => unc l149 fun u150 l150 => unc l150 fun u151 l151 =>
 (bIf u147 ((aLen prog 35 t102 H90).bind fun t152 =>
 (aBin prog .eql 3 false true t152 (A.v (.int .i64 128))).bind fun t153 => some [t153, t153, t152, t102]) (some [A.v (.bool false), ud, ud, ud])).bind fun l152 => unc l152 fun u153 l153 => unc l153 fun u154 l154 => unc l154 fun u155 l155 => unc l155 fun u156 l156 =>
 (bIf u153 ((aIndexAddr prog 35 t102 (A.v (.int .i64 0)) H90).bind fun t157 =>
 (aLoad prog 5 t157 H90).bind fun t158 =>
 (aBin prog .eql 5 false true t158 (A.v (.int .u8 0))).bind fun t159 => some [t159, t159, t158, t157, t102]) (some [A.v (.bool false), ud, ud, ud, ud])).bind fun l157 => unc l157 fun u158 l158 => unc l158 fun u159 l159 => unc l159 fun u160 l160 => unc l160 fun u161 l161 => unc l161 fun u162 l162 =>
 (bIf u158 ((aBuild prog 25 []).bind fun t163 =>
 (C 15 [snap H90 t163]).bind fun t164 =>
 (aBin prog .eql 28 false true t164 (A.v (.int .i64 40))).bind fun t165 => some [t165, t165, t164, t163]) (some [A.v (.bool false), ud, ud, ud])).bind fun l163 => unc l163 fun u164 l164 => unc l164 fun u165 l165 => unc l165 fun u166 l166 => unc l166 fun u167 l167 =>
 (bIf u164 ((aBuild prog 25 []).bind fun t168 =>
 (C 17 [snap H90 t168]).bind fun t169 =>
 (aField prog 25 t169 2).bind fun t170 =>
 (aBin prog .eql 3 false true t170 (A.v (.int .i64 (-1)))).bind fun t171 => some [t171, t171, t170, t169, t168]) (some [A.v (.bool false), ud, ud, ud, ud])).bind fun l168 => unc l168 fun u169 l169 => unc l169 fun u170 l170 => unc l170 fun u171 l171 => unc l171 fun u172 l172 => unc l172 fun u173 l173 => some (Out.ret u169, H90)) else none := by kernel_rfl
theorem e12 (n lo : Nat) (x0 : A) (H : Heap) : evCall1 (cx C) call rg n 12 [x0] H lo =
 (aAlloc prog 25 H).bind fun r0 =>
 (aBin prog .lss 3 false true x0 (A.v (.int .i64 1))).bind fun t1 =>
 (bIf t1 (some [A.v (.bool true), ud, ud]) ((aBin prog .gtr 3 false true x0 (A.v (.int .i64 4096))).bind fun t2 => some [t2, t2, x0])).bind fun l2 => unc l2 fun u3 l3 => unc l3 fun u4 l4 => unc l4 fun u5 l5 => bIfN u3 ((aLoad prog 25 r0.1 r0.2).bind fun t6 =>
 (aStore prog 25 r0.1 (stV r0.1 r0.2 t6) r0.2 lo).bind fun H7 =>
 (aLoad prog 25 r0.1 H7).bind fun t8 => some (Out.ret (A.tup [t8, A.v (.int .i64 1)]), H7)) ((aMakeSlice prog 35 (A.v (.int .i64 128)) (A.v (.int .i64 128)) r0.2).bind fun r6 =>
 (aKill lo r6.1 r6.2).bind fun r7 =>
 (aBuildSlice prog 22 1 [(0, frzA r7.2 r7.1)]).bind fun t8 =>
 (C 29 [snap r7.2 t8, snap r7.2 x0]).bind fun t9 =>
 (aBuild prog 25 [(0, t9), (2, A.v (.int .i64 (-1)))]).bind fun t10 =>
 (aStore prog 25 r0.1 (stV r0.1 r7.2 t10) r7.2 lo).bind fun H11 =>
 (aLoad prog 25 r0.1 H11).bind fun t12 => some (Out.ret (A.tup [t12, A.v (.int .i64 0)]), H11)) := by kernel_rfl
theorem e15 (n lo : Nat) (x0 : A) (H : Heap) : evCall1 (cx C) call rg n 15 [x0] H lo =
 (aBox x0 H).bind fun r0 =>
 (aFieldAddr prog 25 r0.1 0 r0.2).bind fun t1 =>
 (aLoad prog 22 t1 r0.2).bind fun t2 =>
 (aLen prog 22 t2 r0.2).bind fun t3 =>
 (aAlloc prog 3 r0.2).bind fun r4 =>
 (aStore prog 3 r4.1 (stV r4.1 r4.2 t3) r4.2 lo).bind fun H5 =>
 (aLoad prog 3 r4.1 H5).bind fun t6 =>
 (aBin prog .lss 3 false true t6 (A.v (.int .i64 1))).bind fun t7 =>
 (bIf t7 (some [A.v (.bool true), ud, ud]) ((aLoad prog 3 r4.1 H5).bind fun t8 =>
 (aBin prog .gtr 3 false true t8 (A.v (.int .i64 4096))).bind fun t9 => some [t9, t9, t8])).bind fun l8 => unc l8 fun u9 l9 => unc l9 fun u10 l10 => unc l10 fun u11 l11 =>
 (bIf u9 (some [A.v (.bool true), ud, ud, ud, ud]) ((aFieldAddr prog 25 r0.1 1 H5).bind fun t12 =>
 (aLoad prog 23 t12 H5).bind fun t13 =>
 (aLen prog 23 t13 H5).bind fun t14 =>
 (aBin prog .gtr 3 false true t14 (A.v (.int .i64 4096))).bind fun t15 => some [t15, t15, t14, t13, t12])).bind fun l12 => unc l12 fun u13 l13 => unc l13 fun u14 l14 => unc l14 fun u15 l15 => unc l15 fun u16 l16 => unc l16 fun u17 l17 =>
 (bIf u13 (some [A.v (.bool true), ud, ud, ud]) ((aFieldAddr prog 25 r0.1 2 H5).bind fun t18 =>
 (aLoad prog 3 t18 H5).bind fun t19 =>
 (aBin prog .lss 3 false true t19 (A.v (.int .i64 (-1)))).bind fun t20 => some [t20, t20, t19, t18])).bind fun l18 => unc l18 fun u19 l19 => unc l19 fun u20 l20 => unc l20 fun u21 l21 => unc l21 fun u22 l22 =>
 (bIf u19 (some [A.v (.bool true), ud, ud, ud]) ((aFieldAddr prog 25 r0.1 2 H5).bind fun t23 =>
 (aLoad prog 3 t23 H5).bind fun t24 =>
 (aBin prog .gtr 3 false true t24 (A.v (.int .i64 65536))).bind fun t25 => some [t25, t25, t24, t23])).bind fun l23 => unc l23 fun u24 l24 => unc l24 fun u25 l25 => unc l25 fun u26 l26 => unc l26 fun u27 l27 =>
 (gIf u24 false ((aFieldAddr prog 25 r0.1 1 H5).bind fun t28 => some t28) (some (ud))).bind fun t28 =>
 (gIf u24 false ((aLoad prog 23 t28 H5).bind fun t29 => some t29) (some (ud))).bind fun t29 =>
 (gIf u24 false (some (A.fn (Fn.func 30) [] [r4.1])) (some (ud))).bind fun t30 => gIf u24 false ((call 32 [t29, t30] H5 lo).bind fun H31 => outK H31.1 (fun a32 =>
 (bIf u24 (some (A.v (.bool true))) (some a32)).bind fun t33 => bIfN t33 (some (Out.ret (A.v (.int .i64 40)), H31.2)) ((aFieldAddr prog 25 r0.1 0 H31.2).bind fun t34 =>
 (aLoad prog 22 t34 H31.2).bind fun t35 =>
 (C 33 [snap H31.2 t35, snap H31.2 (A.fn (Fn.func 34) [] [])]).bind fun t36 => bIfN t36 (some (Out.ret (A.v (.int .i64 40)), H31.2)) (some (Out.ret (A.v (.int .i64 0)), H31.2)))) fun a32 => some (Out.pan a32, H31.2)) ((bIf u24 (some (A.v (.bool true))) (some (ud))).bind fun t31 => bIfN t31 (some (Out.ret (A.v (.int .i64 40)), H5)) ((aFieldAddr prog 25 r0.1 0 H5).bind fun t32 =>
 (aLoad prog 22 t32 H5).bind fun t33 =>
 (C 33 [snap H5 t33, snap H5 (A.fn (Fn.func 34) [] [])]).bind fun t34 => bIfN t34 (some (Out.ret (A.v (.int .i64 40)), H5)) (some (Out.ret (A.v (.int .i64 0)), H5)))) := by kernel_rfl
theorem e17 (n lo : Nat) (x0 : A) (H : Heap) : evCall1 (cx C) call rg n 17 [x0] H lo =
 (aBox x0 H).bind fun r0 =>
 (aAlloc prog 25 r0.2).bind fun r1 =>
 (aFieldAddr prog 25 r0.1 0 r1.2).bind fun t2 =>
 (aLoad prog 22 t2 r1.2).bind fun t3 =>
 (aBuild prog 25 [(0, t3), (2, A.v (.int .i64 (-1)))]).bind fun t4 =>
 (aStore prog 25 r1.1 (stV r1.1 r1.2 t4) r1.2 lo).bind fun H5 =>
 (aLoad prog 25 r1.1 H5).bind fun t6 => some (Out.ret t6, H5) := by kernel_rfl
theorem e19 (n lo : Nat) (x0 x1 x2 : A) (H : Heap) : evCall1 (cx C) call rg n 19 [x0, x1, x2] H lo =
 (aBox x0 H).bind fun r0 =>
 (aAlloc prog 25 r0.2).bind fun r1 =>
 (aLoad prog 25 r0.1 r1.2).bind fun t2 =>
 (C 35 [snap r1.2 t2]).bind fun t3 =>
 (aUn prog UnOp.not t3).bind fun t4 =>
 (bIf t4 (some [A.v (.bool true), ud, ud, ud, ud]) ((aLoad prog 25 r0.1 r1.2).bind fun t5 =>
 (C 36 [snap r1.2 t5, snap r1.2 x1]).bind fun t6 =>
 (aUn prog UnOp.not t6).bind fun t7 => some [t7, t7, t6, x1, t5])).bind fun l5 => unc l5 fun u6 l6 => unc l6 fun u7 l7 => unc l7 fun u8 l8 => unc l8 fun u9 l9 => unc l9 fun u10 l10 => bIfN u6 ((aLoad prog 25 r1.1 r1.2).bind fun t11 =>
 (aStore prog 25 r1.1 (stV r1.1 r1.2 t11) r1.2 lo).bind fun H12 =>
 (aLoad prog 25 r1.1 H12).bind fun t13 => some (Out.ret (A.tup [t13, A.v (.int .i64 40)]), H12)) ((aLen prog 35 x2 r1.2).bind fun t11 =>
 (aBin prog .gtr 3 false true t11 (A.v (.int .i64 128))).bind fun t12 => bIfN t12 ((aLoad prog 25 r1.1 r1.2).bind fun t13 =>
 (aStore prog 25 r1.1 (stV r1.1 r1.2 t13) r1.2 lo).bind fun H14 =>
 (aLoad prog 25 r1.1 H14).bind fun t15 => some (Out.ret (A.tup [t15, A.v (.int .i64 1)]), H14)) ((aFieldAddr prog 25 r0.1 1 r1.2).bind fun t13 =>
 (aLoad prog 23 t13 r1.2).bind fun t14 =>
 (aLen prog 23 t14 r1.2).bind fun t15 =>
 (aBin prog .eql 3 false true t15 (A.v (.int .i64 4096))).bind fun t16 => bIfN t16 ((aLoad prog 25 r1.1 r1.2).bind fun t17 =>
 (aStore prog 25 r1.1 (stV r1.1 r1.2 t17) r1.2 lo).bind fun H18 =>
 (aLoad prog 25 r1.1 H18).bind fun t19 => some (Out.ret (A.tup [t19, A.v (.int .i64 2)]), H18)) ((aMakeSlice prog 35 (A.v (.int .i64 128)) (A.v (.int .i64 128)) r1.2).bind fun r17 =>
 (aCopy prog 35 r17.1 x2 r17.2 lo).bind fun r18 =>
 (aKill lo r17.1 r18.2).bind fun r19 =>
 (aFieldAddr prog 25 r0.1 1 r19.2).bind fun t20 =>
 (aLoad prog 23 t20 r19.2).bind fun t21 =>
 (C 38 [snap r19.2 t21]).bind fun t22 =>
 (call 37 [t22] r19.2 lo).bind fun H23 => outK H23.1 (fun a24 =>
 (aBuild prog 54 [(0, x1), (1, r19.1)]).bind fun t25 =>
 (aBuildSlice prog 23 1 [(0, frzA H23.2 t25)]).bind fun t26 =>
 (aAppend prog 23 23 false a24 t26 H23.2 lo).bind fun r27 =>
 (aFieldAddr prog 25 r0.1 1 r27.2).bind fun t28 =>
 (aStore prog 23 t28 (stV t28 r27.2 r27.1) r27.2 lo).bind fun H29 =>
 (aLoad prog 25 r0.1 H29).bind fun t30 =>
 (aStore prog 25 r1.1 (stV r1.1 H29 t30) H29 lo).bind fun H31 =>
 (aLoad prog 25 r1.1 H31).bind fun t32 => some (Out.ret (A.tup [t32, A.v (.int .i64 0)]), H31)) fun a24 => some (Out.pan a24, H23.2)))) := by kernel_rfl
theorem e21 (n lo : Nat) (x0 x1 : A) (H : Heap) : evCall1 (cx C) call rg n 21 [x0, x1] H lo =
 (aBox x0 H).bind fun r0 =>
 (aBox x1 r0.2).bind fun r1 =>
 (aAlloc prog 35 r1.2).bind fun r2 =>
 (aAlloc prog 28 r2.2).bind fun r3 =>
 (aLoad prog 25 r0.1 r3.2).bind fun t4 =>
 (C 35 [snap r3.2 t4]).bind fun t5 =>
 (aUn prog UnOp.not t5).bind fun t6 =>
 (bIf t6 (some [A.v (.bool true), ud, ud, ud, ud]) ((aLoad prog 25 r0.1 r3.2).bind fun t7 =>
 (aLoad prog 3 r1.1 r3.2).bind fun t8 =>
 (C 36 [snap r3.2 t7, snap r3.2 t8]).bind fun t9 =>
 (aUn prog UnOp.not t9).bind fun t10 => some [t10, t10, t9, t8, t7])).bind fun l7 => unc l7 fun u8 l8 => unc l8 fun u9 l9 => unc l9 fun u10 l10 => unc l10 fun u11 l11 => unc l11 fun u12 l12 => bIfN u8 ((aStore prog 35 r2.1 (stV r2.1 r3.2 (A.imm [] true)) r3.2 lo).bind fun H13 =>
 (aStore prog 28 r3.1 (stV r3.1 H13 (A.v (.int .i64 40))) H13 lo).bind fun H14 =>
 (aLoad prog 35 r2.1 H14).bind fun t15 =>
 (aLoad prog 28 r3.1 H14).bind fun t16 => some (Out.ret (A.tup [t15, t16]), H14)) ((aFieldAddr prog 25 r0.1 1 r3.2).bind fun t13 =>
 (aLoad prog 23 t13 r3.2).bind fun t14 =>
 (call 39 [t14] r3.2 lo).bind fun H15 => outK H15.1 (fun a16 =>
 (fnOf prog a16).bind fun r17 => bif Nat.ble lo (List.length H15.2) then
 (rg (yext 65 call (List.length H15.2) (roundR (cx C) call rg n 21 lo 0 (List.length H15.2) [(3, r1.1), (4, r2.1), (5, r3.1)])) r17.1 (A.yld (List.length H15.2) :: r17.2) (H15.2 ++ [Blk.rng RSt.ready]) lo).bind fun H18 => outK H18.1 (fun a19 => rngSel (List.length H15.2) H18.2 (fun h20 =>
 (aFieldAddr prog 25 r0.1 0 h20).bind fun t21 =>
 (aLoad prog 22 t21 h20).bind fun t22 =>
 (aLoad prog 3 r1.1 h20).bind fun t23 =>
 (aIndexAddr prog 22 t22 t23 h20).bind fun t24 =>
 (aLoad prog 35 t24 h20).bind fun t25 =>
 (aStore prog 35 r2.1 (stV r2.1 h20 t25) h20 lo).bind fun H26 =>
 (aStore prog 28 r3.1 (stV r3.1 H26 (A.v (.int .i64 0))) H26 lo).bind fun H27 =>
 (aLoad prog 35 r2.1 H27).bind fun t28 =>
 (aLoad prog 28 r3.1 H27).bind fun t29 => some (Out.ret (A.tup [t28, t29]), H27)) (fun i20 h20 => bif Nat.beq i20 0 then
 (aFieldAddr prog 25 r0.1 0 h20).bind fun t21 =>
 (aLoad prog 22 t21 h20).bind fun t22 =>
 (aLoad prog 3 r1.1 h20).bind fun t23 =>
 (aIndexAddr prog 22 t22 t23 h20).bind fun t24 =>
 (aLoad prog 35 t24 h20).bind fun t25 =>
 (aStore prog 35 r2.1 (stV r2.1 h20 t25) h20 lo).bind fun H26 =>
 (aStore prog 28 r3.1 (stV r3.1 H26 (A.v (.int .i64 0))) H26 lo).bind fun H27 =>
 (aLoad prog 35 r2.1 H27).bind fun t28 =>
 (aLoad prog 28 r3.1 H27).bind fun t29 => some (Out.ret (A.tup [t28, t29]), H27) else none) (fun i20 h20 => none) fun h20 =>
 (aLoad prog 35 r2.1 h20).bind fun t21 =>
 (aLoad prog 28 r3.1 h20).bind fun t22 => some (Out.ret (A.tup [t21, t22]), h20)) fun a19 => none else none) fun a16 => some (Out.pan a16, H15.2)) := by kernel_rfl
theorem e23 (n lo : Nat) (x0 : A) (H : Heap) : evCall1 (cx C) call rg n 23 [x0] H lo =
 (aBox x0 H).bind fun r0 =>
 (aAlloc prog 25 r0.2).bind fun r1 =>
 (aLoad prog 25 r0.1 r1.2).bind fun t2 =>
 (C 35 [snap r1.2 t2]).bind fun t3 =>
 (aUn prog UnOp.not t3).bind fun t4 => bIfN t4 ((aLoad prog 25 r1.1 r1.2).bind fun t5 =>
 (aStore prog 25 r1.1 (stV r1.1 r1.2 t5) r1.2 lo).bind fun H6 =>
 (aLoad prog 25 r1.1 H6).bind fun t7 => some (Out.ret (A.tup [t7, A.v (.int .i64 40)]), H6)) ((aFieldAddr prog 25 r0.1 1 r1.2).bind fun t5 =>
 (aLoad prog 23 t5 r1.2).bind fun t6 =>
 (aLen prog 23 t6 r1.2).bind fun t7 =>
 (aFieldAddr prog 25 r0.1 2 r1.2).bind fun t8 =>
 (aLoad prog 3 t8 r1.2).bind fun t9 =>
 (aBin prog .geq 3 false true t9 (A.v (.int .i64 0))).bind fun t10 =>
 (bIf t10 ((aFieldAddr prog 25 r0.1 2 r1.2).bind fun t11 =>
 (aLoad prog 3 t11 r1.2).bind fun t12 =>
 (aBin prog .lss 3 false false t12 t7).bind fun t13 => some [t13, t13, t7, t12, t11]) (some [A.v (.bool false), ud, ud, ud, ud])).bind fun l11 => unc l11 fun u12 l12 => unc l12 fun u13 l13 => unc l13 fun u14 l14 => unc l14 fun u15 l15 => unc l15 fun u16 l16 => bIfN u12 ((aFieldAddr prog 25 r0.1 1 r1.2).bind fun t17 =>
 (aLoad prog 23 t17 r1.2).bind fun t18 =>
 (aFieldAddr prog 25 r0.1 2 r1.2).bind fun t19 =>
 (aLoad prog 3 t19 r1.2).bind fun t20 =>
 (aFieldAddr prog 25 r0.1 2 r1.2).bind fun t21 =>
 (aLoad prog 3 t21 r1.2).bind fun t22 =>
 (aSlice prog 23 t18 none (some t20) (some t22) r1.2).bind fun t23 =>
 (aFieldAddr prog 25 r0.1 0 r1.2).bind fun t24 =>
 (aLoad prog 22 t24 r1.2).bind fun t25 =>
 (call 40 [t25, t23] r1.2 lo).bind fun H26 => outK H26.1 (fun a27 =>
 (aBuild prog 25 [(0, a27), (3, A.v (.bool true))]).bind fun t28 =>
 (aStore prog 25 r1.1 (stV r1.1 H26.2 t28) H26.2 lo).bind fun H29 =>
 (aFieldAddr prog 25 r0.1 1 H29).bind fun t30 =>
 (aLoad prog 23 t30 H29).bind fun t31 =>
 (aFieldAddr prog 25 r0.1 2 H29).bind fun t32 =>
 (aLoad prog 3 t32 H29).bind fun t33 =>
 (aIndexAddr prog 23 t31 t33 H29).bind fun t34 =>
 (aLoad prog 54 t34 H29).bind fun t35 =>
 (aAlloc prog 54 H29).bind fun r36 =>
 (aStore prog 54 r36.1 (stV r36.1 r36.2 t35) r36.2 lo).bind fun H37 =>
 (aFieldAddr prog 25 r1.1 0 H37).bind fun t38 =>
 (aLoad prog 22 t38 H37).bind fun t39 =>
 (aFieldAddr prog 54 r36.1 0 H37).bind fun t40 =>
 (aLoad prog 3 t40 H37).bind fun t41 =>
 (aIndexAddr prog 22 t39 t41 H37).bind fun t42 =>
 (aLoad prog 35 t42 H37).bind fun t43 =>
 (call 41 [t43] H37 lo).bind fun H44 => outK H44.1 (fun a45 =>
 (aSlice prog 35 a45 none (some (A.v (.int .i64 64))) none H44.2).bind fun t46 =>
 (aFieldAddr prog 54 r36.1 1 H44.2).bind fun t47 =>
 (aLoad prog 35 t47 H44.2).bind fun t48 =>
 (aCopy prog 35 t46 t48 H44.2 lo).bind fun r49 =>
 (aKill lo a45 r49.2).bind fun r50 =>
 (aFieldAddr prog 25 r1.1 0 r50.2).bind fun t51 =>
 (aLoad prog 22 t51 r50.2).bind fun t52 =>
 (aFieldAddr prog 54 r36.1 0 r50.2).bind fun t53 =>
 (aLoad prog 3 t53 r50.2).bind fun t54 =>
 (aIndexAddr prog 22 t52 t54 r50.2).bind fun t55 =>
 (aStore prog 35 t55 (stV t55 r50.2 r50.1) r50.2 lo).bind fun H56 =>
 (aLoad prog 25 r1.1 H56).bind fun t57 =>
 (aStore prog 25 r1.1 (stV r1.1 H56 t57) H56 lo).bind fun H58 =>
 (aLoad prog 25 r1.1 H58).bind fun t59 => some (Out.ret (A.tup [t59, A.v (.int .i64 40)]), H58)) fun a45 => some (Out.pan a45, H44.2)) fun a27 => some (Out.pan a27, H26.2)) ((aFieldAddr prog 25 r0.1 0 r1.2).bind fun t17 =>
 (aLoad prog 22 t17 r1.2).bind fun t18 =>
 (aFieldAddr prog 25 r0.1 1 r1.2).bind fun t19 =>
 (aLoad prog 23 t19 r1.2).bind fun t20 =>
 (C 40 [snap r1.2 t18, snap r1.2 t20]).bind fun t21 =>
 (aFieldAddr prog 25 r0.1 2 r1.2).bind fun t22 =>
 (aLoad prog 3 t22 r1.2).bind fun t23 =>
 (aBuild prog 25 [(0, t21), (2, t23)]).bind fun t24 =>
 (aStore prog 25 r1.1 (stV r1.1 r1.2 t24) r1.2 lo).bind fun H25 =>
 (aFieldAddr prog 25 r1.1 2 H25).bind fun t26 =>
 (aLoad prog 3 t26 H25).bind fun t27 =>
 (aBin prog .geq 3 false true t27 (A.v (.int .i64 0))).bind fun t28 => bIfN t28 ((aFieldAddr prog 25 r1.1 2 H25).bind fun t29 =>
 (aLoad prog 3 t29 H25).bind fun t30 =>
 (aBin prog .sub 3 false false t30 t7).bind fun t31 =>
 (aFieldAddr prog 25 r1.1 2 H25).bind fun t32 =>
 (aStore prog 3 t32 (stV t32 H25 t31) H25 lo).bind fun H33 =>
 (aLoad prog 25 r1.1 H33).bind fun t34 =>
 (aStore prog 25 r1.1 (stV r1.1 H33 t34) H33 lo).bind fun H35 =>
 (aLoad prog 25 r1.1 H35).bind fun t36 => some (Out.ret (A.tup [t36, A.v (.int .i64 0)]), H35)) ((aLoad prog 25 r1.1 H25).bind fun t29 =>
 (aStore prog 25 r1.1 (stV r1.1 H25 t29) H25 lo).bind fun H30 =>
 (aLoad prog 25 r1.1 H30).bind fun t31 => some (Out.ret (A.tup [t31, A.v (.int .i64 0)]), H30)))) := by kernel_rfl
theorem e25 (n lo : Nat) (x0 x1 : A) (H : Heap) : evCall1 (cx C) call rg n 25 [x0, x1] H lo =
 (aBox x0 H).bind fun r0 =>
 (aAlloc prog 25 r0.2).bind fun r1 =>
 (aLoad prog 25 r0.1 r1.2).bind fun t2 =>
 (C 35 [snap r1.2 t2]).bind fun t3 =>
 (aUn prog UnOp.not t3).bind fun t4 => bIfN t4 ((aLoad prog 25 r1.1 r1.2).bind fun t5 =>
 (aStore prog 25 r1.1 (stV r1.1 r1.2 t5) r1.2 lo).bind fun H6 =>
 (aLoad prog 25 r1.1 H6).bind fun t7 => some (Out.ret (A.tup [t7, A.v (.int .i64 40)]), H6)) ((aBin prog .lss 3 false true x1 (A.v (.int .i64 0))).bind fun t5 =>
 (bIf t5 (some [A.v (.bool true), ud, ud]) ((aBin prog .gtr 3 false true x1 (A.v (.int .i64 65536))).bind fun t6 => some [t6, t6, x1])).bind fun l6 => unc l6 fun u7 l7 => unc l7 fun u8 l8 => unc l8 fun u9 l9 => bIfN u7 ((aLoad prog 25 r1.1 r1.2).bind fun t10 =>
 (aStore prog 25 r1.1 (stV r1.1 r1.2 t10) r1.2 lo).bind fun H11 =>
 (aLoad prog 25 r1.1 H11).bind fun t12 => some (Out.ret (A.tup [t12, A.v (.int .i64 1)]), H11)) ((aFieldAddr prog 25 r0.1 2 r1.2).bind fun t10 =>
 (aStore prog 3 t10 (stV t10 r1.2 x1) r1.2 lo).bind fun H11 =>
 (aLoad prog 25 r0.1 H11).bind fun t12 =>
 (aStore prog 25 r1.1 (stV r1.1 H11 t12) H11 lo).bind fun H13 =>
 (aLoad prog 25 r1.1 H13).bind fun t14 => some (Out.ret (A.tup [t14, A.v (.int .i64 0)]), H13))) := by kernel_rfl
theorem e27 (n lo : Nat) (x0 : A) (H : Heap) : evCall1 (cx C) call rg n 27 [x0] H lo =
 (aMakeSlice prog 35 (A.v (.int .i64 128)) (A.v (.int .i64 128)) H).bind fun r0 =>
 (aIndexAddr prog 35 r0.1 (A.v (.int .i64 0)) r0.2).bind fun t1 =>
 (aStore prog 5 t1 (stV t1 r0.2 x0) r0.2 lo).bind fun H2 =>
 (aIndexAddr prog 35 r0.1 (A.v (.int .i64 64)) H2).bind fun t3 =>
 (aStore prog 5 t3 (stV t3 H2 x0) H2 lo).bind fun H4 => some (Out.ret r0.1, H4) := by kernel_rfl
theorem e28 (n lo : Nat) (x0 x1 x2 : A) (H : Heap) : evCall1 (cx C) call rg n 28 [x0, x1, x2] H lo =
 (aBox x0 H).bind fun r0 =>
 (aBoxR prog 44 x1 r0.2).bind fun r1 =>
 (aBoxR prog 44 x2 r1.2).bind fun r2 => loopR (cx C) call rg n 28 lo 0 (List.length r2.2) (fun i3 s3 => bif Nat.beq i3 0 then some (Out.ret (A.v (.bool true)), St.H s3) else none) (fun i3 s3 => none) (fun a3 => some (Out.ret (lk a3 6), St.H a3)) (fun i3 s3 => some (Out.pan i3, St.H s3)) n (St.mk [(3, r0.1), (4, r1.1), (5, r2.1), (6, A.v (.bool false)), (7, A.v (.int .i64 0))] r2.2) := by kernel_rfl
theorem e29 (n lo : Nat) (x0 x1 : A) (H : Heap) : evCall1 (cx C) call rg n 29 [x0, x1] H lo =
 (aBin prog .lss 3 false true x1 (A.v (.int .i64 0))).bind fun t0 => bIfN t0 ((aIfc prog 9 (A.v (Value.string (ByteArray.mk #[99, 97, 110, 110, 111, 116, 32, 98, 101, 32, 110, 101, 103, 97, 116, 105, 118, 101])))).bind fun t1 => panK t1 fun a2 => some (Out.pan a2, H)) ((aLen prog 22 x0 H).bind fun t1 =>
 (aConvert prog 3 66 t1 H).bind fun t2 =>
 (aConvert prog 3 66 x1 H).bind fun t3 =>
 (C 42 [snap H t2, snap H t3]).bind fun t4 =>
 (aExtract t4 0).bind fun t5 =>
 (aExtract t4 1).bind fun t6 =>
 (aBin prog .gtr 66 false true t5 (A.v (.int .u64 0))).bind fun t7 =>
 (bIf t7 (some [A.v (.bool true), ud, ud]) ((aBin prog .gtr 66 false true t6 (A.v (.int .u64 9223372036854775807))).bind fun t8 => some [t8, t8, t6])).bind fun l8 => unc l8 fun u9 l9 => unc l9 fun u10 l10 => unc l10 fun u11 l11 => bIfN u9 ((aIfc prog 9 (A.v (Value.string (ByteArray.mk #[116, 104, 101, 32, 114, 101, 115, 117, 108, 116, 32, 111, 102, 32, 40, 108, 101, 110, 40, 120, 41, 32, 42, 32, 99, 111, 117, 110, 116, 41, 32, 111, 118, 101, 114, 102, 108, 111, 119, 115])))).bind fun t12 => panK t12 fun a13 => some (Out.pan a13, H)) ((aConvert prog 66 3 t6 H).bind fun t12 =>
 (aMakeSlice prog 22 t12 t12 H).bind fun r13 =>
 (aCopy prog 22 r13.1 x0 r13.2 lo).bind fun r14 => loopR (cx C) call rg n 29 lo 0 (List.length r14.2) (fun i15 s15 => bif Nat.beq i15 0 then some (Out.ret (lk s15 7), St.H s15) else none) (fun i15 s15 => none) (fun a15 => some (Out.ret (lk a15 4), St.H a15)) (fun i15 s15 => some (Out.pan i15, St.H s15)) n (St.mk [(4, A.imm [] true), (7, r13.1), (8, r14.1)] r14.2))) := by kernel_rfl
theorem e30 (n lo : Nat) (x0 x1 : A) (H : Heap) : evCall1 (cx C) call rg n 30 [x0, x1] H lo =
 (aBox x0 H).bind fun r0 =>
 (aFieldAddr prog 54 r0.1 0 r0.2).bind fun t1 =>
 (aLoad prog 3 t1 r0.2).bind fun t2 =>
 (aBin prog .lss 3 false true t2 (A.v (.int .i64 0))).bind fun t3 =>
 (bIf t3 (some [A.v (.bool true), ud, ud, ud, ud]) ((aFieldAddr prog 54 r0.1 0 r0.2).bind fun t4 =>
 (aLoad prog 3 t4 r0.2).bind fun t5 =>
 (aLoad prog 3 x1 r0.2).bind fun t6 =>
 (aBin prog .geq 3 false false t5 t6).bind fun t7 => some [t7, t7, t6, t5, t4])).bind fun l4 => unc l4 fun u5 l5 => unc l5 fun u6 l6 => unc l6 fun u7 l7 => unc l7 fun u8 l8 => unc l8 fun u9 l9 =>
 (bIf u5 (some [A.v (.bool true), ud, ud, ud, ud]) ((aFieldAddr prog 54 r0.1 1 r0.2).bind fun t10 =>
 (aLoad prog 35 t10 r0.2).bind fun t11 =>
 (C 31 [snap r0.2 t11]).bind fun t12 =>
 (aUn prog UnOp.not t12).bind fun t13 => some [t13, t13, t12, t11, t10])).bind fun l10 => unc l10 fun u11 l11 => unc l11 fun u12 l12 => unc l12 fun u13 l13 => unc l13 fun u14 l14 => unc l14 fun u15 l15 => some (Out.ret u11, r0.2) := by kernel_rfl
theorem e31 (n lo : Nat) (x0 : A) (H : Heap) : evCall1 (cx C) call rg n 31 [x0] H lo =
 (aLen prog 35 x0 H).bind fun t0 =>
 (aBin prog .eql 3 false true t0 (A.v (.int .i64 128))).bind fun t1 => some (Out.ret t1, H) := by kernel_rfl
theorem e32 (n lo : Nat) (x0 x1 : A) (H : Heap) : evCall1 (cx C) call rg n 32 [x0, x1] H lo =
 (call 43 [x0, x1] H lo).bind fun H0 => outK H0.1 (fun a1 =>
 (aBin prog .geq 3 false true a1 (A.v (.int .i64 0))).bind fun t2 => some (Out.ret t2, H0.2)) fun a1 => some (Out.pan a1, H0.2) := by kernel_rfl
theorem e33 (n lo : Nat) (x0 x1 : A) (H : Heap) : evCall1 (cx C) call rg n 33 [x0, x1] H lo =
 (C 44 [snap H x0, snap H x1]).bind fun t0 =>
 (aBin prog .geq 3 false true t0 (A.v (.int .i64 0))).bind fun t1 => some (Out.ret t1, H) := by kernel_rfl
theorem e34 (n lo : Nat) (x0 : A) (H : Heap) : evCall1 (cx C) call rg n 34 [x0] H lo =
 (C 31 [snap H x0]).bind fun t0 =>
 (aUn prog UnOp.not t0).bind fun t1 => some (Out.ret t1, H) := by kernel_rfl
theorem e35 (n lo : Nat) (x0 : A) (H : Heap) : evCall1 (cx C) call rg n 35 [x0] H lo =
 (aBox x0 H).bind fun r0 =>
 (aLoad prog 25 r0.1 r0.2).bind fun t1 =>
 (C 15 [snap r0.2 t1]).bind fun t2 =>
 (aBin prog .eql 28 false true t2 (A.v (.int .i64 0))).bind fun t3 =>
 (bIf t3 ((aFieldAddr prog 25 r0.1 3 r0.2).bind fun t4 =>
 (aLoad prog 4 t4 r0.2).bind fun t5 =>
 (aUn prog UnOp.not t5).bind fun t6 => some [t6, t6, t5, t4]) (some [A.v (.bool false), ud, ud, ud])).bind fun l4 => unc l4 fun u5 l5 => unc l5 fun u6 l6 => unc l6 fun u7 l7 => unc l7 fun u8 l8 => some (Out.ret u5, r0.2) := by kernel_rfl
theorem e36 (n lo : Nat) (x0 x1 : A) (H : Heap) : evCall1 (cx C) call rg n 36 [x0, x1] H lo =
 (aBox x0 H).bind fun r0 =>
 (aBin prog .geq 3 false true x1 (A.v (.int .i64 0))).bind fun t1 =>
 (bIf t1 ((aFieldAddr prog 25 r0.1 0 r0.2).bind fun t2 =>
 (aLoad prog 22 t2 r0.2).bind fun t3 =>
 (aLen prog 22 t3 r0.2).bind fun t4 =>
 (aBin prog .lss 3 false false x1 t4).bind fun t5 => some [t5, t5, t4, t3, t2, x1]) (some [A.v (.bool false), ud, ud, ud, ud, ud])).bind fun l2 => unc l2 fun u3 l3 => unc l3 fun u4 l4 => unc l4 fun u5 l5 => unc l5 fun u6 l6 => unc l6 fun u7 l7 => unc l7 fun u8 l8 => some (Out.ret u3, r0.2) := by kernel_rfl
theorem e37 (n lo : Nat) (x0 : A) (H : Heap) : evCall1 (cx C) call rg n 37 [x0] H lo =
 (aLen prog 23 x0 H).bind fun t0 =>
 (aLen prog 23 x0 H).bind fun t1 =>
 (aSlice prog 23 x0 none (some t0) (some t1) H).bind fun t2 => some (Out.ret t2, H) := by kernel_rfl
theorem e38 (n lo : Nat) (x0 : A) (H : Heap) : evCall1 (cx C) call rg n 38 [x0] H lo =
 (aNq prog 23 x0).bind fun t0 => bIfN t0 (some (Out.ret (seed1 2 (St.H (St.mk [(2, A.imm [] true), (4, t0), (3, x0), (2, A.imm [] true), (0, x0)] H)) (look (St.fr (St.mk [(2, A.imm [] true), (4, t0), (3, x0), (2, A.imm [] true), (0, x0)] H)) (Prod.fst (2, 0, 3)))).1, (seed1 2 (St.H (St.mk [(2, A.imm [] true), (4, t0), (3, x0), (2, A.imm [] true), (0, x0)] H)) (look (St.fr (St.mk [(2, A.imm [] true), (4, t0), (3, x0), (2, A.imm [] true), (0, x0)] H)) (Prod.fst (2, 0, 3)))).2)) ((aBuildSlice prog 23 0 []).bind fun t1 =>
 (aAppend prog 23 23 false t1 x0 H lo).bind fun r2 => some (Out.ret (seed1 2 (St.H (St.mk [(2, r2.1), (7, r2.1), (6, x0), (5, t1), (4, t0), (3, x0), (2, A.imm [] true), (0, x0)] r2.2)) (look (St.fr (St.mk [(2, r2.1), (7, r2.1), (6, x0), (5, t1), (4, t0), (3, x0), (2, A.imm [] true), (0, x0)] r2.2)) (Prod.fst (2, 0, 3)))).1, (seed1 2 (St.H (St.mk [(2, r2.1), (7, r2.1), (6, x0), (5, t1), (4, t0), (3, x0), (2, A.imm [] true), (0, x0)] r2.2)) (look (St.fr (St.mk [(2, r2.1), (7, r2.1), (6, x0), (5, t1), (4, t0), (3, x0), (2, A.imm [] true), (0, x0)] r2.2)) (Prod.fst (2, 0, 3)))).2)) := by kernel_rfl
theorem e39 (n lo : Nat) (x0 : A) (H : Heap) : evCall1 (cx C) call rg n 39 [x0] H lo =
 (aBox x0 H).bind fun r0 => some (Out.ret (A.fn (Fn.func 45) [] [r0.1]), r0.2) := by kernel_rfl
theorem e40 (n lo : Nat) (x0 x1 : A) (H : Heap) : evCall1 (cx C) call rg n 40 [x0, x1] H lo =
 (call 46 [x0] H lo).bind fun H0 => outK H0.1 (fun a1 =>
 (aLen prog 23 x1 H0.2).bind fun t2 => loopR (cx C) call rg n 40 lo 0 (List.length H0.2) (fun i3 s3 => bif Nat.beq i3 0 then some (Out.ret (lk s3 5), St.H s3) else none) (fun i3 s3 => none) (fun a3 => some (Out.ret (lk a3 4), St.H a3)) (fun i3 s3 => some (Out.pan i3, St.H s3)) n (St.mk [(4, A.imm [] true), (5, a1), (10, x1), (11, t2), (12, A.v (.int .i64 0))] H0.2)) fun a1 => some (Out.pan a1, H0.2) := by kernel_rfl
theorem e41 (n lo : Nat) (x0 : A) (H : Heap) : evCall1 (cx C) call rg n 41 [x0] H lo =
 (aNq prog 35 x0).bind fun t0 => bIfN t0 (some (Out.ret (seedW (500001 - 500000) (St.H (St.mk [(2, A.imm [] true), (4, t0), (3, x0), (2, A.imm [] true), (0, x0)] H)) (look (St.fr (St.mk [(2, A.imm [] true), (4, t0), (3, x0), (2, A.imm [] true), (0, x0)] H)) (Prod.fst (2, 0, 500002)))).1, (seedW (500001 - 500000) (St.H (St.mk [(2, A.imm [] true), (4, t0), (3, x0), (2, A.imm [] true), (0, x0)] H)) (look (St.fr (St.mk [(2, A.imm [] true), (4, t0), (3, x0), (2, A.imm [] true), (0, x0)] H)) (Prod.fst (2, 0, 500002)))).2)) ((aBuildSlice prog 35 0 []).bind fun t1 =>
 (aAppend prog 35 35 true t1 x0 H lo).bind fun r2 => some (Out.ret (seedW (500001 - 500000) (St.H (St.mk [(2, r2.1), (7, r2.1), (6, x0), (5, t1), (4, t0), (3, x0), (2, A.imm [] true), (0, x0)] r2.2)) (look (St.fr (St.mk [(2, r2.1), (7, r2.1), (6, x0), (5, t1), (4, t0), (3, x0), (2, A.imm [] true), (0, x0)] r2.2)) (Prod.fst (2, 0, 500002)))).1, (seedW (500001 - 500000) (St.H (St.mk [(2, r2.1), (7, r2.1), (6, x0), (5, t1), (4, t0), (3, x0), (2, A.imm [] true), (0, x0)] r2.2)) (look (St.fr (St.mk [(2, r2.1), (7, r2.1), (6, x0), (5, t1), (4, t0), (3, x0), (2, A.imm [] true), (0, x0)] r2.2)) (Prod.fst (2, 0, 500002)))).2)) := by kernel_rfl
theorem e42 (n lo : Nat) (x0 x1 : A) (H : Heap) : evCall1 (cx C) call rg n 42 [x0, x1] H lo =
 (C 48 [snap H x0, snap H x1]).bind fun t0 =>
 (aExtract t0 0).bind fun t1 =>
 (aExtract t0 1).bind fun t2 => some (Out.ret (A.tup [t1, t2]), H) := by kernel_rfl
theorem e43 (n lo : Nat) (x0 x1 : A) (H : Heap) : evCall1 (cx C) call rg n 43 [x0, x1] H lo =
 (aLen prog 23 x0 H).bind fun t0 => loopR (cx C) call rg n 43 lo 0 (List.length H) (fun i1 s1 => bif Nat.beq i1 0 then some (Out.ret (A.v (.int .i64 (-1))), St.H s1) else none) (fun i1 s1 => none) (fun a1 => some (Out.ret (lk a1 4), St.H a1)) (fun i1 s1 => some (Out.pan i1, St.H s1)) n (St.mk [(0, x0), (1, x1), (4, A.v (.int .i64 0)), (7, t0), (8, A.v (.int .i64 0))] H) := by kernel_rfl
theorem e44 (n lo : Nat) (x0 x1 : A) (H : Heap) : evCall1 (cx C) call rg n 44 [x0, x1] H lo =
 (aLen prog 22 x0 H).bind fun t0 => loopR (cx C) call rg n 44 lo 0 (List.length H) (fun i1 s1 => bif Nat.beq i1 0 then some (Out.ret (A.v (.int .i64 (-1))), St.H s1) else none) (fun i1 s1 => none) (fun a1 => some (Out.ret (lk a1 4), St.H a1)) (fun i1 s1 => some (Out.pan i1, St.H s1)) n (St.mk [(0, x0), (1, x1), (4, A.v (.int .i64 0)), (7, t0), (8, A.v (.int .i64 0))] H) := by kernel_rfl
theorem e45 (n lo : Nat) (x0 x1 : A) (H : Heap) : evCall1 (cx C) call rg n 45 [x0, x1] H lo =
 (aLoad prog 23 x1 H).bind fun t0 =>
 (aLen prog 23 t0 H).bind fun t1 =>
 (aBin prog .sub 3 false true t1 (A.v (.int .i64 1))).bind fun t2 => loopR (cx C) call rg n 45 lo 0 (List.length H) (fun i3 s3 => bif Nat.beq i3 0 then some (Out.ret (A.tup []), St.H s3) else none) (fun i3 s3 => none) (fun a3 => some (Out.ret (A.tup []), St.H a3)) (fun i3 s3 => some (Out.pan i3, St.H s3)) n (St.mk [(0, x0), (1, x1), (3, t2)] H) := by kernel_rfl
theorem e46 (n lo : Nat) (x0 : A) (H : Heap) : evCall1 (cx C) call rg n 46 [x0] H lo =
 (aNq prog 22 x0).bind fun t0 => bIfN t0 (some (Out.ret (seedW (500001 - 500000) (St.H (St.mk [(2, A.imm [] true), (4, t0), (3, x0), (2, A.imm [] true), (0, x0)] H)) (look (St.fr (St.mk [(2, A.imm [] true), (4, t0), (3, x0), (2, A.imm [] true), (0, x0)] H)) (Prod.fst (2, 0, 500002)))).1, (seedW (500001 - 500000) (St.H (St.mk [(2, A.imm [] true), (4, t0), (3, x0), (2, A.imm [] true), (0, x0)] H)) (look (St.fr (St.mk [(2, A.imm [] true), (4, t0), (3, x0), (2, A.imm [] true), (0, x0)] H)) (Prod.fst (2, 0, 500002)))).2)) ((aBuildSlice prog 22 0 []).bind fun t1 =>
 (aAppend prog 22 22 true t1 x0 H lo).bind fun r2 => some (Out.ret (seedW (500001 - 500000) (St.H (St.mk [(2, r2.1), (7, r2.1), (6, x0), (5, t1), (4, t0), (3, x0), (2, A.imm [] true), (0, x0)] r2.2)) (look (St.fr (St.mk [(2, r2.1), (7, r2.1), (6, x0), (5, t1), (4, t0), (3, x0), (2, A.imm [] true), (0, x0)] r2.2)) (Prod.fst (2, 0, 500002)))).1, (seedW (500001 - 500000) (St.H (St.mk [(2, r2.1), (7, r2.1), (6, x0), (5, t1), (4, t0), (3, x0), (2, A.imm [] true), (0, x0)] r2.2)) (look (St.fr (St.mk [(2, r2.1), (7, r2.1), (6, x0), (5, t1), (4, t0), (3, x0), (2, A.imm [] true), (0, x0)] r2.2)) (Prod.fst (2, 0, 500002)))).2)) := by kernel_rfl
theorem e48 (n lo : Nat) (x0 x1 : A) (H : Heap) : evCall1 (cx C) call rg n 48 [x0, x1] H lo =
 (aBin prog .and 76 false true x0 (A.v (.int .u64 4294967295))).bind fun t0 =>
 (aBin prog .shr 76 false true x0 (A.v (.int .u64 32))).bind fun t1 =>
 (aBin prog .and 76 false true x1 (A.v (.int .u64 4294967295))).bind fun t2 =>
 (aBin prog .shr 76 false true x1 (A.v (.int .u64 32))).bind fun t3 =>
 (aBin prog .mul 76 false false t0 t2).bind fun t4 =>
 (aBin prog .mul 76 false false t1 t2).bind fun t5 =>
 (aBin prog .shr 76 false true t4 (A.v (.int .u64 32))).bind fun t6 =>
 (aBin prog .add 76 false false t5 t6).bind fun t7 =>
 (aBin prog .and 76 false true t7 (A.v (.int .u64 4294967295))).bind fun t8 =>
 (aBin prog .shr 76 false true t7 (A.v (.int .u64 32))).bind fun t9 =>
 (aBin prog .mul 76 false false t0 t3).bind fun t10 =>
 (aBin prog .add 76 false false t8 t10).bind fun t11 =>
 (aBin prog .mul 76 false false t1 t3).bind fun t12 =>
 (aBin prog .add 76 false false t12 t9).bind fun t13 =>
 (aBin prog .shr 76 false true t11 (A.v (.int .u64 32))).bind fun t14 =>
 (aBin prog .add 76 false false t13 t14).bind fun t15 =>
 (aBin prog .mul 76 false false x0 x1).bind fun t16 => some (Out.ret (A.tup [t15, t16]), H) := by kernel_rfl
theorem e6_0 (n lo L : Nat) (kx kg : Nat -> St -> Option R) (kr : St -> Option R) (kp : A -> St -> Option R) (m : Nat) (x0 x4 x5 x8 x9 x10 x11 x12 x13 : A) (H : Heap) : loopR (cx C) call rg n 6 lo 0 L kx kg kr kp (m + 1) (St.mk [(0, x0), (4, x4), (5, x5), (8, x8), (9, x9), (10, x10), (11, x11), (12, x12), (13, x13)] H) =
 (aLen prog 43 x0 H).bind fun t0 =>
 (aBin prog .lss 3 false false x13 t0).bind fun t1 => bIfN t1 ((aIndexAddr prog 43 x0 x13 H).bind fun t2 =>
 (aLoad prog 46 t2 H).bind fun t3 =>
 (aAlloc prog 46 H).bind fun r4 =>
 (aStore prog 46 r4.1 (stV r4.1 r4.2 t3) r4.2 lo).bind fun H5 =>
 (aFieldAddr prog 46 r4.1 0 H5).bind fun t6 =>
 (aLoad prog 4 t6 H5).bind fun t7 =>
 (aUn prog UnOp.not t7).bind fun t8 => bIfN t8 ((aLoad prog 25 x5 H5).bind fun t9 =>
 (aFieldAddr prog 46 r4.1 1 H5).bind fun t10 =>
 (aLoad prog 5 t10 H5).bind fun t11 =>
 (aBin prog .rem 5 false true t11 (A.v (.int .u8 4))).bind fun t12 =>
 (aConvert prog 5 3 t12 H5).bind fun t13 =>
 (aFieldAddr prog 46 r4.1 2 H5).bind fun t14 =>
 (aLoad prog 5 t14 H5).bind fun t15 =>
 (C 27 [snap H5 t15]).bind fun t16 =>
 (C 19 [snap H5 t9, snap H5 t13, snap H5 t16]).bind fun t17 =>
 (aExtract t17 0).bind fun t18 =>
 (aExtract t17 1).bind fun t19 => bif bif apart t14 A.any then bif apart r4.1 A.any then bif apart t12 A.any then bif apart t10 A.any then bif apart r4.1 A.any then bif apart x5 A.any then true else false else false else false else false else false else false then
 (aAlloc prog 25 H5).bind fun r20 =>
 (aStore prog 25 r20.1 (stV r20.1 r20.2 t18) r20.2 lo).bind fun H21 =>
 (aBin prog .neq 28 false true t19 (A.v (.int .i64 0))).bind fun t22 => bIfN t22 (kr (St.mk [(0, x0), (4, A.v (.bool false)), (5, x5), (8, x8), (9, x9), (10, x10), (11, x11), (12, x12), (13, x13)] H21)) ((aLoad prog 25 r20.1 H21).bind fun t23 =>
 (aStore prog 25 x5 (stV x5 H21 t23) H21 lo).bind fun H24 =>
 (aFieldAddr prog 46 r4.1 1 H24).bind fun t25 =>
 (aLoad prog 5 t25 H24).bind fun t26 =>
 (aBin prog .rem 5 false true t26 (A.v (.int .u8 4))).bind fun t27 =>
 (aFieldAddr prog 46 r4.1 2 H24).bind fun t28 =>
 (aLoad prog 5 t28 H24).bind fun t29 =>
 (aIndexAddr prog 44 x8 t27 H24).bind fun t30 =>
 (aStore prog 5 t30 (stV t30 H24 t29) H24 lo).bind fun H31 =>
 (aLoad prog 46 r4.1 H31).bind fun t32 =>
 (aBuildSlice prog 43 1 [(0, frzA H31 t32)]).bind fun t33 =>
 (aAppend prog 43 43 false x11 t33 H31 lo).bind fun r34 =>
 (aLoad prog 25 x5 r34.2).bind fun t35 =>
 (aLoad prog 44 x8 r34.2).bind fun t36 =>
 (aLoad prog 44 x8 r34.2).bind fun t37 =>
 (C 28 [snap r34.2 t35, snap r34.2 t36, snap r34.2 t37]).bind fun t38 =>
 (aUn prog UnOp.not t38).bind fun t39 => bIfN t39 (kr (St.mk [(0, x0), (4, A.v (.bool false)), (5, x5), (8, x8), (9, x9), (10, x10), (11, r34.1), (12, x12), (13, x13)] r34.2)) ((aBin prog .add 3 false true x13 (A.v (.int .i64 1))).bind fun t40 => bif isClip r34.1 then
 (trim (predN L) r34.2).bind fun H41 => bif bif Nat.beq (List.length r34.2) (predN L) then true else keepsUnder (predN L) [(13, t40), (51, t40), (50, x13), (157, t39), (156, t38), (155, t37), (154, t36), (153, t35), (11, r34.1), (83, r34.1), (82, t33), (81, t32), (80, x11), (79, t30), (78, t29), (77, t28), (76, t27), (75, t26), (74, t25), (73, t23), (72, t22), (71, t19), (16, t19), (15, r20.1), (70, t19), (69, t18), (59, t17), (68, t17), (67, t16), (66, t15), (65, t14), (64, t13), (63, t12), (62, t11), (61, t10), (60, t9), (58, t8), (57, t7), (56, t6), (14, r4.1), (55, t3), (54, t2), (53, x13), (52, x0), (49, t1), (48, t0), (47, x0), (46, x13), (0, x0), (4, x4), (5, x5), (8, x8), (9, x9), (10, x10), (11, x11), (12, x12), (13, x13)] [0, 4, 5, 8, 9, 10, 11, 12, 13] then bif Nat.beq (List.length (seedZ (1000003 - 1000000) (St.H (St.mk [(0, x0), (4, x4), (5, x5), (8, x8), (9, x9), (10, x10), (11, r34.1), (12, x12), (13, t40)] H41)) (look (St.fr (St.mk [(0, x0), (4, x4), (5, x5), (8, x8), (9, x9), (10, x10), (11, r34.1), (12, x12), (13, t40)] H41)) (Prod.fst (11, 0, 1000004)))).2) L then loopR (cx C) call rg n 6 lo 0 L kx kg kr kp m (St.mk [(0, x0), (4, x4), (5, x5), (8, x8), (9, x9), (10, x10), (11, (seedZ (1000003 - 1000000) (St.H (St.mk [(0, x0), (4, x4), (5, x5), (8, x8), (9, x9), (10, x10), (11, r34.1), (12, x12), (13, t40)] H41)) (look (St.fr (St.mk [(0, x0), (4, x4), (5, x5), (8, x8), (9, x9), (10, x10), (11, r34.1), (12, x12), (13, t40)] H41)) (Prod.fst (11, 0, 1000004)))).1), (12, x12), (13, t40)] (seedZ (1000003 - 1000000) (St.H (St.mk [(0, x0), (4, x4), (5, x5), (8, x8), (9, x9), (10, x10), (11, r34.1), (12, x12), (13, t40)] H41)) (look (St.fr (St.mk [(0, x0), (4, x4), (5, x5), (8, x8), (9, x9), (10, x10), (11, r34.1), (12, x12), (13, t40)] H41)) (Prod.fst (11, 0, 1000004)))).2) else none else none else
 (trim L r34.2).bind fun H41 => bif bif Nat.beq (List.length r34.2) L then true else keepsUnder L [(13, t40), (51, t40), (50, x13), (157, t39), (156, t38), (155, t37), (154, t36), (153, t35), (11, r34.1), (83, r34.1), (82, t33), (81, t32), (80, x11), (79, t30), (78, t29), (77, t28), (76, t27), (75, t26), (74, t25), (73, t23), (72, t22), (71, t19), (16, t19), (15, r20.1), (70, t19), (69, t18), (59, t17), (68, t17), (67, t16), (66, t15), (65, t14), (64, t13), (63, t12), (62, t11), (61, t10), (60, t9), (58, t8), (57, t7), (56, t6), (14, r4.1), (55, t3), (54, t2), (53, x13), (52, x0), (49, t1), (48, t0), (47, x0), (46, x13), (0, x0), (4, x4), (5, x5), (8, x8), (9, x9), (10, x10), (11, x11), (12, x12), (13, x13)] [0, 4, 5, 8, 9, 10, 11, 12, 13] then loopR (cx C) call rg n 6 lo 0 L kx kg kr kp m (St.mk [(0, x0), (4, x4), (5, x5), (8, x8), (9, x9), (10, x10), (11, r34.1), (12, x12), (13, t40)] H41) else none)) else none) ((aLoad prog 25 x5 H5).bind fun t9 =>
 (C 23 [snap H5 t9]).bind fun t10 =>
 (aExtract t10 0).bind fun t11 =>
 (aExtract t10 1).bind fun t12 =>
 (aAlloc prog 25 H5).bind fun r13 =>
 (aStore prog 25 r13.1 (stV r13.1 r13.2 t11) r13.2 lo).bind fun H14 =>
 (aLen prog 43 x11 H14).bind fun t15 =>
 (aBin prog .gtr 3 false false t15 x12).bind fun t16 => loopR (cx C) call rg n 6 lo 1 (List.length H14) (fun i17 s17 => bif Nat.beq i17 2 then bIfN (lk s17 19) ((aBin prog .eql 28 false true (lk s17 18) (A.v (.int .i64 40))).bind fun t18 =>
 (bIf t18 ((aFieldAddr prog 25 (lk s17 17) 3 (St.H s17)).bind fun t19 =>
 (aLoad prog 4 t19 (St.H s17)).bind fun t20 => some [t20, t20, t19]) (some [A.v (.bool false), ud, ud])).bind fun l19 => unc l19 fun u20 l20 => unc l20 fun u21 l21 => unc l21 fun u22 l22 =>
 (gIf u20 true ((aLoad prog 25 (lk s17 17) (St.H s17)).bind fun t23 =>
 (C 17 [snap (St.H s17) t23]).bind fun t24 =>
 (aLoad prog 44 (lk s17 9) (St.H s17)).bind fun t25 =>
 (aLoad prog 44 (lk s17 10) (St.H s17)).bind fun t26 => some [t26, t25, t24, t23]) (some [ud, ud, ud, ud])).bind fun l23 => unc l23 fun u24 l24 => unc l24 fun u25 l25 => unc l25 fun u26 l26 => unc l26 fun u27 l27 =>
 (bIf u20 ((C 28 [snap (St.H s17) u26, snap (St.H s17) u25, snap (St.H s17) u24]).bind fun t28 => some [t28, t28]) (some [A.v (.bool false), ud])).bind fun l28 => unc l28 fun u29 l29 => unc l29 fun u30 l30 => kr (St.mk [(0, lk s17 0), (4, u29), (5, lk s17 5), (8, lk s17 8), (9, lk s17 9), (10, lk s17 10), (11, lk s17 11), (12, lk s17 12), (13, lk s17 13)] (St.H s17))) ((aBin prog .neq 28 false true (lk s17 18) (A.v (.int .i64 0))).bind fun t18 => bIfN t18 (kr (St.mk [(0, lk s17 0), (4, A.v (.bool false)), (5, lk s17 5), (8, lk s17 8), (9, lk s17 9), (10, lk s17 10), (11, lk s17 11), (12, lk s17 12), (13, lk s17 13)] (St.H s17))) ((aLen prog 43 (lk s17 11) (St.H s17)).bind fun t19 =>
 (aBin prog .sub 3 false false (lk s17 12) t19).bind fun t20 =>
 (aBuildSlice prog 43 0 []).bind fun t21 =>
 (aLoad prog 25 (lk s17 17) (St.H s17)).bind fun t22 =>
 (aStore prog 25 (lk s17 5) (stV (lk s17 5) (St.H s17) t22) (St.H s17) lo).bind fun H23 =>
 (aLoad prog 25 (lk s17 5) H23).bind fun t24 =>
 (aLoad prog 44 (lk s17 8) H23).bind fun t25 =>
 (aLoad prog 44 (lk s17 8) H23).bind fun t26 =>
 (C 28 [snap H23 t24, snap H23 t25, snap H23 t26]).bind fun t27 =>
 (aUn prog UnOp.not t27).bind fun t28 => bIfN t28 (kr (St.mk [(0, lk s17 0), (4, A.v (.bool false)), (5, lk s17 5), (8, lk s17 8), (9, lk s17 9), (10, lk s17 10), (11, t21), (12, t20), (13, lk s17 13)] H23)) ((aBin prog .add 3 false true (lk s17 13) (A.v (.int .i64 1))).bind fun t29 => bif isClip t21 then
 (trim (predN L) H23).bind fun H30 => bif bif Nat.beq (List.length H23) (predN L) then true else keepsUnder (predN L) ((13, t29) :: (51, t29) :: (50, lk s17 13) :: (157, t28) :: (156, t27) :: (155, t26) :: (154, t25) :: (153, t24) :: (152, t22) :: (11, t21) :: (151, t21) :: (12, t20) :: (150, t20) :: (149, t19) :: (148, lk s17 11) :: (147, lk s17 12) :: (146, t18) :: (145, lk s17 18) :: (131, lk s17 19) :: St.fr s17) [0, 4, 5, 8, 9, 10, 11, 12, 13] then bif Nat.beq (List.length (seedZ (1000003 - 1000000) (St.H (St.mk [(0, lk s17 0), (4, lk s17 4), (5, lk s17 5), (8, lk s17 8), (9, lk s17 9), (10, lk s17 10), (11, t21), (12, t20), (13, t29)] H30)) (look (St.fr (St.mk [(0, lk s17 0), (4, lk s17 4), (5, lk s17 5), (8, lk s17 8), (9, lk s17 9), (10, lk s17 10), (11, t21), (12, t20), (13, t29)] H30)) (Prod.fst (11, 0, 1000004)))).2) L then loopR (cx C) call rg n 6 lo 0 L kx kg kr kp m (St.mk [(0, lk s17 0), (4, lk s17 4), (5, lk s17 5), (8, lk s17 8), (9, lk s17 9), (10, lk s17 10), (11, (seedZ (1000003 - 1000000) (St.H (St.mk [(0, lk s17 0), (4, lk s17 4), (5, lk s17 5), (8, lk s17 8), (9, lk s17 9), (10, lk s17 10), (11, t21), (12, t20), (13, t29)] H30)) (look (St.fr (St.mk [(0, lk s17 0), (4, lk s17 4), (5, lk s17 5), (8, lk s17 8), (9, lk s17 9), (10, lk s17 10), (11, t21), (12, t20), (13, t29)] H30)) (Prod.fst (11, 0, 1000004)))).1), (12, t20), (13, t29)] (seedZ (1000003 - 1000000) (St.H (St.mk [(0, lk s17 0), (4, lk s17 4), (5, lk s17 5), (8, lk s17 8), (9, lk s17 9), (10, lk s17 10), (11, t21), (12, t20), (13, t29)] H30)) (look (St.fr (St.mk [(0, lk s17 0), (4, lk s17 4), (5, lk s17 5), (8, lk s17 8), (9, lk s17 9), (10, lk s17 10), (11, t21), (12, t20), (13, t29)] H30)) (Prod.fst (11, 0, 1000004)))).2) else none else none else
 (trim L H23).bind fun H30 => bif bif Nat.beq (List.length H23) L then true else keepsUnder L ((13, t29) :: (51, t29) :: (50, lk s17 13) :: (157, t28) :: (156, t27) :: (155, t26) :: (154, t25) :: (153, t24) :: (152, t22) :: (11, t21) :: (151, t21) :: (12, t20) :: (150, t20) :: (149, t19) :: (148, lk s17 11) :: (147, lk s17 12) :: (146, t18) :: (145, lk s17 18) :: (131, lk s17 19) :: St.fr s17) [0, 4, 5, 8, 9, 10, 11, 12, 13] then loopR (cx C) call rg n 6 lo 0 L kx kg kr kp m (St.mk [(0, lk s17 0), (4, lk s17 4), (5, lk s17 5), (8, lk s17 8), (9, lk s17 9), (10, lk s17 10), (11, t21), (12, t20), (13, t29)] H30) else none))) else bif Nat.beq i17 1 then
 (aBin prog .add 3 false true (lk s17 13) (A.v (.int .i64 1))).bind fun t18 => bif isClip (lk s17 11) then
 (trim (predN L) (St.H s17)).bind fun H19 => bif bif Nat.beq (List.length (St.H s17)) (predN L) then true else keepsUnder (predN L) ((13, t18) :: (51, t18) :: (50, lk s17 13) :: St.fr s17) [0, 4, 5, 8, 9, 10, 11, 12, 13] then bif Nat.beq (List.length (seedZ (1000003 - 1000000) (St.H (St.mk [(0, lk s17 0), (4, lk s17 4), (5, lk s17 5), (8, lk s17 8), (9, lk s17 9), (10, lk s17 10), (11, lk s17 11), (12, lk s17 12), (13, t18)] H19)) (look (St.fr (St.mk [(0, lk s17 0), (4, lk s17 4), (5, lk s17 5), (8, lk s17 8), (9, lk s17 9), (10, lk s17 10), (11, lk s17 11), (12, lk s17 12), (13, t18)] H19)) (Prod.fst (11, 0, 1000004)))).2) L then loopR (cx C) call rg n 6 lo 0 L kx kg kr kp m (St.mk [(0, lk s17 0), (4, lk s17 4), (5, lk s17 5), (8, lk s17 8), (9, lk s17 9), (10, lk s17 10), (11, (seedZ (1000003 - 1000000) (St.H (St.mk [(0, lk s17 0), (4, lk s17 4), (5, lk s17 5), (8, lk s17 8), (9, lk s17 9), (10, lk s17 10), (11, lk s17 11), (12, lk s17 12), (13, t18)] H19)) (look (St.fr (St.mk [(0, lk s17 0), (4, lk s17 4), (5, lk s17 5), (8, lk s17 8), (9, lk s17 9), (10, lk s17 10), (11, lk s17 11), (12, lk s17 12), (13, t18)] H19)) (Prod.fst (11, 0, 1000004)))).1), (12, lk s17 12), (13, t18)] (seedZ (1000003 - 1000000) (St.H (St.mk [(0, lk s17 0), (4, lk s17 4), (5, lk s17 5), (8, lk s17 8), (9, lk s17 9), (10, lk s17 10), (11, lk s17 11), (12, lk s17 12), (13, t18)] H19)) (look (St.fr (St.mk [(0, lk s17 0), (4, lk s17 4), (5, lk s17 5), (8, lk s17 8), (9, lk s17 9), (10, lk s17 10), (11, lk s17 11), (12, lk s17 12), (13, t18)] H19)) (Prod.fst (11, 0, 1000004)))).2) else none else none else
 (trim L (St.H s17)).bind fun H19 => bif bif Nat.beq (List.length (St.H s17)) L then true else keepsUnder L ((13, t18) :: (51, t18) :: (50, lk s17 13) :: St.fr s17) [0, 4, 5, 8, 9, 10, 11, 12, 13] then loopR (cx C) call rg n 6 lo 0 L kx kg kr kp m (St.mk [(0, lk s17 0), (4, lk s17 4), (5, lk s17 5), (8, lk s17 8), (9, lk s17 9), (10, lk s17 10), (11, lk s17 11), (12, lk s17 12), (13, t18)] H19) else none else kx i17 (St.mk [(0, lk s17 0), (4, lk s17 4), (5, lk s17 5), (8, lk s17 8), (9, lk s17 9), (10, lk s17 10), (11, lk s17 11), (12, lk s17 12), (13, lk s17 13)] (St.H s17))) (fun i17 s17 => kg i17 (St.mk [(0, lk s17 0), (4, lk s17 4), (5, lk s17 5), (8, lk s17 8), (9, lk s17 9), (10, lk s17 10), (11, lk s17 11), (12, lk s17 12), (13, lk s17 13)] (St.H s17))) (fun a17 => kr (St.mk [(0, lk a17 0), (4, lk a17 4), (5, lk a17 5), (8, lk a17 8), (9, lk a17 9), (10, lk a17 10), (11, lk a17 11), (12, lk a17 12), (13, lk a17 13)] (St.H a17))) (fun i17 s17 => kp i17 (St.mk [(0, lk s17 0), (4, lk s17 4), (5, lk s17 5), (8, lk s17 8), (9, lk s17 9), (10, lk s17 10), (11, lk s17 11), (12, lk s17 12), (13, lk s17 13)] (St.H s17))) n (St.mk [(0, x0), (4, x4), (5, x5), (8, x8), (9, x9), (10, x10), (11, x11), (12, x12), (13, x13), (17, r13.1), (18, t12), (19, t16), (20, A.v (.int .i64 0))] H14))) (kx 0 (St.mk [(0, x0), (4, x4), (5, x5), (8, x8), (9, x9), (10, x10), (11, x11), (12, x12), (13, x13)] H)) := by kernel_rfl
theorem e6_1 (n lo L : Nat) (kx kg : Nat -> St -> Option R) (kr : St -> Option R) (kp : A -> St -> Option R) (m : Nat) (x0 x4 x5 x8 x9 x10 x11 x12 x13 x17 x18 x19 x20 : A) (H : Heap) : loopR (cx C) call rg n 6 lo 1 L kx kg kr kp (m + 1) (St.mk [(0, x0), (4, x4), (5, x5), (8, x8), (9, x9), (10, x10), (11, x11), (12, x12), (13, x13), (17, x17), (18, x18), (19, x19), (20, x20)] H) =
 (aLen prog 43 x11 H).bind fun t0 =>
 (aBin prog .lss 3 false false x20 t0).bind fun t1 =>
 (bIf t1 ((aBin prog .leq 3 false false x20 x12).bind fun t2 => some [t2, t2, x12, x20]) (some [A.v (.bool false), ud, ud, ud])).bind fun l2 => unc l2 fun u3 l3 => unc l3 fun u4 l4 => unc l4 fun u5 l5 => unc l5 fun u6 l6 => bIfN u3 ((aIndexAddr prog 43 x11 x20 H).bind fun t7 =>
 (aFieldAddr prog 46 t7 1 H).bind fun t8 =>
 (aLoad prog 5 t8 H).bind fun t9 =>
 (aBin prog .rem 5 false true t9 (A.v (.int .u8 4))).bind fun t10 =>
 (aIndexAddr prog 43 x11 x20 H).bind fun t11 =>
 (aFieldAddr prog 46 t11 2 H).bind fun t12 =>
 (aLoad prog 5 t12 H).bind fun t13 =>
 (aIndexAddr prog 44 x9 t10 H).bind fun t14 =>
 (aStore prog 5 t14 (stV t14 H t13) H lo).bind fun H15 =>
 (aBin prog .lss 3 false false x20 x12).bind fun t16 => bIfN t16 ((aIndexAddr prog 43 x11 x20 H15).bind fun t17 =>
 (aFieldAddr prog 46 t17 1 H15).bind fun t18 =>
 (aLoad prog 5 t18 H15).bind fun t19 =>
 (aBin prog .rem 5 false true t19 (A.v (.int .u8 4))).bind fun t20 =>
 (aIndexAddr prog 43 x11 x20 H15).bind fun t21 =>
 (aFieldAddr prog 46 t21 2 H15).bind fun t22 =>
 (aLoad prog 5 t22 H15).bind fun t23 =>
 (aIndexAddr prog 44 x10 t20 H15).bind fun t24 =>
 (aStore prog 5 t24 (stV t24 H15 t23) H15 lo).bind fun H25 =>
 (aBin prog .add 3 false true x20 (A.v (.int .i64 1))).bind fun t26 =>
 (trim L H25).bind fun H27 => bif bif Nat.beq (List.length H25) L then true else keepsUnder L [(20, t26), (103, t26), (102, x20), (130, t24), (129, t23), (128, t22), (127, t21), (126, x20), (125, x11), (124, t20), (123, t19), (122, t18), (121, t17), (120, x20), (119, x11), (118, t16), (117, x12), (116, x20), (115, t14), (114, t13), (113, t12), (112, t11), (111, x20), (110, x11), (109, t10), (108, t9), (107, t8), (106, t7), (105, x20), (104, x11), (101, u3), (100, u4), (99, u5), (98, u6), (97, t1), (96, t1), (95, t0), (94, x11), (93, x20), (0, x0), (4, x4), (5, x5), (8, x8), (9, x9), (10, x10), (11, x11), (12, x12), (13, x13), (17, x17), (18, x18), (19, x19), (20, x20)] [0, 4, 5, 8, 9, 10, 11, 12, 13, 17, 18, 19, 20] then loopR (cx C) call rg n 6 lo 1 L kx kg kr kp m (St.mk [(0, x0), (4, x4), (5, x5), (8, x8), (9, x9), (10, x10), (11, x11), (12, x12), (13, x13), (17, x17), (18, x18), (19, x19), (20, t26)] H27) else none) ((aBin prog .add 3 false true x20 (A.v (.int .i64 1))).bind fun t17 =>
 (trim L H15).bind fun H18 => bif bif Nat.beq (List.length H15) L then true else keepsUnder L [(20, t17), (103, t17), (102, x20), (118, t16), (117, x12), (116, x20), (115, t14), (114, t13), (113, t12), (112, t11), (111, x20), (110, x11), (109, t10), (108, t9), (107, t8), (106, t7), (105, x20), (104, x11), (101, u3), (100, u4), (99, u5), (98, u6), (97, t1), (96, t1), (95, t0), (94, x11), (93, x20), (0, x0), (4, x4), (5, x5), (8, x8), (9, x9), (10, x10), (11, x11), (12, x12), (13, x13), (17, x17), (18, x18), (19, x19), (20, x20)] [0, 4, 5, 8, 9, 10, 11, 12, 13, 17, 18, 19, 20] then loopR (cx C) call rg n 6 lo 1 L kx kg kr kp m (St.mk [(0, x0), (4, x4), (5, x5), (8, x8), (9, x9), (10, x10), (11, x11), (12, x12), (13, x13), (17, x17), (18, x18), (19, x19), (20, t17)] H18) else none)) (kx 2 (St.mk [(0, x0), (4, x4), (5, x5), (8, x8), (9, x9), (10, x10), (11, x11), (12, x12), (13, x13), (17, x17), (18, x18), (19, x19), (20, x20)] H)) := by kernel_rfl
theorem e28_0 (n lo L : Nat) (kx kg : Nat -> St -> Option R) (kr : St -> Option R) (kp : A -> St -> Option R) (m : Nat) (x3 x4 x5 x6 x7 : A) (H : Heap) : loopR (cx C) call rg n 28 lo 0 L kx kg kr kp (m + 1) (St.mk [(3, x3), (4, x4), (5, x5), (6, x6), (7, x7)] H) =
 (aBin prog .lss 3 false true x7 (A.v (.int .i64 4))).bind fun t0 => bIfN t0 ((aLoad prog 25 x3 H).bind fun t1 =>
 (C 21 [snap H t1, snap H x7]).bind fun t2 =>
 (aExtract t2 0).bind fun t3 =>
 (aExtract t2 1).bind fun t4 =>
 (aBin prog .neq 28 false true t4 (A.v (.int .i64 0))).bind fun t5 =>
 (bIf t5 (some [A.v (.bool true), ud, ud, ud]) ((aLen prog 35 t3 H).bind fun t6 =>
 (aBin prog .neq 3 false true t6 (A.v (.int .i64 128))).bind fun t7 => some [t7, t7, t6, t3])).bind fun l6 => unc l6 fun u7 l7 => unc l7 fun u8 l8 => unc l8 fun u9 l9 => unc l9 fun u10 l10 =>
 (bIf u7 (some [A.v (.bool true), ud, ud, ud, ud, ud, ud, ud]) ((aIndexAddr prog 35 t3 (A.v (.int .i64 0)) H).bind fun t11 =>
 (aLoad prog 5 t11 H).bind fun t12 =>
 (aIndexAddr prog 44 x4 x7 H).bind fun t13 =>
 (aLoad prog 5 t13 H).bind fun t14 =>
 (aBin prog .neq 5 false false t12 t14).bind fun t15 => some [t15, t15, t14, t13, x7, t12, t11, t3])).bind fun l11 => unc l11 fun u12 l12 => unc l12 fun u13 l13 => unc l13 fun u14 l14 => unc l14 fun u15 l15 => unc l15 fun u16 l16 => unc l16 fun u17 l17 => unc l17 fun u18 l18 => unc l18 fun u19 l19 =>
 (gIf u12 false ((aIndexAddr prog 35 t3 (A.v (.int .i64 64)) H).bind fun t20 =>
 (aLoad prog 5 t20 H).bind fun t21 =>
 (aIndexAddr prog 44 x5 x7 H).bind fun t22 =>
 (aLoad prog 5 t22 H).bind fun t23 => some [t23, t22, x7, t21, t20, t3]) (some [ud, ud, ud, ud, ud, ud])).bind fun l20 => unc l20 fun u21 l21 => unc l21 fun u22 l22 => unc l22 fun u23 l23 => unc l23 fun u24 l24 => unc l24 fun u25 l25 => unc l25 fun u26 l26 =>
 (bIf u12 (some [A.v (.bool true), ud]) ((aBin prog .neq 5 false false u24 u21).bind fun t27 => some [t27, t27])).bind fun l27 => unc l27 fun u28 l28 => unc l28 fun u29 l29 =>
 (bIf u28 (some [A.v (.bool true), ud, ud, ud, ud]) ((aIndexAddr prog 35 t3 (A.v (.int .i64 1)) H).bind fun t30 =>
 (aLoad prog 5 t30 H).bind fun t31 =>
 (aBin prog .neq 5 false true t31 (A.v (.int .u8 0))).bind fun t32 => some [t32, t32, t31, t30, t3])).bind fun l30 => unc l30 fun u31 l31 => unc l31 fun u32 l32 => unc l32 fun u33 l33 => unc l33 fun u34 l34 => unc l34 fun u35 l35 =>
 (bIf u31 (some [A.v (.bool true), ud, ud, ud, ud]) ((aIndexAddr prog 35 t3 (A.v (.int .i64 127)) H).bind fun t36 =>
 (aLoad prog 5 t36 H).bind fun t37 =>
 (aBin prog .neq 5 false true t37 (A.v (.int .u8 0))).bind fun t38 => some [t38, t38, t37, t36, t3])).bind fun l36 => unc l36 fun u37 l37 => unc l37 fun u38 l38 => unc l38 fun u39 l39 => unc l39 fun u40 l40 => unc l40 fun u41 l41 => bIfN u37 (kr (St.mk [(3, x3), (4, x4), (5, x5), (6, A.v (.bool false)), (7, x7)] H)) ((aBin prog .add 3 false true x7 (A.v (.int .i64 1))).bind fun t42 =>
 (trim L H).bind fun H43 => bif bif Nat.beq (List.length H) L then true else keepsUnder L [(7, t42), (13, t42), (12, x7), (56, u37), (55, u38), (54, u39), (53, u40), (52, u41), (51, u31), (50, u31), (49, u32), (48, u33), (47, u34), (46, u35), (45, u28), (44, u28), (43, u29), (42, u21), (41, u22), (40, u23), (39, u24), (38, u25), (37, u26), (36, u12), (35, u12), (34, u13), (33, u14), (32, u15), (31, u16), (30, u17), (29, u18), (28, u19), (27, u7), (26, u7), (25, u8), (24, u9), (23, u10), (22, t5), (21, t5), (20, t4), (9, t4), (8, t3), (19, t4), (18, t3), (14, t2), (17, t2), (16, x7), (15, t1), (11, t0), (10, x7), (3, x3), (4, x4), (5, x5), (6, x6), (7, x7)] [3, 4, 5, 6, 7] then loopR (cx C) call rg n 28 lo 0 L kx kg kr kp m (St.mk [(3, x3), (4, x4), (5, x5), (6, x6), (7, t42)] H43) else none)) (kx 0 (St.mk [(3, x3), (4, x4), (5, x5), (6, x6), (7, x7)] H)) := by kernel_rfl
theorem e29_0 (n lo L : Nat) (kx kg : Nat -> St -> Option R) (kr : St -> Option R) (kp : A -> St -> Option R) (m : Nat) (x4 x7 x8 : A) (H : Heap) : loopR (cx C) call rg n 29 lo 0 L kx kg kr kp (m + 1) (St.mk [(4, x4), (7, x7), (8, x8)] H) =
 (aLen prog 22 x7 H).bind fun t0 =>
 (aBin prog .lss 3 false false x8 t0).bind fun t1 => bIfN t1 ((aSlice prog 22 x7 (some x8) none none H).bind fun t2 =>
 (aSlice prog 22 x7 none (some x8) none H).bind fun t3 =>
 (aCopy prog 22 t2 t3 H lo).bind fun r4 =>
 (aBin prog .add 3 false false x8 r4.1).bind fun t5 =>
 (trim L r4.2).bind fun H6 => bif bif Nat.beq (List.length r4.2) L then true else keepsUnder L [(8, t5), (46, t5), (45, r4.1), (44, t3), (43, x8), (42, x7), (41, t2), (40, x8), (39, x7), (38, x8), (37, t1), (36, t0), (35, x7), (34, x8), (4, x4), (7, x7), (8, x8)] [4, 7, 8] then loopR (cx C) call rg n 29 lo 0 L kx kg kr kp m (St.mk [(4, x4), (7, x7), (8, t5)] H6) else none) (kx 0 (St.mk [(4, x4), (7, x7), (8, x8)] H)) := by kernel_rfl
theorem e40_0 (n lo L : Nat) (kx kg : Nat -> St -> Option R) (kr : St -> Option R) (kp : A -> St -> Option R) (m : Nat) (x4 x5 x10 x11 x12 : A) (H : Heap) : loopR (cx C) call rg n 40 lo 0 L kx kg kr kp (m + 1) (St.mk [(4, x4), (5, x5), (10, x10), (11, x11), (12, x12)] H) =
 (aBin prog .lss 3 false false x12 x11).bind fun t0 => bIfN t0 ((aIndexAddr prog 23 x10 x12 H).bind fun t1 =>
 (aLoad prog 54 t1 H).bind fun t2 =>
 (aAlloc prog 54 H).bind fun r3 =>
 (aStore prog 54 r3.1 (stV r3.1 r3.2 t2) r3.2 lo).bind fun H4 =>
 (aFieldAddr prog 54 r3.1 0 H4).bind fun t5 =>
 (aLoad prog 3 t5 H4).bind fun t6 =>
 (aFieldAddr prog 54 r3.1 1 H4).bind fun t7 =>
 (aLoad prog 35 t7 H4).bind fun t8 =>
 (aIndexAddr prog 22 x5 t6 H4).bind fun t9 =>
 (aStore prog 35 t9 (stV t9 H4 t8) H4 lo).bind fun H10 =>
 (aBin prog .add 3 false true x12 (A.v (.int .i64 1))).bind fun t11 =>
 (trim L H10).bind fun H12 => bif bif Nat.beq (List.length H10) L then true else keepsUnder L [(12, t11), (22, t11), (21, t9), (20, t8), (19, t7), (18, t6), (17, t5), (16, x5), (7, r3.1), (15, t2), (14, t1), (13, t0), (4, x4), (5, x5), (10, x10), (11, x11), (12, x12)] [4, 5, 10, 11, 12] then loopR (cx C) call rg n 40 lo 0 L kx kg kr kp m (St.mk [(4, x4), (5, x5), (10, x10), (11, x11), (12, t11)] H12) else none) (kx 0 (St.mk [(4, x4), (5, x5), (10, x10), (11, x11), (12, x12)] H)) := by kernel_rfl
theorem e43_0 (n lo L : Nat) (kx kg : Nat -> St -> Option R) (kr : St -> Option R) (kp : A -> St -> Option R) (m : Nat) (x0 x1 x4 x7 x8 : A) (H : Heap) : loopR (cx C) call rg n 43 lo 0 L kx kg kr kp (m + 1) (St.mk [(0, x0), (1, x1), (4, x4), (7, x7), (8, x8)] H) =
 (aBin prog .lss 3 false false x8 x7).bind fun t0 => bIfN t0 ((aIndexAddr prog 23 x0 x8 H).bind fun t1 =>
 (aLoad prog 54 t1 H).bind fun t2 => dynCall (cx C) call x1 [t2] H lo (fun i3 h3 => bIfN i3 (kr (St.mk [(0, x0), (1, x1), (4, x8), (7, x7), (8, x8)] h3)) ((aBin prog .add 3 false true x8 (A.v (.int .i64 1))).bind fun t4 =>
 (trim L h3).bind fun H5 => bif bif Nat.beq (List.length h3) L then true else keepsUnder L [(8, t4), (18, t4), (16, i3), (15, t2), (14, t1), (13, x8), (12, x0), (11, x1), (5, x8), (10, x8), (9, t0), (0, x0), (1, x1), (4, x4), (7, x7), (8, x8)] [0, 1, 4, 7, 8] then loopR (cx C) call rg n 43 lo 0 L kx kg kr kp m (St.mk [(0, x0), (1, x1), (4, x4), (7, x7), (8, t4)] H5) else none)) fun i3 h3 => kp i3 (St.mk [(0, x0), (1, x1), (4, x4), (7, x7), (8, x8)] h3)) (kx 0 (St.mk [(0, x0), (1, x1), (4, x4), (7, x7), (8, x8)] H)) := by kernel_rfl
theorem e44_0 (n lo L : Nat) (kx kg : Nat -> St -> Option R) (kr : St -> Option R) (kp : A -> St -> Option R) (m : Nat) (x0 x1 x4 x7 x8 : A) (H : Heap) : loopR (cx C) call rg n 44 lo 0 L kx kg kr kp (m + 1) (St.mk [(0, x0), (1, x1), (4, x4), (7, x7), (8, x8)] H) =
 (aBin prog .lss 3 false false x8 x7).bind fun t0 => bIfN t0 ((aIndexAddr prog 22 x0 x8 H).bind fun t1 =>
 (aLoad prog 35 t1 H).bind fun t2 => dynCall (cx C) call x1 [t2] H lo (fun i3 h3 => bIfN i3 (kr (St.mk [(0, x0), (1, x1), (4, x8), (7, x7), (8, x8)] h3)) ((aBin prog .add 3 false true x8 (A.v (.int .i64 1))).bind fun t4 =>
 (trim L h3).bind fun H5 => bif bif Nat.beq (List.length h3) L then true else keepsUnder L [(8, t4), (18, t4), (16, i3), (15, t2), (14, t1), (13, x8), (12, x0), (11, x1), (5, x8), (10, x8), (9, t0), (0, x0), (1, x1), (4, x4), (7, x7), (8, x8)] [0, 1, 4, 7, 8] then loopR (cx C) call rg n 44 lo 0 L kx kg kr kp m (St.mk [(0, x0), (1, x1), (4, x4), (7, x7), (8, t4)] H5) else none)) fun i3 h3 => kp i3 (St.mk [(0, x0), (1, x1), (4, x4), (7, x7), (8, x8)] h3)) (kx 0 (St.mk [(0, x0), (1, x1), (4, x4), (7, x7), (8, x8)] H)) := by kernel_rfl
theorem e45_0 (n lo L : Nat) (kx kg : Nat -> St -> Option R) (kr : St -> Option R) (kp : A -> St -> Option R) (m : Nat) (x0 x1 x3 : A) (H : Heap) : loopR (cx C) call rg n 45 lo 0 L kx kg kr kp (m + 1) (St.mk [(0, x0), (1, x1), (3, x3)] H) =
 (aBin prog .geq 3 false true x3 (A.v (.int .i64 0))).bind fun t0 => bIfN t0 ((aLoad prog 23 x1 H).bind fun t1 =>
 (aIndexAddr prog 23 t1 x3 H).bind fun t2 =>
 (aLoad prog 54 t2 H).bind fun t3 => dynCall (cx C) call x0 [x3, t3] H lo (fun i4 h4 =>
 (aUn prog UnOp.not i4).bind fun t5 => bIfN t5 (kr (St.mk [(0, x0), (1, x1), (3, x3)] h4)) ((aBin prog .sub 3 false true x3 (A.v (.int .i64 1))).bind fun t6 =>
 (trim L h4).bind fun H7 => bif bif Nat.beq (List.length h4) L then true else keepsUnder L [(3, t6), (10, t6), (9, x3), (18, t5), (17, i4), (16, t3), (15, t2), (14, x3), (13, t1), (12, x3), (11, x0), (8, t0), (7, x3), (0, x0), (1, x1), (3, x3)] [0, 1, 3] then loopR (cx C) call rg n 45 lo 0 L kx kg kr kp m (St.mk [(0, x0), (1, x1), (3, t6)] H7) else none)) fun i4 h4 => kp i4 (St.mk [(0, x0), (1, x1), (3, x3)] h4)) (kx 0 (St.mk [(0, x0), (1, x1), (3, x3)] H)) := by kernel_rfl
theorem e21_r0 (n lo b lo' : Nat) (x3 x4 x5 y0 y1 : A) (H : Heap) : roundR (cx C) call rg n 21 lo 0 b [(3, x3), (4, x4), (5, x5)] [y0, y1] H lo' = bif Nat.ble lo' lo then rdy H b ((aAlloc prog 54 H).bind fun r0 =>
 (aStore prog 54 r0.1 (stV r0.1 r0.2 y1) r0.2 lo).bind fun H1 => rdy H1 b ((aFieldAddr prog 54 r0.1 0 (List.set H1 b (Blk.rng RSt.busy))).bind fun t2 =>
 (aLoad prog 3 t2 (List.set H1 b (Blk.rng RSt.busy))).bind fun t3 =>
 (aLoad prog 3 x3 (List.set H1 b (Blk.rng RSt.busy))).bind fun t4 =>
 (aBin prog .eql 3 false false t3 t4).bind fun t5 => bIfN t5 ((aFieldAddr prog 54 r0.1 1 (List.set H1 b (Blk.rng RSt.busy))).bind fun t6 =>
 (aLoad prog 35 t6 (List.set H1 b (Blk.rng RSt.busy))).bind fun t7 =>
 (aStore prog 35 x4 (stV x4 (List.set H1 b (Blk.rng RSt.busy)) t7) (List.set H1 b (Blk.rng RSt.busy)) lo).bind fun H8 =>
 (aStore prog 28 x5 (stV x5 H8 (A.v (.int .i64 0))) H8 lo).bind fun H9 => bsy H9 b (some (Out.ret (A.v (.bool false)), List.set H9 b (Blk.rng (RSt.done Jmp.ret))))) (bsy (List.set H1 b (Blk.rng RSt.busy)) b (some (Out.ret (A.v (.bool true)), List.set (List.set H1 b (Blk.rng RSt.busy)) b (Blk.rng RSt.ready)))))) else none := by kernel_rfl
end Go.Proofs.Ythoomfjliekbdaa
