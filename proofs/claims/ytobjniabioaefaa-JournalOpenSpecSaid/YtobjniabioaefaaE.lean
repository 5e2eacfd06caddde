/-
  What the interpreter does with the program's functions: equations, by a tool; the kernel checks each.
-/
import Derived.Test.YtobjniabioaefaaEvTyped
import Derived.Test.YtobjniabioaefaaRows
import Derived.KernelRfl
namespace Go.Proofs.Ytobjniabioaefaa
set_option linter.unusedVariables false
set_option linter.unusedSimpArgs false
set_option maxHeartbeats 4000000
set_option maxRecDepth 100000
def keepTab : List ((Nat × Nat) × List Nat) := [((7, 33), [8, 11, 13, 21, 22, 24, 25, 26, 27]), ((7, 11), [1, 2, 3, 8, 9, 11, 13, 60, 61, 62]), ((9, 18), [4, 5, 7, 9, 10, 38, 39, 40, 72, 73, 74]), ((9, 10), [4, 5, 7, 38, 39, 40]), ((11, 3), [2, 4, 5, 8, 9, 10]), ((12, 1000011), [2]), ((21, 28), [2, 3, 4, 5, 6, 10, 13, 15, 16, 17, 108, 109, 110]), ((21, 24), [2, 3, 4, 5, 6, 10, 13, 108, 109, 110]), ((21, 14), [2, 3, 4, 5, 6, 9, 10, 57, 58, 59]), ((22, 23), [2, 3, 4, 5, 6, 9, 10, 11, 12, 13, 14]), ((22, 18), [2, 3, 4, 5, 6, 9, 10, 11]), ((23, 9), [2, 3, 4, 6]), ((23, 4), [2, 3, 4, 5]), ((24, 4), [0, 1, 4, 5]), ((28, 2), [2, 4, 9, 10, 11]), ((33, 10), [1, 2, 3, 5]), ((33, 5), [1, 2, 3, 4]), ((34, 4), [0, 2, 3, 4, 5]), ((36, 2), [2, 5, 6, 7]), ((40, 3), [0, 2, 3, 4]), ((41, 2), [2, 5, 6, 7]), ((42, 4), [1, 2, 6, 15, 16, 17]), ((45, 3), [0, 2, 3, 4]), ((46, 8), [1, 3, 6, 7, 8]), ((48, 9), [1, 2, 3, 4, 5, 6, 7]), ((49, 8), [4, 7, 8]), ((54, 3), [4, 5, 10, 11, 12]), ((60, 3), [0, 1, 3, 4, 5, 6]), ((60, 1), [0, 1, 3, 4]), ((62, 3), [0, 1, 4, 5, 6, 7]), ((63, 3), [0, 2, 3, 4]), ((64, 1), [0, 1, 6, 7]), ((65, 7), [2, 3, 6, 7, 8, 16]), ((65, 3), [2, 3, 6, 7, 8]), ((66, 3), [0, 4, 5, 6]), ((67, 7), [0, 2, 3, 4, 5]), ((67, 3), [0, 2, 3, 4]), ((70, 2), [0, 1, 4, 7, 8]), ((71, 2), [0, 1, 4, 7, 8]), ((72, 5), [0, 4, 6])]
def keepF (f r : Nat) : List Nat := keepOf f r keepTab
def actTab : List ((Nat × Nat) × List (Nat × Nat × Nat)) := [((25, 2000004), [(4, 0, 0)]), ((26, 2000009), [(8, 0, 0)]), ((27, 2000010), [(7, 0, 0)]), ((53, 3000000), [(2, 0, 3)]), ((38, 3000000), [(2, 0, 500002)]), ((69, 3000000), [(2, 0, 500002)]), ((60, 3), [(5, 0, 2)]), ((12, 1000011), [(2, 1, 2)]), ((62, 3), [(6, 0, 2)]), ((34, 4), [(3, 0, 2)]), ((7, 11), [(13, 0, 2)]), ((7, 33), [(13, 0, 0)]), ((9, 10), [(7, 0, 0)]), ((7, 2000029), [(23, 0, 0)])]
def actF (f r : Nat) : List (Nat × Nat × Nat) := actOf f r actTab
def arrTab : List (Nat × Nat) := [(44, 89)]
def arrF (f t : Nat) : Bool := inTab f t arrTab
def wrTab : List (Nat × Nat) := [(38, 7), (69, 7), (48, 35), (10, 34), (7, 151), (66, 8)]
def wrF (f t : Nat) : Bool := inTab f t wrTab
def loudTab : List (Nat × Nat) := [(10, 28)]
def loudF (f t : Nat) : Bool := inTab f t loudTab
def joinTab : List ((Nat × Nat) × List Nat) := []
def joinF (f r : Nat) : List Nat := keepOf f r joinTab
noncomputable def cx (C : Nat → List A → Option A) : Cx := { P := Try.prog, glob := fun _ => none, isOrc := fun k => notIn k [52, 54, 38, 69, 57, 70, 55, 37, 32, 60, 64, 42, 65], isOrcV := fun k => notIn k [52, 38, 69, 57, 70, 55, 37, 32, 60, 64, 42, 65], C := C, keep := keepF, wrAt := wrF, acts := actF, loud := loudF, arr := arrF, join := joinF }
noncomputable def cxz (C : Nat → List A → Option A) : Cx := { cx C with isOrc := fun k => notIn k [52, 54, 69, 57, 70, 55, 37, 32, 60, 64, 42, 65], isOrcV := fun k => notIn k [52, 69, 57, 70, 55, 37, 32, 60, 64, 42, 65] }
theorem qsz (C : Nat → List A → Option A) : Array.size (Program.funcs (Cx.P (cx C))) = 91 := by kernel_rfl
theorem yq {C : Nat → List A → Option A} {m b : Nat} {base : CallT} {args : List A} {H : Heap} {lo : Nat} : evCallY (cx C) m base (Array.size (Program.funcs (Cx.P (cx C))) + b) args H lo = base (91 + b) args H lo := evCallY_y.trans (congrArg (fun q => base (q + b) args H lo) (qsz C))
theorem lt_32 : Nat.ble Try.prog.funcs.size 32 = false := by kernel_rfl
theorem lt_37 : Nat.ble Try.prog.funcs.size 37 = false := by kernel_rfl
theorem lt_38 : Nat.ble Try.prog.funcs.size 38 = false := by kernel_rfl
theorem lt_42 : Nat.ble Try.prog.funcs.size 42 = false := by kernel_rfl
theorem lt_52 : Nat.ble Try.prog.funcs.size 52 = false := by kernel_rfl
theorem lt_54 : Nat.ble Try.prog.funcs.size 54 = false := by kernel_rfl
theorem lt_55 : Nat.ble Try.prog.funcs.size 55 = false := by kernel_rfl
theorem lt_57 : Nat.ble Try.prog.funcs.size 57 = false := by kernel_rfl
theorem lt_60 : Nat.ble Try.prog.funcs.size 60 = false := by kernel_rfl
theorem lt_64 : Nat.ble Try.prog.funcs.size 64 = false := by kernel_rfl
theorem lt_65 : Nat.ble Try.prog.funcs.size 65 = false := by kernel_rfl
theorem lt_69 : Nat.ble Try.prog.funcs.size 69 = false := by kernel_rfl
theorem lt_70 : Nat.ble Try.prog.funcs.size 70 = false := by kernel_rfl
theorem e3 (C : Nat → List A → Option A) (call : CallT) (rg : CallT → CallT) (n lo : Nat) (x0 : A) (H : Heap) : evCall1 (cx C) call rg n 3 [x0] H lo =
 Option.bind (aBox x0 H) fun r0 =>
 Option.bind (C 10 []) fun t1 =>
 Option.bind (aUn Try.prog UnOp.not t1) fun t2 => bIfN t2 (some (Out.ret (A.v (Value.bool false)), r0.2)) (Option.bind (aLoad Try.prog 25 r0.1 r0.2) fun t3 =>
 Option.bind (C 11 [snap r0.2 t3, snap r0.2 (A.imm [] true)]) fun t4 =>
 Option.bind (aUn Try.prog UnOp.not t4) fun t5 => bIfN t5 (some (Out.ret (A.v (Value.bool true)), r0.2)) (Option.bind (aLoad Try.prog 25 r0.1 r0.2) fun t6 =>
 Option.bind (C 12 [snap r0.2 t6]) fun t7 =>
 Option.bind (aExtract t7 0) fun t8 =>
 Option.bind (aExtract t7 1) fun t9 =>
 Option.bind (aAlloc Try.prog 29 r0.2) fun r10 =>
 Option.bind (aStore Try.prog 29 r10.1 (stV r10.1 r10.2 t8) r10.2 lo) fun H11 =>
 Option.bind (aLoad Try.prog 25 r0.1 H11) fun t12 =>
 Option.bind (C 13 [snap H11 t12]) fun t13 =>
 Option.bind (aExtract t13 0) fun t14 =>
 Option.bind (aExtract t13 1) fun t15 =>
 Option.bind (aAlloc Try.prog 29 H11) fun r16 =>
 Option.bind (aStore Try.prog 29 r16.1 (stV r16.1 r16.2 t14) r16.2 lo) fun H17 =>
 Option.bind (aLoad Try.prog 29 r10.1 H17) fun t18 =>
 Option.bind (aLoad Try.prog 29 r16.1 H17) fun t19 =>
 Option.bind (C 14 [snap H17 t18, snap H17 t19]) fun t20 =>
 Option.bind (bIf t20 (Option.bind (aBin Try.prog BinOp.eql 30 false false t9 t15) fun t21 => some [t21, t21, t15, t9]) (some [A.v (Value.bool false), A.v undef, A.v undef, A.v undef])) fun l21 => unc l21 fun u22 l22 => unc l22 fun u23 l23 => unc l23 fun u24 l24 => unc l24 fun u25 l25 => some (Out.ret u22, H17))) := by kernel_rfl
theorem e10 (C : Nat → List A → Option A) (call : CallT) (rg : CallT → CallT) (n lo : Nat) (H : Heap) : evCall1 (cx C) call rg n 10 [] H lo =
 Option.bind (C 25 [snap H (A.v (Value.int IntKind.i64 1))]) fun t0 =>
 Option.bind (aExtract t0 0) fun t1 =>
 Option.bind (aExtract t0 1) fun t2 =>
 Option.bind (aAlloc Try.prog 25 H) fun r3 =>
 Option.bind (aStore Try.prog 25 r3.1 (stV r3.1 r3.2 t1) r3.2 lo) fun H4 =>
 Option.bind (aLoad Try.prog 25 r3.1 H4) fun t5 =>
 Option.bind (C 12 [snap H4 t5]) fun t6 =>
 Option.bind (aExtract t6 0) fun t7 =>
 Option.bind (aExtract t6 1) fun t8 =>
 Option.bind (aAlloc Try.prog 29 H4) fun r9 =>
 Option.bind (aStore Try.prog 29 r9.1 (stV r9.1 r9.2 t7) r9.2 lo) fun H10 =>
 Option.bind (aAlloc Try.prog 29 H10) fun r11 =>
 Option.bind (aLoad Try.prog 29 r9.1 r11.2) fun t12 => bif bif apart r9.1 A.any then true else false then
 Option.bind (aMakeImm Try.prog 35 (A.v (Value.int IntKind.i64 113)) (A.v (Value.int IntKind.i64 113)) r11.2) fun r13 =>
 Option.bind (C 15 [snap r13.2 t12, snap r13.2 r13.1]) fun t14 =>
 Option.bind (aExtract t14 0) fun t15 =>
 Option.bind (aExtract t14 1) fun t16 =>
 Option.bind (aStore Try.prog 29 r11.1 (stV r11.1 r13.2 t15) r13.2 lo) fun H17 =>
 Option.bind (aLoad Try.prog 29 r9.1 H17) fun t18 =>
 Option.bind (aBuildRow Try.prog 35 2 [(0, frzA H17 (A.v (Value.int IntKind.u8 97))), (1, frzA H17 (A.v (Value.int IntKind.u8 98)))] H17) fun r19 =>
 Option.bind (aMark Try.prog 35 35 r19.1 r19.2 lo) fun r20 =>
 Option.bind (C 15 [snap r20.2 t18, snap r20.2 r20.1]) fun t21 =>
 Option.bind (aExtract t21 0) fun t22 =>
 Option.bind (aExtract t21 1) fun t23 =>
 Option.bind (aAlloc Try.prog 29 r20.2) fun r24 =>
 Option.bind (aStore Try.prog 29 r24.1 (stV r24.1 r24.2 t22) r24.2 lo) fun H25 =>
 Option.bind (aLoad Try.prog 29 r24.1 H25) fun t26 =>
 Option.bind (aLoad Try.prog 25 r3.1 H25) fun t27 =>
 Option.bind (C 21 [snap H25 t26, snap H25 t27]) fun t28 =>
 Option.bind (aExtract t28 0) fun t29 =>
 Option.bind (aExtract t28 1) fun t30 =>
 Option.bind (aExtract t28 2) fun t31 =>
 Option.bind (aAlloc Try.prog 29 H25) fun r32 =>
 Option.bind (aAlloc Try.prog 25 r32.2) fun r33 =>
 Option.bind (aStore Try.prog 29 r32.1 (stV r32.1 r33.2 t29) r33.2 lo) fun H34 =>
 Option.bind (aStore Try.prog 25 r33.1 (stV r33.1 H34 t30) H34 lo) fun H35 =>
 Option.bind (aLoad Try.prog 25 r33.1 H35) fun t36 =>
 Option.bind (C 12 [snap H35 t36]) fun t37 =>
 Option.bind (aExtract t37 0) fun t38 =>
 Option.bind (aExtract t37 1) fun t39 =>
 Option.bind (aAlloc Try.prog 29 H35) fun r40 =>
 Option.bind (aStore Try.prog 29 r40.1 (stV r40.1 r40.2 t38) r40.2 lo) fun H41 =>
 Option.bind (aLoad Try.prog 29 r24.1 H41) fun t42 =>
 Option.bind (aLoad Try.prog 25 r33.1 H41) fun t43 =>
 Option.bind (C 21 [snap H41 t42, snap H41 t43]) fun t44 =>
 Option.bind (aExtract t44 0) fun t45 =>
 Option.bind (aExtract t44 1) fun t46 =>
 Option.bind (aExtract t44 2) fun t47 =>
 Option.bind (aAlloc Try.prog 29 H41) fun r48 =>
 Option.bind (aAlloc Try.prog 25 r48.2) fun r49 =>
 Option.bind (aStore Try.prog 29 r48.1 (stV r48.1 r49.2 t45) r49.2 lo) fun H50 =>
 Option.bind (aStore Try.prog 25 r49.1 (stV r49.1 H50 t46) H50 lo) fun H51 =>
 Option.bind (aBin Try.prog BinOp.eql 30 false true t2 (A.v (Value.int IntKind.i64 0))) fun t52 =>
 Option.bind (bIf t52 (Option.bind (aBin Try.prog BinOp.eql 30 false true t8 (A.v (Value.int IntKind.i64 0))) fun t53 => some [t53, t53, t8]) (some [A.v (Value.bool false), A.v undef, A.v undef])) fun l53 => unc l53 fun u54 l54 => unc l54 fun u55 l55 => unc l55 fun u56 l56 =>
 Option.bind (bIf u54 (Option.bind (aFieldAddr Try.prog 29 r9.1 0 H51) fun t57 =>
 Option.bind (aLoad Try.prog 22 t57 H51) fun t58 =>
 Option.bind (aLen Try.prog 22 t58 H51) fun t59 =>
 Option.bind (aBin Try.prog BinOp.eql 3 false true t59 (A.v (Value.int IntKind.i64 0))) fun t60 => some [t60, t60, t59, t58, t57]) (some [A.v (Value.bool false), A.v undef, A.v undef, A.v undef, A.v undef])) fun l57 => unc l57 fun u58 l58 => unc l58 fun u59 l59 => unc l59 fun u60 l60 => unc l60 fun u61 l61 => unc l61 fun u62 l62 =>
 Option.bind (bIf u58 (Option.bind (aLoad Try.prog 29 r9.1 H51) fun t63 =>
 Option.bind (C 19 [snap H51 t63]) fun t64 =>
 Option.bind (aBin Try.prog BinOp.eql 3 false true t64 (A.v (Value.int IntKind.i64 112))) fun t65 => some [t65, t65, t64, t63]) (some [A.v (Value.bool false), A.v undef, A.v undef, A.v undef])) fun l63 => unc l63 fun u64 l64 => unc l64 fun u65 l65 => unc l65 fun u66 l66 => unc l66 fun u67 l67 =>
 Option.bind (bIf u64 (Option.bind (aBin Try.prog BinOp.eql 30 false true t16 (A.v (Value.int IntKind.i64 2))) fun t68 => some [t68, t68, t16]) (some [A.v (Value.bool false), A.v undef, A.v undef])) fun l68 => unc l68 fun u69 l69 => unc l69 fun u70 l70 => unc l70 fun u71 l71 =>
 Option.bind (bIf u69 (Option.bind (aBin Try.prog BinOp.eql 30 false true t23 (A.v (Value.int IntKind.i64 0))) fun t72 => some [t72, t72, t23]) (some [A.v (Value.bool false), A.v undef, A.v undef])) fun l72 => unc l72 fun u73 l73 => unc l73 fun u74 l74 => unc l74 fun u75 l75 =>
 Option.bind (bIf u73 (Option.bind (aBin Try.prog BinOp.eql 30 false true t31 (A.v (Value.int IntKind.i64 0))) fun t76 => some [t76, t76, t31]) (some [A.v (Value.bool false), A.v undef, A.v undef])) fun l76 => unc l76 fun u77 l77 => unc l77 fun u78 l78 => unc l78 fun u79 l79 =>
 Option.bind (bIf u77 (Option.bind (aFieldAddr Try.prog 29 r32.1 2 H51) fun t80 =>
 Option.bind (aLoad Try.prog 3 t80 H51) fun t81 =>
 Option.bind (aBin Try.prog BinOp.eql 3 false true t81 (A.v (Value.int IntKind.i64 1))) fun t82 => some [t82, t82, t81, t80]) (some [A.v (Value.bool false), A.v undef, A.v undef, A.v undef])) fun l80 => unc l80 fun u81 l81 => unc l81 fun u82 l82 => unc l82 fun u83 l83 => unc l83 fun u84 l84 =>
 Option.bind (bIf u81 (Option.bind (aBin Try.prog BinOp.eql 30 false true t39 (A.v (Value.int IntKind.i64 0))) fun t85 => some [t85, t85, t39]) (some [A.v (Value.bool false), A.v undef, A.v undef])) fun l85 => unc l85 fun u86 l86 => unc l86 fun u87 l87 => unc l87 fun u88 l88 =>
 Option.bind (bIf u86 (Option.bind (aFieldAddr Try.prog 29 r40.1 0 H51) fun t89 =>
 Option.bind (aLoad Try.prog 22 t89 H51) fun t90 =>
 Option.bind (aLen Try.prog 22 t90 H51) fun t91 =>
 Option.bind (aBin Try.prog BinOp.eql 3 false true t91 (A.v (Value.int IntKind.i64 1))) fun t92 => some [t92, t92, t91, t90, t89]) (some [A.v (Value.bool false), A.v undef, A.v undef, A.v undef, A.v undef])) fun l89 => unc l89 fun u90 l90 => unc l90 fun u91 l91 => unc l91 fun u92 l92 => unc l92 fun u93 l93 => unc l93 fun u94 l94 =>
 Option.bind (bIf u90 (Option.bind (aFieldAddr Try.prog 29 r40.1 0 H51) fun t95 =>
 Option.bind (aLoad Try.prog 22 t95 H51) fun t96 =>
 Option.bind (aIndexAddr Try.prog 22 t96 (A.v (Value.int IntKind.i64 0)) H51) fun t97 =>
 Option.bind (aLoad Try.prog 35 t97 H51) fun t98 =>
 Option.bind (aConvert Try.prog 35 9 t98 H51) fun t99 =>
 Option.bind (aBin Try.prog BinOp.eql 9 false true t99 (A.v (Value.string (ByteArray.mk #[97, 98])))) fun t100 => some [t100, t100, t99, t98, t97, t96, t95]) (some [A.v (Value.bool false), A.v undef, A.v undef, A.v undef, A.v undef, A.v undef, A.v undef])) fun l95 => unc l95 fun u96 l96 => unc l96 fun u97 l97 => unc l97 fun u98 l98 => unc l98 fun u99 l99 => unc l99 fun u100 l100 => unc l100 fun u101 l101 => unc l101 fun u102 l102 =>
 Option.bind (bIf u96 (Option.bind (aBin Try.prog BinOp.eql 30 false true t47 (A.v (Value.int IntKind.i64 50))) fun t103 => some [t103, t103, t47]) (some [A.v (Value.bool false), A.v undef, A.v undef])) fun l103 => unc l103 fun u104 l104 => unc l104 fun u105 l105 => unc l105 fun u106 l106 =>
 Option.bind (bIf u104 (Option.bind (aBuild Try.prog 29 []) fun t107 =>
 Option.bind (C 17 [snap H51 t107]) fun t108 =>
 Option.bind (aBin Try.prog BinOp.eql 30 false true t108 (A.v (Value.int IntKind.i64 1))) fun t109 => some [t109, t109, t108, t107]) (some [A.v (Value.bool false), A.v undef, A.v undef, A.v undef])) fun l107 => unc l107 fun u108 l108 => unc l108 fun u109 l109 => unc l109 fun u110 l110 => unc l110 fun u111 l111 => some (Out.ret u108, H51) else none := by kernel_rfl
theorem e11 (C : Nat → List A → Option A) (call : CallT) (rg : CallT → CallT) (n lo : Nat) (x0 x1 : A) (H : Heap) : evCall1 (cx C) call rg n 11 [x0, x1] H lo =
 Option.bind (aBox x0 H) fun r0 =>
 Option.bind (aLen Try.prog 22 x1 r0.2) fun t1 => loopR (cx C) call rg n 11 lo 0 (List.length r0.2) (fun i2 s2 => bif Nat.beq i2 0 then
 Option.bind (aFieldAddr Try.prog 25 (look (St.fr s2) 2) 0 (St.H s2)) fun t3 =>
 Option.bind (aLoad Try.prog 22 t3 (St.H s2)) fun t4 =>
 Option.bind (aLen Try.prog 22 t4 (St.H s2)) fun t5 =>
 Option.bind (aBin Try.prog BinOp.leq 3 false true t5 (A.v (Value.int IntKind.i64 40))) fun t6 =>
 Option.bind (bIf t6 (Option.bind (aFieldAddr Try.prog 25 (look (St.fr s2) 2) 1 (St.H s2)) fun t7 =>
 Option.bind (aLoad Try.prog 23 t7 (St.H s2)) fun t8 =>
 Option.bind (aLen Try.prog 23 t8 (St.H s2)) fun t9 =>
 Option.bind (aBin Try.prog BinOp.leq 3 false true t9 (A.v (Value.int IntKind.i64 40))) fun t10 => some [t10, t10, t9, t8, t7]) (some [A.v (Value.bool false), A.v undef, A.v undef, A.v undef, A.v undef])) fun l7 => unc l7 fun u8 l8 => unc l8 fun u9 l9 => unc l9 fun u10 l10 => unc l10 fun u11 l11 => unc l11 fun u12 l12 =>
 Option.bind (bIf u8 (Option.bind (aBin Try.prog BinOp.leq 3 false true (look (St.fr s2) 5) (A.v (Value.int IntKind.i64 4000))) fun t13 => some [t13, t13, look (St.fr s2) 5]) (some [A.v (Value.bool false), A.v undef, A.v undef])) fun l13 => unc l13 fun u14 l14 => unc l14 fun u15 l15 => unc l15 fun u16 l16 => some (Out.ret u14, St.H s2) else none) (fun i2 s2 => none) (fun a2 => some (Out.ret (look (St.fr a2) 4), St.H a2)) (fun i2 s2 => some (Out.pan i2, St.H s2)) n (St.mk [(2, r0.1), (4, A.v (Value.bool false)), (5, A.v (Value.int IntKind.i64 0)), (8, x1), (9, t1), (10, A.v (Value.int IntKind.i64 0))] r0.2) := by kernel_rfl
theorem e12 (C : Nat → List A → Option A) (call : CallT) (rg : CallT → CallT) (n lo : Nat) (x0 : A) (H : Heap) : evCall1 (cx C) call rg n 12 [x0] H lo =
 Option.bind (aBox x0 H) fun r0 =>
 Option.bind (aAlloc Try.prog 29 r0.2) fun r1 =>
 Option.bind (aLoad Try.prog 25 r0.1 r1.2) fun t2 =>
 Option.bind (C 31 [snap r1.2 t2]) fun t3 =>
 Option.bind (aBin Try.prog BinOp.neq 30 false true t3 (A.v (Value.int IntKind.i64 0))) fun t4 => bIfN t4 (Option.bind (aBuild Try.prog 29 []) fun t5 =>
 Option.bind (aStore Try.prog 29 r1.1 (stV r1.1 r1.2 t5) r1.2 lo) fun H6 =>
 Option.bind (aLoad Try.prog 29 r1.1 H6) fun t7 => some (Out.ret (A.tup [t7, t3]), H6)) (Option.bind (aFieldAddr Try.prog 25 r0.1 3 r1.2) fun t5 =>
 Option.bind (aLoad Try.prog 4 t5 r1.2) fun t6 => bIfN t6 (Option.bind (aBuild Try.prog 29 []) fun t7 =>
 Option.bind (aStore Try.prog 29 r1.1 (stV r1.1 r1.2 t7) r1.2 lo) fun H8 =>
 Option.bind (aLoad Try.prog 29 r1.1 H8) fun t9 => some (Out.ret (A.tup [t9, A.v (Value.int IntKind.i64 40)]), H8)) (Option.bind (aFieldAddr Try.prog 25 r0.1 1 r1.2) fun t7 =>
 Option.bind (aLoad Try.prog 23 t7 r1.2) fun t8 =>
 Option.bind (aLen Try.prog 23 t8 r1.2) fun t9 =>
 Option.bind (aBin Try.prog BinOp.gtr 3 false true t9 (A.v (Value.int IntKind.i64 0))) fun t10 => bIfN t10 (Option.bind (aBuild Try.prog 29 []) fun t11 =>
 Option.bind (aStore Try.prog 29 r1.1 (stV r1.1 r1.2 t11) r1.2 lo) fun H12 =>
 Option.bind (aLoad Try.prog 29 r1.1 H12) fun t13 => some (Out.ret (A.tup [t13, A.v (Value.int IntKind.i64 1)]), H12)) (Option.bind (aFieldAddr Try.prog 25 r0.1 0 r1.2) fun t11 =>
 Option.bind (aLoad Try.prog 22 t11 r1.2) fun t12 =>
 Option.bind (aLen Try.prog 22 t12 r1.2) fun t13 =>
 Option.bind (aFieldAddr Try.prog 29 r1.1 1 r1.2) fun t14 =>
 Option.bind (aStore Try.prog 3 t14 (stV t14 r1.2 t13) r1.2 lo) fun H15 =>
 Option.bind (aFieldAddr Try.prog 25 r0.1 0 H15) fun t16 =>
 Option.bind (aLoad Try.prog 22 t16 H15) fun t17 =>
 Option.bind (call 32 [t17] H15 lo) fun H18 => outK H18.1 (fun a19 =>
 Option.bind (fnOf Try.prog a19) fun r20 => bif Nat.ble lo (List.length (actC lo 0 2 r1.1 H18.2)) then
 Option.bind (rg (yext 91 call (List.length (actC lo 0 2 r1.1 H18.2)) (roundR (cx C) call rg n 12 lo 0 (List.length (actC lo 0 2 r1.1 H18.2)) [(2, r1.1)])) r20.1 (A.yld (List.length (actC lo 0 2 r1.1 H18.2)) :: r20.2) (actC lo 0 2 r1.1 H18.2 ++ [Blk.rng RSt.ready]) lo) fun H21 => outK H21.1 (fun a22 => rngSel (List.length (actC lo 0 2 r1.1 H18.2)) H21.2 (fun h23 =>
 Option.bind (aFieldAddr Try.prog 29 r1.1 0 h23) fun t24 =>
 Option.bind (aLoad Try.prog 22 t24 h23) fun t25 =>
 Option.bind (aLen Try.prog 22 t25 h23) fun t26 =>
 Option.bind (aFieldAddr Try.prog 29 r1.1 2 h23) fun t27 =>
 Option.bind (aStore Try.prog 3 t27 (stV t27 h23 t26) h23 lo) fun H28 =>
 Option.bind (aLoad Try.prog 29 r1.1 H28) fun t29 =>
 Option.bind (aStore Try.prog 29 r1.1 (stV r1.1 H28 t29) H28 lo) fun H30 =>
 Option.bind (aLoad Try.prog 29 r1.1 H30) fun t31 => some (Out.ret (A.tup [t31, A.v (Value.int IntKind.i64 0)]), H30)) (fun i23 h23 => bif Nat.beq i23 0 then
 Option.bind (aFieldAddr Try.prog 29 r1.1 0 h23) fun t24 =>
 Option.bind (aLoad Try.prog 22 t24 h23) fun t25 =>
 Option.bind (aLen Try.prog 22 t25 h23) fun t26 =>
 Option.bind (aFieldAddr Try.prog 29 r1.1 2 h23) fun t27 =>
 Option.bind (aStore Try.prog 3 t27 (stV t27 h23 t26) h23 lo) fun H28 =>
 Option.bind (aLoad Try.prog 29 r1.1 H28) fun t29 =>
 Option.bind (aStore Try.prog 29 r1.1 (stV r1.1 H28 t29) H28 lo) fun H30 =>
 Option.bind (aLoad Try.prog 29 r1.1 H30) fun t31 => some (Out.ret (A.tup [t31, A.v (Value.int IntKind.i64 0)]), H30) else none) (fun i23 h23 => none) fun h23 =>
 Option.bind (aLoad Try.prog 29 r1.1 h23) fun t24 => some (Out.ret (A.tup [t24, A.v (Value.int IntKind.i64 0)]), h23)) fun a22 => none else none) fun a19 => some (Out.pan a19, H18.2)))) := by kernel_rfl
theorem e13 (C : Nat → List A → Option A) (call : CallT) (rg : CallT → CallT) (n lo : Nat) (x0 : A) (H : Heap) : evCall1 (cx C) call rg n 13 [x0] H lo =
 Option.bind (aBox x0 H) fun r0 =>
 Option.bind (aAlloc Try.prog 29 r0.2) fun r1 =>
 Option.bind (aLoad Try.prog 25 r0.1 r1.2) fun t2 =>
 Option.bind (C 33 [snap r1.2 t2]) fun t3 =>
 Option.bind (aBin Try.prog BinOp.neq 30 false true t3 (A.v (Value.int IntKind.i64 0))) fun t4 => bIfN t4 (Option.bind (aBuild Try.prog 29 []) fun t5 =>
 Option.bind (aStore Try.prog 29 r1.1 (stV r1.1 r1.2 t5) r1.2 lo) fun H6 =>
 Option.bind (aLoad Try.prog 29 r1.1 H6) fun t7 => some (Out.ret (A.tup [t7, t3]), H6)) (Option.bind (aFieldAddr Try.prog 25 r0.1 3 r1.2) fun t5 =>
 Option.bind (aLoad Try.prog 4 t5 r1.2) fun t6 => bIfN t6 (Option.bind (aBuild Try.prog 29 []) fun t7 =>
 Option.bind (aStore Try.prog 29 r1.1 (stV r1.1 r1.2 t7) r1.2 lo) fun H8 =>
 Option.bind (aLoad Try.prog 29 r1.1 H8) fun t9 => some (Out.ret (A.tup [t9, A.v (Value.int IntKind.i64 40)]), H8)) (Option.bind (aFieldAddr Try.prog 25 r0.1 1 r1.2) fun t7 =>
 Option.bind (aLoad Try.prog 23 t7 r1.2) fun t8 =>
 Option.bind (aLen Try.prog 23 t8 r1.2) fun t9 =>
 Option.bind (aBin Try.prog BinOp.gtr 3 false true t9 (A.v (Value.int IntKind.i64 0))) fun t10 => bIfN t10 (Option.bind (aBuild Try.prog 29 []) fun t11 =>
 Option.bind (aStore Try.prog 29 r1.1 (stV r1.1 r1.2 t11) r1.2 lo) fun H12 =>
 Option.bind (aLoad Try.prog 29 r1.1 H12) fun t13 => some (Out.ret (A.tup [t13, A.v (Value.int IntKind.i64 1)]), H12)) (Option.bind (aFieldAddr Try.prog 25 r0.1 0 r1.2) fun t11 =>
 Option.bind (aLoad Try.prog 22 t11 r1.2) fun t12 =>
 Option.bind (C 34 [snap r1.2 t12]) fun t13 =>
 Option.bind (aFieldAddr Try.prog 25 r0.1 0 r1.2) fun t14 =>
 Option.bind (aLoad Try.prog 22 t14 r1.2) fun t15 =>
 Option.bind (aLen Try.prog 22 t15 r1.2) fun t16 =>
 Option.bind (aLen Try.prog 22 t13 r1.2) fun t17 =>
 Option.bind (aBuild Try.prog 29 [(1, t16), (0, t13), (2, t17)]) fun t18 =>
 Option.bind (aStore Try.prog 29 r1.1 (stV r1.1 r1.2 t18) r1.2 lo) fun H19 =>
 Option.bind (aLoad Try.prog 29 r1.1 H19) fun t20 => some (Out.ret (A.tup [t20, A.v (Value.int IntKind.i64 0)]), H19)))) := by kernel_rfl
theorem e14 (C : Nat → List A → Option A) (call : CallT) (rg : CallT → CallT) (n lo : Nat) (x0 x1 : A) (H : Heap) : evCall1 (cx C) call rg n 14 [x0, x1] H lo =
 Option.bind (aBox x0 H) fun r0 =>
 Option.bind (aBox x1 r0.2) fun r1 =>
 Option.bind (aFieldAddr Try.prog 29 r0.1 1 r1.2) fun t2 =>
 Option.bind (aLoad Try.prog 3 t2 r1.2) fun t3 =>
 Option.bind (aFieldAddr Try.prog 29 r1.1 1 r1.2) fun t4 =>
 Option.bind (aLoad Try.prog 3 t4 r1.2) fun t5 =>
 Option.bind (aBin Try.prog BinOp.eql 3 false false t3 t5) fun t6 =>
 Option.bind (bIf t6 (Option.bind (aFieldAddr Try.prog 29 r0.1 2 r1.2) fun t7 =>
 Option.bind (aLoad Try.prog 3 t7 r1.2) fun t8 =>
 Option.bind (aFieldAddr Try.prog 29 r1.1 2 r1.2) fun t9 =>
 Option.bind (aLoad Try.prog 3 t9 r1.2) fun t10 =>
 Option.bind (aBin Try.prog BinOp.eql 3 false false t8 t10) fun t11 => some [t11, t11, t10, t9, t8, t7]) (some [A.v (Value.bool false), A.v undef, A.v undef, A.v undef, A.v undef, A.v undef])) fun l7 => unc l7 fun u8 l8 => unc l8 fun u9 l9 => unc l9 fun u10 l10 => unc l10 fun u11 l11 => unc l11 fun u12 l12 => unc l12 fun u13 l13 =>
 Option.bind (bIf u8 (Option.bind (aFieldAddr Try.prog 29 r0.1 0 r1.2) fun t14 =>
 Option.bind (aLoad Try.prog 22 t14 r1.2) fun t15 =>
 Option.bind (aFieldAddr Try.prog 29 r1.1 0 r1.2) fun t16 =>
 Option.bind (aLoad Try.prog 22 t16 r1.2) fun t17 =>
 Option.bind (C 24 [snap r1.2 t15, snap r1.2 t17]) fun t18 => some [t18, t18, t17, t16, t15, t14]) (some [A.v (Value.bool false), A.v undef, A.v undef, A.v undef, A.v undef, A.v undef])) fun l14 => unc l14 fun u15 l15 => unc l15 fun u16 l16 => unc l16 fun u17 l17 => unc l17 fun u18 l18 => unc l18 fun u19 l19 => unc l19 fun u20 l20 => some (Out.ret u15, r1.2) := by kernel_rfl
theorem e17 (C : Nat → List A → Option A) (call : CallT) (rg : CallT → CallT) (n lo : Nat) (x0 : A) (H : Heap) : evCall1 (cx C) call rg n 17 [x0] H lo =
 Option.bind (aBox x0 H) fun r0 =>
 Option.bind (aFieldAddr Try.prog 29 r0.1 1 r0.2) fun t1 =>
 Option.bind (aLoad Try.prog 3 t1 r0.2) fun t2 =>
 Option.bind (aBin Try.prog BinOp.lss 3 false true t2 (A.v (Value.int IntKind.i64 1))) fun t3 =>
 Option.bind (bIf t3 (some [A.v (Value.bool true), A.v undef, A.v undef, A.v undef]) (Option.bind (aFieldAddr Try.prog 29 r0.1 1 r0.2) fun t4 =>
 Option.bind (aLoad Try.prog 3 t4 r0.2) fun t5 =>
 Option.bind (aBin Try.prog BinOp.gtr 3 false true t5 (A.v (Value.int IntKind.i64 4096))) fun t6 => some [t6, t6, t5, t4])) fun l4 => unc l4 fun u5 l5 => unc l5 fun u6 l6 => unc l6 fun u7 l7 => unc l7 fun u8 l8 =>
 Option.bind (bIf u5 (some [A.v (Value.bool true), A.v undef, A.v undef, A.v undef]) (Option.bind (aFieldAddr Try.prog 29 r0.1 2 r0.2) fun t9 =>
 Option.bind (aLoad Try.prog 3 t9 r0.2) fun t10 =>
 Option.bind (aBin Try.prog BinOp.lss 3 false true t10 (A.v (Value.int IntKind.i64 0))) fun t11 => some [t11, t11, t10, t9])) fun l9 => unc l9 fun u10 l10 => unc l10 fun u11 l11 => unc l11 fun u12 l12 => unc l12 fun u13 l13 =>
 Option.bind (bIf u10 (some [A.v (Value.bool true), A.v undef, A.v undef, A.v undef, A.v undef, A.v undef, A.v undef]) (Option.bind (aFieldAddr Try.prog 29 r0.1 2 r0.2) fun t14 =>
 Option.bind (aLoad Try.prog 3 t14 r0.2) fun t15 =>
 Option.bind (aFieldAddr Try.prog 29 r0.1 0 r0.2) fun t16 =>
 Option.bind (aLoad Try.prog 22 t16 r0.2) fun t17 =>
 Option.bind (aLen Try.prog 22 t17 r0.2) fun t18 =>
 Option.bind (aBin Try.prog BinOp.gtr 3 false false t15 t18) fun t19 => some [t19, t19, t18, t17, t16, t15, t14])) fun l14 => unc l14 fun u15 l15 => unc l15 fun u16 l16 => unc l16 fun u17 l17 => unc l17 fun u18 l18 => unc l18 fun u19 l19 => unc l19 fun u20 l20 => unc l20 fun u21 l21 =>
 Option.bind (gIf u15 false (Option.bind (aFieldAddr Try.prog 29 r0.1 0 r0.2) fun t22 =>
 Option.bind (aLoad Try.prog 22 t22 r0.2) fun t23 =>
 Option.bind (C 36 [snap r0.2 t23]) fun t24 =>
 Option.bind (aFieldAddr Try.prog 29 r0.1 1 r0.2) fun t25 =>
 Option.bind (aLoad Try.prog 3 t25 r0.2) fun t26 => some [t26, t25, t24, t23, t22]) (some [A.v undef, A.v undef, A.v undef, A.v undef, A.v undef])) fun l22 => unc l22 fun u23 l23 => unc l23 fun u24 l24 => unc l24 fun u25 l25 => unc l25 fun u26 l26 => unc l26 fun u27 l27 =>
 Option.bind (bIf u15 (some [A.v (Value.bool true), A.v undef]) (Option.bind (aBin Try.prog BinOp.gtr 3 false false u25 u23) fun t28 => some [t28, t28])) fun l28 => unc l28 fun u29 l29 => unc l29 fun u30 l30 => bIfN u29 (some (Out.ret (A.v (Value.int IntKind.i64 1)), r0.2)) (some (Out.ret (A.v (Value.int IntKind.i64 0)), r0.2)) := by kernel_rfl
theorem e19 (C : Nat → List A → Option A) (call : CallT) (rg : CallT → CallT) (n lo : Nat) (x0 : A) (H : Heap) : evCall1 (cx C) call rg n 19 [x0] H lo =
 Option.bind (aBox x0 H) fun r0 =>
 Option.bind (aLoad Try.prog 29 r0.1 r0.2) fun t1 =>
 Option.bind (C 17 [snap r0.2 t1]) fun t2 =>
 Option.bind (aBin Try.prog BinOp.neq 30 false true t2 (A.v (Value.int IntKind.i64 0))) fun t3 => bIfN t3 (some (Out.ret (A.v (Value.int IntKind.i64 0)), r0.2)) (Option.bind (aFieldAddr Try.prog 29 r0.1 1 r0.2) fun t4 =>
 Option.bind (aLoad Try.prog 3 t4 r0.2) fun t5 =>
 Option.bind (aFieldAddr Try.prog 29 r0.1 0 r0.2) fun t6 =>
 Option.bind (aLoad Try.prog 22 t6 r0.2) fun t7 =>
 Option.bind (C 36 [snap r0.2 t7]) fun t8 =>
 Option.bind (aBin Try.prog BinOp.sub 3 false false t5 t8) fun t9 =>
 Option.bind (aBin Try.prog BinOp.mul 3 true false (A.v (Value.int IntKind.i64 112)) t9) fun t10 => some (Out.ret t10, r0.2)) := by kernel_rfl
theorem e21 (C : Nat → List A → Option A) (call : CallT) (rg : CallT → CallT) (n lo : Nat) (x0 x1 : A) (H : Heap) : evCall1 (cx C) call rg n 21 [x0, x1] H lo =
 Option.bind (aBox x0 H) fun r0 =>
 Option.bind (aBox x1 r0.2) fun r1 =>
 Option.bind (aAlloc Try.prog 29 r1.2) fun r2 =>
 Option.bind (aAlloc Try.prog 25 r2.2) fun r3 =>
 Option.bind (aLoad Try.prog 29 r0.1 r3.2) fun t4 =>
 Option.bind (C 17 [snap r3.2 t4]) fun t5 =>
 Option.bind (aBin Try.prog BinOp.neq 30 false true t5 (A.v (Value.int IntKind.i64 0))) fun t6 => bIfN t6 (Option.bind (aBuild Try.prog 29 []) fun t7 =>
 Option.bind (aBuild Try.prog 25 []) fun t8 =>
 Option.bind (aStore Try.prog 29 r2.1 (stV r2.1 r3.2 t7) r3.2 lo) fun H9 =>
 Option.bind (aStore Try.prog 25 r3.1 (stV r3.1 H9 t8) H9 lo) fun H10 =>
 Option.bind (aLoad Try.prog 29 r2.1 H10) fun t11 =>
 Option.bind (aLoad Try.prog 25 r3.1 H10) fun t12 => some (Out.ret (A.tup [t11, t12, t5]), H10)) (Option.bind (aLoad Try.prog 25 r1.1 r3.2) fun t7 =>
 Option.bind (C 31 [snap r3.2 t7]) fun t8 =>
 Option.bind (aBin Try.prog BinOp.neq 30 false true t8 (A.v (Value.int IntKind.i64 0))) fun t9 => bIfN t9 (Option.bind (aBuild Try.prog 29 []) fun t10 =>
 Option.bind (aBuild Try.prog 25 []) fun t11 =>
 Option.bind (aStore Try.prog 29 r2.1 (stV r2.1 r3.2 t10) r3.2 lo) fun H12 =>
 Option.bind (aStore Try.prog 25 r3.1 (stV r3.1 H12 t11) H12 lo) fun H13 =>
 Option.bind (aLoad Try.prog 29 r2.1 H13) fun t14 =>
 Option.bind (aLoad Try.prog 25 r3.1 H13) fun t15 => some (Out.ret (A.tup [t14, t15, t8]), H13)) (Option.bind (aFieldAddr Try.prog 29 r0.1 1 r3.2) fun t10 =>
 Option.bind (aLoad Try.prog 3 t10 r3.2) fun t11 =>
 Option.bind (aFieldAddr Try.prog 25 r1.1 0 r3.2) fun t12 =>
 Option.bind (aLoad Try.prog 22 t12 r3.2) fun t13 =>
 Option.bind (aLen Try.prog 22 t13 r3.2) fun t14 =>
 Option.bind (aBin Try.prog BinOp.neq 3 false false t11 t14) fun t15 =>
 Option.bind (bIf t15 (Option.bind (aFieldAddr Try.prog 25 r1.1 3 r3.2) fun t16 =>
 Option.bind (aLoad Try.prog 4 t16 r3.2) fun t17 =>
 Option.bind (aUn Try.prog UnOp.not t17) fun t18 => some [t18, t18, t17, t16]) (some [A.v (Value.bool false), A.v undef, A.v undef, A.v undef])) fun l16 => unc l16 fun u17 l17 => unc l17 fun u18 l18 => unc l18 fun u19 l19 => unc l19 fun u20 l20 => bIfN u17 (Option.bind (aBuild Try.prog 29 []) fun t21 =>
 Option.bind (aBuild Try.prog 25 []) fun t22 =>
 Option.bind (aStore Try.prog 29 r2.1 (stV r2.1 r3.2 t21) r3.2 lo) fun H23 =>
 Option.bind (aStore Try.prog 25 r3.1 (stV r3.1 H23 t22) H23 lo) fun H24 =>
 Option.bind (aLoad Try.prog 29 r2.1 H24) fun t25 =>
 Option.bind (aLoad Try.prog 25 r3.1 H24) fun t26 => some (Out.ret (A.tup [t25, t26, A.v (Value.int IntKind.i64 1)]), H24)) (Option.bind (aLoad Try.prog 25 r1.1 r3.2) fun t21 =>
 Option.bind (C 12 [snap r3.2 t21]) fun t22 =>
 Option.bind (aExtract t22 0) fun t23 =>
 Option.bind (aExtract t22 1) fun t24 =>
 Option.bind (aAlloc Try.prog 29 r3.2) fun r25 =>
 Option.bind (aStore Try.prog 29 r25.1 (stV r25.1 r25.2 t23) r25.2 lo) fun H26 =>
 Option.bind (aBin Try.prog BinOp.neq 30 false true t24 (A.v (Value.int IntKind.i64 0))) fun t27 => bIfN t27 (Option.bind (aBuild Try.prog 29 []) fun t28 =>
 Option.bind (aBuild Try.prog 25 []) fun t29 =>
 Option.bind (aStore Try.prog 29 r2.1 (stV r2.1 H26 t28) H26 lo) fun H30 =>
 Option.bind (aStore Try.prog 25 r3.1 (stV r3.1 H30 t29) H30 lo) fun H31 =>
 Option.bind (aLoad Try.prog 29 r2.1 H31) fun t32 =>
 Option.bind (aLoad Try.prog 25 r3.1 H31) fun t33 => some (Out.ret (A.tup [t32, t33, t24]), H31)) (Option.bind (aFieldAddr Try.prog 25 r1.1 0 H26) fun t28 =>
 Option.bind (aLoad Try.prog 22 t28 H26) fun t29 =>
 Option.bind (aLen Try.prog 22 t29 H26) fun t30 => loopR (cx C) call rg n 21 lo 0 (List.length H26) (fun i31 s31 => bif Nat.beq i31 0 then
 Option.bind (aFieldAddr Try.prog 29 (look (St.fr s31) 9) 0 (St.H s31)) fun t32 =>
 Option.bind (aLoad Try.prog 22 t32 (St.H s31)) fun t33 =>
 Option.bind (aFieldAddr Try.prog 29 (look (St.fr s31) 2) 0 (St.H s31)) fun t34 =>
 Option.bind (aLoad Try.prog 22 t34 (St.H s31)) fun t35 =>
 Option.bind (aFieldAddr Try.prog 29 (look (St.fr s31) 2) 2 (St.H s31)) fun t36 =>
 Option.bind (aLoad Try.prog 3 t36 (St.H s31)) fun t37 =>
 Option.bind (aSlice Try.prog 22 t35 none (some t37) none (St.H s31)) fun t38 =>
 Option.bind (call 42 [t33, t38, A.fn (Fn.func 43) [] []] (St.H s31) lo) fun H39 => outK H39.1 (fun a40 =>
 Option.bind (aUn Try.prog UnOp.not a40) fun t41 =>
 Option.bind (bIf t41 (some [A.v (Value.bool true), A.v undef, A.v undef, A.v undef]) (Option.bind (aBin Try.prog BinOp.shr 68 false true (look (St.fr s31) 10) (A.v (Value.int IntKind.u64 32))) fun t42 =>
 Option.bind (aBin Try.prog BinOp.neq 68 false true t42 (A.v (Value.int IntKind.u64 0))) fun t43 => some [t43, t43, t42, look (St.fr s31) 10])) fun l42 => unc l42 fun u43 l43 => unc l43 fun u44 l44 => unc l44 fun u45 l45 => unc l45 fun u46 l46 => bIfN u43 (Option.bind (aBuild Try.prog 29 []) fun t47 =>
 Option.bind (aBuild Try.prog 25 []) fun t48 =>
 Option.bind (aStore Try.prog 29 (look (St.fr s31) 4) (stV (look (St.fr s31) 4) H39.2 t47) H39.2 lo) fun H49 =>
 Option.bind (aStore Try.prog 25 (look (St.fr s31) 5) (stV (look (St.fr s31) 5) H49 t48) H49 lo) fun H50 =>
 Option.bind (aLoad Try.prog 29 (look (St.fr s31) 4) H50) fun t51 =>
 Option.bind (aLoad Try.prog 25 (look (St.fr s31) 5) H50) fun t52 => some (Out.ret (A.tup [t51, t52, A.v (Value.int IntKind.i64 50)]), H50)) (Option.bind (aFieldAddr Try.prog 29 (look (St.fr s31) 2) 2 H39.2) fun t47 =>
 Option.bind (aLoad Try.prog 3 t47 H39.2) fun t48 =>
 Option.bind (aFieldAddr Try.prog 29 (look (St.fr s31) 2) 0 H39.2) fun t49 =>
 Option.bind (aLoad Try.prog 22 t49 H39.2) fun t50 =>
 Option.bind (aLen Try.prog 22 t50 H39.2) fun t51 =>
 Option.bind (aBin Try.prog BinOp.eql 3 false false t48 t51) fun t52 => bIfN t52 (Option.bind (aLoad Try.prog 29 (look (St.fr s31) 2) H39.2) fun t53 =>
 Option.bind (aLoad Try.prog 25 (look (St.fr s31) 3) H39.2) fun t54 => bif bif apart (look (St.fr s31) 3) (look (St.fr s31) 4) then true else false then
 Option.bind (aStore Try.prog 29 (look (St.fr s31) 4) (stV (look (St.fr s31) 4) H39.2 t53) H39.2 lo) fun H55 =>
 Option.bind (aStore Try.prog 25 (look (St.fr s31) 5) (stV (look (St.fr s31) 5) H55 t54) H55 lo) fun H56 =>
 Option.bind (aLoad Try.prog 29 (look (St.fr s31) 4) H56) fun t57 =>
 Option.bind (aLoad Try.prog 25 (look (St.fr s31) 5) H56) fun t58 => some (Out.ret (A.tup [t57, t58, A.v (Value.int IntKind.i64 0)]), H56) else none) (Option.bind (aFieldAddr Try.prog 29 (look (St.fr s31) 2) 0 H39.2) fun t53 =>
 Option.bind (aLoad Try.prog 22 t53 H39.2) fun t54 =>
 Option.bind (aFieldAddr Try.prog 29 (look (St.fr s31) 2) 2 H39.2) fun t55 =>
 Option.bind (aLoad Try.prog 3 t55 H39.2) fun t56 =>
 Option.bind (aSlice Try.prog 22 t54 none (some t56) none H39.2) fun t57 =>
 Option.bind (C 36 [snap H39.2 t57]) fun t58 =>
 Option.bind (aFieldAddr Try.prog 29 (look (St.fr s31) 2) 0 H39.2) fun t59 =>
 Option.bind (aLoad Try.prog 22 t59 H39.2) fun t60 =>
 Option.bind (aFieldAddr Try.prog 29 (look (St.fr s31) 2) 2 H39.2) fun t61 =>
 Option.bind (aLoad Try.prog 3 t61 H39.2) fun t62 =>
 Option.bind (aSlice Try.prog 22 t60 (some t62) none none H39.2) fun t63 =>
 Option.bind (aLen Try.prog 22 t63 H39.2) fun t64 => loopR (cx C) call rg n 21 lo 1 (List.length H39.2) (fun i65 s65 => bif Nat.beq i65 2 then
 Option.bind (aLoad Try.prog 25 (look (St.fr s65) 3) (St.H s65)) fun t66 =>
 Option.bind (C 27 [snap (St.H s65) t66]) fun t67 =>
 Option.bind (aExtract t67 0) fun t68 =>
 Option.bind (aExtract t67 1) fun t69 =>
 Option.bind (aStore Try.prog 25 (look (St.fr s65) 3) (stV (look (St.fr s65) 3) (St.H s65) t68) (St.H s65) lo) fun H70 =>
 Option.bind (aBin Try.prog BinOp.neq 30 false true t69 (A.v (Value.int IntKind.i64 0))) fun t71 => bIfN t71 (Option.bind (aBuild Try.prog 29 []) fun t72 =>
 Option.bind (aLoad Try.prog 25 (look (St.fr s65) 3) H70) fun t73 => bif bif apart (look (St.fr s65) 3) (look (St.fr s65) 4) then true else false then
 Option.bind (aStore Try.prog 29 (look (St.fr s65) 4) (stV (look (St.fr s65) 4) H70 t72) H70 lo) fun H74 =>
 Option.bind (aStore Try.prog 25 (look (St.fr s65) 5) (stV (look (St.fr s65) 5) H74 t73) H74 lo) fun H75 =>
 Option.bind (aLoad Try.prog 29 (look (St.fr s65) 4) H75) fun t76 =>
 Option.bind (aLoad Try.prog 25 (look (St.fr s65) 5) H75) fun t77 => some (Out.ret (A.tup [t76, t77, t69]), H75) else none) (Option.bind (aFieldAddr Try.prog 29 (look (St.fr s65) 2) 0 H70) fun t72 =>
 Option.bind (aLoad Try.prog 22 t72 H70) fun t73 =>
 Option.bind (aLen Try.prog 22 t73 H70) fun t74 =>
 Option.bind (aFieldAddr Try.prog 29 (look (St.fr s65) 2) 2 H70) fun t75 =>
 Option.bind (aStore Try.prog 3 t75 (stV t75 H70 t74) H70 lo) fun H76 =>
 Option.bind (aLoad Try.prog 29 (look (St.fr s65) 2) H76) fun t77 =>
 Option.bind (aLoad Try.prog 25 (look (St.fr s65) 3) H76) fun t78 => bif bif apart (look (St.fr s65) 3) (look (St.fr s65) 4) then true else false then
 Option.bind (aStore Try.prog 29 (look (St.fr s65) 4) (stV (look (St.fr s65) 4) H76 t77) H76 lo) fun H79 =>
 Option.bind (aStore Try.prog 25 (look (St.fr s65) 5) (stV (look (St.fr s65) 5) H79 t78) H79 lo) fun H80 =>
 Option.bind (aLoad Try.prog 29 (look (St.fr s65) 4) H80) fun t81 =>
 Option.bind (aLoad Try.prog 25 (look (St.fr s65) 5) H80) fun t82 => some (Out.ret (A.tup [t81, t82, A.v (Value.int IntKind.i64 0)]), H80) else none) else none) (fun i65 s65 => none) (fun a65 =>
 Option.bind (aLoad Try.prog 29 (look (St.fr a65) 4) (St.H a65)) fun t66 =>
 Option.bind (aLoad Try.prog 25 (look (St.fr a65) 5) (St.H a65)) fun t67 => some (Out.ret (A.tup [t66, t67, look (St.fr a65) 6]), St.H a65)) (fun i65 s65 => some (Out.pan i65, St.H s65)) n (St.mk [(2, look (St.fr s31) 2), (3, look (St.fr s31) 3), (4, look (St.fr s31) 4), (5, look (St.fr s31) 5), (6, look (St.fr s31) 6), (10, look (St.fr s31) 10), (13, t58), (108, t63), (109, t64), (110, A.v (Value.int IntKind.i64 0))] H39.2)))) fun a40 => some (Out.pan a40, H39.2) else none) (fun i31 s31 => none) (fun a31 =>
 Option.bind (aLoad Try.prog 29 (look (St.fr a31) 4) (St.H a31)) fun t32 =>
 Option.bind (aLoad Try.prog 25 (look (St.fr a31) 5) (St.H a31)) fun t33 => some (Out.ret (A.tup [t32, t33, look (St.fr a31) 6]), St.H a31)) (fun i31 s31 => some (Out.pan i31, St.H s31)) n (St.mk [(2, r0.1), (3, r1.1), (4, r2.1), (5, r3.1), (6, t24), (9, r25.1), (10, A.v (Value.int IntKind.u64 1)), (57, t29), (58, t30), (59, A.v (Value.int IntKind.i64 0))] H26))))) := by kernel_rfl
theorem e24 (C : Nat → List A → Option A) (call : CallT) (rg : CallT → CallT) (n lo : Nat) (x0 x1 : A) (H : Heap) : evCall1 (cx C) call rg n 24 [x0, x1] H lo =
 Option.bind (aLen Try.prog 22 x0 H) fun t0 =>
 Option.bind (aLen Try.prog 22 x1 H) fun t1 =>
 Option.bind (aBin Try.prog BinOp.neq 3 false false t0 t1) fun t2 => bIfN t2 (some (Out.ret (A.v (Value.bool false)), H)) (loopR (cx C) call rg n 24 lo 0 (List.length H) (fun i3 s3 => bif Nat.beq i3 0 then some (Out.ret (A.v (Value.bool true)), St.H s3) else none) (fun i3 s3 => none) (fun a3 => some (Out.ret (look (St.fr a3) 4), St.H a3)) (fun i3 s3 => some (Out.pan i3, St.H s3)) n (St.mk [(0, x0), (1, x1), (4, A.v (Value.bool false)), (5, A.v (Value.int IntKind.i64 0))] H)) := by kernel_rfl
theorem e25 (C : Nat → List A → Option A) (call : CallT) (rg : CallT → CallT) (n lo : Nat) (x0 : A) (H : Heap) : evCall1 (cx C) call rg n 25 [x0] H lo =
 Option.bind (aAlloc Try.prog 25 H) fun r0 =>
 Option.bind (aBin Try.prog BinOp.lss 3 false true x0 (A.v (Value.int IntKind.i64 1))) fun t1 =>
 Option.bind (bIf t1 (some [A.v (Value.bool true), A.v undef, A.v undef]) (Option.bind (aBin Try.prog BinOp.gtr 3 false true x0 (A.v (Value.int IntKind.i64 4096))) fun t2 => some [t2, t2, x0])) fun l2 => unc l2 fun u3 l3 => unc l3 fun u4 l4 => unc l4 fun u5 l5 => bIfN u3 (Option.bind (aLoad Try.prog 25 r0.1 r0.2) fun t6 =>
 Option.bind (aStore Try.prog 25 r0.1 (stV r0.1 r0.2 t6) r0.2 lo) fun H7 =>
 Option.bind (aLoad Try.prog 25 r0.1 H7) fun t8 => some (Out.ret (A.tup [t8, A.v (Value.int IntKind.i64 1)]), H7)) (Option.bind (aMakeSlice Try.prog 35 (A.v (Value.int IntKind.i64 128)) (A.v (Value.int IntKind.i64 128)) r0.2) fun r6 =>
 Option.bind (aKill lo r6.1 r6.2) fun r7 =>
 Option.bind (aBuildSlice Try.prog 22 1 [(0, frzA r7.2 r7.1)]) fun t8 =>
 Option.bind (C 49 [snap r7.2 t8, snap r7.2 x0]) fun t9 =>
 Option.bind (aBuild Try.prog 25 [(0, t9), (2, A.v (Value.int IntKind.i64 (-1)))]) fun t10 =>
 Option.bind (aStore Try.prog 25 r0.1 (stV r0.1 r7.2 t10) r7.2 lo) fun H11 =>
 Option.bind (aLoad Try.prog 25 r0.1 H11) fun t12 => some (Out.ret (A.tup [t12, A.v (Value.int IntKind.i64 0)]), H11)) := by kernel_rfl
theorem e26 (C : Nat → List A → Option A) (call : CallT) (rg : CallT → CallT) (n lo : Nat) (x0 x1 x2 : A) (H : Heap) : evCall1 (cx C) call rg n 26 [x0, x1, x2] H lo =
 Option.bind (aBox x0 H) fun r0 =>
 Option.bind (aAlloc Try.prog 25 r0.2) fun r1 =>
 Option.bind (aLoad Try.prog 25 r0.1 r1.2) fun t2 =>
 Option.bind (C 50 [snap r1.2 t2]) fun t3 =>
 Option.bind (aUn Try.prog UnOp.not t3) fun t4 =>
 Option.bind (bIf t4 (some [A.v (Value.bool true), A.v undef, A.v undef, A.v undef, A.v undef]) (Option.bind (aLoad Try.prog 25 r0.1 r1.2) fun t5 =>
 Option.bind (C 51 [snap r1.2 t5, snap r1.2 x1]) fun t6 =>
 Option.bind (aUn Try.prog UnOp.not t6) fun t7 => some [t7, t7, t6, x1, t5])) fun l5 => unc l5 fun u6 l6 => unc l6 fun u7 l7 => unc l7 fun u8 l8 => unc l8 fun u9 l9 => unc l9 fun u10 l10 => bIfN u6 (Option.bind (aLoad Try.prog 25 r1.1 r1.2) fun t11 =>
 Option.bind (aStore Try.prog 25 r1.1 (stV r1.1 r1.2 t11) r1.2 lo) fun H12 =>
 Option.bind (aLoad Try.prog 25 r1.1 H12) fun t13 => some (Out.ret (A.tup [t13, A.v (Value.int IntKind.i64 40)]), H12)) (Option.bind (aLen Try.prog 35 x2 r1.2) fun t11 =>
 Option.bind (aBin Try.prog BinOp.gtr 3 false true t11 (A.v (Value.int IntKind.i64 128))) fun t12 => bIfN t12 (Option.bind (aLoad Try.prog 25 r1.1 r1.2) fun t13 =>
 Option.bind (aStore Try.prog 25 r1.1 (stV r1.1 r1.2 t13) r1.2 lo) fun H14 =>
 Option.bind (aLoad Try.prog 25 r1.1 H14) fun t15 => some (Out.ret (A.tup [t15, A.v (Value.int IntKind.i64 1)]), H14)) (Option.bind (aFieldAddr Try.prog 25 r0.1 1 r1.2) fun t13 =>
 Option.bind (aLoad Try.prog 23 t13 r1.2) fun t14 =>
 Option.bind (aLen Try.prog 23 t14 r1.2) fun t15 =>
 Option.bind (aBin Try.prog BinOp.eql 3 false true t15 (A.v (Value.int IntKind.i64 4096))) fun t16 => bIfN t16 (Option.bind (aLoad Try.prog 25 r1.1 r1.2) fun t17 =>
 Option.bind (aStore Try.prog 25 r1.1 (stV r1.1 r1.2 t17) r1.2 lo) fun H18 =>
 Option.bind (aLoad Try.prog 25 r1.1 H18) fun t19 => some (Out.ret (A.tup [t19, A.v (Value.int IntKind.i64 2)]), H18)) (Option.bind (aMakeSlice Try.prog 35 (A.v (Value.int IntKind.i64 128)) (A.v (Value.int IntKind.i64 128)) r1.2) fun r17 =>
 Option.bind (aCopy Try.prog 35 r17.1 x2 r17.2 lo) fun r18 =>
 Option.bind (aKill lo r17.1 r18.2) fun r19 =>
 Option.bind (aFieldAddr Try.prog 25 r0.1 1 r19.2) fun t20 =>
 Option.bind (aLoad Try.prog 23 t20 r19.2) fun t21 =>
 Option.bind (C 53 [snap r19.2 t21]) fun t22 =>
 Option.bind (call 52 [t22] r19.2 lo) fun H23 => outK H23.1 (fun a24 =>
 Option.bind (aBuild Try.prog 76 [(0, x1), (1, r19.1)]) fun t25 =>
 Option.bind (aBuildSlice Try.prog 23 1 [(0, frzA H23.2 t25)]) fun t26 =>
 Option.bind (aAppend Try.prog 23 23 false a24 t26 H23.2 lo) fun r27 =>
 Option.bind (aFieldAddr Try.prog 25 r0.1 1 r27.2) fun t28 =>
 Option.bind (aStore Try.prog 23 t28 (stV t28 r27.2 r27.1) r27.2 lo) fun H29 =>
 Option.bind (aLoad Try.prog 25 r0.1 H29) fun t30 =>
 Option.bind (aStore Try.prog 25 r1.1 (stV r1.1 H29 t30) H29 lo) fun H31 =>
 Option.bind (aLoad Try.prog 25 r1.1 H31) fun t32 => some (Out.ret (A.tup [t32, A.v (Value.int IntKind.i64 0)]), H31)) fun a24 => some (Out.pan a24, H23.2)))) := by kernel_rfl
theorem e27 (C : Nat → List A → Option A) (call : CallT) (rg : CallT → CallT) (n lo : Nat) (x0 : A) (H : Heap) : evCall1 (cx C) call rg n 27 [x0] H lo =
 Option.bind (aBox x0 H) fun r0 =>
 Option.bind (aAlloc Try.prog 25 r0.2) fun r1 =>
 Option.bind (aLoad Try.prog 25 r0.1 r1.2) fun t2 =>
 Option.bind (C 50 [snap r1.2 t2]) fun t3 =>
 Option.bind (aUn Try.prog UnOp.not t3) fun t4 => bIfN t4 (Option.bind (aLoad Try.prog 25 r1.1 r1.2) fun t5 =>
 Option.bind (aStore Try.prog 25 r1.1 (stV r1.1 r1.2 t5) r1.2 lo) fun H6 =>
 Option.bind (aLoad Try.prog 25 r1.1 H6) fun t7 => some (Out.ret (A.tup [t7, A.v (Value.int IntKind.i64 40)]), H6)) (Option.bind (aFieldAddr Try.prog 25 r0.1 1 r1.2) fun t5 =>
 Option.bind (aLoad Try.prog 23 t5 r1.2) fun t6 =>
 Option.bind (aLen Try.prog 23 t6 r1.2) fun t7 =>
 Option.bind (aFieldAddr Try.prog 25 r0.1 2 r1.2) fun t8 =>
 Option.bind (aLoad Try.prog 3 t8 r1.2) fun t9 =>
 Option.bind (aBin Try.prog BinOp.geq 3 false true t9 (A.v (Value.int IntKind.i64 0))) fun t10 =>
 Option.bind (bIf t10 (Option.bind (aFieldAddr Try.prog 25 r0.1 2 r1.2) fun t11 =>
 Option.bind (aLoad Try.prog 3 t11 r1.2) fun t12 =>
 Option.bind (aBin Try.prog BinOp.lss 3 false false t12 t7) fun t13 => some [t13, t13, t7, t12, t11]) (some [A.v (Value.bool false), A.v undef, A.v undef, A.v undef, A.v undef])) fun l11 => unc l11 fun u12 l12 => unc l12 fun u13 l13 => unc l13 fun u14 l14 => unc l14 fun u15 l15 => unc l15 fun u16 l16 => bIfN u12 (Option.bind (aFieldAddr Try.prog 25 r0.1 1 r1.2) fun t17 =>
 Option.bind (aLoad Try.prog 23 t17 r1.2) fun t18 =>
 Option.bind (aFieldAddr Try.prog 25 r0.1 2 r1.2) fun t19 =>
 Option.bind (aLoad Try.prog 3 t19 r1.2) fun t20 =>
 Option.bind (aFieldAddr Try.prog 25 r0.1 2 r1.2) fun t21 =>
 Option.bind (aLoad Try.prog 3 t21 r1.2) fun t22 =>
 Option.bind (aSlice Try.prog 23 t18 none (some t20) (some t22) r1.2) fun t23 =>
 Option.bind (aFieldAddr Try.prog 25 r0.1 0 r1.2) fun t24 =>
 Option.bind (aLoad Try.prog 22 t24 r1.2) fun t25 =>
 Option.bind (call 54 [t25, t23] r1.2 lo) fun H26 => outK H26.1 (fun a27 =>
 Option.bind (aBuild Try.prog 25 [(0, a27), (3, A.v (Value.bool true))]) fun t28 =>
 Option.bind (aStore Try.prog 25 r1.1 (stV r1.1 H26.2 t28) H26.2 lo) fun H29 =>
 Option.bind (aFieldAddr Try.prog 25 r0.1 1 H29) fun t30 =>
 Option.bind (aLoad Try.prog 23 t30 H29) fun t31 =>
 Option.bind (aFieldAddr Try.prog 25 r0.1 2 H29) fun t32 =>
 Option.bind (aLoad Try.prog 3 t32 H29) fun t33 =>
 Option.bind (aIndexAddr Try.prog 23 t31 t33 H29) fun t34 =>
 Option.bind (aLoad Try.prog 76 t34 H29) fun t35 =>
 Option.bind (aAlloc Try.prog 76 H29) fun r36 =>
 Option.bind (aStore Try.prog 76 r36.1 (stV r36.1 r36.2 t35) r36.2 lo) fun H37 =>
 Option.bind (aFieldAddr Try.prog 25 r1.1 0 H37) fun t38 =>
 Option.bind (aLoad Try.prog 22 t38 H37) fun t39 =>
 Option.bind (aFieldAddr Try.prog 76 r36.1 0 H37) fun t40 =>
 Option.bind (aLoad Try.prog 3 t40 H37) fun t41 =>
 Option.bind (aIndexAddr Try.prog 22 t39 t41 H37) fun t42 =>
 Option.bind (aLoad Try.prog 35 t42 H37) fun t43 =>
 Option.bind (call 38 [t43] H37 lo) fun H44 => outK H44.1 (fun a45 =>
 Option.bind (aSlice Try.prog 35 a45 none (some (A.v (Value.int IntKind.i64 64))) none H44.2) fun t46 =>
 Option.bind (aFieldAddr Try.prog 76 r36.1 1 H44.2) fun t47 =>
 Option.bind (aLoad Try.prog 35 t47 H44.2) fun t48 =>
 Option.bind (aCopy Try.prog 35 t46 t48 H44.2 lo) fun r49 =>
 Option.bind (aKill lo a45 r49.2) fun r50 =>
 Option.bind (aFieldAddr Try.prog 25 r1.1 0 r50.2) fun t51 =>
 Option.bind (aLoad Try.prog 22 t51 r50.2) fun t52 =>
 Option.bind (aFieldAddr Try.prog 76 r36.1 0 r50.2) fun t53 =>
 Option.bind (aLoad Try.prog 3 t53 r50.2) fun t54 =>
 Option.bind (aIndexAddr Try.prog 22 t52 t54 r50.2) fun t55 =>
 Option.bind (aStore Try.prog 35 t55 (stV t55 r50.2 r50.1) r50.2 lo) fun H56 =>
 Option.bind (aLoad Try.prog 25 r1.1 H56) fun t57 =>
 Option.bind (aStore Try.prog 25 r1.1 (stV r1.1 H56 t57) H56 lo) fun H58 =>
 Option.bind (aLoad Try.prog 25 r1.1 H58) fun t59 => some (Out.ret (A.tup [t59, A.v (Value.int IntKind.i64 40)]), H58)) fun a45 => some (Out.pan a45, H44.2)) fun a27 => some (Out.pan a27, H26.2)) (Option.bind (aFieldAddr Try.prog 25 r0.1 0 r1.2) fun t17 =>
 Option.bind (aLoad Try.prog 22 t17 r1.2) fun t18 =>
 Option.bind (aFieldAddr Try.prog 25 r0.1 1 r1.2) fun t19 =>
 Option.bind (aLoad Try.prog 23 t19 r1.2) fun t20 =>
 Option.bind (C 54 [snap r1.2 t18, snap r1.2 t20]) fun t21 =>
 Option.bind (aFieldAddr Try.prog 25 r0.1 2 r1.2) fun t22 =>
 Option.bind (aLoad Try.prog 3 t22 r1.2) fun t23 =>
 Option.bind (aBuild Try.prog 25 [(0, t21), (2, t23)]) fun t24 =>
 Option.bind (aStore Try.prog 25 r1.1 (stV r1.1 r1.2 t24) r1.2 lo) fun H25 =>
 Option.bind (aFieldAddr Try.prog 25 r1.1 2 H25) fun t26 =>
 Option.bind (aLoad Try.prog 3 t26 H25) fun t27 =>
 Option.bind (aBin Try.prog BinOp.geq 3 false true t27 (A.v (Value.int IntKind.i64 0))) fun t28 => bIfN t28 (Option.bind (aFieldAddr Try.prog 25 r1.1 2 H25) fun t29 =>
 Option.bind (aLoad Try.prog 3 t29 H25) fun t30 =>
 Option.bind (aBin Try.prog BinOp.sub 3 false false t30 t7) fun t31 =>
 Option.bind (aFieldAddr Try.prog 25 r1.1 2 H25) fun t32 =>
 Option.bind (aStore Try.prog 3 t32 (stV t32 H25 t31) H25 lo) fun H33 =>
 Option.bind (aLoad Try.prog 25 r1.1 H33) fun t34 =>
 Option.bind (aStore Try.prog 25 r1.1 (stV r1.1 H33 t34) H33 lo) fun H35 =>
 Option.bind (aLoad Try.prog 25 r1.1 H35) fun t36 => some (Out.ret (A.tup [t36, A.v (Value.int IntKind.i64 0)]), H35)) (Option.bind (aLoad Try.prog 25 r1.1 H25) fun t29 =>
 Option.bind (aStore Try.prog 25 r1.1 (stV r1.1 H25 t29) H25 lo) fun H30 =>
 Option.bind (aLoad Try.prog 25 r1.1 H30) fun t31 => some (Out.ret (A.tup [t31, A.v (Value.int IntKind.i64 0)]), H30)))) := by kernel_rfl
theorem e31 (C : Nat → List A → Option A) (call : CallT) (rg : CallT → CallT) (n lo : Nat) (x0 : A) (H : Heap) : evCall1 (cx C) call rg n 31 [x0] H lo =
 Option.bind (aBox x0 H) fun r0 =>
 Option.bind (aFieldAddr Try.prog 25 r0.1 0 r0.2) fun t1 =>
 Option.bind (aLoad Try.prog 22 t1 r0.2) fun t2 =>
 Option.bind (aLen Try.prog 22 t2 r0.2) fun t3 =>
 Option.bind (aAlloc Try.prog 3 r0.2) fun r4 =>
 Option.bind (aStore Try.prog 3 r4.1 (stV r4.1 r4.2 t3) r4.2 lo) fun H5 =>
 Option.bind (aLoad Try.prog 3 r4.1 H5) fun t6 =>
 Option.bind (aBin Try.prog BinOp.lss 3 false true t6 (A.v (Value.int IntKind.i64 1))) fun t7 =>
 Option.bind (bIf t7 (some [A.v (Value.bool true), A.v undef, A.v undef]) (Option.bind (aLoad Try.prog 3 r4.1 H5) fun t8 =>
 Option.bind (aBin Try.prog BinOp.gtr 3 false true t8 (A.v (Value.int IntKind.i64 4096))) fun t9 => some [t9, t9, t8])) fun l8 => unc l8 fun u9 l9 => unc l9 fun u10 l10 => unc l10 fun u11 l11 =>
 Option.bind (bIf u9 (some [A.v (Value.bool true), A.v undef, A.v undef, A.v undef, A.v undef]) (Option.bind (aFieldAddr Try.prog 25 r0.1 1 H5) fun t12 =>
 Option.bind (aLoad Try.prog 23 t12 H5) fun t13 =>
 Option.bind (aLen Try.prog 23 t13 H5) fun t14 =>
 Option.bind (aBin Try.prog BinOp.gtr 3 false true t14 (A.v (Value.int IntKind.i64 4096))) fun t15 => some [t15, t15, t14, t13, t12])) fun l12 => unc l12 fun u13 l13 => unc l13 fun u14 l14 => unc l14 fun u15 l15 => unc l15 fun u16 l16 => unc l16 fun u17 l17 =>
 Option.bind (bIf u13 (some [A.v (Value.bool true), A.v undef, A.v undef, A.v undef]) (Option.bind (aFieldAddr Try.prog 25 r0.1 2 H5) fun t18 =>
 Option.bind (aLoad Try.prog 3 t18 H5) fun t19 =>
 Option.bind (aBin Try.prog BinOp.lss 3 false true t19 (A.v (Value.int IntKind.i64 (-1)))) fun t20 => some [t20, t20, t19, t18])) fun l18 => unc l18 fun u19 l19 => unc l19 fun u20 l20 => unc l20 fun u21 l21 => unc l21 fun u22 l22 =>
 Option.bind (bIf u19 (some [A.v (Value.bool true), A.v undef, A.v undef, A.v undef]) (Option.bind (aFieldAddr Try.prog 25 r0.1 2 H5) fun t23 =>
 Option.bind (aLoad Try.prog 3 t23 H5) fun t24 =>
 Option.bind (aBin Try.prog BinOp.gtr 3 false true t24 (A.v (Value.int IntKind.i64 65536))) fun t25 => some [t25, t25, t24, t23])) fun l23 => unc l23 fun u24 l24 => unc l24 fun u25 l25 => unc l25 fun u26 l26 => unc l26 fun u27 l27 =>
 Option.bind (gIf u24 false (Option.bind (aFieldAddr Try.prog 25 r0.1 1 H5) fun t28 => some t28) (some (A.v undef))) fun t28 =>
 Option.bind (gIf u24 false (Option.bind (aLoad Try.prog 23 t28 H5) fun t29 => some t29) (some (A.v undef))) fun t29 =>
 Option.bind (gIf u24 false (some (A.fn (Fn.func 55) [] [r4.1])) (some (A.v undef))) fun t30 => gIf u24 false (Option.bind (call 57 [t29, t30] H5 lo) fun H31 => outK H31.1 (fun a32 =>
 Option.bind (bIf u24 (some (A.v (Value.bool true))) (some a32)) fun t33 => bIfN t33 (some (Out.ret (A.v (Value.int IntKind.i64 40)), H31.2)) (Option.bind (aFieldAddr Try.prog 25 r0.1 0 H31.2) fun t34 =>
 Option.bind (aLoad Try.prog 22 t34 H31.2) fun t35 =>
 Option.bind (C 58 [snap H31.2 t35, snap H31.2 (A.fn (Fn.func 59) [] [])]) fun t36 => bIfN t36 (some (Out.ret (A.v (Value.int IntKind.i64 40)), H31.2)) (some (Out.ret (A.v (Value.int IntKind.i64 0)), H31.2)))) fun a32 => some (Out.pan a32, H31.2)) (Option.bind (bIf u24 (some (A.v (Value.bool true))) (some (A.v undef))) fun t31 => bIfN t31 (some (Out.ret (A.v (Value.int IntKind.i64 40)), H5)) (Option.bind (aFieldAddr Try.prog 25 r0.1 0 H5) fun t32 =>
 Option.bind (aLoad Try.prog 22 t32 H5) fun t33 =>
 Option.bind (C 58 [snap H5 t33, snap H5 (A.fn (Fn.func 59) [] [])]) fun t34 => bIfN t34 (some (Out.ret (A.v (Value.int IntKind.i64 40)), H5)) (some (Out.ret (A.v (Value.int IntKind.i64 0)), H5)))) := by kernel_rfl
theorem e32 (C : Nat → List A → Option A) (call : CallT) (rg : CallT → CallT) (n lo : Nat) (x0 : A) (H : Heap) : evCall1 (cx C) call rg n 32 [x0] H lo =
 Option.bind (aBox x0 H) fun r0 => some (Out.ret (A.fn (Fn.func 60) [] [r0.1]), r0.2) := by kernel_rfl
theorem e33 (C : Nat → List A → Option A) (call : CallT) (rg : CallT → CallT) (n lo : Nat) (x0 : A) (H : Heap) : evCall1 (cx C) call rg n 33 [x0] H lo =
 Option.bind (aBox x0 H) fun r0 =>
 Option.bind (aFieldAddr Try.prog 25 r0.1 0 r0.2) fun t1 =>
 Option.bind (aLoad Try.prog 22 t1 r0.2) fun t2 =>
 Option.bind (aLen Try.prog 22 t2 r0.2) fun t3 =>
 Option.bind (aBin Try.prog BinOp.lss 3 false true t3 (A.v (Value.int IntKind.i64 1))) fun t4 =>
 Option.bind (bIf t4 (some [A.v (Value.bool true), A.v undef, A.v undef]) (Option.bind (aBin Try.prog BinOp.gtr 3 false true t3 (A.v (Value.int IntKind.i64 4096))) fun t5 => some [t5, t5, t3])) fun l5 => unc l5 fun u6 l6 => unc l6 fun u7 l7 => unc l7 fun u8 l8 =>
 Option.bind (bIf u6 (some [A.v (Value.bool true), A.v undef, A.v undef, A.v undef, A.v undef]) (Option.bind (aFieldAddr Try.prog 25 r0.1 1 r0.2) fun t9 =>
 Option.bind (aLoad Try.prog 23 t9 r0.2) fun t10 =>
 Option.bind (aLen Try.prog 23 t10 r0.2) fun t11 =>
 Option.bind (aBin Try.prog BinOp.gtr 3 false true t11 (A.v (Value.int IntKind.i64 4096))) fun t12 => some [t12, t12, t11, t10, t9])) fun l9 => unc l9 fun u10 l10 => unc l10 fun u11 l11 => unc l11 fun u12 l12 => unc l12 fun u13 l13 => unc l13 fun u14 l14 =>
 Option.bind (bIf u10 (some [A.v (Value.bool true), A.v undef, A.v undef, A.v undef]) (Option.bind (aFieldAddr Try.prog 25 r0.1 2 r0.2) fun t15 =>
 Option.bind (aLoad Try.prog 3 t15 r0.2) fun t16 =>
 Option.bind (aBin Try.prog BinOp.lss 3 false true t16 (A.v (Value.int IntKind.i64 (-1)))) fun t17 => some [t17, t17, t16, t15])) fun l15 => unc l15 fun u16 l16 => unc l16 fun u17 l17 => unc l17 fun u18 l18 => unc l18 fun u19 l19 =>
 Option.bind (bIf u16 (some [A.v (Value.bool true), A.v undef, A.v undef, A.v undef]) (Option.bind (aFieldAddr Try.prog 25 r0.1 2 r0.2) fun t20 =>
 Option.bind (aLoad Try.prog 3 t20 r0.2) fun t21 =>
 Option.bind (aBin Try.prog BinOp.gtr 3 false true t21 (A.v (Value.int IntKind.i64 65536))) fun t22 => some [t22, t22, t21, t20])) fun l20 => unc l20 fun u21 l21 => unc l21 fun u22 l22 => unc l22 fun u23 l23 => unc l23 fun u24 l24 => bIfN u21 (some (Out.ret (A.v (Value.int IntKind.i64 40)), r0.2)) (loopR (cx C) call rg n 33 lo 0 (List.length r0.2) (fun i25 s25 => bif Nat.beq i25 0 then loopR (cx C) call rg n 33 lo 1 (List.length (St.H s25)) (fun i26 s26 => bif Nat.beq i26 2 then some (Out.ret (A.v (Value.int IntKind.i64 0)), St.H s26) else none) (fun i26 s26 => none) (fun a26 => some (Out.ret (look (St.fr a26) 2), St.H a26)) (fun i26 s26 => some (Out.pan i26, St.H s26)) n (St.mk [(1, look (St.fr s25) 1), (2, look (St.fr s25) 2), (3, look (St.fr s25) 3), (5, A.v (Value.int IntKind.i64 0))] (St.H s25)) else none) (fun i25 s25 => none) (fun a25 => some (Out.ret (look (St.fr a25) 2), St.H a25)) (fun i25 s25 => some (Out.pan i25, St.H s25)) n (St.mk [(1, r0.1), (2, A.v (Value.int IntKind.i64 0)), (3, t3), (4, A.v (Value.int IntKind.i64 0))] r0.2)) := by kernel_rfl
theorem e34 (C : Nat → List A → Option A) (call : CallT) (rg : CallT → CallT) (n lo : Nat) (x0 : A) (H : Heap) : evCall1 (cx C) call rg n 34 [x0] H lo =
 Option.bind (aBuildSlice Try.prog 22 0 []) fun t0 => loopR (cx C) call rg n 34 lo 0 (List.length (seed1 1 (St.H (St.mk [(0, x0), (2, A.imm [] true), (3, t0), (4, A.v (Value.int IntKind.i64 0)), (5, A.v (Value.int IntKind.u64 0))] H)) (look (St.fr (St.mk [(0, x0), (2, A.imm [] true), (3, t0), (4, A.v (Value.int IntKind.i64 0)), (5, A.v (Value.int IntKind.u64 0))] H)) (Prod.fst (3, 0, 2)))).2) (fun i1 s1 => bif Nat.beq i1 0 then some (Out.ret (look (St.fr s1) 2), St.H s1) else none) (fun i1 s1 => none) (fun a1 => some (Out.ret (look (St.fr a1) 2), St.H a1)) (fun i1 s1 => some (Out.pan i1, St.H s1)) n (St.mk [(0, x0), (2, A.imm [] true), (3, (seed1 1 (St.H (St.mk [(0, x0), (2, A.imm [] true), (3, t0), (4, A.v (Value.int IntKind.i64 0)), (5, A.v (Value.int IntKind.u64 0))] H)) (look (St.fr (St.mk [(0, x0), (2, A.imm [] true), (3, t0), (4, A.v (Value.int IntKind.i64 0)), (5, A.v (Value.int IntKind.u64 0))] H)) (Prod.fst (3, 0, 2)))).1), (4, A.v (Value.int IntKind.i64 0)), (5, A.v (Value.int IntKind.u64 0))] (seed1 1 (St.H (St.mk [(0, x0), (2, A.imm [] true), (3, t0), (4, A.v (Value.int IntKind.i64 0)), (5, A.v (Value.int IntKind.u64 0))] H)) (look (St.fr (St.mk [(0, x0), (2, A.imm [] true), (3, t0), (4, A.v (Value.int IntKind.i64 0)), (5, A.v (Value.int IntKind.u64 0))] H)) (Prod.fst (3, 0, 2)))).2) := by kernel_rfl
theorem e35 (C : Nat → List A → Option A) (call : CallT) (rg : CallT → CallT) (n lo : Nat) (x0 : A) (H : Heap) : evCall1 (cx C) call rg n 35 [x0] H lo =
 Option.bind (aLen Try.prog 35 x0 H) fun t0 =>
 Option.bind (aBin Try.prog BinOp.add 3 false true t0 (A.v (Value.int IntKind.i64 112))) fun t1 =>
 Option.bind (aBin Try.prog BinOp.sub 3 false true t1 (A.v (Value.int IntKind.i64 1))) fun t2 =>
 Option.bind (aBin Try.prog BinOp.quo 3 false true t2 (A.v (Value.int IntKind.i64 112))) fun t3 =>
 Option.bind (aMM false (A.v (Value.int IntKind.i64 1)) [t3]) fun t4 => some (Out.ret t4, H) := by kernel_rfl
theorem e36 (C : Nat → List A → Option A) (call : CallT) (rg : CallT → CallT) (n lo : Nat) (x0 : A) (H : Heap) : evCall1 (cx C) call rg n 36 [x0] H lo =
 Option.bind (aLen Try.prog 22 x0 H) fun t0 => loopR (cx C) call rg n 36 lo 0 (List.length H) (fun i1 s1 => bif Nat.beq i1 0 then some (Out.ret (look (St.fr s1) 2), St.H s1) else none) (fun i1 s1 => none) (fun a1 => some (Out.ret (look (St.fr a1) 2), St.H a1)) (fun i1 s1 => some (Out.pan i1, St.H s1)) n (St.mk [(2, A.v (Value.int IntKind.i64 0)), (5, x0), (6, t0), (7, A.v (Value.int IntKind.i64 0))] H) := by kernel_rfl
theorem e38 (C : Nat → List A → Option A) (call : CallT) (rg : CallT → CallT) (n lo : Nat) (x0 : A) (H : Heap) : evCall1 (cx C) call rg n 38 [x0] H lo =
 Option.bind (aNq Try.prog 35 x0) fun t0 => bIfN t0 (some (Out.ret (seedW (500001 - 500000) (St.H (St.mk [(2, A.imm [] true), (4, t0), (3, x0), (2, A.imm [] true), (0, x0)] H)) (look (St.fr (St.mk [(2, A.imm [] true), (4, t0), (3, x0), (2, A.imm [] true), (0, x0)] H)) (Prod.fst (2, 0, 500002)))).1, (seedW (500001 - 500000) (St.H (St.mk [(2, A.imm [] true), (4, t0), (3, x0), (2, A.imm [] true), (0, x0)] H)) (look (St.fr (St.mk [(2, A.imm [] true), (4, t0), (3, x0), (2, A.imm [] true), (0, x0)] H)) (Prod.fst (2, 0, 500002)))).2)) (Option.bind (aBuildSlice Try.prog 35 0 []) fun t1 =>
 Option.bind (aAppend Try.prog 35 35 true t1 x0 H lo) fun r2 => some (Out.ret (seedW (500001 - 500000) (St.H (St.mk [(2, r2.1), (7, r2.1), (6, x0), (5, t1), (4, t0), (3, x0), (2, A.imm [] true), (0, x0)] r2.2)) (look (St.fr (St.mk [(2, r2.1), (7, r2.1), (6, x0), (5, t1), (4, t0), (3, x0), (2, A.imm [] true), (0, x0)] r2.2)) (Prod.fst (2, 0, 500002)))).1, (seedW (500001 - 500000) (St.H (St.mk [(2, r2.1), (7, r2.1), (6, x0), (5, t1), (4, t0), (3, x0), (2, A.imm [] true), (0, x0)] r2.2)) (look (St.fr (St.mk [(2, r2.1), (7, r2.1), (6, x0), (5, t1), (4, t0), (3, x0), (2, A.imm [] true), (0, x0)] r2.2)) (Prod.fst (2, 0, 500002)))).2)) := by kernel_rfl
theorem e41 (C : Nat → List A → Option A) (call : CallT) (rg : CallT → CallT) (n lo : Nat) (x0 : A) (H : Heap) : evCall1 (cx C) call rg n 41 [x0] H lo =
 Option.bind (aLen Try.prog 35 x0 H) fun t0 => loopR (cx C) call rg n 41 lo 0 (List.length H) (fun i1 s1 => bif Nat.beq i1 0 then some (Out.ret (look (St.fr s1) 2), St.H s1) else none) (fun i1 s1 => none) (fun a1 => some (Out.ret (look (St.fr a1) 2), St.H a1)) (fun i1 s1 => some (Out.pan i1, St.H s1)) n (St.mk [(2, A.v (Value.int IntKind.u64 0)), (5, x0), (6, t0), (7, A.v (Value.int IntKind.i64 0))] H) := by kernel_rfl
theorem e42 (C : Nat → List A → Option A) (call : CallT) (rg : CallT → CallT) (n lo : Nat) (x0 x1 x2 : A) (H : Heap) : evCall1 (cx C) call rg n 42 [x0, x1, x2] H lo =
 Option.bind (aLen Try.prog 22 x0 H) fun t0 =>
 Option.bind (aLen Try.prog 22 x1 H) fun t1 =>
 Option.bind (aBin Try.prog BinOp.neq 3 false false t0 t1) fun t2 => bIfN t2 (some (Out.ret (A.v (Value.bool false)), H)) (Option.bind (aLen Try.prog 22 x0 H) fun t3 => loopR (cx C) call rg n 42 lo 0 (List.length H) (fun i4 s4 => bif Nat.beq i4 0 then some (Out.ret (A.v (Value.bool true)), St.H s4) else none) (fun i4 s4 => none) (fun a4 => some (Out.ret (look (St.fr a4) 6), St.H a4)) (fun i4 s4 => some (Out.pan i4, St.H s4)) n (St.mk [(1, x1), (2, x2), (6, A.v (Value.bool false)), (15, x0), (16, t3), (17, A.v (Value.int IntKind.i64 0))] H)) := by kernel_rfl
theorem e43 (C : Nat → List A → Option A) (call : CallT) (rg : CallT → CallT) (n lo : Nat) (x0 x1 : A) (H : Heap) : evCall1 (cx C) call rg n 43 [x0, x1] H lo =
 Option.bind (aConvert Try.prog 35 9 x0 H) fun t0 =>
 Option.bind (aConvert Try.prog 35 9 x1 H) fun t1 =>
 Option.bind (aBin Try.prog BinOp.eql 9 false false t0 t1) fun t2 => some (Out.ret t2, H) := by kernel_rfl
theorem e44 (C : Nat → List A → Option A) (call : CallT) (rg : CallT → CallT) (n lo : Nat) (x0 x1 x2 x3 : A) (H : Heap) : evCall1 (cx C) call rg n 44 [x0, x1, x2, x3] H lo =
 Option.bind (aAllocR Try.prog 89 H) fun r0 =>
 Option.bind (aSlice Try.prog 89 r0.1 none (some (A.v (Value.int IntKind.i64 4))) none r0.2) fun t1 =>
 Option.bind (call 64 [t1, x0] r0.2 lo) fun H2 => outK H2.1 (fun a3 =>
 Option.bind (aSlice Try.prog 89 r0.1 (some (A.v (Value.int IntKind.i64 8))) (some (A.v (Value.int IntKind.i64 10))) none H2.2) fun t4 =>
 Option.bind (aConvert Try.prog 3 68 x1 H2.2) fun t5 =>
 Option.bind (call 64 [t4, t5] H2.2 lo) fun H6 => outK H6.1 (fun a7 =>
 Option.bind (aLen Try.prog 35 x3 H6.2) fun t8 =>
 Option.bind (aConvert Try.prog 3 5 t8 H6.2) fun t9 =>
 Option.bind (aIndexAddr Try.prog 89 r0.1 (A.v (Value.int IntKind.i64 10)) H6.2) fun t10 =>
 Option.bind (aStore Try.prog 5 t10 (stV t10 H6.2 x2) H6.2 lo) fun H11 =>
 Option.bind (aIndexAddr Try.prog 89 r0.1 (A.v (Value.int IntKind.i64 11)) H11) fun t12 =>
 Option.bind (aStore Try.prog 5 t12 (stV t12 H11 t9) H11 lo) fun H13 =>
 Option.bind (aSlice Try.prog 89 r0.1 (some (A.v (Value.int IntKind.i64 12))) none none H13) fun t14 =>
 Option.bind (aCopy Try.prog 35 t14 x3 H13 lo) fun r15 =>
 Option.bind (aSlice Try.prog 89 r0.1 (some (A.v (Value.int IntKind.i64 124))) none none r15.2) fun t16 =>
 Option.bind (call 64 [t16, x0] r15.2 lo) fun H17 => outK H17.1 (fun a18 =>
 Option.bind (aSlice Try.prog 89 r0.1 (some (A.v (Value.int IntKind.i64 4))) (some (A.v (Value.int IntKind.i64 8))) none H17.2) fun t19 =>
 Option.bind (aSlice Try.prog 89 r0.1 (some (A.v (Value.int IntKind.i64 8))) (some (A.v (Value.int IntKind.i64 124))) none H17.2) fun t20 =>
 Option.bind (Option.bind (call 65 [t20] H17.2 (List.length H17.2)) fun H21 => retU (List.length H17.2) H21) fun t21 =>
 Option.bind (aConvert Try.prog 91 68 t21 H17.2) fun t22 =>
 Option.bind (call 64 [t19, t22] H17.2 lo) fun H23 => outK H23.1 (fun a24 =>
 Option.bind (aSlice Try.prog 89 r0.1 none none none H23.2) fun t25 => some (Out.ret t25, H23.2)) fun a24 => some (Out.pan a24, H23.2)) fun a18 => some (Out.pan a18, H17.2)) fun a7 => some (Out.pan a7, H6.2)) fun a3 => some (Out.pan a3, H2.2) := by kernel_rfl
theorem e49 (C : Nat → List A → Option A) (call : CallT) (rg : CallT → CallT) (n lo : Nat) (x0 x1 : A) (H : Heap) : evCall1 (cx C) call rg n 49 [x0, x1] H lo =
 Option.bind (aBin Try.prog BinOp.lss 3 false true x1 (A.v (Value.int IntKind.i64 0))) fun t0 => bIfN t0 (Option.bind (aIfc Try.prog 9 (A.v (Value.string (ByteArray.mk #[99, 97, 110, 110, 111, 116, 32, 98, 101, 32, 110, 101, 103, 97, 116, 105, 118, 101])))) fun t1 => panK t1 fun a2 => some (Out.pan a2, H)) (Option.bind (aLen Try.prog 22 x0 H) fun t1 =>
 Option.bind (aConvert Try.prog 3 48 t1 H) fun t2 =>
 Option.bind (aConvert Try.prog 3 48 x1 H) fun t3 =>
 Option.bind (C 68 [snap H t2, snap H t3]) fun t4 =>
 Option.bind (aExtract t4 0) fun t5 =>
 Option.bind (aExtract t4 1) fun t6 =>
 Option.bind (aBin Try.prog BinOp.gtr 48 false true t5 (A.v (Value.int IntKind.u64 0))) fun t7 =>
 Option.bind (bIf t7 (some [A.v (Value.bool true), A.v undef, A.v undef]) (Option.bind (aBin Try.prog BinOp.gtr 48 false true t6 (A.v (Value.int IntKind.u64 9223372036854775807))) fun t8 => some [t8, t8, t6])) fun l8 => unc l8 fun u9 l9 => unc l9 fun u10 l10 => unc l10 fun u11 l11 => bIfN u9 (Option.bind (aIfc Try.prog 9 (A.v (Value.string (ByteArray.mk #[116, 104, 101, 32, 114, 101, 115, 117, 108, 116, 32, 111, 102, 32, 40, 108, 101, 110, 40, 120, 41, 32, 42, 32, 99, 111, 117, 110, 116, 41, 32, 111, 118, 101, 114, 102, 108, 111, 119, 115])))) fun t12 => panK t12 fun a13 => some (Out.pan a13, H)) (Option.bind (aConvert Try.prog 48 3 t6 H) fun t12 =>
 Option.bind (aMakeSlice Try.prog 22 t12 t12 H) fun r13 =>
 Option.bind (aCopy Try.prog 22 r13.1 x0 r13.2 lo) fun r14 => loopR (cx C) call rg n 49 lo 0 (List.length r14.2) (fun i15 s15 => bif Nat.beq i15 0 then some (Out.ret (look (St.fr s15) 7), St.H s15) else none) (fun i15 s15 => none) (fun a15 => some (Out.ret (look (St.fr a15) 4), St.H a15)) (fun i15 s15 => some (Out.pan i15, St.H s15)) n (St.mk [(4, A.imm [] true), (7, r13.1), (8, r14.1)] r14.2))) := by kernel_rfl
theorem e50 (C : Nat → List A → Option A) (call : CallT) (rg : CallT → CallT) (n lo : Nat) (x0 : A) (H : Heap) : evCall1 (cx C) call rg n 50 [x0] H lo =
 Option.bind (aBox x0 H) fun r0 =>
 Option.bind (aLoad Try.prog 25 r0.1 r0.2) fun t1 =>
 Option.bind (C 31 [snap r0.2 t1]) fun t2 =>
 Option.bind (aBin Try.prog BinOp.eql 30 false true t2 (A.v (Value.int IntKind.i64 0))) fun t3 =>
 Option.bind (bIf t3 (Option.bind (aFieldAddr Try.prog 25 r0.1 3 r0.2) fun t4 =>
 Option.bind (aLoad Try.prog 4 t4 r0.2) fun t5 =>
 Option.bind (aUn Try.prog UnOp.not t5) fun t6 => some [t6, t6, t5, t4]) (some [A.v (Value.bool false), A.v undef, A.v undef, A.v undef])) fun l4 => unc l4 fun u5 l5 => unc l5 fun u6 l6 => unc l6 fun u7 l7 => unc l7 fun u8 l8 => some (Out.ret u5, r0.2) := by kernel_rfl
theorem e51 (C : Nat → List A → Option A) (call : CallT) (rg : CallT → CallT) (n lo : Nat) (x0 x1 : A) (H : Heap) : evCall1 (cx C) call rg n 51 [x0, x1] H lo =
 Option.bind (aBox x0 H) fun r0 =>
 Option.bind (aBin Try.prog BinOp.geq 3 false true x1 (A.v (Value.int IntKind.i64 0))) fun t1 =>
 Option.bind (bIf t1 (Option.bind (aFieldAddr Try.prog 25 r0.1 0 r0.2) fun t2 =>
 Option.bind (aLoad Try.prog 22 t2 r0.2) fun t3 =>
 Option.bind (aLen Try.prog 22 t3 r0.2) fun t4 =>
 Option.bind (aBin Try.prog BinOp.lss 3 false false x1 t4) fun t5 => some [t5, t5, t4, t3, t2, x1]) (some [A.v (Value.bool false), A.v undef, A.v undef, A.v undef, A.v undef, A.v undef])) fun l2 => unc l2 fun u3 l3 => unc l3 fun u4 l4 => unc l4 fun u5 l5 => unc l5 fun u6 l6 => unc l6 fun u7 l7 => unc l7 fun u8 l8 => some (Out.ret u3, r0.2) := by kernel_rfl
theorem e52 (C : Nat → List A → Option A) (call : CallT) (rg : CallT → CallT) (n lo : Nat) (x0 : A) (H : Heap) : evCall1 (cx C) call rg n 52 [x0] H lo =
 Option.bind (aLen Try.prog 23 x0 H) fun t0 =>
 Option.bind (aLen Try.prog 23 x0 H) fun t1 =>
 Option.bind (aSlice Try.prog 23 x0 none (some t0) (some t1) H) fun t2 => some (Out.ret t2, H) := by kernel_rfl
theorem e53 (C : Nat → List A → Option A) (call : CallT) (rg : CallT → CallT) (n lo : Nat) (x0 : A) (H : Heap) : evCall1 (cx C) call rg n 53 [x0] H lo =
 Option.bind (aNq Try.prog 23 x0) fun t0 => bIfN t0 (some (Out.ret (seed1 2 (St.H (St.mk [(2, A.imm [] true), (4, t0), (3, x0), (2, A.imm [] true), (0, x0)] H)) (look (St.fr (St.mk [(2, A.imm [] true), (4, t0), (3, x0), (2, A.imm [] true), (0, x0)] H)) (Prod.fst (2, 0, 3)))).1, (seed1 2 (St.H (St.mk [(2, A.imm [] true), (4, t0), (3, x0), (2, A.imm [] true), (0, x0)] H)) (look (St.fr (St.mk [(2, A.imm [] true), (4, t0), (3, x0), (2, A.imm [] true), (0, x0)] H)) (Prod.fst (2, 0, 3)))).2)) (Option.bind (aBuildSlice Try.prog 23 0 []) fun t1 =>
 Option.bind (aAppend Try.prog 23 23 false t1 x0 H lo) fun r2 => some (Out.ret (seed1 2 (St.H (St.mk [(2, r2.1), (7, r2.1), (6, x0), (5, t1), (4, t0), (3, x0), (2, A.imm [] true), (0, x0)] r2.2)) (look (St.fr (St.mk [(2, r2.1), (7, r2.1), (6, x0), (5, t1), (4, t0), (3, x0), (2, A.imm [] true), (0, x0)] r2.2)) (Prod.fst (2, 0, 3)))).1, (seed1 2 (St.H (St.mk [(2, r2.1), (7, r2.1), (6, x0), (5, t1), (4, t0), (3, x0), (2, A.imm [] true), (0, x0)] r2.2)) (look (St.fr (St.mk [(2, r2.1), (7, r2.1), (6, x0), (5, t1), (4, t0), (3, x0), (2, A.imm [] true), (0, x0)] r2.2)) (Prod.fst (2, 0, 3)))).2)) := by kernel_rfl
theorem e54 (C : Nat → List A → Option A) (call : CallT) (rg : CallT → CallT) (n lo : Nat) (x0 x1 : A) (H : Heap) : evCall1 (cx C) call rg n 54 [x0, x1] H lo =
 Option.bind (call 69 [x0] H lo) fun H0 => outK H0.1 (fun a1 =>
 Option.bind (aLen Try.prog 23 x1 H0.2) fun t2 => loopR (cx C) call rg n 54 lo 0 (List.length H0.2) (fun i3 s3 => bif Nat.beq i3 0 then some (Out.ret (look (St.fr s3) 5), St.H s3) else none) (fun i3 s3 => none) (fun a3 => some (Out.ret (look (St.fr a3) 4), St.H a3)) (fun i3 s3 => some (Out.pan i3, St.H s3)) n (St.mk [(4, A.imm [] true), (5, a1), (10, x1), (11, t2), (12, A.v (Value.int IntKind.i64 0))] H0.2)) fun a1 => some (Out.pan a1, H0.2) := by kernel_rfl
theorem e55 (C : Nat → List A → Option A) (call : CallT) (rg : CallT → CallT) (n lo : Nat) (x0 x1 : A) (H : Heap) : evCall1 (cx C) call rg n 55 [x0, x1] H lo =
 Option.bind (aBox x0 H) fun r0 =>
 Option.bind (aFieldAddr Try.prog 76 r0.1 0 r0.2) fun t1 =>
 Option.bind (aLoad Try.prog 3 t1 r0.2) fun t2 =>
 Option.bind (aBin Try.prog BinOp.lss 3 false true t2 (A.v (Value.int IntKind.i64 0))) fun t3 =>
 Option.bind (bIf t3 (some [A.v (Value.bool true), A.v undef, A.v undef, A.v undef, A.v undef]) (Option.bind (aFieldAddr Try.prog 76 r0.1 0 r0.2) fun t4 =>
 Option.bind (aLoad Try.prog 3 t4 r0.2) fun t5 =>
 Option.bind (aLoad Try.prog 3 x1 r0.2) fun t6 =>
 Option.bind (aBin Try.prog BinOp.geq 3 false false t5 t6) fun t7 => some [t7, t7, t6, t5, t4])) fun l4 => unc l4 fun u5 l5 => unc l5 fun u6 l6 => unc l6 fun u7 l7 => unc l7 fun u8 l8 => unc l8 fun u9 l9 =>
 Option.bind (bIf u5 (some [A.v (Value.bool true), A.v undef, A.v undef, A.v undef, A.v undef]) (Option.bind (aFieldAddr Try.prog 76 r0.1 1 r0.2) fun t10 =>
 Option.bind (aLoad Try.prog 35 t10 r0.2) fun t11 =>
 Option.bind (C 56 [snap r0.2 t11]) fun t12 =>
 Option.bind (aUn Try.prog UnOp.not t12) fun t13 => some [t13, t13, t12, t11, t10])) fun l10 => unc l10 fun u11 l11 => unc l11 fun u12 l12 => unc l12 fun u13 l13 => unc l13 fun u14 l14 => unc l14 fun u15 l15 => some (Out.ret u11, r0.2) := by kernel_rfl
theorem e56 (C : Nat → List A → Option A) (call : CallT) (rg : CallT → CallT) (n lo : Nat) (x0 : A) (H : Heap) : evCall1 (cx C) call rg n 56 [x0] H lo =
 Option.bind (aLen Try.prog 35 x0 H) fun t0 =>
 Option.bind (aBin Try.prog BinOp.eql 3 false true t0 (A.v (Value.int IntKind.i64 128))) fun t1 => some (Out.ret t1, H) := by kernel_rfl
theorem e57 (C : Nat → List A → Option A) (call : CallT) (rg : CallT → CallT) (n lo : Nat) (x0 x1 : A) (H : Heap) : evCall1 (cx C) call rg n 57 [x0, x1] H lo =
 Option.bind (call 70 [x0, x1] H lo) fun H0 => outK H0.1 (fun a1 =>
 Option.bind (aBin Try.prog BinOp.geq 3 false true a1 (A.v (Value.int IntKind.i64 0))) fun t2 => some (Out.ret t2, H0.2)) fun a1 => some (Out.pan a1, H0.2) := by kernel_rfl
theorem e58 (C : Nat → List A → Option A) (call : CallT) (rg : CallT → CallT) (n lo : Nat) (x0 x1 : A) (H : Heap) : evCall1 (cx C) call rg n 58 [x0, x1] H lo =
 Option.bind (C 71 [snap H x0, snap H x1]) fun t0 =>
 Option.bind (aBin Try.prog BinOp.geq 3 false true t0 (A.v (Value.int IntKind.i64 0))) fun t1 => some (Out.ret t1, H) := by kernel_rfl
theorem e59 (C : Nat → List A → Option A) (call : CallT) (rg : CallT → CallT) (n lo : Nat) (x0 : A) (H : Heap) : evCall1 (cx C) call rg n 59 [x0] H lo =
 Option.bind (C 56 [snap H x0]) fun t0 =>
 Option.bind (aUn Try.prog UnOp.not t0) fun t1 => some (Out.ret t1, H) := by kernel_rfl
theorem e60 (C : Nat → List A → Option A) (call : CallT) (rg : CallT → CallT) (n lo : Nat) (x0 x1 : A) (H : Heap) : evCall1 (cx C) call rg n 60 [x0, x1] H lo = loopR (cx C) call rg n 60 lo 0 (List.length H) (fun i0 s0 => bif Nat.beq i0 0 then some (Out.ret (A.tup []), St.H s0) else none) (fun i0 s0 => none) (fun a0 => some (Out.ret (A.tup []), St.H a0)) (fun i0 s0 => some (Out.pan i0, St.H s0)) n (St.mk [(0, x0), (1, x1), (3, A.v (Value.int IntKind.i64 0)), (4, A.v (Value.int IntKind.u64 0))] H) := by kernel_rfl
theorem e61 (C : Nat → List A → Option A) (call : CallT) (rg : CallT → CallT) (n lo : Nat) (x0 x1 : A) (H : Heap) : evCall1 (cx C) call rg n 61 [x0, x1] H lo =
 Option.bind (aIndexAddr Try.prog 35 x0 (A.v (Value.int IntKind.i64 11)) H) fun t0 =>
 Option.bind (aLoad Try.prog 5 t0 H) fun t1 =>
 Option.bind (aConvert Try.prog 5 3 t1 H) fun t2 =>
 Option.bind (aBin Try.prog BinOp.gtr 3 false true t2 (A.v (Value.int IntKind.i64 112))) fun t3 =>
 Option.bind (bIf t3 (some [A.v (Value.bool true), A.v undef, A.v undef, A.v undef, A.v undef]) (Option.bind (aIndexAddr Try.prog 35 x0 (A.v (Value.int IntKind.i64 10)) H) fun t4 =>
 Option.bind (aLoad Try.prog 5 t4 H) fun t5 =>
 Option.bind (aBin Try.prog BinOp.gtr 5 false true t5 (A.v (Value.int IntKind.u8 3))) fun t6 => some [t6, t6, t5, t4, x0])) fun l4 => unc l4 fun u5 l5 => unc l5 fun u6 l6 => unc l6 fun u7 l7 => unc l7 fun u8 l8 => unc l8 fun u9 l9 =>
 Option.bind (bIf u5 (some [A.v (Value.bool true), A.v undef, A.v undef, A.v undef, A.v undef, A.v undef, A.v undef, A.v undef, A.v undef, A.v undef]) (Option.bind (aIndexAddr Try.prog 35 x0 (A.v (Value.int IntKind.i64 10)) H) fun t10 =>
 Option.bind (aLoad Try.prog 5 t10 H) fun t11 =>
 Option.bind (aBin Try.prog BinOp.and 5 false true t11 (A.v (Value.int IntKind.u8 2))) fun t12 =>
 Option.bind (aBin Try.prog BinOp.eql 5 false true t12 (A.v (Value.int IntKind.u8 0))) fun t13 =>
 Option.bind (bIf t13 (Option.bind (aBin Try.prog BinOp.lss 3 false true t2 (A.v (Value.int IntKind.i64 112))) fun t14 => some [t14, t14, t2]) (some [A.v (Value.bool false), A.v undef, A.v undef])) fun l14 => unc l14 fun u15 l15 => unc l15 fun u16 l16 => unc l16 fun u17 l17 => some [u15, u15, u16, u17, t13, t13, t12, t11, t10, x0])) fun l10 => unc l10 fun u11 l11 => unc l11 fun u12 l12 => unc l12 fun u13 l13 => unc l13 fun u14 l14 => unc l14 fun u15 l15 => unc l15 fun u16 l16 => unc l16 fun u17 l17 => unc l17 fun u18 l18 => unc l18 fun u19 l19 => unc l19 fun u20 l20 =>
 Option.bind (bIf u11 (some [A.v (Value.bool true), A.v undef, A.v undef, A.v undef, A.v undef, A.v undef, A.v undef, A.v undef, A.v undef, A.v undef]) (Option.bind (aIndexAddr Try.prog 35 x0 (A.v (Value.int IntKind.i64 10)) H) fun t21 =>
 Option.bind (aLoad Try.prog 5 t21 H) fun t22 =>
 Option.bind (aBin Try.prog BinOp.and 5 false true t22 (A.v (Value.int IntKind.u8 1))) fun t23 =>
 Option.bind (aBin Try.prog BinOp.eql 5 false true t23 (A.v (Value.int IntKind.u8 0))) fun t24 =>
 Option.bind (bIf t24 (Option.bind (aBin Try.prog BinOp.eql 3 false true t2 (A.v (Value.int IntKind.i64 0))) fun t25 => some [t25, t25, t2]) (some [A.v (Value.bool false), A.v undef, A.v undef])) fun l25 => unc l25 fun u26 l26 => unc l26 fun u27 l27 => unc l27 fun u28 l28 => some [u26, u26, u27, u28, t24, t24, t23, t22, t21, x0])) fun l21 => unc l21 fun u22 l22 => unc l22 fun u23 l23 => unc l23 fun u24 l24 => unc l24 fun u25 l25 => unc l25 fun u26 l26 => unc l26 fun u27 l27 => unc l27 fun u28 l28 => unc l28 fun u29 l29 => unc l29 fun u30 l30 => unc l30 fun u31 l31 => bIfN u22 (some (Out.ret (A.v (Value.bool false)), H)) (Option.bind (aSlice Try.prog 35 x0 none (some (A.v (Value.int IntKind.i64 4))) none H) fun t32 =>
 Option.bind (C 41 [snap H t32]) fun t33 =>
 Option.bind (aBin Try.prog BinOp.gtr 68 false true t33 (A.v (Value.int IntKind.u64 0))) fun t34 =>
 Option.bind (gIf t34 true (Option.bind (aIndexAddr Try.prog 35 x0 (A.v (Value.int IntKind.i64 10)) H) fun t35 =>
 Option.bind (aLoad Try.prog 5 t35 H) fun t36 =>
 Option.bind (aBin Try.prog BinOp.add 3 true false (A.v (Value.int IntKind.i64 12)) t2) fun t37 =>
 Option.bind (aSlice Try.prog 35 x0 (some (A.v (Value.int IntKind.i64 12))) (some t37) none H) fun t38 =>
 Option.bind (C 44 [snap H t33, snap H x1, snap H t36, snap H t38]) fun t39 => some [t39, t38, t37, t2, x0, t36, t35, x0, x1, t33, x0]) (some [A.v undef, A.v undef, A.v undef, A.v undef, A.v undef, A.v undef, A.v undef, A.v undef, A.v undef, A.v undef, A.v undef])) fun l35 => unc l35 fun u36 l36 => unc l36 fun u37 l37 => unc l37 fun u38 l38 => unc l38 fun u39 l39 => unc l39 fun u40 l40 => unc l40 fun u41 l41 => unc l41 fun u42 l42 => unc l42 fun u43 l43 => unc l43 fun u44 l44 => unc l44 fun u45 l45 => unc l45 fun u46 l46 =>
 Option.bind (bIf t34 (Option.bind (C 43 [snap H u46, snap H u36]) fun t47 => some [t47, t47]) (some [A.v (Value.bool false), A.v undef])) fun l47 => unc l47 fun u48 l48 => unc l48 fun u49 l49 => some (Out.ret u48, H)) := by kernel_rfl
theorem e62 (C : Nat → List A → Option A) (call : CallT) (rg : CallT → CallT) (n lo : Nat) (x0 x1 : A) (H : Heap) : evCall1 (cx C) call rg n 62 [x0, x1] H lo =
 Option.bind (aBuildSlice Try.prog 35 0 []) fun t0 => loopR (cx C) call rg n 62 lo 0 (List.length (seed1 1 (St.H (St.mk [(0, x0), (1, x1), (4, A.imm [] true), (5, A.v (Value.int IntKind.i64 0)), (6, t0), (7, A.v (Value.int IntKind.i64 0))] H)) (look (St.fr (St.mk [(0, x0), (1, x1), (4, A.imm [] true), (5, A.v (Value.int IntKind.i64 0)), (6, t0), (7, A.v (Value.int IntKind.i64 0))] H)) (Prod.fst (6, 0, 2)))).2) (fun i1 s1 => bif Nat.beq i1 0 then some (Out.ret (A.tup [A.imm [] true, A.v (Value.int IntKind.i64 0)]), St.H s1) else none) (fun i1 s1 => none) (fun a1 => some (Out.ret (A.tup [look (St.fr a1) 4, look (St.fr a1) 5]), St.H a1)) (fun i1 s1 => some (Out.pan i1, St.H s1)) n (St.mk [(0, x0), (1, x1), (4, A.imm [] true), (5, A.v (Value.int IntKind.i64 0)), (6, (seed1 1 (St.H (St.mk [(0, x0), (1, x1), (4, A.imm [] true), (5, A.v (Value.int IntKind.i64 0)), (6, t0), (7, A.v (Value.int IntKind.i64 0))] H)) (look (St.fr (St.mk [(0, x0), (1, x1), (4, A.imm [] true), (5, A.v (Value.int IntKind.i64 0)), (6, t0), (7, A.v (Value.int IntKind.i64 0))] H)) (Prod.fst (6, 0, 2)))).1), (7, A.v (Value.int IntKind.i64 0))] (seed1 1 (St.H (St.mk [(0, x0), (1, x1), (4, A.imm [] true), (5, A.v (Value.int IntKind.i64 0)), (6, t0), (7, A.v (Value.int IntKind.i64 0))] H)) (look (St.fr (St.mk [(0, x0), (1, x1), (4, A.imm [] true), (5, A.v (Value.int IntKind.i64 0)), (6, t0), (7, A.v (Value.int IntKind.i64 0))] H)) (Prod.fst (6, 0, 2)))).2) := by kernel_rfl
theorem e63 (C : Nat → List A → Option A) (call : CallT) (rg : CallT → CallT) (n lo : Nat) (x0 : A) (H : Heap) : evCall1 (cx C) call rg n 63 [x0] H lo = loopR (cx C) call rg n 63 lo 0 (List.length H) (fun i0 s0 => bif Nat.beq i0 0 then some (Out.ret (look (St.fr s0) 3), St.H s0) else none) (fun i0 s0 => none) (fun a0 => some (Out.ret (look (St.fr a0) 2), St.H a0)) (fun i0 s0 => some (Out.pan i0, St.H s0)) n (St.mk [(0, x0), (2, A.v (Value.int IntKind.u64 0)), (3, A.v (Value.int IntKind.u64 0)), (4, A.v (Value.int IntKind.i64 0))] H) := by kernel_rfl
theorem e64 (C : Nat → List A → Option A) (call : CallT) (rg : CallT → CallT) (n lo : Nat) (x0 x1 : A) (H : Heap) : evCall1 (cx C) call rg n 64 [x0, x1] H lo =
 Option.bind (aLen Try.prog 35 x0 H) fun t0 => loopR (cx C) call rg n 64 lo 0 (List.length H) (fun i1 s1 => bif Nat.beq i1 0 then some (Out.ret (A.tup []), St.H s1) else none) (fun i1 s1 => none) (fun a1 => some (Out.ret (A.tup []), St.H a1)) (fun i1 s1 => some (Out.pan i1, St.H s1)) n (St.mk [(0, x0), (1, x1), (6, t0), (7, A.v (Value.int IntKind.i64 0))] H) := by kernel_rfl
theorem e65 (C : Nat → List A → Option A) (call : CallT) (rg : CallT → CallT) (n lo : Nat) (x0 : A) (H : Heap) : evCall1 (cx C) call rg n 65 [x0] H lo =
 Option.bind (aLen Try.prog 35 x0 H) fun t0 => loopR (cx C) call rg n 65 lo 0 (List.length H) (fun i1 s1 => bif Nat.beq i1 0 then
 Option.bind (aUn Try.prog UnOp.xor (look (St.fr s1) 3)) fun t2 => some (Out.ret t2, St.H s1) else none) (fun i1 s1 => none) (fun a1 => some (Out.ret (look (St.fr a1) 2), St.H a1)) (fun i1 s1 => some (Out.pan i1, St.H s1)) n (St.mk [(2, A.v (Value.int IntKind.u32 0)), (3, A.v (Value.int IntKind.u32 4294967295)), (6, x0), (7, t0), (8, A.v (Value.int IntKind.i64 0))] H) := by kernel_rfl
theorem e67 (C : Nat → List A → Option A) (call : CallT) (rg : CallT → CallT) (n lo : Nat) (x0 : A) (H : Heap) : evCall1 (cx C) call rg n 67 [x0] H lo = loopR (cx C) call rg n 67 lo 0 (List.length H) (fun i0 s0 => bif Nat.beq i0 0 then
 Option.bind (aBin Try.prog BinOp.xor 91 false true (look (St.fr s0) 3) (A.v (Value.int IntKind.u32 4294967295))) fun t1 => some (Out.ret t1, St.H s0) else none) (fun i0 s0 => none) (fun a0 => some (Out.ret (look (St.fr a0) 2), St.H a0)) (fun i0 s0 => some (Out.pan i0, St.H s0)) n (St.mk [(0, x0), (2, A.v (Value.int IntKind.u32 0)), (3, A.v (Value.int IntKind.u32 4294967295)), (4, A.v (Value.int IntKind.i64 0))] H) := by kernel_rfl
theorem e68 (C : Nat → List A → Option A) (call : CallT) (rg : CallT → CallT) (n lo : Nat) (x0 x1 : A) (H : Heap) : evCall1 (cx C) call rg n 68 [x0, x1] H lo =
 Option.bind (C 74 [snap H x0, snap H x1]) fun t0 =>
 Option.bind (aExtract t0 0) fun t1 =>
 Option.bind (aExtract t0 1) fun t2 => some (Out.ret (A.tup [t1, t2]), H) := by kernel_rfl
theorem e69 (C : Nat → List A → Option A) (call : CallT) (rg : CallT → CallT) (n lo : Nat) (x0 : A) (H : Heap) : evCall1 (cx C) call rg n 69 [x0] H lo =
 Option.bind (aNq Try.prog 22 x0) fun t0 => bIfN t0 (some (Out.ret (seedW (500001 - 500000) (St.H (St.mk [(2, A.imm [] true), (4, t0), (3, x0), (2, A.imm [] true), (0, x0)] H)) (look (St.fr (St.mk [(2, A.imm [] true), (4, t0), (3, x0), (2, A.imm [] true), (0, x0)] H)) (Prod.fst (2, 0, 500002)))).1, (seedW (500001 - 500000) (St.H (St.mk [(2, A.imm [] true), (4, t0), (3, x0), (2, A.imm [] true), (0, x0)] H)) (look (St.fr (St.mk [(2, A.imm [] true), (4, t0), (3, x0), (2, A.imm [] true), (0, x0)] H)) (Prod.fst (2, 0, 500002)))).2)) (Option.bind (aBuildSlice Try.prog 22 0 []) fun t1 =>
 Option.bind (aAppend Try.prog 22 22 true t1 x0 H lo) fun r2 => some (Out.ret (seedW (500001 - 500000) (St.H (St.mk [(2, r2.1), (7, r2.1), (6, x0), (5, t1), (4, t0), (3, x0), (2, A.imm [] true), (0, x0)] r2.2)) (look (St.fr (St.mk [(2, r2.1), (7, r2.1), (6, x0), (5, t1), (4, t0), (3, x0), (2, A.imm [] true), (0, x0)] r2.2)) (Prod.fst (2, 0, 500002)))).1, (seedW (500001 - 500000) (St.H (St.mk [(2, r2.1), (7, r2.1), (6, x0), (5, t1), (4, t0), (3, x0), (2, A.imm [] true), (0, x0)] r2.2)) (look (St.fr (St.mk [(2, r2.1), (7, r2.1), (6, x0), (5, t1), (4, t0), (3, x0), (2, A.imm [] true), (0, x0)] r2.2)) (Prod.fst (2, 0, 500002)))).2)) := by kernel_rfl
theorem e70 (C : Nat → List A → Option A) (call : CallT) (rg : CallT → CallT) (n lo : Nat) (x0 x1 : A) (H : Heap) : evCall1 (cx C) call rg n 70 [x0, x1] H lo =
 Option.bind (aLen Try.prog 23 x0 H) fun t0 => loopR (cx C) call rg n 70 lo 0 (List.length H) (fun i1 s1 => bif Nat.beq i1 0 then some (Out.ret (A.v (Value.int IntKind.i64 (-1))), St.H s1) else none) (fun i1 s1 => none) (fun a1 => some (Out.ret (look (St.fr a1) 4), St.H a1)) (fun i1 s1 => some (Out.pan i1, St.H s1)) n (St.mk [(0, x0), (1, x1), (4, A.v (Value.int IntKind.i64 0)), (7, t0), (8, A.v (Value.int IntKind.i64 0))] H) := by kernel_rfl
theorem e71 (C : Nat → List A → Option A) (call : CallT) (rg : CallT → CallT) (n lo : Nat) (x0 x1 : A) (H : Heap) : evCall1 (cx C) call rg n 71 [x0, x1] H lo =
 Option.bind (aLen Try.prog 22 x0 H) fun t0 => loopR (cx C) call rg n 71 lo 0 (List.length H) (fun i1 s1 => bif Nat.beq i1 0 then some (Out.ret (A.v (Value.int IntKind.i64 (-1))), St.H s1) else none) (fun i1 s1 => none) (fun a1 => some (Out.ret (look (St.fr a1) 4), St.H a1)) (fun i1 s1 => some (Out.pan i1, St.H s1)) n (St.mk [(0, x0), (1, x1), (4, A.v (Value.int IntKind.i64 0)), (7, t0), (8, A.v (Value.int IntKind.i64 0))] H) := by kernel_rfl
theorem e72 (C : Nat → List A → Option A) (call : CallT) (rg : CallT → CallT) (n lo : Nat) (x0 x1 : A) (H : Heap) : evCall1 (cx C) call rg n 72 [x0, x1] H lo =
 Option.bind (aIndexAddr Try.prog 35 x0 (A.v (Value.int IntKind.i64 11)) H) fun t0 =>
 Option.bind (aLoad Try.prog 5 t0 H) fun t1 =>
 Option.bind (aConvert Try.prog 5 3 t1 H) fun t2 =>
 Option.bind (aSlice Try.prog 35 x0 none (some (A.v (Value.int IntKind.i64 4))) none H) fun t3 =>
 Option.bind (C 63 [snap H t3]) fun t4 =>
 Option.bind (aBin Try.prog BinOp.eql 68 false true t4 (A.v (Value.int IntKind.u64 0))) fun t5 =>
 Option.bind (bIf t5 (some [A.v (Value.bool true), A.v undef, A.v undef, A.v undef, A.v undef, A.v undef, A.v undef, A.v undef]) (Option.bind (aSlice Try.prog 35 x0 none (some (A.v (Value.int IntKind.i64 4))) none H) fun t6 =>
 Option.bind (C 63 [snap H t6]) fun t7 =>
 Option.bind (aSlice Try.prog 35 x0 (some (A.v (Value.int IntKind.i64 124))) none none H) fun t8 =>
 Option.bind (C 63 [snap H t8]) fun t9 =>
 Option.bind (aBin Try.prog BinOp.neq 68 false false t7 t9) fun t10 => some [t10, t10, t9, t8, x0, t7, t6, x0])) fun l6 => unc l6 fun u7 l7 => unc l7 fun u8 l8 => unc l8 fun u9 l9 => unc l9 fun u10 l10 => unc l10 fun u11 l11 => unc l11 fun u12 l12 => unc l12 fun u13 l13 => unc l13 fun u14 l14 =>
 Option.bind (bIf u7 (some [A.v (Value.bool true), A.v undef, A.v undef, A.v undef, A.v undef, A.v undef, A.v undef, A.v undef, A.v undef]) (Option.bind (aSlice Try.prog 35 x0 (some (A.v (Value.int IntKind.i64 4))) (some (A.v (Value.int IntKind.i64 8))) none H) fun t15 =>
 Option.bind (C 63 [snap H t15]) fun t16 =>
 Option.bind (aConvert Try.prog 68 91 t16 H) fun t17 =>
 Option.bind (aSlice Try.prog 35 x0 (some (A.v (Value.int IntKind.i64 8))) (some (A.v (Value.int IntKind.i64 124))) none H) fun t18 =>
 Option.bind (C 67 [snap H t18]) fun t19 =>
 Option.bind (aBin Try.prog BinOp.neq 91 false false t17 t19) fun t20 => some [t20, t20, t19, t18, x0, t17, t16, t15, x0])) fun l15 => unc l15 fun u16 l16 => unc l16 fun u17 l17 => unc l17 fun u18 l18 => unc l18 fun u19 l19 => unc l19 fun u20 l20 => unc l20 fun u21 l21 => unc l21 fun u22 l22 => unc l22 fun u23 l23 => unc l23 fun u24 l24 =>
 Option.bind (gIf u16 false (Option.bind (aSlice Try.prog 35 x0 (some (A.v (Value.int IntKind.i64 8))) (some (A.v (Value.int IntKind.i64 10))) none H) fun t25 =>
 Option.bind (C 63 [snap H t25]) fun t26 =>
 Option.bind (aConvert Try.prog 3 68 x1 H) fun t27 => some [t27, x1, t26, t25, x0]) (some [A.v undef, A.v undef, A.v undef, A.v undef, A.v undef])) fun l25 => unc l25 fun u26 l26 => unc l26 fun u27 l27 => unc l27 fun u28 l28 => unc l28 fun u29 l29 => unc l29 fun u30 l30 =>
 Option.bind (bIf u16 (some [A.v (Value.bool true), A.v undef]) (Option.bind (aBin Try.prog BinOp.neq 68 false false u28 u26) fun t31 => some [t31, t31])) fun l31 => unc l31 fun u32 l32 => unc l32 fun u33 l33 =>
 Option.bind (bIf u32 (some [A.v (Value.bool true), A.v undef, A.v undef, A.v undef, A.v undef]) (Option.bind (aIndexAddr Try.prog 35 x0 (A.v (Value.int IntKind.i64 10)) H) fun t34 =>
 Option.bind (aLoad Try.prog 5 t34 H) fun t35 =>
 Option.bind (aBin Try.prog BinOp.gtr 5 false true t35 (A.v (Value.int IntKind.u8 3))) fun t36 => some [t36, t36, t35, t34, x0])) fun l34 => unc l34 fun u35 l35 => unc l35 fun u36 l36 => unc l36 fun u37 l37 => unc l37 fun u38 l38 => unc l38 fun u39 l39 =>
 Option.bind (bIf u35 (some [A.v (Value.bool true), A.v undef, A.v undef]) (Option.bind (aBin Try.prog BinOp.gtr 3 false true t2 (A.v (Value.int IntKind.i64 112))) fun t40 => some [t40, t40, t2])) fun l40 => unc l40 fun u41 l41 => unc l41 fun u42 l42 => unc l42 fun u43 l43 =>
 Option.bind (bIf u41 (some [A.v (Value.bool true), A.v undef, A.v undef, A.v undef, A.v undef, A.v undef, A.v undef, A.v undef, A.v undef]) (Option.bind (aIndexAddr Try.prog 35 x0 (A.v (Value.int IntKind.i64 10)) H) fun t44 =>
 Option.bind (aLoad Try.prog 5 t44 H) fun t45 =>
 Option.bind (aBin Try.prog BinOp.lss 5 false true t45 (A.v (Value.int IntKind.u8 2))) fun t46 =>
 Option.bind (bIf t46 (Option.bind (aBin Try.prog BinOp.neq 3 false true t2 (A.v (Value.int IntKind.i64 112))) fun t47 => some [t47, t47, t2]) (some [A.v (Value.bool false), A.v undef, A.v undef])) fun l47 => unc l47 fun u48 l48 => unc l48 fun u49 l49 => unc l49 fun u50 l50 => some [u48, u48, u49, u50, t46, t46, t45, t44, x0])) fun l44 => unc l44 fun u45 l45 => unc l45 fun u46 l46 => unc l46 fun u47 l47 => unc l47 fun u48 l48 => unc l48 fun u49 l49 => unc l49 fun u50 l50 => unc l50 fun u51 l51 => unc l51 fun u52 l52 => unc l52 fun u53 l53 =>
 Option.bind (bIf u45 (some [A.v (Value.bool true), A.v undef, A.v undef, A.v undef, A.v undef, A.v undef, A.v undef, A.v undef, A.v undef, A.v undef]) (Option.bind (aIndexAddr Try.prog 35 x0 (A.v (Value.int IntKind.i64 10)) H) fun t54 =>
 Option.bind (aLoad Try.prog 5 t54 H) fun t55 =>
 Option.bind (aBin Try.prog BinOp.rem 5 false true t55 (A.v (Value.int IntKind.u8 2))) fun t56 =>
 Option.bind (aBin Try.prog BinOp.eql 5 false true t56 (A.v (Value.int IntKind.u8 0))) fun t57 =>
 Option.bind (bIf t57 (Option.bind (aBin Try.prog BinOp.eql 3 false true t2 (A.v (Value.int IntKind.i64 0))) fun t58 => some [t58, t58, t2]) (some [A.v (Value.bool false), A.v undef, A.v undef])) fun l58 => unc l58 fun u59 l59 => unc l59 fun u60 l60 => unc l60 fun u61 l61 => some [u59, u59, u60, u61, t57, t57, t56, t55, t54, x0])) fun l54 => unc l54 fun u55 l55 => unc l55 fun u56 l56 => unc l56 fun u57 l57 => unc l57 fun u58 l58 => unc l58 fun u59 l59 => unc l59 fun u60 l60 => unc l60 fun u61 l61 => unc l61 fun u62 l62 => unc l62 fun u63 l63 => unc l63 fun u64 l64 => bIfN u55 (some (Out.ret (A.v (Value.bool false)), H)) (Option.bind (aBin Try.prog BinOp.add 3 true false (A.v (Value.int IntKind.i64 12)) t2) fun t65 => loopR (cx C) call rg n 72 lo 0 (List.length H) (fun i66 s66 => bif Nat.beq i66 0 then some (Out.ret (A.v (Value.bool true)), St.H s66) else none) (fun i66 s66 => none) (fun a66 => some (Out.ret (look (St.fr a66) 4), St.H a66)) (fun i66 s66 => some (Out.pan i66, St.H s66)) n (St.mk [(0, x0), (4, A.v (Value.bool false)), (6, t65)] H)) := by kernel_rfl
theorem e74 (C : Nat → List A → Option A) (call : CallT) (rg : CallT → CallT) (n lo : Nat) (x0 x1 : A) (H : Heap) : evCall1 (cx C) call rg n 74 [x0, x1] H lo =
 Option.bind (aBin Try.prog BinOp.and 68 false true x0 (A.v (Value.int IntKind.u64 4294967295))) fun t0 =>
 Option.bind (aBin Try.prog BinOp.shr 68 false true x0 (A.v (Value.int IntKind.u64 32))) fun t1 =>
 Option.bind (aBin Try.prog BinOp.and 68 false true x1 (A.v (Value.int IntKind.u64 4294967295))) fun t2 =>
 Option.bind (aBin Try.prog BinOp.shr 68 false true x1 (A.v (Value.int IntKind.u64 32))) fun t3 =>
 Option.bind (aBin Try.prog BinOp.mul 68 false false t0 t2) fun t4 =>
 Option.bind (aBin Try.prog BinOp.mul 68 false false t1 t2) fun t5 =>
 Option.bind (aBin Try.prog BinOp.shr 68 false true t4 (A.v (Value.int IntKind.u64 32))) fun t6 =>
 Option.bind (aBin Try.prog BinOp.add 68 false false t5 t6) fun t7 =>
 Option.bind (aBin Try.prog BinOp.and 68 false true t7 (A.v (Value.int IntKind.u64 4294967295))) fun t8 =>
 Option.bind (aBin Try.prog BinOp.shr 68 false true t7 (A.v (Value.int IntKind.u64 32))) fun t9 =>
 Option.bind (aBin Try.prog BinOp.mul 68 false false t0 t3) fun t10 =>
 Option.bind (aBin Try.prog BinOp.add 68 false false t8 t10) fun t11 =>
 Option.bind (aBin Try.prog BinOp.mul 68 false false t1 t3) fun t12 =>
 Option.bind (aBin Try.prog BinOp.add 68 false false t12 t9) fun t13 =>
 Option.bind (aBin Try.prog BinOp.shr 68 false true t11 (A.v (Value.int IntKind.u64 32))) fun t14 =>
 Option.bind (aBin Try.prog BinOp.add 68 false false t13 t14) fun t15 =>
 Option.bind (aBin Try.prog BinOp.mul 68 false false x0 x1) fun t16 => some (Out.ret (A.tup [t15, t16]), H) := by kernel_rfl
theorem e11_0 (C : Nat → List A → Option A) (call : CallT) (rg : CallT → CallT) (n lo L : Nat) (kx kg : Nat → St → Option R) (kr : St → Option R) (kp : A → St → Option R) (m : Nat) (x2 x4 x5 x8 x9 x10 : A) (H : Heap) : loopR (cx C) call rg n 11 lo 0 L kx kg kr kp (m + 1) (St.mk [(2, x2), (4, x4), (5, x5), (8, x8), (9, x9), (10, x10)] H) =
 Option.bind (aBin Try.prog BinOp.lss 3 false false x10 x9) fun t0 => bIfN t0 (Option.bind (aIndexAddr Try.prog 22 x8 x10 H) fun t1 =>
 Option.bind (aLoad Try.prog 35 t1 H) fun t2 =>
 Option.bind (aLen Try.prog 35 t2 H) fun t3 =>
 Option.bind (aBin Try.prog BinOp.add 3 true false (A.v (Value.int IntKind.i64 1)) t3) fun t4 =>
 Option.bind (aBin Try.prog BinOp.add 3 false false x5 t4) fun t5 =>
 Option.bind (aBin Try.prog BinOp.add 3 false true x10 (A.v (Value.int IntKind.i64 1))) fun t6 =>
 Option.bind (trim L H) fun H7 => bif bif Nat.beq (List.length H) L then true else keepsUnder L [(10, t6), (19, t6), (5, t5), (18, t5), (17, t4), (16, t3), (15, t2), (14, x5), (7, t2), (13, t2), (12, t1), (11, t0), (2, x2), (4, x4), (5, x5), (8, x8), (9, x9), (10, x10)] [2, 4, 5, 8, 9, 10] then loopR (cx C) call rg n 11 lo 0 L kx kg kr kp m (St.mk [(2, x2), (4, x4), (5, t5), (8, x8), (9, x9), (10, t6)] H7) else none) (kx 0 (St.mk [(2, x2), (4, x4), (5, x5), (8, x8), (9, x9), (10, x10)] H)) := by kernel_rfl
theorem e21_0 (C : Nat → List A → Option A) (call : CallT) (rg : CallT → CallT) (n lo L : Nat) (kx kg : Nat → St → Option R) (kr : St → Option R) (kp : A → St → Option R) (m : Nat) (x2 x3 x4 x5 x6 x9 x10 x57 x58 x59 : A) (H : Heap) : loopR (cx C) call rg n 21 lo 0 L kx kg kr kp (m + 1) (St.mk [(2, x2), (3, x3), (4, x4), (5, x5), (6, x6), (9, x9), (10, x10), (57, x57), (58, x58), (59, x59)] H) =
 Option.bind (aBin Try.prog BinOp.lss 3 false false x59 x58) fun t0 => bIfN t0 (Option.bind (aIndexAddr Try.prog 22 x57 x59 H) fun t1 =>
 Option.bind (aLoad Try.prog 35 t1 H) fun t2 =>
 Option.bind (aSlice Try.prog 35 t2 none (some (A.v (Value.int IntKind.i64 4))) none H) fun t3 =>
 Option.bind (C 41 [snap H t3]) fun t4 =>
 Option.bind (aBin Try.prog BinOp.add 68 false true t4 (A.v (Value.int IntKind.u64 1))) fun t5 =>
 Option.bind (aSlice Try.prog 35 t2 (some (A.v (Value.int IntKind.i64 124))) none none H) fun t6 =>
 Option.bind (C 41 [snap H t6]) fun t7 =>
 Option.bind (aBin Try.prog BinOp.add 68 false true t7 (A.v (Value.int IntKind.u64 1))) fun t8 =>
 Option.bind (aMM false x10 [t5, t8]) fun t9 =>
 Option.bind (aBin Try.prog BinOp.add 3 false true x59 (A.v (Value.int IntKind.i64 1))) fun t10 =>
 Option.bind (trim L H) fun H11 => bif bif Nat.beq (List.length H) L then true else keepsUnder L [(59, t10), (73, t10), (10, t9), (72, t9), (71, t8), (70, t7), (69, t6), (68, t2), (67, t5), (66, t4), (65, t3), (64, t2), (63, x10), (12, t2), (62, t2), (61, t1), (60, t0), (2, x2), (3, x3), (4, x4), (5, x5), (6, x6), (9, x9), (10, x10), (57, x57), (58, x58), (59, x59)] [2, 3, 4, 5, 6, 9, 10, 57, 58, 59] then loopR (cx C) call rg n 21 lo 0 L kx kg kr kp m (St.mk [(2, x2), (3, x3), (4, x4), (5, x5), (6, x6), (9, x9), (10, t9), (57, x57), (58, x58), (59, t10)] H11) else none) (kx 0 (St.mk [(2, x2), (3, x3), (4, x4), (5, x5), (6, x6), (9, x9), (10, x10), (57, x57), (58, x58), (59, x59)] H)) := by kernel_rfl
theorem e21_1 (C : Nat → List A → Option A) (call : CallT) (rg : CallT → CallT) (n lo L : Nat) (kx kg : Nat → St → Option R) (kr : St → Option R) (kp : A → St → Option R) (m : Nat) (x2 x3 x4 x5 x6 x10 x13 x108 x109 x110 : A) (H : Heap) : loopR (cx C) call rg n 21 lo 1 L kx kg kr kp (m + 1) (St.mk [(2, x2), (3, x3), (4, x4), (5, x5), (6, x6), (10, x10), (13, x13), (108, x108), (109, x109), (110, x110)] H) =
 Option.bind (aBin Try.prog BinOp.lss 3 false false x110 x109) fun t0 => bIfN t0 (Option.bind (aIndexAddr Try.prog 22 x108 x110 H) fun t1 =>
 Option.bind (aLoad Try.prog 35 t1 H) fun t2 =>
 Option.bind (C 35 [snap H t2]) fun t3 => loopR (cx C) call rg n 21 lo 2 (List.length H) (fun i4 s4 => bif Nat.beq i4 4 then
 Option.bind (aBin Try.prog BinOp.add 3 false true (look (St.fr s4) 110) (A.v (Value.int IntKind.i64 1))) fun t5 =>
 Option.bind (trim L (St.H s4)) fun H6 => bif bif Nat.beq (List.length (St.H s4)) L then true else keepsUnder L ((110, t5) :: (150, t5) :: St.fr s4) [2, 3, 4, 5, 6, 10, 13, 108, 109, 110] then loopR (cx C) call rg n 21 lo 1 L kx kg kr kp m (St.mk [(2, look (St.fr s4) 2), (3, look (St.fr s4) 3), (4, look (St.fr s4) 4), (5, look (St.fr s4) 5), (6, look (St.fr s4) 6), (10, look (St.fr s4) 10), (13, look (St.fr s4) 13), (108, look (St.fr s4) 108), (109, look (St.fr s4) 109), (110, t5)] H6) else none else bif Nat.beq i4 3 then
 Option.bind (aBin Try.prog BinOp.add 3 false true (look (St.fr s4) 110) (A.v (Value.int IntKind.i64 1))) fun t5 =>
 Option.bind (trim L (St.H s4)) fun H6 => bif bif Nat.beq (List.length (St.H s4)) L then true else keepsUnder L ((110, t5) :: (150, t5) :: St.fr s4) [2, 3, 4, 5, 6, 10, 13, 108, 109, 110] then loopR (cx C) call rg n 21 lo 1 L kx kg kr kp m (St.mk [(2, look (St.fr s4) 2), (3, look (St.fr s4) 3), (4, look (St.fr s4) 4), (5, look (St.fr s4) 5), (6, look (St.fr s4) 6), (10, look (St.fr s4) 10), (13, look (St.fr s4) 13), (108, look (St.fr s4) 108), (109, look (St.fr s4) 109), (110, t5)] H6) else none else kx i4 (St.mk [(2, look (St.fr s4) 2), (3, look (St.fr s4) 3), (4, look (St.fr s4) 4), (5, look (St.fr s4) 5), (6, look (St.fr s4) 6), (10, look (St.fr s4) 10), (13, look (St.fr s4) 13), (108, look (St.fr s4) 108), (109, look (St.fr s4) 109), (110, look (St.fr s4) 110)] (St.H s4))) (fun i4 s4 => kg i4 (St.mk [(2, look (St.fr s4) 2), (3, look (St.fr s4) 3), (4, look (St.fr s4) 4), (5, look (St.fr s4) 5), (6, look (St.fr s4) 6), (10, look (St.fr s4) 10), (13, look (St.fr s4) 13), (108, look (St.fr s4) 108), (109, look (St.fr s4) 109), (110, look (St.fr s4) 110)] (St.H s4))) (fun a4 => kr (St.mk [(2, look (St.fr a4) 2), (3, look (St.fr a4) 3), (4, look (St.fr a4) 4), (5, look (St.fr a4) 5), (6, look (St.fr a4) 6), (10, look (St.fr a4) 10), (13, look (St.fr a4) 13), (108, look (St.fr a4) 108), (109, look (St.fr a4) 109), (110, look (St.fr a4) 110)] (St.H a4))) (fun i4 s4 => kp i4 (St.mk [(2, look (St.fr s4) 2), (3, look (St.fr s4) 3), (4, look (St.fr s4) 4), (5, look (St.fr s4) 5), (6, look (St.fr s4) 6), (10, look (St.fr s4) 10), (13, look (St.fr s4) 13), (108, look (St.fr s4) 108), (109, look (St.fr s4) 109), (110, look (St.fr s4) 110)] (St.H s4))) n (St.mk [(2, x2), (3, x3), (4, x4), (5, x5), (6, x6), (10, x10), (13, x13), (15, t2), (16, A.v (Value.int IntKind.u8 1)), (17, t3), (108, x108), (109, x109), (110, x110)] H)) (kx 2 (St.mk [(2, x2), (3, x3), (4, x4), (5, x5), (6, x6), (10, x10), (13, x13), (108, x108), (109, x109), (110, x110)] H)) := by kernel_rfl
theorem e21_2 (C : Nat → List A → Option A) (call : CallT) (rg : CallT → CallT) (n lo L : Nat) (kx kg : Nat → St → Option R) (kr : St → Option R) (kp : A → St → Option R) (m : Nat) (x2 x3 x4 x5 x6 x10 x13 x15 x16 x17 x108 x109 x110 : A) (H : Heap) : loopR (cx C) call rg n 21 lo 2 L kx kg kr kp (m + 1) (St.mk [(2, x2), (3, x3), (4, x4), (5, x5), (6, x6), (10, x10), (13, x13), (15, x15), (16, x16), (17, x17), (108, x108), (109, x109), (110, x110)] H) =
 Option.bind (aBin Try.prog BinOp.gtr 3 false true x17 (A.v (Value.int IntKind.i64 0))) fun t0 => bIfN t0 (Option.bind (aBin Try.prog BinOp.eql 3 false true x17 (A.v (Value.int IntKind.i64 1))) fun t1 => bIfN t1 (Option.bind (aBin Try.prog BinOp.or 5 false true x16 (A.v (Value.int IntKind.u8 2))) fun t2 =>
 Option.bind (aLen Try.prog 35 x15 H) fun t3 =>
 Option.bind (aMM true t3 [A.v (Value.int IntKind.i64 112)]) fun t4 =>
 Option.bind (aLoad Try.prog 25 x3 H) fun t5 =>
 Option.bind (aSlice Try.prog 35 x15 none (some t4) none H) fun t6 =>
 Option.bind (C 44 [snap H x10, snap H x13, snap H t2, snap H t6]) fun t7 =>
 Option.bind (C 26 [snap H t5, snap H x13, snap H t7]) fun t8 =>
 Option.bind (aExtract t8 0) fun t9 =>
 Option.bind (aExtract t8 1) fun t10 =>
 Option.bind (aStore Try.prog 25 x3 (stV x3 H t9) H lo) fun H11 =>
 Option.bind (aBin Try.prog BinOp.neq 30 false true t10 (A.v (Value.int IntKind.i64 0))) fun t12 => bIfN t12 (Option.bind (aBuild Try.prog 29 []) fun t13 =>
 Option.bind (aBuild Try.prog 25 []) fun t14 =>
 Option.bind (aStore Try.prog 29 x4 (stV x4 H11 t13) H11 lo) fun H15 =>
 Option.bind (aStore Try.prog 25 x5 (stV x5 H15 t14) H15 lo) fun H16 => kr (St.mk [(2, x2), (3, x3), (4, x4), (5, x5), (6, t10), (10, x10), (13, x13), (15, x15), (16, t2), (17, x17), (108, x108), (109, x109), (110, x110)] H16)) (Option.bind (aSlice Try.prog 35 x15 (some t4) none none H11) fun t13 =>
 Option.bind (aBin Try.prog BinOp.add 3 false true x13 (A.v (Value.int IntKind.i64 1))) fun t14 =>
 Option.bind (aBin Try.prog BinOp.sub 3 false true x17 (A.v (Value.int IntKind.i64 1))) fun t15 =>
 Option.bind (trim L H11) fun H16 => bif bif Nat.beq (List.length H11) L then true else keepsUnder L [(17, t15), (119, t15), (118, x17), (13, t14), (149, t14), (148, x13), (16, A.v (Value.int IntKind.u8 0)), (15, t13), (147, t13), (146, t4), (145, x15), (141, t12), (140, t10), (6, t10), (139, t10), (138, t9), (127, t8), (137, t8), (136, t7), (135, t6), (134, t4), (133, x15), (132, t2), (131, x13), (130, x10), (129, x13), (128, t5), (18, t4), (126, t4), (125, t3), (124, x15), (16, t2), (123, t2), (122, x16), (121, t1), (120, x17), (117, t0), (116, x17), (2, x2), (3, x3), (4, x4), (5, x5), (6, x6), (10, x10), (13, x13), (15, x15), (16, x16), (17, x17), (108, x108), (109, x109), (110, x110)] [2, 3, 4, 5, 6, 10, 13, 15, 16, 17, 108, 109, 110] then loopR (cx C) call rg n 21 lo 2 L kx kg kr kp m (St.mk [(2, x2), (3, x3), (4, x4), (5, x5), (6, t10), (10, x10), (13, t14), (15, t13), (16, A.v (Value.int IntKind.u8 0)), (17, t15), (108, x108), (109, x109), (110, x110)] H16) else none)) (Option.bind (aLen Try.prog 35 x15 H) fun t2 =>
 Option.bind (aMM true t2 [A.v (Value.int IntKind.i64 112)]) fun t3 =>
 Option.bind (aLoad Try.prog 25 x3 H) fun t4 =>
 Option.bind (aSlice Try.prog 35 x15 none (some t3) none H) fun t5 =>
 Option.bind (C 44 [snap H x10, snap H x13, snap H x16, snap H t5]) fun t6 =>
 Option.bind (C 26 [snap H t4, snap H x13, snap H t6]) fun t7 =>
 Option.bind (aExtract t7 0) fun t8 =>
 Option.bind (aExtract t7 1) fun t9 =>
 Option.bind (aStore Try.prog 25 x3 (stV x3 H t8) H lo) fun H10 =>
 Option.bind (aBin Try.prog BinOp.neq 30 false true t9 (A.v (Value.int IntKind.i64 0))) fun t11 => bIfN t11 (Option.bind (aBuild Try.prog 29 []) fun t12 =>
 Option.bind (aBuild Try.prog 25 []) fun t13 =>
 Option.bind (aStore Try.prog 29 x4 (stV x4 H10 t12) H10 lo) fun H14 =>
 Option.bind (aStore Try.prog 25 x5 (stV x5 H14 t13) H14 lo) fun H15 => kr (St.mk [(2, x2), (3, x3), (4, x4), (5, x5), (6, t9), (10, x10), (13, x13), (15, x15), (16, x16), (17, x17), (108, x108), (109, x109), (110, x110)] H15)) (Option.bind (aSlice Try.prog 35 x15 (some t3) none none H10) fun t12 =>
 Option.bind (aBin Try.prog BinOp.add 3 false true x13 (A.v (Value.int IntKind.i64 1))) fun t13 =>
 Option.bind (aBin Try.prog BinOp.sub 3 false true x17 (A.v (Value.int IntKind.i64 1))) fun t14 =>
 Option.bind (trim L H10) fun H15 => bif bif Nat.beq (List.length H10) L then true else keepsUnder L [(17, t14), (119, t14), (118, x17), (13, t13), (149, t13), (148, x13), (16, A.v (Value.int IntKind.u8 0)), (15, t12), (147, t12), (146, t3), (145, x15), (141, t11), (140, t9), (6, t9), (139, t9), (138, t8), (127, t7), (137, t7), (136, t6), (135, t5), (134, t3), (133, x15), (132, x16), (131, x13), (130, x10), (129, x13), (128, t4), (18, t3), (126, t3), (125, t2), (124, x15), (121, t1), (120, x17), (117, t0), (116, x17), (2, x2), (3, x3), (4, x4), (5, x5), (6, x6), (10, x10), (13, x13), (15, x15), (16, x16), (17, x17), (108, x108), (109, x109), (110, x110)] [2, 3, 4, 5, 6, 10, 13, 15, 16, 17, 108, 109, 110] then loopR (cx C) call rg n 21 lo 2 L kx kg kr kp m (St.mk [(2, x2), (3, x3), (4, x4), (5, x5), (6, t9), (10, x10), (13, t13), (15, t12), (16, A.v (Value.int IntKind.u8 0)), (17, t14), (108, x108), (109, x109), (110, x110)] H15) else none))) (kx 4 (St.mk [(2, x2), (3, x3), (4, x4), (5, x5), (6, x6), (10, x10), (13, x13), (15, x15), (16, x16), (17, x17), (108, x108), (109, x109), (110, x110)] H)) := by kernel_rfl
theorem e24_0 (C : Nat → List A → Option A) (call : CallT) (rg : CallT → CallT) (n lo L : Nat) (kx kg : Nat → St → Option R) (kr : St → Option R) (kp : A → St → Option R) (m : Nat) (x0 x1 x4 x5 : A) (H : Heap) : loopR (cx C) call rg n 24 lo 0 L kx kg kr kp (m + 1) (St.mk [(0, x0), (1, x1), (4, x4), (5, x5)] H) =
 Option.bind (aLen Try.prog 22 x0 H) fun t0 =>
 Option.bind (aBin Try.prog BinOp.lss 3 false false x5 t0) fun t1 => bIfN t1 (Option.bind (aIndexAddr Try.prog 22 x0 x5 H) fun t2 =>
 Option.bind (aLoad Try.prog 35 t2 H) fun t3 =>
 Option.bind (aConvert Try.prog 35 9 t3 H) fun t4 =>
 Option.bind (aIndexAddr Try.prog 22 x1 x5 H) fun t5 =>
 Option.bind (aLoad Try.prog 35 t5 H) fun t6 =>
 Option.bind (aConvert Try.prog 35 9 t6 H) fun t7 =>
 Option.bind (aBin Try.prog BinOp.neq 9 false false t4 t7) fun t8 => bIfN t8 (kr (St.mk [(0, x0), (1, x1), (4, A.v (Value.bool false)), (5, x5)] H)) (Option.bind (aBin Try.prog BinOp.add 3 false true x5 (A.v (Value.int IntKind.i64 1))) fun t9 =>
 Option.bind (trim L H) fun H10 => bif bif Nat.beq (List.length H) L then true else keepsUnder L [(5, t9), (16, t9), (15, x5), (27, t8), (26, t7), (25, t6), (24, t5), (23, x5), (22, x1), (21, t4), (20, t3), (19, t2), (18, x5), (17, x0), (14, t1), (13, t0), (12, x0), (11, x5), (0, x0), (1, x1), (4, x4), (5, x5)] [0, 1, 4, 5] then loopR (cx C) call rg n 24 lo 0 L kx kg kr kp m (St.mk [(0, x0), (1, x1), (4, x4), (5, t9)] H10) else none)) (kx 0 (St.mk [(0, x0), (1, x1), (4, x4), (5, x5)] H)) := by kernel_rfl
theorem e33_0 (C : Nat → List A → Option A) (call : CallT) (rg : CallT → CallT) (n lo L : Nat) (kx kg : Nat → St → Option R) (kr : St → Option R) (kp : A → St → Option R) (m : Nat) (x1 x2 x3 x4 : A) (H : Heap) : loopR (cx C) call rg n 33 lo 0 L kx kg kr kp (m + 1) (St.mk [(1, x1), (2, x2), (3, x3), (4, x4)] H) =
 Option.bind (aBin Try.prog BinOp.lss 3 false false x4 x3) fun t0 => bIfN t0 (Option.bind (aFieldAddr Try.prog 25 x1 0 H) fun t1 =>
 Option.bind (aLoad Try.prog 22 t1 H) fun t2 =>
 Option.bind (aIndexAddr Try.prog 22 t2 x4 H) fun t3 =>
 Option.bind (aLoad Try.prog 35 t3 H) fun t4 =>
 Option.bind (aLen Try.prog 35 t4 H) fun t5 =>
 Option.bind (aBin Try.prog BinOp.neq 3 false true t5 (A.v (Value.int IntKind.i64 128))) fun t6 => bIfN t6 (kr (St.mk [(1, x1), (2, A.v (Value.int IntKind.i64 40)), (3, x3), (4, x4)] H)) (Option.bind (aBin Try.prog BinOp.add 3 false true x4 (A.v (Value.int IntKind.i64 1))) fun t7 =>
 Option.bind (trim L H) fun H8 => bif bif Nat.beq (List.length H) L then true else keepsUnder L [(4, t7), (36, t7), (35, x4), (43, t6), (42, t5), (41, t4), (40, t3), (39, x4), (38, t2), (37, t1), (34, t0), (33, x3), (32, x4), (1, x1), (2, x2), (3, x3), (4, x4)] [1, 2, 3, 4] then loopR (cx C) call rg n 33 lo 0 L kx kg kr kp m (St.mk [(1, x1), (2, x2), (3, x3), (4, t7)] H8) else none)) (kx 0 (St.mk [(1, x1), (2, x2), (3, x3), (4, x4)] H)) := by kernel_rfl
theorem e33_1 (C : Nat → List A → Option A) (call : CallT) (rg : CallT → CallT) (n lo L : Nat) (kx kg : Nat → St → Option R) (kr : St → Option R) (kp : A → St → Option R) (m : Nat) (x1 x2 x3 x5 : A) (H : Heap) : loopR (cx C) call rg n 33 lo 1 L kx kg kr kp (m + 1) (St.mk [(1, x1), (2, x2), (3, x3), (5, x5)] H) =
 Option.bind (aFieldAddr Try.prog 25 x1 1 H) fun t0 =>
 Option.bind (aLoad Try.prog 23 t0 H) fun t1 =>
 Option.bind (aLen Try.prog 23 t1 H) fun t2 =>
 Option.bind (aBin Try.prog BinOp.lss 3 false false x5 t2) fun t3 => bIfN t3 (Option.bind (aFieldAddr Try.prog 25 x1 1 H) fun t4 =>
 Option.bind (aLoad Try.prog 23 t4 H) fun t5 =>
 Option.bind (aIndexAddr Try.prog 23 t5 x5 H) fun t6 =>
 Option.bind (aLoad Try.prog 76 t6 H) fun t7 =>
 Option.bind (aAlloc Try.prog 76 H) fun r8 =>
 Option.bind (aStore Try.prog 76 r8.1 (stV r8.1 r8.2 t7) r8.2 lo) fun H9 =>
 Option.bind (aFieldAddr Try.prog 76 r8.1 0 H9) fun t10 =>
 Option.bind (aLoad Try.prog 3 t10 H9) fun t11 =>
 Option.bind (aBin Try.prog BinOp.lss 3 false true t11 (A.v (Value.int IntKind.i64 0))) fun t12 =>
 Option.bind (bIf t12 (some [A.v (Value.bool true), A.v undef, A.v undef, A.v undef, A.v undef]) (Option.bind (aFieldAddr Try.prog 76 r8.1 0 H9) fun t13 =>
 Option.bind (aLoad Try.prog 3 t13 H9) fun t14 =>
 Option.bind (aBin Try.prog BinOp.geq 3 false false t14 x3) fun t15 => some [t15, t15, x3, t14, t13])) fun l13 => unc l13 fun u14 l14 => unc l14 fun u15 l15 => unc l15 fun u16 l16 => unc l16 fun u17 l17 => unc l17 fun u18 l18 =>
 Option.bind (bIf u14 (some [A.v (Value.bool true), A.v undef, A.v undef, A.v undef, A.v undef]) (Option.bind (aFieldAddr Try.prog 76 r8.1 1 H9) fun t19 =>
 Option.bind (aLoad Try.prog 35 t19 H9) fun t20 =>
 Option.bind (aLen Try.prog 35 t20 H9) fun t21 =>
 Option.bind (aBin Try.prog BinOp.neq 3 false true t21 (A.v (Value.int IntKind.i64 128))) fun t22 => some [t22, t22, t21, t20, t19])) fun l19 => unc l19 fun u20 l20 => unc l20 fun u21 l21 => unc l21 fun u22 l22 => unc l22 fun u23 l23 => unc l23 fun u24 l24 => bIfN u20 (kr (St.mk [(1, x1), (2, A.v (Value.int IntKind.i64 40)), (3, x3), (5, x5)] H9)) (Option.bind (aBin Try.prog BinOp.add 3 false true x5 (A.v (Value.int IntKind.i64 1))) fun t25 =>
 Option.bind (trim L H9) fun H26 => bif bif Nat.beq (List.length H9) L then true else keepsUnder L [(5, t25), (50, t25), (49, x5), (70, u20), (69, u21), (68, u22), (67, u23), (66, u24), (65, u14), (64, u14), (63, u15), (62, u16), (61, u17), (60, u18), (59, t12), (58, t12), (57, t11), (56, t10), (6, r8.1), (55, t7), (54, t6), (53, x5), (52, t5), (51, t4), (48, t3), (47, t2), (46, t1), (45, t0), (44, x5), (1, x1), (2, x2), (3, x3), (5, x5)] [1, 2, 3, 5] then loopR (cx C) call rg n 33 lo 1 L kx kg kr kp m (St.mk [(1, x1), (2, x2), (3, x3), (5, t25)] H26) else none)) (kx 2 (St.mk [(1, x1), (2, x2), (3, x3), (5, x5)] H)) := by kernel_rfl
theorem e34_0 (C : Nat → List A → Option A) (call : CallT) (rg : CallT → CallT) (n lo L : Nat) (kx kg : Nat → St → Option R) (kr : St → Option R) (kp : A → St → Option R) (m : Nat) (x0 x2 x3 x4 x5 : A) (H : Heap) : loopR (cx C) call rg n 34 lo 0 L kx kg kr kp (m + 1) (St.mk [(0, x0), (2, x2), (3, x3), (4, x4), (5, x5)] H) =
 Option.bind (C 62 [snap H x0, snap H x4]) fun t0 =>
 Option.bind (aExtract t0 0) fun t1 =>
 Option.bind (aExtract t0 1) fun t2 =>
 Option.bind (aBin Try.prog BinOp.eql 3 false true t2 (A.v (Value.int IntKind.i64 0))) fun t3 =>
 Option.bind (bIf t3 (some [A.v (Value.bool true), A.v undef, A.v undef, A.v undef, A.v undef, A.v undef, A.v undef, A.v undef, A.v undef]) (Option.bind (aIndexAddr Try.prog 22 x0 x4 H) fun t4 =>
 Option.bind (aLoad Try.prog 35 t4 H) fun t5 =>
 Option.bind (aSlice Try.prog 35 t5 none (some (A.v (Value.int IntKind.i64 4))) none H) fun t6 =>
 Option.bind (C 63 [snap H t6]) fun t7 =>
 Option.bind (aBin Try.prog BinOp.lss 68 false false t7 x5) fun t8 => some [t8, t8, x5, t7, t6, t5, t4, x4, x0])) fun l4 => unc l4 fun u5 l5 => unc l5 fun u6 l6 => unc l6 fun u7 l7 => unc l7 fun u8 l8 => unc l8 fun u9 l9 => unc l9 fun u10 l10 => unc l10 fun u11 l11 => unc l11 fun u12 l12 => unc l12 fun u13 l13 => bIfN u5 (kr (St.mk [(0, x0), (2, x3), (3, x3), (4, x4), (5, x5)] H)) (Option.bind (aIndexAddr Try.prog 22 x0 x4 H) fun t14 =>
 Option.bind (aLoad Try.prog 35 t14 H) fun t15 =>
 Option.bind (aSlice Try.prog 35 t15 none (some (A.v (Value.int IntKind.i64 4))) none H) fun t16 =>
 Option.bind (C 63 [snap H t16]) fun t17 =>
 Option.bind (aBuildSlice Try.prog 22 1 [(0, frzA H t1)]) fun t18 =>
 Option.bind (aAppend Try.prog 22 22 false x3 t18 H lo) fun r19 =>
 Option.bind (aBin Try.prog BinOp.add 3 false false x4 t2) fun t20 =>
 Option.bind (trim L r19.2) fun H21 => bif bif Nat.beq (List.length r19.2) L then true else keepsUnder L [(4, t20), (40, t20), (39, t2), (38, x4), (3, r19.1), (37, r19.1), (36, t18), (35, t1), (34, x3), (5, t17), (33, t17), (32, t16), (31, t15), (30, t14), (29, x4), (28, x0), (26, u5), (25, u6), (24, u7), (23, u8), (22, u9), (21, u10), (20, u11), (19, u12), (18, u13), (17, t3), (16, t3), (15, t2), (7, t2), (6, t1), (14, t2), (13, t1), (9, t0), (12, t0), (11, x4), (10, x0), (0, x0), (2, x2), (3, x3), (4, x4), (5, x5)] [0, 2, 3, 4, 5] then loopR (cx C) call rg n 34 lo 0 L kx kg kr kp m (St.mk [(0, x0), (2, x2), (3, r19.1), (4, t20), (5, t17)] H21) else none) := by kernel_rfl
theorem e36_0 (C : Nat → List A → Option A) (call : CallT) (rg : CallT → CallT) (n lo L : Nat) (kx kg : Nat → St → Option R) (kr : St → Option R) (kp : A → St → Option R) (m : Nat) (x2 x5 x6 x7 : A) (H : Heap) : loopR (cx C) call rg n 36 lo 0 L kx kg kr kp (m + 1) (St.mk [(2, x2), (5, x5), (6, x6), (7, x7)] H) =
 Option.bind (aBin Try.prog BinOp.lss 3 false false x7 x6) fun t0 => bIfN t0 (Option.bind (aIndexAddr Try.prog 22 x5 x7 H) fun t1 =>
 Option.bind (aLoad Try.prog 35 t1 H) fun t2 =>
 Option.bind (C 35 [snap H t2]) fun t3 =>
 Option.bind (aBin Try.prog BinOp.add 3 false false x2 t3) fun t4 =>
 Option.bind (aBin Try.prog BinOp.add 3 false true x7 (A.v (Value.int IntKind.i64 1))) fun t5 =>
 Option.bind (trim L H) fun H6 => bif bif Nat.beq (List.length H) L then true else keepsUnder L [(7, t5), (15, t5), (2, t4), (14, t4), (13, t3), (12, t2), (11, x2), (4, t2), (10, t2), (9, t1), (8, t0), (2, x2), (5, x5), (6, x6), (7, x7)] [2, 5, 6, 7] then loopR (cx C) call rg n 36 lo 0 L kx kg kr kp m (St.mk [(2, t4), (5, x5), (6, x6), (7, t5)] H6) else none) (kx 0 (St.mk [(2, x2), (5, x5), (6, x6), (7, x7)] H)) := by kernel_rfl
theorem e41_0 (C : Nat → List A → Option A) (call : CallT) (rg : CallT → CallT) (n lo L : Nat) (kx kg : Nat → St → Option R) (kr : St → Option R) (kp : A → St → Option R) (m : Nat) (x2 x5 x6 x7 : A) (H : Heap) : loopR (cx C) call rg n 41 lo 0 L kx kg kr kp (m + 1) (St.mk [(2, x2), (5, x5), (6, x6), (7, x7)] H) =
 Option.bind (aBin Try.prog BinOp.lss 3 false false x7 x6) fun t0 => bIfN t0 (Option.bind (aIndexAddr Try.prog 35 x5 x7 H) fun t1 =>
 Option.bind (aLoad Try.prog 5 t1 H) fun t2 =>
 Option.bind (aBin Try.prog BinOp.shl 68 false true x2 (A.v (Value.int IntKind.u64 8))) fun t3 =>
 Option.bind (aConvert Try.prog 5 68 t2 H) fun t4 =>
 Option.bind (aBin Try.prog BinOp.or 68 false false t3 t4) fun t5 =>
 Option.bind (aBin Try.prog BinOp.add 3 false true x7 (A.v (Value.int IntKind.i64 1))) fun t6 =>
 Option.bind (trim L H) fun H7 => bif bif Nat.beq (List.length H) L then true else keepsUnder L [(7, t6), (16, t6), (2, t5), (15, t5), (14, t4), (13, t2), (12, t3), (11, x2), (4, t2), (10, t2), (9, t1), (8, t0), (2, x2), (5, x5), (6, x6), (7, x7)] [2, 5, 6, 7] then loopR (cx C) call rg n 41 lo 0 L kx kg kr kp m (St.mk [(2, t5), (5, x5), (6, x6), (7, t6)] H7) else none) (kx 0 (St.mk [(2, x2), (5, x5), (6, x6), (7, x7)] H)) := by kernel_rfl
theorem e42_0 (C : Nat → List A → Option A) (call : CallT) (rg : CallT → CallT) (n lo L : Nat) (kx kg : Nat → St → Option R) (kr : St → Option R) (kp : A → St → Option R) (m : Nat) (x1 x2 x6 x15 x16 x17 : A) (H : Heap) : loopR (cx C) call rg n 42 lo 0 L kx kg kr kp (m + 1) (St.mk [(1, x1), (2, x2), (6, x6), (15, x15), (16, x16), (17, x17)] H) =
 Option.bind (aBin Try.prog BinOp.lss 3 false false x17 x16) fun t0 => bIfN t0 (Option.bind (aIndexAddr Try.prog 22 x15 x17 H) fun t1 =>
 Option.bind (aLoad Try.prog 35 t1 H) fun t2 =>
 Option.bind (aIndexAddr Try.prog 22 x1 x17 H) fun t3 =>
 Option.bind (aLoad Try.prog 35 t3 H) fun t4 => dynCall (cx C) call x2 [t2, t4] H lo (fun i5 h5 =>
 Option.bind (aUn Try.prog UnOp.not i5) fun t6 => bIfN t6 (kr (St.mk [(1, x1), (2, x2), (6, A.v (Value.bool false)), (15, x15), (16, x16), (17, x17)] h5)) (Option.bind (aBin Try.prog BinOp.add 3 false true x17 (A.v (Value.int IntKind.i64 1))) fun t7 =>
 Option.bind (trim L h5) fun H8 => bif bif Nat.beq (List.length h5) L then true else keepsUnder L [(17, t7), (31, t7), (30, t6), (29, i5), (28, t4), (27, t2), (26, x2), (9, t4), (25, t4), (24, t3), (23, x17), (22, x1), (8, t2), (7, x17), (21, t2), (20, t1), (19, x17), (18, t0), (1, x1), (2, x2), (6, x6), (15, x15), (16, x16), (17, x17)] [1, 2, 6, 15, 16, 17] then loopR (cx C) call rg n 42 lo 0 L kx kg kr kp m (St.mk [(1, x1), (2, x2), (6, x6), (15, x15), (16, x16), (17, t7)] H8) else none)) fun i5 h5 => kp i5 (St.mk [(1, x1), (2, x2), (6, x6), (15, x15), (16, x16), (17, x17)] h5)) (kx 0 (St.mk [(1, x1), (2, x2), (6, x6), (15, x15), (16, x16), (17, x17)] H)) := by kernel_rfl
theorem e49_0 (C : Nat → List A → Option A) (call : CallT) (rg : CallT → CallT) (n lo L : Nat) (kx kg : Nat → St → Option R) (kr : St → Option R) (kp : A → St → Option R) (m : Nat) (x4 x7 x8 : A) (H : Heap) : loopR (cx C) call rg n 49 lo 0 L kx kg kr kp (m + 1) (St.mk [(4, x4), (7, x7), (8, x8)] H) =
 Option.bind (aLen Try.prog 22 x7 H) fun t0 =>
 Option.bind (aBin Try.prog BinOp.lss 3 false false x8 t0) fun t1 => bIfN t1 (Option.bind (aSlice Try.prog 22 x7 (some x8) none none H) fun t2 =>
 Option.bind (aSlice Try.prog 22 x7 none (some x8) none H) fun t3 =>
 Option.bind (aCopy Try.prog 22 t2 t3 H lo) fun r4 =>
 Option.bind (aBin Try.prog BinOp.add 3 false false x8 r4.1) fun t5 =>
 Option.bind (trim L r4.2) fun H6 => bif bif Nat.beq (List.length r4.2) L then true else keepsUnder L [(8, t5), (46, t5), (45, r4.1), (44, t3), (43, x8), (42, x7), (41, t2), (40, x8), (39, x7), (38, x8), (37, t1), (36, t0), (35, x7), (34, x8), (4, x4), (7, x7), (8, x8)] [4, 7, 8] then loopR (cx C) call rg n 49 lo 0 L kx kg kr kp m (St.mk [(4, x4), (7, x7), (8, t5)] H6) else none) (kx 0 (St.mk [(4, x4), (7, x7), (8, x8)] H)) := by kernel_rfl
theorem e54_0 (C : Nat → List A → Option A) (call : CallT) (rg : CallT → CallT) (n lo L : Nat) (kx kg : Nat → St → Option R) (kr : St → Option R) (kp : A → St → Option R) (m : Nat) (x4 x5 x10 x11 x12 : A) (H : Heap) : loopR (cx C) call rg n 54 lo 0 L kx kg kr kp (m + 1) (St.mk [(4, x4), (5, x5), (10, x10), (11, x11), (12, x12)] H) =
 Option.bind (aBin Try.prog BinOp.lss 3 false false x12 x11) fun t0 => bIfN t0 (Option.bind (aIndexAddr Try.prog 23 x10 x12 H) fun t1 =>
 Option.bind (aLoad Try.prog 76 t1 H) fun t2 =>
 Option.bind (aAlloc Try.prog 76 H) fun r3 =>
 Option.bind (aStore Try.prog 76 r3.1 (stV r3.1 r3.2 t2) r3.2 lo) fun H4 =>
 Option.bind (aFieldAddr Try.prog 76 r3.1 0 H4) fun t5 =>
 Option.bind (aLoad Try.prog 3 t5 H4) fun t6 =>
 Option.bind (aFieldAddr Try.prog 76 r3.1 1 H4) fun t7 =>
 Option.bind (aLoad Try.prog 35 t7 H4) fun t8 =>
 Option.bind (aIndexAddr Try.prog 22 x5 t6 H4) fun t9 =>
 Option.bind (aStore Try.prog 35 t9 (stV t9 H4 t8) H4 lo) fun H10 =>
 Option.bind (aBin Try.prog BinOp.add 3 false true x12 (A.v (Value.int IntKind.i64 1))) fun t11 =>
 Option.bind (trim L H10) fun H12 => bif bif Nat.beq (List.length H10) L then true else keepsUnder L [(12, t11), (22, t11), (21, t9), (20, t8), (19, t7), (18, t6), (17, t5), (16, x5), (7, r3.1), (15, t2), (14, t1), (13, t0), (4, x4), (5, x5), (10, x10), (11, x11), (12, x12)] [4, 5, 10, 11, 12] then loopR (cx C) call rg n 54 lo 0 L kx kg kr kp m (St.mk [(4, x4), (5, x5), (10, x10), (11, x11), (12, t11)] H12) else none) (kx 0 (St.mk [(4, x4), (5, x5), (10, x10), (11, x11), (12, x12)] H)) := by kernel_rfl
theorem e60_0 (C : Nat → List A → Option A) (call : CallT) (rg : CallT → CallT) (n lo L : Nat) (kx kg : Nat → St → Option R) (kr : St → Option R) (kp : A → St → Option R) (m : Nat) (x0 x1 x3 x4 : A) (H : Heap) : loopR (cx C) call rg n 60 lo 0 L kx kg kr kp (m + 1) (St.mk [(0, x0), (1, x1), (3, x3), (4, x4)] H) = loopR (cx C) call rg n 60 lo 1 (List.length (seed1 1 (St.H (St.mk [(0, x0), (1, x1), (3, x3), (4, x4), (5, A.imm [] true), (6, x3)] H)) (look (St.fr (St.mk [(0, x0), (1, x1), (3, x3), (4, x4), (5, A.imm [] true), (6, x3)] H)) (Prod.fst (5, 0, 2)))).2) (fun i0 s0 => bif Nat.beq i0 2 then kr (St.mk [(0, look (St.fr s0) 0), (1, look (St.fr s0) 1), (3, look (St.fr s0) 3), (4, look (St.fr s0) 4)] (St.H s0)) else bif Nat.beq i0 1 then
 Option.bind (trim L (St.H s0)) fun H1 => bif bif Nat.beq (List.length (St.H s0)) L then true else keepsUnder L (St.fr s0) [0, 1, 3, 4] then loopR (cx C) call rg n 60 lo 0 L kx kg kr kp m (St.mk [(0, look (St.fr s0) 0), (1, look (St.fr s0) 1), (3, look (St.fr s0) 3), (4, look (St.fr s0) 4)] H1) else none else kx i0 (St.mk [(0, look (St.fr s0) 0), (1, look (St.fr s0) 1), (3, look (St.fr s0) 3), (4, look (St.fr s0) 4)] (St.H s0))) (fun i0 s0 => kg i0 (St.mk [(0, look (St.fr s0) 0), (1, look (St.fr s0) 1), (3, look (St.fr s0) 3), (4, look (St.fr s0) 4)] (St.H s0))) (fun a0 => kr (St.mk [(0, look (St.fr a0) 0), (1, look (St.fr a0) 1), (3, look (St.fr a0) 3), (4, look (St.fr a0) 4)] (St.H a0))) (fun i0 s0 => kp i0 (St.mk [(0, look (St.fr s0) 0), (1, look (St.fr s0) 1), (3, look (St.fr s0) 3), (4, look (St.fr s0) 4)] (St.H s0))) n (St.mk [(0, x0), (1, x1), (3, x3), (4, x4), (5, (seed1 1 (St.H (St.mk [(0, x0), (1, x1), (3, x3), (4, x4), (5, A.imm [] true), (6, x3)] H)) (look (St.fr (St.mk [(0, x0), (1, x1), (3, x3), (4, x4), (5, A.imm [] true), (6, x3)] H)) (Prod.fst (5, 0, 2)))).1), (6, x3)] (seed1 1 (St.H (St.mk [(0, x0), (1, x1), (3, x3), (4, x4), (5, A.imm [] true), (6, x3)] H)) (look (St.fr (St.mk [(0, x0), (1, x1), (3, x3), (4, x4), (5, A.imm [] true), (6, x3)] H)) (Prod.fst (5, 0, 2)))).2) := by kernel_rfl
theorem e60_1 (C : Nat → List A → Option A) (call : CallT) (rg : CallT → CallT) (n lo L : Nat) (kx kg : Nat → St → Option R) (kr : St → Option R) (kp : A → St → Option R) (m : Nat) (x0 x1 x3 x4 x5 x6 : A) (H : Heap) : loopR (cx C) call rg n 60 lo 1 L kx kg kr kp (m + 1) (St.mk [(0, x0), (1, x1), (3, x3), (4, x4), (5, x5), (6, x6)] H) =
 Option.bind (aLoad Try.prog 22 x1 H) fun t0 =>
 Option.bind (aLen Try.prog 22 t0 H) fun t1 =>
 Option.bind (aBin Try.prog BinOp.lss 3 false false x6 t1) fun t2 => bIfN t2 (Option.bind (aLoad Try.prog 22 x1 H) fun t3 =>
 Option.bind (aIndexAddr Try.prog 22 t3 x6 H) fun t4 =>
 Option.bind (aLoad Try.prog 35 t4 H) fun t5 =>
 Option.bind (C 61 [snap H t5, snap H x6]) fun t6 =>
 Option.bind (aUn Try.prog UnOp.not t6) fun t7 =>
 Option.bind (bIf t7 (some [A.v (Value.bool true), A.v undef, A.v undef, A.v undef, A.v undef, A.v undef, A.v undef, A.v undef, A.v undef, A.v undef]) (Option.bind (aIndexAddr Try.prog 35 t5 (A.v (Value.int IntKind.i64 10)) H) fun t8 =>
 Option.bind (aLoad Try.prog 5 t8 H) fun t9 =>
 Option.bind (aBin Try.prog BinOp.and 5 false true t9 (A.v (Value.int IntKind.u8 1))) fun t10 =>
 Option.bind (aBin Try.prog BinOp.neq 5 false true t10 (A.v (Value.int IntKind.u8 0))) fun t11 =>
 Option.bind (aBin Try.prog BinOp.eql 3 false false x6 x3) fun t12 =>
 Option.bind (aBin Try.prog BinOp.neq 4 false false t11 t12) fun t13 => some [t13, t13, t12, x3, x6, t11, t10, t9, t8, t5])) fun l8 => unc l8 fun u9 l9 => unc l9 fun u10 l10 => unc l10 fun u11 l11 => unc l11 fun u12 l12 => unc l12 fun u13 l13 => unc l13 fun u14 l14 => unc l14 fun u15 l15 => unc l15 fun u16 l16 => unc l16 fun u17 l17 => unc l17 fun u18 l18 =>
 Option.bind (bIf u9 (some [A.v (Value.bool true), A.v undef, A.v undef, A.v undef, A.v undef, A.v undef, A.v undef, A.v undef, A.v undef, A.v undef, A.v undef]) (Option.bind (aSlice Try.prog 35 t5 none (some (A.v (Value.int IntKind.i64 4))) none H) fun t19 =>
 Option.bind (C 41 [snap H t19]) fun t20 =>
 Option.bind (aLoad Try.prog 22 x1 H) fun t21 =>
 Option.bind (aIndexAddr Try.prog 22 t21 x3 H) fun t22 =>
 Option.bind (aLoad Try.prog 35 t22 H) fun t23 =>
 Option.bind (aSlice Try.prog 35 t23 none (some (A.v (Value.int IntKind.i64 4))) none H) fun t24 =>
 Option.bind (C 41 [snap H t24]) fun t25 =>
 Option.bind (aBin Try.prog BinOp.neq 68 false false t20 t25) fun t26 => some [t26, t26, t25, t24, t23, t22, x3, t21, t20, t19, t5])) fun l19 => unc l19 fun u20 l20 => unc l20 fun u21 l21 => unc l21 fun u22 l22 => unc l22 fun u23 l23 => unc l23 fun u24 l24 => unc l24 fun u25 l25 => unc l25 fun u26 l26 => unc l26 fun u27 l27 => unc l27 fun u28 l28 => unc l28 fun u29 l29 => unc l29 fun u30 l30 =>
 Option.bind (gIf u20 false (Option.bind (aSlice Try.prog 35 t5 none (some (A.v (Value.int IntKind.i64 4))) none H) fun t31 =>
 Option.bind (C 41 [snap H t31]) fun t32 => some [x4, t32, t31, t5]) (some [A.v undef, A.v undef, A.v undef, A.v undef])) fun l31 => unc l31 fun u32 l32 => unc l32 fun u33 l33 => unc l33 fun u34 l34 => unc l34 fun u35 l35 =>
 Option.bind (bIf u20 (some [A.v (Value.bool true), A.v undef]) (Option.bind (aBin Try.prog BinOp.lss 68 false false u33 u32) fun t36 => some [t36, t36])) fun l36 => unc l36 fun u37 l37 => unc l37 fun u38 l38 => bIfN u37 (kr (St.mk [(0, x0), (1, x1), (3, x3), (4, x4), (5, x5), (6, x6)] H)) (Option.bind (aIndexAddr Try.prog 35 t5 (A.v (Value.int IntKind.i64 11)) H) fun t39 =>
 Option.bind (aLoad Try.prog 5 t39 H) fun t40 =>
 Option.bind (aConvert Try.prog 5 3 t40 H) fun t41 =>
 Option.bind (aBin Try.prog BinOp.add 3 true false (A.v (Value.int IntKind.i64 12)) t41) fun t42 =>
 Option.bind (aSlice Try.prog 35 t5 (some (A.v (Value.int IntKind.i64 12))) (some t42) none H) fun t43 =>
 Option.bind (aAppend Try.prog 35 35 false x5 t43 H lo) fun r44 =>
 Option.bind (aIndexAddr Try.prog 35 t5 (A.v (Value.int IntKind.i64 10)) r44.2) fun t45 =>
 Option.bind (aLoad Try.prog 5 t45 r44.2) fun t46 =>
 Option.bind (aBin Try.prog BinOp.and 5 false true t46 (A.v (Value.int IntKind.u8 2))) fun t47 =>
 Option.bind (aBin Try.prog BinOp.neq 5 false true t47 (A.v (Value.int IntKind.u8 0))) fun t48 => bIfN t48 (Option.bind (aBin Try.prog BinOp.add 3 false true x6 (A.v (Value.int IntKind.i64 1))) fun t49 =>
 Option.bind (aSlice Try.prog 35 t5 none (some (A.v (Value.int IntKind.i64 4))) none r44.2) fun t50 =>
 Option.bind (C 41 [snap r44.2 t50]) fun t51 => dynCall (cx C) call x0 [t49, r44.1] r44.2 lo (fun i52 h52 =>
 Option.bind (aUn Try.prog UnOp.not i52) fun t53 => bIfN t53 (kr (St.mk [(0, x0), (1, x1), (3, t49), (4, t51), (5, r44.1), (6, x6)] h52)) (kx 1 (St.mk [(0, x0), (1, x1), (3, t49), (4, t51), (5, r44.1), (6, x6)] h52))) fun i52 h52 => kp i52 (St.mk [(0, x0), (1, x1), (3, t49), (4, t51), (5, r44.1), (6, x6)] h52)) (Option.bind (aBin Try.prog BinOp.add 3 false true x6 (A.v (Value.int IntKind.i64 1))) fun t49 =>
 Option.bind (trim L r44.2) fun H50 => bif bif Nat.beq (List.length r44.2) L then true else keepsUnder L [(6, t49), (14, t49), (13, x6), (66, t48), (65, t47), (64, t46), (63, t45), (62, t5), (5, r44.1), (61, r44.1), (60, t43), (59, t42), (58, t41), (57, t40), (56, t39), (55, t5), (54, t5), (53, x5), (52, u37), (51, u38), (50, u32), (49, u33), (48, u34), (47, u35), (46, u20), (45, u20), (44, u21), (43, u22), (42, u23), (41, u24), (40, u25), (39, u26), (38, u27), (37, u28), (36, u29), (35, u30), (34, u9), (33, u9), (32, u10), (31, u11), (30, u12), (29, u13), (28, u14), (27, u15), (26, u16), (25, u17), (24, u18), (23, t7), (22, t7), (21, t6), (20, x6), (19, t5), (7, t5), (18, t5), (17, t4), (16, x6), (15, t3), (12, t2), (11, t1), (10, t0), (9, x6), (0, x0), (1, x1), (3, x3), (4, x4), (5, x5), (6, x6)] [0, 1, 3, 4, 5, 6] then loopR (cx C) call rg n 60 lo 1 L kx kg kr kp m (St.mk [(0, x0), (1, x1), (3, x3), (4, x4), (5, r44.1), (6, t49)] H50) else none))) (kx 2 (St.mk [(0, x0), (1, x1), (3, x3), (4, x4), (5, x5), (6, x6)] H)) := by kernel_rfl
theorem e62_0 (C : Nat → List A → Option A) (call : CallT) (rg : CallT → CallT) (n lo L : Nat) (kx kg : Nat → St → Option R) (kr : St → Option R) (kp : A → St → Option R) (m : Nat) (x0 x1 x4 x5 x6 x7 : A) (H : Heap) : loopR (cx C) call rg n 62 lo 0 L kx kg kr kp (m + 1) (St.mk [(0, x0), (1, x1), (4, x4), (5, x5), (6, x6), (7, x7)] H) =
 Option.bind (aBin Try.prog BinOp.add 3 false false x1 x7) fun t0 =>
 Option.bind (aLen Try.prog 22 x0 H) fun t1 =>
 Option.bind (aBin Try.prog BinOp.lss 3 false false t0 t1) fun t2 => bIfN t2 (Option.bind (aBin Try.prog BinOp.add 3 false false x1 x7) fun t3 =>
 Option.bind (aIndexAddr Try.prog 22 x0 t3 H) fun t4 =>
 Option.bind (aLoad Try.prog 35 t4 H) fun t5 =>
 Option.bind (aBin Try.prog BinOp.add 3 false false x1 x7) fun t6 =>
 Option.bind (C 72 [snap H t5, snap H t6]) fun t7 =>
 Option.bind (aUn Try.prog UnOp.not t7) fun t8 =>
 Option.bind (bIf t8 (some [A.v (Value.bool true), A.v undef, A.v undef, A.v undef, A.v undef, A.v undef, A.v undef, A.v undef, A.v undef]) (Option.bind (aIndexAddr Try.prog 35 t5 (A.v (Value.int IntKind.i64 10)) H) fun t9 =>
 Option.bind (aLoad Try.prog 5 t9 H) fun t10 =>
 Option.bind (aBin Try.prog BinOp.rem 5 false true t10 (A.v (Value.int IntKind.u8 2))) fun t11 =>
 Option.bind (aBin Try.prog BinOp.eql 5 false true t11 (A.v (Value.int IntKind.u8 1))) fun t12 =>
 Option.bind (aBin Try.prog BinOp.eql 3 false true x7 (A.v (Value.int IntKind.i64 0))) fun t13 =>
 Option.bind (aBin Try.prog BinOp.neq 4 false false t12 t13) fun t14 => some [t14, t14, t13, x7, t12, t11, t10, t9, t5])) fun l9 => unc l9 fun u10 l10 => unc l10 fun u11 l11 => unc l11 fun u12 l12 => unc l12 fun u13 l13 => unc l13 fun u14 l14 => unc l14 fun u15 l15 => unc l15 fun u16 l16 => unc l16 fun u17 l17 => unc l17 fun u18 l18 =>
 Option.bind (gIf u10 false (Option.bind (aBin Try.prog BinOp.gtr 3 false true x7 (A.v (Value.int IntKind.i64 0))) fun t19 =>
 Option.bind (gIf t19 true (Option.bind (aSlice Try.prog 35 t5 none (some (A.v (Value.int IntKind.i64 4))) none H) fun t20 =>
 Option.bind (C 63 [snap H t20]) fun t21 =>
 Option.bind (aIndexAddr Try.prog 22 x0 x1 H) fun t22 =>
 Option.bind (aLoad Try.prog 35 t22 H) fun t23 =>
 Option.bind (aSlice Try.prog 35 t23 none (some (A.v (Value.int IntKind.i64 4))) none H) fun t24 => some [t24, t23, t22, x1, x0, t21, t20, t5]) (some [A.v undef, A.v undef, A.v undef, A.v undef, A.v undef, A.v undef, A.v undef, A.v undef])) fun l20 => unc l20 fun u21 l21 => unc l21 fun u22 l22 => unc l22 fun u23 l23 => unc l23 fun u24 l24 => unc l24 fun u25 l25 => unc l25 fun u26 l26 => unc l26 fun u27 l27 => unc l27 fun u28 l28 => some [u21, u22, u23, u24, u25, u26, u27, u28, t19, t19, x7]) (some [A.v undef, A.v undef, A.v undef, A.v undef, A.v undef, A.v undef, A.v undef, A.v undef, A.v undef, A.v undef, A.v undef])) fun l19 => unc l19 fun u20 l20 => unc l20 fun u21 l21 => unc l21 fun u22 l22 => unc l22 fun u23 l23 => unc l23 fun u24 l24 => unc l24 fun u25 l25 => unc l25 fun u26 l26 => unc l26 fun u27 l27 => unc l27 fun u28 l28 => unc l28 fun u29 l29 => unc l29 fun u30 l30 =>
 Option.bind (gIf u28 true (Option.bind (C 63 [snap H u20]) fun t31 =>
 Option.bind (aBin Try.prog BinOp.neq 68 false false u25 t31) fun t32 => some [t32, t31]) (some [A.v undef, A.v undef])) fun l31 => unc l31 fun u32 l32 => unc l32 fun u33 l33 =>
 Option.bind (bIf u10 (some [A.v (Value.bool true), A.v undef]) (Option.bind (bIf u28 (some u32) (some (A.v (Value.bool false)))) fun t34 => some [t34, t34])) fun l34 => unc l34 fun u35 l35 => unc l35 fun u36 l36 => bIfN u35 (kr (St.mk [(0, x0), (1, x1), (4, A.imm [] true), (5, A.v (Value.int IntKind.i64 0)), (6, x6), (7, x7)] H)) (Option.bind (aIndexAddr Try.prog 35 t5 (A.v (Value.int IntKind.i64 11)) H) fun t37 =>
 Option.bind (aLoad Try.prog 5 t37 H) fun t38 =>
 Option.bind (aConvert Try.prog 5 3 t38 H) fun t39 =>
 Option.bind (aBin Try.prog BinOp.add 3 true false (A.v (Value.int IntKind.i64 12)) t39) fun t40 =>
 Option.bind (aSlice Try.prog 35 t5 (some (A.v (Value.int IntKind.i64 12))) (some t40) none H) fun t41 =>
 Option.bind (aAppend Try.prog 35 35 false x6 t41 H lo) fun r42 =>
 Option.bind (aIndexAddr Try.prog 35 t5 (A.v (Value.int IntKind.i64 10)) r42.2) fun t43 =>
 Option.bind (aLoad Try.prog 5 t43 r42.2) fun t44 =>
 Option.bind (aBin Try.prog BinOp.geq 5 false true t44 (A.v (Value.int IntKind.u8 2))) fun t45 => bIfN t45 (Option.bind (aBin Try.prog BinOp.add 3 false true x7 (A.v (Value.int IntKind.i64 1))) fun t46 => kr (St.mk [(0, x0), (1, x1), (4, r42.1), (5, t46), (6, r42.1), (7, x7)] r42.2)) (Option.bind (aBin Try.prog BinOp.add 3 false true x7 (A.v (Value.int IntKind.i64 1))) fun t46 =>
 Option.bind (trim L r42.2) fun H47 => bif bif Nat.beq (List.length r42.2) L then true else keepsUnder L [(7, t46), (17, t46), (16, x7), (68, t45), (67, t44), (66, t43), (65, t5), (6, r42.1), (64, r42.1), (63, t41), (62, t40), (61, t39), (60, t38), (59, t37), (58, t5), (57, t5), (56, x6), (55, u35), (54, u36), (53, u32), (52, u33), (51, u20), (50, u21), (49, u22), (48, u23), (47, u24), (46, u25), (45, u26), (44, u27), (43, u28), (42, u29), (41, u30), (40, u10), (39, u10), (38, u11), (37, u12), (36, u13), (35, u14), (34, u15), (33, u16), (32, u17), (31, u18), (30, t8), (29, t8), (28, t7), (27, t6), (26, x7), (25, x1), (24, t5), (8, t5), (23, t5), (22, t4), (21, t3), (20, x7), (19, x1), (18, x0), (15, t2), (14, t1), (13, x0), (12, t0), (11, x7), (10, x1), (0, x0), (1, x1), (4, x4), (5, x5), (6, x6), (7, x7)] [0, 1, 4, 5, 6, 7] then loopR (cx C) call rg n 62 lo 0 L kx kg kr kp m (St.mk [(0, x0), (1, x1), (4, x4), (5, x5), (6, r42.1), (7, t46)] H47) else none))) (kx 0 (St.mk [(0, x0), (1, x1), (4, x4), (5, x5), (6, x6), (7, x7)] H)) := by kernel_rfl
theorem e63_0 (C : Nat → List A → Option A) (call : CallT) (rg : CallT → CallT) (n lo L : Nat) (kx kg : Nat → St → Option R) (kr : St → Option R) (kp : A → St → Option R) (m : Nat) (x0 x2 x3 x4 : A) (H : Heap) : loopR (cx C) call rg n 63 lo 0 L kx kg kr kp (m + 1) (St.mk [(0, x0), (2, x2), (3, x3), (4, x4)] H) =
 Option.bind (aLen Try.prog 35 x0 H) fun t0 =>
 Option.bind (aBin Try.prog BinOp.lss 3 false false x4 t0) fun t1 => bIfN t1 (Option.bind (aBin Try.prog BinOp.mul 68 true false (A.v (Value.int IntKind.u64 256)) x3) fun t2 =>
 Option.bind (aIndexAddr Try.prog 35 x0 x4 H) fun t3 =>
 Option.bind (aLoad Try.prog 5 t3 H) fun t4 =>
 Option.bind (aConvert Try.prog 5 68 t4 H) fun t5 =>
 Option.bind (aBin Try.prog BinOp.add 68 false false t2 t5) fun t6 =>
 Option.bind (aBin Try.prog BinOp.add 3 false true x4 (A.v (Value.int IntKind.i64 1))) fun t7 =>
 Option.bind (trim L H) fun H8 => bif bif Nat.beq (List.length H) L then true else keepsUnder L [(4, t7), (10, t7), (9, x4), (3, t6), (18, t6), (17, t5), (16, t4), (15, t3), (14, x4), (13, x0), (12, t2), (11, x3), (8, t1), (7, t0), (6, x0), (5, x4), (0, x0), (2, x2), (3, x3), (4, x4)] [0, 2, 3, 4] then loopR (cx C) call rg n 63 lo 0 L kx kg kr kp m (St.mk [(0, x0), (2, x2), (3, t6), (4, t7)] H8) else none) (kx 0 (St.mk [(0, x0), (2, x2), (3, x3), (4, x4)] H)) := by kernel_rfl
theorem e64_0 (C : Nat → List A → Option A) (call : CallT) (rg : CallT → CallT) (n lo L : Nat) (kx kg : Nat → St → Option R) (kr : St → Option R) (kp : A → St → Option R) (m : Nat) (x0 x1 x6 x7 : A) (H : Heap) : loopR (cx C) call rg n 64 lo 0 L kx kg kr kp (m + 1) (St.mk [(0, x0), (1, x1), (6, x6), (7, x7)] H) =
 Option.bind (aBin Try.prog BinOp.lss 3 false false x7 x6) fun t0 => bIfN t0 (Option.bind (aLen Try.prog 35 x0 H) fun t1 =>
 Option.bind (aBin Try.prog BinOp.sub 3 false true t1 (A.v (Value.int IntKind.i64 1))) fun t2 =>
 Option.bind (aBin Try.prog BinOp.sub 3 false false t2 x7) fun t3 =>
 Option.bind (aBin Try.prog BinOp.mul 3 true false (A.v (Value.int IntKind.i64 8)) x7) fun t4 =>
 Option.bind (aBin Try.prog BinOp.shr 68 false false x1 t4) fun t5 =>
 Option.bind (aConvert Try.prog 68 5 t5 H) fun t6 =>
 Option.bind (aIndexAddr Try.prog 35 x0 t3 H) fun t7 =>
 Option.bind (aStore Try.prog 5 t7 (stV t7 H t6) H lo) fun H8 =>
 Option.bind (aBin Try.prog BinOp.add 3 false true x7 (A.v (Value.int IntKind.i64 1))) fun t9 =>
 Option.bind (trim L H8) fun H10 => bif bif Nat.beq (List.length H8) L then true else keepsUnder L [(7, t9), (22, t9), (21, t7), (20, t6), (19, t5), (18, t4), (17, x7), (16, x1), (15, t3), (14, x7), (13, t2), (12, t1), (11, x0), (10, x0), (4, x7), (9, x7), (8, t0), (0, x0), (1, x1), (6, x6), (7, x7)] [0, 1, 6, 7] then loopR (cx C) call rg n 64 lo 0 L kx kg kr kp m (St.mk [(0, x0), (1, x1), (6, x6), (7, t9)] H10) else none) (kx 0 (St.mk [(0, x0), (1, x1), (6, x6), (7, x7)] H)) := by kernel_rfl
theorem e65_0 (C : Nat → List A → Option A) (call : CallT) (rg : CallT → CallT) (n lo L : Nat) (kx kg : Nat → St → Option R) (kr : St → Option R) (kp : A → St → Option R) (m : Nat) (x2 x3 x6 x7 x8 : A) (H : Heap) : loopR (cx C) call rg n 65 lo 0 L kx kg kr kp (m + 1) (St.mk [(2, x2), (3, x3), (6, x6), (7, x7), (8, x8)] H) =
 Option.bind (aBin Try.prog BinOp.lss 3 false false x8 x7) fun t0 => bIfN t0 (Option.bind (aIndexAddr Try.prog 35 x6 x8 H) fun t1 =>
 Option.bind (aLoad Try.prog 5 t1 H) fun t2 =>
 Option.bind (aConvert Try.prog 5 91 t2 H) fun t3 =>
 Option.bind (aBin Try.prog BinOp.xor 91 false false x3 t3) fun t4 => loopR (cx C) call rg n 65 lo 1 (List.length H) (fun i5 s5 => bif Nat.beq i5 2 then
 Option.bind (aBin Try.prog BinOp.add 3 false true (look (St.fr s5) 8) (A.v (Value.int IntKind.i64 1))) fun t6 =>
 Option.bind (trim L (St.H s5)) fun H7 => bif bif Nat.beq (List.length (St.H s5)) L then true else keepsUnder L ((8, t6) :: (25, t6) :: St.fr s5) [2, 3, 6, 7, 8] then loopR (cx C) call rg n 65 lo 0 L kx kg kr kp m (St.mk [(2, look (St.fr s5) 2), (3, look (St.fr s5) 3), (6, look (St.fr s5) 6), (7, look (St.fr s5) 7), (8, t6)] H7) else none else bif Nat.beq i5 1 then
 Option.bind (aBin Try.prog BinOp.add 3 false true (look (St.fr s5) 8) (A.v (Value.int IntKind.i64 1))) fun t6 =>
 Option.bind (trim L (St.H s5)) fun H7 => bif bif Nat.beq (List.length (St.H s5)) L then true else keepsUnder L ((8, t6) :: (25, t6) :: St.fr s5) [2, 3, 6, 7, 8] then loopR (cx C) call rg n 65 lo 0 L kx kg kr kp m (St.mk [(2, look (St.fr s5) 2), (3, look (St.fr s5) 3), (6, look (St.fr s5) 6), (7, look (St.fr s5) 7), (8, t6)] H7) else none else kx i5 (St.mk [(2, look (St.fr s5) 2), (3, look (St.fr s5) 3), (6, look (St.fr s5) 6), (7, look (St.fr s5) 7), (8, look (St.fr s5) 8)] (St.H s5))) (fun i5 s5 => kg i5 (St.mk [(2, look (St.fr s5) 2), (3, look (St.fr s5) 3), (6, look (St.fr s5) 6), (7, look (St.fr s5) 7), (8, look (St.fr s5) 8)] (St.H s5))) (fun a5 => kr (St.mk [(2, look (St.fr a5) 2), (3, look (St.fr a5) 3), (6, look (St.fr a5) 6), (7, look (St.fr a5) 7), (8, look (St.fr a5) 8)] (St.H a5))) (fun i5 s5 => kp i5 (St.mk [(2, look (St.fr s5) 2), (3, look (St.fr s5) 3), (6, look (St.fr s5) 6), (7, look (St.fr s5) 7), (8, look (St.fr s5) 8)] (St.H s5))) n (St.mk [(2, x2), (3, t4), (6, x6), (7, x7), (8, x8), (16, A.v (Value.int IntKind.i64 0))] H)) (kx 0 (St.mk [(2, x2), (3, x3), (6, x6), (7, x7), (8, x8)] H)) := by kernel_rfl
theorem e65_1 (C : Nat → List A → Option A) (call : CallT) (rg : CallT → CallT) (n lo L : Nat) (kx kg : Nat → St → Option R) (kr : St → Option R) (kp : A → St → Option R) (m : Nat) (x2 x3 x6 x7 x8 x16 : A) (H : Heap) : loopR (cx C) call rg n 65 lo 1 L kx kg kr kp (m + 1) (St.mk [(2, x2), (3, x3), (6, x6), (7, x7), (8, x8), (16, x16)] H) =
 Option.bind (aBin Try.prog BinOp.lss 3 false true x16 (A.v (Value.int IntKind.i64 8))) fun t0 => bIfN t0 (Option.bind (aBin Try.prog BinOp.shr 91 false true x3 (A.v (Value.int IntKind.u64 1))) fun t1 =>
 Option.bind (aBin Try.prog BinOp.and 91 false true x3 (A.v (Value.int IntKind.u32 1))) fun t2 =>
 Option.bind (aBin Try.prog BinOp.mul 91 true false (A.v (Value.int IntKind.u32 3988292384)) t2) fun t3 =>
 Option.bind (aBin Try.prog BinOp.xor 91 false false t1 t3) fun t4 =>
 Option.bind (aBin Try.prog BinOp.add 3 false true x16 (A.v (Value.int IntKind.i64 1))) fun t5 =>
 Option.bind (trim L H) fun H6 => bif bif Nat.beq (List.length H) L then true else keepsUnder L [(16, t5), (24, t5), (3, t4), (23, t4), (22, t3), (21, t2), (20, x3), (19, t1), (18, x3), (17, t0), (2, x2), (3, x3), (6, x6), (7, x7), (8, x8), (16, x16)] [2, 3, 6, 7, 8, 16] then loopR (cx C) call rg n 65 lo 1 L kx kg kr kp m (St.mk [(2, x2), (3, t4), (6, x6), (7, x7), (8, x8), (16, t5)] H6) else none) (kx 2 (St.mk [(2, x2), (3, x3), (6, x6), (7, x7), (8, x8), (16, x16)] H)) := by kernel_rfl
theorem e67_0 (C : Nat → List A → Option A) (call : CallT) (rg : CallT → CallT) (n lo L : Nat) (kx kg : Nat → St → Option R) (kr : St → Option R) (kp : A → St → Option R) (m : Nat) (x0 x2 x3 x4 : A) (H : Heap) : loopR (cx C) call rg n 67 lo 0 L kx kg kr kp (m + 1) (St.mk [(0, x0), (2, x2), (3, x3), (4, x4)] H) =
 Option.bind (aLen Try.prog 35 x0 H) fun t0 =>
 Option.bind (aBin Try.prog BinOp.lss 3 false false x4 t0) fun t1 => bIfN t1 (Option.bind (aIndexAddr Try.prog 35 x0 x4 H) fun t2 =>
 Option.bind (aLoad Try.prog 5 t2 H) fun t3 =>
 Option.bind (aConvert Try.prog 5 91 t3 H) fun t4 =>
 Option.bind (aBin Try.prog BinOp.xor 91 false false x3 t4) fun t5 => loopR (cx C) call rg n 67 lo 1 (List.length H) (fun i6 s6 => bif Nat.beq i6 2 then
 Option.bind (aBin Try.prog BinOp.add 3 false true (look (St.fr s6) 4) (A.v (Value.int IntKind.i64 1))) fun t7 =>
 Option.bind (trim L (St.H s6)) fun H8 => bif bif Nat.beq (List.length (St.H s6)) L then true else keepsUnder L ((4, t7) :: (11, t7) :: (10, look (St.fr s6) 4) :: St.fr s6) [0, 2, 3, 4] then loopR (cx C) call rg n 67 lo 0 L kx kg kr kp m (St.mk [(0, look (St.fr s6) 0), (2, look (St.fr s6) 2), (3, look (St.fr s6) 3), (4, t7)] H8) else none else bif Nat.beq i6 1 then
 Option.bind (aBin Try.prog BinOp.add 3 false true (look (St.fr s6) 4) (A.v (Value.int IntKind.i64 1))) fun t7 =>
 Option.bind (trim L (St.H s6)) fun H8 => bif bif Nat.beq (List.length (St.H s6)) L then true else keepsUnder L ((4, t7) :: (11, t7) :: (10, look (St.fr s6) 4) :: St.fr s6) [0, 2, 3, 4] then loopR (cx C) call rg n 67 lo 0 L kx kg kr kp m (St.mk [(0, look (St.fr s6) 0), (2, look (St.fr s6) 2), (3, look (St.fr s6) 3), (4, t7)] H8) else none else kx i6 (St.mk [(0, look (St.fr s6) 0), (2, look (St.fr s6) 2), (3, look (St.fr s6) 3), (4, look (St.fr s6) 4)] (St.H s6))) (fun i6 s6 => kg i6 (St.mk [(0, look (St.fr s6) 0), (2, look (St.fr s6) 2), (3, look (St.fr s6) 3), (4, look (St.fr s6) 4)] (St.H s6))) (fun a6 => kr (St.mk [(0, look (St.fr a6) 0), (2, look (St.fr a6) 2), (3, look (St.fr a6) 3), (4, look (St.fr a6) 4)] (St.H a6))) (fun i6 s6 => kp i6 (St.mk [(0, look (St.fr s6) 0), (2, look (St.fr s6) 2), (3, look (St.fr s6) 3), (4, look (St.fr s6) 4)] (St.H s6))) n (St.mk [(0, x0), (2, x2), (3, t5), (4, x4), (5, A.v (Value.int IntKind.i64 0))] H)) (kx 0 (St.mk [(0, x0), (2, x2), (3, x3), (4, x4)] H)) := by kernel_rfl
theorem e67_1 (C : Nat → List A → Option A) (call : CallT) (rg : CallT → CallT) (n lo L : Nat) (kx kg : Nat → St → Option R) (kr : St → Option R) (kp : A → St → Option R) (m : Nat) (x0 x2 x3 x4 x5 : A) (H : Heap) : loopR (cx C) call rg n 67 lo 1 L kx kg kr kp (m + 1) (St.mk [(0, x0), (2, x2), (3, x3), (4, x4), (5, x5)] H) =
 Option.bind (aBin Try.prog BinOp.lss 3 false true x5 (A.v (Value.int IntKind.i64 8))) fun t0 => bIfN t0 (Option.bind (aBin Try.prog BinOp.rem 91 false true x3 (A.v (Value.int IntKind.u32 2))) fun t1 =>
 Option.bind (aBin Try.prog BinOp.eql 91 false true t1 (A.v (Value.int IntKind.u32 1))) fun t2 => bIfN t2 (Option.bind (aBin Try.prog BinOp.shr 91 false true x3 (A.v (Value.int IntKind.u64 1))) fun t3 =>
 Option.bind (aBin Try.prog BinOp.xor 91 false true t3 (A.v (Value.int IntKind.u32 3988292384))) fun t4 =>
 Option.bind (aBin Try.prog BinOp.add 3 false true x5 (A.v (Value.int IntKind.i64 1))) fun t5 =>
 Option.bind (trim L H) fun H6 => bif bif Nat.beq (List.length H) L then true else keepsUnder L [(5, t5), (22, t5), (21, x5), (3, t4), (28, t4), (27, t3), (26, x3), (25, t2), (24, t1), (23, x3), (20, t0), (19, x5), (0, x0), (2, x2), (3, x3), (4, x4), (5, x5)] [0, 2, 3, 4, 5] then loopR (cx C) call rg n 67 lo 1 L kx kg kr kp m (St.mk [(0, x0), (2, x2), (3, t4), (4, x4), (5, t5)] H6) else none) (Option.bind (aBin Try.prog BinOp.shr 91 false true x3 (A.v (Value.int IntKind.u64 1))) fun t3 =>
 Option.bind (aBin Try.prog BinOp.add 3 false true x5 (A.v (Value.int IntKind.i64 1))) fun t4 =>
 Option.bind (trim L H) fun H5 => bif bif Nat.beq (List.length H) L then true else keepsUnder L [(5, t4), (22, t4), (21, x5), (3, t3), (30, t3), (29, x3), (25, t2), (24, t1), (23, x3), (20, t0), (19, x5), (0, x0), (2, x2), (3, x3), (4, x4), (5, x5)] [0, 2, 3, 4, 5] then loopR (cx C) call rg n 67 lo 1 L kx kg kr kp m (St.mk [(0, x0), (2, x2), (3, t3), (4, x4), (5, t4)] H5) else none)) (kx 2 (St.mk [(0, x0), (2, x2), (3, x3), (4, x4), (5, x5)] H)) := by kernel_rfl
theorem e70_0 (C : Nat → List A → Option A) (call : CallT) (rg : CallT → CallT) (n lo L : Nat) (kx kg : Nat → St → Option R) (kr : St → Option R) (kp : A → St → Option R) (m : Nat) (x0 x1 x4 x7 x8 : A) (H : Heap) : loopR (cx C) call rg n 70 lo 0 L kx kg kr kp (m + 1) (St.mk [(0, x0), (1, x1), (4, x4), (7, x7), (8, x8)] H) =
 Option.bind (aBin Try.prog BinOp.lss 3 false false x8 x7) fun t0 => bIfN t0 (Option.bind (aIndexAddr Try.prog 23 x0 x8 H) fun t1 =>
 Option.bind (aLoad Try.prog 76 t1 H) fun t2 => dynCall (cx C) call x1 [t2] H lo (fun i3 h3 => bIfN i3 (kr (St.mk [(0, x0), (1, x1), (4, x8), (7, x7), (8, x8)] h3)) (Option.bind (aBin Try.prog BinOp.add 3 false true x8 (A.v (Value.int IntKind.i64 1))) fun t4 =>
 Option.bind (trim L h3) fun H5 => bif bif Nat.beq (List.length h3) L then true else keepsUnder L [(8, t4), (18, t4), (16, i3), (15, t2), (14, t1), (13, x8), (12, x0), (11, x1), (5, x8), (10, x8), (9, t0), (0, x0), (1, x1), (4, x4), (7, x7), (8, x8)] [0, 1, 4, 7, 8] then loopR (cx C) call rg n 70 lo 0 L kx kg kr kp m (St.mk [(0, x0), (1, x1), (4, x4), (7, x7), (8, t4)] H5) else none)) fun i3 h3 => kp i3 (St.mk [(0, x0), (1, x1), (4, x4), (7, x7), (8, x8)] h3)) (kx 0 (St.mk [(0, x0), (1, x1), (4, x4), (7, x7), (8, x8)] H)) := by kernel_rfl
theorem e71_0 (C : Nat → List A → Option A) (call : CallT) (rg : CallT → CallT) (n lo L : Nat) (kx kg : Nat → St → Option R) (kr : St → Option R) (kp : A → St → Option R) (m : Nat) (x0 x1 x4 x7 x8 : A) (H : Heap) : loopR (cx C) call rg n 71 lo 0 L kx kg kr kp (m + 1) (St.mk [(0, x0), (1, x1), (4, x4), (7, x7), (8, x8)] H) =
 Option.bind (aBin Try.prog BinOp.lss 3 false false x8 x7) fun t0 => bIfN t0 (Option.bind (aIndexAddr Try.prog 22 x0 x8 H) fun t1 =>
 Option.bind (aLoad Try.prog 35 t1 H) fun t2 => dynCall (cx C) call x1 [t2] H lo (fun i3 h3 => bIfN i3 (kr (St.mk [(0, x0), (1, x1), (4, x8), (7, x7), (8, x8)] h3)) (Option.bind (aBin Try.prog BinOp.add 3 false true x8 (A.v (Value.int IntKind.i64 1))) fun t4 =>
 Option.bind (trim L h3) fun H5 => bif bif Nat.beq (List.length h3) L then true else keepsUnder L [(8, t4), (18, t4), (16, i3), (15, t2), (14, t1), (13, x8), (12, x0), (11, x1), (5, x8), (10, x8), (9, t0), (0, x0), (1, x1), (4, x4), (7, x7), (8, x8)] [0, 1, 4, 7, 8] then loopR (cx C) call rg n 71 lo 0 L kx kg kr kp m (St.mk [(0, x0), (1, x1), (4, x4), (7, x7), (8, t4)] H5) else none)) fun i3 h3 => kp i3 (St.mk [(0, x0), (1, x1), (4, x4), (7, x7), (8, x8)] h3)) (kx 0 (St.mk [(0, x0), (1, x1), (4, x4), (7, x7), (8, x8)] H)) := by kernel_rfl
theorem e72_0 (C : Nat → List A → Option A) (call : CallT) (rg : CallT → CallT) (n lo L : Nat) (kx kg : Nat → St → Option R) (kr : St → Option R) (kp : A → St → Option R) (m : Nat) (x0 x4 x6 : A) (H : Heap) : loopR (cx C) call rg n 72 lo 0 L kx kg kr kp (m + 1) (St.mk [(0, x0), (4, x4), (6, x6)] H) =
 Option.bind (aBin Try.prog BinOp.lss 3 false true x6 (A.v (Value.int IntKind.i64 124))) fun t0 => bIfN t0 (Option.bind (aIndexAddr Try.prog 35 x0 x6 H) fun t1 =>
 Option.bind (aLoad Try.prog 5 t1 H) fun t2 =>
 Option.bind (aBin Try.prog BinOp.neq 5 false true t2 (A.v (Value.int IntKind.u8 0))) fun t3 => bIfN t3 (kr (St.mk [(0, x0), (4, A.v (Value.bool false)), (6, x6)] H)) (Option.bind (aBin Try.prog BinOp.add 3 false true x6 (A.v (Value.int IntKind.i64 1))) fun t4 =>
 Option.bind (trim L H) fun H5 => bif bif Nat.beq (List.length H) L then true else keepsUnder L [(6, t4), (78, t4), (77, x6), (83, t3), (82, t2), (81, t1), (80, x6), (79, x0), (76, t0), (75, x6), (0, x0), (4, x4), (6, x6)] [0, 4, 6] then loopR (cx C) call rg n 72 lo 0 L kx kg kr kp m (St.mk [(0, x0), (4, x4), (6, t4)] H5) else none)) (kx 0 (St.mk [(0, x0), (4, x4), (6, x6)] H)) := by kernel_rfl
theorem e12_r0 (C : Nat → List A → Option A) (call : CallT) (rg : CallT → CallT) (n lo b lo' : Nat) (x2 y0 y1 : A) (H : Heap) : roundR (cx C) call rg n 12 lo 0 b [(2, x2)] [y0, y1] H lo' = bif Nat.ble lo' lo then rdy H b (rdy H b (Option.bind (aFieldAddr Try.prog 29 x2 0 (List.set H b (Blk.rng RSt.busy))) fun t0 =>
 Option.bind (aLoad Try.prog 22 t0 (List.set H b (Blk.rng RSt.busy))) fun t1 =>
 Option.bind (aBuildSlice Try.prog 22 1 [(0, frzA (List.set H b (Blk.rng RSt.busy)) y1)]) fun t2 =>
 Option.bind (aAppend Try.prog 22 22 false t1 t2 (List.set H b (Blk.rng RSt.busy)) lo) fun r3 =>
 Option.bind (aFieldAddr Try.prog 29 x2 0 r3.2) fun t4 =>
 Option.bind (aStore Try.prog 22 t4 (stV t4 r3.2 r3.1) r3.2 lo) fun H5 => bsy H5 b (some (Out.ret (A.v (Value.bool true)), List.set H5 b (Blk.rng RSt.ready))))) else none := by kernel_rfl
theorem e15z (C : Nat → List A → Option A) (call : CallT) (rg : CallT → CallT) (n lo : Nat) (x0 x1 : A) (H : Heap) : evCall1 (cxz C) call rg n 15 [x0, x1] H lo =
 Option.bind (aBox x0 H) fun r0 =>
 Option.bind (aAlloc Try.prog 29 r0.2) fun r1 =>
 Option.bind (aLoad Try.prog 29 r0.1 r1.2) fun t2 =>
 Option.bind (C 17 [snap r1.2 t2]) fun t3 =>
 Option.bind (aBin Try.prog BinOp.neq 30 false true t3 (A.v (Value.int IntKind.i64 0))) fun t4 => bIfN t4 (Option.bind (aBuild Try.prog 29 []) fun t5 =>
 Option.bind (aStore Try.prog 29 r1.1 (stV r1.1 r1.2 t5) r1.2 lo) fun H6 =>
 Option.bind (aLoad Try.prog 29 r1.1 H6) fun t7 => some (Out.ret (A.tup [t7, t3]), H6)) (Option.bind (C 35 [snap r1.2 x1]) fun t5 =>
 Option.bind (aFieldAddr Try.prog 29 r0.1 1 r1.2) fun t6 =>
 Option.bind (aLoad Try.prog 3 t6 r1.2) fun t7 =>
 Option.bind (aFieldAddr Try.prog 29 r0.1 0 r1.2) fun t8 =>
 Option.bind (aLoad Try.prog 22 t8 r1.2) fun t9 =>
 Option.bind (C 36 [snap r1.2 t9]) fun t10 =>
 Option.bind (aBin Try.prog BinOp.sub 3 false false t7 t10) fun t11 =>
 Option.bind (aBin Try.prog BinOp.gtr 3 false false t5 t11) fun t12 => bIfN t12 (Option.bind (aBuild Try.prog 29 []) fun t13 =>
 Option.bind (aStore Try.prog 29 r1.1 (stV r1.1 r1.2 t13) r1.2 lo) fun H14 =>
 Option.bind (aLoad Try.prog 29 r1.1 H14) fun t15 => some (Out.ret (A.tup [t15, A.v (Value.int IntKind.i64 2)]), H14)) (Option.bind (aFieldAddr Try.prog 29 r0.1 0 r1.2) fun t13 =>
 Option.bind (aLoad Try.prog 22 t13 r1.2) fun t14 =>
 Option.bind (call 37 [t14] r1.2 lo) fun H15 => outK H15.1 (fun a16 =>
 Option.bind (C 38 [snap H15.2 x1]) fun t17 =>
 Option.bind (aBuildSlice Try.prog 22 1 [(0, frzA H15.2 t17)]) fun t18 =>
 Option.bind (aAppend Try.prog 22 22 false a16 t18 H15.2 lo) fun r19 =>
 Option.bind (aFieldAddr Try.prog 29 r0.1 0 r19.2) fun t20 =>
 Option.bind (aStore Try.prog 22 t20 (stV t20 r19.2 r19.1) r19.2 lo) fun H21 =>
 Option.bind (aLoad Try.prog 29 r0.1 H21) fun t22 =>
 Option.bind (aStore Try.prog 29 r1.1 (stV r1.1 H21 t22) H21 lo) fun H23 =>
 Option.bind (aLoad Try.prog 29 r1.1 H23) fun t24 => some (Out.ret (A.tup [t24, A.v (Value.int IntKind.i64 0)]), H23)) fun a16 => some (Out.pan a16, H15.2))) := by kernel_rfl
theorem e37z (C : Nat → List A → Option A) (call : CallT) (rg : CallT → CallT) (n lo : Nat) (x0 : A) (H : Heap) : evCall1 (cxz C) call rg n 37 [x0] H lo =
 Option.bind (aLen Try.prog 22 x0 H) fun t0 =>
 Option.bind (aLen Try.prog 22 x0 H) fun t1 =>
 Option.bind (aSlice Try.prog 22 x0 none (some t0) (some t1) H) fun t2 => some (Out.ret t2, H) := by kernel_rfl
end Go.Proofs.Ytobjniabioaefaa
