/-
 The program's functions as plain functions: by a tool; each follows the interpreter.
-/
import Derived.Test.YtmjaehondldaaaaT1
import Derived.KernelRfl
namespace Go.Proofs.Ytmjaehondldaaaa
open Go.Proofs.Try (prog)
set_option linter.unusedVariables false
set_option linter.unusedSimpArgs false
set_option maxHeartbeats 4000000
set_option maxRecDepth 100000
def hk34w_1 : Blk := Blk.box [(iA 0), (iA 0), (A.v (Value.string ByteArray.empty)), (A.imm [] true)]
def hk34w_2 (v232 : Int) (v233 : Int) (v234 : ByteArray) (v235 : (List S_Value)) : Blk := Blk.box [(iA v232), (iA v233), (A.v (Value.string v234)), (A.imm (List.map c_S_Value v235) true)]
def hk34w_3 (v270 : Int) (v271 : Int) (v272 : ByteArray) (v273 : (List S_Value)) : Blk := Blk.box [(iA v270), (iA v271), (A.v (Value.string v272)), (A.imm (List.map c_S_Value v273) true)]
def hk34w_4 (v314 : Int) (v315 : Int) (v316 : ByteArray) (v317 : (List S_Value)) : Blk := Blk.box [(iA v314), (iA v315), (A.v (Value.string v316)), (A.imm (List.map c_S_Value v317) true)]
def hk34w_5 (v352 : Int) (v353 : Int) (v354 : ByteArray) (v355 : (List S_Value)) : Blk := Blk.box [(iA v352), (iA v353), (A.v (Value.string v354)), (A.imm (List.map c_S_Value v355) true)]
def hk34w_6 (v396 : Int) (v397 : Int) (v398 : ByteArray) (v399 : (List S_Value)) : Blk := Blk.box [(iA v396), (iA v397), (A.v (Value.string v398)), (A.imm (List.map c_S_Value v399) true)]
def hk34w_7 (v434 : Int) (v435 : Int) (v436 : ByteArray) (v437 : (List S_Value)) : Blk := Blk.box [(iA v434), (iA v435), (A.v (Value.string v436)), (A.imm (List.map c_S_Value v437) true)]
def hk34w_8 (v170 : Int) (v171 : Int) (v172 : ByteArray) : Blk := Blk.box [(iA v170), (iA v171), (A.v (Value.string v172)), (A.imm [] true)]
def hk34w_9 (v10 : Int) (v11 : Int) (v12 : ByteArray) : Blk := Blk.box [(iA v10), (iA v11), (A.v (Value.string v12)), (A.imm [] true)]
def hk34w_10 (v78 : Int) (v79 : Int) (v80 : ByteArray) : Blk := Blk.box [(iA v78), (iA v79), (A.v (Value.string v80)), (A.imm [] true)]
def hk34w_11 (a1 : (List UInt8)) (y121 : Int) (y120 : Int) (y122 : Bool) : Blk := Blk.box [(A.imm (List.map c8 a1) false), (iA (wr .i64 (y121 + (wr .i64 (y120))))), (bA y122)]
def hk34w_12 (y253 : (List S_Value)) : Blk := Blk.box [(iA 3), (iA 0), (A.v (Value.string ByteArray.empty)), (A.sl 4 0 y253.length false)]
def hk34w_13 (y291 : (List S_Value)) : Blk := Blk.box [(iA 3), (iA 0), (A.v (Value.string ByteArray.empty)), (A.sl 4 0 y291.length false)]
def hk34w_14 (y335 : (List S_Value)) : Blk := Blk.box [(iA 3), (iA 0), (A.v (Value.string ByteArray.empty)), (A.sl 4 0 y335.length false)]
def hk34w_15 (y373 : (List S_Value)) : Blk := Blk.box [(iA 3), (iA 0), (A.v (Value.string ByteArray.empty)), (A.sl 4 0 y373.length false)]
def hk34w_16 (y417 : (List S_Value)) : Blk := Blk.box [(iA 3), (iA 0), (A.v (Value.string ByteArray.empty)), (A.sl 4 0 y417.length false)]
def hk34w_17 (y455 : (List S_Value)) : Blk := Blk.box [(iA 3), (iA 0), (A.v (Value.string ByteArray.empty)), (A.sl 4 0 y455.length false)]
def hk34w_18 (a1 : (List UInt8)) (y136 : Int) (y135 : Int) (a3 : Bool) : Blk := Blk.box [(A.imm (List.map c8 a1) false), (iA (wr .i64 (y136 + (wr .i64 (y135))))), (bA a3)]
def HS34 (C : Nat -> List A -> Option A) (N : Nat) (self : (List UInt8) -> Int -> Bool -> Int -> Option (S_Value × Int × Bool)) : Prop := ∀ (a1 : (List UInt8)) (a2 : Int) (a3 : Bool) (a4 : Int) (X : Heap), J (fun (o : R) (y : (S_Value × Int × Bool)) => o = (Out.ret (A.agg [(iA y.1.Kind), (iA y.1.N), (A.v (Value.string y.1.S)), (A.imm (List.map c_S_Value y.1.L) false)]), [hk34w_1, Blk.box [(A.imm (List.map c8 a1) false), (iA y.2.1), (bA y.2.2)]] ++ X)) (evCall (cx C) N 34 [(A.ptr 1 0), (iA a4)] ([hk34w_1, Blk.box [(A.imm (List.map c8 a1) false), (iA a2), (bA a3)]] ++ X) 0) some (self a1 a2 a3 a4) some
def F34w_49_0 (self : (List UInt8) -> Int -> Bool -> Int -> Option (S_Value × Int × Bool)) (n : Nat) (v4 : Int) (v7 : (List UInt8)) (v9 : Bool) (v10 : Int) (v11 : Int) (v12 : ByteArray) : Nat -> Int -> Int -> Int -> Option ((Int × Int × Bool) ⊕ ((Int × Int) ⊕ (Int)))
 | 0, _, _, _ => none
 | m + 1, v5, v6, v8 => bif (!v9) then (bif (decide (((v7.length : Int)) <= v8)) then ((bif (v6 == 9) then (some false) else (some false)).bind fun y16 => (bif y16 then (some true) else ((bif (decide (0 < v6)) then (some true) else (some false)).bind fun y21 => some y21)).bind fun y24 => bif y24 then (some ((Sum.inl ((0, v8, true))))) else (bif decide (0 <= (wr .i64 (7 * v6))) then (some ((Sum.inl ((wr .u64 (v5 + (shlI .u64 (wr .u64 (Int.tmod 0 128)) (wr .i64 (7 * v6)))), v8, true))))) else none)) else ((getI v7 (wr .i64 ((wr .i64 (v8 + 1)) - 1))).bind fun y32 => (bif (v6 == 9) then (some (decide (1 < ((y32.toNat : Int))))) else (some false)).bind fun y34 => (bif y34 then (some true) else ((bif (decide (0 < v6)) then (some (((y32.toNat : Int)) == 0)) else (some false)).bind fun y39 => some y39)).bind fun y42 => bif y42 then (some ((Sum.inl ((0, wr .i64 (v8 + 1), true))))) else (bif decide (0 <= (wr .i64 (7 * v6))) then (bif (decide (((y32.toNat : Int)) < 128)) then (some ((Sum.inr ((Sum.inl ((wr .u64 (v5 + (shlI .u64 (wr .u64 (Int.tmod ((y32.toNat : Int)) 128)) (wr .i64 (7 * v6)))), wr .i64 (v8 + 1)))))))) else (F34w_49_0 self n v4 v7 v9 v10 v11 v12 m (wr .u64 (v5 + (shlI .u64 (wr .u64 (Int.tmod ((y32.toNat : Int)) 128)) (wr .i64 (7 * v6))))) (wr .i64 (v6 + 1)) (wr .i64 (v8 + 1)))) else none))) else (some ((Sum.inr ((Sum.inr v8)))))
theorem T34w_49_0 (C : Nat -> List A -> Option A) (n : Nat) (self : (List UInt8) -> Int -> Bool -> Int -> Option (S_Value × Int × Bool)) (hS : HS34 C (n+8) self) (v4 : Int) (v7 : (List UInt8)) (v9 : Bool) (v10 : Int) (v11 : Int) (v12 : ByteArray) {ρ γ : Type} {φ : ρ -> γ -> Prop} {kL : R -> Option ρ} {K : ((Int × Int × Bool) ⊕ ((Int × Int) ⊕ (Int))) -> Option γ} (kx kg : Nat -> St -> Option R) (kr : St -> Option R) (kp : A -> St -> Option R) (x0 : ∀ (o0 : Int) (o1 : Int) (o2 : Bool) (s0 : A) (s3 : A) (s4 : A), J φ (kr (St.mk [(0, s0), (2, (A.v (.int .u64 o0))), (3, s3), (4, s4)] [hk34w_1, Blk.box [(A.imm (List.map c8 v7) false), (iA o1), (bA o2)], (hk34w_9 v10 v11 v12)])) kL (K (Sum.inl ((o0, o1, o2)))) some) (x1 : ∀ (o0 : Int) (o1 : Int) (s0 : A) (s3 : A) (s4 : A), J φ (kr (St.mk [(0, s0), (2, (A.v (.int .u64 o0))), (3, s3), (4, s4)] [hk34w_1, Blk.box [(A.imm (List.map c8 v7) false), (iA o1), (bA v9)], (hk34w_9 v10 v11 v12)])) kL (K (Sum.inr ((Sum.inl ((o0, o1)))))) some) (x2 : ∀ (o0 : Int) (s0 : A) (s2 : A) (s3 : A) (s4 : A), J φ (kx 0 (St.mk [(0, s0), (2, s2), (3, s3), (4, s4)] [hk34w_1, Blk.box [(A.imm (List.map c8 v7) false), (iA o0), (bA v9)], (hk34w_9 v10 v11 v12)])) kL (K (Sum.inr ((Sum.inr o0)))) some) :
  ∀ (m : Nat) (v5 : Int) (v6 : Int) (v8 : Int), J φ (loopR (cx C) (ec C n 7) (ey C n 7) (n+7) 49 0 0 3 kx kg kr kp m (St.mk [(0, (A.ptr 1 0)), (2, (A.v (.int .u64 v4))), (3, (A.v (.int .u64 v5))), (4, (iA v6))] [hk34w_1, Blk.box [(A.imm (List.map c8 v7) false), (iA v8), (bA v9)], (hk34w_9 v10 v11 v12)])) kL (F34w_49_0 self n v4 v7 v9 v10 v11 v12 m v5 v6 v8) K := by
 intro m
 induction m with
 | zero => intros; exact .nn
 | succ m ih =>
  intro v5 v6 v8
  refine .lp (e49_0 ..) ?_
  unfold F34w_49_0
  refine .s (A.ptr 1 0) (.s (A.ptr 1 2) (.s (bA v9) (.s (bA (!v9)) ?_)))
  refine .biHN (fun hk13 => ?_) (fun hk13 => ?_)
  ·refine .cl ((evCall_in lt_48).trans (e48 C (evCall (cx C) (n+6)) (evCallY (cx C) (n+6)) (n+6) _ _ _)) ?_
   refine .s (A.ptr 1 0) (.s (A.ptr 1 1) (.s (iA v8) (.s (A.ptr 1 0) (.s (A.ptr 1 0) (.s (A.imm (List.map c8 v7) false) ?_)))))
   refine .st (v := (iA ((v7.length : Int)))) (len_imm (e := 5) (h1 := by kernel_rfl) ..) ?_
   refine .st (v := (bA (decide (((v7.length : Int)) <= v8)))) (aBin_geq ..) ?_
   refine .biHN (fun hk14 => ?_) (fun hk14 => ?_)
   ·refine .s (A.ptr 1 0) (.s (A.ptr 1 2) (.s [hk34w_1, Blk.box [(A.imm (List.map c8 v7) false), (iA v8), (bA true)], (hk34w_9 v10 v11 v12)] ?_))
    refine .cr ?_
    refine .ok ?_
    refine .st (v := (bA (v6 == 9))) (aBin_eql ..) ?_
    refine .bg (fun t (y : Bool) => ∃ j17 j18 : A, t = [(bA y), j17, j18]) ?_ ?_
    ·refine .biH (fun hk15 => ?_) (fun hk15 => ?_)
     ·refine .s (bA false) ?_
      exact .lg ⟨_, _, rfl⟩
     exact .lg ⟨_, _, rfl⟩
    rintro _ y16 ⟨j17, j18, rfl⟩
    iterate 3 refine .uc ?_
    refine .bg (fun t (y : Bool) => ∃ j25 j26 j27 j28 j29 j30 : A, t = [(bA y), j25, j26, j27, j28, j29, j30]) ?_ ?_
    ·refine .biH (fun hk19 => ?_) (fun hk19 => ?_)
     ·exact .lg ⟨_, _, _, _, _, _, rfl⟩
     refine .st (v := (bA (decide (0 < v6)))) (aBin_gtr ..) ?_
     refine .bg (fun t (y : Bool) => ∃ j22 j23 : A, t = [(bA y), j22, j23]) ?_ ?_
     ·refine .biH (fun hk20 => ?_) (fun hk20 => ?_)
      ·refine .s (bA true) ?_
       exact .lg ⟨_, _, rfl⟩
      exact .lg ⟨_, _, rfl⟩
     rintro _ y21 ⟨j22, j23, rfl⟩
     iterate 3 refine .uc ?_
     exact .lg ⟨_, _, _, _, _, _, rfl⟩
    rintro _ y24 ⟨j25, j26, j27, j28, j29, j30, rfl⟩
    iterate 7 refine .uc ?_
    refine .biHN (fun hk31 => ?_) (fun hk31 => ?_)
    ·refine .s (A.ptr 1 0) (.s (A.ptr 1 2) (.s [hk34w_1, Blk.box [(A.imm (List.map c8 v7) false), (iA v8), (bA true)], (hk34w_9 v10 v11 v12)] ?_))
     exact .ex (x0 _ _ _ _ _ _)
    refine .st (v := (uA (Int.tmod 0 128))) (aBin_rem (hb := by decide) ..) ?_
    refine .st (v := (A.v (.int .u64 (wr .u64 (Int.tmod 0 128))))) (aConvert_int (hs := by kernel_rfl) (hd := by kernel_rfl) ..) ?_
    refine .st (v := (iA (wr .i64 (7 * v6)))) (aBin_mul ..) ?_
    refine .gd fun hg => ?_
    refine .st (v := (A.v (.int .u64 (shlI .u64 (wr .u64 (Int.tmod 0 128)) (wr .i64 (7 * v6)))))) (aBin_shl (hb := of_decide_eq_true hg) ..) ?_
    refine .st (v := (A.v (.int .u64 (wr .u64 (v5 + (shlI .u64 (wr .u64 (Int.tmod 0 128)) (wr .i64 (7 * v6)))))))) (aBin_add ..) ?_
    refine .s (bA true) ?_
    refine .bTN ?_
    exact .ex (x0 _ _ _ _ _ _)
   refine .s (A.ptr 1 0) (.s (A.ptr 1 1) (.s (iA v8) ?_))
   refine .st (v := (iA (wr .i64 (v8 + 1)))) (aBin_add ..) ?_
   refine .s (A.ptr 1 0) (.s (A.ptr 1 1) (.s [hk34w_1, Blk.box [(A.imm (List.map c8 v7) false), (iA (wr .i64 (v8 + 1))), (bA v9)], (hk34w_9 v10 v11 v12)] (.s (A.ptr 1 0) (.s (A.ptr 1 0) (.s (A.imm (List.map c8 v7) false) (.s (A.ptr 1 0) (.s (A.ptr 1 1) (.s (iA (wr .i64 (v8 + 1))) ?_))))))))
   refine .st (v := (iA (wr .i64 ((wr .i64 (v8 + 1)) - 1)))) (aBin_sub ..) ?_
   refine .bd (g := fun (y : UInt8) => A.ip (c8 y)) (idx_imm (e := 5) (es := 1) (h1 := by kernel_rfl) (h2 := by kernel_rfl) (h3 := fun _ => rfl) ..) fun y32 => ?_
   refine .s (uA ((y32.toNat : Int))) ?_
   refine .cr ?_
   refine .ok ?_
   refine .st (v := (bA (v6 == 9))) (aBin_eql ..) ?_
   refine .bg (fun t (y : Bool) => ∃ j35 j36 : A, t = [(bA y), j35, j36]) ?_ ?_
   ·refine .biH (fun hk33 => ?_) (fun hk33 => ?_)
    ·refine .st (v := (bA (decide (1 < ((y32.toNat : Int)))))) (aBin_gtr ..) ?_
     exact .lg ⟨_, _, rfl⟩
    exact .lg ⟨_, _, rfl⟩
   rintro _ y34 ⟨j35, j36, rfl⟩
   iterate 3 refine .uc ?_
   refine .bg (fun t (y : Bool) => ∃ j43 j44 j45 j46 j47 j48 : A, t = [(bA y), j43, j44, j45, j46, j47, j48]) ?_ ?_
   ·refine .biH (fun hk37 => ?_) (fun hk37 => ?_)
    ·exact .lg ⟨_, _, _, _, _, _, rfl⟩
    refine .st (v := (bA (decide (0 < v6)))) (aBin_gtr ..) ?_
    refine .bg (fun t (y : Bool) => ∃ j40 j41 : A, t = [(bA y), j40, j41]) ?_ ?_
    ·refine .biH (fun hk38 => ?_) (fun hk38 => ?_)
     ·refine .st (v := (bA (((y32.toNat : Int)) == 0))) (aBin_eql ..) ?_
      exact .lg ⟨_, _, rfl⟩
     exact .lg ⟨_, _, rfl⟩
    rintro _ y39 ⟨j40, j41, rfl⟩
    iterate 3 refine .uc ?_
    exact .lg ⟨_, _, _, _, _, _, rfl⟩
   rintro _ y42 ⟨j43, j44, j45, j46, j47, j48, rfl⟩
   iterate 7 refine .uc ?_
   refine .biHN (fun hk49 => ?_) (fun hk49 => ?_)
   ·refine .s (A.ptr 1 0) (.s (A.ptr 1 2) (.s [hk34w_1, Blk.box [(A.imm (List.map c8 v7) false), (iA (wr .i64 (v8 + 1))), (bA true)], (hk34w_9 v10 v11 v12)] ?_))
    exact .ex (x0 _ _ _ _ _ _)
   refine .st (v := (uA (Int.tmod ((y32.toNat : Int)) 128))) (aBin_rem (hb := by decide) ..) ?_
   refine .st (v := (A.v (.int .u64 (wr .u64 (Int.tmod ((y32.toNat : Int)) 128))))) (aConvert_int (hs := by kernel_rfl) (hd := by kernel_rfl) ..) ?_
   refine .st (v := (iA (wr .i64 (7 * v6)))) (aBin_mul ..) ?_
   refine .gd fun hg => ?_
   refine .st (v := (A.v (.int .u64 (shlI .u64 (wr .u64 (Int.tmod ((y32.toNat : Int)) 128)) (wr .i64 (7 * v6)))))) (aBin_shl (hb := of_decide_eq_true hg) ..) ?_
   refine .st (v := (A.v (.int .u64 (wr .u64 (v5 + (shlI .u64 (wr .u64 (Int.tmod ((y32.toNat : Int)) 128)) (wr .i64 (7 * v6)))))))) (aBin_add ..) ?_
   refine .st (v := (bA (decide (((y32.toNat : Int)) < 128)))) (aBin_lss ..) ?_
   refine .biHN (fun hk50 => ?_) (fun hk50 => ?_)
   ·exact .ex (x1 _ _ _ _ _)
   refine .st (v := (iA (wr .i64 (v6 + 1)))) (aBin_add ..) ?_
   refine .s [hk34w_1, Blk.box [(A.imm (List.map c8 v7) false), (iA (wr .i64 (v8 + 1))), (bA v9)], (hk34w_9 v10 v11 v12)] ?_
   refine .cT (by kernel_rfl) ?_
   exact ih _ _ _
  exact .ex (x2 _ _ _ _ _)
def F34w_49_0a (self : (List UInt8) -> Int -> Bool -> Int -> Option (S_Value × Int × Bool)) (n : Nat) (v72 : Int) (v75 : (List UInt8)) (v77 : Bool) (v78 : Int) (v79 : Int) (v80 : ByteArray) : Nat -> Int -> Int -> Int -> Option ((Int × Int × Bool) ⊕ ((Int × Int) ⊕ (Int)))
 | 0, _, _, _ => none
 | m + 1, v73, v74, v76 => bif (!v77) then (bif (decide (((v75.length : Int)) <= v76)) then ((bif (v74 == 9) then (some false) else (some false)).bind fun y84 => (bif y84 then (some true) else ((bif (decide (0 < v74)) then (some true) else (some false)).bind fun y89 => some y89)).bind fun y92 => bif y92 then (some ((Sum.inl ((0, v76, true))))) else (bif decide (0 <= (wr .i64 (7 * v74))) then (some ((Sum.inl ((wr .u64 (v73 + (shlI .u64 (wr .u64 (Int.tmod 0 128)) (wr .i64 (7 * v74)))), v76, true))))) else none)) else ((getI v75 (wr .i64 ((wr .i64 (v76 + 1)) - 1))).bind fun y100 => (bif (v74 == 9) then (some (decide (1 < ((y100.toNat : Int))))) else (some false)).bind fun y102 => (bif y102 then (some true) else ((bif (decide (0 < v74)) then (some (((y100.toNat : Int)) == 0)) else (some false)).bind fun y107 => some y107)).bind fun y110 => bif y110 then (some ((Sum.inl ((0, wr .i64 (v76 + 1), true))))) else (bif decide (0 <= (wr .i64 (7 * v74))) then (bif (decide (((y100.toNat : Int)) < 128)) then (some ((Sum.inr ((Sum.inl ((wr .u64 (v73 + (shlI .u64 (wr .u64 (Int.tmod ((y100.toNat : Int)) 128)) (wr .i64 (7 * v74)))), wr .i64 (v76 + 1)))))))) else (F34w_49_0a self n v72 v75 v77 v78 v79 v80 m (wr .u64 (v73 + (shlI .u64 (wr .u64 (Int.tmod ((y100.toNat : Int)) 128)) (wr .i64 (7 * v74))))) (wr .i64 (v74 + 1)) (wr .i64 (v76 + 1)))) else none))) else (some ((Sum.inr ((Sum.inr v76)))))
theorem T34w_49_0a (C : Nat -> List A -> Option A) (n : Nat) (self : (List UInt8) -> Int -> Bool -> Int -> Option (S_Value × Int × Bool)) (hS : HS34 C (n+8) self) (v72 : Int) (v75 : (List UInt8)) (v77 : Bool) (v78 : Int) (v79 : Int) (v80 : ByteArray) {ρ γ : Type} {φ : ρ -> γ -> Prop} {kL : R -> Option ρ} {K : ((Int × Int × Bool) ⊕ ((Int × Int) ⊕ (Int))) -> Option γ} (kx kg : Nat -> St -> Option R) (kr : St -> Option R) (kp : A -> St -> Option R) (x0 : ∀ (o0 : Int) (o1 : Int) (o2 : Bool) (s0 : A) (s3 : A) (s4 : A), J φ (kr (St.mk [(0, s0), (2, (A.v (.int .u64 o0))), (3, s3), (4, s4)] [hk34w_1, Blk.box [(A.imm (List.map c8 v75) false), (iA o1), (bA o2)], (hk34w_10 v78 v79 v80)])) kL (K (Sum.inl ((o0, o1, o2)))) some) (x1 : ∀ (o0 : Int) (o1 : Int) (s0 : A) (s3 : A) (s4 : A), J φ (kr (St.mk [(0, s0), (2, (A.v (.int .u64 o0))), (3, s3), (4, s4)] [hk34w_1, Blk.box [(A.imm (List.map c8 v75) false), (iA o1), (bA v77)], (hk34w_10 v78 v79 v80)])) kL (K (Sum.inr ((Sum.inl ((o0, o1)))))) some) (x2 : ∀ (o0 : Int) (s0 : A) (s2 : A) (s3 : A) (s4 : A), J φ (kx 0 (St.mk [(0, s0), (2, s2), (3, s3), (4, s4)] [hk34w_1, Blk.box [(A.imm (List.map c8 v75) false), (iA o0), (bA v77)], (hk34w_10 v78 v79 v80)])) kL (K (Sum.inr ((Sum.inr o0)))) some) :
  ∀ (m : Nat) (v73 : Int) (v74 : Int) (v76 : Int), J φ (loopR (cx C) (ec C n 7) (ey C n 7) (n+7) 49 0 0 3 kx kg kr kp m (St.mk [(0, (A.ptr 1 0)), (2, (A.v (.int .u64 v72))), (3, (A.v (.int .u64 v73))), (4, (iA v74))] [hk34w_1, Blk.box [(A.imm (List.map c8 v75) false), (iA v76), (bA v77)], (hk34w_10 v78 v79 v80)])) kL (F34w_49_0a self n v72 v75 v77 v78 v79 v80 m v73 v74 v76) K := by
 intro m
 induction m with
 | zero => intros; exact .nn
 | succ m ih =>
  intro v73 v74 v76
  refine .lp (e49_0 ..) ?_
  unfold F34w_49_0a
  refine .s (A.ptr 1 0) (.s (A.ptr 1 2) (.s (bA v77) (.s (bA (!v77)) ?_)))
  refine .biHN (fun hk81 => ?_) (fun hk81 => ?_)
  ·refine .cl ((evCall_in lt_48).trans (e48 C (evCall (cx C) (n+6)) (evCallY (cx C) (n+6)) (n+6) _ _ _)) ?_
   refine .s (A.ptr 1 0) (.s (A.ptr 1 1) (.s (iA v76) (.s (A.ptr 1 0) (.s (A.ptr 1 0) (.s (A.imm (List.map c8 v75) false) ?_)))))
   refine .st (v := (iA ((v75.length : Int)))) (len_imm (e := 5) (h1 := by kernel_rfl) ..) ?_
   refine .st (v := (bA (decide (((v75.length : Int)) <= v76)))) (aBin_geq ..) ?_
   refine .biHN (fun hk82 => ?_) (fun hk82 => ?_)
   ·refine .s (A.ptr 1 0) (.s (A.ptr 1 2) (.s [hk34w_1, Blk.box [(A.imm (List.map c8 v75) false), (iA v76), (bA true)], (hk34w_10 v78 v79 v80)] ?_))
    refine .cr ?_
    refine .ok ?_
    refine .st (v := (bA (v74 == 9))) (aBin_eql ..) ?_
    refine .bg (fun t (y : Bool) => ∃ j85 j86 : A, t = [(bA y), j85, j86]) ?_ ?_
    ·refine .biH (fun hk83 => ?_) (fun hk83 => ?_)
     ·refine .s (bA false) ?_
      exact .lg ⟨_, _, rfl⟩
     exact .lg ⟨_, _, rfl⟩
    rintro _ y84 ⟨j85, j86, rfl⟩
    iterate 3 refine .uc ?_
    refine .bg (fun t (y : Bool) => ∃ j93 j94 j95 j96 j97 j98 : A, t = [(bA y), j93, j94, j95, j96, j97, j98]) ?_ ?_
    ·refine .biH (fun hk87 => ?_) (fun hk87 => ?_)
     ·exact .lg ⟨_, _, _, _, _, _, rfl⟩
     refine .st (v := (bA (decide (0 < v74)))) (aBin_gtr ..) ?_
     refine .bg (fun t (y : Bool) => ∃ j90 j91 : A, t = [(bA y), j90, j91]) ?_ ?_
     ·refine .biH (fun hk88 => ?_) (fun hk88 => ?_)
      ·refine .s (bA true) ?_
       exact .lg ⟨_, _, rfl⟩
      exact .lg ⟨_, _, rfl⟩
     rintro _ y89 ⟨j90, j91, rfl⟩
     iterate 3 refine .uc ?_
     exact .lg ⟨_, _, _, _, _, _, rfl⟩
    rintro _ y92 ⟨j93, j94, j95, j96, j97, j98, rfl⟩
    iterate 7 refine .uc ?_
    refine .biHN (fun hk99 => ?_) (fun hk99 => ?_)
    ·refine .s (A.ptr 1 0) (.s (A.ptr 1 2) (.s [hk34w_1, Blk.box [(A.imm (List.map c8 v75) false), (iA v76), (bA true)], (hk34w_10 v78 v79 v80)] ?_))
     exact .ex (x0 _ _ _ _ _ _)
    refine .st (v := (uA (Int.tmod 0 128))) (aBin_rem (hb := by decide) ..) ?_
    refine .st (v := (A.v (.int .u64 (wr .u64 (Int.tmod 0 128))))) (aConvert_int (hs := by kernel_rfl) (hd := by kernel_rfl) ..) ?_
    refine .st (v := (iA (wr .i64 (7 * v74)))) (aBin_mul ..) ?_
    refine .gd fun hg => ?_
    refine .st (v := (A.v (.int .u64 (shlI .u64 (wr .u64 (Int.tmod 0 128)) (wr .i64 (7 * v74)))))) (aBin_shl (hb := of_decide_eq_true hg) ..) ?_
    refine .st (v := (A.v (.int .u64 (wr .u64 (v73 + (shlI .u64 (wr .u64 (Int.tmod 0 128)) (wr .i64 (7 * v74)))))))) (aBin_add ..) ?_
    refine .s (bA true) ?_
    refine .bTN ?_
    exact .ex (x0 _ _ _ _ _ _)
   refine .s (A.ptr 1 0) (.s (A.ptr 1 1) (.s (iA v76) ?_))
   refine .st (v := (iA (wr .i64 (v76 + 1)))) (aBin_add ..) ?_
   refine .s (A.ptr 1 0) (.s (A.ptr 1 1) (.s [hk34w_1, Blk.box [(A.imm (List.map c8 v75) false), (iA (wr .i64 (v76 + 1))), (bA v77)], (hk34w_10 v78 v79 v80)] (.s (A.ptr 1 0) (.s (A.ptr 1 0) (.s (A.imm (List.map c8 v75) false) (.s (A.ptr 1 0) (.s (A.ptr 1 1) (.s (iA (wr .i64 (v76 + 1))) ?_))))))))
   refine .st (v := (iA (wr .i64 ((wr .i64 (v76 + 1)) - 1)))) (aBin_sub ..) ?_
   refine .bd (g := fun (y : UInt8) => A.ip (c8 y)) (idx_imm (e := 5) (es := 1) (h1 := by kernel_rfl) (h2 := by kernel_rfl) (h3 := fun _ => rfl) ..) fun y100 => ?_
   refine .s (uA ((y100.toNat : Int))) ?_
   refine .cr ?_
   refine .ok ?_
   refine .st (v := (bA (v74 == 9))) (aBin_eql ..) ?_
   refine .bg (fun t (y : Bool) => ∃ j103 j104 : A, t = [(bA y), j103, j104]) ?_ ?_
   ·refine .biH (fun hk101 => ?_) (fun hk101 => ?_)
    ·refine .st (v := (bA (decide (1 < ((y100.toNat : Int)))))) (aBin_gtr ..) ?_
     exact .lg ⟨_, _, rfl⟩
    exact .lg ⟨_, _, rfl⟩
   rintro _ y102 ⟨j103, j104, rfl⟩
   iterate 3 refine .uc ?_
   refine .bg (fun t (y : Bool) => ∃ j111 j112 j113 j114 j115 j116 : A, t = [(bA y), j111, j112, j113, j114, j115, j116]) ?_ ?_
   ·refine .biH (fun hk105 => ?_) (fun hk105 => ?_)
    ·exact .lg ⟨_, _, _, _, _, _, rfl⟩
    refine .st (v := (bA (decide (0 < v74)))) (aBin_gtr ..) ?_
    refine .bg (fun t (y : Bool) => ∃ j108 j109 : A, t = [(bA y), j108, j109]) ?_ ?_
    ·refine .biH (fun hk106 => ?_) (fun hk106 => ?_)
     ·refine .st (v := (bA (((y100.toNat : Int)) == 0))) (aBin_eql ..) ?_
      exact .lg ⟨_, _, rfl⟩
     exact .lg ⟨_, _, rfl⟩
    rintro _ y107 ⟨j108, j109, rfl⟩
    iterate 3 refine .uc ?_
    exact .lg ⟨_, _, _, _, _, _, rfl⟩
   rintro _ y110 ⟨j111, j112, j113, j114, j115, j116, rfl⟩
   iterate 7 refine .uc ?_
   refine .biHN (fun hk117 => ?_) (fun hk117 => ?_)
   ·refine .s (A.ptr 1 0) (.s (A.ptr 1 2) (.s [hk34w_1, Blk.box [(A.imm (List.map c8 v75) false), (iA (wr .i64 (v76 + 1))), (bA true)], (hk34w_10 v78 v79 v80)] ?_))
    exact .ex (x0 _ _ _ _ _ _)
   refine .st (v := (uA (Int.tmod ((y100.toNat : Int)) 128))) (aBin_rem (hb := by decide) ..) ?_
   refine .st (v := (A.v (.int .u64 (wr .u64 (Int.tmod ((y100.toNat : Int)) 128))))) (aConvert_int (hs := by kernel_rfl) (hd := by kernel_rfl) ..) ?_
   refine .st (v := (iA (wr .i64 (7 * v74)))) (aBin_mul ..) ?_
   refine .gd fun hg => ?_
   refine .st (v := (A.v (.int .u64 (shlI .u64 (wr .u64 (Int.tmod ((y100.toNat : Int)) 128)) (wr .i64 (7 * v74)))))) (aBin_shl (hb := of_decide_eq_true hg) ..) ?_
   refine .st (v := (A.v (.int .u64 (wr .u64 (v73 + (shlI .u64 (wr .u64 (Int.tmod ((y100.toNat : Int)) 128)) (wr .i64 (7 * v74)))))))) (aBin_add ..) ?_
   refine .st (v := (bA (decide (((y100.toNat : Int)) < 128)))) (aBin_lss ..) ?_
   refine .biHN (fun hk118 => ?_) (fun hk118 => ?_)
   ·exact .ex (x1 _ _ _ _ _)
   refine .st (v := (iA (wr .i64 (v74 + 1)))) (aBin_add ..) ?_
   refine .s [hk34w_1, Blk.box [(A.imm (List.map c8 v75) false), (iA (wr .i64 (v76 + 1))), (bA v77)], (hk34w_10 v78 v79 v80)] ?_
   refine .cT (by kernel_rfl) ?_
   exact ih _ _ _
  exact .ex (x2 _ _ _ _ _)
def F34w_49_0b (self : (List UInt8) -> Int -> Bool -> Int -> Option (S_Value × Int × Bool)) (n : Nat) (v164 : Int) (v167 : (List UInt8)) (v169 : Bool) (v170 : Int) (v171 : Int) (v172 : ByteArray) : Nat -> Int -> Int -> Int -> Option ((Int × Int × Bool) ⊕ ((Int × Int) ⊕ (Int)))
 | 0, _, _, _ => none
 | m + 1, v165, v166, v168 => bif (!v169) then (bif (decide (((v167.length : Int)) <= v168)) then ((bif (v166 == 9) then (some false) else (some false)).bind fun y176 => (bif y176 then (some true) else ((bif (decide (0 < v166)) then (some true) else (some false)).bind fun y181 => some y181)).bind fun y184 => bif y184 then (some ((Sum.inl ((0, v168, true))))) else (bif decide (0 <= (wr .i64 (7 * v166))) then (some ((Sum.inl ((wr .u64 (v165 + (shlI .u64 (wr .u64 (Int.tmod 0 128)) (wr .i64 (7 * v166)))), v168, true))))) else none)) else ((getI v167 (wr .i64 ((wr .i64 (v168 + 1)) - 1))).bind fun y192 => (bif (v166 == 9) then (some (decide (1 < ((y192.toNat : Int))))) else (some false)).bind fun y194 => (bif y194 then (some true) else ((bif (decide (0 < v166)) then (some (((y192.toNat : Int)) == 0)) else (some false)).bind fun y199 => some y199)).bind fun y202 => bif y202 then (some ((Sum.inl ((0, wr .i64 (v168 + 1), true))))) else (bif decide (0 <= (wr .i64 (7 * v166))) then (bif (decide (((y192.toNat : Int)) < 128)) then (some ((Sum.inr ((Sum.inl ((wr .u64 (v165 + (shlI .u64 (wr .u64 (Int.tmod ((y192.toNat : Int)) 128)) (wr .i64 (7 * v166)))), wr .i64 (v168 + 1)))))))) else (F34w_49_0b self n v164 v167 v169 v170 v171 v172 m (wr .u64 (v165 + (shlI .u64 (wr .u64 (Int.tmod ((y192.toNat : Int)) 128)) (wr .i64 (7 * v166))))) (wr .i64 (v166 + 1)) (wr .i64 (v168 + 1)))) else none))) else (some ((Sum.inr ((Sum.inr v168)))))
theorem T34w_49_0b (C : Nat -> List A -> Option A) (n : Nat) (self : (List UInt8) -> Int -> Bool -> Int -> Option (S_Value × Int × Bool)) (hS : HS34 C (n+8) self) (v164 : Int) (v167 : (List UInt8)) (v169 : Bool) (v170 : Int) (v171 : Int) (v172 : ByteArray) {ρ γ : Type} {φ : ρ -> γ -> Prop} {kL : R -> Option ρ} {K : ((Int × Int × Bool) ⊕ ((Int × Int) ⊕ (Int))) -> Option γ} (kx kg : Nat -> St -> Option R) (kr : St -> Option R) (kp : A -> St -> Option R) (x0 : ∀ (o0 : Int) (o1 : Int) (o2 : Bool) (s0 : A) (s3 : A) (s4 : A), J φ (kr (St.mk [(0, s0), (2, (A.v (.int .u64 o0))), (3, s3), (4, s4)] [hk34w_1, Blk.box [(A.imm (List.map c8 v167) false), (iA o1), (bA o2)], (hk34w_8 v170 v171 v172)])) kL (K (Sum.inl ((o0, o1, o2)))) some) (x1 : ∀ (o0 : Int) (o1 : Int) (s0 : A) (s3 : A) (s4 : A), J φ (kr (St.mk [(0, s0), (2, (A.v (.int .u64 o0))), (3, s3), (4, s4)] [hk34w_1, Blk.box [(A.imm (List.map c8 v167) false), (iA o1), (bA v169)], (hk34w_8 v170 v171 v172)])) kL (K (Sum.inr ((Sum.inl ((o0, o1)))))) some) (x2 : ∀ (o0 : Int) (s0 : A) (s2 : A) (s3 : A) (s4 : A), J φ (kx 0 (St.mk [(0, s0), (2, s2), (3, s3), (4, s4)] [hk34w_1, Blk.box [(A.imm (List.map c8 v167) false), (iA o0), (bA v169)], (hk34w_8 v170 v171 v172)])) kL (K (Sum.inr ((Sum.inr o0)))) some) :
  ∀ (m : Nat) (v165 : Int) (v166 : Int) (v168 : Int), J φ (loopR (cx C) (ec C n 7) (ey C n 7) (n+7) 49 0 0 3 kx kg kr kp m (St.mk [(0, (A.ptr 1 0)), (2, (A.v (.int .u64 v164))), (3, (A.v (.int .u64 v165))), (4, (iA v166))] [hk34w_1, Blk.box [(A.imm (List.map c8 v167) false), (iA v168), (bA v169)], (hk34w_8 v170 v171 v172)])) kL (F34w_49_0b self n v164 v167 v169 v170 v171 v172 m v165 v166 v168) K := by
 intro m
 induction m with
 | zero => intros; exact .nn
 | succ m ih =>
  intro v165 v166 v168
  refine .lp (e49_0 ..) ?_
  unfold F34w_49_0b
  refine .s (A.ptr 1 0) (.s (A.ptr 1 2) (.s (bA v169) (.s (bA (!v169)) ?_)))
  refine .biHN (fun hk173 => ?_) (fun hk173 => ?_)
  ·refine .cl ((evCall_in lt_48).trans (e48 C (evCall (cx C) (n+6)) (evCallY (cx C) (n+6)) (n+6) _ _ _)) ?_
   refine .s (A.ptr 1 0) (.s (A.ptr 1 1) (.s (iA v168) (.s (A.ptr 1 0) (.s (A.ptr 1 0) (.s (A.imm (List.map c8 v167) false) ?_)))))
   refine .st (v := (iA ((v167.length : Int)))) (len_imm (e := 5) (h1 := by kernel_rfl) ..) ?_
   refine .st (v := (bA (decide (((v167.length : Int)) <= v168)))) (aBin_geq ..) ?_
   refine .biHN (fun hk174 => ?_) (fun hk174 => ?_)
   ·refine .s (A.ptr 1 0) (.s (A.ptr 1 2) (.s [hk34w_1, Blk.box [(A.imm (List.map c8 v167) false), (iA v168), (bA true)], (hk34w_8 v170 v171 v172)] ?_))
    refine .cr ?_
    refine .ok ?_
    refine .st (v := (bA (v166 == 9))) (aBin_eql ..) ?_
    refine .bg (fun t (y : Bool) => ∃ j177 j178 : A, t = [(bA y), j177, j178]) ?_ ?_
    ·refine .biH (fun hk175 => ?_) (fun hk175 => ?_)
     ·refine .s (bA false) ?_
      exact .lg ⟨_, _, rfl⟩
     exact .lg ⟨_, _, rfl⟩
    rintro _ y176 ⟨j177, j178, rfl⟩
    iterate 3 refine .uc ?_
    refine .bg (fun t (y : Bool) => ∃ j185 j186 j187 j188 j189 j190 : A, t = [(bA y), j185, j186, j187, j188, j189, j190]) ?_ ?_
    ·refine .biH (fun hk179 => ?_) (fun hk179 => ?_)
     ·exact .lg ⟨_, _, _, _, _, _, rfl⟩
     refine .st (v := (bA (decide (0 < v166)))) (aBin_gtr ..) ?_
     refine .bg (fun t (y : Bool) => ∃ j182 j183 : A, t = [(bA y), j182, j183]) ?_ ?_
     ·refine .biH (fun hk180 => ?_) (fun hk180 => ?_)
      ·refine .s (bA true) ?_
       exact .lg ⟨_, _, rfl⟩
      exact .lg ⟨_, _, rfl⟩
     rintro _ y181 ⟨j182, j183, rfl⟩
     iterate 3 refine .uc ?_
     exact .lg ⟨_, _, _, _, _, _, rfl⟩
    rintro _ y184 ⟨j185, j186, j187, j188, j189, j190, rfl⟩
    iterate 7 refine .uc ?_
    refine .biHN (fun hk191 => ?_) (fun hk191 => ?_)
    ·refine .s (A.ptr 1 0) (.s (A.ptr 1 2) (.s [hk34w_1, Blk.box [(A.imm (List.map c8 v167) false), (iA v168), (bA true)], (hk34w_8 v170 v171 v172)] ?_))
     exact .ex (x0 _ _ _ _ _ _)
    refine .st (v := (uA (Int.tmod 0 128))) (aBin_rem (hb := by decide) ..) ?_
    refine .st (v := (A.v (.int .u64 (wr .u64 (Int.tmod 0 128))))) (aConvert_int (hs := by kernel_rfl) (hd := by kernel_rfl) ..) ?_
    refine .st (v := (iA (wr .i64 (7 * v166)))) (aBin_mul ..) ?_
    refine .gd fun hg => ?_
    refine .st (v := (A.v (.int .u64 (shlI .u64 (wr .u64 (Int.tmod 0 128)) (wr .i64 (7 * v166)))))) (aBin_shl (hb := of_decide_eq_true hg) ..) ?_
    refine .st (v := (A.v (.int .u64 (wr .u64 (v165 + (shlI .u64 (wr .u64 (Int.tmod 0 128)) (wr .i64 (7 * v166)))))))) (aBin_add ..) ?_
    refine .s (bA true) ?_
    refine .bTN ?_
    exact .ex (x0 _ _ _ _ _ _)
   refine .s (A.ptr 1 0) (.s (A.ptr 1 1) (.s (iA v168) ?_))
   refine .st (v := (iA (wr .i64 (v168 + 1)))) (aBin_add ..) ?_
   refine .s (A.ptr 1 0) (.s (A.ptr 1 1) (.s [hk34w_1, Blk.box [(A.imm (List.map c8 v167) false), (iA (wr .i64 (v168 + 1))), (bA v169)], (hk34w_8 v170 v171 v172)] (.s (A.ptr 1 0) (.s (A.ptr 1 0) (.s (A.imm (List.map c8 v167) false) (.s (A.ptr 1 0) (.s (A.ptr 1 1) (.s (iA (wr .i64 (v168 + 1))) ?_))))))))
   refine .st (v := (iA (wr .i64 ((wr .i64 (v168 + 1)) - 1)))) (aBin_sub ..) ?_
   refine .bd (g := fun (y : UInt8) => A.ip (c8 y)) (idx_imm (e := 5) (es := 1) (h1 := by kernel_rfl) (h2 := by kernel_rfl) (h3 := fun _ => rfl) ..) fun y192 => ?_
   refine .s (uA ((y192.toNat : Int))) ?_
   refine .cr ?_
   refine .ok ?_
   refine .st (v := (bA (v166 == 9))) (aBin_eql ..) ?_
   refine .bg (fun t (y : Bool) => ∃ j195 j196 : A, t = [(bA y), j195, j196]) ?_ ?_
   ·refine .biH (fun hk193 => ?_) (fun hk193 => ?_)
    ·refine .st (v := (bA (decide (1 < ((y192.toNat : Int)))))) (aBin_gtr ..) ?_
     exact .lg ⟨_, _, rfl⟩
    exact .lg ⟨_, _, rfl⟩
   rintro _ y194 ⟨j195, j196, rfl⟩
   iterate 3 refine .uc ?_
   refine .bg (fun t (y : Bool) => ∃ j203 j204 j205 j206 j207 j208 : A, t = [(bA y), j203, j204, j205, j206, j207, j208]) ?_ ?_
   ·refine .biH (fun hk197 => ?_) (fun hk197 => ?_)
    ·exact .lg ⟨_, _, _, _, _, _, rfl⟩
    refine .st (v := (bA (decide (0 < v166)))) (aBin_gtr ..) ?_
    refine .bg (fun t (y : Bool) => ∃ j200 j201 : A, t = [(bA y), j200, j201]) ?_ ?_
    ·refine .biH (fun hk198 => ?_) (fun hk198 => ?_)
     ·refine .st (v := (bA (((y192.toNat : Int)) == 0))) (aBin_eql ..) ?_
      exact .lg ⟨_, _, rfl⟩
     exact .lg ⟨_, _, rfl⟩
    rintro _ y199 ⟨j200, j201, rfl⟩
    iterate 3 refine .uc ?_
    exact .lg ⟨_, _, _, _, _, _, rfl⟩
   rintro _ y202 ⟨j203, j204, j205, j206, j207, j208, rfl⟩
   iterate 7 refine .uc ?_
   refine .biHN (fun hk209 => ?_) (fun hk209 => ?_)
   ·refine .s (A.ptr 1 0) (.s (A.ptr 1 2) (.s [hk34w_1, Blk.box [(A.imm (List.map c8 v167) false), (iA (wr .i64 (v168 + 1))), (bA true)], (hk34w_8 v170 v171 v172)] ?_))
    exact .ex (x0 _ _ _ _ _ _)
   refine .st (v := (uA (Int.tmod ((y192.toNat : Int)) 128))) (aBin_rem (hb := by decide) ..) ?_
   refine .st (v := (A.v (.int .u64 (wr .u64 (Int.tmod ((y192.toNat : Int)) 128))))) (aConvert_int (hs := by kernel_rfl) (hd := by kernel_rfl) ..) ?_
   refine .st (v := (iA (wr .i64 (7 * v166)))) (aBin_mul ..) ?_
   refine .gd fun hg => ?_
   refine .st (v := (A.v (.int .u64 (shlI .u64 (wr .u64 (Int.tmod ((y192.toNat : Int)) 128)) (wr .i64 (7 * v166)))))) (aBin_shl (hb := of_decide_eq_true hg) ..) ?_
   refine .st (v := (A.v (.int .u64 (wr .u64 (v165 + (shlI .u64 (wr .u64 (Int.tmod ((y192.toNat : Int)) 128)) (wr .i64 (7 * v166)))))))) (aBin_add ..) ?_
   refine .st (v := (bA (decide (((y192.toNat : Int)) < 128)))) (aBin_lss ..) ?_
   refine .biHN (fun hk210 => ?_) (fun hk210 => ?_)
   ·exact .ex (x1 _ _ _ _ _)
   refine .st (v := (iA (wr .i64 (v166 + 1)))) (aBin_add ..) ?_
   refine .s [hk34w_1, Blk.box [(A.imm (List.map c8 v167) false), (iA (wr .i64 (v168 + 1))), (bA v169)], (hk34w_8 v170 v171 v172)] ?_
   refine .cT (by kernel_rfl) ?_
   exact ih _ _ _
  exact .ex (x2 _ _ _ _ _)
def F34w_34_0 (self : (List UInt8) -> Int -> Bool -> Int -> Option (S_Value × Int × Bool)) (n : Nat) (v226 : Int) (v227 : Int) (v229 : (List UInt8)) (v232 : Int) (v233 : Int) (v234 : ByteArray) (v235 : (List S_Value)) (v236 : Int) (v237 : Int) (v238 : ByteArray) : Nat -> Int -> Int -> Bool -> (List S_Value) -> Option (Int × Bool × (List S_Value))
 | 0, _, _, _, _ => none
 | m + 1, v228, v230, v231, v239 => (bif (decide (v228 < v227)) then (some (!v231)) else (some false)).bind fun y241 => bif y241 then ((self v229 v230 v231 (wr .i64 (v226 + 1))).bind fun y248 => (appI 56 v239 ([y248.1])).bind fun y249 => F34w_34_0 self n v226 v227 v229 v232 v233 v234 v235 v236 v237 v238 m (wr .u64 (v228 + 1)) y248.2.1 y248.2.2 y249) else (some ((v230, v231, v239)))
theorem T34w_34_0 (C : Nat -> List A -> Option A) (n : Nat) (self : (List UInt8) -> Int -> Bool -> Int -> Option (S_Value × Int × Bool)) (hS : HS34 C (n+8) self) (v226 : Int) (v227 : Int) (v229 : (List UInt8)) (v232 : Int) (v233 : Int) (v234 : ByteArray) (v235 : (List S_Value)) (v236 : Int) (v237 : Int) (v238 : ByteArray) {ρ γ : Type} {φ : ρ -> γ -> Prop} {kL : R -> Option ρ} {K : (Int × Bool × (List S_Value)) -> Option γ} (kx kg : Nat -> St -> Option R) (kr : St -> Option R) (kp : A -> St -> Option R) (x0 : ∀ (o0 : Int) (o1 : Bool) (o2 : (List S_Value)) (s1 : A) (s7 : A) (s9 : A), J φ (kx 1 (St.mk [(0, (A.ptr 1 0)), (1, s1), (4, (A.ptr 2 0)), (7, s7), (8, (A.ptr 3 0)), (9, s9)] [hk34w_1, Blk.box [(A.imm (List.map c8 v229) false), (iA o0), (bA o1)], (hk34w_2 v232 v233 v234 v235), Blk.box [(iA v236), (iA v237), (A.v (Value.string v238)), (A.sl 4 0 o2.length false)], Blk.row false 4 (List.map c_S_Value o2)])) kL (K (o0, o1, o2)) some) :
  ∀ (m : Nat) (v228 : Int) (v230 : Int) (v231 : Bool) (v239 : (List S_Value)), J φ (loopR (cx C) (ec C n 8) (ey C n 8) (n+8) 34 0 0 5 kx kg kr kp m (St.mk [(0, (A.ptr 1 0)), (1, (iA v226)), (4, (A.ptr 2 0)), (7, (A.v (.int .u64 v227))), (8, (A.ptr 3 0)), (9, (A.v (.int .u64 v228)))] [hk34w_1, Blk.box [(A.imm (List.map c8 v229) false), (iA v230), (bA v231)], (hk34w_2 v232 v233 v234 v235), Blk.box [(iA v236), (iA v237), (A.v (Value.string v238)), (A.sl 4 0 v239.length false)], Blk.row false 4 (List.map c_S_Value v239)])) kL (F34w_34_0 self n v226 v227 v229 v232 v233 v234 v235 v236 v237 v238 m v228 v230 v231 v239) K := by
 intro m
 induction m with
 | zero => intros; exact .nn
 | succ m ih =>
  intro v228 v230 v231 v239
  refine .lp (e34_0 ..) ?_
  unfold F34w_34_0
  refine .st (v := (bA (decide (v228 < v227)))) (aBin_lss ..) ?_
  refine .bg (fun t (y : Bool) => ∃ j242 j243 j244 j245 j246 : A, t = [(bA y), j242, j243, j244, j245, j246]) ?_ ?_
  ·refine .biH (fun hk240 => ?_) (fun hk240 => ?_)
   ·refine .s (A.ptr 1 0) (.s (A.ptr 1 2) (.s (bA v231) (.s (bA (!v231)) ?_)))
    exact .lg ⟨_, _, _, _, _, rfl⟩
   exact .lg ⟨_, _, _, _, _, rfl⟩
  rintro _ y241 ⟨j242, j243, j244, j245, j246, rfl⟩
  iterate 6 refine .uc ?_
  refine .biHN (fun hk247 => ?_) (fun hk247 => ?_)
  ·refine .s (A.ptr 3 3) (.s (A.sl 4 0 v239.length false) ?_)
   refine .st (v := (iA (wr .i64 (v226 + 1)))) (aBin_add ..) ?_
   refine .cT (by kernel_rfl) ?_
   refine .bg (fun (t : R) (y : (S_Value × Int × Bool)) => t = (Out.ret (A.agg [(iA y.1.Kind), (iA y.1.N), (A.v (Value.string y.1.S)), (A.imm (List.map c_S_Value y.1.L) false)]), [hk34w_1, Blk.box [(A.imm (List.map c8 v229) false), (iA y.2.1), (bA y.2.2)], (hk34w_2 v232 v233 v234 v235), Blk.box [(iA v236), (iA v237), (A.v (Value.string v238)), (A.sl 4 0 v239.length false)], Blk.row false 4 (List.map c_S_Value v239)])) (hS v229 v230 v231 (wr .i64 (v226 + 1)) [(hk34w_2 v232 v233 v234 v235), Blk.box [(iA v236), (iA v237), (A.v (Value.string v238)), (A.sl 4 0 v239.length false)], Blk.row false 4 (List.map c_S_Value v239)]) ?_
   rintro _ y248 rfl
   refine .ok ?_
   refine .s (A.imm [[(iA y248.1.Kind), (iA y248.1.N), (A.v (Value.string y248.1.S)), (A.imm (List.map c_S_Value y248.1.L) false)]] true) ?_
   refine .bd (g := fun (y : List S_Value) => ((A.sl 4 0 y.length false), [hk34w_1, Blk.box [(A.imm (List.map c8 v229) false), (iA y248.2.1), (bA y248.2.2)], (hk34w_2 v232 v233 v234 v235), Blk.box [(iA v236), (iA v237), (A.v (Value.string v238)), (A.sl 4 0 v239.length false)], Blk.row false 4 (List.map c_S_Value y)])) (app_row (e := 24) (es := 4) (by_ := 56) (z := [(iA 0), (iA 0), (A.v (Value.string ByteArray.empty)), (A.imm [] true)]) (by kernel_rfl) (by kernel_rfl) (by kernel_rfl) (by kernel_rfl) rfl (by decide) (by decide) (by kernel_rfl) (f := c_S_Value) (fun _ => rfl) ce_S_Value (l := v239) (l2 := [y248.1]) (b := 4) rfl (by decide) (els_lit (f := c_S_Value) (l := ([y248.1] : List S_Value)) (by simp only [List.map_cons, List.map_nil, cq_S_Value]))) fun y249 => ?_
   refine .s (A.ptr 3 3) (.s [hk34w_1, Blk.box [(A.imm (List.map c8 v229) false), (iA y248.2.1), (bA y248.2.2)], (hk34w_2 v232 v233 v234 v235), Blk.box [(iA v236), (iA v237), (A.v (Value.string v238)), (A.sl 4 0 y249.length false)], Blk.row false 4 (List.map c_S_Value y249)] ?_)
   refine .st (v := (A.v (.int .u64 (wr .u64 (v228 + 1))))) (aBin_add ..) ?_
   refine .s [hk34w_1, Blk.box [(A.imm (List.map c8 v229) false), (iA y248.2.1), (bA y248.2.2)], (hk34w_2 v232 v233 v234 v235), Blk.box [(iA v236), (iA v237), (A.v (Value.string v238)), (A.sl 4 0 y249.length false)], Blk.row false 4 (List.map c_S_Value y249)] ?_
   refine .cT (by kernel_rfl) ?_
   exact ih _ _ _ _
  exact .ex (x0 _ _ _ _ _ _)
def F34w_34_0a (self : (List UInt8) -> Int -> Bool -> Int -> Option (S_Value × Int × Bool)) (n : Nat) (v264 : Int) (v265 : Int) (v267 : (List UInt8)) (v270 : Int) (v271 : Int) (v272 : ByteArray) (v273 : (List S_Value)) (v274 : Int) (v275 : Int) (v276 : ByteArray) : Nat -> Int -> Int -> Bool -> (List S_Value) -> Option (Int × Bool × (List S_Value))
 | 0, _, _, _, _ => none
 | m + 1, v266, v268, v269, v277 => (bif (decide (v266 < v265)) then (some (!v269)) else (some false)).bind fun y279 => bif y279 then ((self v267 v268 v269 (wr .i64 (v264 + 1))).bind fun y286 => (appI 56 v277 ([y286.1])).bind fun y287 => F34w_34_0a self n v264 v265 v267 v270 v271 v272 v273 v274 v275 v276 m (wr .u64 (v266 + 1)) y286.2.1 y286.2.2 y287) else (some ((v268, v269, v277)))
theorem T34w_34_0a (C : Nat -> List A -> Option A) (n : Nat) (self : (List UInt8) -> Int -> Bool -> Int -> Option (S_Value × Int × Bool)) (hS : HS34 C (n+8) self) (v264 : Int) (v265 : Int) (v267 : (List UInt8)) (v270 : Int) (v271 : Int) (v272 : ByteArray) (v273 : (List S_Value)) (v274 : Int) (v275 : Int) (v276 : ByteArray) {ρ γ : Type} {φ : ρ -> γ -> Prop} {kL : R -> Option ρ} {K : (Int × Bool × (List S_Value)) -> Option γ} (kx kg : Nat -> St -> Option R) (kr : St -> Option R) (kp : A -> St -> Option R) (x0 : ∀ (o0 : Int) (o1 : Bool) (o2 : (List S_Value)) (s1 : A) (s7 : A) (s9 : A), J φ (kx 1 (St.mk [(0, (A.ptr 1 0)), (1, s1), (4, (A.ptr 2 0)), (7, s7), (8, (A.ptr 3 0)), (9, s9)] [hk34w_1, Blk.box [(A.imm (List.map c8 v267) false), (iA o0), (bA o1)], (hk34w_3 v270 v271 v272 v273), Blk.box [(iA v274), (iA v275), (A.v (Value.string v276)), (A.sl 4 0 o2.length false)], Blk.row false 4 (List.map c_S_Value o2)])) kL (K (o0, o1, o2)) some) :
  ∀ (m : Nat) (v266 : Int) (v268 : Int) (v269 : Bool) (v277 : (List S_Value)), J φ (loopR (cx C) (ec C n 8) (ey C n 8) (n+8) 34 0 0 5 kx kg kr kp m (St.mk [(0, (A.ptr 1 0)), (1, (iA v264)), (4, (A.ptr 2 0)), (7, (A.v (.int .u64 v265))), (8, (A.ptr 3 0)), (9, (A.v (.int .u64 v266)))] [hk34w_1, Blk.box [(A.imm (List.map c8 v267) false), (iA v268), (bA v269)], (hk34w_3 v270 v271 v272 v273), Blk.box [(iA v274), (iA v275), (A.v (Value.string v276)), (A.sl 4 0 v277.length false)], Blk.row false 4 (List.map c_S_Value v277)])) kL (F34w_34_0a self n v264 v265 v267 v270 v271 v272 v273 v274 v275 v276 m v266 v268 v269 v277) K := by
 intro m
 induction m with
 | zero => intros; exact .nn
 | succ m ih =>
  intro v266 v268 v269 v277
  refine .lp (e34_0 ..) ?_
  unfold F34w_34_0a
  refine .st (v := (bA (decide (v266 < v265)))) (aBin_lss ..) ?_
  refine .bg (fun t (y : Bool) => ∃ j280 j281 j282 j283 j284 : A, t = [(bA y), j280, j281, j282, j283, j284]) ?_ ?_
  ·refine .biH (fun hk278 => ?_) (fun hk278 => ?_)
   ·refine .s (A.ptr 1 0) (.s (A.ptr 1 2) (.s (bA v269) (.s (bA (!v269)) ?_)))
    exact .lg ⟨_, _, _, _, _, rfl⟩
   exact .lg ⟨_, _, _, _, _, rfl⟩
  rintro _ y279 ⟨j280, j281, j282, j283, j284, rfl⟩
  iterate 6 refine .uc ?_
  refine .biHN (fun hk285 => ?_) (fun hk285 => ?_)
  ·refine .s (A.ptr 3 3) (.s (A.sl 4 0 v277.length false) ?_)
   refine .st (v := (iA (wr .i64 (v264 + 1)))) (aBin_add ..) ?_
   refine .cT (by kernel_rfl) ?_
   refine .bg (fun (t : R) (y : (S_Value × Int × Bool)) => t = (Out.ret (A.agg [(iA y.1.Kind), (iA y.1.N), (A.v (Value.string y.1.S)), (A.imm (List.map c_S_Value y.1.L) false)]), [hk34w_1, Blk.box [(A.imm (List.map c8 v267) false), (iA y.2.1), (bA y.2.2)], (hk34w_3 v270 v271 v272 v273), Blk.box [(iA v274), (iA v275), (A.v (Value.string v276)), (A.sl 4 0 v277.length false)], Blk.row false 4 (List.map c_S_Value v277)])) (hS v267 v268 v269 (wr .i64 (v264 + 1)) [(hk34w_3 v270 v271 v272 v273), Blk.box [(iA v274), (iA v275), (A.v (Value.string v276)), (A.sl 4 0 v277.length false)], Blk.row false 4 (List.map c_S_Value v277)]) ?_
   rintro _ y286 rfl
   refine .ok ?_
   refine .s (A.imm [[(iA y286.1.Kind), (iA y286.1.N), (A.v (Value.string y286.1.S)), (A.imm (List.map c_S_Value y286.1.L) false)]] true) ?_
   refine .bd (g := fun (y : List S_Value) => ((A.sl 4 0 y.length false), [hk34w_1, Blk.box [(A.imm (List.map c8 v267) false), (iA y286.2.1), (bA y286.2.2)], (hk34w_3 v270 v271 v272 v273), Blk.box [(iA v274), (iA v275), (A.v (Value.string v276)), (A.sl 4 0 v277.length false)], Blk.row false 4 (List.map c_S_Value y)])) (app_row (e := 24) (es := 4) (by_ := 56) (z := [(iA 0), (iA 0), (A.v (Value.string ByteArray.empty)), (A.imm [] true)]) (by kernel_rfl) (by kernel_rfl) (by kernel_rfl) (by kernel_rfl) rfl (by decide) (by decide) (by kernel_rfl) (f := c_S_Value) (fun _ => rfl) ce_S_Value (l := v277) (l2 := [y286.1]) (b := 4) rfl (by decide) (els_lit (f := c_S_Value) (l := ([y286.1] : List S_Value)) (by simp only [List.map_cons, List.map_nil, cq_S_Value]))) fun y287 => ?_
   refine .s (A.ptr 3 3) (.s [hk34w_1, Blk.box [(A.imm (List.map c8 v267) false), (iA y286.2.1), (bA y286.2.2)], (hk34w_3 v270 v271 v272 v273), Blk.box [(iA v274), (iA v275), (A.v (Value.string v276)), (A.sl 4 0 y287.length false)], Blk.row false 4 (List.map c_S_Value y287)] ?_)
   refine .st (v := (A.v (.int .u64 (wr .u64 (v266 + 1))))) (aBin_add ..) ?_
   refine .s [hk34w_1, Blk.box [(A.imm (List.map c8 v267) false), (iA y286.2.1), (bA y286.2.2)], (hk34w_3 v270 v271 v272 v273), Blk.box [(iA v274), (iA v275), (A.v (Value.string v276)), (A.sl 4 0 y287.length false)], Blk.row false 4 (List.map c_S_Value y287)] ?_
   refine .cT (by kernel_rfl) ?_
   exact ih _ _ _ _
  exact .ex (x0 _ _ _ _ _ _)
def F34w_34_0b (self : (List UInt8) -> Int -> Bool -> Int -> Option (S_Value × Int × Bool)) (n : Nat) (v308 : Int) (v309 : Int) (v311 : (List UInt8)) (v314 : Int) (v315 : Int) (v316 : ByteArray) (v317 : (List S_Value)) (v318 : Int) (v319 : Int) (v320 : ByteArray) : Nat -> Int -> Int -> Bool -> (List S_Value) -> Option (Int × Bool × (List S_Value))
 | 0, _, _, _, _ => none
 | m + 1, v310, v312, v313, v321 => (bif (decide (v310 < v309)) then (some (!v313)) else (some false)).bind fun y323 => bif y323 then ((self v311 v312 v313 (wr .i64 (v308 + 1))).bind fun y330 => (appI 56 v321 ([y330.1])).bind fun y331 => F34w_34_0b self n v308 v309 v311 v314 v315 v316 v317 v318 v319 v320 m (wr .u64 (v310 + 1)) y330.2.1 y330.2.2 y331) else (some ((v312, v313, v321)))
theorem T34w_34_0b (C : Nat -> List A -> Option A) (n : Nat) (self : (List UInt8) -> Int -> Bool -> Int -> Option (S_Value × Int × Bool)) (hS : HS34 C (n+8) self) (v308 : Int) (v309 : Int) (v311 : (List UInt8)) (v314 : Int) (v315 : Int) (v316 : ByteArray) (v317 : (List S_Value)) (v318 : Int) (v319 : Int) (v320 : ByteArray) {ρ γ : Type} {φ : ρ -> γ -> Prop} {kL : R -> Option ρ} {K : (Int × Bool × (List S_Value)) -> Option γ} (kx kg : Nat -> St -> Option R) (kr : St -> Option R) (kp : A -> St -> Option R) (x0 : ∀ (o0 : Int) (o1 : Bool) (o2 : (List S_Value)) (s1 : A) (s7 : A) (s9 : A), J φ (kx 1 (St.mk [(0, (A.ptr 1 0)), (1, s1), (4, (A.ptr 2 0)), (7, s7), (8, (A.ptr 3 0)), (9, s9)] [hk34w_1, Blk.box [(A.imm (List.map c8 v311) false), (iA o0), (bA o1)], (hk34w_4 v314 v315 v316 v317), Blk.box [(iA v318), (iA v319), (A.v (Value.string v320)), (A.sl 4 0 o2.length false)], Blk.row false 4 (List.map c_S_Value o2)])) kL (K (o0, o1, o2)) some) :
  ∀ (m : Nat) (v310 : Int) (v312 : Int) (v313 : Bool) (v321 : (List S_Value)), J φ (loopR (cx C) (ec C n 8) (ey C n 8) (n+8) 34 0 0 5 kx kg kr kp m (St.mk [(0, (A.ptr 1 0)), (1, (iA v308)), (4, (A.ptr 2 0)), (7, (A.v (.int .u64 v309))), (8, (A.ptr 3 0)), (9, (A.v (.int .u64 v310)))] [hk34w_1, Blk.box [(A.imm (List.map c8 v311) false), (iA v312), (bA v313)], (hk34w_4 v314 v315 v316 v317), Blk.box [(iA v318), (iA v319), (A.v (Value.string v320)), (A.sl 4 0 v321.length false)], Blk.row false 4 (List.map c_S_Value v321)])) kL (F34w_34_0b self n v308 v309 v311 v314 v315 v316 v317 v318 v319 v320 m v310 v312 v313 v321) K := by
 intro m
 induction m with
 | zero => intros; exact .nn
 | succ m ih =>
  intro v310 v312 v313 v321
  refine .lp (e34_0 ..) ?_
  unfold F34w_34_0b
  refine .st (v := (bA (decide (v310 < v309)))) (aBin_lss ..) ?_
  refine .bg (fun t (y : Bool) => ∃ j324 j325 j326 j327 j328 : A, t = [(bA y), j324, j325, j326, j327, j328]) ?_ ?_
  ·refine .biH (fun hk322 => ?_) (fun hk322 => ?_)
   ·refine .s (A.ptr 1 0) (.s (A.ptr 1 2) (.s (bA v313) (.s (bA (!v313)) ?_)))
    exact .lg ⟨_, _, _, _, _, rfl⟩
   exact .lg ⟨_, _, _, _, _, rfl⟩
  rintro _ y323 ⟨j324, j325, j326, j327, j328, rfl⟩
  iterate 6 refine .uc ?_
  refine .biHN (fun hk329 => ?_) (fun hk329 => ?_)
  ·refine .s (A.ptr 3 3) (.s (A.sl 4 0 v321.length false) ?_)
   refine .st (v := (iA (wr .i64 (v308 + 1)))) (aBin_add ..) ?_
   refine .cT (by kernel_rfl) ?_
   refine .bg (fun (t : R) (y : (S_Value × Int × Bool)) => t = (Out.ret (A.agg [(iA y.1.Kind), (iA y.1.N), (A.v (Value.string y.1.S)), (A.imm (List.map c_S_Value y.1.L) false)]), [hk34w_1, Blk.box [(A.imm (List.map c8 v311) false), (iA y.2.1), (bA y.2.2)], (hk34w_4 v314 v315 v316 v317), Blk.box [(iA v318), (iA v319), (A.v (Value.string v320)), (A.sl 4 0 v321.length false)], Blk.row false 4 (List.map c_S_Value v321)])) (hS v311 v312 v313 (wr .i64 (v308 + 1)) [(hk34w_4 v314 v315 v316 v317), Blk.box [(iA v318), (iA v319), (A.v (Value.string v320)), (A.sl 4 0 v321.length false)], Blk.row false 4 (List.map c_S_Value v321)]) ?_
   rintro _ y330 rfl
   refine .ok ?_
   refine .s (A.imm [[(iA y330.1.Kind), (iA y330.1.N), (A.v (Value.string y330.1.S)), (A.imm (List.map c_S_Value y330.1.L) false)]] true) ?_
   refine .bd (g := fun (y : List S_Value) => ((A.sl 4 0 y.length false), [hk34w_1, Blk.box [(A.imm (List.map c8 v311) false), (iA y330.2.1), (bA y330.2.2)], (hk34w_4 v314 v315 v316 v317), Blk.box [(iA v318), (iA v319), (A.v (Value.string v320)), (A.sl 4 0 v321.length false)], Blk.row false 4 (List.map c_S_Value y)])) (app_row (e := 24) (es := 4) (by_ := 56) (z := [(iA 0), (iA 0), (A.v (Value.string ByteArray.empty)), (A.imm [] true)]) (by kernel_rfl) (by kernel_rfl) (by kernel_rfl) (by kernel_rfl) rfl (by decide) (by decide) (by kernel_rfl) (f := c_S_Value) (fun _ => rfl) ce_S_Value (l := v321) (l2 := [y330.1]) (b := 4) rfl (by decide) (els_lit (f := c_S_Value) (l := ([y330.1] : List S_Value)) (by simp only [List.map_cons, List.map_nil, cq_S_Value]))) fun y331 => ?_
   refine .s (A.ptr 3 3) (.s [hk34w_1, Blk.box [(A.imm (List.map c8 v311) false), (iA y330.2.1), (bA y330.2.2)], (hk34w_4 v314 v315 v316 v317), Blk.box [(iA v318), (iA v319), (A.v (Value.string v320)), (A.sl 4 0 y331.length false)], Blk.row false 4 (List.map c_S_Value y331)] ?_)
   refine .st (v := (A.v (.int .u64 (wr .u64 (v310 + 1))))) (aBin_add ..) ?_
   refine .s [hk34w_1, Blk.box [(A.imm (List.map c8 v311) false), (iA y330.2.1), (bA y330.2.2)], (hk34w_4 v314 v315 v316 v317), Blk.box [(iA v318), (iA v319), (A.v (Value.string v320)), (A.sl 4 0 y331.length false)], Blk.row false 4 (List.map c_S_Value y331)] ?_
   refine .cT (by kernel_rfl) ?_
   exact ih _ _ _ _
  exact .ex (x0 _ _ _ _ _ _)
def F34w_34_0c (self : (List UInt8) -> Int -> Bool -> Int -> Option (S_Value × Int × Bool)) (n : Nat) (v346 : Int) (v347 : Int) (v349 : (List UInt8)) (v352 : Int) (v353 : Int) (v354 : ByteArray) (v355 : (List S_Value)) (v356 : Int) (v357 : Int) (v358 : ByteArray) : Nat -> Int -> Int -> Bool -> (List S_Value) -> Option (Int × Bool × (List S_Value))
 | 0, _, _, _, _ => none
 | m + 1, v348, v350, v351, v359 => (bif (decide (v348 < v347)) then (some (!v351)) else (some false)).bind fun y361 => bif y361 then ((self v349 v350 v351 (wr .i64 (v346 + 1))).bind fun y368 => (appI 56 v359 ([y368.1])).bind fun y369 => F34w_34_0c self n v346 v347 v349 v352 v353 v354 v355 v356 v357 v358 m (wr .u64 (v348 + 1)) y368.2.1 y368.2.2 y369) else (some ((v350, v351, v359)))
theorem T34w_34_0c (C : Nat -> List A -> Option A) (n : Nat) (self : (List UInt8) -> Int -> Bool -> Int -> Option (S_Value × Int × Bool)) (hS : HS34 C (n+8) self) (v346 : Int) (v347 : Int) (v349 : (List UInt8)) (v352 : Int) (v353 : Int) (v354 : ByteArray) (v355 : (List S_Value)) (v356 : Int) (v357 : Int) (v358 : ByteArray) {ρ γ : Type} {φ : ρ -> γ -> Prop} {kL : R -> Option ρ} {K : (Int × Bool × (List S_Value)) -> Option γ} (kx kg : Nat -> St -> Option R) (kr : St -> Option R) (kp : A -> St -> Option R) (x0 : ∀ (o0 : Int) (o1 : Bool) (o2 : (List S_Value)) (s1 : A) (s7 : A) (s9 : A), J φ (kx 1 (St.mk [(0, (A.ptr 1 0)), (1, s1), (4, (A.ptr 2 0)), (7, s7), (8, (A.ptr 3 0)), (9, s9)] [hk34w_1, Blk.box [(A.imm (List.map c8 v349) false), (iA o0), (bA o1)], (hk34w_5 v352 v353 v354 v355), Blk.box [(iA v356), (iA v357), (A.v (Value.string v358)), (A.sl 4 0 o2.length false)], Blk.row false 4 (List.map c_S_Value o2)])) kL (K (o0, o1, o2)) some) :
  ∀ (m : Nat) (v348 : Int) (v350 : Int) (v351 : Bool) (v359 : (List S_Value)), J φ (loopR (cx C) (ec C n 8) (ey C n 8) (n+8) 34 0 0 5 kx kg kr kp m (St.mk [(0, (A.ptr 1 0)), (1, (iA v346)), (4, (A.ptr 2 0)), (7, (A.v (.int .u64 v347))), (8, (A.ptr 3 0)), (9, (A.v (.int .u64 v348)))] [hk34w_1, Blk.box [(A.imm (List.map c8 v349) false), (iA v350), (bA v351)], (hk34w_5 v352 v353 v354 v355), Blk.box [(iA v356), (iA v357), (A.v (Value.string v358)), (A.sl 4 0 v359.length false)], Blk.row false 4 (List.map c_S_Value v359)])) kL (F34w_34_0c self n v346 v347 v349 v352 v353 v354 v355 v356 v357 v358 m v348 v350 v351 v359) K := by
 intro m
 induction m with
 | zero => intros; exact .nn
 | succ m ih =>
  intro v348 v350 v351 v359
  refine .lp (e34_0 ..) ?_
  unfold F34w_34_0c
  refine .st (v := (bA (decide (v348 < v347)))) (aBin_lss ..) ?_
  refine .bg (fun t (y : Bool) => ∃ j362 j363 j364 j365 j366 : A, t = [(bA y), j362, j363, j364, j365, j366]) ?_ ?_
  ·refine .biH (fun hk360 => ?_) (fun hk360 => ?_)
   ·refine .s (A.ptr 1 0) (.s (A.ptr 1 2) (.s (bA v351) (.s (bA (!v351)) ?_)))
    exact .lg ⟨_, _, _, _, _, rfl⟩
   exact .lg ⟨_, _, _, _, _, rfl⟩
  rintro _ y361 ⟨j362, j363, j364, j365, j366, rfl⟩
  iterate 6 refine .uc ?_
  refine .biHN (fun hk367 => ?_) (fun hk367 => ?_)
  ·refine .s (A.ptr 3 3) (.s (A.sl 4 0 v359.length false) ?_)
   refine .st (v := (iA (wr .i64 (v346 + 1)))) (aBin_add ..) ?_
   refine .cT (by kernel_rfl) ?_
   refine .bg (fun (t : R) (y : (S_Value × Int × Bool)) => t = (Out.ret (A.agg [(iA y.1.Kind), (iA y.1.N), (A.v (Value.string y.1.S)), (A.imm (List.map c_S_Value y.1.L) false)]), [hk34w_1, Blk.box [(A.imm (List.map c8 v349) false), (iA y.2.1), (bA y.2.2)], (hk34w_5 v352 v353 v354 v355), Blk.box [(iA v356), (iA v357), (A.v (Value.string v358)), (A.sl 4 0 v359.length false)], Blk.row false 4 (List.map c_S_Value v359)])) (hS v349 v350 v351 (wr .i64 (v346 + 1)) [(hk34w_5 v352 v353 v354 v355), Blk.box [(iA v356), (iA v357), (A.v (Value.string v358)), (A.sl 4 0 v359.length false)], Blk.row false 4 (List.map c_S_Value v359)]) ?_
   rintro _ y368 rfl
   refine .ok ?_
   refine .s (A.imm [[(iA y368.1.Kind), (iA y368.1.N), (A.v (Value.string y368.1.S)), (A.imm (List.map c_S_Value y368.1.L) false)]] true) ?_
   refine .bd (g := fun (y : List S_Value) => ((A.sl 4 0 y.length false), [hk34w_1, Blk.box [(A.imm (List.map c8 v349) false), (iA y368.2.1), (bA y368.2.2)], (hk34w_5 v352 v353 v354 v355), Blk.box [(iA v356), (iA v357), (A.v (Value.string v358)), (A.sl 4 0 v359.length false)], Blk.row false 4 (List.map c_S_Value y)])) (app_row (e := 24) (es := 4) (by_ := 56) (z := [(iA 0), (iA 0), (A.v (Value.string ByteArray.empty)), (A.imm [] true)]) (by kernel_rfl) (by kernel_rfl) (by kernel_rfl) (by kernel_rfl) rfl (by decide) (by decide) (by kernel_rfl) (f := c_S_Value) (fun _ => rfl) ce_S_Value (l := v359) (l2 := [y368.1]) (b := 4) rfl (by decide) (els_lit (f := c_S_Value) (l := ([y368.1] : List S_Value)) (by simp only [List.map_cons, List.map_nil, cq_S_Value]))) fun y369 => ?_
   refine .s (A.ptr 3 3) (.s [hk34w_1, Blk.box [(A.imm (List.map c8 v349) false), (iA y368.2.1), (bA y368.2.2)], (hk34w_5 v352 v353 v354 v355), Blk.box [(iA v356), (iA v357), (A.v (Value.string v358)), (A.sl 4 0 y369.length false)], Blk.row false 4 (List.map c_S_Value y369)] ?_)
   refine .st (v := (A.v (.int .u64 (wr .u64 (v348 + 1))))) (aBin_add ..) ?_
   refine .s [hk34w_1, Blk.box [(A.imm (List.map c8 v349) false), (iA y368.2.1), (bA y368.2.2)], (hk34w_5 v352 v353 v354 v355), Blk.box [(iA v356), (iA v357), (A.v (Value.string v358)), (A.sl 4 0 y369.length false)], Blk.row false 4 (List.map c_S_Value y369)] ?_
   refine .cT (by kernel_rfl) ?_
   exact ih _ _ _ _
  exact .ex (x0 _ _ _ _ _ _)
def F34w_34_0d (self : (List UInt8) -> Int -> Bool -> Int -> Option (S_Value × Int × Bool)) (n : Nat) (v390 : Int) (v391 : Int) (v393 : (List UInt8)) (v396 : Int) (v397 : Int) (v398 : ByteArray) (v399 : (List S_Value)) (v400 : Int) (v401 : Int) (v402 : ByteArray) : Nat -> Int -> Int -> Bool -> (List S_Value) -> Option (Int × Bool × (List S_Value))
 | 0, _, _, _, _ => none
 | m + 1, v392, v394, v395, v403 => (bif (decide (v392 < v391)) then (some (!v395)) else (some false)).bind fun y405 => bif y405 then ((self v393 v394 v395 (wr .i64 (v390 + 1))).bind fun y412 => (appI 56 v403 ([y412.1])).bind fun y413 => F34w_34_0d self n v390 v391 v393 v396 v397 v398 v399 v400 v401 v402 m (wr .u64 (v392 + 1)) y412.2.1 y412.2.2 y413) else (some ((v394, v395, v403)))
theorem T34w_34_0d (C : Nat -> List A -> Option A) (n : Nat) (self : (List UInt8) -> Int -> Bool -> Int -> Option (S_Value × Int × Bool)) (hS : HS34 C (n+8) self) (v390 : Int) (v391 : Int) (v393 : (List UInt8)) (v396 : Int) (v397 : Int) (v398 : ByteArray) (v399 : (List S_Value)) (v400 : Int) (v401 : Int) (v402 : ByteArray) {ρ γ : Type} {φ : ρ -> γ -> Prop} {kL : R -> Option ρ} {K : (Int × Bool × (List S_Value)) -> Option γ} (kx kg : Nat -> St -> Option R) (kr : St -> Option R) (kp : A -> St -> Option R) (x0 : ∀ (o0 : Int) (o1 : Bool) (o2 : (List S_Value)) (s1 : A) (s7 : A) (s9 : A), J φ (kx 1 (St.mk [(0, (A.ptr 1 0)), (1, s1), (4, (A.ptr 2 0)), (7, s7), (8, (A.ptr 3 0)), (9, s9)] [hk34w_1, Blk.box [(A.imm (List.map c8 v393) false), (iA o0), (bA o1)], (hk34w_6 v396 v397 v398 v399), Blk.box [(iA v400), (iA v401), (A.v (Value.string v402)), (A.sl 4 0 o2.length false)], Blk.row false 4 (List.map c_S_Value o2)])) kL (K (o0, o1, o2)) some) :
  ∀ (m : Nat) (v392 : Int) (v394 : Int) (v395 : Bool) (v403 : (List S_Value)), J φ (loopR (cx C) (ec C n 8) (ey C n 8) (n+8) 34 0 0 5 kx kg kr kp m (St.mk [(0, (A.ptr 1 0)), (1, (iA v390)), (4, (A.ptr 2 0)), (7, (A.v (.int .u64 v391))), (8, (A.ptr 3 0)), (9, (A.v (.int .u64 v392)))] [hk34w_1, Blk.box [(A.imm (List.map c8 v393) false), (iA v394), (bA v395)], (hk34w_6 v396 v397 v398 v399), Blk.box [(iA v400), (iA v401), (A.v (Value.string v402)), (A.sl 4 0 v403.length false)], Blk.row false 4 (List.map c_S_Value v403)])) kL (F34w_34_0d self n v390 v391 v393 v396 v397 v398 v399 v400 v401 v402 m v392 v394 v395 v403) K := by
 intro m
 induction m with
 | zero => intros; exact .nn
 | succ m ih =>
  intro v392 v394 v395 v403
  refine .lp (e34_0 ..) ?_
  unfold F34w_34_0d
  refine .st (v := (bA (decide (v392 < v391)))) (aBin_lss ..) ?_
  refine .bg (fun t (y : Bool) => ∃ j406 j407 j408 j409 j410 : A, t = [(bA y), j406, j407, j408, j409, j410]) ?_ ?_
  ·refine .biH (fun hk404 => ?_) (fun hk404 => ?_)
   ·refine .s (A.ptr 1 0) (.s (A.ptr 1 2) (.s (bA v395) (.s (bA (!v395)) ?_)))
    exact .lg ⟨_, _, _, _, _, rfl⟩
   exact .lg ⟨_, _, _, _, _, rfl⟩
  rintro _ y405 ⟨j406, j407, j408, j409, j410, rfl⟩
  iterate 6 refine .uc ?_
  refine .biHN (fun hk411 => ?_) (fun hk411 => ?_)
  ·refine .s (A.ptr 3 3) (.s (A.sl 4 0 v403.length false) ?_)
   refine .st (v := (iA (wr .i64 (v390 + 1)))) (aBin_add ..) ?_
   refine .cT (by kernel_rfl) ?_
   refine .bg (fun (t : R) (y : (S_Value × Int × Bool)) => t = (Out.ret (A.agg [(iA y.1.Kind), (iA y.1.N), (A.v (Value.string y.1.S)), (A.imm (List.map c_S_Value y.1.L) false)]), [hk34w_1, Blk.box [(A.imm (List.map c8 v393) false), (iA y.2.1), (bA y.2.2)], (hk34w_6 v396 v397 v398 v399), Blk.box [(iA v400), (iA v401), (A.v (Value.string v402)), (A.sl 4 0 v403.length false)], Blk.row false 4 (List.map c_S_Value v403)])) (hS v393 v394 v395 (wr .i64 (v390 + 1)) [(hk34w_6 v396 v397 v398 v399), Blk.box [(iA v400), (iA v401), (A.v (Value.string v402)), (A.sl 4 0 v403.length false)], Blk.row false 4 (List.map c_S_Value v403)]) ?_
   rintro _ y412 rfl
   refine .ok ?_
   refine .s (A.imm [[(iA y412.1.Kind), (iA y412.1.N), (A.v (Value.string y412.1.S)), (A.imm (List.map c_S_Value y412.1.L) false)]] true) ?_
   refine .bd (g := fun (y : List S_Value) => ((A.sl 4 0 y.length false), [hk34w_1, Blk.box [(A.imm (List.map c8 v393) false), (iA y412.2.1), (bA y412.2.2)], (hk34w_6 v396 v397 v398 v399), Blk.box [(iA v400), (iA v401), (A.v (Value.string v402)), (A.sl 4 0 v403.length false)], Blk.row false 4 (List.map c_S_Value y)])) (app_row (e := 24) (es := 4) (by_ := 56) (z := [(iA 0), (iA 0), (A.v (Value.string ByteArray.empty)), (A.imm [] true)]) (by kernel_rfl) (by kernel_rfl) (by kernel_rfl) (by kernel_rfl) rfl (by decide) (by decide) (by kernel_rfl) (f := c_S_Value) (fun _ => rfl) ce_S_Value (l := v403) (l2 := [y412.1]) (b := 4) rfl (by decide) (els_lit (f := c_S_Value) (l := ([y412.1] : List S_Value)) (by simp only [List.map_cons, List.map_nil, cq_S_Value]))) fun y413 => ?_
   refine .s (A.ptr 3 3) (.s [hk34w_1, Blk.box [(A.imm (List.map c8 v393) false), (iA y412.2.1), (bA y412.2.2)], (hk34w_6 v396 v397 v398 v399), Blk.box [(iA v400), (iA v401), (A.v (Value.string v402)), (A.sl 4 0 y413.length false)], Blk.row false 4 (List.map c_S_Value y413)] ?_)
   refine .st (v := (A.v (.int .u64 (wr .u64 (v392 + 1))))) (aBin_add ..) ?_
   refine .s [hk34w_1, Blk.box [(A.imm (List.map c8 v393) false), (iA y412.2.1), (bA y412.2.2)], (hk34w_6 v396 v397 v398 v399), Blk.box [(iA v400), (iA v401), (A.v (Value.string v402)), (A.sl 4 0 y413.length false)], Blk.row false 4 (List.map c_S_Value y413)] ?_
   refine .cT (by kernel_rfl) ?_
   exact ih _ _ _ _
  exact .ex (x0 _ _ _ _ _ _)
def F34w_34_0e (self : (List UInt8) -> Int -> Bool -> Int -> Option (S_Value × Int × Bool)) (n : Nat) (v428 : Int) (v429 : Int) (v431 : (List UInt8)) (v434 : Int) (v435 : Int) (v436 : ByteArray) (v437 : (List S_Value)) (v438 : Int) (v439 : Int) (v440 : ByteArray) : Nat -> Int -> Int -> Bool -> (List S_Value) -> Option (Int × Bool × (List S_Value))
 | 0, _, _, _, _ => none
 | m + 1, v430, v432, v433, v441 => (bif (decide (v430 < v429)) then (some (!v433)) else (some false)).bind fun y443 => bif y443 then ((self v431 v432 v433 (wr .i64 (v428 + 1))).bind fun y450 => (appI 56 v441 ([y450.1])).bind fun y451 => F34w_34_0e self n v428 v429 v431 v434 v435 v436 v437 v438 v439 v440 m (wr .u64 (v430 + 1)) y450.2.1 y450.2.2 y451) else (some ((v432, v433, v441)))
theorem T34w_34_0e (C : Nat -> List A -> Option A) (n : Nat) (self : (List UInt8) -> Int -> Bool -> Int -> Option (S_Value × Int × Bool)) (hS : HS34 C (n+8) self) (v428 : Int) (v429 : Int) (v431 : (List UInt8)) (v434 : Int) (v435 : Int) (v436 : ByteArray) (v437 : (List S_Value)) (v438 : Int) (v439 : Int) (v440 : ByteArray) {ρ γ : Type} {φ : ρ -> γ -> Prop} {kL : R -> Option ρ} {K : (Int × Bool × (List S_Value)) -> Option γ} (kx kg : Nat -> St -> Option R) (kr : St -> Option R) (kp : A -> St -> Option R) (x0 : ∀ (o0 : Int) (o1 : Bool) (o2 : (List S_Value)) (s1 : A) (s7 : A) (s9 : A), J φ (kx 1 (St.mk [(0, (A.ptr 1 0)), (1, s1), (4, (A.ptr 2 0)), (7, s7), (8, (A.ptr 3 0)), (9, s9)] [hk34w_1, Blk.box [(A.imm (List.map c8 v431) false), (iA o0), (bA o1)], (hk34w_7 v434 v435 v436 v437), Blk.box [(iA v438), (iA v439), (A.v (Value.string v440)), (A.sl 4 0 o2.length false)], Blk.row false 4 (List.map c_S_Value o2)])) kL (K (o0, o1, o2)) some) :
  ∀ (m : Nat) (v430 : Int) (v432 : Int) (v433 : Bool) (v441 : (List S_Value)), J φ (loopR (cx C) (ec C n 8) (ey C n 8) (n+8) 34 0 0 5 kx kg kr kp m (St.mk [(0, (A.ptr 1 0)), (1, (iA v428)), (4, (A.ptr 2 0)), (7, (A.v (.int .u64 v429))), (8, (A.ptr 3 0)), (9, (A.v (.int .u64 v430)))] [hk34w_1, Blk.box [(A.imm (List.map c8 v431) false), (iA v432), (bA v433)], (hk34w_7 v434 v435 v436 v437), Blk.box [(iA v438), (iA v439), (A.v (Value.string v440)), (A.sl 4 0 v441.length false)], Blk.row false 4 (List.map c_S_Value v441)])) kL (F34w_34_0e self n v428 v429 v431 v434 v435 v436 v437 v438 v439 v440 m v430 v432 v433 v441) K := by
 intro m
 induction m with
 | zero => intros; exact .nn
 | succ m ih =>
  intro v430 v432 v433 v441
  refine .lp (e34_0 ..) ?_
  unfold F34w_34_0e
  refine .st (v := (bA (decide (v430 < v429)))) (aBin_lss ..) ?_
  refine .bg (fun t (y : Bool) => ∃ j444 j445 j446 j447 j448 : A, t = [(bA y), j444, j445, j446, j447, j448]) ?_ ?_
  ·refine .biH (fun hk442 => ?_) (fun hk442 => ?_)
   ·refine .s (A.ptr 1 0) (.s (A.ptr 1 2) (.s (bA v433) (.s (bA (!v433)) ?_)))
    exact .lg ⟨_, _, _, _, _, rfl⟩
   exact .lg ⟨_, _, _, _, _, rfl⟩
  rintro _ y443 ⟨j444, j445, j446, j447, j448, rfl⟩
  iterate 6 refine .uc ?_
  refine .biHN (fun hk449 => ?_) (fun hk449 => ?_)
  ·refine .s (A.ptr 3 3) (.s (A.sl 4 0 v441.length false) ?_)
   refine .st (v := (iA (wr .i64 (v428 + 1)))) (aBin_add ..) ?_
   refine .cT (by kernel_rfl) ?_
   refine .bg (fun (t : R) (y : (S_Value × Int × Bool)) => t = (Out.ret (A.agg [(iA y.1.Kind), (iA y.1.N), (A.v (Value.string y.1.S)), (A.imm (List.map c_S_Value y.1.L) false)]), [hk34w_1, Blk.box [(A.imm (List.map c8 v431) false), (iA y.2.1), (bA y.2.2)], (hk34w_7 v434 v435 v436 v437), Blk.box [(iA v438), (iA v439), (A.v (Value.string v440)), (A.sl 4 0 v441.length false)], Blk.row false 4 (List.map c_S_Value v441)])) (hS v431 v432 v433 (wr .i64 (v428 + 1)) [(hk34w_7 v434 v435 v436 v437), Blk.box [(iA v438), (iA v439), (A.v (Value.string v440)), (A.sl 4 0 v441.length false)], Blk.row false 4 (List.map c_S_Value v441)]) ?_
   rintro _ y450 rfl
   refine .ok ?_
   refine .s (A.imm [[(iA y450.1.Kind), (iA y450.1.N), (A.v (Value.string y450.1.S)), (A.imm (List.map c_S_Value y450.1.L) false)]] true) ?_
   refine .bd (g := fun (y : List S_Value) => ((A.sl 4 0 y.length false), [hk34w_1, Blk.box [(A.imm (List.map c8 v431) false), (iA y450.2.1), (bA y450.2.2)], (hk34w_7 v434 v435 v436 v437), Blk.box [(iA v438), (iA v439), (A.v (Value.string v440)), (A.sl 4 0 v441.length false)], Blk.row false 4 (List.map c_S_Value y)])) (app_row (e := 24) (es := 4) (by_ := 56) (z := [(iA 0), (iA 0), (A.v (Value.string ByteArray.empty)), (A.imm [] true)]) (by kernel_rfl) (by kernel_rfl) (by kernel_rfl) (by kernel_rfl) rfl (by decide) (by decide) (by kernel_rfl) (f := c_S_Value) (fun _ => rfl) ce_S_Value (l := v441) (l2 := [y450.1]) (b := 4) rfl (by decide) (els_lit (f := c_S_Value) (l := ([y450.1] : List S_Value)) (by simp only [List.map_cons, List.map_nil, cq_S_Value]))) fun y451 => ?_
   refine .s (A.ptr 3 3) (.s [hk34w_1, Blk.box [(A.imm (List.map c8 v431) false), (iA y450.2.1), (bA y450.2.2)], (hk34w_7 v434 v435 v436 v437), Blk.box [(iA v438), (iA v439), (A.v (Value.string v440)), (A.sl 4 0 y451.length false)], Blk.row false 4 (List.map c_S_Value y451)] ?_)
   refine .st (v := (A.v (.int .u64 (wr .u64 (v430 + 1))))) (aBin_add ..) ?_
   refine .s [hk34w_1, Blk.box [(A.imm (List.map c8 v431) false), (iA y450.2.1), (bA y450.2.2)], (hk34w_7 v434 v435 v436 v437), Blk.box [(iA v438), (iA v439), (A.v (Value.string v440)), (A.sl 4 0 y451.length false)], Blk.row false 4 (List.map c_S_Value y451)] ?_
   refine .cT (by kernel_rfl) ?_
   exact ih _ _ _ _
  exact .ex (x0 _ _ _ _ _ _)
def F34w (self : (List UInt8) -> Int -> Bool -> Int -> Option (S_Value × Int × Bool)) (n : Nat) (a1 : (List UInt8)) (a2 : Int) (a3 : Bool) (a4 : Int) : Option (S_Value × Int × Bool) :=
 bif (decide (((a1.length : Int)) <= a2)) then (some (((S_Value.mk 0 0 ByteArray.empty ([])), a2, true))) else ((getI a1 (wr .i64 ((wr .i64 (a2 + 1)) - 1))).bind fun y2 => bif (((y2.toNat : Int)) == 1) then ((F34w_49_0 self n 0 a1 a3 0 0 ByteArray.empty (n+7) 0 0 (wr .i64 (a2 + 1))).bind fun o51 => match o51 with | (Sum.inl ((y52, y53, y54))) => bif ((Int.tmod y52 2) == 1) then (some (((S_Value.mk 1 (wr .i64 ((wr .i64 (0 - (wr .i64 (wr .u64 (Int.tdiv y52 2))))) - 1)) ByteArray.empty ([])), y53, y54))) else (some (((S_Value.mk 1 (wr .i64 (wr .u64 (Int.tdiv y52 2))) ByteArray.empty ([])), y53, y54))) | (Sum.inr ((Sum.inl ((y59, y60))))) => bif ((Int.tmod y59 2) == 1) then (some (((S_Value.mk 1 (wr .i64 ((wr .i64 (0 - (wr .i64 (wr .u64 (Int.tdiv y59 2))))) - 1)) ByteArray.empty ([])), y60, a3))) else (some (((S_Value.mk 1 (wr .i64 (wr .u64 (Int.tdiv y59 2))) ByteArray.empty ([])), y60, a3))) | (Sum.inr ((Sum.inr y65))) => bif ((Int.tmod 0 2) == 1) then (some (((S_Value.mk 1 (wr .i64 ((wr .i64 (0 - (wr .i64 (wr .u64 (Int.tdiv 0 2))))) - 1)) ByteArray.empty ([])), y65, a3))) else (some (((S_Value.mk 1 (wr .i64 (wr .u64 (Int.tdiv 0 2))) ByteArray.empty ([])), y65, a3)))) else (bif (((y2.toNat : Int)) == 2) then ((F34w_49_0a self n 0 a1 a3 0 0 ByteArray.empty (n+7) 0 0 (wr .i64 (a2 + 1))).bind fun o119 => match o119 with | (Sum.inl ((y120, y121, y122))) => bif y122 then ((some true).bind fun y131 => bif y131 then (some (((S_Value.mk 0 0 ByteArray.empty ([])), y121, true))) else ((subI a1 (wr .i64 ((wr .i64 (y121 + (wr .i64 (y120)))) - (wr .i64 (y120)))) (wr .i64 (y121 + (wr .i64 (y120))))).bind fun y134 => some (((S_Value.mk 2 0 (bstr y134) ([])), wr .i64 (y121 + (wr .i64 (y120))), y122)))) else ((some (decide ((wr .u64 (wr .i64 (((a1.length : Int)) - y121))) < y120))).bind fun y127 => bif y127 then (some (((S_Value.mk 0 0 ByteArray.empty ([])), y121, true))) else ((subI a1 (wr .i64 ((wr .i64 (y121 + (wr .i64 (y120)))) - (wr .i64 (y120)))) (wr .i64 (y121 + (wr .i64 (y120))))).bind fun y130 => some (((S_Value.mk 2 0 (bstr y130) ([])), wr .i64 (y121 + (wr .i64 (y120))), y122)))) | (Sum.inr ((Sum.inl ((y135, y136))))) => bif a3 then ((some true).bind fun y145 => bif y145 then (some (((S_Value.mk 0 0 ByteArray.empty ([])), y136, true))) else ((subI a1 (wr .i64 ((wr .i64 (y136 + (wr .i64 (y135)))) - (wr .i64 (y135)))) (wr .i64 (y136 + (wr .i64 (y135))))).bind fun y148 => some (((S_Value.mk 2 0 (bstr y148) ([])), wr .i64 (y136 + (wr .i64 (y135))), a3)))) else ((some (decide ((wr .u64 (wr .i64 (((a1.length : Int)) - y136))) < y135))).bind fun y141 => bif y141 then (some (((S_Value.mk 0 0 ByteArray.empty ([])), y136, true))) else ((subI a1 (wr .i64 ((wr .i64 (y136 + (wr .i64 (y135)))) - (wr .i64 (y135)))) (wr .i64 (y136 + (wr .i64 (y135))))).bind fun y144 => some (((S_Value.mk 2 0 (bstr y144) ([])), wr .i64 (y136 + (wr .i64 (y135))), a3)))) | (Sum.inr ((Sum.inr y149))) => bif a3 then ((some true).bind fun y159 => bif y159 then (some (((S_Value.mk 0 0 ByteArray.empty ([])), y149, true))) else ((subI a1 (wr .i64 ((wr .i64 (y149 + 0)) - 0)) (wr .i64 (y149 + 0))).bind fun y162 => some (((S_Value.mk 2 0 (bstr y162) ([])), wr .i64 (y149 + 0), a3)))) else ((some (decide ((wr .u64 (wr .i64 (((a1.length : Int)) - y149))) < 0))).bind fun y155 => bif y155 then (some (((S_Value.mk 0 0 ByteArray.empty ([])), y149, true))) else ((subI a1 (wr .i64 ((wr .i64 (y149 + 0)) - 0)) (wr .i64 (y149 + 0))).bind fun y158 => some (((S_Value.mk 2 0 (bstr y158) ([])), wr .i64 (y149 + 0), a3))))) else (bif (((y2.toNat : Int)) == 3) then ((F34w_49_0b self n 0 a1 a3 0 0 ByteArray.empty (n+7) 0 0 (wr .i64 (a2 + 1))).bind fun o211 => match o211 with | (Sum.inl ((y212, y213, y214))) => bif y214 then ((some true).bind fun y257 => (bif y257 then (some true) else (some (a4 == 16))).bind fun y260 => bif y260 then (some (((S_Value.mk 0 0 ByteArray.empty ([])), y213, true))) else ((F34w_34_0a self n a4 y212 a1 0 0 ByteArray.empty ([]) 3 0 ByteArray.empty (n+8) 0 y213 y214 (([] : List S_Value))).bind fun o288 => match o288 with | (y289, y290, y291) => some (((S_Value.mk 3 0 ByteArray.empty y291), y289, y290)))) else ((some (decide ((wr .u64 (wr .i64 (((a1.length : Int)) - y213))) < y212))).bind fun y219 => (bif y219 then (some true) else (some (a4 == 16))).bind fun y222 => bif y222 then (some (((S_Value.mk 0 0 ByteArray.empty ([])), y213, true))) else ((F34w_34_0 self n a4 y212 a1 0 0 ByteArray.empty ([]) 3 0 ByteArray.empty (n+8) 0 y213 y214 (([] : List S_Value))).bind fun o250 => match o250 with | (y251, y252, y253) => some (((S_Value.mk 3 0 ByteArray.empty y253), y251, y252)))) | (Sum.inr ((Sum.inl ((y295, y296))))) => bif a3 then ((some true).bind fun y339 => (bif y339 then (some true) else (some (a4 == 16))).bind fun y342 => bif y342 then (some (((S_Value.mk 0 0 ByteArray.empty ([])), y296, true))) else ((F34w_34_0c self n a4 y295 a1 0 0 ByteArray.empty ([]) 3 0 ByteArray.empty (n+8) 0 y296 a3 (([] : List S_Value))).bind fun o370 => match o370 with | (y371, y372, y373) => some (((S_Value.mk 3 0 ByteArray.empty y373), y371, y372)))) else ((some (decide ((wr .u64 (wr .i64 (((a1.length : Int)) - y296))) < y295))).bind fun y301 => (bif y301 then (some true) else (some (a4 == 16))).bind fun y304 => bif y304 then (some (((S_Value.mk 0 0 ByteArray.empty ([])), y296, true))) else ((F34w_34_0b self n a4 y295 a1 0 0 ByteArray.empty ([]) 3 0 ByteArray.empty (n+8) 0 y296 a3 (([] : List S_Value))).bind fun o332 => match o332 with | (y333, y334, y335) => some (((S_Value.mk 3 0 ByteArray.empty y335), y333, y334)))) | (Sum.inr ((Sum.inr y377))) => bif a3 then ((some true).bind fun y421 => (bif y421 then (some true) else (some (a4 == 16))).bind fun y424 => bif y424 then (some (((S_Value.mk 0 0 ByteArray.empty ([])), y377, true))) else ((F34w_34_0e self n a4 0 a1 0 0 ByteArray.empty ([]) 3 0 ByteArray.empty (n+8) 0 y377 a3 (([] : List S_Value))).bind fun o452 => match o452 with | (y453, y454, y455) => some (((S_Value.mk 3 0 ByteArray.empty y455), y453, y454)))) else ((some (decide ((wr .u64 (wr .i64 (((a1.length : Int)) - y377))) < 0))).bind fun y383 => (bif y383 then (some true) else (some (a4 == 16))).bind fun y386 => bif y386 then (some (((S_Value.mk 0 0 ByteArray.empty ([])), y377, true))) else ((F34w_34_0d self n a4 0 a1 0 0 ByteArray.empty ([]) 3 0 ByteArray.empty (n+8) 0 y377 a3 (([] : List S_Value))).bind fun o414 => match o414 with | (y415, y416, y417) => some (((S_Value.mk 3 0 ByteArray.empty y417), y415, y416))))) else (some (((S_Value.mk 0 0 ByteArray.empty ([])), wr .i64 (a2 + 1), true))))))
theorem T34w (C : Nat -> List A -> Option A) (n : Nat) (self : (List UInt8) -> Int -> Bool -> Int -> Option (S_Value × Int × Bool)) (hS : HS34 C (n+8) self) (a1 : (List UInt8)) (a2 : Int) (a3 : Bool) (a4 : Int) : J (fun (o : R) (y : (S_Value × Int × Bool)) => ∃ Z, o = (Out.ret (A.agg [(iA y.1.Kind), (iA y.1.N), (A.v (Value.string y.1.S)), (A.imm (List.map c_S_Value y.1.L) false)]), [hk34w_1, Blk.box [(A.imm (List.map c8 a1) false), (iA y.2.1), (bA y.2.2)]] ++ Z)) (evCall1 (cx C) (ec C n 8) (ey C n 8) (n+8) 34 [(A.ptr 1 0), (iA a4)] [hk34w_1, Blk.box [(A.imm (List.map c8 a1) false), (iA a2), (bA a3)]] 0) some (F34w self n a1 a2 a3 a4) some := by
 refine .lp (e34 ..) ?_
 unfold F34w
 refine .s ((A.ptr 2 0), [hk34w_1, Blk.box [(A.imm (List.map c8 a1) false), (iA a2), (bA a3)], hk34w_1]) ?_
 refine .cl ((evCall_in lt_48).trans (e48 C (ec C n 7) (ey C n 7) (n+7) _ _ _)) ?_
 refine .s (A.ptr 1 0) (.s (A.ptr 1 1) (.s (iA a2) (.s (A.ptr 1 0) (.s (A.ptr 1 0) (.s (A.imm (List.map c8 a1) false) ?_)))))
 refine .st (v := (iA ((a1.length : Int)))) (len_imm (e := 5) (h1 := by kernel_rfl) ..) ?_
 refine .st (v := (bA (decide (((a1.length : Int)) <= a2)))) (aBin_geq ..) ?_
 refine .biHN (fun hk1 => ?_) (fun hk1 => ?_)
 ·refine .s (A.ptr 1 0) (.s (A.ptr 1 2) (.s [hk34w_1, Blk.box [(A.imm (List.map c8 a1) false), (iA a2), (bA true)], hk34w_1] ?_))
  refine .cr ?_
  refine .ok ?_
  refine .s (bA false) ?_
  refine .bFN ?_
  refine .s (bA false) ?_
  refine .bFN ?_
  refine .s (bA false) ?_
  refine .bFN ?_
  refine .s (A.ptr 1 0) (.s (A.ptr 1 2) (.s [hk34w_1, Blk.box [(A.imm (List.map c8 a1) false), (iA a2), (bA true)], hk34w_1] (.s (A.agg [(iA 0), (iA 0), (A.v (Value.string ByteArray.empty)), (A.imm [] true)]) (.s [hk34w_1, Blk.box [(A.imm (List.map c8 a1) false), (iA a2), (bA true)], hk34w_1] (.s (A.agg [(iA 0), (iA 0), (A.v (Value.string ByteArray.empty)), (A.imm [] false)]) ?_)))))
  exact .lf rfl rfl (actC_low (o := Out.ret (A.agg [(iA 0), (iA 0), (A.v (Value.string ByteArray.empty)), (A.imm [] false)])) (lo := 0) (off := 3) (b := 2) (p := 0) (H2 := [hk34w_1, Blk.box [(A.imm (List.map c8 a1) false), (iA a2), (bA true)]]) (X := [hk34w_1]) (Nat.le_of_ble_eq_true rfl))
 refine .s (A.ptr 1 0) (.s (A.ptr 1 1) (.s (iA a2) ?_))
 refine .st (v := (iA (wr .i64 (a2 + 1)))) (aBin_add ..) ?_
 refine .s (A.ptr 1 0) (.s (A.ptr 1 1) (.s [hk34w_1, Blk.box [(A.imm (List.map c8 a1) false), (iA (wr .i64 (a2 + 1))), (bA a3)], hk34w_1] (.s (A.ptr 1 0) (.s (A.ptr 1 0) (.s (A.imm (List.map c8 a1) false) (.s (A.ptr 1 0) (.s (A.ptr 1 1) (.s (iA (wr .i64 (a2 + 1))) ?_))))))))
 refine .st (v := (iA (wr .i64 ((wr .i64 (a2 + 1)) - 1)))) (aBin_sub ..) ?_
 refine .bd (g := fun (y : UInt8) => A.ip (c8 y)) (idx_imm (e := 5) (es := 1) (h1 := by kernel_rfl) (h2 := by kernel_rfl) (h3 := fun _ => rfl) ..) fun y2 => ?_
 refine .s (uA ((y2.toNat : Int))) ?_
 refine .cr ?_
 refine .ok ?_
 refine .st (v := (bA (((y2.toNat : Int)) == 1))) (aBin_eql ..) ?_
 refine .biHN (fun hk3 => ?_) (fun hk3 => ?_)
 ·refine .cl ((evCall_in lt_49).trans (e49 C (ec C n 7) (ey C n 7) (n+7) _ _ _)) ?_
  refine .as (T34w_49_0 C n  self hS 0 a1 a3 0 0 ByteArray.empty _ _ _ _ ?_ ?_ ?_ _ 0 0 (wr .i64 (a2 + 1)))
  ·intro y52 y53 y54 j55 j56 j57
   refine .un rfl ?_
   refine .cr ?_
   refine .ok ?_
   refine .st (v := (A.v (.int .u64 (Int.tmod y52 2)))) (aBin_rem (hb := by decide) ..) ?_
   refine .st (v := (bA ((Int.tmod y52 2) == 1))) (aBin_eql ..) ?_
   refine .biHN (fun hk58 => ?_) (fun hk58 => ?_)
   ·refine .st (v := (A.v (.int .u64 (wr .u64 (Int.tdiv y52 2))))) (aBin_quo (hb := by decide) ..) ?_
    refine .st (v := (iA (wr .i64 (wr .u64 (Int.tdiv y52 2))))) (aConvert_int (hs := by kernel_rfl) (hd := by kernel_rfl) ..) ?_
    refine .s (iA (wr .i64 (0 - (wr .i64 (wr .u64 (Int.tdiv y52 2)))))) ?_
    refine .st (v := (iA (wr .i64 ((wr .i64 (0 - (wr .i64 (wr .u64 (Int.tdiv y52 2))))) - 1)))) (aBin_sub ..) ?_
    refine .s (A.agg [(iA 1), (iA (wr .i64 ((wr .i64 (0 - (wr .i64 (wr .u64 (Int.tdiv y52 2))))) - 1))), (A.v (Value.string ByteArray.empty)), (A.imm [] true)]) (.s [hk34w_1, Blk.box [(A.imm (List.map c8 a1) false), (iA y53), (bA y54)], Blk.box [(iA 1), (iA (wr .i64 ((wr .i64 (0 - (wr .i64 (wr .u64 (Int.tdiv y52 2))))) - 1))), (A.v (Value.string ByteArray.empty)), (A.imm [] true)]] (.s (A.agg [(iA 1), (iA (wr .i64 ((wr .i64 (0 - (wr .i64 (wr .u64 (Int.tdiv y52 2))))) - 1))), (A.v (Value.string ByteArray.empty)), (A.imm [] false)]) ?_))
    exact .lf rfl rfl (actC_low (o := Out.ret (A.agg [(iA 1), (iA (wr .i64 ((wr .i64 (0 - (wr .i64 (wr .u64 (Int.tdiv y52 2))))) - 1))), (A.v (Value.string ByteArray.empty)), (A.imm [] false)])) (lo := 0) (off := 3) (b := 2) (p := 0) (H2 := [hk34w_1, Blk.box [(A.imm (List.map c8 a1) false), (iA y53), (bA y54)]]) (X := [Blk.box [(iA 1), (iA (wr .i64 ((wr .i64 (0 - (wr .i64 (wr .u64 (Int.tdiv y52 2))))) - 1))), (A.v (Value.string ByteArray.empty)), (A.imm [] true)]]) (Nat.le_of_ble_eq_true rfl))
   refine .st (v := (A.v (.int .u64 (wr .u64 (Int.tdiv y52 2))))) (aBin_quo (hb := by decide) ..) ?_
   refine .st (v := (iA (wr .i64 (wr .u64 (Int.tdiv y52 2))))) (aConvert_int (hs := by kernel_rfl) (hd := by kernel_rfl) ..) ?_
   refine .s (A.agg [(iA 1), (iA (wr .i64 (wr .u64 (Int.tdiv y52 2)))), (A.v (Value.string ByteArray.empty)), (A.imm [] true)]) (.s [hk34w_1, Blk.box [(A.imm (List.map c8 a1) false), (iA y53), (bA y54)], Blk.box [(iA 1), (iA (wr .i64 (wr .u64 (Int.tdiv y52 2)))), (A.v (Value.string ByteArray.empty)), (A.imm [] true)]] (.s (A.agg [(iA 1), (iA (wr .i64 (wr .u64 (Int.tdiv y52 2)))), (A.v (Value.string ByteArray.empty)), (A.imm [] false)]) ?_))
   exact .lf rfl rfl (actC_low (o := Out.ret (A.agg [(iA 1), (iA (wr .i64 (wr .u64 (Int.tdiv y52 2)))), (A.v (Value.string ByteArray.empty)), (A.imm [] false)])) (lo := 0) (off := 3) (b := 2) (p := 0) (H2 := [hk34w_1, Blk.box [(A.imm (List.map c8 a1) false), (iA y53), (bA y54)]]) (X := [Blk.box [(iA 1), (iA (wr .i64 (wr .u64 (Int.tdiv y52 2)))), (A.v (Value.string ByteArray.empty)), (A.imm [] true)]]) (Nat.le_of_ble_eq_true rfl))
  ·intro y59 y60 j61 j62 j63
   refine .un rfl ?_
   refine .cr ?_
   refine .ok ?_
   refine .st (v := (A.v (.int .u64 (Int.tmod y59 2)))) (aBin_rem (hb := by decide) ..) ?_
   refine .st (v := (bA ((Int.tmod y59 2) == 1))) (aBin_eql ..) ?_
   refine .biHN (fun hk64 => ?_) (fun hk64 => ?_)
   ·refine .st (v := (A.v (.int .u64 (wr .u64 (Int.tdiv y59 2))))) (aBin_quo (hb := by decide) ..) ?_
    refine .st (v := (iA (wr .i64 (wr .u64 (Int.tdiv y59 2))))) (aConvert_int (hs := by kernel_rfl) (hd := by kernel_rfl) ..) ?_
    refine .s (iA (wr .i64 (0 - (wr .i64 (wr .u64 (Int.tdiv y59 2)))))) ?_
    refine .st (v := (iA (wr .i64 ((wr .i64 (0 - (wr .i64 (wr .u64 (Int.tdiv y59 2))))) - 1)))) (aBin_sub ..) ?_
    refine .s (A.agg [(iA 1), (iA (wr .i64 ((wr .i64 (0 - (wr .i64 (wr .u64 (Int.tdiv y59 2))))) - 1))), (A.v (Value.string ByteArray.empty)), (A.imm [] true)]) (.s [hk34w_1, Blk.box [(A.imm (List.map c8 a1) false), (iA y60), (bA a3)], Blk.box [(iA 1), (iA (wr .i64 ((wr .i64 (0 - (wr .i64 (wr .u64 (Int.tdiv y59 2))))) - 1))), (A.v (Value.string ByteArray.empty)), (A.imm [] true)]] (.s (A.agg [(iA 1), (iA (wr .i64 ((wr .i64 (0 - (wr .i64 (wr .u64 (Int.tdiv y59 2))))) - 1))), (A.v (Value.string ByteArray.empty)), (A.imm [] false)]) ?_))
    exact .lf rfl rfl (actC_low (o := Out.ret (A.agg [(iA 1), (iA (wr .i64 ((wr .i64 (0 - (wr .i64 (wr .u64 (Int.tdiv y59 2))))) - 1))), (A.v (Value.string ByteArray.empty)), (A.imm [] false)])) (lo := 0) (off := 3) (b := 2) (p := 0) (H2 := [hk34w_1, Blk.box [(A.imm (List.map c8 a1) false), (iA y60), (bA a3)]]) (X := [Blk.box [(iA 1), (iA (wr .i64 ((wr .i64 (0 - (wr .i64 (wr .u64 (Int.tdiv y59 2))))) - 1))), (A.v (Value.string ByteArray.empty)), (A.imm [] true)]]) (Nat.le_of_ble_eq_true rfl))
   refine .st (v := (A.v (.int .u64 (wr .u64 (Int.tdiv y59 2))))) (aBin_quo (hb := by decide) ..) ?_
   refine .st (v := (iA (wr .i64 (wr .u64 (Int.tdiv y59 2))))) (aConvert_int (hs := by kernel_rfl) (hd := by kernel_rfl) ..) ?_
   refine .s (A.agg [(iA 1), (iA (wr .i64 (wr .u64 (Int.tdiv y59 2)))), (A.v (Value.string ByteArray.empty)), (A.imm [] true)]) (.s [hk34w_1, Blk.box [(A.imm (List.map c8 a1) false), (iA y60), (bA a3)], Blk.box [(iA 1), (iA (wr .i64 (wr .u64 (Int.tdiv y59 2)))), (A.v (Value.string ByteArray.empty)), (A.imm [] true)]] (.s (A.agg [(iA 1), (iA (wr .i64 (wr .u64 (Int.tdiv y59 2)))), (A.v (Value.string ByteArray.empty)), (A.imm [] false)]) ?_))
   exact .lf rfl rfl (actC_low (o := Out.ret (A.agg [(iA 1), (iA (wr .i64 (wr .u64 (Int.tdiv y59 2)))), (A.v (Value.string ByteArray.empty)), (A.imm [] false)])) (lo := 0) (off := 3) (b := 2) (p := 0) (H2 := [hk34w_1, Blk.box [(A.imm (List.map c8 a1) false), (iA y60), (bA a3)]]) (X := [Blk.box [(iA 1), (iA (wr .i64 (wr .u64 (Int.tdiv y59 2)))), (A.v (Value.string ByteArray.empty)), (A.imm [] true)]]) (Nat.le_of_ble_eq_true rfl))
  ·intro y65 j66 j67 j68 j69
   refine .un rfl ?_
   refine .cT (by kernel_rfl) ?_
   refine .cr ?_
   refine .ok ?_
   refine .st (v := (A.v (.int .u64 (Int.tmod 0 2)))) (aBin_rem (hb := by decide) ..) ?_
   refine .st (v := (bA ((Int.tmod 0 2) == 1))) (aBin_eql ..) ?_
   refine .biHN (fun hk70 => ?_) (fun hk70 => ?_)
   ·refine .st (v := (A.v (.int .u64 (wr .u64 (Int.tdiv 0 2))))) (aBin_quo (hb := by decide) ..) ?_
    refine .st (v := (iA (wr .i64 (wr .u64 (Int.tdiv 0 2))))) (aConvert_int (hs := by kernel_rfl) (hd := by kernel_rfl) ..) ?_
    refine .s (iA (wr .i64 (0 - (wr .i64 (wr .u64 (Int.tdiv 0 2)))))) ?_
    refine .st (v := (iA (wr .i64 ((wr .i64 (0 - (wr .i64 (wr .u64 (Int.tdiv 0 2))))) - 1)))) (aBin_sub ..) ?_
    refine .s (A.agg [(iA 1), (iA (wr .i64 ((wr .i64 (0 - (wr .i64 (wr .u64 (Int.tdiv 0 2))))) - 1))), (A.v (Value.string ByteArray.empty)), (A.imm [] true)]) (.s [hk34w_1, Blk.box [(A.imm (List.map c8 a1) false), (iA y65), (bA a3)], Blk.box [(iA 1), (iA (wr .i64 ((wr .i64 (0 - (wr .i64 (wr .u64 (Int.tdiv 0 2))))) - 1))), (A.v (Value.string ByteArray.empty)), (A.imm [] true)]] (.s (A.agg [(iA 1), (iA (wr .i64 ((wr .i64 (0 - (wr .i64 (wr .u64 (Int.tdiv 0 2))))) - 1))), (A.v (Value.string ByteArray.empty)), (A.imm [] false)]) ?_))
    exact .lf rfl rfl (actC_low (o := Out.ret (A.agg [(iA 1), (iA (wr .i64 ((wr .i64 (0 - (wr .i64 (wr .u64 (Int.tdiv 0 2))))) - 1))), (A.v (Value.string ByteArray.empty)), (A.imm [] false)])) (lo := 0) (off := 3) (b := 2) (p := 0) (H2 := [hk34w_1, Blk.box [(A.imm (List.map c8 a1) false), (iA y65), (bA a3)]]) (X := [Blk.box [(iA 1), (iA (wr .i64 ((wr .i64 (0 - (wr .i64 (wr .u64 (Int.tdiv 0 2))))) - 1))), (A.v (Value.string ByteArray.empty)), (A.imm [] true)]]) (Nat.le_of_ble_eq_true rfl))
   refine .st (v := (A.v (.int .u64 (wr .u64 (Int.tdiv 0 2))))) (aBin_quo (hb := by decide) ..) ?_
   refine .st (v := (iA (wr .i64 (wr .u64 (Int.tdiv 0 2))))) (aConvert_int (hs := by kernel_rfl) (hd := by kernel_rfl) ..) ?_
   refine .s (A.agg [(iA 1), (iA (wr .i64 (wr .u64 (Int.tdiv 0 2)))), (A.v (Value.string ByteArray.empty)), (A.imm [] true)]) (.s [hk34w_1, Blk.box [(A.imm (List.map c8 a1) false), (iA y65), (bA a3)], Blk.box [(iA 1), (iA (wr .i64 (wr .u64 (Int.tdiv 0 2)))), (A.v (Value.string ByteArray.empty)), (A.imm [] true)]] (.s (A.agg [(iA 1), (iA (wr .i64 (wr .u64 (Int.tdiv 0 2)))), (A.v (Value.string ByteArray.empty)), (A.imm [] false)]) ?_))
   exact .lf rfl rfl (actC_low (o := Out.ret (A.agg [(iA 1), (iA (wr .i64 (wr .u64 (Int.tdiv 0 2)))), (A.v (Value.string ByteArray.empty)), (A.imm [] false)])) (lo := 0) (off := 3) (b := 2) (p := 0) (H2 := [hk34w_1, Blk.box [(A.imm (List.map c8 a1) false), (iA y65), (bA a3)]]) (X := [Blk.box [(iA 1), (iA (wr .i64 (wr .u64 (Int.tdiv 0 2)))), (A.v (Value.string ByteArray.empty)), (A.imm [] true)]]) (Nat.le_of_ble_eq_true rfl))
 refine .st (v := (bA (((y2.toNat : Int)) == 2))) (aBin_eql ..) ?_
 refine .biHN (fun hk71 => ?_) (fun hk71 => ?_)
 ·refine .cl ((evCall_in lt_49).trans (e49 C (ec C n 7) (ey C n 7) (n+7) _ _ _)) ?_
  refine .as (T34w_49_0a C n  self hS 0 a1 a3 0 0 ByteArray.empty _ _ _ _ ?_ ?_ ?_ _ 0 0 (wr .i64 (a2 + 1)))
  ·intro y120 y121 y122 j123 j124 j125
   refine .un rfl ?_
   refine .cr ?_
   refine .ok ?_
   refine .s (A.ptr 1 0) (.s (A.ptr 1 2) (.s (bA y122) ?_))
   refine .gsf (fun hc126 => ?_) (fun hc126 => ?_)
   ·refine .bb ?_
    refine .s (A.ptr 1 0) (.s (A.ptr 1 0) (.s (A.imm (List.map c8 a1) false) ?_))
    refine .st (v := (iA ((a1.length : Int)))) (len_imm (e := 5) (h1 := by kernel_rfl) ..) ?_
    refine .s (A.ptr 1 0) (.s (A.ptr 1 1) (.s (iA y121) ?_))
    refine .st (v := (iA (wr .i64 (((a1.length : Int)) - y121)))) (aBin_sub ..) ?_
    refine .st (v := (A.v (.int .u64 (wr .u64 (wr .i64 (((a1.length : Int)) - y121)))))) (aConvert_int (hs := by kernel_rfl) (hd := by kernel_rfl) ..) ?_
    refine .cr ?_
    iterate 12 refine .uc ?_
    refine .bg (fun t (y : Bool) => ∃ j128 : A, t = [(bA y), j128]) ?_ ?_
    ·refine .bKF hc126 ?_
     refine .st (v := (bA (decide ((wr .u64 (wr .i64 (((a1.length : Int)) - y121))) < y120)))) (aBin_gtr ..) ?_
     exact .lg ⟨_, rfl⟩
    rintro _ y127 ⟨j128, rfl⟩
    iterate 2 refine .uc ?_
    refine .biHN (fun hk129 => ?_) (fun hk129 => ?_)
    ·refine .s (A.ptr 1 0) (.s (A.ptr 1 2) (.s [hk34w_1, Blk.box [(A.imm (List.map c8 a1) false), (iA y121), (bA true)], hk34w_1] (.s (A.agg [(iA 0), (iA 0), (A.v (Value.string ByteArray.empty)), (A.imm [] true)]) (.s [hk34w_1, Blk.box [(A.imm (List.map c8 a1) false), (iA y121), (bA true)], hk34w_1] (.s (A.agg [(iA 0), (iA 0), (A.v (Value.string ByteArray.empty)), (A.imm [] false)]) ?_)))))
     exact .lf rfl rfl (actC_low (o := Out.ret (A.agg [(iA 0), (iA 0), (A.v (Value.string ByteArray.empty)), (A.imm [] false)])) (lo := 0) (off := 3) (b := 2) (p := 0) (H2 := [hk34w_1, Blk.box [(A.imm (List.map c8 a1) false), (iA y121), (bA true)]]) (X := [hk34w_1]) (Nat.le_of_ble_eq_true rfl))
    refine .s (A.ptr 1 0) (.s (A.ptr 1 1) (.s (iA y121) ?_))
    refine .st (v := (iA (wr .i64 (y120)))) (aConvert_int (hs := by kernel_rfl) (hd := by kernel_rfl) ..) ?_
    refine .st (v := (iA (wr .i64 (y121 + (wr .i64 (y120)))))) (aBin_add ..) ?_
    refine .s (A.ptr 1 0) (.s (A.ptr 1 1) (.s [hk34w_1, (hk34w_11 a1 y121 y120 y122), hk34w_1] (.s (A.ptr 1 0) (.s (A.ptr 1 0) (.s (A.imm (List.map c8 a1) false) (.s (A.ptr 1 0) (.s (A.ptr 1 1) (.s (iA (wr .i64 (y121 + (wr .i64 (y120))))) ?_))))))))
    refine .st (v := (iA (wr .i64 (y120)))) (aConvert_int (hs := by kernel_rfl) (hd := by kernel_rfl) ..) ?_
    refine .st (v := (iA (wr .i64 ((wr .i64 (y121 + (wr .i64 (y120)))) - (wr .i64 (y120)))))) (aBin_sub ..) ?_
    refine .s (A.ptr 1 0) (.s (A.ptr 1 1) (.s (iA (wr .i64 (y121 + (wr .i64 (y120))))) ?_))
    refine .bd (g := fun (y : List UInt8) => (A.imm (List.map c8 y) false)) (cut_imm (e := 5) (es := 1) (f := c8) (l := a1) (a := wr .i64 ((wr .i64 (y121 + (wr .i64 (y120)))) - (wr .i64 (y120)))) (b := wr .i64 (y121 + (wr .i64 (y120)))) (by kernel_rfl) (by kernel_rfl) (fun _ => rfl) (.inr ⟨_, rfl⟩) (.inr ⟨_, rfl⟩)) fun y130 => ?_
    refine .st (v := (A.v (Value.string (bstr y130)))) (conv_bs (e := 5) (l := y130) (by kernel_rfl) (by kernel_rfl) (by kernel_rfl) (by kernel_rfl) (els_imm ..) rfl) ?_
    refine .s (A.agg [(iA 2), (iA 0), (A.v (Value.string (bstr y130))), (A.imm [] true)]) (.s [hk34w_1, (hk34w_11 a1 y121 y120 y122), Blk.box [(iA 2), (iA 0), (A.v (Value.string (bstr y130))), (A.imm [] true)]] (.s (A.agg [(iA 2), (iA 0), (A.v (Value.string (bstr y130))), (A.imm [] false)]) ?_))
    exact .lf rfl rfl (actC_low (o := Out.ret (A.agg [(iA 2), (iA 0), (A.v (Value.string (bstr y130))), (A.imm [] false)])) (lo := 0) (off := 3) (b := 2) (p := 0) (H2 := [hk34w_1, (hk34w_11 a1 y121 y120 y122)]) (X := [Blk.box [(iA 2), (iA 0), (A.v (Value.string (bstr y130))), (A.imm [] true)]]) (Nat.le_of_ble_eq_true rfl))
   refine .bb ?_
   refine .cr ?_
   iterate 12 refine .uc ?_
   refine .bg (fun t (y : Bool) => ∃ j132 : A, t = [(bA y), j132]) ?_ ?_
   ·refine .bKT hc126 ?_
    exact .lg ⟨_, rfl⟩
   rintro _ y131 ⟨j132, rfl⟩
   iterate 2 refine .uc ?_
   refine .biHN (fun hk133 => ?_) (fun hk133 => ?_)
   ·refine .s (A.ptr 1 0) (.s (A.ptr 1 2) (.s [hk34w_1, Blk.box [(A.imm (List.map c8 a1) false), (iA y121), (bA true)], hk34w_1] (.s (A.agg [(iA 0), (iA 0), (A.v (Value.string ByteArray.empty)), (A.imm [] true)]) (.s [hk34w_1, Blk.box [(A.imm (List.map c8 a1) false), (iA y121), (bA true)], hk34w_1] (.s (A.agg [(iA 0), (iA 0), (A.v (Value.string ByteArray.empty)), (A.imm [] false)]) ?_)))))
    exact .lf rfl rfl (actC_low (o := Out.ret (A.agg [(iA 0), (iA 0), (A.v (Value.string ByteArray.empty)), (A.imm [] false)])) (lo := 0) (off := 3) (b := 2) (p := 0) (H2 := [hk34w_1, Blk.box [(A.imm (List.map c8 a1) false), (iA y121), (bA true)]]) (X := [hk34w_1]) (Nat.le_of_ble_eq_true rfl))
   refine .s (A.ptr 1 0) (.s (A.ptr 1 1) (.s (iA y121) ?_))
   refine .st (v := (iA (wr .i64 (y120)))) (aConvert_int (hs := by kernel_rfl) (hd := by kernel_rfl) ..) ?_
   refine .st (v := (iA (wr .i64 (y121 + (wr .i64 (y120)))))) (aBin_add ..) ?_
   refine .s (A.ptr 1 0) (.s (A.ptr 1 1) (.s [hk34w_1, (hk34w_11 a1 y121 y120 y122), hk34w_1] (.s (A.ptr 1 0) (.s (A.ptr 1 0) (.s (A.imm (List.map c8 a1) false) (.s (A.ptr 1 0) (.s (A.ptr 1 1) (.s (iA (wr .i64 (y121 + (wr .i64 (y120))))) ?_))))))))
   refine .st (v := (iA (wr .i64 (y120)))) (aConvert_int (hs := by kernel_rfl) (hd := by kernel_rfl) ..) ?_
   refine .st (v := (iA (wr .i64 ((wr .i64 (y121 + (wr .i64 (y120)))) - (wr .i64 (y120)))))) (aBin_sub ..) ?_
   refine .s (A.ptr 1 0) (.s (A.ptr 1 1) (.s (iA (wr .i64 (y121 + (wr .i64 (y120))))) ?_))
   refine .bd (g := fun (y : List UInt8) => (A.imm (List.map c8 y) false)) (cut_imm (e := 5) (es := 1) (f := c8) (l := a1) (a := wr .i64 ((wr .i64 (y121 + (wr .i64 (y120)))) - (wr .i64 (y120)))) (b := wr .i64 (y121 + (wr .i64 (y120)))) (by kernel_rfl) (by kernel_rfl) (fun _ => rfl) (.inr ⟨_, rfl⟩) (.inr ⟨_, rfl⟩)) fun y134 => ?_
   refine .st (v := (A.v (Value.string (bstr y134)))) (conv_bs (e := 5) (l := y134) (by kernel_rfl) (by kernel_rfl) (by kernel_rfl) (by kernel_rfl) (els_imm ..) rfl) ?_
   refine .s (A.agg [(iA 2), (iA 0), (A.v (Value.string (bstr y134))), (A.imm [] true)]) (.s [hk34w_1, (hk34w_11 a1 y121 y120 y122), Blk.box [(iA 2), (iA 0), (A.v (Value.string (bstr y134))), (A.imm [] true)]] (.s (A.agg [(iA 2), (iA 0), (A.v (Value.string (bstr y134))), (A.imm [] false)]) ?_))
   exact .lf rfl rfl (actC_low (o := Out.ret (A.agg [(iA 2), (iA 0), (A.v (Value.string (bstr y134))), (A.imm [] false)])) (lo := 0) (off := 3) (b := 2) (p := 0) (H2 := [hk34w_1, (hk34w_11 a1 y121 y120 y122)]) (X := [Blk.box [(iA 2), (iA 0), (A.v (Value.string (bstr y134))), (A.imm [] true)]]) (Nat.le_of_ble_eq_true rfl))
  ·intro y135 y136 j137 j138 j139
   refine .un rfl ?_
   refine .cr ?_
   refine .ok ?_
   refine .s (A.ptr 1 0) (.s (A.ptr 1 2) (.s (bA a3) ?_))
   refine .gsf (fun hc140 => ?_) (fun hc140 => ?_)
   ·refine .bb ?_
    refine .s (A.ptr 1 0) (.s (A.ptr 1 0) (.s (A.imm (List.map c8 a1) false) ?_))
    refine .st (v := (iA ((a1.length : Int)))) (len_imm (e := 5) (h1 := by kernel_rfl) ..) ?_
    refine .s (A.ptr 1 0) (.s (A.ptr 1 1) (.s (iA y136) ?_))
    refine .st (v := (iA (wr .i64 (((a1.length : Int)) - y136)))) (aBin_sub ..) ?_
    refine .st (v := (A.v (.int .u64 (wr .u64 (wr .i64 (((a1.length : Int)) - y136)))))) (aConvert_int (hs := by kernel_rfl) (hd := by kernel_rfl) ..) ?_
    refine .cr ?_
    iterate 12 refine .uc ?_
    refine .bg (fun t (y : Bool) => ∃ j142 : A, t = [(bA y), j142]) ?_ ?_
    ·refine .bKF hc140 ?_
     refine .st (v := (bA (decide ((wr .u64 (wr .i64 (((a1.length : Int)) - y136))) < y135)))) (aBin_gtr ..) ?_
     exact .lg ⟨_, rfl⟩
    rintro _ y141 ⟨j142, rfl⟩
    iterate 2 refine .uc ?_
    refine .biHN (fun hk143 => ?_) (fun hk143 => ?_)
    ·refine .s (A.ptr 1 0) (.s (A.ptr 1 2) (.s [hk34w_1, Blk.box [(A.imm (List.map c8 a1) false), (iA y136), (bA true)], hk34w_1] (.s (A.agg [(iA 0), (iA 0), (A.v (Value.string ByteArray.empty)), (A.imm [] true)]) (.s [hk34w_1, Blk.box [(A.imm (List.map c8 a1) false), (iA y136), (bA true)], hk34w_1] (.s (A.agg [(iA 0), (iA 0), (A.v (Value.string ByteArray.empty)), (A.imm [] false)]) ?_)))))
     exact .lf rfl rfl (actC_low (o := Out.ret (A.agg [(iA 0), (iA 0), (A.v (Value.string ByteArray.empty)), (A.imm [] false)])) (lo := 0) (off := 3) (b := 2) (p := 0) (H2 := [hk34w_1, Blk.box [(A.imm (List.map c8 a1) false), (iA y136), (bA true)]]) (X := [hk34w_1]) (Nat.le_of_ble_eq_true rfl))
    refine .s (A.ptr 1 0) (.s (A.ptr 1 1) (.s (iA y136) ?_))
    refine .st (v := (iA (wr .i64 (y135)))) (aConvert_int (hs := by kernel_rfl) (hd := by kernel_rfl) ..) ?_
    refine .st (v := (iA (wr .i64 (y136 + (wr .i64 (y135)))))) (aBin_add ..) ?_
    refine .s (A.ptr 1 0) (.s (A.ptr 1 1) (.s [hk34w_1, (hk34w_18 a1 y136 y135 a3), hk34w_1] (.s (A.ptr 1 0) (.s (A.ptr 1 0) (.s (A.imm (List.map c8 a1) false) (.s (A.ptr 1 0) (.s (A.ptr 1 1) (.s (iA (wr .i64 (y136 + (wr .i64 (y135))))) ?_))))))))
    refine .st (v := (iA (wr .i64 (y135)))) (aConvert_int (hs := by kernel_rfl) (hd := by kernel_rfl) ..) ?_
    refine .st (v := (iA (wr .i64 ((wr .i64 (y136 + (wr .i64 (y135)))) - (wr .i64 (y135)))))) (aBin_sub ..) ?_
    refine .s (A.ptr 1 0) (.s (A.ptr 1 1) (.s (iA (wr .i64 (y136 + (wr .i64 (y135))))) ?_))
    refine .bd (g := fun (y : List UInt8) => (A.imm (List.map c8 y) false)) (cut_imm (e := 5) (es := 1) (f := c8) (l := a1) (a := wr .i64 ((wr .i64 (y136 + (wr .i64 (y135)))) - (wr .i64 (y135)))) (b := wr .i64 (y136 + (wr .i64 (y135)))) (by kernel_rfl) (by kernel_rfl) (fun _ => rfl) (.inr ⟨_, rfl⟩) (.inr ⟨_, rfl⟩)) fun y144 => ?_
    refine .st (v := (A.v (Value.string (bstr y144)))) (conv_bs (e := 5) (l := y144) (by kernel_rfl) (by kernel_rfl) (by kernel_rfl) (by kernel_rfl) (els_imm ..) rfl) ?_
    refine .s (A.agg [(iA 2), (iA 0), (A.v (Value.string (bstr y144))), (A.imm [] true)]) (.s [hk34w_1, (hk34w_18 a1 y136 y135 a3), Blk.box [(iA 2), (iA 0), (A.v (Value.string (bstr y144))), (A.imm [] true)]] (.s (A.agg [(iA 2), (iA 0), (A.v (Value.string (bstr y144))), (A.imm [] false)]) ?_))
    exact .lf rfl rfl (actC_low (o := Out.ret (A.agg [(iA 2), (iA 0), (A.v (Value.string (bstr y144))), (A.imm [] false)])) (lo := 0) (off := 3) (b := 2) (p := 0) (H2 := [hk34w_1, (hk34w_18 a1 y136 y135 a3)]) (X := [Blk.box [(iA 2), (iA 0), (A.v (Value.string (bstr y144))), (A.imm [] true)]]) (Nat.le_of_ble_eq_true rfl))
   refine .bb ?_
   refine .cr ?_
   iterate 12 refine .uc ?_
   refine .bg (fun t (y : Bool) => ∃ j146 : A, t = [(bA y), j146]) ?_ ?_
   ·refine .bKT hc140 ?_
    exact .lg ⟨_, rfl⟩
   rintro _ y145 ⟨j146, rfl⟩
   iterate 2 refine .uc ?_
   refine .biHN (fun hk147 => ?_) (fun hk147 => ?_)
   ·refine .s (A.ptr 1 0) (.s (A.ptr 1 2) (.s [hk34w_1, Blk.box [(A.imm (List.map c8 a1) false), (iA y136), (bA true)], hk34w_1] (.s (A.agg [(iA 0), (iA 0), (A.v (Value.string ByteArray.empty)), (A.imm [] true)]) (.s [hk34w_1, Blk.box [(A.imm (List.map c8 a1) false), (iA y136), (bA true)], hk34w_1] (.s (A.agg [(iA 0), (iA 0), (A.v (Value.string ByteArray.empty)), (A.imm [] false)]) ?_)))))
    exact .lf rfl rfl (actC_low (o := Out.ret (A.agg [(iA 0), (iA 0), (A.v (Value.string ByteArray.empty)), (A.imm [] false)])) (lo := 0) (off := 3) (b := 2) (p := 0) (H2 := [hk34w_1, Blk.box [(A.imm (List.map c8 a1) false), (iA y136), (bA true)]]) (X := [hk34w_1]) (Nat.le_of_ble_eq_true rfl))
   refine .s (A.ptr 1 0) (.s (A.ptr 1 1) (.s (iA y136) ?_))
   refine .st (v := (iA (wr .i64 (y135)))) (aConvert_int (hs := by kernel_rfl) (hd := by kernel_rfl) ..) ?_
   refine .st (v := (iA (wr .i64 (y136 + (wr .i64 (y135)))))) (aBin_add ..) ?_
   refine .s (A.ptr 1 0) (.s (A.ptr 1 1) (.s [hk34w_1, (hk34w_18 a1 y136 y135 a3), hk34w_1] (.s (A.ptr 1 0) (.s (A.ptr 1 0) (.s (A.imm (List.map c8 a1) false) (.s (A.ptr 1 0) (.s (A.ptr 1 1) (.s (iA (wr .i64 (y136 + (wr .i64 (y135))))) ?_))))))))
   refine .st (v := (iA (wr .i64 (y135)))) (aConvert_int (hs := by kernel_rfl) (hd := by kernel_rfl) ..) ?_
   refine .st (v := (iA (wr .i64 ((wr .i64 (y136 + (wr .i64 (y135)))) - (wr .i64 (y135)))))) (aBin_sub ..) ?_
   refine .s (A.ptr 1 0) (.s (A.ptr 1 1) (.s (iA (wr .i64 (y136 + (wr .i64 (y135))))) ?_))
   refine .bd (g := fun (y : List UInt8) => (A.imm (List.map c8 y) false)) (cut_imm (e := 5) (es := 1) (f := c8) (l := a1) (a := wr .i64 ((wr .i64 (y136 + (wr .i64 (y135)))) - (wr .i64 (y135)))) (b := wr .i64 (y136 + (wr .i64 (y135)))) (by kernel_rfl) (by kernel_rfl) (fun _ => rfl) (.inr ⟨_, rfl⟩) (.inr ⟨_, rfl⟩)) fun y148 => ?_
   refine .st (v := (A.v (Value.string (bstr y148)))) (conv_bs (e := 5) (l := y148) (by kernel_rfl) (by kernel_rfl) (by kernel_rfl) (by kernel_rfl) (els_imm ..) rfl) ?_
   refine .s (A.agg [(iA 2), (iA 0), (A.v (Value.string (bstr y148))), (A.imm [] true)]) (.s [hk34w_1, (hk34w_18 a1 y136 y135 a3), Blk.box [(iA 2), (iA 0), (A.v (Value.string (bstr y148))), (A.imm [] true)]] (.s (A.agg [(iA 2), (iA 0), (A.v (Value.string (bstr y148))), (A.imm [] false)]) ?_))
   exact .lf rfl rfl (actC_low (o := Out.ret (A.agg [(iA 2), (iA 0), (A.v (Value.string (bstr y148))), (A.imm [] false)])) (lo := 0) (off := 3) (b := 2) (p := 0) (H2 := [hk34w_1, (hk34w_18 a1 y136 y135 a3)]) (X := [Blk.box [(iA 2), (iA 0), (A.v (Value.string (bstr y148))), (A.imm [] true)]]) (Nat.le_of_ble_eq_true rfl))
  ·intro y149 j150 j151 j152 j153
   refine .un rfl ?_
   refine .cT (by kernel_rfl) ?_
   refine .cr ?_
   refine .ok ?_
   refine .s (A.ptr 1 0) (.s (A.ptr 1 2) (.s (bA a3) ?_))
   refine .gsf (fun hc154 => ?_) (fun hc154 => ?_)
   ·refine .bb ?_
    refine .s (A.ptr 1 0) (.s (A.ptr 1 0) (.s (A.imm (List.map c8 a1) false) ?_))
    refine .st (v := (iA ((a1.length : Int)))) (len_imm (e := 5) (h1 := by kernel_rfl) ..) ?_
    refine .s (A.ptr 1 0) (.s (A.ptr 1 1) (.s (iA y149) ?_))
    refine .st (v := (iA (wr .i64 (((a1.length : Int)) - y149)))) (aBin_sub ..) ?_
    refine .st (v := (A.v (.int .u64 (wr .u64 (wr .i64 (((a1.length : Int)) - y149)))))) (aConvert_int (hs := by kernel_rfl) (hd := by kernel_rfl) ..) ?_
    refine .cr ?_
    iterate 12 refine .uc ?_
    refine .bg (fun t (y : Bool) => ∃ j156 : A, t = [(bA y), j156]) ?_ ?_
    ·refine .bKF hc154 ?_
     refine .st (v := (bA (decide ((wr .u64 (wr .i64 (((a1.length : Int)) - y149))) < 0)))) (aBin_gtr ..) ?_
     exact .lg ⟨_, rfl⟩
    rintro _ y155 ⟨j156, rfl⟩
    iterate 2 refine .uc ?_
    refine .biHN (fun hk157 => ?_) (fun hk157 => ?_)
    ·refine .s (A.ptr 1 0) (.s (A.ptr 1 2) (.s [hk34w_1, Blk.box [(A.imm (List.map c8 a1) false), (iA y149), (bA true)], hk34w_1] (.s (A.agg [(iA 0), (iA 0), (A.v (Value.string ByteArray.empty)), (A.imm [] true)]) (.s [hk34w_1, Blk.box [(A.imm (List.map c8 a1) false), (iA y149), (bA true)], hk34w_1] (.s (A.agg [(iA 0), (iA 0), (A.v (Value.string ByteArray.empty)), (A.imm [] false)]) ?_)))))
     exact .lf rfl rfl (actC_low (o := Out.ret (A.agg [(iA 0), (iA 0), (A.v (Value.string ByteArray.empty)), (A.imm [] false)])) (lo := 0) (off := 3) (b := 2) (p := 0) (H2 := [hk34w_1, Blk.box [(A.imm (List.map c8 a1) false), (iA y149), (bA true)]]) (X := [hk34w_1]) (Nat.le_of_ble_eq_true rfl))
    refine .s (A.ptr 1 0) (.s (A.ptr 1 1) (.s (iA y149) (.s (iA 0) ?_)))
    refine .st (v := (iA (wr .i64 (y149 + 0)))) (aBin_add ..) ?_
    refine .s (A.ptr 1 0) (.s (A.ptr 1 1) (.s [hk34w_1, Blk.box [(A.imm (List.map c8 a1) false), (iA (wr .i64 (y149 + 0))), (bA a3)], hk34w_1] (.s (A.ptr 1 0) (.s (A.ptr 1 0) (.s (A.imm (List.map c8 a1) false) (.s (A.ptr 1 0) (.s (A.ptr 1 1) (.s (iA (wr .i64 (y149 + 0))) (.s (iA 0) ?_)))))))))
    refine .st (v := (iA (wr .i64 ((wr .i64 (y149 + 0)) - 0)))) (aBin_sub ..) ?_
    refine .s (A.ptr 1 0) (.s (A.ptr 1 1) (.s (iA (wr .i64 (y149 + 0))) ?_))
    refine .bd (g := fun (y : List UInt8) => (A.imm (List.map c8 y) false)) (cut_imm (e := 5) (es := 1) (f := c8) (l := a1) (a := wr .i64 ((wr .i64 (y149 + 0)) - 0)) (b := wr .i64 (y149 + 0)) (by kernel_rfl) (by kernel_rfl) (fun _ => rfl) (.inr ⟨_, rfl⟩) (.inr ⟨_, rfl⟩)) fun y158 => ?_
    refine .st (v := (A.v (Value.string (bstr y158)))) (conv_bs (e := 5) (l := y158) (by kernel_rfl) (by kernel_rfl) (by kernel_rfl) (by kernel_rfl) (els_imm ..) rfl) ?_
    refine .s (A.agg [(iA 2), (iA 0), (A.v (Value.string (bstr y158))), (A.imm [] true)]) (.s [hk34w_1, Blk.box [(A.imm (List.map c8 a1) false), (iA (wr .i64 (y149 + 0))), (bA a3)], Blk.box [(iA 2), (iA 0), (A.v (Value.string (bstr y158))), (A.imm [] true)]] (.s (A.agg [(iA 2), (iA 0), (A.v (Value.string (bstr y158))), (A.imm [] false)]) ?_))
    exact .lf rfl rfl (actC_low (o := Out.ret (A.agg [(iA 2), (iA 0), (A.v (Value.string (bstr y158))), (A.imm [] false)])) (lo := 0) (off := 3) (b := 2) (p := 0) (H2 := [hk34w_1, Blk.box [(A.imm (List.map c8 a1) false), (iA (wr .i64 (y149 + 0))), (bA a3)]]) (X := [Blk.box [(iA 2), (iA 0), (A.v (Value.string (bstr y158))), (A.imm [] true)]]) (Nat.le_of_ble_eq_true rfl))
   refine .bb ?_
   refine .cr ?_
   iterate 12 refine .uc ?_
   refine .bg (fun t (y : Bool) => ∃ j160 : A, t = [(bA y), j160]) ?_ ?_
   ·refine .bKT hc154 ?_
    exact .lg ⟨_, rfl⟩
   rintro _ y159 ⟨j160, rfl⟩
   iterate 2 refine .uc ?_
   refine .biHN (fun hk161 => ?_) (fun hk161 => ?_)
   ·refine .s (A.ptr 1 0) (.s (A.ptr 1 2) (.s [hk34w_1, Blk.box [(A.imm (List.map c8 a1) false), (iA y149), (bA true)], hk34w_1] (.s (A.agg [(iA 0), (iA 0), (A.v (Value.string ByteArray.empty)), (A.imm [] true)]) (.s [hk34w_1, Blk.box [(A.imm (List.map c8 a1) false), (iA y149), (bA true)], hk34w_1] (.s (A.agg [(iA 0), (iA 0), (A.v (Value.string ByteArray.empty)), (A.imm [] false)]) ?_)))))
    exact .lf rfl rfl (actC_low (o := Out.ret (A.agg [(iA 0), (iA 0), (A.v (Value.string ByteArray.empty)), (A.imm [] false)])) (lo := 0) (off := 3) (b := 2) (p := 0) (H2 := [hk34w_1, Blk.box [(A.imm (List.map c8 a1) false), (iA y149), (bA true)]]) (X := [hk34w_1]) (Nat.le_of_ble_eq_true rfl))
   refine .s (A.ptr 1 0) (.s (A.ptr 1 1) (.s (iA y149) (.s (iA 0) ?_)))
   refine .st (v := (iA (wr .i64 (y149 + 0)))) (aBin_add ..) ?_
   refine .s (A.ptr 1 0) (.s (A.ptr 1 1) (.s [hk34w_1, Blk.box [(A.imm (List.map c8 a1) false), (iA (wr .i64 (y149 + 0))), (bA a3)], hk34w_1] (.s (A.ptr 1 0) (.s (A.ptr 1 0) (.s (A.imm (List.map c8 a1) false) (.s (A.ptr 1 0) (.s (A.ptr 1 1) (.s (iA (wr .i64 (y149 + 0))) (.s (iA 0) ?_)))))))))
   refine .st (v := (iA (wr .i64 ((wr .i64 (y149 + 0)) - 0)))) (aBin_sub ..) ?_
   refine .s (A.ptr 1 0) (.s (A.ptr 1 1) (.s (iA (wr .i64 (y149 + 0))) ?_))
   refine .bd (g := fun (y : List UInt8) => (A.imm (List.map c8 y) false)) (cut_imm (e := 5) (es := 1) (f := c8) (l := a1) (a := wr .i64 ((wr .i64 (y149 + 0)) - 0)) (b := wr .i64 (y149 + 0)) (by kernel_rfl) (by kernel_rfl) (fun _ => rfl) (.inr ⟨_, rfl⟩) (.inr ⟨_, rfl⟩)) fun y162 => ?_
   refine .st (v := (A.v (Value.string (bstr y162)))) (conv_bs (e := 5) (l := y162) (by kernel_rfl) (by kernel_rfl) (by kernel_rfl) (by kernel_rfl) (els_imm ..) rfl) ?_
   refine .s (A.agg [(iA 2), (iA 0), (A.v (Value.string (bstr y162))), (A.imm [] true)]) (.s [hk34w_1, Blk.box [(A.imm (List.map c8 a1) false), (iA (wr .i64 (y149 + 0))), (bA a3)], Blk.box [(iA 2), (iA 0), (A.v (Value.string (bstr y162))), (A.imm [] true)]] (.s (A.agg [(iA 2), (iA 0), (A.v (Value.string (bstr y162))), (A.imm [] false)]) ?_))
   exact .lf rfl rfl (actC_low (o := Out.ret (A.agg [(iA 2), (iA 0), (A.v (Value.string (bstr y162))), (A.imm [] false)])) (lo := 0) (off := 3) (b := 2) (p := 0) (H2 := [hk34w_1, Blk.box [(A.imm (List.map c8 a1) false), (iA (wr .i64 (y149 + 0))), (bA a3)]]) (X := [Blk.box [(iA 2), (iA 0), (A.v (Value.string (bstr y162))), (A.imm [] true)]]) (Nat.le_of_ble_eq_true rfl))
 refine .st (v := (bA (((y2.toNat : Int)) == 3))) (aBin_eql ..) ?_
 refine .biHN (fun hk163 => ?_) (fun hk163 => ?_)
 ·refine .cl ((evCall_in lt_49).trans (e49 C (ec C n 7) (ey C n 7) (n+7) _ _ _)) ?_
  refine .as (T34w_49_0b C n  self hS 0 a1 a3 0 0 ByteArray.empty _ _ _ _ ?_ ?_ ?_ _ 0 0 (wr .i64 (a2 + 1)))
  ·intro y212 y213 y214 j215 j216 j217
   refine .un rfl ?_
   refine .cr ?_
   refine .ok ?_
   refine .s (A.ptr 1 0) (.s (A.ptr 1 2) (.s (bA y214) ?_))
   refine .gsf (fun hc218 => ?_) (fun hc218 => ?_)
   ·refine .bb ?_
    refine .s (A.ptr 1 0) (.s (A.ptr 1 0) (.s (A.imm (List.map c8 a1) false) ?_))
    refine .st (v := (iA ((a1.length : Int)))) (len_imm (e := 5) (h1 := by kernel_rfl) ..) ?_
    refine .s (A.ptr 1 0) (.s (A.ptr 1 1) (.s (iA y213) ?_))
    refine .st (v := (iA (wr .i64 (((a1.length : Int)) - y213)))) (aBin_sub ..) ?_
    refine .st (v := (A.v (.int .u64 (wr .u64 (wr .i64 (((a1.length : Int)) - y213)))))) (aConvert_int (hs := by kernel_rfl) (hd := by kernel_rfl) ..) ?_
    refine .cr ?_
    iterate 12 refine .uc ?_
    refine .bg (fun t (y : Bool) => ∃ j220 : A, t = [(bA y), j220]) ?_ ?_
    ·refine .bKF hc218 ?_
     refine .st (v := (bA (decide ((wr .u64 (wr .i64 (((a1.length : Int)) - y213))) < y212)))) (aBin_gtr ..) ?_
     exact .lg ⟨_, rfl⟩
    rintro _ y219 ⟨j220, rfl⟩
    iterate 2 refine .uc ?_
    refine .bg (fun t (y : Bool) => ∃ j223 j224 : A, t = [(bA y), j223, j224]) ?_ ?_
    ·refine .biH (fun hk221 => ?_) (fun hk221 => ?_)
     ·exact .lg ⟨_, _, rfl⟩
     refine .st (v := (bA (a4 == 16))) (aBin_eql ..) ?_
     exact .lg ⟨_, _, rfl⟩
    rintro _ y222 ⟨j223, j224, rfl⟩
    iterate 3 refine .uc ?_
    refine .biHN (fun hk225 => ?_) (fun hk225 => ?_)
    ·refine .s (A.ptr 1 0) (.s (A.ptr 1 2) (.s [hk34w_1, Blk.box [(A.imm (List.map c8 a1) false), (iA y213), (bA true)], hk34w_1] (.s (A.agg [(iA 0), (iA 0), (A.v (Value.string ByteArray.empty)), (A.imm [] true)]) (.s [hk34w_1, Blk.box [(A.imm (List.map c8 a1) false), (iA y213), (bA true)], hk34w_1] (.s (A.agg [(iA 0), (iA 0), (A.v (Value.string ByteArray.empty)), (A.imm [] false)]) ?_)))))
     exact .lf rfl rfl (actC_low (o := Out.ret (A.agg [(iA 0), (iA 0), (A.v (Value.string ByteArray.empty)), (A.imm [] false)])) (lo := 0) (off := 3) (b := 2) (p := 0) (H2 := [hk34w_1, Blk.box [(A.imm (List.map c8 a1) false), (iA y213), (bA true)]]) (X := [hk34w_1]) (Nat.le_of_ble_eq_true rfl))
    refine .s (A.agg [(iA 3), (iA 0), (A.v (Value.string ByteArray.empty)), (A.imm [] true)]) (.s ((A.ptr 3 0), [hk34w_1, Blk.box [(A.imm (List.map c8 a1) false), (iA y213), (bA y214)], hk34w_1, hk34w_1]) (.s [hk34w_1, Blk.box [(A.imm (List.map c8 a1) false), (iA y213), (bA y214)], hk34w_1, Blk.box [(iA 3), (iA 0), (A.v (Value.string ByteArray.empty)), (A.imm [] true)]] ?_))
    refine .as (T34w_34_0 C n  self hS a4 y212 a1 0 0 ByteArray.empty ([]) 3 0 ByteArray.empty _ _ _ _ ?_ _ 0 y213 y214 (([] : List S_Value)))
    ·intro y251 y252 y253 j254 j255 j256
     refine .un rfl ?_
     refine .cT (by kernel_rfl) ?_
     refine .s (A.agg [(iA 3), (iA 0), (A.v (Value.string ByteArray.empty)), (A.sl 4 0 y253.length false)]) (.s [hk34w_1, Blk.box [(A.imm (List.map c8 a1) false), (iA y251), (bA y252)], (hk34w_12 y253), (hk34w_12 y253), Blk.row false 4 (List.map c_S_Value y253)] ?_)
     refine .st (v := (A.agg [(iA 3), (iA 0), (A.v (Value.string ByteArray.empty)), (A.imm (List.map c_S_Value y253) false)])) ((congrArg (fun z => aLoad prog 24 (A.ptr 2 0) z) (actC_row (H := [hk34w_1, Blk.box [(A.imm (List.map c8 a1) false), (iA y251), (bA y252)], (hk34w_12 y253), (hk34w_12 y253), Blk.row false 4 (List.map c_S_Value y253)]) (lo := 0) (off := 3) (b := 2) (o := 0) (b' := 4) (es := 4) (l := y253) fl_S_Value rfl rfl rfl (Nat.le_of_ble_eq_true rfl))).trans (by kernel_rfl)) ?_
     exact .lf rfl rfl (actC_low (o := Out.ret (A.agg [(iA 3), (iA 0), (A.v (Value.string ByteArray.empty)), (A.imm (List.map c_S_Value y253) false)])) (lo := 0) (off := 3) (b := 2) (p := 0) (H2 := [hk34w_1, Blk.box [(A.imm (List.map c8 a1) false), (iA y251), (bA y252)]]) (X := [(hk34w_12 y253), (hk34w_12 y253), Blk.row false 4 (List.map c_S_Value y253)]) (Nat.le_of_ble_eq_true rfl))
   refine .bb ?_
   refine .cr ?_
   iterate 12 refine .uc ?_
   refine .bg (fun t (y : Bool) => ∃ j258 : A, t = [(bA y), j258]) ?_ ?_
   ·refine .bKT hc218 ?_
    exact .lg ⟨_, rfl⟩
   rintro _ y257 ⟨j258, rfl⟩
   iterate 2 refine .uc ?_
   refine .bg (fun t (y : Bool) => ∃ j261 j262 : A, t = [(bA y), j261, j262]) ?_ ?_
   ·refine .biH (fun hk259 => ?_) (fun hk259 => ?_)
    ·exact .lg ⟨_, _, rfl⟩
    refine .st (v := (bA (a4 == 16))) (aBin_eql ..) ?_
    exact .lg ⟨_, _, rfl⟩
   rintro _ y260 ⟨j261, j262, rfl⟩
   iterate 3 refine .uc ?_
   refine .biHN (fun hk263 => ?_) (fun hk263 => ?_)
   ·refine .s (A.ptr 1 0) (.s (A.ptr 1 2) (.s [hk34w_1, Blk.box [(A.imm (List.map c8 a1) false), (iA y213), (bA true)], hk34w_1] (.s (A.agg [(iA 0), (iA 0), (A.v (Value.string ByteArray.empty)), (A.imm [] true)]) (.s [hk34w_1, Blk.box [(A.imm (List.map c8 a1) false), (iA y213), (bA true)], hk34w_1] (.s (A.agg [(iA 0), (iA 0), (A.v (Value.string ByteArray.empty)), (A.imm [] false)]) ?_)))))
    exact .lf rfl rfl (actC_low (o := Out.ret (A.agg [(iA 0), (iA 0), (A.v (Value.string ByteArray.empty)), (A.imm [] false)])) (lo := 0) (off := 3) (b := 2) (p := 0) (H2 := [hk34w_1, Blk.box [(A.imm (List.map c8 a1) false), (iA y213), (bA true)]]) (X := [hk34w_1]) (Nat.le_of_ble_eq_true rfl))
   refine .s (A.agg [(iA 3), (iA 0), (A.v (Value.string ByteArray.empty)), (A.imm [] true)]) (.s ((A.ptr 3 0), [hk34w_1, Blk.box [(A.imm (List.map c8 a1) false), (iA y213), (bA y214)], hk34w_1, hk34w_1]) (.s [hk34w_1, Blk.box [(A.imm (List.map c8 a1) false), (iA y213), (bA y214)], hk34w_1, Blk.box [(iA 3), (iA 0), (A.v (Value.string ByteArray.empty)), (A.imm [] true)]] ?_))
   refine .as (T34w_34_0a C n  self hS a4 y212 a1 0 0 ByteArray.empty ([]) 3 0 ByteArray.empty _ _ _ _ ?_ _ 0 y213 y214 (([] : List S_Value)))
   ·intro y289 y290 y291 j292 j293 j294
    refine .un rfl ?_
    refine .cT (by kernel_rfl) ?_
    refine .s (A.agg [(iA 3), (iA 0), (A.v (Value.string ByteArray.empty)), (A.sl 4 0 y291.length false)]) (.s [hk34w_1, Blk.box [(A.imm (List.map c8 a1) false), (iA y289), (bA y290)], (hk34w_13 y291), (hk34w_13 y291), Blk.row false 4 (List.map c_S_Value y291)] ?_)
    refine .st (v := (A.agg [(iA 3), (iA 0), (A.v (Value.string ByteArray.empty)), (A.imm (List.map c_S_Value y291) false)])) ((congrArg (fun z => aLoad prog 24 (A.ptr 2 0) z) (actC_row (H := [hk34w_1, Blk.box [(A.imm (List.map c8 a1) false), (iA y289), (bA y290)], (hk34w_13 y291), (hk34w_13 y291), Blk.row false 4 (List.map c_S_Value y291)]) (lo := 0) (off := 3) (b := 2) (o := 0) (b' := 4) (es := 4) (l := y291) fl_S_Value rfl rfl rfl (Nat.le_of_ble_eq_true rfl))).trans (by kernel_rfl)) ?_
    exact .lf rfl rfl (actC_low (o := Out.ret (A.agg [(iA 3), (iA 0), (A.v (Value.string ByteArray.empty)), (A.imm (List.map c_S_Value y291) false)])) (lo := 0) (off := 3) (b := 2) (p := 0) (H2 := [hk34w_1, Blk.box [(A.imm (List.map c8 a1) false), (iA y289), (bA y290)]]) (X := [(hk34w_13 y291), (hk34w_13 y291), Blk.row false 4 (List.map c_S_Value y291)]) (Nat.le_of_ble_eq_true rfl))
  ·intro y295 y296 j297 j298 j299
   refine .un rfl ?_
   refine .cr ?_
   refine .ok ?_
   refine .s (A.ptr 1 0) (.s (A.ptr 1 2) (.s (bA a3) ?_))
   refine .gsf (fun hc300 => ?_) (fun hc300 => ?_)
   ·refine .bb ?_
    refine .s (A.ptr 1 0) (.s (A.ptr 1 0) (.s (A.imm (List.map c8 a1) false) ?_))
    refine .st (v := (iA ((a1.length : Int)))) (len_imm (e := 5) (h1 := by kernel_rfl) ..) ?_
    refine .s (A.ptr 1 0) (.s (A.ptr 1 1) (.s (iA y296) ?_))
    refine .st (v := (iA (wr .i64 (((a1.length : Int)) - y296)))) (aBin_sub ..) ?_
    refine .st (v := (A.v (.int .u64 (wr .u64 (wr .i64 (((a1.length : Int)) - y296)))))) (aConvert_int (hs := by kernel_rfl) (hd := by kernel_rfl) ..) ?_
    refine .cr ?_
    iterate 12 refine .uc ?_
    refine .bg (fun t (y : Bool) => ∃ j302 : A, t = [(bA y), j302]) ?_ ?_
    ·refine .bKF hc300 ?_
     refine .st (v := (bA (decide ((wr .u64 (wr .i64 (((a1.length : Int)) - y296))) < y295)))) (aBin_gtr ..) ?_
     exact .lg ⟨_, rfl⟩
    rintro _ y301 ⟨j302, rfl⟩
    iterate 2 refine .uc ?_
    refine .bg (fun t (y : Bool) => ∃ j305 j306 : A, t = [(bA y), j305, j306]) ?_ ?_
    ·refine .biH (fun hk303 => ?_) (fun hk303 => ?_)
     ·exact .lg ⟨_, _, rfl⟩
     refine .st (v := (bA (a4 == 16))) (aBin_eql ..) ?_
     exact .lg ⟨_, _, rfl⟩
    rintro _ y304 ⟨j305, j306, rfl⟩
    iterate 3 refine .uc ?_
    refine .biHN (fun hk307 => ?_) (fun hk307 => ?_)
    ·refine .s (A.ptr 1 0) (.s (A.ptr 1 2) (.s [hk34w_1, Blk.box [(A.imm (List.map c8 a1) false), (iA y296), (bA true)], hk34w_1] (.s (A.agg [(iA 0), (iA 0), (A.v (Value.string ByteArray.empty)), (A.imm [] true)]) (.s [hk34w_1, Blk.box [(A.imm (List.map c8 a1) false), (iA y296), (bA true)], hk34w_1] (.s (A.agg [(iA 0), (iA 0), (A.v (Value.string ByteArray.empty)), (A.imm [] false)]) ?_)))))
     exact .lf rfl rfl (actC_low (o := Out.ret (A.agg [(iA 0), (iA 0), (A.v (Value.string ByteArray.empty)), (A.imm [] false)])) (lo := 0) (off := 3) (b := 2) (p := 0) (H2 := [hk34w_1, Blk.box [(A.imm (List.map c8 a1) false), (iA y296), (bA true)]]) (X := [hk34w_1]) (Nat.le_of_ble_eq_true rfl))
    refine .s (A.agg [(iA 3), (iA 0), (A.v (Value.string ByteArray.empty)), (A.imm [] true)]) (.s ((A.ptr 3 0), [hk34w_1, Blk.box [(A.imm (List.map c8 a1) false), (iA y296), (bA a3)], hk34w_1, hk34w_1]) (.s [hk34w_1, Blk.box [(A.imm (List.map c8 a1) false), (iA y296), (bA a3)], hk34w_1, Blk.box [(iA 3), (iA 0), (A.v (Value.string ByteArray.empty)), (A.imm [] true)]] ?_))
    refine .as (T34w_34_0b C n  self hS a4 y295 a1 0 0 ByteArray.empty ([]) 3 0 ByteArray.empty _ _ _ _ ?_ _ 0 y296 a3 (([] : List S_Value)))
    ·intro y333 y334 y335 j336 j337 j338
     refine .un rfl ?_
     refine .cT (by kernel_rfl) ?_
     refine .s (A.agg [(iA 3), (iA 0), (A.v (Value.string ByteArray.empty)), (A.sl 4 0 y335.length false)]) (.s [hk34w_1, Blk.box [(A.imm (List.map c8 a1) false), (iA y333), (bA y334)], (hk34w_14 y335), (hk34w_14 y335), Blk.row false 4 (List.map c_S_Value y335)] ?_)
     refine .st (v := (A.agg [(iA 3), (iA 0), (A.v (Value.string ByteArray.empty)), (A.imm (List.map c_S_Value y335) false)])) ((congrArg (fun z => aLoad prog 24 (A.ptr 2 0) z) (actC_row (H := [hk34w_1, Blk.box [(A.imm (List.map c8 a1) false), (iA y333), (bA y334)], (hk34w_14 y335), (hk34w_14 y335), Blk.row false 4 (List.map c_S_Value y335)]) (lo := 0) (off := 3) (b := 2) (o := 0) (b' := 4) (es := 4) (l := y335) fl_S_Value rfl rfl rfl (Nat.le_of_ble_eq_true rfl))).trans (by kernel_rfl)) ?_
     exact .lf rfl rfl (actC_low (o := Out.ret (A.agg [(iA 3), (iA 0), (A.v (Value.string ByteArray.empty)), (A.imm (List.map c_S_Value y335) false)])) (lo := 0) (off := 3) (b := 2) (p := 0) (H2 := [hk34w_1, Blk.box [(A.imm (List.map c8 a1) false), (iA y333), (bA y334)]]) (X := [(hk34w_14 y335), (hk34w_14 y335), Blk.row false 4 (List.map c_S_Value y335)]) (Nat.le_of_ble_eq_true rfl))
   refine .bb ?_
   refine .cr ?_
   iterate 12 refine .uc ?_
   refine .bg (fun t (y : Bool) => ∃ j340 : A, t = [(bA y), j340]) ?_ ?_
   ·refine .bKT hc300 ?_
    exact .lg ⟨_, rfl⟩
   rintro _ y339 ⟨j340, rfl⟩
   iterate 2 refine .uc ?_
   refine .bg (fun t (y : Bool) => ∃ j343 j344 : A, t = [(bA y), j343, j344]) ?_ ?_
   ·refine .biH (fun hk341 => ?_) (fun hk341 => ?_)
    ·exact .lg ⟨_, _, rfl⟩
    refine .st (v := (bA (a4 == 16))) (aBin_eql ..) ?_
    exact .lg ⟨_, _, rfl⟩
   rintro _ y342 ⟨j343, j344, rfl⟩
   iterate 3 refine .uc ?_
   refine .biHN (fun hk345 => ?_) (fun hk345 => ?_)
   ·refine .s (A.ptr 1 0) (.s (A.ptr 1 2) (.s [hk34w_1, Blk.box [(A.imm (List.map c8 a1) false), (iA y296), (bA true)], hk34w_1] (.s (A.agg [(iA 0), (iA 0), (A.v (Value.string ByteArray.empty)), (A.imm [] true)]) (.s [hk34w_1, Blk.box [(A.imm (List.map c8 a1) false), (iA y296), (bA true)], hk34w_1] (.s (A.agg [(iA 0), (iA 0), (A.v (Value.string ByteArray.empty)), (A.imm [] false)]) ?_)))))
    exact .lf rfl rfl (actC_low (o := Out.ret (A.agg [(iA 0), (iA 0), (A.v (Value.string ByteArray.empty)), (A.imm [] false)])) (lo := 0) (off := 3) (b := 2) (p := 0) (H2 := [hk34w_1, Blk.box [(A.imm (List.map c8 a1) false), (iA y296), (bA true)]]) (X := [hk34w_1]) (Nat.le_of_ble_eq_true rfl))
   refine .s (A.agg [(iA 3), (iA 0), (A.v (Value.string ByteArray.empty)), (A.imm [] true)]) (.s ((A.ptr 3 0), [hk34w_1, Blk.box [(A.imm (List.map c8 a1) false), (iA y296), (bA a3)], hk34w_1, hk34w_1]) (.s [hk34w_1, Blk.box [(A.imm (List.map c8 a1) false), (iA y296), (bA a3)], hk34w_1, Blk.box [(iA 3), (iA 0), (A.v (Value.string ByteArray.empty)), (A.imm [] true)]] ?_))
   refine .as (T34w_34_0c C n  self hS a4 y295 a1 0 0 ByteArray.empty ([]) 3 0 ByteArray.empty _ _ _ _ ?_ _ 0 y296 a3 (([] : List S_Value)))
   ·intro y371 y372 y373 j374 j375 j376
    refine .un rfl ?_
    refine .cT (by kernel_rfl) ?_
    refine .s (A.agg [(iA 3), (iA 0), (A.v (Value.string ByteArray.empty)), (A.sl 4 0 y373.length false)]) (.s [hk34w_1, Blk.box [(A.imm (List.map c8 a1) false), (iA y371), (bA y372)], (hk34w_15 y373), (hk34w_15 y373), Blk.row false 4 (List.map c_S_Value y373)] ?_)
    refine .st (v := (A.agg [(iA 3), (iA 0), (A.v (Value.string ByteArray.empty)), (A.imm (List.map c_S_Value y373) false)])) ((congrArg (fun z => aLoad prog 24 (A.ptr 2 0) z) (actC_row (H := [hk34w_1, Blk.box [(A.imm (List.map c8 a1) false), (iA y371), (bA y372)], (hk34w_15 y373), (hk34w_15 y373), Blk.row false 4 (List.map c_S_Value y373)]) (lo := 0) (off := 3) (b := 2) (o := 0) (b' := 4) (es := 4) (l := y373) fl_S_Value rfl rfl rfl (Nat.le_of_ble_eq_true rfl))).trans (by kernel_rfl)) ?_
    exact .lf rfl rfl (actC_low (o := Out.ret (A.agg [(iA 3), (iA 0), (A.v (Value.string ByteArray.empty)), (A.imm (List.map c_S_Value y373) false)])) (lo := 0) (off := 3) (b := 2) (p := 0) (H2 := [hk34w_1, Blk.box [(A.imm (List.map c8 a1) false), (iA y371), (bA y372)]]) (X := [(hk34w_15 y373), (hk34w_15 y373), Blk.row false 4 (List.map c_S_Value y373)]) (Nat.le_of_ble_eq_true rfl))
  ·intro y377 j378 j379 j380 j381
   refine .un rfl ?_
   refine .cT (by kernel_rfl) ?_
   refine .cr ?_
   refine .ok ?_
   refine .s (A.ptr 1 0) (.s (A.ptr 1 2) (.s (bA a3) ?_))
   refine .gsf (fun hc382 => ?_) (fun hc382 => ?_)
   ·refine .bb ?_
    refine .s (A.ptr 1 0) (.s (A.ptr 1 0) (.s (A.imm (List.map c8 a1) false) ?_))
    refine .st (v := (iA ((a1.length : Int)))) (len_imm (e := 5) (h1 := by kernel_rfl) ..) ?_
    refine .s (A.ptr 1 0) (.s (A.ptr 1 1) (.s (iA y377) ?_))
    refine .st (v := (iA (wr .i64 (((a1.length : Int)) - y377)))) (aBin_sub ..) ?_
    refine .st (v := (A.v (.int .u64 (wr .u64 (wr .i64 (((a1.length : Int)) - y377)))))) (aConvert_int (hs := by kernel_rfl) (hd := by kernel_rfl) ..) ?_
    refine .cr ?_
    iterate 12 refine .uc ?_
    refine .bg (fun t (y : Bool) => ∃ j384 : A, t = [(bA y), j384]) ?_ ?_
    ·refine .bKF hc382 ?_
     refine .st (v := (bA (decide ((wr .u64 (wr .i64 (((a1.length : Int)) - y377))) < 0)))) (aBin_gtr ..) ?_
     exact .lg ⟨_, rfl⟩
    rintro _ y383 ⟨j384, rfl⟩
    iterate 2 refine .uc ?_
    refine .bg (fun t (y : Bool) => ∃ j387 j388 : A, t = [(bA y), j387, j388]) ?_ ?_
    ·refine .biH (fun hk385 => ?_) (fun hk385 => ?_)
     ·exact .lg ⟨_, _, rfl⟩
     refine .st (v := (bA (a4 == 16))) (aBin_eql ..) ?_
     exact .lg ⟨_, _, rfl⟩
    rintro _ y386 ⟨j387, j388, rfl⟩
    iterate 3 refine .uc ?_
    refine .biHN (fun hk389 => ?_) (fun hk389 => ?_)
    ·refine .s (A.ptr 1 0) (.s (A.ptr 1 2) (.s [hk34w_1, Blk.box [(A.imm (List.map c8 a1) false), (iA y377), (bA true)], hk34w_1] (.s (A.agg [(iA 0), (iA 0), (A.v (Value.string ByteArray.empty)), (A.imm [] true)]) (.s [hk34w_1, Blk.box [(A.imm (List.map c8 a1) false), (iA y377), (bA true)], hk34w_1] (.s (A.agg [(iA 0), (iA 0), (A.v (Value.string ByteArray.empty)), (A.imm [] false)]) ?_)))))
     exact .lf rfl rfl (actC_low (o := Out.ret (A.agg [(iA 0), (iA 0), (A.v (Value.string ByteArray.empty)), (A.imm [] false)])) (lo := 0) (off := 3) (b := 2) (p := 0) (H2 := [hk34w_1, Blk.box [(A.imm (List.map c8 a1) false), (iA y377), (bA true)]]) (X := [hk34w_1]) (Nat.le_of_ble_eq_true rfl))
    refine .s (A.agg [(iA 3), (iA 0), (A.v (Value.string ByteArray.empty)), (A.imm [] true)]) (.s ((A.ptr 3 0), [hk34w_1, Blk.box [(A.imm (List.map c8 a1) false), (iA y377), (bA a3)], hk34w_1, hk34w_1]) (.s [hk34w_1, Blk.box [(A.imm (List.map c8 a1) false), (iA y377), (bA a3)], hk34w_1, Blk.box [(iA 3), (iA 0), (A.v (Value.string ByteArray.empty)), (A.imm [] true)]] ?_))
    refine .as (T34w_34_0d C n  self hS a4 0 a1 0 0 ByteArray.empty ([]) 3 0 ByteArray.empty _ _ _ _ ?_ _ 0 y377 a3 (([] : List S_Value)))
    ·intro y415 y416 y417 j418 j419 j420
     refine .un rfl ?_
     refine .cT (by kernel_rfl) ?_
     refine .s (A.agg [(iA 3), (iA 0), (A.v (Value.string ByteArray.empty)), (A.sl 4 0 y417.length false)]) (.s [hk34w_1, Blk.box [(A.imm (List.map c8 a1) false), (iA y415), (bA y416)], (hk34w_16 y417), (hk34w_16 y417), Blk.row false 4 (List.map c_S_Value y417)] ?_)
     refine .st (v := (A.agg [(iA 3), (iA 0), (A.v (Value.string ByteArray.empty)), (A.imm (List.map c_S_Value y417) false)])) ((congrArg (fun z => aLoad prog 24 (A.ptr 2 0) z) (actC_row (H := [hk34w_1, Blk.box [(A.imm (List.map c8 a1) false), (iA y415), (bA y416)], (hk34w_16 y417), (hk34w_16 y417), Blk.row false 4 (List.map c_S_Value y417)]) (lo := 0) (off := 3) (b := 2) (o := 0) (b' := 4) (es := 4) (l := y417) fl_S_Value rfl rfl rfl (Nat.le_of_ble_eq_true rfl))).trans (by kernel_rfl)) ?_
     exact .lf rfl rfl (actC_low (o := Out.ret (A.agg [(iA 3), (iA 0), (A.v (Value.string ByteArray.empty)), (A.imm (List.map c_S_Value y417) false)])) (lo := 0) (off := 3) (b := 2) (p := 0) (H2 := [hk34w_1, Blk.box [(A.imm (List.map c8 a1) false), (iA y415), (bA y416)]]) (X := [(hk34w_16 y417), (hk34w_16 y417), Blk.row false 4 (List.map c_S_Value y417)]) (Nat.le_of_ble_eq_true rfl))
   refine .bb ?_
   refine .cr ?_
   iterate 12 refine .uc ?_
   refine .bg (fun t (y : Bool) => ∃ j422 : A, t = [(bA y), j422]) ?_ ?_
   ·refine .bKT hc382 ?_
    exact .lg ⟨_, rfl⟩
   rintro _ y421 ⟨j422, rfl⟩
   iterate 2 refine .uc ?_
   refine .bg (fun t (y : Bool) => ∃ j425 j426 : A, t = [(bA y), j425, j426]) ?_ ?_
   ·refine .biH (fun hk423 => ?_) (fun hk423 => ?_)
    ·exact .lg ⟨_, _, rfl⟩
    refine .st (v := (bA (a4 == 16))) (aBin_eql ..) ?_
    exact .lg ⟨_, _, rfl⟩
   rintro _ y424 ⟨j425, j426, rfl⟩
   iterate 3 refine .uc ?_
   refine .biHN (fun hk427 => ?_) (fun hk427 => ?_)
   ·refine .s (A.ptr 1 0) (.s (A.ptr 1 2) (.s [hk34w_1, Blk.box [(A.imm (List.map c8 a1) false), (iA y377), (bA true)], hk34w_1] (.s (A.agg [(iA 0), (iA 0), (A.v (Value.string ByteArray.empty)), (A.imm [] true)]) (.s [hk34w_1, Blk.box [(A.imm (List.map c8 a1) false), (iA y377), (bA true)], hk34w_1] (.s (A.agg [(iA 0), (iA 0), (A.v (Value.string ByteArray.empty)), (A.imm [] false)]) ?_)))))
    exact .lf rfl rfl (actC_low (o := Out.ret (A.agg [(iA 0), (iA 0), (A.v (Value.string ByteArray.empty)), (A.imm [] false)])) (lo := 0) (off := 3) (b := 2) (p := 0) (H2 := [hk34w_1, Blk.box [(A.imm (List.map c8 a1) false), (iA y377), (bA true)]]) (X := [hk34w_1]) (Nat.le_of_ble_eq_true rfl))
   refine .s (A.agg [(iA 3), (iA 0), (A.v (Value.string ByteArray.empty)), (A.imm [] true)]) (.s ((A.ptr 3 0), [hk34w_1, Blk.box [(A.imm (List.map c8 a1) false), (iA y377), (bA a3)], hk34w_1, hk34w_1]) (.s [hk34w_1, Blk.box [(A.imm (List.map c8 a1) false), (iA y377), (bA a3)], hk34w_1, Blk.box [(iA 3), (iA 0), (A.v (Value.string ByteArray.empty)), (A.imm [] true)]] ?_))
   refine .as (T34w_34_0e C n  self hS a4 0 a1 0 0 ByteArray.empty ([]) 3 0 ByteArray.empty _ _ _ _ ?_ _ 0 y377 a3 (([] : List S_Value)))
   ·intro y453 y454 y455 j456 j457 j458
    refine .un rfl ?_
    refine .cT (by kernel_rfl) ?_
    refine .s (A.agg [(iA 3), (iA 0), (A.v (Value.string ByteArray.empty)), (A.sl 4 0 y455.length false)]) (.s [hk34w_1, Blk.box [(A.imm (List.map c8 a1) false), (iA y453), (bA y454)], (hk34w_17 y455), (hk34w_17 y455), Blk.row false 4 (List.map c_S_Value y455)] ?_)
    refine .st (v := (A.agg [(iA 3), (iA 0), (A.v (Value.string ByteArray.empty)), (A.imm (List.map c_S_Value y455) false)])) ((congrArg (fun z => aLoad prog 24 (A.ptr 2 0) z) (actC_row (H := [hk34w_1, Blk.box [(A.imm (List.map c8 a1) false), (iA y453), (bA y454)], (hk34w_17 y455), (hk34w_17 y455), Blk.row false 4 (List.map c_S_Value y455)]) (lo := 0) (off := 3) (b := 2) (o := 0) (b' := 4) (es := 4) (l := y455) fl_S_Value rfl rfl rfl (Nat.le_of_ble_eq_true rfl))).trans (by kernel_rfl)) ?_
    exact .lf rfl rfl (actC_low (o := Out.ret (A.agg [(iA 3), (iA 0), (A.v (Value.string ByteArray.empty)), (A.imm (List.map c_S_Value y455) false)])) (lo := 0) (off := 3) (b := 2) (p := 0) (H2 := [hk34w_1, Blk.box [(A.imm (List.map c8 a1) false), (iA y453), (bA y454)]]) (X := [(hk34w_17 y455), (hk34w_17 y455), Blk.row false 4 (List.map c_S_Value y455)]) (Nat.le_of_ble_eq_true rfl))
 refine .s (A.ptr 1 0) (.s (A.ptr 1 2) (.s [hk34w_1, Blk.box [(A.imm (List.map c8 a1) false), (iA (wr .i64 (a2 + 1))), (bA true)], hk34w_1] (.s (A.agg [(iA 0), (iA 0), (A.v (Value.string ByteArray.empty)), (A.imm [] true)]) (.s [hk34w_1, Blk.box [(A.imm (List.map c8 a1) false), (iA (wr .i64 (a2 + 1))), (bA true)], hk34w_1] (.s (A.agg [(iA 0), (iA 0), (A.v (Value.string ByteArray.empty)), (A.imm [] false)]) ?_)))))
 exact .lf rfl rfl (actC_low (o := Out.ret (A.agg [(iA 0), (iA 0), (A.v (Value.string ByteArray.empty)), (A.imm [] false)])) (lo := 0) (off := 3) (b := 2) (p := 0) (H2 := [hk34w_1, Blk.box [(A.imm (List.map c8 a1) false), (iA (wr .i64 (a2 + 1))), (bA true)]]) (X := [hk34w_1]) (Nat.le_of_ble_eq_true rfl))
def W34 : Nat -> (List UInt8) -> Int -> Bool -> Int -> Option (S_Value × Int × Bool)
 | 0 => fun _ _ _ _ => none
 | N + 1 => fun a1 a2 a3 a4 => bif Nat.ble 8 N then F34w (W34 N) (N - 8) a1 a2 a3 a4 else none
theorem HW34 (C : Nat -> List A -> Option A) : ∀ N, HS34 C N (W34 N)
 | 0 => fun _ _ _ _ X r h => by cases h
 | N + 1 => fun a1 a2 a3 a4 X => by
  show J _ _ _ (bif Nat.ble 8 N then F34w (W34 N) (N - 8) a1 a2 a3 a4 else none) _
  cases h : Nat.ble 8 N with
  | false => exact fun r h => by cases h
  | true =>
   obtain ⟨n, rfl⟩ : ∃ n, N = n + 8 := ⟨N - 8, by have := Nat.le_of_ble_eq_true h; omega⟩
   rw [Nat.add_sub_cancel]
   exact cut_J (m := 2) (by kernel_rfl) (by kernel_rfl) (by decide) rfl (by kernel_rfl) ((by kernel_rfl : _ = ((((underss 2 (List.map c8 a1)) && true)) && true)).trans (by simp only [un0, unS])) (fun _ => rfl) (fun y => ((by kernel_rfl : _ = ((underss 2 (List.map c_S_Value y.1.L)) && true)).trans (by simp only [un0, unS]))) (fun y => ((by kernel_rfl : _ = ((((underss 2 (List.map c8 a1)) && true)) && true)).trans (by simp only [un0, unS]))) (T34w C n  (W34 (n + 8)) (HW34 C  (n + 8)) a1 a2 a3 a4)
def OrcS29 (C : Nat -> List A -> Option A) (self : S_Value -> Option Bool) : Prop := ∀ (a0 : S_Value), C 29 [(A.agg [(iA a0.Kind), (iA a0.N), (A.v (Value.string a0.S)), (A.imm (List.map c_S_Value a0.L) false)])] = (self a0).map fun y => (bA y)
def F29_29_0 (self : S_Value -> Option Bool) (n : Nat) (v16 : Bool) (v18 : S_Value) : Nat -> Int -> Option ((Bool) ⊕ (Unit))
 | 0, _ => none
 | m + 1, v17 => bif (decide (v17 < ((v18.L.length : Int)))) then ((getI v18.L v17).bind fun y20 => (self y20).bind fun y21 => bif (!y21) then (some ((Sum.inl false))) else (F29_29_0 self n v16 v18 m (wr .i64 (v17 + 1)))) else (some ((Sum.inr (()))))
theorem T29_29_0 (C : Nat -> List A -> Option A) (n : Nat) (self : S_Value -> Option Bool) (hS : OrcS29 C self) (v16 : Bool) (v18 : S_Value) {ρ γ : Type} {φ : ρ -> γ -> Prop} {kL : R -> Option ρ} {K : ((Bool) ⊕ (Unit)) -> Option γ} (kx kg : Nat -> St -> Option R) (kr : St -> Option R) (kp : A -> St -> Option R) (x0 : ∀ (o0 : Bool) (s1 : A) (s3 : A), J φ (kr (St.mk [(1, s1), (2, (bA o0)), (3, s3)] [Blk.box [(iA v18.Kind), (iA v18.N), (A.v (Value.string v18.S)), (A.imm (List.map c_S_Value v18.L) false)]])) kL (K (Sum.inl o0)) some) (x1 : ∀ (s2 : A) (s3 : A), J φ (kx 1 (St.mk [(1, (A.ptr 0 0)), (2, s2), (3, s3)] [Blk.box [(iA v18.Kind), (iA v18.N), (A.v (Value.string v18.S)), (A.imm (List.map c_S_Value v18.L) false)]])) kL (K (Sum.inr (()))) some) :
  ∀ (m : Nat) (v17 : Int), J φ (loopR (cx C) (ec C n 8) (ey C n 8) (n+8) 29 0 0 1 kx kg kr kp m (St.mk [(1, (A.ptr 0 0)), (2, (bA v16)), (3, (iA v17))] [Blk.box [(iA v18.Kind), (iA v18.N), (A.v (Value.string v18.S)), (A.imm (List.map c_S_Value v18.L) false)]])) kL (F29_29_0 self n v16 v18 m v17) K := by
 intro m
 induction m with
 | zero => intros; exact .nn
 | succ m ih =>
  intro v17
  refine .lp (e29_0 ..) ?_
  unfold F29_29_0
  refine .s (A.ptr 0 3) (.s (A.imm (List.map c_S_Value v18.L) false) ?_)
  refine .st (v := (iA ((v18.L.length : Int)))) (len_imm (e := 24) (h1 := by kernel_rfl) ..) ?_
  refine .st (v := (bA (decide (v17 < ((v18.L.length : Int)))))) (aBin_lss ..) ?_
  refine .biHN (fun hk19 => ?_) (fun hk19 => ?_)
  ·refine .s (A.ptr 0 3) (.s (A.imm (List.map c_S_Value v18.L) false) ?_)
   refine .bd (g := fun (y : S_Value) => (A.ip [(iA y.Kind), (iA y.N), (A.v (Value.string y.S)), (A.imm (List.map c_S_Value y.L) false)])) ((idx_imm (e := 24) (es := 4) (h1 := by kernel_rfl) (h2 := by kernel_rfl) (h3 := fun _ => rfl) ..).trans (ci_S_Value _)) fun y20 => ?_
   refine .s (A.agg [(iA y20.Kind), (iA y20.N), (A.v (Value.string y20.S)), (A.imm (List.map c_S_Value y20.L) false)]) ?_
   refine .bd (g := fun (y : Bool) => (bA y)) (by show C 29 [snap _ (A.agg [(iA y20.Kind), (iA y20.N), (A.v (Value.string y20.S)), (A.imm (List.map c_S_Value y20.L) false)])] = _; simp only [sn0, snM]; exact hS y20) fun y21 => ?_
   refine .s (bA (!y21)) ?_
   refine .biHN (fun hk22 => ?_) (fun hk22 => ?_)
   ·exact .ex (x0 _ _ _)
   refine .st (v := (iA (wr .i64 (v17 + 1)))) (aBin_add ..) ?_
   refine .s [Blk.box [(iA v18.Kind), (iA v18.N), (A.v (Value.string v18.S)), (A.imm (List.map c_S_Value v18.L) false)]] ?_
   refine .cT (by kernel_rfl) ?_
   exact ih _
  exact .ex (x1 _ _)
def F29 (self : S_Value -> Option Bool) (n : Nat) (a0 : S_Value) : Option Bool :=
 bif (a0.Kind == 1) then ((bif (strEq a0.S ((ByteArray.mk #[]))) then (some (((a0.L.length : Int)) == 0)) else (some false)).bind fun y3 => some y3) else (bif (a0.Kind == 2) then ((bif (a0.N == 0) then (some (((a0.L.length : Int)) == 0)) else (some false)).bind fun y10 => some y10) else (bif (a0.Kind == 3) then ((F29_29_0 self n false a0 (n+8) 0).bind fun o23 => match o23 with | (Sum.inl y24) => some y24 | (Sum.inr _) => (bif (a0.N == 0) then (some (strEq a0.S ((ByteArray.mk #[])))) else (some false)).bind fun y30 => some y30) else (some false)))
theorem T29 (C : Nat -> List A -> Option A) (n : Nat) (self : S_Value -> Option Bool) (hS : OrcS29 C self) (a0 : S_Value) : J (fun (o : R) y => ∃ v, o.1 = .ret v /\ snapE o.2 v = (bA y)) (evCall1 (cx C) (ec C n 8) (ey C n 8) (n+8) 29 [(A.agg [(iA a0.Kind), (iA a0.N), (A.v (Value.string a0.S)), (A.imm (List.map c_S_Value a0.L) false)])] [] 0) some (F29 self n a0) some := by
 refine .lp (e29 ..) ?_
 unfold F29
 refine .s ((A.ptr 0 0), [Blk.box [(iA a0.Kind), (iA a0.N), (A.v (Value.string a0.S)), (A.imm (List.map c_S_Value a0.L) false)]]) (.s (A.ptr 0 0) (.s (iA a0.Kind) ?_))
 refine .st (v := (bA (a0.Kind == 1))) (aBin_eql ..) ?_
 refine .biHN (fun hk1 => ?_) (fun hk1 => ?_)
 ·refine .s (A.ptr 0 2) (.s (A.v (Value.string a0.S)) ?_)
  refine .st (v := (bA (strEq a0.S ((ByteArray.mk #[]))))) (aBin_eql_s ..) ?_
  refine .bg (fun t (y : Bool) => ∃ j4 j5 j6 j7 : A, t = [(bA y), j4, j5, j6, j7]) ?_ ?_
  ·refine .biH (fun hk2 => ?_) (fun hk2 => ?_)
   ·refine .s (A.ptr 0 3) (.s (A.imm (List.map c_S_Value a0.L) false) ?_)
    refine .st (v := (iA ((a0.L.length : Int)))) (len_imm (e := 24) (h1 := by kernel_rfl) ..) ?_
    refine .st (v := (bA (((a0.L.length : Int)) == 0))) (aBin_eql ..) ?_
    exact .lg ⟨_, _, _, _, rfl⟩
   exact .lg ⟨_, _, _, _, rfl⟩
  rintro _ y3 ⟨j4, j5, j6, j7, rfl⟩
  iterate 5 refine .uc ?_
  exact .lf rfl rfl ⟨_, rfl, rfl⟩
 refine .st (v := (bA (a0.Kind == 2))) (aBin_eql ..) ?_
 refine .biHN (fun hk8 => ?_) (fun hk8 => ?_)
 ·refine .s (A.ptr 0 1) (.s (iA a0.N) ?_)
  refine .st (v := (bA (a0.N == 0))) (aBin_eql ..) ?_
  refine .bg (fun t (y : Bool) => ∃ j11 j12 j13 j14 : A, t = [(bA y), j11, j12, j13, j14]) ?_ ?_
  ·refine .biH (fun hk9 => ?_) (fun hk9 => ?_)
   ·refine .s (A.ptr 0 3) (.s (A.imm (List.map c_S_Value a0.L) false) ?_)
    refine .st (v := (iA ((a0.L.length : Int)))) (len_imm (e := 24) (h1 := by kernel_rfl) ..) ?_
    refine .st (v := (bA (((a0.L.length : Int)) == 0))) (aBin_eql ..) ?_
    exact .lg ⟨_, _, _, _, rfl⟩
   exact .lg ⟨_, _, _, _, rfl⟩
  rintro _ y10 ⟨j11, j12, j13, j14, rfl⟩
  iterate 5 refine .uc ?_
  exact .lf rfl rfl ⟨_, rfl, rfl⟩
 refine .st (v := (bA (a0.Kind == 3))) (aBin_eql ..) ?_
 refine .biHN (fun hk15 => ?_) (fun hk15 => ?_)
 ·refine .as (T29_29_0 C n  self hS false a0 _ _ _ _ ?_ ?_ _ 0)
  ·intro y24 j25 j26
   refine .un rfl ?_
   exact .lf rfl rfl ⟨_, rfl, rfl⟩
  ·intro j27 j28
   refine .un rfl ?_
   refine .cT (by kernel_rfl) ?_
   refine .s (A.ptr 0 1) (.s (iA a0.N) ?_)
   refine .st (v := (bA (a0.N == 0))) (aBin_eql ..) ?_
   refine .bg (fun t (y : Bool) => ∃ j31 j32 j33 : A, t = [(bA y), j31, j32, j33]) ?_ ?_
   ·refine .biH (fun hk29 => ?_) (fun hk29 => ?_)
    ·refine .s (A.ptr 0 2) (.s (A.v (Value.string a0.S)) ?_)
     refine .st (v := (bA (strEq a0.S ((ByteArray.mk #[]))))) (aBin_eql_s ..) ?_
     exact .lg ⟨_, _, _, rfl⟩
    exact .lg ⟨_, _, _, rfl⟩
   rintro _ y30 ⟨j31, j32, j33, rfl⟩
   iterate 4 refine .uc ?_
   exact .lf rfl rfl ⟨_, rfl, rfl⟩
 exact .lf rfl rfl ⟨_, rfl, rfl⟩
def R29 : Nat -> S_Value -> Option Bool
 | 0 => fun _ => none
 | q + 1 => fun a0 => F29 (R29 q) fuel0 a0
def G29 (a0 : S_Value) : Option Bool := R29 fuel0 a0
def Orc29 (C : Nat -> List A -> Option A) : Prop := ∀ (a0 : S_Value), C 29 [(A.agg [(iA a0.Kind), (iA a0.N), (A.v (Value.string a0.S)), (A.imm (List.map c_S_Value a0.L) false)])] = (G29 a0).map fun y => (bA y)
def OrcS30 (C : Nat -> List A -> Option A) (self : S_Value -> Option Int) : Prop := ∀ (a0 : S_Value), C 30 [(A.agg [(iA a0.Kind), (iA a0.N), (A.v (Value.string a0.S)), (A.imm (List.map c_S_Value a0.L) false)])] = (self a0).map fun y => (iA y)
def F30_30_0 (self : S_Value -> Option Int) (n : Nat) (v2 : Int) (v5 : S_Value) : Nat -> Int -> Int -> Option (Int)
 | 0, _, _ => none
 | m + 1, v3, v4 => bif (decide (v4 < ((v5.L.length : Int)))) then ((getI v5.L v4).bind fun y7 => (self y7).bind fun y8 => F30_30_0 self n v2 v5 m ((if v3 < y8 then y8 else v3)) (wr .i64 (v4 + 1))) else (some v3)
theorem T30_30_0 (C : Nat -> List A -> Option A) (n : Nat) (self : S_Value -> Option Int) (hS : OrcS30 C self) (v2 : Int) (v5 : S_Value) {ρ γ : Type} {φ : ρ -> γ -> Prop} {kL : R -> Option ρ} {K : (Int) -> Option γ} (kx kg : Nat -> St -> Option R) (kr : St -> Option R) (kp : A -> St -> Option R) (x0 : ∀ (o0 : Int) (s1 : A) (s2 : A) (s4 : A), J φ (kx 0 (St.mk [(1, s1), (2, s2), (3, (iA o0)), (4, s4)] [Blk.box [(iA v5.Kind), (iA v5.N), (A.v (Value.string v5.S)), (A.imm (List.map c_S_Value v5.L) false)]])) kL (K o0) some) :
  ∀ (m : Nat) (v3 : Int) (v4 : Int), J φ (loopR (cx C) (ec C n 8) (ey C n 8) (n+8) 30 0 0 1 kx kg kr kp m (St.mk [(1, (A.ptr 0 0)), (2, (iA v2)), (3, (iA v3)), (4, (iA v4))] [Blk.box [(iA v5.Kind), (iA v5.N), (A.v (Value.string v5.S)), (A.imm (List.map c_S_Value v5.L) false)]])) kL (F30_30_0 self n v2 v5 m v3 v4) K := by
 intro m
 induction m with
 | zero => intros; exact .nn
 | succ m ih =>
  intro v3 v4
  refine .lp (e30_0 ..) ?_
  unfold F30_30_0
  refine .s (A.ptr 0 3) (.s (A.imm (List.map c_S_Value v5.L) false) ?_)
  refine .st (v := (iA ((v5.L.length : Int)))) (len_imm (e := 24) (h1 := by kernel_rfl) ..) ?_
  refine .st (v := (bA (decide (v4 < ((v5.L.length : Int)))))) (aBin_lss ..) ?_
  refine .biHN (fun hk6 => ?_) (fun hk6 => ?_)
  ·refine .s (A.ptr 0 3) (.s (A.imm (List.map c_S_Value v5.L) false) ?_)
   refine .bd (g := fun (y : S_Value) => (A.ip [(iA y.Kind), (iA y.N), (A.v (Value.string y.S)), (A.imm (List.map c_S_Value y.L) false)])) ((idx_imm (e := 24) (es := 4) (h1 := by kernel_rfl) (h2 := by kernel_rfl) (h3 := fun _ => rfl) ..).trans (ci_S_Value _)) fun y7 => ?_
   refine .s (A.agg [(iA y7.Kind), (iA y7.N), (A.v (Value.string y7.S)), (A.imm (List.map c_S_Value y7.L) false)]) ?_
   refine .bd (g := fun (y : Int) => (iA y)) (by show C 30 [snap _ (A.agg [(iA y7.Kind), (iA y7.N), (A.v (Value.string y7.S)), (A.imm (List.map c_S_Value y7.L) false)])] = _; simp only [sn0, snM]; exact hS y7) fun y8 => ?_
   refine .s (iA ((if v3 < y8 then y8 else v3))) ?_
   refine .st (v := (iA (wr .i64 (v4 + 1)))) (aBin_add ..) ?_
   refine .s [Blk.box [(iA v5.Kind), (iA v5.N), (A.v (Value.string v5.S)), (A.imm (List.map c_S_Value v5.L) false)]] ?_
   refine .cT (by kernel_rfl) ?_
   exact ih _ _
  exact .ex (x0 _ _ _ _)
def F30 (self : S_Value -> Option Int) (n : Nat) (a0 : S_Value) : Option Int :=
 bif (a0.Kind != 3) then (some 0) else ((F30_30_0 self n 0 a0 (n+8) 0 0).bind fun o9 => match o9 with | y10 => some (wr .i64 (y10 + 1)))
theorem T30 (C : Nat -> List A -> Option A) (n : Nat) (self : S_Value -> Option Int) (hS : OrcS30 C self) (a0 : S_Value) : J (fun (o : R) y => ∃ v, o.1 = .ret v /\ snapE o.2 v = (iA y)) (evCall1 (cx C) (ec C n 8) (ey C n 8) (n+8) 30 [(A.agg [(iA a0.Kind), (iA a0.N), (A.v (Value.string a0.S)), (A.imm (List.map c_S_Value a0.L) false)])] [] 0) some (F30 self n a0) some := by
 refine .lp (e30 ..) ?_
 unfold F30
 refine .s ((A.ptr 0 0), [Blk.box [(iA a0.Kind), (iA a0.N), (A.v (Value.string a0.S)), (A.imm (List.map c_S_Value a0.L) false)]]) (.s (A.ptr 0 0) (.s (iA a0.Kind) ?_))
 refine .st (v := (bA (a0.Kind != 3))) (aBin_neq ..) ?_
 refine .biHN (fun hk1 => ?_) (fun hk1 => ?_)
 ·exact .lf rfl rfl ⟨_, rfl, rfl⟩
 refine .as (T30_30_0 C n  self hS 0 a0 _ _ _ _ ?_ _ 0 0)
 ·intro y10 j11 j12 j13
  refine .un rfl ?_
  refine .cT (by kernel_rfl) ?_
  refine .st (v := (iA (wr .i64 (y10 + 1)))) (aBin_add ..) ?_
  exact .lf rfl rfl ⟨_, rfl, rfl⟩
def R30 : Nat -> S_Value -> Option Int
 | 0 => fun _ => none
 | q + 1 => fun a0 => F30 (R30 q) fuel0 a0
def G30 (a0 : S_Value) : Option Int := R30 fuel0 a0
def Orc30 (C : Nat -> List A -> Option A) : Prop := ∀ (a0 : S_Value), C 30 [(A.agg [(iA a0.Kind), (iA a0.N), (A.v (Value.string a0.S)), (A.imm (List.map c_S_Value a0.L) false)])] = (G30 a0).map fun y => (iA y)
def F17 (n : Nat) (a0 : S_Value) : Option Int :=
 (G29 a0).bind fun y1 => bif (!y1) then (some 1) else ((G30 a0).bind fun y3 => bif (decide (16 < y3)) then (some 2) else (some 0))
theorem T17 (C : Nat -> List A -> Option A) (n : Nat) (h29 : Orc29 C) (h30 : Orc30 C) (a0 : S_Value) : J (fun (o : R) y => ∃ v, o.1 = .ret v /\ snapE o.2 v = (iA y)) (evCall1 (cx C) (ec C n 8) (ey C n 8) (n+8) 17 [(A.agg [(iA a0.Kind), (iA a0.N), (A.v (Value.string a0.S)), (A.imm (List.map c_S_Value a0.L) false)])] [] 0) some (F17 n a0) some := by
 refine .lp (e17 ..) ?_
 unfold F17
 refine .s ((A.ptr 0 0), [Blk.box [(iA a0.Kind), (iA a0.N), (A.v (Value.string a0.S)), (A.imm (List.map c_S_Value a0.L) false)]]) (.s (A.agg [(iA a0.Kind), (iA a0.N), (A.v (Value.string a0.S)), (A.imm (List.map c_S_Value a0.L) false)]) ?_)
 refine .bd (g := fun (y : Bool) => (bA y)) (by show C 29 [snap _ (A.agg [(iA a0.Kind), (iA a0.N), (A.v (Value.string a0.S)), (A.imm (List.map c_S_Value a0.L) false)])] = _; simp only [sn0, snM]; exact h29 a0) fun y1 => ?_
 refine .s (bA (!y1)) ?_
 refine .biHN (fun hk2 => ?_) (fun hk2 => ?_)
 ·exact .lf rfl rfl ⟨_, rfl, rfl⟩
 refine .s (A.agg [(iA a0.Kind), (iA a0.N), (A.v (Value.string a0.S)), (A.imm (List.map c_S_Value a0.L) false)]) ?_
 refine .bd (g := fun (y : Int) => (iA y)) (by show C 30 [snap _ (A.agg [(iA a0.Kind), (iA a0.N), (A.v (Value.string a0.S)), (A.imm (List.map c_S_Value a0.L) false)])] = _; simp only [sn0, snM]; exact h30 a0) fun y3 => ?_
 refine .st (v := (bA (decide (16 < y3)))) (aBin_gtr ..) ?_
 refine .biHN (fun hk4 => ?_) (fun hk4 => ?_)
 ·exact .lf rfl rfl ⟨_, rfl, rfl⟩
 exact .lf rfl rfl ⟨_, rfl, rfl⟩
def G17 (a0 : S_Value) : Option Int := F17 fuel0 a0
def Orc17 (C : Nat -> List A -> Option A) : Prop := ∀ (a0 : S_Value), C 17 [(A.agg [(iA a0.Kind), (iA a0.N), (A.v (Value.string a0.S)), (A.imm (List.map c_S_Value a0.L) false)])] = (G17 a0).map fun y => (iA y)
def F43 (n : Nat) (a0 : Int) : Option Int :=
 bif (decide (0 <= a0)) then (some (wr .u64 (2 * (wr .u64 (a0))))) else (some (wr .u64 ((wr .u64 (2 * (wr .u64 (wr .i64 (0 - (wr .i64 (a0 + 1))))))) + 1)))
theorem T43 (C : Nat -> List A -> Option A) (n : Nat) (a0 : Int) : J (fun (o : R) y => ∃ v, o.1 = .ret v /\ snapE o.2 v = (A.v (.int .u64 y))) (evCall1 (cx C) (ec C n 8) (ey C n 8) (n+8) 43 [(iA a0)] [] 0) some (F43 n a0) some := by
 refine .lp (e43 ..) ?_
 unfold F43
 refine .st (v := (bA (decide (0 <= a0)))) (aBin_geq ..) ?_
 refine .biHN (fun hk1 => ?_) (fun hk1 => ?_)
 ·refine .st (v := (A.v (.int .u64 (wr .u64 (a0))))) (aConvert_int (hs := by kernel_rfl) (hd := by kernel_rfl) ..) ?_
  refine .st (v := (A.v (.int .u64 (wr .u64 (2 * (wr .u64 (a0))))))) (aBin_mul ..) ?_
  exact .lf rfl rfl ⟨_, rfl, rfl⟩
 refine .st (v := (iA (wr .i64 (a0 + 1)))) (aBin_add ..) ?_
 refine .s (iA (wr .i64 (0 - (wr .i64 (a0 + 1))))) ?_
 refine .st (v := (A.v (.int .u64 (wr .u64 (wr .i64 (0 - (wr .i64 (a0 + 1)))))))) (aConvert_int (hs := by kernel_rfl) (hd := by kernel_rfl) ..) ?_
 refine .st (v := (A.v (.int .u64 (wr .u64 (2 * (wr .u64 (wr .i64 (0 - (wr .i64 (a0 + 1)))))))))) (aBin_mul ..) ?_
 refine .st (v := (A.v (.int .u64 (wr .u64 ((wr .u64 (2 * (wr .u64 (wr .i64 (0 - (wr .i64 (a0 + 1))))))) + 1))))) (aBin_add ..) ?_
 exact .lf rfl rfl ⟨_, rfl, rfl⟩
def G43 (a0 : Int) : Option Int := F43 fuel0 a0
def Orc43 (C : Nat -> List A -> Option A) : Prop := ∀ (a0 : Int), C 43 [(iA a0)] = (G43 a0).map fun y => (A.v (.int .u64 y))
def OrcS42 (C : Nat -> List A -> Option A) (self : Int -> Option (List UInt8)) : Prop := ∀ (a0 : Int), C 42 [(A.v (.int .u64 a0))] = (self a0).map fun y => (A.imm (List.map c8 y) false)
def F42 (self : Int -> Option (List UInt8)) (n : Nat) (a0 : Int) : Option (List UInt8) :=
 bif (decide (a0 < 128)) then (bif (decide (0 <= (wr .u8 (a0))) && decide ((wr .u8 (a0)) < 256)) then (some ([(UInt8.ofNat (Int.toNat (wr .u8 (a0))))])) else none) else (bif (decide (0 <= (wr .u8 (wr .u64 ((Int.tmod a0 128) + 128)))) && decide ((wr .u8 (wr .u64 ((Int.tmod a0 128) + 128))) < 256)) then ((self (wr .u64 (Int.tdiv a0 128))).bind fun y2 => (appI 1 ([(UInt8.ofNat (Int.toNat (wr .u8 (wr .u64 ((Int.tmod a0 128) + 128)))))]) y2).bind fun y3 => some y3) else none)
theorem T42 (C : Nat -> List A -> Option A) (n : Nat) (self : Int -> Option (List UInt8)) (hS : OrcS42 C self) (a0 : Int) : J (fun (o : R) y => ∃ v, o.1 = .ret v /\ snapE o.2 v = (A.imm (List.map c8 y) false)) (evCall1 (cx C) (ec C n 8) (ey C n 8) (n+8) 42 [(A.v (.int .u64 a0))] [] 0) some (F42 self n a0) some := by
 refine .lp (e42 ..) ?_
 unfold F42
 refine .st (v := (bA (decide (a0 < 128)))) (aBin_lss ..) ?_
 refine .biHN (fun hk1 => ?_) (fun hk1 => ?_)
 ·refine .st (v := (uA (wr .u8 (a0)))) (aConvert_int (hs := by kernel_rfl) (hd := by kernel_rfl) ..) ?_
  refine .gd fun hg => ?_
  refine .st (v := (A.imm [[(uA (((UInt8.ofNat (Int.toNat (wr .u8 (a0)))).toNat : Int)))]] true)) (by rw [u8_back hg]; kernel_rfl) ?_
  exact .lf rfl rfl ⟨_, rfl, by show snapE _ (A.imm [[(uA (((UInt8.ofNat (Int.toNat (wr .u8 (a0)))).toNat : Int)))]] true) = _; first | (simp only [sn0, snM, snapE]; done) | (simp only [sn0, snS, snapE]; first | done | rfl)⟩
 refine .st (v := (A.v (.int .u64 (Int.tmod a0 128)))) (aBin_rem (hb := by decide) ..) ?_
 refine .st (v := (A.v (.int .u64 (wr .u64 ((Int.tmod a0 128) + 128))))) (aBin_add ..) ?_
 refine .st (v := (uA (wr .u8 (wr .u64 ((Int.tmod a0 128) + 128))))) (aConvert_int (hs := by kernel_rfl) (hd := by kernel_rfl) ..) ?_
 refine .gd fun hg => ?_
 refine .st (v := (A.imm [[(uA (((UInt8.ofNat (Int.toNat (wr .u8 (wr .u64 ((Int.tmod a0 128) + 128))))).toNat : Int)))]] true)) (by rw [u8_back hg]; kernel_rfl) ?_
 refine .st (v := (A.v (.int .u64 (wr .u64 (Int.tdiv a0 128))))) (aBin_quo (hb := by decide) ..) ?_
 refine .bd (g := fun (y : (List UInt8)) => (A.imm (List.map c8 y) false)) (hS (wr .u64 (Int.tdiv a0 128))) fun y2 => ?_
 refine .bd (g := fun (y : List UInt8) => ((A.sl 0 0 y.length false), [Blk.row false 1 (List.map c8 y)])) (app_imm (e := 5) (es := 1) (by_ := 1) (z := [(uA 0)]) (by kernel_rfl) (by kernel_rfl) (by kernel_rfl) (by kernel_rfl) rfl (by decide) (by decide) (by kernel_rfl) (f := c8) (fun _ => rfl) ce_c8 (l := [(UInt8.ofNat (Int.toNat (wr .u8 (wr .u64 ((Int.tmod a0 128) + 128)))))]) (l2 := y2) (els_imm ..)) fun y3 => ?_
 exact .lf rfl rfl ⟨_, rfl, by show snapE [Blk.row false 1 (List.map c8 y3)] (A.sl 0 0 y3.length false) = _; first | (simp only [sn0, snM, snapE, snapGE_row (H := [Blk.row false 1 (List.map c8 y3)]) (b := 0) (es := 1) (wr := false) (l := y3) fl_c8 rfl]; done) | (simp only [sn0, snS, snapE, snapGE_row (H := [Blk.row false 1 (List.map c8 y3)]) (b := 0) (es := 1) (wr := false) (l := y3) fl_c8 rfl]; first | done | rfl)⟩
def R42 : Nat -> Int -> Option (List UInt8)
 | 0 => fun _ => none
 | q + 1 => fun a0 => F42 (R42 q) fuel0 a0
def G42 (a0 : Int) : Option (List UInt8) := R42 fuel0 a0
def Orc42 (C : Nat -> List A -> Option A) : Prop := ∀ (a0 : Int), C 42 [(A.v (.int .u64 a0))] = (G42 a0).map fun y => (A.imm (List.map c8 y) false)
def OrcS27 (C : Nat -> List A -> Option A) (self : S_Value -> Option (List UInt8)) : Prop := ∀ (a0 : S_Value), C 27 [(A.agg [(iA a0.Kind), (iA a0.N), (A.v (Value.string a0.S)), (A.imm (List.map c_S_Value a0.L) false)])] = (self a0).map fun y => (A.imm (List.map c8 y) false)
def F27_27_0 (self : S_Value -> Option (List UInt8)) (n : Nat) (v11 : (List UInt8)) (v13 : S_Value) : Nat -> Int -> (List UInt8) -> Option ((List UInt8))
 | 0, _, _ => none
 | m + 1, v12, v14 => bif (decide (v12 < ((v13.L.length : Int)))) then ((getI v13.L v12).bind fun y16 => (self y16).bind fun y17 => (appI 1 v14 y17).bind fun y18 => F27_27_0 self n v11 v13 m (wr .i64 (v12 + 1)) y18) else (some v14)
theorem T27_27_0 (C : Nat -> List A -> Option A) (n : Nat) (h42 : Orc42 C) (h43 : Orc43 C) (self : S_Value -> Option (List UInt8)) (hS : OrcS27 C self) (v11 : (List UInt8)) (v13 : S_Value) {ρ γ : Type} {φ : ρ -> γ -> Prop} {kL : R -> Option ρ} {K : ((List UInt8)) -> Option γ} (kx kg : Nat -> St -> Option R) (kr : St -> Option R) (kp : A -> St -> Option R) (x0 : ∀ (o0 : (List UInt8)) (s1 : A) (s2 : A) (s4 : A), J φ (kx 1 (St.mk [(1, s1), (2, s2), (3, (A.sl 1 0 o0.length false)), (4, s4)] [(hk28_1 v13), Blk.row false 1 (List.map c8 o0)])) kL (K o0) some) :
  ∀ (m : Nat) (v12 : Int) (v14 : (List UInt8)), J φ (loopR (cx C) (ec C n 8) (ey C n 8) (n+8) 27 0 0 2 kx kg kr kp m (St.mk [(1, (A.ptr 0 0)), (2, (A.imm (List.map c8 v11) true)), (3, (A.sl 1 0 v14.length false)), (4, (iA v12))] [(hk28_1 v13), Blk.row false 1 (List.map c8 v14)])) kL (F27_27_0 self n v11 v13 m v12 v14) K := by
 intro m
 induction m with
 | zero => intros; exact .nn
 | succ m ih =>
  intro v12 v14
  refine .lp (e27_0 ..) ?_
  unfold F27_27_0
  refine .s (A.ptr 0 3) (.s (A.imm (List.map c_S_Value v13.L) false) ?_)
  refine .st (v := (iA ((v13.L.length : Int)))) (len_imm (e := 24) (h1 := by kernel_rfl) ..) ?_
  refine .st (v := (bA (decide (v12 < ((v13.L.length : Int)))))) (aBin_lss ..) ?_
  refine .biHN (fun hk15 => ?_) (fun hk15 => ?_)
  ·refine .s (A.ptr 0 3) (.s (A.imm (List.map c_S_Value v13.L) false) ?_)
   refine .bd (g := fun (y : S_Value) => (A.ip [(iA y.Kind), (iA y.N), (A.v (Value.string y.S)), (A.imm (List.map c_S_Value y.L) false)])) ((idx_imm (e := 24) (es := 4) (h1 := by kernel_rfl) (h2 := by kernel_rfl) (h3 := fun _ => rfl) ..).trans (ci_S_Value _)) fun y16 => ?_
   refine .s (A.agg [(iA y16.Kind), (iA y16.N), (A.v (Value.string y16.S)), (A.imm (List.map c_S_Value y16.L) false)]) ?_
   refine .bd (g := fun (y : (List UInt8)) => (A.imm (List.map c8 y) false)) (by show C 27 [snap _ (A.agg [(iA y16.Kind), (iA y16.N), (A.v (Value.string y16.S)), (A.imm (List.map c_S_Value y16.L) false)])] = _; simp only [sn0, snM, snapG_row (H := [(hk28_1 v13), Blk.row false 1 (List.map c8 v14)]) (b := 1) (es := 1) (l := v14) fl_c8 rfl]; exact hS y16) fun y17 => ?_
   refine .bd (g := fun (y : List UInt8) => ((A.sl 1 0 y.length false), [(hk28_1 v13), Blk.row false 1 (List.map c8 y)])) (app_row (e := 5) (es := 1) (by_ := 1) (z := [(uA 0)]) (by kernel_rfl) (by kernel_rfl) (by kernel_rfl) (by kernel_rfl) rfl (by decide) (by decide) (by kernel_rfl) (f := c8) (fun _ => rfl) ce_c8 (l := v14) (l2 := y17) (b := 1) rfl (by decide) (els_imm ..)) fun y18 => ?_
   refine .st (v := (iA (wr .i64 (v12 + 1)))) (aBin_add ..) ?_
   refine .s [(hk28_1 v13), Blk.row false 1 (List.map c8 y18)] ?_
   refine .cT (by kernel_rfl) ?_
   exact ih _ _
  exact .ex (x0 _ _ _ _)
def F27 (self : S_Value -> Option (List UInt8)) (n : Nat) (a0 : S_Value) : Option (List UInt8) :=
 bif (a0.Kind == 1) then ((G43 a0.N).bind fun y2 => (G42 y2).bind fun y3 => (appI 1 ([(1 : UInt8)]) y3).bind fun y4 => some y4) else (bif (a0.Kind == 2) then ((G42 (wr .u64 ((a0.S.size : Int)))).bind fun y6 => (appI 1 ([(2 : UInt8)]) y6).bind fun y7 => (appI 1 y7 (bstrL a0.S)).bind fun y8 => some y8) else ((G42 (wr .u64 ((a0.L.length : Int)))).bind fun y9 => (appI 1 ([(3 : UInt8)]) y9).bind fun y10 => (F27_27_0 self n ([]) a0 (n+8) 0 y10).bind fun o19 => match o19 with | y20 => some y20))
theorem T27 (C : Nat -> List A -> Option A) (n : Nat) (h42 : Orc42 C) (h43 : Orc43 C) (self : S_Value -> Option (List UInt8)) (hS : OrcS27 C self) (a0 : S_Value) : J (fun (o : R) y => ∃ v, o.1 = .ret v /\ snapE o.2 v = (A.imm (List.map c8 y) false)) (evCall1 (cx C) (ec C n 8) (ey C n 8) (n+8) 27 [(A.agg [(iA a0.Kind), (iA a0.N), (A.v (Value.string a0.S)), (A.imm (List.map c_S_Value a0.L) false)])] [] 0) some (F27 self n a0) some := by
 refine .lp (e27 ..) ?_
 unfold F27
 refine .s ((A.ptr 0 0), [(hk12_2 a0)]) (.s (A.ptr 0 0) (.s (iA a0.Kind) ?_))
 refine .st (v := (bA (a0.Kind == 1))) (aBin_eql ..) ?_
 refine .biHN (fun hk1 => ?_) (fun hk1 => ?_)
 ·refine .s (A.imm [[(uA 1)]] true) (.s (A.ptr 0 1) (.s (iA a0.N) ?_))
  refine .bd (g := fun (y : Int) => (A.v (.int .u64 y))) (h43 a0.N) fun y2 => ?_
  refine .bd (g := fun (y : (List UInt8)) => (A.imm (List.map c8 y) false)) (h42 y2) fun y3 => ?_
  refine .bd (g := fun (y : List UInt8) => ((A.sl 1 0 y.length false), [(hk12_2 a0), Blk.row false 1 (List.map c8 y)])) (app_imm (e := 5) (es := 1) (by_ := 1) (z := [(uA 0)]) (by kernel_rfl) (by kernel_rfl) (by kernel_rfl) (by kernel_rfl) rfl (by decide) (by decide) (by kernel_rfl) (f := c8) (fun _ => rfl) ce_c8 (l := [(1 : UInt8)]) (l2 := y3) (els_imm ..)) fun y4 => ?_
  exact .lf rfl rfl ⟨_, rfl, by show snapE [(hk12_2 a0), Blk.row false 1 (List.map c8 y4)] (A.sl 1 0 y4.length false) = _; first | (simp only [sn0, snM, snapE, snapGE_row (H := [(hk12_2 a0), Blk.row false 1 (List.map c8 y4)]) (b := 1) (es := 1) (wr := false) (l := y4) fl_c8 rfl]; done) | (simp only [sn0, snS, snapE, snapGE_row (H := [(hk12_2 a0), Blk.row false 1 (List.map c8 y4)]) (b := 1) (es := 1) (wr := false) (l := y4) fl_c8 rfl]; first | done | rfl)⟩
 refine .st (v := (bA (a0.Kind == 2))) (aBin_eql ..) ?_
 refine .biHN (fun hk5 => ?_) (fun hk5 => ?_)
 ·refine .s (A.imm [[(uA 2)]] true) (.s (A.ptr 0 2) (.s (A.v (Value.string a0.S)) (.s (iA ((a0.S.size : Int))) ?_)))
  refine .st (v := (A.v (.int .u64 (wr .u64 ((a0.S.size : Int)))))) (aConvert_int (hs := by kernel_rfl) (hd := by kernel_rfl) ..) ?_
  refine .bd (g := fun (y : (List UInt8)) => (A.imm (List.map c8 y) false)) (h42 (wr .u64 ((a0.S.size : Int)))) fun y6 => ?_
  refine .bd (g := fun (y : List UInt8) => ((A.sl 1 0 y.length false), [(hk12_2 a0), Blk.row false 1 (List.map c8 y)])) (app_imm (e := 5) (es := 1) (by_ := 1) (z := [(uA 0)]) (by kernel_rfl) (by kernel_rfl) (by kernel_rfl) (by kernel_rfl) rfl (by decide) (by decide) (by kernel_rfl) (f := c8) (fun _ => rfl) ce_c8 (l := [(2 : UInt8)]) (l2 := y6) (els_imm ..)) fun y7 => ?_
  refine .cT (by kernel_rfl) ?_
  refine .s (A.ptr 0 2) ?_
  refine .cT (by kernel_rfl) ?_
  refine .s (A.v (Value.string a0.S)) ?_
  refine .bd (g := fun (y : List UInt8) => ((A.sl 1 0 y.length false), [(hk12_2 a0), Blk.row false 1 (List.map c8 y)])) (app_row (e := 5) (es := 1) (by_ := 1) (z := [(uA 0)]) (by kernel_rfl) (by kernel_rfl) (by kernel_rfl) (by kernel_rfl) rfl (by decide) (by decide) (by kernel_rfl) (f := c8) (fun _ => rfl) ce_c8 (l := y7) (l2 := bstrL a0.S) (b := 1) rfl (by decide) (els_str ..)) fun y8 => ?_
  exact .lf rfl rfl ⟨_, rfl, by show snapE [(hk12_2 a0), Blk.row false 1 (List.map c8 y8)] (A.sl 1 0 y8.length false) = _; first | (simp only [sn0, snM, snapE, snapGE_row (H := [(hk12_2 a0), Blk.row false 1 (List.map c8 y8)]) (b := 1) (es := 1) (wr := false) (l := y8) fl_c8 rfl]; done) | (simp only [sn0, snS, snapE, snapGE_row (H := [(hk12_2 a0), Blk.row false 1 (List.map c8 y8)]) (b := 1) (es := 1) (wr := false) (l := y8) fl_c8 rfl]; first | done | rfl)⟩
 refine .s (A.imm [[(uA 3)]] true) (.s (A.ptr 0 3) (.s (A.imm (List.map c_S_Value a0.L) false) ?_))
 refine .st (v := (iA ((a0.L.length : Int)))) (len_imm (e := 24) (h1 := by kernel_rfl) ..) ?_
 refine .st (v := (A.v (.int .u64 (wr .u64 ((a0.L.length : Int)))))) (aConvert_int (hs := by kernel_rfl) (hd := by kernel_rfl) ..) ?_
 refine .bd (g := fun (y : (List UInt8)) => (A.imm (List.map c8 y) false)) (h42 (wr .u64 ((a0.L.length : Int)))) fun y9 => ?_
 refine .bd (g := fun (y : List UInt8) => ((A.sl 1 0 y.length false), [(hk12_2 a0), Blk.row false 1 (List.map c8 y)])) (app_imm (e := 5) (es := 1) (by_ := 1) (z := [(uA 0)]) (by kernel_rfl) (by kernel_rfl) (by kernel_rfl) (by kernel_rfl) rfl (by decide) (by decide) (by kernel_rfl) (f := c8) (fun _ => rfl) ce_c8 (l := [(3 : UInt8)]) (l2 := y9) (els_imm ..)) fun y10 => ?_
 refine .as (T27_27_0 C n h42 h43 self hS ([]) a0 _ _ _ _ ?_ _ 0 y10)
 ·intro y20 j21 j22 j23
  refine .un rfl ?_
  refine .cT (by kernel_rfl) ?_
  exact .lf rfl rfl ⟨_, rfl, by show snapE [(hk12_2 a0), Blk.row false 1 (List.map c8 y20)] (A.sl 1 0 y20.length false) = _; first | (simp only [sn0, snM, snapE, snapGE_row (H := [(hk12_2 a0), Blk.row false 1 (List.map c8 y20)]) (b := 1) (es := 1) (wr := false) (l := y20) fl_c8 rfl]; done) | (simp only [sn0, snS, snapE, snapGE_row (H := [(hk12_2 a0), Blk.row false 1 (List.map c8 y20)]) (b := 1) (es := 1) (wr := false) (l := y20) fl_c8 rfl]; first | done | rfl)⟩
def R27 : Nat -> S_Value -> Option (List UInt8)
 | 0 => fun _ => none
 | q + 1 => fun a0 => F27 (R27 q) fuel0 a0
def G27 (a0 : S_Value) : Option (List UInt8) := R27 fuel0 a0
def Orc27 (C : Nat -> List A -> Option A) : Prop := ∀ (a0 : S_Value), C 27 [(A.agg [(iA a0.Kind), (iA a0.N), (A.v (Value.string a0.S)), (A.imm (List.map c_S_Value a0.L) false)])] = (G27 a0).map fun y => (A.imm (List.map c8 y) false)
def hk19_1 (y1 : (S_Value × Int × Bool)) : Blk := Blk.box [(iA y1.1.Kind), (iA y1.1.N), (A.v (Value.string y1.1.S)), (A.imm (List.map c_S_Value y1.1.L) false)]
def F19 (n : Nat) (a0 : (List UInt8)) : Option (S_Value × Int) :=
 (W34 (n+8) a0 0 false 0).bind fun y1 => (bif y1.2.2 then (some true) else (some (y1.2.1 != ((a0.length : Int))))).bind fun y3 => (bif y3 then (some true) else ((G17 y1.1).bind fun y12 => some (y12 != 0))).bind fun y13 => bif y13 then ((some true).bind fun y22 => bif y22 then (some (((S_Value.mk 0 0 ByteArray.empty ([])), 10))) else (some ((y1.1, 0)))) else ((G27 y1.1).bind fun y18 => (some (!strEq (bstr y18) (bstr a0))).bind fun y19 => bif y19 then (some (((S_Value.mk 0 0 ByteArray.empty ([])), 10))) else (some ((y1.1, 0))))
theorem T19 (C : Nat -> List A -> Option A) (n : Nat) (h17 : Orc17 C) (h27 : Orc27 C) (a0 : (List UInt8)) : J (fun (o : R) y => ∃ v, o.1 = .ret v /\ snapE o.2 v = (A.tup [(A.agg [(iA y.1.Kind), (iA y.1.N), (A.v (Value.string y.1.S)), (A.imm (List.map c_S_Value y.1.L) false)]), (iA y.2)])) (evCall1 (cx C) (ec C n 8) (ey C n 8) (n+8) 19 [(A.imm (List.map c8 a0) false)] [] 0) some (F19 n a0) some := by
 refine .lp (e19 ..) ?_
 unfold F19
 refine .s ((A.ptr 0 0), [hk18_1]) (.s (A.agg [(A.imm (List.map c8 a0) false), (iA 0), (bA false)]) (.s ((A.ptr 1 0), [hk18_1, Blk.box [(A.imm (List.map c8 a0) false), (iA 0), (bA false)]]) ?_))
 refine .bg (fun (t : R) (y : (S_Value × Int × Bool)) => t = (Out.ret (A.agg [(iA y.1.Kind), (iA y.1.N), (A.v (Value.string y.1.S)), (A.imm (List.map c_S_Value y.1.L) false)]), [hk18_1, Blk.box [(A.imm (List.map c8 a0) false), (iA y.2.1), (bA y.2.2)]])) (HW34 C (n+8) a0 0 false 0 []) ?_
 rintro _ y1 rfl
 refine .ok ?_
 refine .s ((A.ptr 2 0), [hk18_1, Blk.box [(A.imm (List.map c8 a0) false), (iA y1.2.1), (bA y1.2.2)], hk18_1]) (.s [hk18_1, Blk.box [(A.imm (List.map c8 a0) false), (iA y1.2.1), (bA y1.2.2)], (hk19_1 y1)] (.s (A.ptr 1 0) (.s (A.ptr 1 2) (.s (bA y1.2.2) ?_))))
 refine .bg (fun t (y : Bool) => ∃ j4 j5 j6 j7 j8 j9 j10 : A, t = [(bA y), j4, j5, j6, j7, j8, j9, j10]) ?_ ?_
 ·refine .biH (fun hk2 => ?_) (fun hk2 => ?_)
  ·exact .lg ⟨_, _, _, _, _, _, _, rfl⟩
  refine .s (A.ptr 1 0) (.s (A.ptr 1 1) (.s (iA y1.2.1) ?_))
  refine .st (v := (iA ((a0.length : Int)))) (len_imm (e := 5) (h1 := by kernel_rfl) ..) ?_
  refine .st (v := (bA (y1.2.1 != ((a0.length : Int))))) (aBin_neq ..) ?_
  exact .lg ⟨_, _, _, _, _, _, _, rfl⟩
 rintro _ y3 ⟨j4, j5, j6, j7, j8, j9, j10, rfl⟩
 iterate 8 refine .uc ?_
 refine .bg (fun t (y : Bool) => ∃ j14 j15 j16 : A, t = [(bA y), j14, j15, j16]) ?_ ?_
 ·refine .biH (fun hk11 => ?_) (fun hk11 => ?_)
  ·exact .lg ⟨_, _, _, rfl⟩
  refine .s (A.agg [(iA y1.1.Kind), (iA y1.1.N), (A.v (Value.string y1.1.S)), (A.imm (List.map c_S_Value y1.1.L) false)]) ?_
  refine .bd (g := fun (y : Int) => (iA y)) (by show C 17 [snap _ (A.agg [(iA y1.1.Kind), (iA y1.1.N), (A.v (Value.string y1.1.S)), (A.imm (List.map c_S_Value y1.1.L) false)])] = _; simp only [sn0, snM]; exact h17 y1.1) fun y12 => ?_
  refine .st (v := (bA (y12 != 0))) (aBin_neq ..) ?_
  exact .lg ⟨_, _, _, rfl⟩
 rintro _ y13 ⟨j14, j15, j16, rfl⟩
 iterate 4 refine .uc ?_
 refine .gsf (fun hc17 => ?_) (fun hc17 => ?_)
 ·refine .bb ?_
  refine .s (A.agg [(iA y1.1.Kind), (iA y1.1.N), (A.v (Value.string y1.1.S)), (A.imm (List.map c_S_Value y1.1.L) false)]) ?_
  refine .bd (g := fun (y : (List UInt8)) => (A.imm (List.map c8 y) false)) (by show C 27 [snap _ (A.agg [(iA y1.1.Kind), (iA y1.1.N), (A.v (Value.string y1.1.S)), (A.imm (List.map c_S_Value y1.1.L) false)])] = _; simp only [sn0, snM]; exact h27 y1.1) fun y18 => ?_
  refine .st (v := (A.v (Value.string (bstr y18)))) (conv_bs (e := 5) (l := y18) (by kernel_rfl) (by kernel_rfl) (by kernel_rfl) (by kernel_rfl) (els_imm ..) rfl) ?_
  refine .st (v := (A.v (Value.string (bstr a0)))) (conv_bs (e := 5) (l := a0) (by kernel_rfl) (by kernel_rfl) (by kernel_rfl) (by kernel_rfl) (els_imm ..) rfl) ?_
  refine .cr ?_
  iterate 5 refine .uc ?_
  refine .bg (fun t (y : Bool) => ∃ j20 : A, t = [(bA y), j20]) ?_ ?_
  ·refine .bKF hc17 ?_
   refine .st (v := (bA (!strEq (bstr y18) (bstr a0)))) (aBin_neq_s ..) ?_
   exact .lg ⟨_, rfl⟩
  rintro _ y19 ⟨j20, rfl⟩
  iterate 2 refine .uc ?_
  refine .biHN (fun hk21 => ?_) (fun hk21 => ?_)
  ·refine .s (A.agg [(iA 0), (iA 0), (A.v (Value.string ByteArray.empty)), (A.imm [] true)]) (.s [hk18_1, Blk.box [(A.imm (List.map c8 a0) false), (iA y1.2.1), (bA y1.2.2)], (hk19_1 y1)] (.s (A.agg [(iA 0), (iA 0), (A.v (Value.string ByteArray.empty)), (A.imm [] true)]) ?_))
   exact .lf rfl rfl ⟨_, rfl, by show snapE _ (A.tup [(A.agg [(iA 0), (iA 0), (A.v (Value.string ByteArray.empty)), (A.imm [] true)]), (iA 10)]) = _; first | (simp only [sn0, snM, snapE]; done) | (simp only [sn0, snS, snapE]; first | done | rfl)⟩
  refine .s (A.agg [(iA y1.1.Kind), (iA y1.1.N), (A.v (Value.string y1.1.S)), (A.imm (List.map c_S_Value y1.1.L) false)]) (.s [(hk19_1 y1), Blk.box [(A.imm (List.map c8 a0) false), (iA y1.2.1), (bA y1.2.2)], (hk19_1 y1)] (.s (A.agg [(iA y1.1.Kind), (iA y1.1.N), (A.v (Value.string y1.1.S)), (A.imm (List.map c_S_Value y1.1.L) false)]) ?_))
  exact .lf rfl rfl ⟨_, rfl, by show snapE _ (A.tup [(A.agg [(iA y1.1.Kind), (iA y1.1.N), (A.v (Value.string y1.1.S)), (A.imm (List.map c_S_Value y1.1.L) false)]), (iA 0)]) = _; first | (simp only [sn0, snM, snapE]; done) | (simp only [sn0, snS, snapE]; first | done | rfl)⟩
 refine .bb ?_
 refine .cr ?_
 iterate 5 refine .uc ?_
 refine .bg (fun t (y : Bool) => ∃ j23 : A, t = [(bA y), j23]) ?_ ?_
 ·refine .bKT hc17 ?_
  exact .lg ⟨_, rfl⟩
 rintro _ y22 ⟨j23, rfl⟩
 iterate 2 refine .uc ?_
 refine .biHN (fun hk24 => ?_) (fun hk24 => ?_)
 ·refine .s (A.agg [(iA 0), (iA 0), (A.v (Value.string ByteArray.empty)), (A.imm [] true)]) (.s [hk18_1, Blk.box [(A.imm (List.map c8 a0) false), (iA y1.2.1), (bA y1.2.2)], (hk19_1 y1)] (.s (A.agg [(iA 0), (iA 0), (A.v (Value.string ByteArray.empty)), (A.imm [] true)]) ?_))
  exact .lf rfl rfl ⟨_, rfl, by show snapE _ (A.tup [(A.agg [(iA 0), (iA 0), (A.v (Value.string ByteArray.empty)), (A.imm [] true)]), (iA 10)]) = _; first | (simp only [sn0, snM, snapE]; done) | (simp only [sn0, snS, snapE]; first | done | rfl)⟩
 refine .s (A.agg [(iA y1.1.Kind), (iA y1.1.N), (A.v (Value.string y1.1.S)), (A.imm (List.map c_S_Value y1.1.L) false)]) (.s [(hk19_1 y1), Blk.box [(A.imm (List.map c8 a0) false), (iA y1.2.1), (bA y1.2.2)], (hk19_1 y1)] (.s (A.agg [(iA y1.1.Kind), (iA y1.1.N), (A.v (Value.string y1.1.S)), (A.imm (List.map c_S_Value y1.1.L) false)]) ?_))
 exact .lf rfl rfl ⟨_, rfl, by show snapE _ (A.tup [(A.agg [(iA y1.1.Kind), (iA y1.1.N), (A.v (Value.string y1.1.S)), (A.imm (List.map c_S_Value y1.1.L) false)]), (iA 0)]) = _; first | (simp only [sn0, snM, snapE]; done) | (simp only [sn0, snS, snapE]; first | done | rfl)⟩
def G19 (a0 : (List UInt8)) : Option (S_Value × Int) := F19 fuel0 a0
def Orc19 (C : Nat -> List A -> Option A) : Prop := ∀ (a0 : (List UInt8)), C 19 [(A.imm (List.map c8 a0) false)] = (G19 a0).map fun y => (A.tup [(A.agg [(iA y.1.Kind), (iA y.1.N), (A.v (Value.string y.1.S)), (A.imm (List.map c_S_Value y.1.L) false)]), (iA y.2)])
def OrcS20 (C : Nat -> List A -> Option A) (self : S_Value -> S_Value -> Option Bool) : Prop := ∀ (a0 : S_Value) (a1 : S_Value), C 20 [(A.agg [(iA a0.Kind), (iA a0.N), (A.v (Value.string a0.S)), (A.imm (List.map c_S_Value a0.L) false)]), (A.agg [(iA a1.Kind), (iA a1.N), (A.v (Value.string a1.S)), (A.imm (List.map c_S_Value a1.L) false)])] = (self a0 a1).map fun y => (bA y)
def F20_20_0 (self : S_Value -> S_Value -> Option Bool) (n : Nat) (v25 : Bool) (v27 : S_Value) (v28 : S_Value) : Nat -> Int -> Option ((Bool) ⊕ (Unit))
 | 0, _ => none
 | m + 1, v26 => bif (decide (v26 < ((v27.L.length : Int)))) then ((getI v27.L v26).bind fun y30 => (getI v28.L v26).bind fun y31 => (self y30 y31).bind fun y32 => bif (!y32) then (some ((Sum.inl false))) else (F20_20_0 self n v25 v27 v28 m (wr .i64 (v26 + 1)))) else (some ((Sum.inr (()))))
theorem T20_20_0 (C : Nat -> List A -> Option A) (n : Nat) (self : S_Value -> S_Value -> Option Bool) (hS : OrcS20 C self) (v25 : Bool) (v27 : S_Value) (v28 : S_Value) {ρ γ : Type} {φ : ρ -> γ -> Prop} {kL : R -> Option ρ} {K : ((Bool) ⊕ (Unit)) -> Option γ} (kx kg : Nat -> St -> Option R) (kr : St -> Option R) (kp : A -> St -> Option R) (x0 : ∀ (o0 : Bool) (s2 : A) (s3 : A) (s5 : A), J φ (kr (St.mk [(2, s2), (3, s3), (4, (bA o0)), (5, s5)] [Blk.box [(iA v27.Kind), (iA v27.N), (A.v (Value.string v27.S)), (A.imm (List.map c_S_Value v27.L) false)], Blk.box [(iA v28.Kind), (iA v28.N), (A.v (Value.string v28.S)), (A.imm (List.map c_S_Value v28.L) false)]])) kL (K (Sum.inl o0)) some) (x1 : ∀ (s2 : A) (s3 : A) (s4 : A) (s5 : A), J φ (kx 0 (St.mk [(2, s2), (3, s3), (4, s4), (5, s5)] [Blk.box [(iA v27.Kind), (iA v27.N), (A.v (Value.string v27.S)), (A.imm (List.map c_S_Value v27.L) false)], Blk.box [(iA v28.Kind), (iA v28.N), (A.v (Value.string v28.S)), (A.imm (List.map c_S_Value v28.L) false)]])) kL (K (Sum.inr (()))) some) :
  ∀ (m : Nat) (v26 : Int), J φ (loopR (cx C) (ec C n 8) (ey C n 8) (n+8) 20 0 0 2 kx kg kr kp m (St.mk [(2, (A.ptr 0 0)), (3, (A.ptr 1 0)), (4, (bA v25)), (5, (iA v26))] [Blk.box [(iA v27.Kind), (iA v27.N), (A.v (Value.string v27.S)), (A.imm (List.map c_S_Value v27.L) false)], Blk.box [(iA v28.Kind), (iA v28.N), (A.v (Value.string v28.S)), (A.imm (List.map c_S_Value v28.L) false)]])) kL (F20_20_0 self n v25 v27 v28 m v26) K := by
 intro m
 induction m with
 | zero => intros; exact .nn
 | succ m ih =>
  intro v26
  refine .lp (e20_0 ..) ?_
  unfold F20_20_0
  refine .s (A.ptr 0 3) (.s (A.imm (List.map c_S_Value v27.L) false) ?_)
  refine .st (v := (iA ((v27.L.length : Int)))) (len_imm (e := 24) (h1 := by kernel_rfl) ..) ?_
  refine .st (v := (bA (decide (v26 < ((v27.L.length : Int)))))) (aBin_lss ..) ?_
  refine .biHN (fun hk29 => ?_) (fun hk29 => ?_)
  ·refine .s (A.ptr 0 3) (.s (A.imm (List.map c_S_Value v27.L) false) ?_)
   refine .bd (g := fun (y : S_Value) => (A.ip [(iA y.Kind), (iA y.N), (A.v (Value.string y.S)), (A.imm (List.map c_S_Value y.L) false)])) ((idx_imm (e := 24) (es := 4) (h1 := by kernel_rfl) (h2 := by kernel_rfl) (h3 := fun _ => rfl) ..).trans (ci_S_Value _)) fun y30 => ?_
   refine .s (A.agg [(iA y30.Kind), (iA y30.N), (A.v (Value.string y30.S)), (A.imm (List.map c_S_Value y30.L) false)]) (.s (A.ptr 1 3) (.s (A.imm (List.map c_S_Value v28.L) false) ?_))
   refine .bd (g := fun (y : S_Value) => (A.ip [(iA y.Kind), (iA y.N), (A.v (Value.string y.S)), (A.imm (List.map c_S_Value y.L) false)])) ((idx_imm (e := 24) (es := 4) (h1 := by kernel_rfl) (h2 := by kernel_rfl) (h3 := fun _ => rfl) ..).trans (ci_S_Value _)) fun y31 => ?_
   refine .s (A.agg [(iA y31.Kind), (iA y31.N), (A.v (Value.string y31.S)), (A.imm (List.map c_S_Value y31.L) false)]) ?_
   refine .bd (g := fun (y : Bool) => (bA y)) (by show C 20 [snap _ (A.agg [(iA y30.Kind), (iA y30.N), (A.v (Value.string y30.S)), (A.imm (List.map c_S_Value y30.L) false)]), snap _ (A.agg [(iA y31.Kind), (iA y31.N), (A.v (Value.string y31.S)), (A.imm (List.map c_S_Value y31.L) false)])] = _; simp only [sn0, snM]; exact hS y30 y31) fun y32 => ?_
   refine .s (bA (!y32)) ?_
   refine .biHN (fun hk33 => ?_) (fun hk33 => ?_)
   ·exact .ex (x0 _ _ _ _)
   refine .st (v := (iA (wr .i64 (v26 + 1)))) (aBin_add ..) ?_
   refine .s [Blk.box [(iA v27.Kind), (iA v27.N), (A.v (Value.string v27.S)), (A.imm (List.map c_S_Value v27.L) false)], Blk.box [(iA v28.Kind), (iA v28.N), (A.v (Value.string v28.S)), (A.imm (List.map c_S_Value v28.L) false)]] ?_
   refine .cT (by kernel_rfl) ?_
   exact ih _
  exact .ex (x1 _ _ _ _)
def F20 (self : S_Value -> S_Value -> Option Bool) (n : Nat) (a0 : S_Value) (a1 : S_Value) : Option Bool :=
 (bif (a0.Kind != a1.Kind) then (some true) else (some (a0.N != a1.N))).bind fun y2 => (bif y2 then (some true) else (some (!strEq a0.S a1.S))).bind fun y9 => (bif y9 then (some true) else (some (((a0.L.length : Int)) != ((a1.L.length : Int))))).bind fun y16 => bif y16 then (some false) else ((F20_20_0 self n false a0 a1 (n+8) 0).bind fun o34 => match o34 with | (Sum.inl y35) => some y35 | (Sum.inr _) => some true)
theorem T20 (C : Nat -> List A -> Option A) (n : Nat) (self : S_Value -> S_Value -> Option Bool) (hS : OrcS20 C self) (a0 : S_Value) (a1 : S_Value) : J (fun (o : R) y => ∃ v, o.1 = .ret v /\ snapE o.2 v = (bA y)) (evCall1 (cx C) (ec C n 8) (ey C n 8) (n+8) 20 [(A.agg [(iA a0.Kind), (iA a0.N), (A.v (Value.string a0.S)), (A.imm (List.map c_S_Value a0.L) false)]), (A.agg [(iA a1.Kind), (iA a1.N), (A.v (Value.string a1.S)), (A.imm (List.map c_S_Value a1.L) false)])] [] 0) some (F20 self n a0 a1) some := by
 refine .lp (e20 ..) ?_
 unfold F20
 refine .s ((A.ptr 0 0), [Blk.box [(iA a0.Kind), (iA a0.N), (A.v (Value.string a0.S)), (A.imm (List.map c_S_Value a0.L) false)]]) (.s ((A.ptr 1 0), [Blk.box [(iA a0.Kind), (iA a0.N), (A.v (Value.string a0.S)), (A.imm (List.map c_S_Value a0.L) false)], Blk.box [(iA a1.Kind), (iA a1.N), (A.v (Value.string a1.S)), (A.imm (List.map c_S_Value a1.L) false)]]) (.s (A.ptr 0 0) (.s (iA a0.Kind) (.s (A.ptr 1 0) (.s (iA a1.Kind) ?_)))))
 refine .st (v := (bA (a0.Kind != a1.Kind))) (aBin_neq ..) ?_
 refine .bg (fun t (y : Bool) => ∃ j3 j4 j5 j6 j7 : A, t = [(bA y), j3, j4, j5, j6, j7]) ?_ ?_
 ·refine .biH (fun hk1 => ?_) (fun hk1 => ?_)
  ·exact .lg ⟨_, _, _, _, _, rfl⟩
  refine .s (A.ptr 0 1) (.s (iA a0.N) (.s (A.ptr 1 1) (.s (iA a1.N) ?_)))
  refine .st (v := (bA (a0.N != a1.N))) (aBin_neq ..) ?_
  exact .lg ⟨_, _, _, _, _, rfl⟩
 rintro _ y2 ⟨j3, j4, j5, j6, j7, rfl⟩
 iterate 6 refine .uc ?_
 refine .bg (fun t (y : Bool) => ∃ j10 j11 j12 j13 j14 : A, t = [(bA y), j10, j11, j12, j13, j14]) ?_ ?_
 ·refine .biH (fun hk8 => ?_) (fun hk8 => ?_)
  ·exact .lg ⟨_, _, _, _, _, rfl⟩
  refine .s (A.ptr 0 2) (.s (A.v (Value.string a0.S)) (.s (A.ptr 1 2) (.s (A.v (Value.string a1.S)) ?_)))
  refine .st (v := (bA (!strEq a0.S a1.S))) (aBin_neq_s ..) ?_
  exact .lg ⟨_, _, _, _, _, rfl⟩
 rintro _ y9 ⟨j10, j11, j12, j13, j14, rfl⟩
 iterate 6 refine .uc ?_
 refine .bg (fun t (y : Bool) => ∃ j17 j18 j19 j20 j21 j22 j23 : A, t = [(bA y), j17, j18, j19, j20, j21, j22, j23]) ?_ ?_
 ·refine .biH (fun hk15 => ?_) (fun hk15 => ?_)
  ·exact .lg ⟨_, _, _, _, _, _, _, rfl⟩
  refine .s (A.ptr 0 3) (.s (A.imm (List.map c_S_Value a0.L) false) ?_)
  refine .st (v := (iA ((a0.L.length : Int)))) (len_imm (e := 24) (h1 := by kernel_rfl) ..) ?_
  refine .s (A.ptr 1 3) (.s (A.imm (List.map c_S_Value a1.L) false) ?_)
  refine .st (v := (iA ((a1.L.length : Int)))) (len_imm (e := 24) (h1 := by kernel_rfl) ..) ?_
  refine .st (v := (bA (((a0.L.length : Int)) != ((a1.L.length : Int))))) (aBin_neq ..) ?_
  exact .lg ⟨_, _, _, _, _, _, _, rfl⟩
 rintro _ y16 ⟨j17, j18, j19, j20, j21, j22, j23, rfl⟩
 iterate 8 refine .uc ?_
 refine .biHN (fun hk24 => ?_) (fun hk24 => ?_)
 ·exact .lf rfl rfl ⟨_, rfl, rfl⟩
 refine .as (T20_20_0 C n  self hS false a0 a1 _ _ _ _ ?_ ?_ _ 0)
 ·intro y35 j36 j37 j38
  refine .un rfl ?_
  exact .lf rfl rfl ⟨_, rfl, rfl⟩
 ·intro j39 j40 j41 j42
  refine .un rfl ?_
  refine .cT (by kernel_rfl) ?_
  exact .lf rfl rfl ⟨_, rfl, rfl⟩
def R20 : Nat -> S_Value -> S_Value -> Option Bool
 | 0 => fun _ _ => none
 | q + 1 => fun a0 a1 => F20 (R20 q) fuel0 a0 a1
def G20 (a0 : S_Value) (a1 : S_Value) : Option Bool := R20 fuel0 a0 a1
def Orc20 (C : Nat -> List A -> Option A) : Prop := ∀ (a0 : S_Value) (a1 : S_Value), C 20 [(A.agg [(iA a0.Kind), (iA a0.N), (A.v (Value.string a0.S)), (A.imm (List.map c_S_Value a0.L) false)]), (A.agg [(iA a1.Kind), (iA a1.N), (A.v (Value.string a1.S)), (A.imm (List.map c_S_Value a1.L) false)])] = (G20 a0 a1).map fun y => (bA y)
def F4 (n : Nat) (a0 : (List UInt8)) : Option Bool :=
 (G10 ).bind fun y1 => bif (!y1) then (some false) else (bif (decide (2000 < ((a0.length : Int)))) then (some true) else ((G18 a0).bind fun y4 => (G19 a0).bind fun y5 => (G20 y4.1 y5.1).bind fun y6 => (bif y6 then (some (y4.2 == y5.2)) else (some false)).bind fun y8 => some y8))
theorem T4 (C : Nat -> List A -> Option A) (n : Nat) (h10 : Orc10 C) (h18 : Orc18 C) (h19 : Orc19 C) (h20 : Orc20 C) (a0 : (List UInt8)) : J (fun (o : R) y => ∃ v, o.1 = .ret v /\ snapE o.2 v = (bA y)) (evCall1 (cx C) (ec C n 8) (ey C n 8) (n+8) 4 [(A.imm (List.map c8 a0) false)] [] 0) some (F4 n a0) some := by
 refine .lp (e4 ..) ?_
 unfold F4
 refine .bd (g := fun (y : Bool) => (bA y)) (h10 ()) fun y1 => ?_
 refine .s (bA (!y1)) ?_
 refine .biHN (fun hk2 => ?_) (fun hk2 => ?_)
 ·exact .lf rfl rfl ⟨_, rfl, rfl⟩
 refine .st (v := (iA ((a0.length : Int)))) (len_imm (e := 5) (h1 := by kernel_rfl) ..) ?_
 refine .st (v := (bA (decide (2000 < ((a0.length : Int)))))) (aBin_gtr ..) ?_
 refine .biHN (fun hk3 => ?_) (fun hk3 => ?_)
 ·exact .lf rfl rfl ⟨_, rfl, rfl⟩
 refine .bd (g := fun (y : (S_Value × Int)) => (A.tup [(A.agg [(iA y.1.Kind), (iA y.1.N), (A.v (Value.string y.1.S)), (A.imm (List.map c_S_Value y.1.L) false)]), (iA y.2)])) (by show C 18 [snap _ (A.imm (List.map c8 a0) false)] = _; simp only [sn0, snM]; exact h18 a0) fun y4 => ?_
 refine .s (A.agg [(iA y4.1.Kind), (iA y4.1.N), (A.v (Value.string y4.1.S)), (A.imm (List.map c_S_Value y4.1.L) false)]) (.s (iA y4.2) (.s ((A.ptr 0 0), [Blk.box [(iA 0), (iA 0), (A.v (Value.string ByteArray.empty)), (A.imm [] true)]]) (.s [Blk.box [(iA y4.1.Kind), (iA y4.1.N), (A.v (Value.string y4.1.S)), (A.imm (List.map c_S_Value y4.1.L) false)]] ?_)))
 refine .bd (g := fun (y : (S_Value × Int)) => (A.tup [(A.agg [(iA y.1.Kind), (iA y.1.N), (A.v (Value.string y.1.S)), (A.imm (List.map c_S_Value y.1.L) false)]), (iA y.2)])) (by show C 19 [snap _ (A.imm (List.map c8 a0) false)] = _; simp only [sn0, snM]; exact h19 a0) fun y5 => ?_
 refine .s (A.agg [(iA y5.1.Kind), (iA y5.1.N), (A.v (Value.string y5.1.S)), (A.imm (List.map c_S_Value y5.1.L) false)]) (.s (iA y5.2) (.s ((A.ptr 1 0), [Blk.box [(iA y4.1.Kind), (iA y4.1.N), (A.v (Value.string y4.1.S)), (A.imm (List.map c_S_Value y4.1.L) false)], Blk.box [(iA 0), (iA 0), (A.v (Value.string ByteArray.empty)), (A.imm [] true)]]) (.s [Blk.box [(iA y4.1.Kind), (iA y4.1.N), (A.v (Value.string y4.1.S)), (A.imm (List.map c_S_Value y4.1.L) false)], Blk.box [(iA y5.1.Kind), (iA y5.1.N), (A.v (Value.string y5.1.S)), (A.imm (List.map c_S_Value y5.1.L) false)]] (.s (A.agg [(iA y4.1.Kind), (iA y4.1.N), (A.v (Value.string y4.1.S)), (A.imm (List.map c_S_Value y4.1.L) false)]) (.s (A.agg [(iA y5.1.Kind), (iA y5.1.N), (A.v (Value.string y5.1.S)), (A.imm (List.map c_S_Value y5.1.L) false)]) ?_)))))
 refine .bd (g := fun (y : Bool) => (bA y)) (by show C 20 [snap _ (A.agg [(iA y4.1.Kind), (iA y4.1.N), (A.v (Value.string y4.1.S)), (A.imm (List.map c_S_Value y4.1.L) false)]), snap _ (A.agg [(iA y5.1.Kind), (iA y5.1.N), (A.v (Value.string y5.1.S)), (A.imm (List.map c_S_Value y5.1.L) false)])] = _; simp only [sn0, snM]; exact h20 y4.1 y5.1) fun y6 => ?_
 refine .bg (fun t (y : Bool) => ∃ j9 j10 j11 : A, t = [(bA y), j9, j10, j11]) ?_ ?_
 ·refine .biH (fun hk7 => ?_) (fun hk7 => ?_)
  ·refine .st (v := (bA (y4.2 == y5.2))) (aBin_eql ..) ?_
   exact .lg ⟨_, _, _, rfl⟩
  exact .lg ⟨_, _, _, rfl⟩
 rintro _ y8 ⟨j9, j10, j11, rfl⟩
 iterate 4 refine .uc ?_
 exact .lf rfl rfl ⟨_, rfl, rfl⟩
def G4 (a0 : (List UInt8)) : Option Bool := F4 fuel0 a0
end Go.Proofs.Ytmjaehondldaaaa
