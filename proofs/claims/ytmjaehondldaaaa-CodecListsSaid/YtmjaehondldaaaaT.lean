/-
 The program's functions as plain functions: by a tool; each follows the interpreter.
-/
import Derived.Test.YtmjaehondldaaaaT1
import Derived.KernelRfl
namespace Go.Proofs.Ytmjaehondldaaaa
open Go.Proofs.Try (prog)
set_option linter.unusedVariables false
set_option linter.unusedSimpArgs false
set_option maxHeartbeats 4000000
set_option maxRecDepth 100000
def F8_8_0 (n : Nat) (v10 : (List S_Value)) (v11 : Bool) (v13 : (List S_Value)) (v14 : Int) : Nat -> Int -> Int -> (List UInt8) -> (List S_Value) -> Option ((Bool × (List UInt8) × (List S_Value) × Int × Int × ByteArray × (List S_Value)) ⊕ (Int × (List UInt8) × (List S_Value)))
 | 0, _, _, _, _ => none
 | m + 1, v12, v15, v16, v17 => bif (decide (v15 < v14)) then ((getI v13 v15).bind fun y19 => (G12 y19).bind fun y20 => (G14 y19).bind fun y21 => (bif (y20.2 != y21.2) then (some true) else ((bif (y20.2 == 0) then (some (y21.1 != ((y20.1.length : Int)))) else (some false)).bind fun y24 => some y24)).bind fun y29 => bif y29 then (some ((Sum.inl ((false, v16, v17, y19.Kind, y19.N, y19.S, y19.L))))) else (bif (y20.2 != 0) then ((G22 v10).bind fun y40 => (G12 y40).bind fun y41 => some ((Sum.inl ((y41.2 != 0, v16, v17, y19.Kind, y19.N, y19.S, y19.L))))) else ((appI 1 v16 y20.1).bind fun y42 => (G23 0).bind fun y43 => (appI 56 v17 ([y43])).bind fun y44 => F8_8_0 n v10 v11 v13 v14 m (wr .i64 (v12 + y21.1)) (wr .i64 (v15 + 1)) y42 y44))) else (some ((Sum.inr ((v12, v16, v17)))))
theorem T8_8_0 (C : Nat -> List A -> Option A) (n : Nat) (h10 : Orc10 C) (h11 : Orc11 C) (h12 : Orc12 C) (h14 : Orc14 C) (h22 : Orc22 C) (h23 : Orc23 C) (v10 : (List S_Value)) (v11 : Bool) (v13 : (List S_Value)) (v14 : Int) {ρ γ : Type} {φ : ρ -> γ -> Prop} {kL : R -> Option ρ} {K : ((Bool × (List UInt8) × (List S_Value) × Int × Int × ByteArray × (List S_Value)) ⊕ (Int × (List UInt8) × (List S_Value))) -> Option γ} (kx kg : Nat -> St -> Option R) (kr : St -> Option R) (kp : A -> St -> Option R) (x0 : ∀ (o0 : Bool) (o1 : (List UInt8)) (o2 : (List S_Value)) (o3 : Int) (o4 : Int) (o5 : ByteArray) (o6 : (List S_Value)) (s0 : A) (s3 : A) (s4 : A) (s5 : A) (s29 : A) (s30 : A) (s31 : A), J φ (kr (St.mk [(0, s0), (2, (bA o0)), (3, s3), (4, s4), (5, s5), (29, s29), (30, s30), (31, s31)] [Blk.row false 1 (List.map c8 o1), Blk.row false 4 (List.map c_S_Value o2), Blk.box [(iA o3), (iA o4), (A.v (Value.string o5)), (A.imm (List.map c_S_Value o6) false)]])) kL (K (Sum.inl ((o0, o1, o2, o3, o4, o5, o6)))) some) (x1 : ∀ (o0 : Int) (o1 : (List UInt8)) (o2 : (List S_Value)) (s2 : A) (s29 : A) (s30 : A) (s31 : A), J φ (kx 0 (St.mk [(0, (A.imm (List.map c_S_Value v10) false)), (2, s2), (3, (A.sl 0 0 o1.length false)), (4, (A.sl 1 0 o2.length false)), (5, (iA o0)), (29, s29), (30, s30), (31, s31)] [Blk.row false 1 (List.map c8 o1), Blk.row false 4 (List.map c_S_Value o2)])) kL (K (Sum.inr ((o0, o1, o2)))) some) :
  ∀ (m : Nat) (v12 : Int) (v15 : Int) (v16 : (List UInt8)) (v17 : (List S_Value)), J φ (loopR (cx C) (ec C n 8) (ey C n 8) (n+8) 8 0 0 2 kx kg kr kp m (St.mk [(0, (A.imm (List.map c_S_Value v10) false)), (2, (bA v11)), (3, (A.sl 0 0 v16.length false)), (4, (A.sl 1 0 v17.length false)), (5, (iA v12)), (29, (A.imm (List.map c_S_Value v13) false)), (30, (iA v14)), (31, (iA v15))] [Blk.row false 1 (List.map c8 v16), Blk.row false 4 (List.map c_S_Value v17)])) kL (F8_8_0 n v10 v11 v13 v14 m v12 v15 v16 v17) K := by
 intro m
 induction m with
 | zero => intros; exact .nn
 | succ m ih =>
  intro v12 v15 v16 v17
  refine .lp (e8_0 ..) ?_
  unfold F8_8_0
  refine .st (v := (bA (decide (v15 < v14)))) (aBin_lss ..) ?_
  refine .biHN (fun hk18 => ?_) (fun hk18 => ?_)
  ·refine .bd (g := fun (y : S_Value) => (A.ip [(iA y.Kind), (iA y.N), (A.v (Value.string y.S)), (A.imm (List.map c_S_Value y.L) false)])) ((idx_imm (e := 24) (es := 4) (h1 := by kernel_rfl) (h2 := by kernel_rfl) (h3 := fun _ => rfl) ..).trans (ci_S_Value _)) fun y19 => ?_
   refine .s (A.agg [(iA y19.Kind), (iA y19.N), (A.v (Value.string y19.S)), (A.imm (List.map c_S_Value y19.L) false)]) (.s ((A.ptr 2 0), [Blk.row false 1 (List.map c8 v16), Blk.row false 4 (List.map c_S_Value v17), Blk.box [(iA 0), (iA 0), (A.v (Value.string ByteArray.empty)), (A.imm [] true)]]) (.s [Blk.row false 1 (List.map c8 v16), Blk.row false 4 (List.map c_S_Value v17), (hk12_5 y19)] (.s (A.agg [(iA y19.Kind), (iA y19.N), (A.v (Value.string y19.S)), (A.imm (List.map c_S_Value y19.L) false)]) ?_)))
   refine .bd (g := fun (y : ((List UInt8) × Int)) => (A.tup [(A.imm (List.map c8 y.1) false), (iA y.2)])) (by show C 12 [snap _ (A.agg [(iA y19.Kind), (iA y19.N), (A.v (Value.string y19.S)), (A.imm (List.map c_S_Value y19.L) false)])] = _; simp only [sn0, snM, snapG_row (H := [Blk.row false 1 (List.map c8 v16), Blk.row false 4 (List.map c_S_Value v17), (hk12_5 y19)]) (b := 0) (es := 1) (l := v16) fl_c8 rfl, snapG_row (H := [Blk.row false 1 (List.map c8 v16), Blk.row false 4 (List.map c_S_Value v17), (hk12_5 y19)]) (b := 1) (es := 4) (l := v17) fl_S_Value rfl]; exact h12 y19) fun y20 => ?_
   refine .s (A.imm (List.map c8 y20.1) false) (.s (iA y20.2) (.s (A.agg [(iA y19.Kind), (iA y19.N), (A.v (Value.string y19.S)), (A.imm (List.map c_S_Value y19.L) false)]) ?_))
   refine .bd (g := fun (y : (Int × Int)) => (A.tup [(iA y.1), (iA y.2)])) (by show C 14 [snap _ (A.agg [(iA y19.Kind), (iA y19.N), (A.v (Value.string y19.S)), (A.imm (List.map c_S_Value y19.L) false)])] = _; simp only [sn0, snM, snapG_row (H := [Blk.row false 1 (List.map c8 v16), Blk.row false 4 (List.map c_S_Value v17), (hk12_5 y19)]) (b := 0) (es := 1) (l := v16) fl_c8 rfl, snapG_row (H := [Blk.row false 1 (List.map c8 v16), Blk.row false 4 (List.map c_S_Value v17), (hk12_5 y19)]) (b := 1) (es := 4) (l := v17) fl_S_Value rfl]; exact h14 y19) fun y21 => ?_
   refine .s (iA y21.1) (.s (iA y21.2) ?_)
   refine .st (v := (bA (y20.2 != y21.2))) (aBin_neq ..) ?_
   refine .bg (fun t (y : Bool) => ∃ j30 j31 j32 j33 j34 j35 j36 j37 : A, t = [(bA y), j30, j31, j32, j33, j34, j35, j36, j37]) ?_ ?_
   ·refine .biH (fun hk22 => ?_) (fun hk22 => ?_)
    ·exact .lg ⟨_, _, _, _, _, _, _, _, rfl⟩
    refine .st (v := (bA (y20.2 == 0))) (aBin_eql ..) ?_
    refine .bg (fun t (y : Bool) => ∃ j25 j26 j27 j28 : A, t = [(bA y), j25, j26, j27, j28]) ?_ ?_
    ·refine .biH (fun hk23 => ?_) (fun hk23 => ?_)
     ·refine .st (v := (iA ((y20.1.length : Int)))) (len_imm (e := 5) (h1 := by kernel_rfl) ..) ?_
      refine .st (v := (bA (y21.1 != ((y20.1.length : Int))))) (aBin_neq ..) ?_
      exact .lg ⟨_, _, _, _, rfl⟩
     exact .lg ⟨_, _, _, _, rfl⟩
    rintro _ y24 ⟨j25, j26, j27, j28, rfl⟩
    iterate 5 refine .uc ?_
    exact .lg ⟨_, _, _, _, _, _, _, _, rfl⟩
   rintro _ y29 ⟨j30, j31, j32, j33, j34, j35, j36, j37, rfl⟩
   iterate 9 refine .uc ?_
   refine .biHN (fun hk38 => ?_) (fun hk38 => ?_)
   ·exact .ex (x0 _ _ _ _ _ _ _ _ _ _ _ _ _ _)
   refine .st (v := (bA (y20.2 != 0))) (aBin_neq ..) ?_
   refine .biHN (fun hk39 => ?_) (fun hk39 => ?_)
   ·refine .bd (g := fun (y : S_Value) => (A.agg [(iA y.Kind), (iA y.N), (A.v (Value.string y.S)), (A.imm (List.map c_S_Value y.L) false)])) (by show C 22 [snap _ (A.imm (List.map c_S_Value v10) false)] = _; simp only [sn0, snM, snapG_row (H := [Blk.row false 1 (List.map c8 v16), Blk.row false 4 (List.map c_S_Value v17), (hk12_5 y19)]) (b := 0) (es := 1) (l := v16) fl_c8 rfl, snapG_row (H := [Blk.row false 1 (List.map c8 v16), Blk.row false 4 (List.map c_S_Value v17), (hk12_5 y19)]) (b := 1) (es := 4) (l := v17) fl_S_Value rfl]; exact h22 v10) fun y40 => ?_
    refine .bd (g := fun (y : ((List UInt8) × Int)) => (A.tup [(A.imm (List.map c8 y.1) false), (iA y.2)])) (by show C 12 [snap _ (A.agg [(iA y40.Kind), (iA y40.N), (A.v (Value.string y40.S)), (A.imm (List.map c_S_Value y40.L) false)])] = _; simp only [sn0, snM, snapG_row (H := [Blk.row false 1 (List.map c8 v16), Blk.row false 4 (List.map c_S_Value v17), (hk12_5 y19)]) (b := 0) (es := 1) (l := v16) fl_c8 rfl, snapG_row (H := [Blk.row false 1 (List.map c8 v16), Blk.row false 4 (List.map c_S_Value v17), (hk12_5 y19)]) (b := 1) (es := 4) (l := v17) fl_S_Value rfl]; exact h12 y40) fun y41 => ?_
    refine .s (A.imm (List.map c8 y41.1) false) (.s (iA y41.2) ?_)
    refine .st (v := (bA (y41.2 != 0))) (aBin_neq ..) ?_
    exact .ex (x0 _ _ _ _ _ _ _ _ _ _ _ _ _ _)
   refine .bd (g := fun (y : List UInt8) => ((A.sl 0 0 y.length false), [Blk.row false 1 (List.map c8 y), Blk.row false 4 (List.map c_S_Value v17), (hk12_5 y19)])) (app_row (e := 5) (es := 1) (by_ := 1) (z := [(uA 0)]) (by kernel_rfl) (by kernel_rfl) (by kernel_rfl) (by kernel_rfl) rfl (by decide) (by decide) (by kernel_rfl) (f := c8) (fun _ => rfl) ce_c8 (l := v16) (l2 := y20.1) (b := 0) rfl (by decide) (els_imm ..)) fun y42 => ?_
   refine .bd (g := fun (y : S_Value) => (A.agg [(iA y.Kind), (iA y.N), (A.v (Value.string y.S)), (A.imm (List.map c_S_Value y.L) false)])) (h23 0) fun y43 => ?_
   refine .s (A.imm [[(iA y43.Kind), (iA y43.N), (A.v (Value.string y43.S)), (A.imm (List.map c_S_Value y43.L) false)]] true) ?_
   refine .bd (g := fun (y : List S_Value) => ((A.sl 1 0 y.length false), [Blk.row false 1 (List.map c8 y42), Blk.row false 4 (List.map c_S_Value y), (hk12_5 y19)])) (app_row (e := 24) (es := 4) (by_ := 56) (z := [(iA 0), (iA 0), (A.v (Value.string ByteArray.empty)), (A.imm [] true)]) (by kernel_rfl) (by kernel_rfl) (by kernel_rfl) (by kernel_rfl) rfl (by decide) (by decide) (by kernel_rfl) (f := c_S_Value) (fun _ => rfl) ce_S_Value (l := v17) (l2 := [y43]) (b := 1) rfl (by decide) (els_lit (f := c_S_Value) (l := ([y43] : List S_Value)) (by simp only [List.map_cons, List.map_nil, cq_S_Value]))) fun y44 => ?_
   refine .st (v := (iA (wr .i64 (v12 + y21.1)))) (aBin_add ..) ?_
   refine .st (v := (iA (wr .i64 (v15 + 1)))) (aBin_add ..) ?_
   refine .st (v := [Blk.row false 1 (List.map c8 y42), Blk.row false 4 (List.map c_S_Value y44)]) ((by kernel_rfl : _ = (bif ((underss 2 (List.map c8 y42)) && ((underss 2 (List.map c_S_Value y44)) && true)) then some [Blk.row false 1 (List.map c8 y42), Blk.row false 4 (List.map c_S_Value y44)] else none)).trans (by simp only [un0, unS])) ?_
   refine .cT ((by kernel_rfl : _ = (bif underss 2 (List.map c_S_Value v10) then (bif underss 2 (List.map c_S_Value v13) then true else false) else false)).trans (by simp only [un0, unS])) ?_
   exact ih _ _ _ _
  exact .ex (x1 _ _ _ _ _ _ _)
def F8 (n : Nat) (a0 : (List S_Value)) : Option Bool :=
 (G10 ).bind fun y1 => bif (!y1) then (some false) else ((G11 a0).bind fun y3 => (bif (!y3) then (some true) else (some (decide (20 < ((a0.length : Int)))))).bind fun y5 => bif y5 then (some true) else ((F8_8_0 n a0 false a0 ((a0.length : Int)) (n+8) 0 0 (([] : List UInt8)) (([] : List S_Value))).bind fun o45 => match o45 with | (Sum.inl ((y46, y47, y48, y49, y50, y51, y52))) => some y46 | (Sum.inr ((y60, y61, y62))) => (G22 a0).bind fun y67 => (G12 y67).bind fun y68 => bif (y68.2 != 0) then (some (y68.2 == 2)) else ((G22 y62).bind fun y70 => (G14 y70).bind fun y71 => (bif (y71.2 == 0) then (some (((y68.1.length : Int)) == (wr .i64 ((wr .i64 (y71.1 - (wr .i64 (2 * ((a0.length : Int)))))) + y60)))) else (some false)).bind fun y73 => (bif y73 then (some (decide (2 <= (wr .i64 (((y68.1.length : Int)) - ((y61.length : Int))))))) else (some false)).bind fun y85 => bif y85 then ((subI y68.1 (wr .i64 (((y68.1.length : Int)) - ((y61.length : Int)))) ((y68.1.length : Int))).bind fun y89 => (some (strEq (bstr y89) (bstr y61))).bind fun y90 => some y90) else ((some false).bind fun y92 => some y92))))
theorem T8 (C : Nat -> List A -> Option A) (n : Nat) (h10 : Orc10 C) (h11 : Orc11 C) (h12 : Orc12 C) (h14 : Orc14 C) (h22 : Orc22 C) (h23 : Orc23 C) (a0 : (List S_Value)) : J (fun (o : R) y => ∃ v, o.1 = .ret v /\ snapE o.2 v = (bA y)) (evCall1 (cx C) (ec C n 8) (ey C n 8) (n+8) 8 [(A.imm (List.map c_S_Value a0) false)] [] 0) some (F8 n a0) some := by
 refine .lp (e8 ..) ?_
 unfold F8
 refine .bd (g := fun (y : Bool) => (bA y)) (h10 ()) fun y1 => ?_
 refine .s (bA (!y1)) ?_
 refine .biHN (fun hk2 => ?_) (fun hk2 => ?_)
 ·exact .lf rfl rfl ⟨_, rfl, rfl⟩
 refine .bd (g := fun (y : Bool) => (bA y)) (by show C 11 [snap _ (A.imm (List.map c_S_Value a0) false)] = _; simp only [sn0, snM]; exact h11 a0) fun y3 => ?_
 refine .s (bA (!y3)) ?_
 refine .bg (fun t (y : Bool) => ∃ j6 j7 j8 : A, t = [(bA y), j6, j7, j8]) ?_ ?_
 ·refine .biH (fun hk4 => ?_) (fun hk4 => ?_)
  ·exact .lg ⟨_, _, _, rfl⟩
  refine .st (v := (iA ((a0.length : Int)))) (len_imm (e := 24) (h1 := by kernel_rfl) ..) ?_
  refine .st (v := (bA (decide (20 < ((a0.length : Int)))))) (aBin_gtr ..) ?_
  exact .lg ⟨_, _, _, rfl⟩
 rintro _ y5 ⟨j6, j7, j8, rfl⟩
 iterate 4 refine .uc ?_
 refine .biHN (fun hk9 => ?_) (fun hk9 => ?_)
 ·exact .lf rfl rfl ⟨_, rfl, rfl⟩
 refine .st (v := (iA ((a0.length : Int)))) (len_imm (e := 24) (h1 := by kernel_rfl) ..) ?_
 refine .as (T8_8_0 C n h10 h11 h12 h14 h22 h23 a0 false a0 ((a0.length : Int)) _ _ _ _ ?_ ?_ _ 0 0 (([] : List UInt8)) (([] : List S_Value)))
 ·intro y46 y47 y48 y49 y50 y51 y52 j53 j54 j55 j56 j57 j58 j59
  refine .un rfl ?_
  exact .lf rfl rfl ⟨_, rfl, rfl⟩
 ·intro y60 y61 y62 j63 j64 j65 j66
  refine .un rfl ?_
  refine .cT (by kernel_rfl) ?_
  refine .bd (g := fun (y : S_Value) => (A.agg [(iA y.Kind), (iA y.N), (A.v (Value.string y.S)), (A.imm (List.map c_S_Value y.L) false)])) (by show C 22 [snap _ (A.imm (List.map c_S_Value a0) false)] = _; simp only [sn0, snM, snapG_row (H := [Blk.row false 1 (List.map c8 y61), Blk.row false 4 (List.map c_S_Value y62)]) (b := 0) (es := 1) (l := y61) fl_c8 rfl, snapG_row (H := [Blk.row false 1 (List.map c8 y61), Blk.row false 4 (List.map c_S_Value y62)]) (b := 1) (es := 4) (l := y62) fl_S_Value rfl]; exact h22 a0) fun y67 => ?_
  refine .bd (g := fun (y : ((List UInt8) × Int)) => (A.tup [(A.imm (List.map c8 y.1) false), (iA y.2)])) (by show C 12 [snap _ (A.agg [(iA y67.Kind), (iA y67.N), (A.v (Value.string y67.S)), (A.imm (List.map c_S_Value y67.L) false)])] = _; simp only [sn0, snM, snapG_row (H := [Blk.row false 1 (List.map c8 y61), Blk.row false 4 (List.map c_S_Value y62)]) (b := 0) (es := 1) (l := y61) fl_c8 rfl, snapG_row (H := [Blk.row false 1 (List.map c8 y61), Blk.row false 4 (List.map c_S_Value y62)]) (b := 1) (es := 4) (l := y62) fl_S_Value rfl]; exact h12 y67) fun y68 => ?_
  refine .s (A.imm (List.map c8 y68.1) false) (.s (iA y68.2) ?_)
  refine .st (v := (bA (y68.2 != 0))) (aBin_neq ..) ?_
  refine .biHN (fun hk69 => ?_) (fun hk69 => ?_)
  ·refine .st (v := (bA (y68.2 == 2))) (aBin_eql ..) ?_
   exact .lf rfl rfl ⟨_, rfl, rfl⟩
  refine .bd (g := fun (y : S_Value) => (A.agg [(iA y.Kind), (iA y.N), (A.v (Value.string y.S)), (A.imm (List.map c_S_Value y.L) false)])) (by show C 22 [snap [Blk.row false 1 (List.map c8 y61), Blk.row false 4 (List.map c_S_Value y62)] (A.sl 1 0 y62.length false)] = _; simp only [sn0, snM, snapG_row (H := [Blk.row false 1 (List.map c8 y61), Blk.row false 4 (List.map c_S_Value y62)]) (b := 0) (es := 1) (l := y61) fl_c8 rfl, snapG_row (H := [Blk.row false 1 (List.map c8 y61), Blk.row false 4 (List.map c_S_Value y62)]) (b := 1) (es := 4) (l := y62) fl_S_Value rfl]; exact h22 y62) fun y70 => ?_
  refine .bd (g := fun (y : (Int × Int)) => (A.tup [(iA y.1), (iA y.2)])) (by show C 14 [snap _ (A.agg [(iA y70.Kind), (iA y70.N), (A.v (Value.string y70.S)), (A.imm (List.map c_S_Value y70.L) false)])] = _; simp only [sn0, snM, snapG_row (H := [Blk.row false 1 (List.map c8 y61), Blk.row false 4 (List.map c_S_Value y62)]) (b := 0) (es := 1) (l := y61) fl_c8 rfl, snapG_row (H := [Blk.row false 1 (List.map c8 y61), Blk.row false 4 (List.map c_S_Value y62)]) (b := 1) (es := 4) (l := y62) fl_S_Value rfl]; exact h14 y70) fun y71 => ?_
  refine .s (iA y71.1) (.s (iA y71.2) ?_)
  refine .st (v := (iA ((y68.1.length : Int)))) (len_imm (e := 5) (h1 := by kernel_rfl) ..) ?_
  refine .st (v := (iA ((y61.length : Int)))) (row_len (e := 5) (by kernel_rfl) rfl rfl) ?_
  refine .st (v := (iA (wr .i64 (((y68.1.length : Int)) - ((y61.length : Int)))))) (aBin_sub ..) ?_
  refine .st (v := (bA (y71.2 == 0))) (aBin_eql ..) ?_
  refine .bg (fun t (y : Bool) => ∃ j74 j75 j76 j77 j78 j79 j80 j81 j82 j83 : A, t = [(bA y), j74, j75, j76, j77, j78, j79, j80, j81, j82, j83]) ?_ ?_
  ·refine .biH (fun hk72 => ?_) (fun hk72 => ?_)
   ·refine .st (v := (iA ((y68.1.length : Int)))) (len_imm (e := 5) (h1 := by kernel_rfl) ..) ?_
    refine .st (v := (iA ((a0.length : Int)))) (len_imm (e := 24) (h1 := by kernel_rfl) ..) ?_
    refine .st (v := (iA (wr .i64 (2 * ((a0.length : Int)))))) (aBin_mul ..) ?_
    refine .st (v := (iA (wr .i64 (y71.1 - (wr .i64 (2 * ((a0.length : Int)))))))) (aBin_sub ..) ?_
    refine .st (v := (iA (wr .i64 ((wr .i64 (y71.1 - (wr .i64 (2 * ((a0.length : Int)))))) + y60)))) (aBin_add ..) ?_
    refine .st (v := (bA (((y68.1.length : Int)) == (wr .i64 ((wr .i64 (y71.1 - (wr .i64 (2 * ((a0.length : Int)))))) + y60))))) (aBin_eql ..) ?_
    exact .lg ⟨_, _, _, _, _, _, _, _, _, _, rfl⟩
   exact .lg ⟨_, _, _, _, _, _, _, _, _, _, rfl⟩
  rintro _ y73 ⟨j74, j75, j76, j77, j78, j79, j80, j81, j82, j83, rfl⟩
  iterate 11 refine .uc ?_
  refine .bg (fun t (y : Bool) => ∃ j86 j87 : A, t = [(bA y), j86, j87]) ?_ ?_
  ·refine .biH (fun hk84 => ?_) (fun hk84 => ?_)
   ·refine .st (v := (bA (decide (2 <= (wr .i64 (((y68.1.length : Int)) - ((y61.length : Int)))))))) (aBin_geq ..) ?_
    exact .lg ⟨_, _, rfl⟩
   exact .lg ⟨_, _, rfl⟩
  rintro _ y85 ⟨j86, j87, rfl⟩
  iterate 3 refine .uc ?_
  refine .gst (fun hc88 => ?_) (fun hc88 => ?_)
  ·refine .bb ?_
   refine .bd (g := fun (y : List UInt8) => (A.imm (List.map c8 y) false)) (cut_imm (e := 5) (es := 1) (f := c8) (l := y68.1) (a := wr .i64 (((y68.1.length : Int)) - ((y61.length : Int)))) (b := (y68.1.length : Int)) (by kernel_rfl) (by kernel_rfl) (fun _ => rfl) (.inr ⟨_, rfl⟩) (.inl ⟨rfl, rfl⟩)) fun y89 => ?_
   refine .st (v := (A.v (Value.string (bstr y89)))) (conv_bs (e := 5) (l := y89) (by kernel_rfl) (by kernel_rfl) (by kernel_rfl) (by kernel_rfl) (els_imm ..) rfl) ?_
   refine .st (v := (A.v (Value.string (bstr y61)))) (conv_bs (e := 5) (l := y61) (by kernel_rfl) (by kernel_rfl) (by kernel_rfl) (by kernel_rfl) (els_row _ rfl) rfl) ?_
   refine .cr ?_
   iterate 6 refine .uc ?_
   refine .bg (fun t (y : Bool) => ∃ j91 : A, t = [(bA y), j91]) ?_ ?_
   ·refine .bKT hc88 ?_
    refine .st (v := (bA (strEq (bstr y89) (bstr y61)))) (aBin_eql_s ..) ?_
    exact .lg ⟨_, rfl⟩
   rintro _ y90 ⟨j91, rfl⟩
   iterate 2 refine .uc ?_
   exact .lf rfl rfl ⟨_, rfl, rfl⟩
  refine .bb ?_
  refine .cr ?_
  iterate 6 refine .uc ?_
  refine .bg (fun t (y : Bool) => ∃ j93 : A, t = [(bA y), j93]) ?_ ?_
  ·refine .bKF hc88 ?_
   exact .lg ⟨_, rfl⟩
  rintro _ y92 ⟨j93, rfl⟩
  iterate 2 refine .uc ?_
  exact .lf rfl rfl ⟨_, rfl, rfl⟩
def G8 (a0 : (List S_Value)) : Option Bool := F8 fuel0 a0
end Go.Proofs.Ytmjaehondldaaaa
