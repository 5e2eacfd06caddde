/-
 The program's functions as plain functions: by a tool; each follows the interpreter.
-/
import Derived.Test.YtmjaehondldaaaaT1
import Derived.KernelRfl
namespace Go.Proofs.Ytmjaehondldaaaa
open Go.Proofs.Try (prog)
set_option linter.unusedVariables false
set_option linter.unusedSimpArgs false
set_option maxHeartbeats 4000000
set_option maxRecDepth 100000
def F7 (n : Nat) (a0 : S_Value) (a1 : S_Value) : Option Bool :=
 (G10 ).bind fun y1 => bif (!y1) then (some false) else ((G11 ([a0, a1])).bind fun y3 => bif (!y3) then (some true) else ((G12 a0).bind fun y5 => (G12 a1).bind fun y6 => (bif (y5.2 != 0) then (some true) else (some (y6.2 != 0))).bind fun y8 => bif y8 then (some true) else ((G21 a0 a1).bind fun y12 => bif y12 then (some (strEq (bstr y5.1) (bstr y6.1))) else ((subI y5.1 0 ((if (y6.1.length : Int) < (y5.1.length : Int) then (y6.1.length : Int) else (y5.1.length : Int)))).bind fun y14 => (subI y6.1 0 ((if (y6.1.length : Int) < (y5.1.length : Int) then (y6.1.length : Int) else (y5.1.length : Int)))).bind fun y15 => some (!strEq (bstr y14) (bstr y15))))))
theorem T7 (C : Nat -> List A -> Option A) (n : Nat) (h10 : Orc10 C) (h11 : Orc11 C) (h12 : Orc12 C) (h21 : Orc21 C) (a0 : S_Value) (a1 : S_Value) : J (fun (o : R) y => ∃ v, o.1 = .ret v /\ snapE o.2 v = (bA y)) (evCall1 (cx C) (ec C n 8) (ey C n 8) (n+8) 7 [(A.agg [(iA a0.Kind), (iA a0.N), (A.v (Value.string a0.S)), (A.imm (List.map c_S_Value a0.L) false)]), (A.agg [(iA a1.Kind), (iA a1.N), (A.v (Value.string a1.S)), (A.imm (List.map c_S_Value a1.L) false)])] [] 0) some (F7 n a0 a1) some := by
 refine .lp (e7 ..) ?_
 unfold F7
 refine .s ((A.ptr 0 0), [Blk.box [(iA a0.Kind), (iA a0.N), (A.v (Value.string a0.S)), (A.imm (List.map c_S_Value a0.L) false)]]) (.s ((A.ptr 1 0), [Blk.box [(iA a0.Kind), (iA a0.N), (A.v (Value.string a0.S)), (A.imm (List.map c_S_Value a0.L) false)], Blk.box [(iA a1.Kind), (iA a1.N), (A.v (Value.string a1.S)), (A.imm (List.map c_S_Value a1.L) false)]]) ?_)
 refine .bd (g := fun (y : Bool) => (bA y)) (h10 ()) fun y1 => ?_
 refine .s (bA (!y1)) ?_
 refine .biHN (fun hk2 => ?_) (fun hk2 => ?_)
 ·exact .lf rfl rfl ⟨_, rfl, rfl⟩
 refine .s (A.agg [(iA a0.Kind), (iA a0.N), (A.v (Value.string a0.S)), (A.imm (List.map c_S_Value a0.L) false)]) (.s (A.agg [(iA a1.Kind), (iA a1.N), (A.v (Value.string a1.S)), (A.imm (List.map c_S_Value a1.L) false)]) (.s (A.imm [[(iA a0.Kind), (iA a0.N), (A.v (Value.string a0.S)), (A.imm (List.map c_S_Value a0.L) false)], [(iA a1.Kind), (iA a1.N), (A.v (Value.string a1.S)), (A.imm (List.map c_S_Value a1.L) false)]] true) ?_))
 refine .bd (g := fun (y : Bool) => (bA y)) (by show C 11 [snap _ (A.imm [[(iA a0.Kind), (iA a0.N), (A.v (Value.string a0.S)), (A.imm (List.map c_S_Value a0.L) false)], [(iA a1.Kind), (iA a1.N), (A.v (Value.string a1.S)), (A.imm (List.map c_S_Value a1.L) false)]] true)] = _; simp only [sn0, snM]; have q := h11 ([a0, a1]); simp only [List.map_cons, List.map_nil, cq_S_Value] at q; exact q) fun y3 => ?_
 refine .s (bA (!y3)) ?_
 refine .biHN (fun hk4 => ?_) (fun hk4 => ?_)
 ·exact .lf rfl rfl ⟨_, rfl, rfl⟩
 refine .s (A.agg [(iA a0.Kind), (iA a0.N), (A.v (Value.string a0.S)), (A.imm (List.map c_S_Value a0.L) false)]) ?_
 refine .bd (g := fun (y : ((List UInt8) × Int)) => (A.tup [(A.imm (List.map c8 y.1) false), (iA y.2)])) (by show C 12 [snap _ (A.agg [(iA a0.Kind), (iA a0.N), (A.v (Value.string a0.S)), (A.imm (List.map c_S_Value a0.L) false)])] = _; simp only [sn0, snM]; exact h12 a0) fun y5 => ?_
 refine .s (A.imm (List.map c8 y5.1) false) (.s (iA y5.2) (.s (A.agg [(iA a1.Kind), (iA a1.N), (A.v (Value.string a1.S)), (A.imm (List.map c_S_Value a1.L) false)]) ?_))
 refine .bd (g := fun (y : ((List UInt8) × Int)) => (A.tup [(A.imm (List.map c8 y.1) false), (iA y.2)])) (by show C 12 [snap _ (A.agg [(iA a1.Kind), (iA a1.N), (A.v (Value.string a1.S)), (A.imm (List.map c_S_Value a1.L) false)])] = _; simp only [sn0, snM]; exact h12 a1) fun y6 => ?_
 refine .s (A.imm (List.map c8 y6.1) false) (.s (iA y6.2) ?_)
 refine .st (v := (bA (y5.2 != 0))) (aBin_neq ..) ?_
 refine .bg (fun t (y : Bool) => ∃ j9 j10 : A, t = [(bA y), j9, j10]) ?_ ?_
 ·refine .biH (fun hk7 => ?_) (fun hk7 => ?_)
  ·exact .lg ⟨_, _, rfl⟩
  refine .st (v := (bA (y6.2 != 0))) (aBin_neq ..) ?_
  exact .lg ⟨_, _, rfl⟩
 rintro _ y8 ⟨j9, j10, rfl⟩
 iterate 3 refine .uc ?_
 refine .biHN (fun hk11 => ?_) (fun hk11 => ?_)
 ·exact .lf rfl rfl ⟨_, rfl, rfl⟩
 refine .s (A.agg [(iA a0.Kind), (iA a0.N), (A.v (Value.string a0.S)), (A.imm (List.map c_S_Value a0.L) false)]) (.s (A.agg [(iA a1.Kind), (iA a1.N), (A.v (Value.string a1.S)), (A.imm (List.map c_S_Value a1.L) false)]) ?_)
 refine .bd (g := fun (y : Bool) => (bA y)) (by show C 21 [snap _ (A.agg [(iA a0.Kind), (iA a0.N), (A.v (Value.string a0.S)), (A.imm (List.map c_S_Value a0.L) false)]), snap _ (A.agg [(iA a1.Kind), (iA a1.N), (A.v (Value.string a1.S)), (A.imm (List.map c_S_Value a1.L) false)])] = _; simp only [sn0, snM]; exact h21 a0 a1) fun y12 => ?_
 refine .biHN (fun hk13 => ?_) (fun hk13 => ?_)
 ·refine .st (v := (A.v (Value.string (bstr y5.1)))) (conv_bs (e := 5) (l := y5.1) (by kernel_rfl) (by kernel_rfl) (by kernel_rfl) (by kernel_rfl) (els_imm ..) rfl) ?_
  refine .st (v := (A.v (Value.string (bstr y6.1)))) (conv_bs (e := 5) (l := y6.1) (by kernel_rfl) (by kernel_rfl) (by kernel_rfl) (by kernel_rfl) (els_imm ..) rfl) ?_
  refine .st (v := (bA (strEq (bstr y5.1) (bstr y6.1)))) (aBin_eql_s ..) ?_
  exact .lf rfl rfl ⟨_, rfl, rfl⟩
 refine .st (v := (iA ((y5.1.length : Int)))) (len_imm (e := 5) (h1 := by kernel_rfl) ..) ?_
 refine .st (v := (iA ((y6.1.length : Int)))) (len_imm (e := 5) (h1 := by kernel_rfl) ..) ?_
 refine .s (iA ((if (y6.1.length : Int) < (y5.1.length : Int) then (y6.1.length : Int) else (y5.1.length : Int)))) ?_
 refine .bd (g := fun (y : List UInt8) => (A.imm (List.map c8 y) false)) (cut_imm (e := 5) (es := 1) (f := c8) (l := y5.1) (a := 0) (b := (if (y6.1.length : Int) < (y5.1.length : Int) then (y6.1.length : Int) else (y5.1.length : Int))) (by kernel_rfl) (by kernel_rfl) (fun _ => rfl) (.inl ⟨rfl, rfl⟩) (.inr ⟨_, rfl⟩)) fun y14 => ?_
 refine .st (v := (A.v (Value.string (bstr y14)))) (conv_bs (e := 5) (l := y14) (by kernel_rfl) (by kernel_rfl) (by kernel_rfl) (by kernel_rfl) (els_imm ..) rfl) ?_
 refine .bd (g := fun (y : List UInt8) => (A.imm (List.map c8 y) false)) (cut_imm (e := 5) (es := 1) (f := c8) (l := y6.1) (a := 0) (b := (if (y6.1.length : Int) < (y5.1.length : Int) then (y6.1.length : Int) else (y5.1.length : Int))) (by kernel_rfl) (by kernel_rfl) (fun _ => rfl) (.inl ⟨rfl, rfl⟩) (.inr ⟨_, rfl⟩)) fun y15 => ?_
 refine .st (v := (A.v (Value.string (bstr y15)))) (conv_bs (e := 5) (l := y15) (by kernel_rfl) (by kernel_rfl) (by kernel_rfl) (by kernel_rfl) (els_imm ..) rfl) ?_
 refine .st (v := (bA (!strEq (bstr y14) (bstr y15)))) (aBin_neq_s ..) ?_
 exact .lf rfl rfl ⟨_, rfl, rfl⟩
def G7 (a0 : S_Value) (a1 : S_Value) : Option Bool := F7 fuel0 a0 a1
end Go.Proofs.Ytmjaehondldaaaa
