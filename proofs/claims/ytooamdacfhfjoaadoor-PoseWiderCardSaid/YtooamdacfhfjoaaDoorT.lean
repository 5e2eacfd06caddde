/-
  The program's functions as plain functions: by a tool; each follows the interpreter.
-/
import Derived.Test.YtooamdacfhfjoaaDoorT3
import Derived.KernelRfl
import Derived.Lib.Strings
import Derived.Lib.Bytealg
namespace Go.Proofs.YtooamdacfhfjoaaDoor
set_option linter.unusedVariables false
set_option linter.unusedSimpArgs false
set_option maxHeartbeats 4000000
set_option maxRecDepth 100000
def hk10_1 (a0 : S_State) (a2 : Int) (a3 : Int) : Blk := Blk.box [(iA (wr .i64 (a0.X + (wr .i64 (a2))))), (iA (wr .i64 (a0.Y + (wr .i64 (a3))))), (iA a0.Face), (iA a0.Limbs.1.Dir), (iA a0.Limbs.1.Level), (iA a0.Limbs.2.1.Dir), (iA a0.Limbs.2.1.Level), (iA a0.Limbs.2.2.1.Dir), (iA a0.Limbs.2.2.1.Level), (iA a0.Limbs.2.2.2.1.Dir), (iA a0.Limbs.2.2.2.1.Level), (iA a0.Limbs.2.2.2.2.Dir), (iA a0.Limbs.2.2.2.2.Level)]
def hk10_2 (a1 : S_Body) : Blk := Blk.box [(A.v (Value.string a1.Name)), (iA a1.Weight), (iA a1.Lift), (iA (wr .i64 (a1.Girth + 1))), (iA a1.Step), (iA a1.Jump), (iA a1.Reach.1), (iA a1.Reach.2.1), (iA a1.Reach.2.2), (iA a1.Speed.1), (iA a1.Speed.2.1), (iA a1.Speed.2.2), (iA a1.Top.1), (iA a1.Top.2.1), (iA a1.Top.2.2), (iA a1.Effort), (iA a1.Recover)]
def hk10_3 (a1 : S_Body) : Blk := Blk.box [(A.v (Value.string a1.Name)), (iA a1.Weight), (iA a1.Lift), (iA a1.Girth), (iA a1.Step), (iA a1.Jump), (iA (wr .i64 (a1.Reach.1 + 1))), (iA a1.Reach.2.1), (iA a1.Reach.2.2), (iA a1.Speed.1), (iA a1.Speed.2.1), (iA a1.Speed.2.2), (iA a1.Top.1), (iA a1.Top.2.1), (iA a1.Top.2.2), (iA a1.Effort), (iA a1.Recover)]
def hk10_4 (a1 : S_Body) : Blk := Blk.box [(A.v (Value.string a1.Name)), (iA a1.Weight), (iA a1.Lift), (iA a1.Girth), (iA a1.Step), (iA a1.Jump), (iA a1.Reach.1), (iA (wr .i64 (a1.Reach.2.1 + 1))), (iA a1.Reach.2.2), (iA a1.Speed.1), (iA a1.Speed.2.1), (iA a1.Speed.2.2), (iA a1.Top.1), (iA a1.Top.2.1), (iA a1.Top.2.2), (iA a1.Effort), (iA a1.Recover)]
def hk10_5 (a1 : S_Body) : Blk := Blk.box [(A.v (Value.string a1.Name)), (iA a1.Weight), (iA a1.Lift), (iA a1.Girth), (iA a1.Step), (iA a1.Jump), (iA a1.Reach.1), (iA a1.Reach.2.1), (iA (wr .i64 (a1.Reach.2.2 + 1))), (iA a1.Speed.1), (iA a1.Speed.2.1), (iA a1.Speed.2.2), (iA a1.Top.1), (iA a1.Top.2.1), (iA a1.Top.2.2), (iA a1.Effort), (iA a1.Recover)]
def F10 (n : Nat) (a0 : S_State) (a1 : S_Body) (a2 : Int) (a3 : Int) (a4 : Int) : Option Bool :=
  Option.bind (G11 ) fun y1 => bif (!y1) then (some false) else (Option.bind (G20 a0 a1) fun y3 => bif (y3.2 != 0) then (some true) else (bif decide ((Int.tmod a4 4) = 0) then (Option.bind (G16 ((S_State.mk (wr .i64 (a0.X + (wr .i64 (a2)))) (wr .i64 (a0.Y + (wr .i64 (a3)))) a0.Face a0.Limbs))) fun y6 => bif (y6 == 0) then (Option.bind (G20 ((S_State.mk (wr .i64 (a0.X + (wr .i64 (a2)))) (wr .i64 (a0.Y + (wr .i64 (a3)))) a0.Face a0.Limbs)) a1) fun y8 => Option.bind (G26 y3.1 (wr .i64 (29 * (wr .i64 (a2)))) (wr .i64 (29 * (wr .i64 (a3))))) fun y9 => Option.bind (bif (y8.2 != 0) then (some true) else (some (y9.2 != 0))) fun y11 => Option.bind (bif y11 then (some true) else (some (!(((y8.1.X.Lo == y9.1.X.Lo) && (y8.1.X.Hi == y9.1.X.Hi)) && ((y8.1.Y.Lo == y9.1.Y.Lo) && (y8.1.Y.Hi == y9.1.Y.Hi)))))) fun y15 => bif y15 then (some false) else (Option.bind (G23 ((S_Body.mk a1.Name a1.Weight a1.Lift (wr .i64 (a1.Girth + 1)) a1.Step a1.Jump a1.Reach a1.Speed a1.Top a1.Effort a1.Recover))) fun y20 => bif (y20 != 0) then (some true) else (Option.bind (G20 a0 ((S_Body.mk a1.Name a1.Weight a1.Lift (wr .i64 (a1.Girth + 1)) a1.Step a1.Jump a1.Reach a1.Speed a1.Top a1.Effort a1.Recover))) fun y22 => Option.bind (G27 y3.1 y22.1) fun y23 => Option.bind (bif (y22.2 == 0) then (some (y23.2 == 0)) else (some false)) fun y25 => Option.bind (bif y25 then (some y23.1) else (some false)) fun y29 => some y29))) else (Option.bind (G23 ((S_Body.mk a1.Name a1.Weight a1.Lift (wr .i64 (a1.Girth + 1)) a1.Step a1.Jump a1.Reach a1.Speed a1.Top a1.Effort a1.Recover))) fun y31 => bif (y31 != 0) then (some true) else (Option.bind (G20 a0 ((S_Body.mk a1.Name a1.Weight a1.Lift (wr .i64 (a1.Girth + 1)) a1.Step a1.Jump a1.Reach a1.Speed a1.Top a1.Effort a1.Recover))) fun y33 => Option.bind (G27 y3.1 y33.1) fun y34 => Option.bind (bif (y33.2 == 0) then (some (y34.2 == 0)) else (some false)) fun y36 => Option.bind (bif y36 then (some y34.1) else (some false)) fun y40 => some y40))) else bif decide ((Int.tmod a4 4) = 1) then (Option.bind (G16 ((S_State.mk (wr .i64 (a0.X + (wr .i64 (a2)))) (wr .i64 (a0.Y + (wr .i64 (a3)))) a0.Face a0.Limbs))) fun y43 => bif (y43 == 0) then (Option.bind (G20 ((S_State.mk (wr .i64 (a0.X + (wr .i64 (a2)))) (wr .i64 (a0.Y + (wr .i64 (a3)))) a0.Face a0.Limbs)) a1) fun y45 => Option.bind (G26 y3.1 (wr .i64 (29 * (wr .i64 (a2)))) (wr .i64 (29 * (wr .i64 (a3))))) fun y46 => Option.bind (bif (y45.2 != 0) then (some true) else (some (y46.2 != 0))) fun y48 => Option.bind (bif y48 then (some true) else (some (!(((y45.1.X.Lo == y46.1.X.Lo) && (y45.1.X.Hi == y46.1.X.Hi)) && ((y45.1.Y.Lo == y46.1.Y.Lo) && (y45.1.Y.Hi == y46.1.Y.Hi)))))) fun y52 => bif y52 then (some false) else (Option.bind (G23 ((S_Body.mk a1.Name a1.Weight a1.Lift a1.Girth a1.Step a1.Jump ((wr .i64 (a1.Reach.1 + 1), a1.Reach.2.1, a1.Reach.2.2)) a1.Speed a1.Top a1.Effort a1.Recover))) fun y57 => bif (y57 != 0) then (some true) else (Option.bind (G20 a0 ((S_Body.mk a1.Name a1.Weight a1.Lift a1.Girth a1.Step a1.Jump ((wr .i64 (a1.Reach.1 + 1), a1.Reach.2.1, a1.Reach.2.2)) a1.Speed a1.Top a1.Effort a1.Recover))) fun y59 => Option.bind (G27 y3.1 y59.1) fun y60 => Option.bind (bif (y59.2 == 0) then (some (y60.2 == 0)) else (some false)) fun y62 => Option.bind (bif y62 then (some y60.1) else (some false)) fun y66 => some y66))) else (Option.bind (G23 ((S_Body.mk a1.Name a1.Weight a1.Lift a1.Girth a1.Step a1.Jump ((wr .i64 (a1.Reach.1 + 1), a1.Reach.2.1, a1.Reach.2.2)) a1.Speed a1.Top a1.Effort a1.Recover))) fun y68 => bif (y68 != 0) then (some true) else (Option.bind (G20 a0 ((S_Body.mk a1.Name a1.Weight a1.Lift a1.Girth a1.Step a1.Jump ((wr .i64 (a1.Reach.1 + 1), a1.Reach.2.1, a1.Reach.2.2)) a1.Speed a1.Top a1.Effort a1.Recover))) fun y70 => Option.bind (G27 y3.1 y70.1) fun y71 => Option.bind (bif (y70.2 == 0) then (some (y71.2 == 0)) else (some false)) fun y73 => Option.bind (bif y73 then (some y71.1) else (some false)) fun y77 => some y77))) else bif decide ((Int.tmod a4 4) = 2) then (Option.bind (G16 ((S_State.mk (wr .i64 (a0.X + (wr .i64 (a2)))) (wr .i64 (a0.Y + (wr .i64 (a3)))) a0.Face a0.Limbs))) fun y80 => bif (y80 == 0) then (Option.bind (G20 ((S_State.mk (wr .i64 (a0.X + (wr .i64 (a2)))) (wr .i64 (a0.Y + (wr .i64 (a3)))) a0.Face a0.Limbs)) a1) fun y82 => Option.bind (G26 y3.1 (wr .i64 (29 * (wr .i64 (a2)))) (wr .i64 (29 * (wr .i64 (a3))))) fun y83 => Option.bind (bif (y82.2 != 0) then (some true) else (some (y83.2 != 0))) fun y85 => Option.bind (bif y85 then (some true) else (some (!(((y82.1.X.Lo == y83.1.X.Lo) && (y82.1.X.Hi == y83.1.X.Hi)) && ((y82.1.Y.Lo == y83.1.Y.Lo) && (y82.1.Y.Hi == y83.1.Y.Hi)))))) fun y89 => bif y89 then (some false) else (Option.bind (G23 ((S_Body.mk a1.Name a1.Weight a1.Lift a1.Girth a1.Step a1.Jump ((a1.Reach.1, wr .i64 (a1.Reach.2.1 + 1), a1.Reach.2.2)) a1.Speed a1.Top a1.Effort a1.Recover))) fun y94 => bif (y94 != 0) then (some true) else (Option.bind (G20 a0 ((S_Body.mk a1.Name a1.Weight a1.Lift a1.Girth a1.Step a1.Jump ((a1.Reach.1, wr .i64 (a1.Reach.2.1 + 1), a1.Reach.2.2)) a1.Speed a1.Top a1.Effort a1.Recover))) fun y96 => Option.bind (G27 y3.1 y96.1) fun y97 => Option.bind (bif (y96.2 == 0) then (some (y97.2 == 0)) else (some false)) fun y99 => Option.bind (bif y99 then (some y97.1) else (some false)) fun y103 => some y103))) else (Option.bind (G23 ((S_Body.mk a1.Name a1.Weight a1.Lift a1.Girth a1.Step a1.Jump ((a1.Reach.1, wr .i64 (a1.Reach.2.1 + 1), a1.Reach.2.2)) a1.Speed a1.Top a1.Effort a1.Recover))) fun y105 => bif (y105 != 0) then (some true) else (Option.bind (G20 a0 ((S_Body.mk a1.Name a1.Weight a1.Lift a1.Girth a1.Step a1.Jump ((a1.Reach.1, wr .i64 (a1.Reach.2.1 + 1), a1.Reach.2.2)) a1.Speed a1.Top a1.Effort a1.Recover))) fun y107 => Option.bind (G27 y3.1 y107.1) fun y108 => Option.bind (bif (y107.2 == 0) then (some (y108.2 == 0)) else (some false)) fun y110 => Option.bind (bif y110 then (some y108.1) else (some false)) fun y114 => some y114))) else bif decide ((Int.tmod a4 4) = 3) then (Option.bind (G16 ((S_State.mk (wr .i64 (a0.X + (wr .i64 (a2)))) (wr .i64 (a0.Y + (wr .i64 (a3)))) a0.Face a0.Limbs))) fun y117 => bif (y117 == 0) then (Option.bind (G20 ((S_State.mk (wr .i64 (a0.X + (wr .i64 (a2)))) (wr .i64 (a0.Y + (wr .i64 (a3)))) a0.Face a0.Limbs)) a1) fun y119 => Option.bind (G26 y3.1 (wr .i64 (29 * (wr .i64 (a2)))) (wr .i64 (29 * (wr .i64 (a3))))) fun y120 => Option.bind (bif (y119.2 != 0) then (some true) else (some (y120.2 != 0))) fun y122 => Option.bind (bif y122 then (some true) else (some (!(((y119.1.X.Lo == y120.1.X.Lo) && (y119.1.X.Hi == y120.1.X.Hi)) && ((y119.1.Y.Lo == y120.1.Y.Lo) && (y119.1.Y.Hi == y120.1.Y.Hi)))))) fun y126 => bif y126 then (some false) else (Option.bind (G23 ((S_Body.mk a1.Name a1.Weight a1.Lift a1.Girth a1.Step a1.Jump ((a1.Reach.1, a1.Reach.2.1, wr .i64 (a1.Reach.2.2 + 1))) a1.Speed a1.Top a1.Effort a1.Recover))) fun y131 => bif (y131 != 0) then (some true) else (Option.bind (G20 a0 ((S_Body.mk a1.Name a1.Weight a1.Lift a1.Girth a1.Step a1.Jump ((a1.Reach.1, a1.Reach.2.1, wr .i64 (a1.Reach.2.2 + 1))) a1.Speed a1.Top a1.Effort a1.Recover))) fun y133 => Option.bind (G27 y3.1 y133.1) fun y134 => Option.bind (bif (y133.2 == 0) then (some (y134.2 == 0)) else (some false)) fun y136 => Option.bind (bif y136 then (some y134.1) else (some false)) fun y140 => some y140))) else (Option.bind (G23 ((S_Body.mk a1.Name a1.Weight a1.Lift a1.Girth a1.Step a1.Jump ((a1.Reach.1, a1.Reach.2.1, wr .i64 (a1.Reach.2.2 + 1))) a1.Speed a1.Top a1.Effort a1.Recover))) fun y142 => bif (y142 != 0) then (some true) else (Option.bind (G20 a0 ((S_Body.mk a1.Name a1.Weight a1.Lift a1.Girth a1.Step a1.Jump ((a1.Reach.1, a1.Reach.2.1, wr .i64 (a1.Reach.2.2 + 1))) a1.Speed a1.Top a1.Effort a1.Recover))) fun y144 => Option.bind (G27 y3.1 y144.1) fun y145 => Option.bind (bif (y144.2 == 0) then (some (y145.2 == 0)) else (some false)) fun y147 => Option.bind (bif y147 then (some y145.1) else (some false)) fun y151 => some y151))) else none))
theorem T10 (C : Nat → List A → Option A) (n : Nat) (h11 : Orc11 C) (h16 : Orc16 C) (h20 : Orc20 C) (h23 : Orc23 C) (h26 : Orc26 C) (h27 : Orc27 C) (a0 : S_State) (a1 : S_Body) (a2 : Int) (a3 : Int) (a4 : Int) : J (fun (o : R) y => ∃ v, o.1 = .ret v ∧ snapE o.2 v = (bA y)) (evCall1 (cx C) (evCall (cx C) (n+8)) (evCallY (cx C) (n+8)) (n+8) 10 [(A.agg (c_S_State a0)), (A.agg (c_S_Body a1)), (A.v (Value.int .i16 a2)), (A.v (Value.int .i16 a3)), (uA a4)] [] 0) some (F10 n a0 a1 a2 a3 a4) some := by
  refine .lp (e10 ..) ?_
  unfold F10
  refine .s ((A.ptr 0 0), [Blk.box (c_S_State a0)]) (.s ((A.ptr 1 0), [Blk.box (c_S_State a0), Blk.box (c_S_Body a1)]) ?_)
  refine .bd (g := fun (y : Bool) => (bA y)) (h11 ()) fun y1 => ?_
  refine .s (bA (!y1)) ?_
  refine .biHN (fun hk2 => ?_) (fun hk2 => ?_)
  · exact .lf rfl rfl ⟨_, rfl, rfl⟩
  refine .s (A.agg (c_S_State a0)) (.s (A.agg (c_S_Body a1)) ?_)
  refine .bd (g := fun (y : (S_Box × Int)) => (A.tup [(A.agg [(iA y.1.X.Lo), (iA y.1.X.Hi), (iA y.1.Y.Lo), (iA y.1.Y.Hi)]), (iA y.2)])) (h20 a0 a1) fun y3 => ?_
  refine .s (A.agg (c_S_Box y3.1)) (.s (iA y3.2) (.s ((A.ptr 2 0), [Blk.box (c_S_State a0), Blk.box (c_S_Body a1), Blk.box [(iA 0), (iA 0), (iA 0), (iA 0)]]) (.s [Blk.box (c_S_State a0), Blk.box (c_S_Body a1), Blk.box (c_S_Box y3.1)] ?_)))
  refine .st (v := (bA (y3.2 != 0))) (aBin_neq ..) ?_
  refine .biHN (fun hk4 => ?_) (fun hk4 => ?_)
  · exact .lf rfl rfl ⟨_, rfl, rfl⟩
  refine .s ((A.ptr 3 0), [Blk.box (c_S_State a0), Blk.box (c_S_Body a1), Blk.box (c_S_Box y3.1), Blk.box [(iA 0), (iA 0), (iA 0), (iA 0), (iA 0), (iA 0), (iA 0), (iA 0), (iA 0), (iA 0), (iA 0), (iA 0), (iA 0)]]) (.s ((A.ptr 4 0), [Blk.box (c_S_State a0), Blk.box (c_S_Body a1), Blk.box (c_S_Box y3.1), Blk.box [(iA 0), (iA 0), (iA 0), (iA 0), (iA 0), (iA 0), (iA 0), (iA 0), (iA 0), (iA 0), (iA 0), (iA 0), (iA 0)], Blk.box [(A.v (Value.string ByteArray.empty)), (iA 0), (iA 0), (iA 0), (iA 0), (iA 0), (iA 0), (iA 0), (iA 0), (iA 0), (iA 0), (iA 0), (iA 0), (iA 0), (iA 0), (iA 0), (iA 0)]]) (.s (A.agg (c_S_State a0)) (.s (A.agg (c_S_Body a1)) ?_)))
  refine .cT (by kernel_rfl) ?_
  refine .s [Blk.box (c_S_State a0), Blk.box (c_S_Body a1), Blk.box (c_S_Box y3.1), Blk.box (c_S_State a0), Blk.box [(A.v (Value.string ByteArray.empty)), (iA 0), (iA 0), (iA 0), (iA 0), (iA 0), (iA 0), (iA 0), (iA 0), (iA 0), (iA 0), (iA 0), (iA 0), (iA 0), (iA 0), (iA 0), (iA 0)]] (.s [Blk.box (c_S_State a0), Blk.box (c_S_Body a1), Blk.box (c_S_Box y3.1), Blk.box (c_S_State a0), Blk.box (c_S_Body a1)] (.s (A.ptr 0 0) (.s (iA a0.X) ?_)))
  refine .st (v := (iA (wr .i64 (a2)))) (aConvert_int (hs := by kernel_rfl) (hd := by kernel_rfl) ..) ?_
  refine .st (v := (iA (wr .i64 (a0.X + (wr .i64 (a2)))))) (aBin_add ..) ?_
  refine .s (A.ptr 0 1) (.s (iA a0.Y) ?_)
  refine .st (v := (iA (wr .i64 (a3)))) (aConvert_int (hs := by kernel_rfl) (hd := by kernel_rfl) ..) ?_
  refine .st (v := (iA (wr .i64 (a0.Y + (wr .i64 (a3)))))) (aBin_add ..) ?_
  refine .s (A.ptr 3 0) ?_
  refine .cT (by kernel_rfl) ?_
  refine .s [Blk.box (c_S_State a0), Blk.box (c_S_Body a1), Blk.box (c_S_Box y3.1), Blk.box [(iA (wr .i64 (a0.X + (wr .i64 (a2))))), (iA a0.Y), (iA a0.Face), (iA a0.Limbs.1.Dir), (iA a0.Limbs.1.Level), (iA a0.Limbs.2.1.Dir), (iA a0.Limbs.2.1.Level), (iA a0.Limbs.2.2.1.Dir), (iA a0.Limbs.2.2.1.Level), (iA a0.Limbs.2.2.2.1.Dir), (iA a0.Limbs.2.2.2.1.Level), (iA a0.Limbs.2.2.2.2.Dir), (iA a0.Limbs.2.2.2.2.Level)], Blk.box (c_S_Body a1)] (.s (A.ptr 3 1) (.s [Blk.box (c_S_State a0), Blk.box (c_S_Body a1), Blk.box (c_S_Box y3.1), (hk10_1 a0 a2 a3), Blk.box (c_S_Body a1)] (.s (A.ptr 4 3) (.s (A.ptr 4 6) (.s (A.ptr 4 6) (.s (A.ptr 4 6) (.s (A.ptr 4 7) (.s (A.ptr 4 6) (.s (A.ptr 4 8) (.s (A.imm [[(A.ptr 4 3)], [(A.ptr 4 6)], [(A.ptr 4 7)], [(A.ptr 4 8)]] true) ?_))))))))))
  refine .st (v := (uA (Int.tmod a4 4))) (aBin_rem (hb := by decide) ..) ?_
  refine .sp (fun hb5 => ?_) (fun _ => ?_)
  · refine .st (v := (A.ip [(A.ptr 4 3)])) (by rw [of_decide_eq_true hb5]; kernel_rfl) ?_
    refine .s (A.ptr 4 3) (.s (A.ptr 4 3) (.s (iA a1.Girth) ?_))
    refine .st (v := (iA (wr .i64 (a1.Girth + 1)))) (aBin_add ..) ?_
    refine .s (A.ptr 4 3) (.s [Blk.box (c_S_State a0), Blk.box (c_S_Body a1), Blk.box (c_S_Box y3.1), (hk10_1 a0 a2 a3), (hk10_2 a1)] (.s (A.agg [(iA (wr .i64 (a0.X + (wr .i64 (a2))))), (iA (wr .i64 (a0.Y + (wr .i64 (a3))))), (iA a0.Face), (iA a0.Limbs.1.Dir), (iA a0.Limbs.1.Level), (iA a0.Limbs.2.1.Dir), (iA a0.Limbs.2.1.Level), (iA a0.Limbs.2.2.1.Dir), (iA a0.Limbs.2.2.1.Level), (iA a0.Limbs.2.2.2.1.Dir), (iA a0.Limbs.2.2.2.1.Level), (iA a0.Limbs.2.2.2.2.Dir), (iA a0.Limbs.2.2.2.2.Level)]) ?_))
    refine .bd (g := fun (y : Int) => (iA y)) (h16 ((S_State.mk (wr .i64 (a0.X + (wr .i64 (a2)))) (wr .i64 (a0.Y + (wr .i64 (a3)))) a0.Face a0.Limbs))) fun y6 => ?_
    refine .st (v := (bA (y6 == 0))) (aBin_eql ..) ?_
    refine .biHN (fun hk7 => ?_) (fun hk7 => ?_)
    · refine .s (A.agg [(iA (wr .i64 (a0.X + (wr .i64 (a2))))), (iA (wr .i64 (a0.Y + (wr .i64 (a3))))), (iA a0.Face), (iA a0.Limbs.1.Dir), (iA a0.Limbs.1.Level), (iA a0.Limbs.2.1.Dir), (iA a0.Limbs.2.1.Level), (iA a0.Limbs.2.2.1.Dir), (iA a0.Limbs.2.2.1.Level), (iA a0.Limbs.2.2.2.1.Dir), (iA a0.Limbs.2.2.2.1.Level), (iA a0.Limbs.2.2.2.2.Dir), (iA a0.Limbs.2.2.2.2.Level)]) (.s (A.agg (c_S_Body a1)) ?_)
      refine .bd (g := fun (y : (S_Box × Int)) => (A.tup [(A.agg [(iA y.1.X.Lo), (iA y.1.X.Hi), (iA y.1.Y.Lo), (iA y.1.Y.Hi)]), (iA y.2)])) (h20 ((S_State.mk (wr .i64 (a0.X + (wr .i64 (a2)))) (wr .i64 (a0.Y + (wr .i64 (a3)))) a0.Face a0.Limbs)) a1) fun y8 => ?_
      refine .s (A.agg (c_S_Box y8.1)) (.s (iA y8.2) (.s ((A.ptr 5 0), [Blk.box (c_S_State a0), Blk.box (c_S_Body a1), Blk.box (c_S_Box y3.1), (hk10_1 a0 a2 a3), (hk10_2 a1), Blk.box [(iA 0), (iA 0), (iA 0), (iA 0)]]) (.s [Blk.box (c_S_State a0), Blk.box (c_S_Body a1), Blk.box (c_S_Box y3.1), (hk10_1 a0 a2 a3), (hk10_2 a1), Blk.box (c_S_Box y8.1)] (.s (A.agg (c_S_Box y3.1)) ?_))))
      refine .st (v := (iA (wr .i64 (a2)))) (aConvert_int (hs := by kernel_rfl) (hd := by kernel_rfl) ..) ?_
      refine .st (v := (iA (wr .i64 (29 * (wr .i64 (a2)))))) (aBin_mul ..) ?_
      refine .st (v := (iA (wr .i64 (a3)))) (aConvert_int (hs := by kernel_rfl) (hd := by kernel_rfl) ..) ?_
      refine .st (v := (iA (wr .i64 (29 * (wr .i64 (a3)))))) (aBin_mul ..) ?_
      refine .bd (g := fun (y : (S_Box × Int)) => (A.tup [(A.agg [(iA y.1.X.Lo), (iA y.1.X.Hi), (iA y.1.Y.Lo), (iA y.1.Y.Hi)]), (iA y.2)])) (h26 y3.1 (wr .i64 (29 * (wr .i64 (a2)))) (wr .i64 (29 * (wr .i64 (a3))))) fun y9 => ?_
      refine .s (A.agg (c_S_Box y9.1)) (.s (iA y9.2) (.s ((A.ptr 6 0), [Blk.box (c_S_State a0), Blk.box (c_S_Body a1), Blk.box (c_S_Box y3.1), (hk10_1 a0 a2 a3), (hk10_2 a1), Blk.box (c_S_Box y8.1), Blk.box [(iA 0), (iA 0), (iA 0), (iA 0)]]) (.s [Blk.box (c_S_State a0), Blk.box (c_S_Body a1), Blk.box (c_S_Box y3.1), (hk10_1 a0 a2 a3), (hk10_2 a1), Blk.box (c_S_Box y8.1), Blk.box (c_S_Box y9.1)] ?_)))
      refine .st (v := (bA (y8.2 != 0))) (aBin_neq ..) ?_
      refine .bg (fun t (y : Bool) => ∃ j12 j13 : A, t = [(bA y), j12, j13]) ?_ ?_
      · refine .biH (fun hk10 => ?_) (fun hk10 => ?_)
        · exact .lg ⟨_, _, rfl⟩
        refine .st (v := (bA (y9.2 != 0))) (aBin_neq ..) ?_
        exact .lg ⟨_, _, rfl⟩
      rintro _ y11 ⟨j12, j13, rfl⟩
      iterate 3 refine .uc ?_
      refine .bg (fun t (y : Bool) => ∃ j16 j17 j18 : A, t = [(bA y), j16, j17, j18]) ?_ ?_
      · refine .biH (fun hk14 => ?_) (fun hk14 => ?_)
        · exact .lg ⟨_, _, _, rfl⟩
        refine .s (A.agg (c_S_Box y8.1)) (.s (A.agg (c_S_Box y9.1)) (.s (bA (!(((y8.1.X.Lo == y9.1.X.Lo) && (y8.1.X.Hi == y9.1.X.Hi)) && ((y8.1.Y.Lo == y9.1.Y.Lo) && (y8.1.Y.Hi == y9.1.Y.Hi))))) ?_))
        exact .lg ⟨_, _, _, rfl⟩
      rintro _ y15 ⟨j16, j17, j18, rfl⟩
      iterate 4 refine .uc ?_
      refine .biHN (fun hk19 => ?_) (fun hk19 => ?_)
      · exact .lf rfl rfl ⟨_, rfl, rfl⟩
      refine .s (A.agg [(A.v (Value.string a1.Name)), (iA a1.Weight), (iA a1.Lift), (iA (wr .i64 (a1.Girth + 1))), (iA a1.Step), (iA a1.Jump), (iA a1.Reach.1), (iA a1.Reach.2.1), (iA a1.Reach.2.2), (iA a1.Speed.1), (iA a1.Speed.2.1), (iA a1.Speed.2.2), (iA a1.Top.1), (iA a1.Top.2.1), (iA a1.Top.2.2), (iA a1.Effort), (iA a1.Recover)]) ?_
      refine .bd (g := fun (y : Int) => (iA y)) (h23 ((S_Body.mk a1.Name a1.Weight a1.Lift (wr .i64 (a1.Girth + 1)) a1.Step a1.Jump a1.Reach a1.Speed a1.Top a1.Effort a1.Recover))) fun y20 => ?_
      refine .st (v := (bA (y20 != 0))) (aBin_neq ..) ?_
      refine .biHN (fun hk21 => ?_) (fun hk21 => ?_)
      · exact .lf rfl rfl ⟨_, rfl, rfl⟩
      refine .s (A.agg (c_S_State a0)) (.s (A.agg [(A.v (Value.string a1.Name)), (iA a1.Weight), (iA a1.Lift), (iA (wr .i64 (a1.Girth + 1))), (iA a1.Step), (iA a1.Jump), (iA a1.Reach.1), (iA a1.Reach.2.1), (iA a1.Reach.2.2), (iA a1.Speed.1), (iA a1.Speed.2.1), (iA a1.Speed.2.2), (iA a1.Top.1), (iA a1.Top.2.1), (iA a1.Top.2.2), (iA a1.Effort), (iA a1.Recover)]) ?_)
      refine .bd (g := fun (y : (S_Box × Int)) => (A.tup [(A.agg [(iA y.1.X.Lo), (iA y.1.X.Hi), (iA y.1.Y.Lo), (iA y.1.Y.Hi)]), (iA y.2)])) (h20 a0 ((S_Body.mk a1.Name a1.Weight a1.Lift (wr .i64 (a1.Girth + 1)) a1.Step a1.Jump a1.Reach a1.Speed a1.Top a1.Effort a1.Recover))) fun y22 => ?_
      refine .s (A.agg (c_S_Box y22.1)) (.s (iA y22.2) (.s ((A.ptr 7 0), [Blk.box (c_S_State a0), Blk.box (c_S_Body a1), Blk.box (c_S_Box y3.1), (hk10_1 a0 a2 a3), (hk10_2 a1), Blk.box (c_S_Box y8.1), Blk.box (c_S_Box y9.1), Blk.box [(iA 0), (iA 0), (iA 0), (iA 0)]]) (.s [Blk.box (c_S_State a0), Blk.box (c_S_Body a1), Blk.box (c_S_Box y3.1), (hk10_1 a0 a2 a3), (hk10_2 a1), Blk.box (c_S_Box y8.1), Blk.box (c_S_Box y9.1), Blk.box (c_S_Box y22.1)] (.s (A.agg (c_S_Box y3.1)) (.s (A.agg (c_S_Box y22.1)) ?_)))))
      refine .bd (g := fun (y : (Bool × Int)) => (A.tup [(bA y.1), (iA y.2)])) (h27 y3.1 y22.1) fun y23 => ?_
      refine .s (bA y23.1) (.s (iA y23.2) ?_)
      refine .st (v := (bA (y22.2 == 0))) (aBin_eql ..) ?_
      refine .bg (fun t (y : Bool) => ∃ j26 j27 : A, t = [(bA y), j26, j27]) ?_ ?_
      · refine .biH (fun hk24 => ?_) (fun hk24 => ?_)
        · refine .st (v := (bA (y23.2 == 0))) (aBin_eql ..) ?_
          exact .lg ⟨_, _, rfl⟩
        exact .lg ⟨_, _, rfl⟩
      rintro _ y25 ⟨j26, j27, rfl⟩
      iterate 3 refine .uc ?_
      refine .bg (fun t (y : Bool) => ∃ j30 : A, t = [(bA y), j30]) ?_ ?_
      · refine .biH (fun hk28 => ?_) (fun hk28 => ?_)
        · exact .lg ⟨_, rfl⟩
        exact .lg ⟨_, rfl⟩
      rintro _ y29 ⟨j30, rfl⟩
      iterate 2 refine .uc ?_
      exact .lf rfl rfl ⟨_, rfl, rfl⟩
    refine .s (A.agg [(A.v (Value.string a1.Name)), (iA a1.Weight), (iA a1.Lift), (iA (wr .i64 (a1.Girth + 1))), (iA a1.Step), (iA a1.Jump), (iA a1.Reach.1), (iA a1.Reach.2.1), (iA a1.Reach.2.2), (iA a1.Speed.1), (iA a1.Speed.2.1), (iA a1.Speed.2.2), (iA a1.Top.1), (iA a1.Top.2.1), (iA a1.Top.2.2), (iA a1.Effort), (iA a1.Recover)]) ?_
    refine .bd (g := fun (y : Int) => (iA y)) (h23 ((S_Body.mk a1.Name a1.Weight a1.Lift (wr .i64 (a1.Girth + 1)) a1.Step a1.Jump a1.Reach a1.Speed a1.Top a1.Effort a1.Recover))) fun y31 => ?_
    refine .st (v := (bA (y31 != 0))) (aBin_neq ..) ?_
    refine .biHN (fun hk32 => ?_) (fun hk32 => ?_)
    · exact .lf rfl rfl ⟨_, rfl, rfl⟩
    refine .s (A.agg (c_S_State a0)) (.s (A.agg [(A.v (Value.string a1.Name)), (iA a1.Weight), (iA a1.Lift), (iA (wr .i64 (a1.Girth + 1))), (iA a1.Step), (iA a1.Jump), (iA a1.Reach.1), (iA a1.Reach.2.1), (iA a1.Reach.2.2), (iA a1.Speed.1), (iA a1.Speed.2.1), (iA a1.Speed.2.2), (iA a1.Top.1), (iA a1.Top.2.1), (iA a1.Top.2.2), (iA a1.Effort), (iA a1.Recover)]) ?_)
    refine .bd (g := fun (y : (S_Box × Int)) => (A.tup [(A.agg [(iA y.1.X.Lo), (iA y.1.X.Hi), (iA y.1.Y.Lo), (iA y.1.Y.Hi)]), (iA y.2)])) (h20 a0 ((S_Body.mk a1.Name a1.Weight a1.Lift (wr .i64 (a1.Girth + 1)) a1.Step a1.Jump a1.Reach a1.Speed a1.Top a1.Effort a1.Recover))) fun y33 => ?_
    refine .s (A.agg (c_S_Box y33.1)) (.s (iA y33.2) (.s ((A.ptr 5 0), [Blk.box (c_S_State a0), Blk.box (c_S_Body a1), Blk.box (c_S_Box y3.1), (hk10_1 a0 a2 a3), (hk10_2 a1), Blk.box [(iA 0), (iA 0), (iA 0), (iA 0)]]) (.s [Blk.box (c_S_State a0), Blk.box (c_S_Body a1), Blk.box (c_S_Box y3.1), (hk10_1 a0 a2 a3), (hk10_2 a1), Blk.box (c_S_Box y33.1)] (.s (A.agg (c_S_Box y3.1)) (.s (A.agg (c_S_Box y33.1)) ?_)))))
    refine .bd (g := fun (y : (Bool × Int)) => (A.tup [(bA y.1), (iA y.2)])) (h27 y3.1 y33.1) fun y34 => ?_
    refine .s (bA y34.1) (.s (iA y34.2) ?_)
    refine .st (v := (bA (y33.2 == 0))) (aBin_eql ..) ?_
    refine .bg (fun t (y : Bool) => ∃ j37 j38 : A, t = [(bA y), j37, j38]) ?_ ?_
    · refine .biH (fun hk35 => ?_) (fun hk35 => ?_)
      · refine .st (v := (bA (y34.2 == 0))) (aBin_eql ..) ?_
        exact .lg ⟨_, _, rfl⟩
      exact .lg ⟨_, _, rfl⟩
    rintro _ y36 ⟨j37, j38, rfl⟩
    iterate 3 refine .uc ?_
    refine .bg (fun t (y : Bool) => ∃ j41 : A, t = [(bA y), j41]) ?_ ?_
    · refine .biH (fun hk39 => ?_) (fun hk39 => ?_)
      · exact .lg ⟨_, rfl⟩
      exact .lg ⟨_, rfl⟩
    rintro _ y40 ⟨j41, rfl⟩
    iterate 2 refine .uc ?_
    exact .lf rfl rfl ⟨_, rfl, rfl⟩
  refine .sp (fun hb42 => ?_) (fun _ => ?_)
  · refine .st (v := (A.ip [(A.ptr 4 6)])) (by rw [of_decide_eq_true hb42]; kernel_rfl) ?_
    refine .s (A.ptr 4 6) (.s (A.ptr 4 6) (.s (iA a1.Reach.1) ?_))
    refine .st (v := (iA (wr .i64 (a1.Reach.1 + 1)))) (aBin_add ..) ?_
    refine .s (A.ptr 4 6) (.s [Blk.box (c_S_State a0), Blk.box (c_S_Body a1), Blk.box (c_S_Box y3.1), (hk10_1 a0 a2 a3), (hk10_3 a1)] (.s (A.agg [(iA (wr .i64 (a0.X + (wr .i64 (a2))))), (iA (wr .i64 (a0.Y + (wr .i64 (a3))))), (iA a0.Face), (iA a0.Limbs.1.Dir), (iA a0.Limbs.1.Level), (iA a0.Limbs.2.1.Dir), (iA a0.Limbs.2.1.Level), (iA a0.Limbs.2.2.1.Dir), (iA a0.Limbs.2.2.1.Level), (iA a0.Limbs.2.2.2.1.Dir), (iA a0.Limbs.2.2.2.1.Level), (iA a0.Limbs.2.2.2.2.Dir), (iA a0.Limbs.2.2.2.2.Level)]) ?_))
    refine .bd (g := fun (y : Int) => (iA y)) (h16 ((S_State.mk (wr .i64 (a0.X + (wr .i64 (a2)))) (wr .i64 (a0.Y + (wr .i64 (a3)))) a0.Face a0.Limbs))) fun y43 => ?_
    refine .st (v := (bA (y43 == 0))) (aBin_eql ..) ?_
    refine .biHN (fun hk44 => ?_) (fun hk44 => ?_)
    · refine .s (A.agg [(iA (wr .i64 (a0.X + (wr .i64 (a2))))), (iA (wr .i64 (a0.Y + (wr .i64 (a3))))), (iA a0.Face), (iA a0.Limbs.1.Dir), (iA a0.Limbs.1.Level), (iA a0.Limbs.2.1.Dir), (iA a0.Limbs.2.1.Level), (iA a0.Limbs.2.2.1.Dir), (iA a0.Limbs.2.2.1.Level), (iA a0.Limbs.2.2.2.1.Dir), (iA a0.Limbs.2.2.2.1.Level), (iA a0.Limbs.2.2.2.2.Dir), (iA a0.Limbs.2.2.2.2.Level)]) (.s (A.agg (c_S_Body a1)) ?_)
      refine .bd (g := fun (y : (S_Box × Int)) => (A.tup [(A.agg [(iA y.1.X.Lo), (iA y.1.X.Hi), (iA y.1.Y.Lo), (iA y.1.Y.Hi)]), (iA y.2)])) (h20 ((S_State.mk (wr .i64 (a0.X + (wr .i64 (a2)))) (wr .i64 (a0.Y + (wr .i64 (a3)))) a0.Face a0.Limbs)) a1) fun y45 => ?_
      refine .s (A.agg (c_S_Box y45.1)) (.s (iA y45.2) (.s ((A.ptr 5 0), [Blk.box (c_S_State a0), Blk.box (c_S_Body a1), Blk.box (c_S_Box y3.1), (hk10_1 a0 a2 a3), (hk10_3 a1), Blk.box [(iA 0), (iA 0), (iA 0), (iA 0)]]) (.s [Blk.box (c_S_State a0), Blk.box (c_S_Body a1), Blk.box (c_S_Box y3.1), (hk10_1 a0 a2 a3), (hk10_3 a1), Blk.box (c_S_Box y45.1)] (.s (A.agg (c_S_Box y3.1)) ?_))))
      refine .st (v := (iA (wr .i64 (a2)))) (aConvert_int (hs := by kernel_rfl) (hd := by kernel_rfl) ..) ?_
      refine .st (v := (iA (wr .i64 (29 * (wr .i64 (a2)))))) (aBin_mul ..) ?_
      refine .st (v := (iA (wr .i64 (a3)))) (aConvert_int (hs := by kernel_rfl) (hd := by kernel_rfl) ..) ?_
      refine .st (v := (iA (wr .i64 (29 * (wr .i64 (a3)))))) (aBin_mul ..) ?_
      refine .bd (g := fun (y : (S_Box × Int)) => (A.tup [(A.agg [(iA y.1.X.Lo), (iA y.1.X.Hi), (iA y.1.Y.Lo), (iA y.1.Y.Hi)]), (iA y.2)])) (h26 y3.1 (wr .i64 (29 * (wr .i64 (a2)))) (wr .i64 (29 * (wr .i64 (a3))))) fun y46 => ?_
      refine .s (A.agg (c_S_Box y46.1)) (.s (iA y46.2) (.s ((A.ptr 6 0), [Blk.box (c_S_State a0), Blk.box (c_S_Body a1), Blk.box (c_S_Box y3.1), (hk10_1 a0 a2 a3), (hk10_3 a1), Blk.box (c_S_Box y45.1), Blk.box [(iA 0), (iA 0), (iA 0), (iA 0)]]) (.s [Blk.box (c_S_State a0), Blk.box (c_S_Body a1), Blk.box (c_S_Box y3.1), (hk10_1 a0 a2 a3), (hk10_3 a1), Blk.box (c_S_Box y45.1), Blk.box (c_S_Box y46.1)] ?_)))
      refine .st (v := (bA (y45.2 != 0))) (aBin_neq ..) ?_
      refine .bg (fun t (y : Bool) => ∃ j49 j50 : A, t = [(bA y), j49, j50]) ?_ ?_
      · refine .biH (fun hk47 => ?_) (fun hk47 => ?_)
        · exact .lg ⟨_, _, rfl⟩
        refine .st (v := (bA (y46.2 != 0))) (aBin_neq ..) ?_
        exact .lg ⟨_, _, rfl⟩
      rintro _ y48 ⟨j49, j50, rfl⟩
      iterate 3 refine .uc ?_
      refine .bg (fun t (y : Bool) => ∃ j53 j54 j55 : A, t = [(bA y), j53, j54, j55]) ?_ ?_
      · refine .biH (fun hk51 => ?_) (fun hk51 => ?_)
        · exact .lg ⟨_, _, _, rfl⟩
        refine .s (A.agg (c_S_Box y45.1)) (.s (A.agg (c_S_Box y46.1)) (.s (bA (!(((y45.1.X.Lo == y46.1.X.Lo) && (y45.1.X.Hi == y46.1.X.Hi)) && ((y45.1.Y.Lo == y46.1.Y.Lo) && (y45.1.Y.Hi == y46.1.Y.Hi))))) ?_))
        exact .lg ⟨_, _, _, rfl⟩
      rintro _ y52 ⟨j53, j54, j55, rfl⟩
      iterate 4 refine .uc ?_
      refine .biHN (fun hk56 => ?_) (fun hk56 => ?_)
      · exact .lf rfl rfl ⟨_, rfl, rfl⟩
      refine .s (A.agg [(A.v (Value.string a1.Name)), (iA a1.Weight), (iA a1.Lift), (iA a1.Girth), (iA a1.Step), (iA a1.Jump), (iA (wr .i64 (a1.Reach.1 + 1))), (iA a1.Reach.2.1), (iA a1.Reach.2.2), (iA a1.Speed.1), (iA a1.Speed.2.1), (iA a1.Speed.2.2), (iA a1.Top.1), (iA a1.Top.2.1), (iA a1.Top.2.2), (iA a1.Effort), (iA a1.Recover)]) ?_
      refine .bd (g := fun (y : Int) => (iA y)) (h23 ((S_Body.mk a1.Name a1.Weight a1.Lift a1.Girth a1.Step a1.Jump ((wr .i64 (a1.Reach.1 + 1), a1.Reach.2.1, a1.Reach.2.2)) a1.Speed a1.Top a1.Effort a1.Recover))) fun y57 => ?_
      refine .st (v := (bA (y57 != 0))) (aBin_neq ..) ?_
      refine .biHN (fun hk58 => ?_) (fun hk58 => ?_)
      · exact .lf rfl rfl ⟨_, rfl, rfl⟩
      refine .s (A.agg (c_S_State a0)) (.s (A.agg [(A.v (Value.string a1.Name)), (iA a1.Weight), (iA a1.Lift), (iA a1.Girth), (iA a1.Step), (iA a1.Jump), (iA (wr .i64 (a1.Reach.1 + 1))), (iA a1.Reach.2.1), (iA a1.Reach.2.2), (iA a1.Speed.1), (iA a1.Speed.2.1), (iA a1.Speed.2.2), (iA a1.Top.1), (iA a1.Top.2.1), (iA a1.Top.2.2), (iA a1.Effort), (iA a1.Recover)]) ?_)
      refine .bd (g := fun (y : (S_Box × Int)) => (A.tup [(A.agg [(iA y.1.X.Lo), (iA y.1.X.Hi), (iA y.1.Y.Lo), (iA y.1.Y.Hi)]), (iA y.2)])) (h20 a0 ((S_Body.mk a1.Name a1.Weight a1.Lift a1.Girth a1.Step a1.Jump ((wr .i64 (a1.Reach.1 + 1), a1.Reach.2.1, a1.Reach.2.2)) a1.Speed a1.Top a1.Effort a1.Recover))) fun y59 => ?_
      refine .s (A.agg (c_S_Box y59.1)) (.s (iA y59.2) (.s ((A.ptr 7 0), [Blk.box (c_S_State a0), Blk.box (c_S_Body a1), Blk.box (c_S_Box y3.1), (hk10_1 a0 a2 a3), (hk10_3 a1), Blk.box (c_S_Box y45.1), Blk.box (c_S_Box y46.1), Blk.box [(iA 0), (iA 0), (iA 0), (iA 0)]]) (.s [Blk.box (c_S_State a0), Blk.box (c_S_Body a1), Blk.box (c_S_Box y3.1), (hk10_1 a0 a2 a3), (hk10_3 a1), Blk.box (c_S_Box y45.1), Blk.box (c_S_Box y46.1), Blk.box (c_S_Box y59.1)] (.s (A.agg (c_S_Box y3.1)) (.s (A.agg (c_S_Box y59.1)) ?_)))))
      refine .bd (g := fun (y : (Bool × Int)) => (A.tup [(bA y.1), (iA y.2)])) (h27 y3.1 y59.1) fun y60 => ?_
      refine .s (bA y60.1) (.s (iA y60.2) ?_)
      refine .st (v := (bA (y59.2 == 0))) (aBin_eql ..) ?_
      refine .bg (fun t (y : Bool) => ∃ j63 j64 : A, t = [(bA y), j63, j64]) ?_ ?_
      · refine .biH (fun hk61 => ?_) (fun hk61 => ?_)
        · refine .st (v := (bA (y60.2 == 0))) (aBin_eql ..) ?_
          exact .lg ⟨_, _, rfl⟩
        exact .lg ⟨_, _, rfl⟩
      rintro _ y62 ⟨j63, j64, rfl⟩
      iterate 3 refine .uc ?_
      refine .bg (fun t (y : Bool) => ∃ j67 : A, t = [(bA y), j67]) ?_ ?_
      · refine .biH (fun hk65 => ?_) (fun hk65 => ?_)
        · exact .lg ⟨_, rfl⟩
        exact .lg ⟨_, rfl⟩
      rintro _ y66 ⟨j67, rfl⟩
      iterate 2 refine .uc ?_
      exact .lf rfl rfl ⟨_, rfl, rfl⟩
    refine .s (A.agg [(A.v (Value.string a1.Name)), (iA a1.Weight), (iA a1.Lift), (iA a1.Girth), (iA a1.Step), (iA a1.Jump), (iA (wr .i64 (a1.Reach.1 + 1))), (iA a1.Reach.2.1), (iA a1.Reach.2.2), (iA a1.Speed.1), (iA a1.Speed.2.1), (iA a1.Speed.2.2), (iA a1.Top.1), (iA a1.Top.2.1), (iA a1.Top.2.2), (iA a1.Effort), (iA a1.Recover)]) ?_
    refine .bd (g := fun (y : Int) => (iA y)) (h23 ((S_Body.mk a1.Name a1.Weight a1.Lift a1.Girth a1.Step a1.Jump ((wr .i64 (a1.Reach.1 + 1), a1.Reach.2.1, a1.Reach.2.2)) a1.Speed a1.Top a1.Effort a1.Recover))) fun y68 => ?_
    refine .st (v := (bA (y68 != 0))) (aBin_neq ..) ?_
    refine .biHN (fun hk69 => ?_) (fun hk69 => ?_)
    · exact .lf rfl rfl ⟨_, rfl, rfl⟩
    refine .s (A.agg (c_S_State a0)) (.s (A.agg [(A.v (Value.string a1.Name)), (iA a1.Weight), (iA a1.Lift), (iA a1.Girth), (iA a1.Step), (iA a1.Jump), (iA (wr .i64 (a1.Reach.1 + 1))), (iA a1.Reach.2.1), (iA a1.Reach.2.2), (iA a1.Speed.1), (iA a1.Speed.2.1), (iA a1.Speed.2.2), (iA a1.Top.1), (iA a1.Top.2.1), (iA a1.Top.2.2), (iA a1.Effort), (iA a1.Recover)]) ?_)
    refine .bd (g := fun (y : (S_Box × Int)) => (A.tup [(A.agg [(iA y.1.X.Lo), (iA y.1.X.Hi), (iA y.1.Y.Lo), (iA y.1.Y.Hi)]), (iA y.2)])) (h20 a0 ((S_Body.mk a1.Name a1.Weight a1.Lift a1.Girth a1.Step a1.Jump ((wr .i64 (a1.Reach.1 + 1), a1.Reach.2.1, a1.Reach.2.2)) a1.Speed a1.Top a1.Effort a1.Recover))) fun y70 => ?_
    refine .s (A.agg (c_S_Box y70.1)) (.s (iA y70.2) (.s ((A.ptr 5 0), [Blk.box (c_S_State a0), Blk.box (c_S_Body a1), Blk.box (c_S_Box y3.1), (hk10_1 a0 a2 a3), (hk10_3 a1), Blk.box [(iA 0), (iA 0), (iA 0), (iA 0)]]) (.s [Blk.box (c_S_State a0), Blk.box (c_S_Body a1), Blk.box (c_S_Box y3.1), (hk10_1 a0 a2 a3), (hk10_3 a1), Blk.box (c_S_Box y70.1)] (.s (A.agg (c_S_Box y3.1)) (.s (A.agg (c_S_Box y70.1)) ?_)))))
    refine .bd (g := fun (y : (Bool × Int)) => (A.tup [(bA y.1), (iA y.2)])) (h27 y3.1 y70.1) fun y71 => ?_
    refine .s (bA y71.1) (.s (iA y71.2) ?_)
    refine .st (v := (bA (y70.2 == 0))) (aBin_eql ..) ?_
    refine .bg (fun t (y : Bool) => ∃ j74 j75 : A, t = [(bA y), j74, j75]) ?_ ?_
    · refine .biH (fun hk72 => ?_) (fun hk72 => ?_)
      · refine .st (v := (bA (y71.2 == 0))) (aBin_eql ..) ?_
        exact .lg ⟨_, _, rfl⟩
      exact .lg ⟨_, _, rfl⟩
    rintro _ y73 ⟨j74, j75, rfl⟩
    iterate 3 refine .uc ?_
    refine .bg (fun t (y : Bool) => ∃ j78 : A, t = [(bA y), j78]) ?_ ?_
    · refine .biH (fun hk76 => ?_) (fun hk76 => ?_)
      · exact .lg ⟨_, rfl⟩
      exact .lg ⟨_, rfl⟩
    rintro _ y77 ⟨j78, rfl⟩
    iterate 2 refine .uc ?_
    exact .lf rfl rfl ⟨_, rfl, rfl⟩
  refine .sp (fun hb79 => ?_) (fun _ => ?_)
  · refine .st (v := (A.ip [(A.ptr 4 7)])) (by rw [of_decide_eq_true hb79]; kernel_rfl) ?_
    refine .s (A.ptr 4 7) (.s (A.ptr 4 7) (.s (iA a1.Reach.2.1) ?_))
    refine .st (v := (iA (wr .i64 (a1.Reach.2.1 + 1)))) (aBin_add ..) ?_
    refine .s (A.ptr 4 7) (.s [Blk.box (c_S_State a0), Blk.box (c_S_Body a1), Blk.box (c_S_Box y3.1), (hk10_1 a0 a2 a3), (hk10_4 a1)] (.s (A.agg [(iA (wr .i64 (a0.X + (wr .i64 (a2))))), (iA (wr .i64 (a0.Y + (wr .i64 (a3))))), (iA a0.Face), (iA a0.Limbs.1.Dir), (iA a0.Limbs.1.Level), (iA a0.Limbs.2.1.Dir), (iA a0.Limbs.2.1.Level), (iA a0.Limbs.2.2.1.Dir), (iA a0.Limbs.2.2.1.Level), (iA a0.Limbs.2.2.2.1.Dir), (iA a0.Limbs.2.2.2.1.Level), (iA a0.Limbs.2.2.2.2.Dir), (iA a0.Limbs.2.2.2.2.Level)]) ?_))
    refine .bd (g := fun (y : Int) => (iA y)) (h16 ((S_State.mk (wr .i64 (a0.X + (wr .i64 (a2)))) (wr .i64 (a0.Y + (wr .i64 (a3)))) a0.Face a0.Limbs))) fun y80 => ?_
    refine .st (v := (bA (y80 == 0))) (aBin_eql ..) ?_
    refine .biHN (fun hk81 => ?_) (fun hk81 => ?_)
    · refine .s (A.agg [(iA (wr .i64 (a0.X + (wr .i64 (a2))))), (iA (wr .i64 (a0.Y + (wr .i64 (a3))))), (iA a0.Face), (iA a0.Limbs.1.Dir), (iA a0.Limbs.1.Level), (iA a0.Limbs.2.1.Dir), (iA a0.Limbs.2.1.Level), (iA a0.Limbs.2.2.1.Dir), (iA a0.Limbs.2.2.1.Level), (iA a0.Limbs.2.2.2.1.Dir), (iA a0.Limbs.2.2.2.1.Level), (iA a0.Limbs.2.2.2.2.Dir), (iA a0.Limbs.2.2.2.2.Level)]) (.s (A.agg (c_S_Body a1)) ?_)
      refine .bd (g := fun (y : (S_Box × Int)) => (A.tup [(A.agg [(iA y.1.X.Lo), (iA y.1.X.Hi), (iA y.1.Y.Lo), (iA y.1.Y.Hi)]), (iA y.2)])) (h20 ((S_State.mk (wr .i64 (a0.X + (wr .i64 (a2)))) (wr .i64 (a0.Y + (wr .i64 (a3)))) a0.Face a0.Limbs)) a1) fun y82 => ?_
      refine .s (A.agg (c_S_Box y82.1)) (.s (iA y82.2) (.s ((A.ptr 5 0), [Blk.box (c_S_State a0), Blk.box (c_S_Body a1), Blk.box (c_S_Box y3.1), (hk10_1 a0 a2 a3), (hk10_4 a1), Blk.box [(iA 0), (iA 0), (iA 0), (iA 0)]]) (.s [Blk.box (c_S_State a0), Blk.box (c_S_Body a1), Blk.box (c_S_Box y3.1), (hk10_1 a0 a2 a3), (hk10_4 a1), Blk.box (c_S_Box y82.1)] (.s (A.agg (c_S_Box y3.1)) ?_))))
      refine .st (v := (iA (wr .i64 (a2)))) (aConvert_int (hs := by kernel_rfl) (hd := by kernel_rfl) ..) ?_
      refine .st (v := (iA (wr .i64 (29 * (wr .i64 (a2)))))) (aBin_mul ..) ?_
      refine .st (v := (iA (wr .i64 (a3)))) (aConvert_int (hs := by kernel_rfl) (hd := by kernel_rfl) ..) ?_
      refine .st (v := (iA (wr .i64 (29 * (wr .i64 (a3)))))) (aBin_mul ..) ?_
      refine .bd (g := fun (y : (S_Box × Int)) => (A.tup [(A.agg [(iA y.1.X.Lo), (iA y.1.X.Hi), (iA y.1.Y.Lo), (iA y.1.Y.Hi)]), (iA y.2)])) (h26 y3.1 (wr .i64 (29 * (wr .i64 (a2)))) (wr .i64 (29 * (wr .i64 (a3))))) fun y83 => ?_
      refine .s (A.agg (c_S_Box y83.1)) (.s (iA y83.2) (.s ((A.ptr 6 0), [Blk.box (c_S_State a0), Blk.box (c_S_Body a1), Blk.box (c_S_Box y3.1), (hk10_1 a0 a2 a3), (hk10_4 a1), Blk.box (c_S_Box y82.1), Blk.box [(iA 0), (iA 0), (iA 0), (iA 0)]]) (.s [Blk.box (c_S_State a0), Blk.box (c_S_Body a1), Blk.box (c_S_Box y3.1), (hk10_1 a0 a2 a3), (hk10_4 a1), Blk.box (c_S_Box y82.1), Blk.box (c_S_Box y83.1)] ?_)))
      refine .st (v := (bA (y82.2 != 0))) (aBin_neq ..) ?_
      refine .bg (fun t (y : Bool) => ∃ j86 j87 : A, t = [(bA y), j86, j87]) ?_ ?_
      · refine .biH (fun hk84 => ?_) (fun hk84 => ?_)
        · exact .lg ⟨_, _, rfl⟩
        refine .st (v := (bA (y83.2 != 0))) (aBin_neq ..) ?_
        exact .lg ⟨_, _, rfl⟩
      rintro _ y85 ⟨j86, j87, rfl⟩
      iterate 3 refine .uc ?_
      refine .bg (fun t (y : Bool) => ∃ j90 j91 j92 : A, t = [(bA y), j90, j91, j92]) ?_ ?_
      · refine .biH (fun hk88 => ?_) (fun hk88 => ?_)
        · exact .lg ⟨_, _, _, rfl⟩
        refine .s (A.agg (c_S_Box y82.1)) (.s (A.agg (c_S_Box y83.1)) (.s (bA (!(((y82.1.X.Lo == y83.1.X.Lo) && (y82.1.X.Hi == y83.1.X.Hi)) && ((y82.1.Y.Lo == y83.1.Y.Lo) && (y82.1.Y.Hi == y83.1.Y.Hi))))) ?_))
        exact .lg ⟨_, _, _, rfl⟩
      rintro _ y89 ⟨j90, j91, j92, rfl⟩
      iterate 4 refine .uc ?_
      refine .biHN (fun hk93 => ?_) (fun hk93 => ?_)
      · exact .lf rfl rfl ⟨_, rfl, rfl⟩
      refine .s (A.agg [(A.v (Value.string a1.Name)), (iA a1.Weight), (iA a1.Lift), (iA a1.Girth), (iA a1.Step), (iA a1.Jump), (iA a1.Reach.1), (iA (wr .i64 (a1.Reach.2.1 + 1))), (iA a1.Reach.2.2), (iA a1.Speed.1), (iA a1.Speed.2.1), (iA a1.Speed.2.2), (iA a1.Top.1), (iA a1.Top.2.1), (iA a1.Top.2.2), (iA a1.Effort), (iA a1.Recover)]) ?_
      refine .bd (g := fun (y : Int) => (iA y)) (h23 ((S_Body.mk a1.Name a1.Weight a1.Lift a1.Girth a1.Step a1.Jump ((a1.Reach.1, wr .i64 (a1.Reach.2.1 + 1), a1.Reach.2.2)) a1.Speed a1.Top a1.Effort a1.Recover))) fun y94 => ?_
      refine .st (v := (bA (y94 != 0))) (aBin_neq ..) ?_
      refine .biHN (fun hk95 => ?_) (fun hk95 => ?_)
      · exact .lf rfl rfl ⟨_, rfl, rfl⟩
      refine .s (A.agg (c_S_State a0)) (.s (A.agg [(A.v (Value.string a1.Name)), (iA a1.Weight), (iA a1.Lift), (iA a1.Girth), (iA a1.Step), (iA a1.Jump), (iA a1.Reach.1), (iA (wr .i64 (a1.Reach.2.1 + 1))), (iA a1.Reach.2.2), (iA a1.Speed.1), (iA a1.Speed.2.1), (iA a1.Speed.2.2), (iA a1.Top.1), (iA a1.Top.2.1), (iA a1.Top.2.2), (iA a1.Effort), (iA a1.Recover)]) ?_)
      refine .bd (g := fun (y : (S_Box × Int)) => (A.tup [(A.agg [(iA y.1.X.Lo), (iA y.1.X.Hi), (iA y.1.Y.Lo), (iA y.1.Y.Hi)]), (iA y.2)])) (h20 a0 ((S_Body.mk a1.Name a1.Weight a1.Lift a1.Girth a1.Step a1.Jump ((a1.Reach.1, wr .i64 (a1.Reach.2.1 + 1), a1.Reach.2.2)) a1.Speed a1.Top a1.Effort a1.Recover))) fun y96 => ?_
      refine .s (A.agg (c_S_Box y96.1)) (.s (iA y96.2) (.s ((A.ptr 7 0), [Blk.box (c_S_State a0), Blk.box (c_S_Body a1), Blk.box (c_S_Box y3.1), (hk10_1 a0 a2 a3), (hk10_4 a1), Blk.box (c_S_Box y82.1), Blk.box (c_S_Box y83.1), Blk.box [(iA 0), (iA 0), (iA 0), (iA 0)]]) (.s [Blk.box (c_S_State a0), Blk.box (c_S_Body a1), Blk.box (c_S_Box y3.1), (hk10_1 a0 a2 a3), (hk10_4 a1), Blk.box (c_S_Box y82.1), Blk.box (c_S_Box y83.1), Blk.box (c_S_Box y96.1)] (.s (A.agg (c_S_Box y3.1)) (.s (A.agg (c_S_Box y96.1)) ?_)))))
      refine .bd (g := fun (y : (Bool × Int)) => (A.tup [(bA y.1), (iA y.2)])) (h27 y3.1 y96.1) fun y97 => ?_
      refine .s (bA y97.1) (.s (iA y97.2) ?_)
      refine .st (v := (bA (y96.2 == 0))) (aBin_eql ..) ?_
      refine .bg (fun t (y : Bool) => ∃ j100 j101 : A, t = [(bA y), j100, j101]) ?_ ?_
      · refine .biH (fun hk98 => ?_) (fun hk98 => ?_)
        · refine .st (v := (bA (y97.2 == 0))) (aBin_eql ..) ?_
          exact .lg ⟨_, _, rfl⟩
        exact .lg ⟨_, _, rfl⟩
      rintro _ y99 ⟨j100, j101, rfl⟩
      iterate 3 refine .uc ?_
      refine .bg (fun t (y : Bool) => ∃ j104 : A, t = [(bA y), j104]) ?_ ?_
      · refine .biH (fun hk102 => ?_) (fun hk102 => ?_)
        · exact .lg ⟨_, rfl⟩
        exact .lg ⟨_, rfl⟩
      rintro _ y103 ⟨j104, rfl⟩
      iterate 2 refine .uc ?_
      exact .lf rfl rfl ⟨_, rfl, rfl⟩
    refine .s (A.agg [(A.v (Value.string a1.Name)), (iA a1.Weight), (iA a1.Lift), (iA a1.Girth), (iA a1.Step), (iA a1.Jump), (iA a1.Reach.1), (iA (wr .i64 (a1.Reach.2.1 + 1))), (iA a1.Reach.2.2), (iA a1.Speed.1), (iA a1.Speed.2.1), (iA a1.Speed.2.2), (iA a1.Top.1), (iA a1.Top.2.1), (iA a1.Top.2.2), (iA a1.Effort), (iA a1.Recover)]) ?_
    refine .bd (g := fun (y : Int) => (iA y)) (h23 ((S_Body.mk a1.Name a1.Weight a1.Lift a1.Girth a1.Step a1.Jump ((a1.Reach.1, wr .i64 (a1.Reach.2.1 + 1), a1.Reach.2.2)) a1.Speed a1.Top a1.Effort a1.Recover))) fun y105 => ?_
    refine .st (v := (bA (y105 != 0))) (aBin_neq ..) ?_
    refine .biHN (fun hk106 => ?_) (fun hk106 => ?_)
    · exact .lf rfl rfl ⟨_, rfl, rfl⟩
    refine .s (A.agg (c_S_State a0)) (.s (A.agg [(A.v (Value.string a1.Name)), (iA a1.Weight), (iA a1.Lift), (iA a1.Girth), (iA a1.Step), (iA a1.Jump), (iA a1.Reach.1), (iA (wr .i64 (a1.Reach.2.1 + 1))), (iA a1.Reach.2.2), (iA a1.Speed.1), (iA a1.Speed.2.1), (iA a1.Speed.2.2), (iA a1.Top.1), (iA a1.Top.2.1), (iA a1.Top.2.2), (iA a1.Effort), (iA a1.Recover)]) ?_)
    refine .bd (g := fun (y : (S_Box × Int)) => (A.tup [(A.agg [(iA y.1.X.Lo), (iA y.1.X.Hi), (iA y.1.Y.Lo), (iA y.1.Y.Hi)]), (iA y.2)])) (h20 a0 ((S_Body.mk a1.Name a1.Weight a1.Lift a1.Girth a1.Step a1.Jump ((a1.Reach.1, wr .i64 (a1.Reach.2.1 + 1), a1.Reach.2.2)) a1.Speed a1.Top a1.Effort a1.Recover))) fun y107 => ?_
    refine .s (A.agg (c_S_Box y107.1)) (.s (iA y107.2) (.s ((A.ptr 5 0), [Blk.box (c_S_State a0), Blk.box (c_S_Body a1), Blk.box (c_S_Box y3.1), (hk10_1 a0 a2 a3), (hk10_4 a1), Blk.box [(iA 0), (iA 0), (iA 0), (iA 0)]]) (.s [Blk.box (c_S_State a0), Blk.box (c_S_Body a1), Blk.box (c_S_Box y3.1), (hk10_1 a0 a2 a3), (hk10_4 a1), Blk.box (c_S_Box y107.1)] (.s (A.agg (c_S_Box y3.1)) (.s (A.agg (c_S_Box y107.1)) ?_)))))
    refine .bd (g := fun (y : (Bool × Int)) => (A.tup [(bA y.1), (iA y.2)])) (h27 y3.1 y107.1) fun y108 => ?_
    refine .s (bA y108.1) (.s (iA y108.2) ?_)
    refine .st (v := (bA (y107.2 == 0))) (aBin_eql ..) ?_
    refine .bg (fun t (y : Bool) => ∃ j111 j112 : A, t = [(bA y), j111, j112]) ?_ ?_
    · refine .biH (fun hk109 => ?_) (fun hk109 => ?_)
      · refine .st (v := (bA (y108.2 == 0))) (aBin_eql ..) ?_
        exact .lg ⟨_, _, rfl⟩
      exact .lg ⟨_, _, rfl⟩
    rintro _ y110 ⟨j111, j112, rfl⟩
    iterate 3 refine .uc ?_
    refine .bg (fun t (y : Bool) => ∃ j115 : A, t = [(bA y), j115]) ?_ ?_
    · refine .biH (fun hk113 => ?_) (fun hk113 => ?_)
      · exact .lg ⟨_, rfl⟩
      exact .lg ⟨_, rfl⟩
    rintro _ y114 ⟨j115, rfl⟩
    iterate 2 refine .uc ?_
    exact .lf rfl rfl ⟨_, rfl, rfl⟩
  refine .sp (fun hb116 => ?_) (fun _ => ?_)
  · refine .st (v := (A.ip [(A.ptr 4 8)])) (by rw [of_decide_eq_true hb116]; kernel_rfl) ?_
    refine .s (A.ptr 4 8) (.s (A.ptr 4 8) (.s (iA a1.Reach.2.2) ?_))
    refine .st (v := (iA (wr .i64 (a1.Reach.2.2 + 1)))) (aBin_add ..) ?_
    refine .s (A.ptr 4 8) (.s [Blk.box (c_S_State a0), Blk.box (c_S_Body a1), Blk.box (c_S_Box y3.1), (hk10_1 a0 a2 a3), (hk10_5 a1)] (.s (A.agg [(iA (wr .i64 (a0.X + (wr .i64 (a2))))), (iA (wr .i64 (a0.Y + (wr .i64 (a3))))), (iA a0.Face), (iA a0.Limbs.1.Dir), (iA a0.Limbs.1.Level), (iA a0.Limbs.2.1.Dir), (iA a0.Limbs.2.1.Level), (iA a0.Limbs.2.2.1.Dir), (iA a0.Limbs.2.2.1.Level), (iA a0.Limbs.2.2.2.1.Dir), (iA a0.Limbs.2.2.2.1.Level), (iA a0.Limbs.2.2.2.2.Dir), (iA a0.Limbs.2.2.2.2.Level)]) ?_))
    refine .bd (g := fun (y : Int) => (iA y)) (h16 ((S_State.mk (wr .i64 (a0.X + (wr .i64 (a2)))) (wr .i64 (a0.Y + (wr .i64 (a3)))) a0.Face a0.Limbs))) fun y117 => ?_
    refine .st (v := (bA (y117 == 0))) (aBin_eql ..) ?_
    refine .biHN (fun hk118 => ?_) (fun hk118 => ?_)
    · refine .s (A.agg [(iA (wr .i64 (a0.X + (wr .i64 (a2))))), (iA (wr .i64 (a0.Y + (wr .i64 (a3))))), (iA a0.Face), (iA a0.Limbs.1.Dir), (iA a0.Limbs.1.Level), (iA a0.Limbs.2.1.Dir), (iA a0.Limbs.2.1.Level), (iA a0.Limbs.2.2.1.Dir), (iA a0.Limbs.2.2.1.Level), (iA a0.Limbs.2.2.2.1.Dir), (iA a0.Limbs.2.2.2.1.Level), (iA a0.Limbs.2.2.2.2.Dir), (iA a0.Limbs.2.2.2.2.Level)]) (.s (A.agg (c_S_Body a1)) ?_)
      refine .bd (g := fun (y : (S_Box × Int)) => (A.tup [(A.agg [(iA y.1.X.Lo), (iA y.1.X.Hi), (iA y.1.Y.Lo), (iA y.1.Y.Hi)]), (iA y.2)])) (h20 ((S_State.mk (wr .i64 (a0.X + (wr .i64 (a2)))) (wr .i64 (a0.Y + (wr .i64 (a3)))) a0.Face a0.Limbs)) a1) fun y119 => ?_
      refine .s (A.agg (c_S_Box y119.1)) (.s (iA y119.2) (.s ((A.ptr 5 0), [Blk.box (c_S_State a0), Blk.box (c_S_Body a1), Blk.box (c_S_Box y3.1), (hk10_1 a0 a2 a3), (hk10_5 a1), Blk.box [(iA 0), (iA 0), (iA 0), (iA 0)]]) (.s [Blk.box (c_S_State a0), Blk.box (c_S_Body a1), Blk.box (c_S_Box y3.1), (hk10_1 a0 a2 a3), (hk10_5 a1), Blk.box (c_S_Box y119.1)] (.s (A.agg (c_S_Box y3.1)) ?_))))
      refine .st (v := (iA (wr .i64 (a2)))) (aConvert_int (hs := by kernel_rfl) (hd := by kernel_rfl) ..) ?_
      refine .st (v := (iA (wr .i64 (29 * (wr .i64 (a2)))))) (aBin_mul ..) ?_
      refine .st (v := (iA (wr .i64 (a3)))) (aConvert_int (hs := by kernel_rfl) (hd := by kernel_rfl) ..) ?_
      refine .st (v := (iA (wr .i64 (29 * (wr .i64 (a3)))))) (aBin_mul ..) ?_
      refine .bd (g := fun (y : (S_Box × Int)) => (A.tup [(A.agg [(iA y.1.X.Lo), (iA y.1.X.Hi), (iA y.1.Y.Lo), (iA y.1.Y.Hi)]), (iA y.2)])) (h26 y3.1 (wr .i64 (29 * (wr .i64 (a2)))) (wr .i64 (29 * (wr .i64 (a3))))) fun y120 => ?_
      refine .s (A.agg (c_S_Box y120.1)) (.s (iA y120.2) (.s ((A.ptr 6 0), [Blk.box (c_S_State a0), Blk.box (c_S_Body a1), Blk.box (c_S_Box y3.1), (hk10_1 a0 a2 a3), (hk10_5 a1), Blk.box (c_S_Box y119.1), Blk.box [(iA 0), (iA 0), (iA 0), (iA 0)]]) (.s [Blk.box (c_S_State a0), Blk.box (c_S_Body a1), Blk.box (c_S_Box y3.1), (hk10_1 a0 a2 a3), (hk10_5 a1), Blk.box (c_S_Box y119.1), Blk.box (c_S_Box y120.1)] ?_)))
      refine .st (v := (bA (y119.2 != 0))) (aBin_neq ..) ?_
      refine .bg (fun t (y : Bool) => ∃ j123 j124 : A, t = [(bA y), j123, j124]) ?_ ?_
      · refine .biH (fun hk121 => ?_) (fun hk121 => ?_)
        · exact .lg ⟨_, _, rfl⟩
        refine .st (v := (bA (y120.2 != 0))) (aBin_neq ..) ?_
        exact .lg ⟨_, _, rfl⟩
      rintro _ y122 ⟨j123, j124, rfl⟩
      iterate 3 refine .uc ?_
      refine .bg (fun t (y : Bool) => ∃ j127 j128 j129 : A, t = [(bA y), j127, j128, j129]) ?_ ?_
      · refine .biH (fun hk125 => ?_) (fun hk125 => ?_)
        · exact .lg ⟨_, _, _, rfl⟩
        refine .s (A.agg (c_S_Box y119.1)) (.s (A.agg (c_S_Box y120.1)) (.s (bA (!(((y119.1.X.Lo == y120.1.X.Lo) && (y119.1.X.Hi == y120.1.X.Hi)) && ((y119.1.Y.Lo == y120.1.Y.Lo) && (y119.1.Y.Hi == y120.1.Y.Hi))))) ?_))
        exact .lg ⟨_, _, _, rfl⟩
      rintro _ y126 ⟨j127, j128, j129, rfl⟩
      iterate 4 refine .uc ?_
      refine .biHN (fun hk130 => ?_) (fun hk130 => ?_)
      · exact .lf rfl rfl ⟨_, rfl, rfl⟩
      refine .s (A.agg [(A.v (Value.string a1.Name)), (iA a1.Weight), (iA a1.Lift), (iA a1.Girth), (iA a1.Step), (iA a1.Jump), (iA a1.Reach.1), (iA a1.Reach.2.1), (iA (wr .i64 (a1.Reach.2.2 + 1))), (iA a1.Speed.1), (iA a1.Speed.2.1), (iA a1.Speed.2.2), (iA a1.Top.1), (iA a1.Top.2.1), (iA a1.Top.2.2), (iA a1.Effort), (iA a1.Recover)]) ?_
      refine .bd (g := fun (y : Int) => (iA y)) (h23 ((S_Body.mk a1.Name a1.Weight a1.Lift a1.Girth a1.Step a1.Jump ((a1.Reach.1, a1.Reach.2.1, wr .i64 (a1.Reach.2.2 + 1))) a1.Speed a1.Top a1.Effort a1.Recover))) fun y131 => ?_
      refine .st (v := (bA (y131 != 0))) (aBin_neq ..) ?_
      refine .biHN (fun hk132 => ?_) (fun hk132 => ?_)
      · exact .lf rfl rfl ⟨_, rfl, rfl⟩
      refine .s (A.agg (c_S_State a0)) (.s (A.agg [(A.v (Value.string a1.Name)), (iA a1.Weight), (iA a1.Lift), (iA a1.Girth), (iA a1.Step), (iA a1.Jump), (iA a1.Reach.1), (iA a1.Reach.2.1), (iA (wr .i64 (a1.Reach.2.2 + 1))), (iA a1.Speed.1), (iA a1.Speed.2.1), (iA a1.Speed.2.2), (iA a1.Top.1), (iA a1.Top.2.1), (iA a1.Top.2.2), (iA a1.Effort), (iA a1.Recover)]) ?_)
      refine .bd (g := fun (y : (S_Box × Int)) => (A.tup [(A.agg [(iA y.1.X.Lo), (iA y.1.X.Hi), (iA y.1.Y.Lo), (iA y.1.Y.Hi)]), (iA y.2)])) (h20 a0 ((S_Body.mk a1.Name a1.Weight a1.Lift a1.Girth a1.Step a1.Jump ((a1.Reach.1, a1.Reach.2.1, wr .i64 (a1.Reach.2.2 + 1))) a1.Speed a1.Top a1.Effort a1.Recover))) fun y133 => ?_
      refine .s (A.agg (c_S_Box y133.1)) (.s (iA y133.2) (.s ((A.ptr 7 0), [Blk.box (c_S_State a0), Blk.box (c_S_Body a1), Blk.box (c_S_Box y3.1), (hk10_1 a0 a2 a3), (hk10_5 a1), Blk.box (c_S_Box y119.1), Blk.box (c_S_Box y120.1), Blk.box [(iA 0), (iA 0), (iA 0), (iA 0)]]) (.s [Blk.box (c_S_State a0), Blk.box (c_S_Body a1), Blk.box (c_S_Box y3.1), (hk10_1 a0 a2 a3), (hk10_5 a1), Blk.box (c_S_Box y119.1), Blk.box (c_S_Box y120.1), Blk.box (c_S_Box y133.1)] (.s (A.agg (c_S_Box y3.1)) (.s (A.agg (c_S_Box y133.1)) ?_)))))
      refine .bd (g := fun (y : (Bool × Int)) => (A.tup [(bA y.1), (iA y.2)])) (h27 y3.1 y133.1) fun y134 => ?_
      refine .s (bA y134.1) (.s (iA y134.2) ?_)
      refine .st (v := (bA (y133.2 == 0))) (aBin_eql ..) ?_
      refine .bg (fun t (y : Bool) => ∃ j137 j138 : A, t = [(bA y), j137, j138]) ?_ ?_
      · refine .biH (fun hk135 => ?_) (fun hk135 => ?_)
        · refine .st (v := (bA (y134.2 == 0))) (aBin_eql ..) ?_
          exact .lg ⟨_, _, rfl⟩
        exact .lg ⟨_, _, rfl⟩
      rintro _ y136 ⟨j137, j138, rfl⟩
      iterate 3 refine .uc ?_
      refine .bg (fun t (y : Bool) => ∃ j141 : A, t = [(bA y), j141]) ?_ ?_
      · refine .biH (fun hk139 => ?_) (fun hk139 => ?_)
        · exact .lg ⟨_, rfl⟩
        exact .lg ⟨_, rfl⟩
      rintro _ y140 ⟨j141, rfl⟩
      iterate 2 refine .uc ?_
      exact .lf rfl rfl ⟨_, rfl, rfl⟩
    refine .s (A.agg [(A.v (Value.string a1.Name)), (iA a1.Weight), (iA a1.Lift), (iA a1.Girth), (iA a1.Step), (iA a1.Jump), (iA a1.Reach.1), (iA a1.Reach.2.1), (iA (wr .i64 (a1.Reach.2.2 + 1))), (iA a1.Speed.1), (iA a1.Speed.2.1), (iA a1.Speed.2.2), (iA a1.Top.1), (iA a1.Top.2.1), (iA a1.Top.2.2), (iA a1.Effort), (iA a1.Recover)]) ?_
    refine .bd (g := fun (y : Int) => (iA y)) (h23 ((S_Body.mk a1.Name a1.Weight a1.Lift a1.Girth a1.Step a1.Jump ((a1.Reach.1, a1.Reach.2.1, wr .i64 (a1.Reach.2.2 + 1))) a1.Speed a1.Top a1.Effort a1.Recover))) fun y142 => ?_
    refine .st (v := (bA (y142 != 0))) (aBin_neq ..) ?_
    refine .biHN (fun hk143 => ?_) (fun hk143 => ?_)
    · exact .lf rfl rfl ⟨_, rfl, rfl⟩
    refine .s (A.agg (c_S_State a0)) (.s (A.agg [(A.v (Value.string a1.Name)), (iA a1.Weight), (iA a1.Lift), (iA a1.Girth), (iA a1.Step), (iA a1.Jump), (iA a1.Reach.1), (iA a1.Reach.2.1), (iA (wr .i64 (a1.Reach.2.2 + 1))), (iA a1.Speed.1), (iA a1.Speed.2.1), (iA a1.Speed.2.2), (iA a1.Top.1), (iA a1.Top.2.1), (iA a1.Top.2.2), (iA a1.Effort), (iA a1.Recover)]) ?_)
    refine .bd (g := fun (y : (S_Box × Int)) => (A.tup [(A.agg [(iA y.1.X.Lo), (iA y.1.X.Hi), (iA y.1.Y.Lo), (iA y.1.Y.Hi)]), (iA y.2)])) (h20 a0 ((S_Body.mk a1.Name a1.Weight a1.Lift a1.Girth a1.Step a1.Jump ((a1.Reach.1, a1.Reach.2.1, wr .i64 (a1.Reach.2.2 + 1))) a1.Speed a1.Top a1.Effort a1.Recover))) fun y144 => ?_
    refine .s (A.agg (c_S_Box y144.1)) (.s (iA y144.2) (.s ((A.ptr 5 0), [Blk.box (c_S_State a0), Blk.box (c_S_Body a1), Blk.box (c_S_Box y3.1), (hk10_1 a0 a2 a3), (hk10_5 a1), Blk.box [(iA 0), (iA 0), (iA 0), (iA 0)]]) (.s [Blk.box (c_S_State a0), Blk.box (c_S_Body a1), Blk.box (c_S_Box y3.1), (hk10_1 a0 a2 a3), (hk10_5 a1), Blk.box (c_S_Box y144.1)] (.s (A.agg (c_S_Box y3.1)) (.s (A.agg (c_S_Box y144.1)) ?_)))))
    refine .bd (g := fun (y : (Bool × Int)) => (A.tup [(bA y.1), (iA y.2)])) (h27 y3.1 y144.1) fun y145 => ?_
    refine .s (bA y145.1) (.s (iA y145.2) ?_)
    refine .st (v := (bA (y144.2 == 0))) (aBin_eql ..) ?_
    refine .bg (fun t (y : Bool) => ∃ j148 j149 : A, t = [(bA y), j148, j149]) ?_ ?_
    · refine .biH (fun hk146 => ?_) (fun hk146 => ?_)
      · refine .st (v := (bA (y145.2 == 0))) (aBin_eql ..) ?_
        exact .lg ⟨_, _, rfl⟩
      exact .lg ⟨_, _, rfl⟩
    rintro _ y147 ⟨j148, j149, rfl⟩
    iterate 3 refine .uc ?_
    refine .bg (fun t (y : Bool) => ∃ j152 : A, t = [(bA y), j152]) ?_ ?_
    · refine .biH (fun hk150 => ?_) (fun hk150 => ?_)
      · exact .lg ⟨_, rfl⟩
      exact .lg ⟨_, rfl⟩
    rintro _ y151 ⟨j152, rfl⟩
    iterate 2 refine .uc ?_
    exact .lf rfl rfl ⟨_, rfl, rfl⟩
  exact .nn
def G10 (a0 : S_State) (a1 : S_Body) (a2 : Int) (a3 : Int) (a4 : Int) : Option Bool := F10 fuel0 a0 a1 a2 a3 a4
end Go.Proofs.YtooamdacfhfjoaaDoor
