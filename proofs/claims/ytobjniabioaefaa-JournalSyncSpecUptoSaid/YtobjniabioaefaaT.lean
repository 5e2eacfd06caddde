/-
 The program's functions as plain functions: by a tool; each follows the interpreter.
-/
import Derived.Test.YtobjniabioaefaaT2
import Derived.KernelRfl
namespace Go.Proofs.Ytobjniabioaefaa
open Go.Proofs.Try (prog)
set_option linter.unusedVariables false
set_option linter.unusedSimpArgs false
set_option maxHeartbeats 4000000
set_option maxRecDepth 100000
def hk48_1 (y69 : Nat) (a0 : S_Disk) : Blk := Blk.box [(A.sl 3 0 y69 false), (A.imm [] true), (iA (wr .i64 (a0.Left - ((a0.Pending.length : Int))))), (bA false)]
def hk48_2 (y69 : Nat) (a0 : S_Disk) : Blk := Blk.box [(A.sl 3 0 y69 false), (A.imm [] true), (iA a0.Left), (bA false)]
def F48_48_0 (n : Nat) (v15 : Int) (v16 : Int) (v17 : Bool) (v19 : S_Disk) (v20 : (List (List UInt8))) (v21 : (List S_Write)) (v22 : Int) (v23 : Bool) (v24 : Nat) (v25 : (List S_Write)) (v26 : Int) (v27 : Bool) : Nat -> Int -> (List (List UInt8)) -> Option (Nat × (List (List UInt8)))
 | 0, _, _ => none
 | m + 1, v18, v28 => bif (decide (v18 < v16)) then ((getI v19.Pending v18).bind fun y30 => (getI v19.Pending v18).bind fun y31 => (idxN v24 y30.At).bind fun k32 => (modI v28 k32 (fun (y : (List UInt8)) => y31.Data)).bind fun y33 => F48_48_0 n v15 v16 v17 v19 v20 v21 v22 v23 v24 v25 v26 v27 m (wr .i64 (v18 + 1)) y33) else (some ((v24, v28)))
theorem T48_48_0 (C : Nat -> List A -> Option A) (n : Nat) (h33 : Orc33 C) (v15 : Int) (v16 : Int) (v17 : Bool) (v19 : S_Disk) (v20 : (List (List UInt8))) (v21 : (List S_Write)) (v22 : Int) (v23 : Bool) (v24 : Nat) (v25 : (List S_Write)) (v26 : Int) (v27 : Bool) {ρ γ : Type} {φ : ρ -> γ -> Prop} {kL : R -> Option ρ} {K : (Nat × (List (List UInt8))) -> Option γ} (kx kg : Nat -> St -> Option R) (kr : St -> Option R) (kp : A -> St -> Option R) (x0 : ∀ (o0 : Nat) (o1 : (List (List UInt8))) (s3 : A) (s7 : A), J φ (kx 0 (St.mk [(1, (A.ptr 0 0)), (2, (A.ptr 1 0)), (3, s3), (4, (iA v16)), (5, (bA v17)), (6, (A.ptr 2 0)), (7, s7)] [Blk.box (c_S_Disk v19), Blk.box [(A.imm (List.map (cL c8) v20) true), (A.imm (List.map c_S_Write v21) true), (iA v22), (bA v23)], Blk.box [(A.sl 3 0 o0 false), (A.imm (List.map c_S_Write v25) true), (iA v26), (bA v27)], Blk.row true 1 (List.map (cL c8) o1)])) kL (K (o0, o1)) some) :
  ∀ (m : Nat) (v18 : Int) (v28 : (List (List UInt8))), J φ (loopR (cx C) (ec C n 8) (ey C n 8) (n+8) 48 0 0 4 kx kg kr kp m (St.mk [(1, (A.ptr 0 0)), (2, (A.ptr 1 0)), (3, (iA v15)), (4, (iA v16)), (5, (bA v17)), (6, (A.ptr 2 0)), (7, (iA v18))] [Blk.box (c_S_Disk v19), Blk.box [(A.imm (List.map (cL c8) v20) true), (A.imm (List.map c_S_Write v21) true), (iA v22), (bA v23)], Blk.box [(A.sl 3 0 v24 false), (A.imm (List.map c_S_Write v25) true), (iA v26), (bA v27)], Blk.row true 1 (List.map (cL c8) v28)])) kL (F48_48_0 n v15 v16 v17 v19 v20 v21 v22 v23 v24 v25 v26 v27 m v18 v28) K := by
 intro m
 induction m with
 | zero => intros; exact .nn
 | succ m ih =>
  intro v18 v28
  refine .lp (e48_0 ..) ?_
  unfold F48_48_0
  refine .st (v := (bA (decide (v18 < v16)))) (aBin_lss ..) ?_
  refine .biHN (fun hk29 => ?_) (fun hk29 => ?_)
  ·refine .s (A.ptr 2 0) (.s (A.sl 3 0 v24 false) (.s (A.ptr 0 1) (.s (A.imm (List.map c_S_Write v19.Pending) false) ?_)))
   refine .bd (g := fun (y : S_Write) => A.ip (c_S_Write y)) (idx_imm (e := 76) (es := 2) (h1 := by kernel_rfl) (h2 := by kernel_rfl) (h3 := fun _ => rfl) ..) fun y30 => ?_
   refine .s (A.ip [(iA y30.At), (A.imm (List.map c8 y30.Data) false)]) (.s (iA y30.At) (.s (A.ptr 0 1) (.s (A.imm (List.map c_S_Write v19.Pending) false) ?_)))
   refine .bd (g := fun (y : S_Write) => A.ip (c_S_Write y)) (idx_imm (e := 76) (es := 2) (h1 := by kernel_rfl) (h2 := by kernel_rfl) (h3 := fun _ => rfl) ..) fun y31 => ?_
   refine .s (A.ip [(A.imm (List.map c8 y31.Data) false)]) (.s (A.imm (List.map c8 y31.Data) false) ?_)
   refine .bd (g := fun (y : Nat) => A.ep 3 y 0) (wrow_idx0 (e := 35) (es := 1) (l := v28) (by kernel_rfl) (by kernel_rfl) rfl) fun k32 => ?_
   refine .bd (g := fun (y : List (List UInt8)) => [Blk.box (c_S_Disk v19), Blk.box [(A.imm (List.map (cL c8) v20) true), (A.imm (List.map c_S_Write v21) true), (iA v22), (bA v23)], Blk.box [(A.sl 3 0 v24 false), (A.imm (List.map c_S_Write v25) true), (iA v26), (bA v27)], Blk.row true 1 (List.map (cL c8) y)]) ((wrow_store (es := 1) (n := 1) (l := v28) (xs := [(A.imm (List.map c8 y31.Data) false)]) (u := fun (y : (List UInt8)) => y31.Data) (by kernel_rfl) (by kernel_rfl) (by decide) rfl (fun _ => rfl) (by decide) (by decide) rfl (fun _ => rfl))) fun y33 => ?_
   refine .st (v := (iA (wr .i64 (v18 + 1)))) (aBin_add ..) ?_
   refine .s [Blk.box (c_S_Disk v19), Blk.box [(A.imm (List.map (cL c8) v20) true), (A.imm (List.map c_S_Write v21) true), (iA v22), (bA v23)], Blk.box [(A.sl 3 0 v24 false), (A.imm (List.map c_S_Write v25) true), (iA v26), (bA v27)], Blk.row true 1 (List.map (cL c8) y33)] ?_
   refine .cT (by kernel_rfl) ?_
   exact ih _ _
  exact .ex (x0 _ _ _ _)
def F48_48_0a (n : Nat) (v49 : Int) (v50 : Int) (v51 : Bool) (v53 : S_Disk) (v54 : (List (List UInt8))) (v55 : (List S_Write)) (v56 : Int) (v57 : Bool) (v58 : Nat) (v59 : (List S_Write)) (v60 : Int) (v61 : Bool) : Nat -> Int -> (List (List UInt8)) -> Option (Nat × (List (List UInt8)))
 | 0, _, _ => none
 | m + 1, v52, v62 => bif (decide (v52 < v50)) then ((getI v53.Pending v52).bind fun y64 => (getI v53.Pending v52).bind fun y65 => (idxN v58 y64.At).bind fun k66 => (modI v62 k66 (fun (y : (List UInt8)) => y65.Data)).bind fun y67 => F48_48_0a n v49 v50 v51 v53 v54 v55 v56 v57 v58 v59 v60 v61 m (wr .i64 (v52 + 1)) y67) else (some ((v58, v62)))
theorem T48_48_0a (C : Nat -> List A -> Option A) (n : Nat) (h33 : Orc33 C) (v49 : Int) (v50 : Int) (v51 : Bool) (v53 : S_Disk) (v54 : (List (List UInt8))) (v55 : (List S_Write)) (v56 : Int) (v57 : Bool) (v58 : Nat) (v59 : (List S_Write)) (v60 : Int) (v61 : Bool) {ρ γ : Type} {φ : ρ -> γ -> Prop} {kL : R -> Option ρ} {K : (Nat × (List (List UInt8))) -> Option γ} (kx kg : Nat -> St -> Option R) (kr : St -> Option R) (kp : A -> St -> Option R) (x0 : ∀ (o0 : Nat) (o1 : (List (List UInt8))) (s3 : A) (s7 : A), J φ (kx 0 (St.mk [(1, (A.ptr 0 0)), (2, (A.ptr 1 0)), (3, s3), (4, (iA v50)), (5, (bA v51)), (6, (A.ptr 2 0)), (7, s7)] [Blk.box (c_S_Disk v53), Blk.box [(A.imm (List.map (cL c8) v54) true), (A.imm (List.map c_S_Write v55) true), (iA v56), (bA v57)], Blk.box [(A.sl 3 0 o0 false), (A.imm (List.map c_S_Write v59) true), (iA v60), (bA v61)], Blk.row true 1 (List.map (cL c8) o1)])) kL (K (o0, o1)) some) :
  ∀ (m : Nat) (v52 : Int) (v62 : (List (List UInt8))), J φ (loopR (cx C) (ec C n 8) (ey C n 8) (n+8) 48 0 0 4 kx kg kr kp m (St.mk [(1, (A.ptr 0 0)), (2, (A.ptr 1 0)), (3, (iA v49)), (4, (iA v50)), (5, (bA v51)), (6, (A.ptr 2 0)), (7, (iA v52))] [Blk.box (c_S_Disk v53), Blk.box [(A.imm (List.map (cL c8) v54) true), (A.imm (List.map c_S_Write v55) true), (iA v56), (bA v57)], Blk.box [(A.sl 3 0 v58 false), (A.imm (List.map c_S_Write v59) true), (iA v60), (bA v61)], Blk.row true 1 (List.map (cL c8) v62)])) kL (F48_48_0a n v49 v50 v51 v53 v54 v55 v56 v57 v58 v59 v60 v61 m v52 v62) K := by
 intro m
 induction m with
 | zero => intros; exact .nn
 | succ m ih =>
  intro v52 v62
  refine .lp (e48_0 ..) ?_
  unfold F48_48_0a
  refine .st (v := (bA (decide (v52 < v50)))) (aBin_lss ..) ?_
  refine .biHN (fun hk63 => ?_) (fun hk63 => ?_)
  ·refine .s (A.ptr 2 0) (.s (A.sl 3 0 v58 false) (.s (A.ptr 0 1) (.s (A.imm (List.map c_S_Write v53.Pending) false) ?_)))
   refine .bd (g := fun (y : S_Write) => A.ip (c_S_Write y)) (idx_imm (e := 76) (es := 2) (h1 := by kernel_rfl) (h2 := by kernel_rfl) (h3 := fun _ => rfl) ..) fun y64 => ?_
   refine .s (A.ip [(iA y64.At), (A.imm (List.map c8 y64.Data) false)]) (.s (iA y64.At) (.s (A.ptr 0 1) (.s (A.imm (List.map c_S_Write v53.Pending) false) ?_)))
   refine .bd (g := fun (y : S_Write) => A.ip (c_S_Write y)) (idx_imm (e := 76) (es := 2) (h1 := by kernel_rfl) (h2 := by kernel_rfl) (h3 := fun _ => rfl) ..) fun y65 => ?_
   refine .s (A.ip [(A.imm (List.map c8 y65.Data) false)]) (.s (A.imm (List.map c8 y65.Data) false) ?_)
   refine .bd (g := fun (y : Nat) => A.ep 3 y 0) (wrow_idx0 (e := 35) (es := 1) (l := v62) (by kernel_rfl) (by kernel_rfl) rfl) fun k66 => ?_
   refine .bd (g := fun (y : List (List UInt8)) => [Blk.box (c_S_Disk v53), Blk.box [(A.imm (List.map (cL c8) v54) true), (A.imm (List.map c_S_Write v55) true), (iA v56), (bA v57)], Blk.box [(A.sl 3 0 v58 false), (A.imm (List.map c_S_Write v59) true), (iA v60), (bA v61)], Blk.row true 1 (List.map (cL c8) y)]) ((wrow_store (es := 1) (n := 1) (l := v62) (xs := [(A.imm (List.map c8 y65.Data) false)]) (u := fun (y : (List UInt8)) => y65.Data) (by kernel_rfl) (by kernel_rfl) (by decide) rfl (fun _ => rfl) (by decide) (by decide) rfl (fun _ => rfl))) fun y67 => ?_
   refine .st (v := (iA (wr .i64 (v52 + 1)))) (aBin_add ..) ?_
   refine .s [Blk.box (c_S_Disk v53), Blk.box [(A.imm (List.map (cL c8) v54) true), (A.imm (List.map c_S_Write v55) true), (iA v56), (bA v57)], Blk.box [(A.sl 3 0 v58 false), (A.imm (List.map c_S_Write v59) true), (iA v60), (bA v61)], Blk.row true 1 (List.map (cL c8) y67)] ?_
   refine .cT (by kernel_rfl) ?_
   exact ih _ _
  exact .ex (x0 _ _ _ _)
def F48 (n : Nat) (a0 : S_Disk) : Option (S_Disk × Int) :=
 (G33 a0).bind fun y1 => (bif (y1 != 0) then (some true) else (some a0.Stopped)).bind fun y3 => bif y3 then (some (((S_Disk.mk ([]) ([]) 0 false), 40))) else ((bif (decide (0 <= a0.Left)) then (some (decide (a0.Left < ((a0.Pending.length : Int))))) else (some false)).bind fun y8 => bif y8 then ((appI 24 ([]) a0.Sectors).bind fun y14 => (F48_48_0 n 0 a0.Left y8 a0 ([]) ([]) 0 false y14.length ([]) a0.Left false (n+8) 0 y14).bind fun o34 => match o34 with | (y35, y36) => (getI a0.Pending a0.Left).bind fun y39 => (subI y39.Data 0 64).bind fun y40 => (appI 1 ([]) y40).bind fun y41 => (idxN y35 y39.At).bind fun k42 => (y36[k42]?).bind fun y43 => (subI y43 64 ((y43.length : Int))).bind fun y44 => (appI 1 y41 y44).bind fun y45 => (idxN y35 y39.At).bind fun k46 => (modI y36 k46 (fun (y : (List UInt8)) => y45)).bind fun y47 => some (((S_Disk.mk ((List.take y35 (List.drop 0 y47))) ([]) 0 true), 40))) else ((appI 24 ([]) a0.Sectors).bind fun y48 => (F48_48_0a n 0 ((a0.Pending.length : Int)) y8 a0 ([]) ([]) 0 false y48.length ([]) a0.Left false (n+8) 0 y48).bind fun o68 => match o68 with | (y69, y70) => bif (decide (0 <= a0.Left)) then (some (((S_Disk.mk ((List.take y69 (List.drop 0 y70))) ([]) (wr .i64 (a0.Left - ((a0.Pending.length : Int)))) false), 0))) else (some (((S_Disk.mk ((List.take y69 (List.drop 0 y70))) ([]) a0.Left false), 0)))))
theorem T48 (C : Nat -> List A -> Option A) (n : Nat) (h33 : Orc33 C) (a0 : S_Disk) : J (fun (o : R) y => ∃ v, o.1 = .ret v /\ snapE o.2 v = (A.tup [(A.agg [(A.imm (List.map (cL c8) y.1.Sectors) false), (A.imm (List.map c_S_Write y.1.Pending) false), (iA y.1.Left), (bA y.1.Stopped)]), (iA y.2)])) (evCall1 (cx C) (ec C n 8) (ey C n 8) (n+8) 48 [(A.agg (c_S_Disk a0))] [] 0) some (F48 n a0) some := by
 refine .lp (e48 ..) ?_
 unfold F48
 refine .s ((A.ptr 0 0), [Blk.box (c_S_Disk a0)]) (.s ((A.ptr 1 0), [Blk.box (c_S_Disk a0), bz4]) (.s (A.agg (c_S_Disk a0)) ?_))
 refine .bd (g := fun (y : Int) => (iA y)) (by show C 33 [snap _ (A.agg (c_S_Disk a0))] = _; simp only [sn0, snM]; exact h33 a0) fun y1 => ?_
 refine .st (v := (bA (y1 != 0))) (aBin_neq ..) ?_
 refine .bg (fun t (y : Bool) => ∃ j4 j5 : A, t = [(bA y), j4, j5]) ?_ ?_
 ·refine .biH (fun hk2 => ?_) (fun hk2 => ?_)
  ·exact .lg ⟨_, _, rfl⟩
  refine .s (A.ptr 0 3) (.s (bA a0.Stopped) ?_)
  exact .lg ⟨_, _, rfl⟩
 rintro _ y3 ⟨j4, j5, rfl⟩
 iterate 3 refine .uc ?_
 refine .biHN (fun hk6 => ?_) (fun hk6 => ?_)
 ·refine .s (A.agg [(A.imm [] true), (A.imm [] true), (iA 0), (bA false)]) (.s [Blk.box (c_S_Disk a0), bz4] (.s (A.agg [(A.imm [] true), (A.imm [] true), (iA 0), (bA false)]) ?_))
  exact .lf rfl rfl ⟨_, rfl, by show snapE _ (A.tup [(A.agg [(A.imm [] true), (A.imm [] true), (iA 0), (bA false)]), (iA 40)]) = _; first | (simp only [sn0, snM, snapE]; done) | (simp only [sn0, snS, snapE]; first | done | rfl)⟩
 refine .s (A.ptr 0 1) (.s (A.imm (List.map c_S_Write a0.Pending) false) ?_)
 refine .st (v := (iA ((a0.Pending.length : Int)))) (len_imm (e := 76) (h1 := by kernel_rfl) ..) ?_
 refine .s (A.ptr 0 2) (.s (iA a0.Left) ?_)
 refine .st (v := (bA (decide (0 <= a0.Left)))) (aBin_geq ..) ?_
 refine .bg (fun t (y : Bool) => ∃ j9 j10 j11 j12 : A, t = [(bA y), j9, j10, j11, j12]) ?_ ?_
 ·refine .biH (fun hk7 => ?_) (fun hk7 => ?_)
  ·refine .s (A.ptr 0 2) (.s (iA a0.Left) ?_)
   refine .st (v := (bA (decide (a0.Left < ((a0.Pending.length : Int)))))) (aBin_lss ..) ?_
   exact .lg ⟨_, _, _, _, rfl⟩
  exact .lg ⟨_, _, _, _, rfl⟩
 rintro _ y8 ⟨j9, j10, j11, j12, rfl⟩
 iterate 5 refine .uc ?_
 refine .biHN (fun hk13 => ?_) (fun hk13 => ?_)
 ·refine .s (A.ptr 0 2) (.s (iA a0.Left) (.s ((A.ptr 2 0), [Blk.box (c_S_Disk a0), bz4, bz4]) (.s (A.imm [] true) (.s (A.ptr 0 0) (.s (A.imm (List.map (cL c8) a0.Sectors) false) ?_)))))
  refine .bd (g := fun (y : List (List UInt8)) => ((A.sl 3 0 y.length false), [Blk.box (c_S_Disk a0), bz4, bz4, Blk.row true 1 (List.map (cL c8) y)])) (wrow_app (e := 35) (es := 1) (by_ := 24) (z := [(A.imm [] true)]) (by kernel_rfl) (by kernel_rfl) (by kernel_rfl) (by kernel_rfl) rfl (by decide) (by decide) (by kernel_rfl) (f := (cL c8)) (fun _ => rfl) ce_cL (l2 := a0.Sectors) (els_imm ..)) fun y14 => ?_
  refine .cT (by kernel_rfl) ?_
  refine .s (A.ptr 0 2) ?_
  refine .cT (by kernel_rfl) ?_
  refine .s (iA a0.Left) (.s (A.agg [(A.sl 3 0 y14.length false), (A.imm [] true), (iA a0.Left), (bA false)]) (.s [Blk.box (c_S_Disk a0), bz4, Blk.box [(A.sl 3 0 y14.length false), (A.imm [] true), (iA a0.Left), (bA false)], Blk.row true 1 (List.map (cL c8) y14)] ?_))
  refine .as (T48_48_0 C n h33 0 a0.Left y8 a0 ([]) ([]) 0 false y14.length ([]) a0.Left false _ _ _ _ ?_ _ 0 y14)
  ·intro y35 y36 j37 j38
   refine .un rfl ?_
   refine .cT (by kernel_rfl) ?_
   refine .bKTN hk13 ?_
   refine .s (A.ptr 0 1) (.s (A.imm (List.map c_S_Write a0.Pending) false) ?_)
   refine .bd (g := fun (y : S_Write) => A.ip (c_S_Write y)) (idx_imm (e := 76) (es := 2) (h1 := by kernel_rfl) (h2 := by kernel_rfl) (h3 := fun _ => rfl) ..) fun y39 => ?_
   refine .s (A.agg [(iA y39.At), (A.imm (List.map c8 y39.Data) false)]) (.s ((A.ptr 4 0), [Blk.box (c_S_Disk a0), bz4, (hk48_2 y35 a0), Blk.row true 1 (List.map (cL c8) y36), Blk.box [(iA 0), (A.imm [] true)]]) (.s [Blk.box (c_S_Disk a0), bz4, (hk48_2 y35 a0), Blk.row true 1 (List.map (cL c8) y36), Blk.box [(iA y39.At), (A.imm (List.map c8 y39.Data) false)]] (.s (A.ptr 2 0) (.s (A.sl 3 0 y35 false) (.s (A.ptr 4 0) (.s (iA y39.At) (.s (A.imm [] true) (.s (A.ptr 4 1) (.s (A.imm (List.map c8 y39.Data) false) ?_)))))))))
   refine .bd (g := fun (y : List UInt8) => (A.imm (List.map c8 y) false)) (cut_imm (e := 5) (es := 1) (f := c8) (l := y39.Data) (a := 0) (b := 64) (by kernel_rfl) (by kernel_rfl) (fun _ => rfl) (.inl ⟨rfl, rfl⟩) (.inr ⟨_, rfl⟩)) fun y40 => ?_
   refine .cT (by kernel_rfl) ?_
   refine .bd (g := fun (y : List UInt8) => ((A.sl 5 0 y.length false), [Blk.box (c_S_Disk a0), bz4, (hk48_2 y35 a0), Blk.row true 1 (List.map (cL c8) y36), Blk.box [(iA y39.At), (A.imm (List.map c8 y39.Data) false)], Blk.row false 1 (List.map c8 y)])) (app_imm (e := 5) (es := 1) (by_ := 1) (z := [(uA 0)]) (by kernel_rfl) (by kernel_rfl) (by kernel_rfl) (by kernel_rfl) rfl (by decide) (by decide) (by kernel_rfl) (f := c8) (fun _ => rfl) ce_c8 (l := []) (l2 := y40) (els_imm ..)) fun y41 => ?_
   refine .cT (by kernel_rfl) ?_
   refine .s (A.ptr 2 0) ?_
   refine .cT (by kernel_rfl) ?_
   refine .s (A.sl 3 0 y35 false) ?_
   refine .cT (by kernel_rfl) ?_
   refine .s (A.ptr 4 0) ?_
   refine .cT (by kernel_rfl) ?_
   refine .s (iA y39.At) ?_
   refine .cT (by kernel_rfl) ?_
   refine .bd (g := fun (y : Nat) => A.ep 3 y 0) (wrow_idx0 (e := 35) (es := 1) (l := y36) (by kernel_rfl) (by kernel_rfl) rfl) fun k42 => ?_
   refine .cT (by kernel_rfl) ?_
   refine .bd (g := fun (y : (List UInt8)) => (A.imm (List.map c8 y) false)) (wrow_load (es := 1) (n := 1) (l := y36) (by kernel_rfl) (by decide) (fun _ => rfl) (by decide) rfl (fun _ => by kernel_rfl)) fun y43 => ?_
   refine .cT (by kernel_rfl) ?_
   refine .bd (g := fun (y : List UInt8) => (A.imm (List.map c8 y) false)) (cut_imm (e := 5) (es := 1) (f := c8) (l := y43) (a := 64) (b := (y43.length : Int)) (by kernel_rfl) (by kernel_rfl) (fun _ => rfl) (.inr ⟨_, rfl⟩) (.inl ⟨rfl, rfl⟩)) fun y44 => ?_
   refine .cT (by kernel_rfl) ?_
   refine .bd (g := fun (y : List UInt8) => ((A.sl 5 0 y.length false), [Blk.box (c_S_Disk a0), bz4, (hk48_2 y35 a0), Blk.row true 1 (List.map (cL c8) y36), Blk.box [(iA y39.At), (A.imm (List.map c8 y39.Data) false)], Blk.row false 1 (List.map c8 y)])) (app_row (e := 5) (es := 1) (by_ := 1) (z := [(uA 0)]) (by kernel_rfl) (by kernel_rfl) (by kernel_rfl) (by kernel_rfl) rfl (by decide) (by decide) (by kernel_rfl) (f := c8) (fun _ => rfl) ce_c8 (l := y41) (l2 := y44) (b := 5) rfl (by decide) (els_imm ..)) fun y45 => ?_
   refine .bd (g := fun (y : Nat) => A.ep 3 y 0) (wrow_idx0 (e := 35) (es := 1) (l := y36) (by kernel_rfl) (by kernel_rfl) rfl) fun k46 => ?_
   refine .bd (g := fun (y : List (List UInt8)) => [Blk.box (c_S_Disk a0), bz4, (hk48_2 y35 a0), Blk.row true 1 (List.map (cL c8) y), Blk.box [(iA y39.At), (A.imm (List.map c8 y39.Data) false)], Blk.row false 1 (List.map c8 y45)]) ((congrArg (fun z => aStore _ _ _ z _ _) (show stV (A.ep 3 k46 0) [Blk.box (c_S_Disk a0), bz4, (hk48_2 y35 a0), Blk.row true 1 (List.map (cL c8) y36), Blk.box [(iA y39.At), (A.imm (List.map c8 y39.Data) false)], Blk.row false 1 (List.map c8 y45)] (A.sl 5 0 y45.length false) = (A.imm (List.map c8 y45) false) from by simp only [stV, frzA, frz1, sn0, snM, snapG_row (H := [Blk.box (c_S_Disk a0), bz4, (hk48_2 y35 a0), Blk.row true 1 (List.map (cL c8) y36), Blk.box [(iA y39.At), (A.imm (List.map c8 y39.Data) false)], Blk.row false 1 (List.map c8 y45)]) (b := 5) (es := 1) (l := y45) fl_c8 rfl])).trans (wrow_store (es := 1) (n := 1) (l := y36) (xs := [(A.imm (List.map c8 y45) false)]) (u := fun (y : (List UInt8)) => y45) (by kernel_rfl) (by kernel_rfl) (by decide) rfl (fun _ => rfl) (by decide) (by decide) rfl (fun _ => rfl))) fun y47 => ?_
   refine .s (A.ptr 2 2) (.s [Blk.box (c_S_Disk a0), bz4, Blk.box [(A.sl 3 0 y35 false), (A.imm [] true), (iA 0), (bA false)], Blk.row true 1 (List.map (cL c8) y47), Blk.box [(iA y39.At), (A.imm (List.map c8 y39.Data) false)], Blk.row false 1 (List.map c8 y45)] (.s (A.ptr 2 3) (.s [Blk.box (c_S_Disk a0), bz4, Blk.box [(A.sl 3 0 y35 false), (A.imm [] true), (iA 0), (bA true)], Blk.row true 1 (List.map (cL c8) y47), Blk.box [(iA y39.At), (A.imm (List.map c8 y39.Data) false)], Blk.row false 1 (List.map c8 y45)] (.s (A.agg [(A.sl 3 0 y35 false), (A.imm [] true), (iA 0), (bA true)]) (.s [Blk.box (c_S_Disk a0), Blk.box [(A.sl 3 0 y35 false), (A.imm [] true), (iA 0), (bA true)], Blk.box [(A.sl 3 0 y35 false), (A.imm [] true), (iA 0), (bA true)], Blk.row true 1 (List.map (cL c8) y47), Blk.box [(iA y39.At), (A.imm (List.map c8 y39.Data) false)], Blk.row false 1 (List.map c8 y45)] (.s (A.agg [(A.sl 3 0 y35 false), (A.imm [] true), (iA 0), (bA true)]) ?_))))))
   exact .lf rfl rfl ⟨_, rfl, by show snapE [Blk.box (c_S_Disk a0), Blk.box [(A.sl 3 0 y35 false), (A.imm [] true), (iA 0), (bA true)], Blk.box [(A.sl 3 0 y35 false), (A.imm [] true), (iA 0), (bA true)], Blk.row true 1 (List.map (cL c8) y47), Blk.box [(iA y39.At), (A.imm (List.map c8 y39.Data) false)], Blk.row false 1 (List.map c8 y45)] (A.tup [(A.agg [(A.sl 3 0 y35 false), (A.imm [] true), (iA 0), (bA true)]), (iA 40)]) = _; first | (simp only [sn0, snM, snapE, snapGE_sub (H := [Blk.box (c_S_Disk a0), Blk.box [(A.sl 3 0 y35 false), (A.imm [] true), (iA 0), (bA true)], Blk.box [(A.sl 3 0 y35 false), (A.imm [] true), (iA 0), (bA true)], Blk.row true 1 (List.map (cL c8) y47), Blk.box [(iA y39.At), (A.imm (List.map c8 y39.Data) false)], Blk.row false 1 (List.map c8 y45)]) (b := 3) (es := 1) (wr := true) (l := y47) (fl_cL fl_c8) rfl]; done) | (simp only [sn0, snS, snapE, snapGE_sub (H := [Blk.box (c_S_Disk a0), Blk.box [(A.sl 3 0 y35 false), (A.imm [] true), (iA 0), (bA true)], Blk.box [(A.sl 3 0 y35 false), (A.imm [] true), (iA 0), (bA true)], Blk.row true 1 (List.map (cL c8) y47), Blk.box [(iA y39.At), (A.imm (List.map c8 y39.Data) false)], Blk.row false 1 (List.map c8 y45)]) (b := 3) (es := 1) (wr := true) (l := y47) (fl_cL fl_c8) rfl]; first | done | rfl)⟩
 refine .s ((A.ptr 2 0), [Blk.box (c_S_Disk a0), bz4, bz4]) (.s (A.imm [] true) (.s (A.ptr 0 0) (.s (A.imm (List.map (cL c8) a0.Sectors) false) ?_)))
 refine .bd (g := fun (y : List (List UInt8)) => ((A.sl 3 0 y.length false), [Blk.box (c_S_Disk a0), bz4, bz4, Blk.row true 1 (List.map (cL c8) y)])) (wrow_app (e := 35) (es := 1) (by_ := 24) (z := [(A.imm [] true)]) (by kernel_rfl) (by kernel_rfl) (by kernel_rfl) (by kernel_rfl) rfl (by decide) (by decide) (by kernel_rfl) (f := (cL c8)) (fun _ => rfl) ce_cL (l2 := a0.Sectors) (els_imm ..)) fun y48 => ?_
 refine .cT (by kernel_rfl) ?_
 refine .s (A.ptr 0 2) ?_
 refine .cT (by kernel_rfl) ?_
 refine .s (iA a0.Left) (.s (A.agg [(A.sl 3 0 y48.length false), (A.imm [] true), (iA a0.Left), (bA false)]) (.s [Blk.box (c_S_Disk a0), bz4, Blk.box [(A.sl 3 0 y48.length false), (A.imm [] true), (iA a0.Left), (bA false)], Blk.row true 1 (List.map (cL c8) y48)] ?_))
 refine .as (T48_48_0a C n h33 0 ((a0.Pending.length : Int)) y8 a0 ([]) ([]) 0 false y48.length ([]) a0.Left false _ _ _ _ ?_ _ 0 y48)
 ·intro y69 y70 j71 j72
  refine .un rfl ?_
  refine .cT (by kernel_rfl) ?_
  refine .bKFN hk13 ?_
  refine .s (A.ptr 2 2) (.s (iA a0.Left) ?_)
  refine .st (v := (bA (decide (0 <= a0.Left)))) (aBin_geq ..) ?_
  refine .biHN (fun hk73 => ?_) (fun hk73 => ?_)
  ·refine .s (A.ptr 2 2) (.s (iA a0.Left) ?_)
   refine .st (v := (iA (wr .i64 (a0.Left - ((a0.Pending.length : Int)))))) (aBin_sub ..) ?_
   refine .s (A.ptr 2 2) (.s [Blk.box (c_S_Disk a0), bz4, (hk48_1 y69 a0), Blk.row true 1 (List.map (cL c8) y70)] (.s (A.agg [(A.sl 3 0 y69 false), (A.imm [] true), (iA (wr .i64 (a0.Left - ((a0.Pending.length : Int))))), (bA false)]) (.s [Blk.box (c_S_Disk a0), (hk48_1 y69 a0), (hk48_1 y69 a0), Blk.row true 1 (List.map (cL c8) y70)] (.s (A.agg [(A.sl 3 0 y69 false), (A.imm [] true), (iA (wr .i64 (a0.Left - ((a0.Pending.length : Int))))), (bA false)]) ?_))))
   exact .lf rfl rfl ⟨_, rfl, by show snapE [Blk.box (c_S_Disk a0), (hk48_1 y69 a0), (hk48_1 y69 a0), Blk.row true 1 (List.map (cL c8) y70)] (A.tup [(A.agg [(A.sl 3 0 y69 false), (A.imm [] true), (iA (wr .i64 (a0.Left - ((a0.Pending.length : Int))))), (bA false)]), (iA 0)]) = _; first | (simp only [sn0, snM, snapE, snapGE_sub (H := [Blk.box (c_S_Disk a0), (hk48_1 y69 a0), (hk48_1 y69 a0), Blk.row true 1 (List.map (cL c8) y70)]) (b := 3) (es := 1) (wr := true) (l := y70) (fl_cL fl_c8) rfl]; done) | (simp only [sn0, snS, snapE, snapGE_sub (H := [Blk.box (c_S_Disk a0), (hk48_1 y69 a0), (hk48_1 y69 a0), Blk.row true 1 (List.map (cL c8) y70)]) (b := 3) (es := 1) (wr := true) (l := y70) (fl_cL fl_c8) rfl]; first | done | rfl)⟩
  refine .s (A.agg [(A.sl 3 0 y69 false), (A.imm [] true), (iA a0.Left), (bA false)]) (.s [Blk.box (c_S_Disk a0), (hk48_2 y69 a0), (hk48_2 y69 a0), Blk.row true 1 (List.map (cL c8) y70)] (.s (A.agg [(A.sl 3 0 y69 false), (A.imm [] true), (iA a0.Left), (bA false)]) ?_))
  exact .lf rfl rfl ⟨_, rfl, by show snapE [Blk.box (c_S_Disk a0), (hk48_2 y69 a0), (hk48_2 y69 a0), Blk.row true 1 (List.map (cL c8) y70)] (A.tup [(A.agg [(A.sl 3 0 y69 false), (A.imm [] true), (iA a0.Left), (bA false)]), (iA 0)]) = _; first | (simp only [sn0, snM, snapE, snapGE_sub (H := [Blk.box (c_S_Disk a0), (hk48_2 y69 a0), (hk48_2 y69 a0), Blk.row true 1 (List.map (cL c8) y70)]) (b := 3) (es := 1) (wr := true) (l := y70) (fl_cL fl_c8) rfl]; done) | (simp only [sn0, snS, snapE, snapGE_sub (H := [Blk.box (c_S_Disk a0), (hk48_2 y69 a0), (hk48_2 y69 a0), Blk.row true 1 (List.map (cL c8) y70)]) (b := 3) (es := 1) (wr := true) (l := y70) (fl_cL fl_c8) rfl]; first | done | rfl)⟩
def G48 (a0 : S_Disk) : Option (S_Disk × Int) := F48 fuel0 a0
def Orc48 (C : Nat -> List A -> Option A) : Prop := ∀ (a0 : S_Disk), C 48 [(A.agg (c_S_Disk a0))] = (G48 a0).map fun y => (A.tup [(A.agg [(A.imm (List.map (cL c8) y.1.Sectors) false), (A.imm (List.map c_S_Write y.1.Pending) false), (iA y.1.Left), (bA y.1.Stopped)]), (iA y.2)])
def hk22_1 (y71 : (List (List UInt8))) (y72 : (List S_Write)) (y73 : Int) (y74 : Bool) : Blk := Blk.box [(A.imm (List.map (cL c8) y71) false), (A.imm (List.map c_S_Write y72) false), (iA y73), (bA y74)]
def F22_22_1 (n : Nat) (v41 : Int) (v42 : Int) (v44 : Int) (v45 : (List UInt8)) (v46 : Int) (v48 : S_Journal) (v50 : (List (List UInt8))) (v51 : Int) (v52 : Int) (v53 : (List (List UInt8))) (v54 : (List S_Write)) (v55 : Int) (v56 : Bool) : Nat -> Int -> Int -> S_Disk -> Option (Int × (List (List UInt8)) × (List S_Write) × Int × Bool)
 | 0, _, _, _ => none
 | m + 1, v43, v47, v49 => bif (decide (v47 < v46)) then ((subI v45 (wr .i64 (v47 * 112)) ((if wr .i64 ((wr .i64 (v47 + 1)) * 112) < (v45.length : Int) then wr .i64 ((wr .i64 (v47 + 1)) * 112) else (v45.length : Int)))).bind fun y58 => (G47 v42 v43 (v47 == 0) (v47 == (wr .i64 (v46 - 1))) y58).bind fun y59 => (G46 v49 v43 y59).bind fun y60 => F22_22_1 n v41 v42 v44 v45 v46 v48 v50 v51 v52 v53 v54 v55 v56 m (wr .i64 (v43 + 1)) (wr .i64 (v47 + 1)) y60.1) else (some ((v43, v49.Sectors, v49.Pending, v49.Left, v49.Stopped)))
theorem T22_22_1 (C : Nat -> List A -> Option A) (n : Nat) (h18 : Orc18 C) (h24 : Orc24 C) (h33 : Orc33 C) (h34 : Orc34 C) (h39 : Orc39 C) (h40 : Orc40 C) (h45 : Orc45 C) (h46 : Orc46 C) (h47 : Orc47 C) (h48 : Orc48 C) (v41 : Int) (v42 : Int) (v44 : Int) (v45 : (List UInt8)) (v46 : Int) (v48 : S_Journal) (v50 : (List (List UInt8))) (v51 : Int) (v52 : Int) (v53 : (List (List UInt8))) (v54 : (List S_Write)) (v55 : Int) (v56 : Bool) {ρ γ : Type} {φ : ρ -> γ -> Prop} {kL : R -> Option ρ} {K : (Int × (List (List UInt8)) × (List S_Write) × Int × Bool) -> Option γ} (kx kg : Nat -> St -> Option R) (kr : St -> Option R) (kp : A -> St -> Option R) (x0 : ∀ (o0 : Int) (o1 : (List (List UInt8))) (o2 : (List S_Write)) (o3 : Int) (o4 : Bool) (s12 : A) (s13 : A) (s14 : A), J φ (kx 2 (St.mk [(2, (A.ptr 0 0)), (3, (A.ptr 1 0)), (4, (A.ptr 2 0)), (5, (A.ptr 3 0)), (6, (iA v41)), (9, (A.v (.int .u64 v42))), (10, (iA o0)), (11, (iA v44)), (12, s12), (13, s13), (14, s14)] [Blk.box (c_S_Journal v48), Blk.box [(A.imm (List.map (cL c8) o1) false), (A.imm (List.map c_S_Write o2) false), (iA o3), (bA o4)], Blk.box [(A.imm (List.map (cL c8) v50) true), (iA v51), (iA v52)], Blk.box [(A.imm (List.map (cL c8) v53) true), (A.imm (List.map c_S_Write v54) true), (iA v55), (bA v56)]])) kL (K (o0, o1, o2, o3, o4)) some) :
  ∀ (m : Nat) (v43 : Int) (v47 : Int) (v49 : S_Disk), J φ (loopR (cx C) (ec C n 8) (ey C n 8) (n+8) 22 0 1 4 kx kg kr kp m (St.mk [(2, (A.ptr 0 0)), (3, (A.ptr 1 0)), (4, (A.ptr 2 0)), (5, (A.ptr 3 0)), (6, (iA v41)), (9, (A.v (.int .u64 v42))), (10, (iA v43)), (11, (iA v44)), (12, (A.imm (List.map c8 v45) false)), (13, (iA v46)), (14, (iA v47))] [Blk.box (c_S_Journal v48), Blk.box (c_S_Disk v49), Blk.box [(A.imm (List.map (cL c8) v50) true), (iA v51), (iA v52)], Blk.box [(A.imm (List.map (cL c8) v53) true), (A.imm (List.map c_S_Write v54) true), (iA v55), (bA v56)]])) kL (F22_22_1 n v41 v42 v44 v45 v46 v48 v50 v51 v52 v53 v54 v55 v56 m v43 v47 v49) K := by
 intro m
 induction m with
 | zero => intros; exact .nn
 | succ m ih =>
  intro v43 v47 v49
  refine .lp (e22_1 ..) ?_
  unfold F22_22_1
  refine .st (v := (bA (decide (v47 < v46)))) (aBin_lss ..) ?_
  refine .biHN (fun hk57 => ?_) (fun hk57 => ?_)
  ·refine .st (v := (iA (wr .i64 (v47 * 112)))) (aBin_mul ..) ?_
   refine .st (v := (iA ((v45.length : Int)))) (len_imm (e := 5) (h1 := by kernel_rfl) ..) ?_
   refine .st (v := (iA (wr .i64 (v47 + 1)))) (aBin_add ..) ?_
   refine .st (v := (iA (wr .i64 ((wr .i64 (v47 + 1)) * 112)))) (aBin_mul ..) ?_
   refine .s (iA ((if wr .i64 ((wr .i64 (v47 + 1)) * 112) < (v45.length : Int) then wr .i64 ((wr .i64 (v47 + 1)) * 112) else (v45.length : Int)))) ?_
   refine .bd (g := fun (y : List UInt8) => (A.imm (List.map c8 y) false)) (cut_imm (e := 5) (es := 1) (f := c8) (l := v45) (a := wr .i64 (v47 * 112)) (b := (if wr .i64 ((wr .i64 (v47 + 1)) * 112) < (v45.length : Int) then wr .i64 ((wr .i64 (v47 + 1)) * 112) else (v45.length : Int))) (by kernel_rfl) (by kernel_rfl) (fun _ => rfl) (.inr ⟨_, rfl⟩) (.inr ⟨_, rfl⟩)) fun y58 => ?_
   refine .s (A.agg (c_S_Disk v49)) ?_
   refine .st (v := (bA (v47 == 0))) (aBin_eql ..) ?_
   refine .st (v := (iA (wr .i64 (v46 - 1)))) (aBin_sub ..) ?_
   refine .st (v := (bA (v47 == (wr .i64 (v46 - 1))))) (aBin_eql ..) ?_
   refine .bd (g := fun (y : (List UInt8)) => (A.imm (List.map c8 y) false)) (by show C 47 [snap _ (A.v (.int .u64 v42)), snap _ (iA v43), snap _ (bA (v47 == 0)), snap _ (bA (v47 == (wr .i64 (v46 - 1)))), snap _ (A.imm (List.map c8 y58) false)] = _; simp only [sn0, snM]; exact h47 v42 v43 (v47 == 0) (v47 == (wr .i64 (v46 - 1))) y58) fun y59 => ?_
   refine .bd (g := fun (y : (S_Disk × Int)) => (A.tup [(A.agg [(A.imm (List.map (cL c8) y.1.Sectors) false), (A.imm (List.map c_S_Write y.1.Pending) false), (iA y.1.Left), (bA y.1.Stopped)]), (iA y.2)])) (by show C 46 [snap _ (A.agg (c_S_Disk v49)), snap _ (iA v43), snap _ (A.imm (List.map c8 y59) false)] = _; simp only [sn0, snM]; exact h46 v49 v43 y59) fun y60 => ?_
   refine .s (A.agg (c_S_Disk y60.1)) (.s (iA y60.2) (.s [Blk.box (c_S_Journal v48), Blk.box (c_S_Disk y60.1), Blk.box [(A.imm (List.map (cL c8) v50) true), (iA v51), (iA v52)], Blk.box [(A.imm (List.map (cL c8) v53) true), (A.imm (List.map c_S_Write v54) true), (iA v55), (bA v56)]] ?_))
   refine .st (v := (iA (wr .i64 (v43 + 1)))) (aBin_add ..) ?_
   refine .st (v := (iA (wr .i64 (v47 + 1)))) (aBin_add ..) ?_
   refine .s [Blk.box (c_S_Journal v48), Blk.box (c_S_Disk y60.1), Blk.box [(A.imm (List.map (cL c8) v50) true), (iA v51), (iA v52)], Blk.box [(A.imm (List.map (cL c8) v53) true), (A.imm (List.map c_S_Write v54) true), (iA v55), (bA v56)]] ?_
   refine .cT (by kernel_rfl) ?_
   exact ih _ _ _
  exact .ex (x0 _ _ _ _ _ _ _ _)
def F22_22_0 (n : Nat) (v25 : Int) (v26 : Int) (v29 : S_Journal) (v31 : (List (List UInt8))) (v32 : Int) (v33 : Int) (v34 : (List (List UInt8))) (v35 : (List S_Write)) (v36 : Int) (v37 : Bool) : Nat -> Int -> Int -> S_Disk -> Option ((List (List UInt8)) × (List S_Write) × Int × Bool)
 | 0, _, _, _ => none
 | m + 1, v27, v28, v30 => bif (decide (v28 < ((v29.Records.length : Int)))) then ((getI v29.Records v28).bind fun y39 => (G39 ((y39.length : Int))).bind fun y40 => (F22_22_1 n v25 v26 v28 y39 y40 v29 v31 v32 v33 v34 v35 v36 v37 (n+8) v27 0 v30).bind fun o61 => match o61 with | (y62, y63, y64, y65, y66) => F22_22_0 n v25 v26 v29 v31 v32 v33 v34 v35 v36 v37 m y62 (wr .i64 (v28 + 1)) ((S_Disk.mk y63 y64 y65 y66))) else (some ((v30.Sectors, v30.Pending, v30.Left, v30.Stopped)))
theorem T22_22_0 (C : Nat -> List A -> Option A) (n : Nat) (h18 : Orc18 C) (h24 : Orc24 C) (h33 : Orc33 C) (h34 : Orc34 C) (h39 : Orc39 C) (h40 : Orc40 C) (h45 : Orc45 C) (h46 : Orc46 C) (h47 : Orc47 C) (h48 : Orc48 C) (v25 : Int) (v26 : Int) (v29 : S_Journal) (v31 : (List (List UInt8))) (v32 : Int) (v33 : Int) (v34 : (List (List UInt8))) (v35 : (List S_Write)) (v36 : Int) (v37 : Bool) {ρ γ : Type} {φ : ρ -> γ -> Prop} {kL : R -> Option ρ} {K : ((List (List UInt8)) × (List S_Write) × Int × Bool) -> Option γ} (kx kg : Nat -> St -> Option R) (kr : St -> Option R) (kp : A -> St -> Option R) (x0 : ∀ (o0 : (List (List UInt8))) (o1 : (List S_Write)) (o2 : Int) (o3 : Bool) (s6 : A) (s9 : A) (s10 : A) (s11 : A), J φ (kx 0 (St.mk [(2, (A.ptr 0 0)), (3, (A.ptr 1 0)), (4, (A.ptr 2 0)), (5, (A.ptr 3 0)), (6, s6), (9, s9), (10, s10), (11, s11)] [Blk.box (c_S_Journal v29), Blk.box [(A.imm (List.map (cL c8) o0) false), (A.imm (List.map c_S_Write o1) false), (iA o2), (bA o3)], Blk.box [(A.imm (List.map (cL c8) v31) true), (iA v32), (iA v33)], Blk.box [(A.imm (List.map (cL c8) v34) true), (A.imm (List.map c_S_Write v35) true), (iA v36), (bA v37)]])) kL (K (o0, o1, o2, o3)) some) :
  ∀ (m : Nat) (v27 : Int) (v28 : Int) (v30 : S_Disk), J φ (loopR (cx C) (ec C n 8) (ey C n 8) (n+8) 22 0 0 4 kx kg kr kp m (St.mk [(2, (A.ptr 0 0)), (3, (A.ptr 1 0)), (4, (A.ptr 2 0)), (5, (A.ptr 3 0)), (6, (iA v25)), (9, (A.v (.int .u64 v26))), (10, (iA v27)), (11, (iA v28))] [Blk.box (c_S_Journal v29), Blk.box (c_S_Disk v30), Blk.box [(A.imm (List.map (cL c8) v31) true), (iA v32), (iA v33)], Blk.box [(A.imm (List.map (cL c8) v34) true), (A.imm (List.map c_S_Write v35) true), (iA v36), (bA v37)]])) kL (F22_22_0 n v25 v26 v29 v31 v32 v33 v34 v35 v36 v37 m v27 v28 v30) K := by
 intro m
 induction m with
 | zero => intros; exact .nn
 | succ m ih =>
  intro v27 v28 v30
  refine .lp (e22_0 ..) ?_
  unfold F22_22_0
  refine .s (A.ptr 0 0) (.s (A.imm (List.map (cL c8) v29.Records) false) ?_)
  refine .st (v := (iA ((v29.Records.length : Int)))) (len_imm (e := 35) (h1 := by kernel_rfl) ..) ?_
  refine .st (v := (bA (decide (v28 < ((v29.Records.length : Int)))))) (aBin_lss ..) ?_
  refine .biHN (fun hk38 => ?_) (fun hk38 => ?_)
  ·refine .s (A.ptr 0 0) (.s (A.imm (List.map (cL c8) v29.Records) false) ?_)
   refine .bd (g := fun (y : (List UInt8)) => A.ip ((cL c8) y)) (idx_imm (e := 35) (es := 1) (h1 := by kernel_rfl) (h2 := by kernel_rfl) (h3 := fun _ => rfl) ..) fun y39 => ?_
   refine .s (A.imm (List.map c8 y39) false) ?_
   refine .st (v := (iA ((y39.length : Int)))) (len_imm (e := 5) (h1 := by kernel_rfl) ..) ?_
   refine .bd (g := fun (y : Int) => (iA y)) (h39 ((y39.length : Int))) fun y40 => ?_
   refine .as (T22_22_1 C n h18 h24 h33 h34 h39 h40 h45 h46 h47 h48 v25 v26 v28 y39 y40 v29 v31 v32 v33 v34 v35 v36 v37 _ _ _ _ ?_ _ v27 0 v30)
   ·intro y62 y63 y64 y65 y66 j67 j68 j69
    refine .un rfl ?_
    refine .cT (by kernel_rfl) ?_
    refine .st (v := (iA (wr .i64 (v28 + 1)))) (aBin_add ..) ?_
    refine .s [Blk.box (c_S_Journal v29), Blk.box [(A.imm (List.map (cL c8) y63) false), (A.imm (List.map c_S_Write y64) false), (iA y65), (bA y66)], Blk.box [(A.imm (List.map (cL c8) v31) true), (iA v32), (iA v33)], Blk.box [(A.imm (List.map (cL c8) v34) true), (A.imm (List.map c_S_Write v35) true), (iA v36), (bA v37)]] ?_
    refine .cT (by kernel_rfl) ?_
    exact ih _ _ _
  exact .ex (x0 _ _ _ _ _ _ _ _)
def F22 (n : Nat) (a0 : S_Journal) (a1 : S_Disk) : Option (S_Journal × S_Disk × Int) :=
 (G18 a0).bind fun y1 => bif (y1 != 0) then (some (((S_Journal.mk ([]) 0 0), (S_Disk.mk ([]) ([]) 0 false), y1))) else ((G33 a1).bind fun y3 => bif (y3 != 0) then (some (((S_Journal.mk ([]) 0 0), (S_Disk.mk ([]) ([]) 0 false), y3))) else (bif a1.Stopped then (some (((S_Journal.mk ([]) 0 0), (S_Disk.mk ([]) ([]) 0 false), 40))) else ((bif (a0.Many != ((a1.Sectors.length : Int))) then (some true) else (some (decide (0 < ((a1.Pending.length : Int)))))).bind fun y7 => bif y7 then (some (((S_Journal.mk ([]) 0 0), (S_Disk.mk ([]) ([]) 0 false), 1))) else ((G45 a1.Sectors).bind fun y13 => (G34 a1.Sectors).bind fun y14 => (subI a0.Records 0 a0.Synced).bind fun y15 => (G24 y14 y15).bind fun y16 => (bif (!y16) then (some true) else (some (decide (4294967295 < y13)))).bind fun y18 => bif y18 then (some (((S_Journal.mk ([]) 0 0), (S_Disk.mk ([]) ([]) 0 false), 50))) else (bif (a0.Synced == ((a0.Records.length : Int))) then (some ((a0, a1, 0))) else ((subI a0.Records 0 a0.Synced).bind fun y23 => (G40 y23).bind fun y24 => (F22_22_0 n 0 y13 a0 ([]) 0 0 ([]) ([]) 0 false (n+8) y24 a0.Synced a1).bind fun o70 => match o70 with | (y71, y72, y73, y74) => (G48 ((S_Disk.mk y71 y72 y73 y74))).bind fun y79 => bif (y79.2 != 0) then (some (((S_Journal.mk ([]) 0 0), y79.1, y79.2))) else (some (((S_Journal.mk a0.Records a0.Many ((a0.Records.length : Int))), y79.1, 0)))))))))
theorem T22 (C : Nat -> List A -> Option A) (n : Nat) (h18 : Orc18 C) (h24 : Orc24 C) (h33 : Orc33 C) (h34 : Orc34 C) (h39 : Orc39 C) (h40 : Orc40 C) (h45 : Orc45 C) (h46 : Orc46 C) (h47 : Orc47 C) (h48 : Orc48 C) (a0 : S_Journal) (a1 : S_Disk) : J (fun (o : R) y => ∃ v, o.1 = .ret v /\ snapE o.2 v = (A.tup [(A.agg [(A.imm (List.map (cL c8) y.1.Records) false), (iA y.1.Many), (iA y.1.Synced)]), (A.agg [(A.imm (List.map (cL c8) y.2.1.Sectors) false), (A.imm (List.map c_S_Write y.2.1.Pending) false), (iA y.2.1.Left), (bA y.2.1.Stopped)]), (iA y.2.2)])) (evCall1 (cx C) (ec C n 8) (ey C n 8) (n+8) 22 [(A.agg (c_S_Journal a0)), (A.agg (c_S_Disk a1))] [] 0) some (F22 n a0 a1) some := by
 refine .lp (e22 ..) ?_
 unfold F22
 refine .s ((A.ptr 0 0), [Blk.box (c_S_Journal a0)]) (.s ((A.ptr 1 0), [Blk.box (c_S_Journal a0), Blk.box (c_S_Disk a1)]) (.s ((A.ptr 2 0), [Blk.box (c_S_Journal a0), Blk.box (c_S_Disk a1), bz3]) (.s ((A.ptr 3 0), [Blk.box (c_S_Journal a0), Blk.box (c_S_Disk a1), bz3, bz4]) (.s (A.agg (c_S_Journal a0)) ?_))))
 refine .bd (g := fun (y : Int) => (iA y)) (by show C 18 [snap _ (A.agg (c_S_Journal a0))] = _; simp only [sn0, snM]; exact h18 a0) fun y1 => ?_
 refine .st (v := (bA (y1 != 0))) (aBin_neq ..) ?_
 refine .biHN (fun hk2 => ?_) (fun hk2 => ?_)
 ·refine .s (A.agg [(A.imm [] true), (iA 0), (iA 0)]) (.s (A.agg [(A.imm [] true), (A.imm [] true), (iA 0), (bA false)]) (.s [Blk.box (c_S_Journal a0), Blk.box (c_S_Disk a1), bz3, bz4] (.s [Blk.box (c_S_Journal a0), Blk.box (c_S_Disk a1), bz3, bz4] (.s (A.agg [(A.imm [] true), (iA 0), (iA 0)]) (.s (A.agg [(A.imm [] true), (A.imm [] true), (iA 0), (bA false)]) ?_)))))
  exact .lf rfl rfl ⟨_, rfl, by show snapE _ (A.tup [(A.agg [(A.imm [] true), (iA 0), (iA 0)]), (A.agg [(A.imm [] true), (A.imm [] true), (iA 0), (bA false)]), (iA y1)]) = _; first | (simp only [sn0, snM, snapE]; done) | (simp only [sn0, snS, snapE]; first | done | rfl)⟩
 refine .s (A.agg (c_S_Disk a1)) ?_
 refine .bd (g := fun (y : Int) => (iA y)) (by show C 33 [snap _ (A.agg (c_S_Disk a1))] = _; simp only [sn0, snM]; exact h33 a1) fun y3 => ?_
 refine .st (v := (bA (y3 != 0))) (aBin_neq ..) ?_
 refine .biHN (fun hk4 => ?_) (fun hk4 => ?_)
 ·refine .s (A.agg [(A.imm [] true), (iA 0), (iA 0)]) (.s (A.agg [(A.imm [] true), (A.imm [] true), (iA 0), (bA false)]) (.s [Blk.box (c_S_Journal a0), Blk.box (c_S_Disk a1), bz3, bz4] (.s [Blk.box (c_S_Journal a0), Blk.box (c_S_Disk a1), bz3, bz4] (.s (A.agg [(A.imm [] true), (iA 0), (iA 0)]) (.s (A.agg [(A.imm [] true), (A.imm [] true), (iA 0), (bA false)]) ?_)))))
  exact .lf rfl rfl ⟨_, rfl, by show snapE _ (A.tup [(A.agg [(A.imm [] true), (iA 0), (iA 0)]), (A.agg [(A.imm [] true), (A.imm [] true), (iA 0), (bA false)]), (iA y3)]) = _; first | (simp only [sn0, snM, snapE]; done) | (simp only [sn0, snS, snapE]; first | done | rfl)⟩
 refine .s (A.ptr 1 3) (.s (bA a1.Stopped) ?_)
 refine .biHN (fun hk5 => ?_) (fun hk5 => ?_)
 ·refine .s (A.agg [(A.imm [] true), (iA 0), (iA 0)]) (.s (A.agg [(A.imm [] true), (A.imm [] true), (iA 0), (bA false)]) (.s [Blk.box (c_S_Journal a0), Blk.box (c_S_Disk a1), bz3, bz4] (.s [Blk.box (c_S_Journal a0), Blk.box (c_S_Disk a1), bz3, bz4] (.s (A.agg [(A.imm [] true), (iA 0), (iA 0)]) (.s (A.agg [(A.imm [] true), (A.imm [] true), (iA 0), (bA false)]) ?_)))))
  exact .lf rfl rfl ⟨_, rfl, by show snapE _ (A.tup [(A.agg [(A.imm [] true), (iA 0), (iA 0)]), (A.agg [(A.imm [] true), (A.imm [] true), (iA 0), (bA false)]), (iA 40)]) = _; first | (simp only [sn0, snM, snapE]; done) | (simp only [sn0, snS, snapE]; first | done | rfl)⟩
 refine .s (A.ptr 0 1) (.s (iA a0.Many) (.s (A.ptr 1 0) (.s (A.imm (List.map (cL c8) a1.Sectors) false) ?_)))
 refine .st (v := (iA ((a1.Sectors.length : Int)))) (len_imm (e := 35) (h1 := by kernel_rfl) ..) ?_
 refine .st (v := (bA (a0.Many != ((a1.Sectors.length : Int))))) (aBin_neq ..) ?_
 refine .bg (fun t (y : Bool) => ∃ j8 j9 j10 j11 : A, t = [(bA y), j8, j9, j10, j11]) ?_ ?_
 ·refine .biH (fun hk6 => ?_) (fun hk6 => ?_)
  ·exact .lg ⟨_, _, _, _, rfl⟩
  refine .s (A.ptr 1 1) (.s (A.imm (List.map c_S_Write a1.Pending) false) ?_)
  refine .st (v := (iA ((a1.Pending.length : Int)))) (len_imm (e := 76) (h1 := by kernel_rfl) ..) ?_
  refine .st (v := (bA (decide (0 < ((a1.Pending.length : Int)))))) (aBin_gtr ..) ?_
  exact .lg ⟨_, _, _, _, rfl⟩
 rintro _ y7 ⟨j8, j9, j10, j11, rfl⟩
 iterate 5 refine .uc ?_
 refine .biHN (fun hk12 => ?_) (fun hk12 => ?_)
 ·refine .s (A.agg [(A.imm [] true), (iA 0), (iA 0)]) (.s (A.agg [(A.imm [] true), (A.imm [] true), (iA 0), (bA false)]) (.s [Blk.box (c_S_Journal a0), Blk.box (c_S_Disk a1), bz3, bz4] (.s [Blk.box (c_S_Journal a0), Blk.box (c_S_Disk a1), bz3, bz4] (.s (A.agg [(A.imm [] true), (iA 0), (iA 0)]) (.s (A.agg [(A.imm [] true), (A.imm [] true), (iA 0), (bA false)]) ?_)))))
  exact .lf rfl rfl ⟨_, rfl, by show snapE _ (A.tup [(A.agg [(A.imm [] true), (iA 0), (iA 0)]), (A.agg [(A.imm [] true), (A.imm [] true), (iA 0), (bA false)]), (iA 1)]) = _; first | (simp only [sn0, snM, snapE]; done) | (simp only [sn0, snS, snapE]; first | done | rfl)⟩
 refine .s (A.ptr 1 0) (.s (A.imm (List.map (cL c8) a1.Sectors) false) ?_)
 refine .bd (g := fun (y : Int) => (A.v (.int .u64 y))) (by show C 45 [snap _ (A.imm (List.map (cL c8) a1.Sectors) false)] = _; simp only [sn0, snM]; exact h45 a1.Sectors) fun y13 => ?_
 refine .s (A.ptr 1 0) (.s (A.imm (List.map (cL c8) a1.Sectors) false) ?_)
 refine .bd (g := fun (y : (List (List UInt8))) => (A.imm (List.map (cL c8) y) false)) (by show C 34 [snap _ (A.imm (List.map (cL c8) a1.Sectors) false)] = _; simp only [sn0, snM]; exact h34 a1.Sectors) fun y14 => ?_
 refine .s (A.ptr 0 0) (.s (A.imm (List.map (cL c8) a0.Records) false) (.s (A.ptr 0 2) (.s (iA a0.Synced) ?_)))
 refine .bd (g := fun (y : List (List UInt8)) => (A.imm (List.map (cL c8) y) false)) (cut_imm (e := 35) (es := 1) (f := (cL c8)) (l := a0.Records) (a := 0) (b := a0.Synced) (by kernel_rfl) (by kernel_rfl) (fun _ => rfl) (.inl ⟨rfl, rfl⟩) (.inr ⟨_, rfl⟩)) fun y15 => ?_
 refine .bd (g := fun (y : Bool) => (bA y)) (by show C 24 [snap _ (A.imm (List.map (cL c8) y14) false), snap _ (A.imm (List.map (cL c8) y15) false)] = _; simp only [sn0, snM]; exact h24 y14 y15) fun y16 => ?_
 refine .s (bA (!y16)) ?_
 refine .bg (fun t (y : Bool) => ∃ j19 j20 : A, t = [(bA y), j19, j20]) ?_ ?_
 ·refine .biH (fun hk17 => ?_) (fun hk17 => ?_)
  ·exact .lg ⟨_, _, rfl⟩
  refine .st (v := (bA (decide (4294967295 < y13)))) (aBin_gtr ..) ?_
  exact .lg ⟨_, _, rfl⟩
 rintro _ y18 ⟨j19, j20, rfl⟩
 iterate 3 refine .uc ?_
 refine .biHN (fun hk21 => ?_) (fun hk21 => ?_)
 ·refine .s (A.agg [(A.imm [] true), (iA 0), (iA 0)]) (.s (A.agg [(A.imm [] true), (A.imm [] true), (iA 0), (bA false)]) (.s [Blk.box (c_S_Journal a0), Blk.box (c_S_Disk a1), bz3, bz4] (.s [Blk.box (c_S_Journal a0), Blk.box (c_S_Disk a1), bz3, bz4] (.s (A.agg [(A.imm [] true), (iA 0), (iA 0)]) (.s (A.agg [(A.imm [] true), (A.imm [] true), (iA 0), (bA false)]) ?_)))))
  exact .lf rfl rfl ⟨_, rfl, by show snapE _ (A.tup [(A.agg [(A.imm [] true), (iA 0), (iA 0)]), (A.agg [(A.imm [] true), (A.imm [] true), (iA 0), (bA false)]), (iA 50)]) = _; first | (simp only [sn0, snM, snapE]; done) | (simp only [sn0, snS, snapE]; first | done | rfl)⟩
 refine .s (A.ptr 0 2) (.s (iA a0.Synced) (.s (A.ptr 0 0) (.s (A.imm (List.map (cL c8) a0.Records) false) ?_)))
 refine .st (v := (iA ((a0.Records.length : Int)))) (len_imm (e := 35) (h1 := by kernel_rfl) ..) ?_
 refine .st (v := (bA (a0.Synced == ((a0.Records.length : Int))))) (aBin_eql ..) ?_
 refine .biHN (fun hk22 => ?_) (fun hk22 => ?_)
 ·refine .s (A.agg (c_S_Journal a0)) (.s (A.agg (c_S_Disk a1)) ?_)
  refine .cT (by kernel_rfl) ?_
  refine .s [Blk.box (c_S_Journal a0), Blk.box (c_S_Disk a1), Blk.box (c_S_Journal a0), bz4] (.s [Blk.box (c_S_Journal a0), Blk.box (c_S_Disk a1), Blk.box (c_S_Journal a0), Blk.box (c_S_Disk a1)] (.s (A.agg (c_S_Journal a0)) (.s (A.agg (c_S_Disk a1)) ?_)))
  exact .lf rfl rfl ⟨_, rfl, by show snapE _ (A.tup [(A.agg (c_S_Journal a0)), (A.agg (c_S_Disk a1)), (iA 0)]) = _; first | (simp only [sn0, snM, snapE]; done) | (simp only [sn0, snS, snapE]; first | done | rfl)⟩
 refine .s (A.ptr 0 0) (.s (A.imm (List.map (cL c8) a0.Records) false) (.s (A.ptr 0 2) (.s (iA a0.Synced) ?_)))
 refine .bd (g := fun (y : List (List UInt8)) => (A.imm (List.map (cL c8) y) false)) (cut_imm (e := 35) (es := 1) (f := (cL c8)) (l := a0.Records) (a := 0) (b := a0.Synced) (by kernel_rfl) (by kernel_rfl) (fun _ => rfl) (.inl ⟨rfl, rfl⟩) (.inr ⟨_, rfl⟩)) fun y23 => ?_
 refine .bd (g := fun (y : Int) => (iA y)) (by show C 40 [snap _ (A.imm (List.map (cL c8) y23) false)] = _; simp only [sn0, snM]; exact h40 y23) fun y24 => ?_
 refine .s (A.ptr 0 2) (.s (iA a0.Synced) ?_)
 refine .as (T22_22_0 C n h18 h24 h33 h34 h39 h40 h45 h46 h47 h48 0 y13 a0 ([]) 0 0 ([]) ([]) 0 false _ _ _ _ ?_ _ y24 a0.Synced a1)
 ·intro y71 y72 y73 y74 j75 j76 j77 j78
  refine .un rfl ?_
  refine .cT (by kernel_rfl) ?_
  refine .s (A.agg [(A.imm (List.map (cL c8) y71) false), (A.imm (List.map c_S_Write y72) false), (iA y73), (bA y74)]) ?_
  refine .bd (g := fun (y : (S_Disk × Int)) => (A.tup [(A.agg [(A.imm (List.map (cL c8) y.1.Sectors) false), (A.imm (List.map c_S_Write y.1.Pending) false), (iA y.1.Left), (bA y.1.Stopped)]), (iA y.2)])) (by show C 48 [snap _ (A.agg [(A.imm (List.map (cL c8) y71) false), (A.imm (List.map c_S_Write y72) false), (iA y73), (bA y74)])] = _; simp only [sn0, snM]; exact h48 ((S_Disk.mk y71 y72 y73 y74))) fun y79 => ?_
  refine .s (A.agg (c_S_Disk y79.1)) (.s (iA y79.2) (.s ((A.ptr 4 0), [Blk.box (c_S_Journal a0), (hk22_1 y71 y72 y73 y74), bz3, bz4, bz4]) (.s [Blk.box (c_S_Journal a0), (hk22_1 y71 y72 y73 y74), bz3, bz4, Blk.box (c_S_Disk y79.1)] ?_)))
  refine .st (v := (bA (y79.2 != 0))) (aBin_neq ..) ?_
  refine .biHN (fun hk80 => ?_) (fun hk80 => ?_)
  ·refine .s (A.agg [(A.imm [] true), (iA 0), (iA 0)]) (.s (A.agg (c_S_Disk y79.1)) ?_)
   refine .cT (by kernel_rfl) ?_
   refine .s [Blk.box (c_S_Journal a0), (hk22_1 y71 y72 y73 y74), bz3, bz4, Blk.box (c_S_Disk y79.1)] (.s [Blk.box (c_S_Journal a0), (hk22_1 y71 y72 y73 y74), bz3, Blk.box (c_S_Disk y79.1), Blk.box (c_S_Disk y79.1)] (.s (A.agg [(A.imm [] true), (iA 0), (iA 0)]) (.s (A.agg (c_S_Disk y79.1)) ?_)))
   exact .lf rfl rfl ⟨_, rfl, by show snapE _ (A.tup [(A.agg [(A.imm [] true), (iA 0), (iA 0)]), (A.agg (c_S_Disk y79.1)), (iA y79.2)]) = _; first | (simp only [sn0, snM, snapE]; done) | (simp only [sn0, snS, snapE]; first | done | rfl)⟩
  refine .s (A.ptr 0 0) (.s (A.imm (List.map (cL c8) a0.Records) false) ?_)
  refine .st (v := (iA ((a0.Records.length : Int)))) (len_imm (e := 35) (h1 := by kernel_rfl) ..) ?_
  refine .s (A.ptr 0 2) (.s [(hk21_2 a0), (hk22_1 y71 y72 y73 y74), bz3, bz4, Blk.box (c_S_Disk y79.1)] (.s (A.agg [(A.imm (List.map (cL c8) a0.Records) false), (iA a0.Many), (iA ((a0.Records.length : Int)))]) (.s (A.agg (c_S_Disk y79.1)) ?_)))
  refine .cT (by kernel_rfl) ?_
  refine .s [(hk21_2 a0), (hk22_1 y71 y72 y73 y74), (hk21_2 a0), bz4, Blk.box (c_S_Disk y79.1)] (.s [(hk21_2 a0), (hk22_1 y71 y72 y73 y74), (hk21_2 a0), Blk.box (c_S_Disk y79.1), Blk.box (c_S_Disk y79.1)] (.s (A.agg [(A.imm (List.map (cL c8) a0.Records) false), (iA a0.Many), (iA ((a0.Records.length : Int)))]) (.s (A.agg (c_S_Disk y79.1)) ?_)))
  exact .lf rfl rfl ⟨_, rfl, by show snapE _ (A.tup [(A.agg [(A.imm (List.map (cL c8) a0.Records) false), (iA a0.Many), (iA ((a0.Records.length : Int)))]), (A.agg (c_S_Disk y79.1)), (iA 0)]) = _; first | (simp only [sn0, snM, snapE]; done) | (simp only [sn0, snS, snapE]; first | done | rfl)⟩
def G22 (a0 : S_Journal) (a1 : S_Disk) : Option (S_Journal × S_Disk × Int) := F22 fuel0 a0 a1
def Orc22 (C : Nat -> List A -> Option A) : Prop := ∀ (a0 : S_Journal) (a1 : S_Disk), C 22 [(A.agg (c_S_Journal a0)), (A.agg (c_S_Disk a1))] = (G22 a0 a1).map fun y => (A.tup [(A.agg [(A.imm (List.map (cL c8) y.1.Records) false), (iA y.1.Many), (iA y.1.Synced)]), (A.agg [(A.imm (List.map (cL c8) y.2.1.Sectors) false), (A.imm (List.map c_S_Write y.2.1.Pending) false), (iA y.2.1.Left), (bA y.2.1.Stopped)]), (iA y.2.2)])
def F14 (n : Nat) (a0 : S_Journal) (a1 : S_Journal) : Option Bool :=
 (bif (a0.Many == a1.Many) then (some (a0.Synced == a1.Synced)) else (some false)).bind fun y2 => (bif y2 then ((G24 a0.Records a1.Records).bind fun y9 => some y9) else (some false)).bind fun y10 => some y10
theorem T14 (C : Nat -> List A -> Option A) (n : Nat) (h24 : Orc24 C) (a0 : S_Journal) (a1 : S_Journal) : J (fun (o : R) y => ∃ v, o.1 = .ret v /\ snapE o.2 v = (bA y)) (evCall1 (cx C) (ec C n 8) (ey C n 8) (n+8) 14 [(A.agg (c_S_Journal a0)), (A.agg (c_S_Journal a1))] [] 0) some (F14 n a0 a1) some := by
 refine .lp (e14 ..) ?_
 unfold F14
 refine .s ((A.ptr 0 0), [Blk.box (c_S_Journal a0)]) (.s ((A.ptr 1 0), [Blk.box (c_S_Journal a0), Blk.box (c_S_Journal a1)]) (.s (A.ptr 0 1) (.s (iA a0.Many) (.s (A.ptr 1 1) (.s (iA a1.Many) ?_)))))
 refine .st (v := (bA (a0.Many == a1.Many))) (aBin_eql ..) ?_
 refine .bg (fun t (y : Bool) => ∃ j3 j4 j5 j6 j7 : A, t = [(bA y), j3, j4, j5, j6, j7]) ?_ ?_
 ·refine .biH (fun hk1 => ?_) (fun hk1 => ?_)
  ·refine .s (A.ptr 0 2) (.s (iA a0.Synced) (.s (A.ptr 1 2) (.s (iA a1.Synced) ?_)))
   refine .st (v := (bA (a0.Synced == a1.Synced))) (aBin_eql ..) ?_
   exact .lg ⟨_, _, _, _, _, rfl⟩
  exact .lg ⟨_, _, _, _, _, rfl⟩
 rintro _ y2 ⟨j3, j4, j5, j6, j7, rfl⟩
 iterate 6 refine .uc ?_
 refine .bg (fun t (y : Bool) => ∃ j11 j12 j13 j14 j15 : A, t = [(bA y), j11, j12, j13, j14, j15]) ?_ ?_
 ·refine .biH (fun hk8 => ?_) (fun hk8 => ?_)
  ·refine .s (A.ptr 0 0) (.s (A.imm (List.map (cL c8) a0.Records) false) (.s (A.ptr 1 0) (.s (A.imm (List.map (cL c8) a1.Records) false) ?_)))
   refine .bd (g := fun (y : Bool) => (bA y)) (by show C 24 [snap _ (A.imm (List.map (cL c8) a0.Records) false), snap _ (A.imm (List.map (cL c8) a1.Records) false)] = _; simp only [sn0, snM]; exact h24 a0.Records a1.Records) fun y9 => ?_
   exact .lg ⟨_, _, _, _, _, rfl⟩
  exact .lg ⟨_, _, _, _, _, rfl⟩
 rintro _ y10 ⟨j11, j12, j13, j14, j15, rfl⟩
 iterate 6 refine .uc ?_
 exact .lf rfl rfl ⟨_, rfl, rfl⟩
def G14 (a0 : S_Journal) (a1 : S_Journal) : Option Bool := F14 fuel0 a0 a1
def Orc14 (C : Nat -> List A -> Option A) : Prop := ∀ (a0 : S_Journal) (a1 : S_Journal), C 14 [(A.agg (c_S_Journal a0)), (A.agg (c_S_Journal a1))] = (G14 a0 a1).map fun y => (bA y)
def F23_23_0 (n : Nat) (v25 : Bool) (v27 : S_Disk) (v28 : S_Disk) : Nat -> Int -> Option ((Bool) ⊕ (Unit))
 | 0, _ => none
 | m + 1, v26 => bif (decide (v26 < ((v27.Sectors.length : Int)))) then ((getI v27.Sectors v26).bind fun y30 => (getI v28.Sectors v26).bind fun y31 => bif (!strEq (bstr y30) (bstr y31)) then (some ((Sum.inl false))) else (F23_23_0 n v25 v27 v28 m (wr .i64 (v26 + 1)))) else (some ((Sum.inr (()))))
theorem T23_23_0 (C : Nat -> List A -> Option A) (n : Nat) (v25 : Bool) (v27 : S_Disk) (v28 : S_Disk) {ρ γ : Type} {φ : ρ -> γ -> Prop} {kL : R -> Option ρ} {K : ((Bool) ⊕ (Unit)) -> Option γ} (kx kg : Nat -> St -> Option R) (kr : St -> Option R) (kp : A -> St -> Option R) (x0 : ∀ (o0 : Bool) (s2 : A) (s3 : A) (s5 : A), J φ (kr (St.mk [(2, s2), (3, s3), (4, (bA o0)), (5, s5)] [Blk.box (c_S_Disk v27), Blk.box (c_S_Disk v28)])) kL (K (Sum.inl o0)) some) (x1 : ∀ (s5 : A), J φ (kx 0 (St.mk [(2, (A.ptr 0 0)), (3, (A.ptr 1 0)), (4, (bA v25)), (5, s5)] [Blk.box (c_S_Disk v27), Blk.box (c_S_Disk v28)])) kL (K (Sum.inr (()))) some) :
  ∀ (m : Nat) (v26 : Int), J φ (loopR (cx C) (ec C n 8) (ey C n 8) (n+8) 23 0 0 2 kx kg kr kp m (St.mk [(2, (A.ptr 0 0)), (3, (A.ptr 1 0)), (4, (bA v25)), (5, (iA v26))] [Blk.box (c_S_Disk v27), Blk.box (c_S_Disk v28)])) kL (F23_23_0 n v25 v27 v28 m v26) K := by
 intro m
 induction m with
 | zero => intros; exact .nn
 | succ m ih =>
  intro v26
  refine .lp (e23_0 ..) ?_
  unfold F23_23_0
  refine .s (A.ptr 0 0) (.s (A.imm (List.map (cL c8) v27.Sectors) false) ?_)
  refine .st (v := (iA ((v27.Sectors.length : Int)))) (len_imm (e := 35) (h1 := by kernel_rfl) ..) ?_
  refine .st (v := (bA (decide (v26 < ((v27.Sectors.length : Int)))))) (aBin_lss ..) ?_
  refine .biHN (fun hk29 => ?_) (fun hk29 => ?_)
  ·refine .s (A.ptr 0 0) (.s (A.imm (List.map (cL c8) v27.Sectors) false) ?_)
   refine .bd (g := fun (y : (List UInt8)) => A.ip ((cL c8) y)) (idx_imm (e := 35) (es := 1) (h1 := by kernel_rfl) (h2 := by kernel_rfl) (h3 := fun _ => rfl) ..) fun y30 => ?_
   refine .s (A.imm (List.map c8 y30) false) ?_
   refine .st (v := (A.v (Value.string (bstr y30)))) (conv_bs (e := 5) (l := y30) (by kernel_rfl) (by kernel_rfl) (by kernel_rfl) (by kernel_rfl) (els_imm ..) rfl) ?_
   refine .s (A.ptr 1 0) (.s (A.imm (List.map (cL c8) v28.Sectors) false) ?_)
   refine .bd (g := fun (y : (List UInt8)) => A.ip ((cL c8) y)) (idx_imm (e := 35) (es := 1) (h1 := by kernel_rfl) (h2 := by kernel_rfl) (h3 := fun _ => rfl) ..) fun y31 => ?_
   refine .s (A.imm (List.map c8 y31) false) ?_
   refine .st (v := (A.v (Value.string (bstr y31)))) (conv_bs (e := 5) (l := y31) (by kernel_rfl) (by kernel_rfl) (by kernel_rfl) (by kernel_rfl) (els_imm ..) rfl) ?_
   refine .st (v := (bA (!strEq (bstr y30) (bstr y31)))) (aBin_neq_s ..) ?_
   refine .biHN (fun hk32 => ?_) (fun hk32 => ?_)
   ·exact .ex (x0 _ _ _ _)
   refine .st (v := (iA (wr .i64 (v26 + 1)))) (aBin_add ..) ?_
   refine .s [Blk.box (c_S_Disk v27), Blk.box (c_S_Disk v28)] ?_
   refine .cT (by kernel_rfl) ?_
   exact ih _
  exact .ex (x1 _)
def F23_23_1 (n : Nat) (v39 : Bool) (v41 : S_Disk) (v42 : S_Disk) : Nat -> Int -> Option ((Bool) ⊕ (Unit))
 | 0, _ => none
 | m + 1, v40 => bif (decide (v40 < ((v41.Pending.length : Int)))) then ((getI v41.Pending v40).bind fun y44 => (getI v42.Pending v40).bind fun y45 => bif (y44.At != y45.At) then ((some true).bind fun y52 => bif y52 then (some ((Sum.inl false))) else (F23_23_1 n v39 v41 v42 m (wr .i64 (v40 + 1)))) else ((getI v41.Pending v40).bind fun y47 => (getI v42.Pending v40).bind fun y48 => (some (!strEq (bstr y47.Data) (bstr y48.Data))).bind fun y49 => bif y49 then (some ((Sum.inl false))) else (F23_23_1 n v39 v41 v42 m (wr .i64 (v40 + 1))))) else (some ((Sum.inr (()))))
theorem T23_23_1 (C : Nat -> List A -> Option A) (n : Nat) (v39 : Bool) (v41 : S_Disk) (v42 : S_Disk) {ρ γ : Type} {φ : ρ -> γ -> Prop} {kL : R -> Option ρ} {K : ((Bool) ⊕ (Unit)) -> Option γ} (kx kg : Nat -> St -> Option R) (kr : St -> Option R) (kp : A -> St -> Option R) (x0 : ∀ (o0 : Bool) (s2 : A) (s3 : A) (s6 : A), J φ (kr (St.mk [(2, s2), (3, s3), (4, (bA o0)), (6, s6)] [Blk.box (c_S_Disk v41), Blk.box (c_S_Disk v42)])) kL (K (Sum.inl o0)) some) (x1 : ∀ (s2 : A) (s3 : A) (s4 : A) (s6 : A), J φ (kx 2 (St.mk [(2, s2), (3, s3), (4, s4), (6, s6)] [Blk.box (c_S_Disk v41), Blk.box (c_S_Disk v42)])) kL (K (Sum.inr (()))) some) :
  ∀ (m : Nat) (v40 : Int), J φ (loopR (cx C) (ec C n 8) (ey C n 8) (n+8) 23 0 1 2 kx kg kr kp m (St.mk [(2, (A.ptr 0 0)), (3, (A.ptr 1 0)), (4, (bA v39)), (6, (iA v40))] [Blk.box (c_S_Disk v41), Blk.box (c_S_Disk v42)])) kL (F23_23_1 n v39 v41 v42 m v40) K := by
 intro m
 induction m with
 | zero => intros; exact .nn
 | succ m ih =>
  intro v40
  refine .lp (e23_1 ..) ?_
  unfold F23_23_1
  refine .s (A.ptr 0 1) (.s (A.imm (List.map c_S_Write v41.Pending) false) ?_)
  refine .st (v := (iA ((v41.Pending.length : Int)))) (len_imm (e := 76) (h1 := by kernel_rfl) ..) ?_
  refine .st (v := (bA (decide (v40 < ((v41.Pending.length : Int)))))) (aBin_lss ..) ?_
  refine .biHN (fun hk43 => ?_) (fun hk43 => ?_)
  ·refine .s (A.ptr 0 1) (.s (A.imm (List.map c_S_Write v41.Pending) false) ?_)
   refine .bd (g := fun (y : S_Write) => A.ip (c_S_Write y)) (idx_imm (e := 76) (es := 2) (h1 := by kernel_rfl) (h2 := by kernel_rfl) (h3 := fun _ => rfl) ..) fun y44 => ?_
   refine .s (A.ip [(iA y44.At), (A.imm (List.map c8 y44.Data) false)]) (.s (iA y44.At) (.s (A.ptr 1 1) (.s (A.imm (List.map c_S_Write v42.Pending) false) ?_)))
   refine .bd (g := fun (y : S_Write) => A.ip (c_S_Write y)) (idx_imm (e := 76) (es := 2) (h1 := by kernel_rfl) (h2 := by kernel_rfl) (h3 := fun _ => rfl) ..) fun y45 => ?_
   refine .s (A.ip [(iA y45.At), (A.imm (List.map c8 y45.Data) false)]) (.s (iA y45.At) ?_)
   refine .st (v := (bA (y44.At != y45.At))) (aBin_neq ..) ?_
   refine .gsf (fun hc46 => ?_) (fun hc46 => ?_)
   ·refine .bb ?_
    refine .s (A.ptr 0 1) (.s (A.imm (List.map c_S_Write v41.Pending) false) ?_)
    refine .bd (g := fun (y : S_Write) => A.ip (c_S_Write y)) (idx_imm (e := 76) (es := 2) (h1 := by kernel_rfl) (h2 := by kernel_rfl) (h3 := fun _ => rfl) ..) fun y47 => ?_
    refine .s (A.ip [(A.imm (List.map c8 y47.Data) false)]) (.s (A.imm (List.map c8 y47.Data) false) ?_)
    refine .st (v := (A.v (Value.string (bstr y47.Data)))) (conv_bs (e := 5) (l := y47.Data) (by kernel_rfl) (by kernel_rfl) (by kernel_rfl) (by kernel_rfl) (els_imm ..) rfl) ?_
    refine .s (A.ptr 1 1) (.s (A.imm (List.map c_S_Write v42.Pending) false) ?_)
    refine .bd (g := fun (y : S_Write) => A.ip (c_S_Write y)) (idx_imm (e := 76) (es := 2) (h1 := by kernel_rfl) (h2 := by kernel_rfl) (h3 := fun _ => rfl) ..) fun y48 => ?_
    refine .s (A.ip [(A.imm (List.map c8 y48.Data) false)]) (.s (A.imm (List.map c8 y48.Data) false) ?_)
    refine .st (v := (A.v (Value.string (bstr y48.Data)))) (conv_bs (e := 5) (l := y48.Data) (by kernel_rfl) (by kernel_rfl) (by kernel_rfl) (by kernel_rfl) (els_imm ..) rfl) ?_
    refine .cr ?_
    iterate 14 refine .uc ?_
    refine .bg (fun t (y : Bool) => ∃ j50 : A, t = [(bA y), j50]) ?_ ?_
    ·refine .bKF hc46 ?_
     refine .st (v := (bA (!strEq (bstr y47.Data) (bstr y48.Data)))) (aBin_neq_s ..) ?_
     exact .lg ⟨_, rfl⟩
    rintro _ y49 ⟨j50, rfl⟩
    iterate 2 refine .uc ?_
    refine .biHN (fun hk51 => ?_) (fun hk51 => ?_)
    ·exact .ex (x0 _ _ _ _)
    refine .st (v := (iA (wr .i64 (v40 + 1)))) (aBin_add ..) ?_
    refine .s [Blk.box (c_S_Disk v41), Blk.box (c_S_Disk v42)] ?_
    refine .cT (by kernel_rfl) ?_
    exact ih _
   refine .bb ?_
   refine .cr ?_
   iterate 14 refine .uc ?_
   refine .bg (fun t (y : Bool) => ∃ j53 : A, t = [(bA y), j53]) ?_ ?_
   ·refine .bKT hc46 ?_
    exact .lg ⟨_, rfl⟩
   rintro _ y52 ⟨j53, rfl⟩
   iterate 2 refine .uc ?_
   refine .biHN (fun hk54 => ?_) (fun hk54 => ?_)
   ·exact .ex (x0 _ _ _ _)
   refine .st (v := (iA (wr .i64 (v40 + 1)))) (aBin_add ..) ?_
   refine .s [Blk.box (c_S_Disk v41), Blk.box (c_S_Disk v42)] ?_
   refine .cT (by kernel_rfl) ?_
   exact ih _
  exact .ex (x1 _ _ _ _)
def F23 (n : Nat) (a0 : S_Disk) (a1 : S_Disk) : Option Bool :=
 (bif (((a0.Sectors.length : Int)) != ((a1.Sectors.length : Int))) then (some true) else (some (((a0.Pending.length : Int)) != ((a1.Pending.length : Int))))).bind fun y2 => (bif y2 then (some true) else (some (a0.Left != a1.Left))).bind fun y11 => (bif y11 then (some true) else (some (a0.Stopped != a1.Stopped))).bind fun y18 => bif y18 then (some false) else ((F23_23_0 n false a0 a1 (n+8) 0).bind fun o33 => match o33 with | (Sum.inl y34) => some y34 | (Sum.inr _) => (F23_23_1 n false a0 a1 (n+8) 0).bind fun o55 => match o55 with | (Sum.inl y56) => some y56 | (Sum.inr _) => some true)
theorem T23 (C : Nat -> List A -> Option A) (n : Nat) (a0 : S_Disk) (a1 : S_Disk) : J (fun (o : R) y => ∃ v, o.1 = .ret v /\ snapE o.2 v = (bA y)) (evCall1 (cx C) (ec C n 8) (ey C n 8) (n+8) 23 [(A.agg (c_S_Disk a0)), (A.agg (c_S_Disk a1))] [] 0) some (F23 n a0 a1) some := by
 refine .lp (e23 ..) ?_
 unfold F23
 refine .s ((A.ptr 0 0), [Blk.box (c_S_Disk a0)]) (.s ((A.ptr 1 0), [Blk.box (c_S_Disk a0), Blk.box (c_S_Disk a1)]) (.s (A.ptr 0 0) (.s (A.imm (List.map (cL c8) a0.Sectors) false) ?_)))
 refine .st (v := (iA ((a0.Sectors.length : Int)))) (len_imm (e := 35) (h1 := by kernel_rfl) ..) ?_
 refine .s (A.ptr 1 0) (.s (A.imm (List.map (cL c8) a1.Sectors) false) ?_)
 refine .st (v := (iA ((a1.Sectors.length : Int)))) (len_imm (e := 35) (h1 := by kernel_rfl) ..) ?_
 refine .st (v := (bA (((a0.Sectors.length : Int)) != ((a1.Sectors.length : Int))))) (aBin_neq ..) ?_
 refine .bg (fun t (y : Bool) => ∃ j3 j4 j5 j6 j7 j8 j9 : A, t = [(bA y), j3, j4, j5, j6, j7, j8, j9]) ?_ ?_
 ·refine .biH (fun hk1 => ?_) (fun hk1 => ?_)
  ·exact .lg ⟨_, _, _, _, _, _, _, rfl⟩
  refine .s (A.ptr 0 1) (.s (A.imm (List.map c_S_Write a0.Pending) false) ?_)
  refine .st (v := (iA ((a0.Pending.length : Int)))) (len_imm (e := 76) (h1 := by kernel_rfl) ..) ?_
  refine .s (A.ptr 1 1) (.s (A.imm (List.map c_S_Write a1.Pending) false) ?_)
  refine .st (v := (iA ((a1.Pending.length : Int)))) (len_imm (e := 76) (h1 := by kernel_rfl) ..) ?_
  refine .st (v := (bA (((a0.Pending.length : Int)) != ((a1.Pending.length : Int))))) (aBin_neq ..) ?_
  exact .lg ⟨_, _, _, _, _, _, _, rfl⟩
 rintro _ y2 ⟨j3, j4, j5, j6, j7, j8, j9, rfl⟩
 iterate 8 refine .uc ?_
 refine .bg (fun t (y : Bool) => ∃ j12 j13 j14 j15 j16 : A, t = [(bA y), j12, j13, j14, j15, j16]) ?_ ?_
 ·refine .biH (fun hk10 => ?_) (fun hk10 => ?_)
  ·exact .lg ⟨_, _, _, _, _, rfl⟩
  refine .s (A.ptr 0 2) (.s (iA a0.Left) (.s (A.ptr 1 2) (.s (iA a1.Left) ?_)))
  refine .st (v := (bA (a0.Left != a1.Left))) (aBin_neq ..) ?_
  exact .lg ⟨_, _, _, _, _, rfl⟩
 rintro _ y11 ⟨j12, j13, j14, j15, j16, rfl⟩
 iterate 6 refine .uc ?_
 refine .bg (fun t (y : Bool) => ∃ j19 j20 j21 j22 j23 : A, t = [(bA y), j19, j20, j21, j22, j23]) ?_ ?_
 ·refine .biH (fun hk17 => ?_) (fun hk17 => ?_)
  ·exact .lg ⟨_, _, _, _, _, rfl⟩
  refine .s (A.ptr 0 3) (.s (bA a0.Stopped) (.s (A.ptr 1 3) (.s (bA a1.Stopped) (.s (bA (a0.Stopped != a1.Stopped)) ?_))))
  exact .lg ⟨_, _, _, _, _, rfl⟩
 rintro _ y18 ⟨j19, j20, j21, j22, j23, rfl⟩
 iterate 6 refine .uc ?_
 refine .biHN (fun hk24 => ?_) (fun hk24 => ?_)
 ·exact .lf rfl rfl ⟨_, rfl, rfl⟩
 refine .as (T23_23_0 C n  false a0 a1 _ _ _ _ ?_ ?_ _ 0)
 ·intro y34 j35 j36 j37
  refine .un rfl ?_
  exact .lf rfl rfl ⟨_, rfl, rfl⟩
 ·intro j38
  refine .un rfl ?_
  refine .cT (by kernel_rfl) ?_
  refine .as (T23_23_1 C n  false a0 a1 _ _ _ _ ?_ ?_ _ 0)
  ·intro y56 j57 j58 j59
   refine .un rfl ?_
   exact .lf rfl rfl ⟨_, rfl, rfl⟩
  ·intro j60 j61 j62 j63
   refine .un rfl ?_
   refine .cT (by kernel_rfl) ?_
   exact .lf rfl rfl ⟨_, rfl, rfl⟩
def G23 (a0 : S_Disk) (a1 : S_Disk) : Option Bool := F23 fuel0 a0 a1
def Orc23 (C : Nat -> List A -> Option A) : Prop := ∀ (a0 : S_Disk) (a1 : S_Disk), C 23 [(A.agg (c_S_Disk a0)), (A.agg (c_S_Disk a1))] = (G23 a0 a1).map fun y => (bA y)
def F5 (n : Nat) (a0 : S_Journal) (a1 : S_Disk) : Option Bool :=
 (G10 ).bind fun y1 => bif (!y1) then (some false) else ((G11 a1 a0.Records).bind fun y3 => bif (!y3) then (some true) else ((G21 a0 a1).bind fun y5 => (G22 a0 a1).bind fun y6 => (G14 y5.1 y6.1).bind fun y7 => (bif y7 then ((G23 y5.2.1 y6.2.1).bind fun y9 => some y9) else (some false)).bind fun y10 => (bif y10 then (some (y5.2.2 == y6.2.2)) else (some false)).bind fun y15 => some y15))
theorem T5 (C : Nat -> List A -> Option A) (n : Nat) (h10 : Orc10 C) (h11 : Orc11 C) (h14 : Orc14 C) (h21 : Orc21 C) (h22 : Orc22 C) (h23 : Orc23 C) (a0 : S_Journal) (a1 : S_Disk) : J (fun (o : R) y => ∃ v, o.1 = .ret v /\ snapE o.2 v = (bA y)) (evCall1 (cx C) (ec C n 8) (ey C n 8) (n+8) 5 [(A.agg (c_S_Journal a0)), (A.agg (c_S_Disk a1))] [] 0) some (F5 n a0 a1) some := by
 refine .lp (e5 ..) ?_
 unfold F5
 refine .s ((A.ptr 0 0), [Blk.box (c_S_Journal a0)]) (.s ((A.ptr 1 0), [Blk.box (c_S_Journal a0), Blk.box (c_S_Disk a1)]) ?_)
 refine .bd (g := fun (y : Bool) => (bA y)) (h10 ()) fun y1 => ?_
 refine .s (bA (!y1)) ?_
 refine .biHN (fun hk2 => ?_) (fun hk2 => ?_)
 ·exact .lf rfl rfl ⟨_, rfl, rfl⟩
 refine .s (A.agg (c_S_Disk a1)) (.s (A.ptr 0 0) (.s (A.imm (List.map (cL c8) a0.Records) false) ?_))
 refine .bd (g := fun (y : Bool) => (bA y)) (by show C 11 [snap _ (A.agg (c_S_Disk a1)), snap _ (A.imm (List.map (cL c8) a0.Records) false)] = _; simp only [sn0, snM]; exact h11 a1 a0.Records) fun y3 => ?_
 refine .s (bA (!y3)) ?_
 refine .biHN (fun hk4 => ?_) (fun hk4 => ?_)
 ·exact .lf rfl rfl ⟨_, rfl, rfl⟩
 refine .s (A.agg (c_S_Journal a0)) (.s (A.agg (c_S_Disk a1)) ?_)
 refine .bd (g := fun (y : (S_Journal × S_Disk × Int)) => (A.tup [(A.agg [(A.imm (List.map (cL c8) y.1.Records) false), (iA y.1.Many), (iA y.1.Synced)]), (A.agg [(A.imm (List.map (cL c8) y.2.1.Sectors) false), (A.imm (List.map c_S_Write y.2.1.Pending) false), (iA y.2.1.Left), (bA y.2.1.Stopped)]), (iA y.2.2)])) (by show C 21 [snap _ (A.agg (c_S_Journal a0)), snap _ (A.agg (c_S_Disk a1))] = _; simp only [sn0, snM]; exact h21 a0 a1) fun y5 => ?_
 refine .s (A.agg (c_S_Journal y5.1)) (.s (A.agg (c_S_Disk y5.2.1)) (.s (iA y5.2.2) (.s ((A.ptr 2 0), [Blk.box (c_S_Journal a0), Blk.box (c_S_Disk a1), bz3]) (.s ((A.ptr 3 0), [Blk.box (c_S_Journal a0), Blk.box (c_S_Disk a1), bz3, bz4]) (.s [Blk.box (c_S_Journal a0), Blk.box (c_S_Disk a1), Blk.box (c_S_Journal y5.1), bz4] (.s [Blk.box (c_S_Journal a0), Blk.box (c_S_Disk a1), Blk.box (c_S_Journal y5.1), Blk.box (c_S_Disk y5.2.1)] (.s (A.agg (c_S_Journal a0)) (.s (A.agg (c_S_Disk a1)) ?_))))))))
 refine .bd (g := fun (y : (S_Journal × S_Disk × Int)) => (A.tup [(A.agg [(A.imm (List.map (cL c8) y.1.Records) false), (iA y.1.Many), (iA y.1.Synced)]), (A.agg [(A.imm (List.map (cL c8) y.2.1.Sectors) false), (A.imm (List.map c_S_Write y.2.1.Pending) false), (iA y.2.1.Left), (bA y.2.1.Stopped)]), (iA y.2.2)])) (by show C 22 [snap _ (A.agg (c_S_Journal a0)), snap _ (A.agg (c_S_Disk a1))] = _; simp only [sn0, snM]; exact h22 a0 a1) fun y6 => ?_
 refine .s (A.agg (c_S_Journal y6.1)) (.s (A.agg (c_S_Disk y6.2.1)) (.s (iA y6.2.2) (.s ((A.ptr 4 0), [Blk.box (c_S_Journal a0), Blk.box (c_S_Disk a1), Blk.box (c_S_Journal y5.1), Blk.box (c_S_Disk y5.2.1), bz3]) (.s ((A.ptr 5 0), [Blk.box (c_S_Journal a0), Blk.box (c_S_Disk a1), Blk.box (c_S_Journal y5.1), Blk.box (c_S_Disk y5.2.1), bz3, bz4]) (.s [Blk.box (c_S_Journal a0), Blk.box (c_S_Disk a1), Blk.box (c_S_Journal y5.1), Blk.box (c_S_Disk y5.2.1), Blk.box (c_S_Journal y6.1), bz4] (.s [Blk.box (c_S_Journal a0), Blk.box (c_S_Disk a1), Blk.box (c_S_Journal y5.1), Blk.box (c_S_Disk y5.2.1), Blk.box (c_S_Journal y6.1), Blk.box (c_S_Disk y6.2.1)] (.s (A.agg (c_S_Journal y5.1)) (.s (A.agg (c_S_Journal y6.1)) ?_))))))))
 refine .bd (g := fun (y : Bool) => (bA y)) (by show C 14 [snap _ (A.agg (c_S_Journal y5.1)), snap _ (A.agg (c_S_Journal y6.1))] = _; simp only [sn0, snM]; exact h14 y5.1 y6.1) fun y7 => ?_
 refine .bg (fun t (y : Bool) => ∃ j11 j12 j13 : A, t = [(bA y), j11, j12, j13]) ?_ ?_
 ·refine .biH (fun hk8 => ?_) (fun hk8 => ?_)
  ·refine .s (A.agg (c_S_Disk y5.2.1)) (.s (A.agg (c_S_Disk y6.2.1)) ?_)
   refine .bd (g := fun (y : Bool) => (bA y)) (by show C 23 [snap _ (A.agg (c_S_Disk y5.2.1)), snap _ (A.agg (c_S_Disk y6.2.1))] = _; simp only [sn0, snM]; exact h23 y5.2.1 y6.2.1) fun y9 => ?_
   exact .lg ⟨_, _, _, rfl⟩
  exact .lg ⟨_, _, _, rfl⟩
 rintro _ y10 ⟨j11, j12, j13, rfl⟩
 iterate 4 refine .uc ?_
 refine .bg (fun t (y : Bool) => ∃ j16 j17 j18 : A, t = [(bA y), j16, j17, j18]) ?_ ?_
 ·refine .biH (fun hk14 => ?_) (fun hk14 => ?_)
  ·refine .st (v := (bA (y5.2.2 == y6.2.2))) (aBin_eql ..) ?_
   exact .lg ⟨_, _, _, rfl⟩
  exact .lg ⟨_, _, _, rfl⟩
 rintro _ y15 ⟨j16, j17, j18, rfl⟩
 iterate 4 refine .uc ?_
 exact .lf rfl rfl ⟨_, rfl, rfl⟩
def G5 (a0 : S_Journal) (a1 : S_Disk) : Option Bool := F5 fuel0 a0 a1
end Go.Proofs.Ytobjniabioaefaa
