/-
  The program's functions as plain functions: by a tool; each follows the interpreter.
-/
import Derived.Test.YthoomfjliekbdaaT2
import Derived.KernelRfl
namespace Go.Proofs.Ythoomfjliekbdaa
set_option linter.unusedVariables false
set_option linter.unusedSimpArgs false
set_option maxHeartbeats 4000000
set_option maxRecDepth 100000
def F8_8_0 (n : Nat) (v32 : (List S_kinespherelaw04_Act)) (v33 : Bool) (v36 : (List (List UInt8))) (v37 : (List S_Write)) (v38 : Int) (v39 : Bool) (v44 : (List (List UInt8))) (v45 : (List S_Write)) (v46 : Int) (v47 : Bool) : Nat → Int → Int → (List (List UInt8)) → (List S_Write) → Int → Bool → Option ((Bool × (List (List UInt8)) × (List S_Write) × Int × Bool × (List (List UInt8)) × (List S_Write) × Int × Bool) ⊕ (Int × (List (List UInt8)) × (List S_Write) × Int × Bool))
  | 0, _, _, _, _, _, _ => none
  | m + 1, v34, v35, v40, v41, v42, v43 => Option.bind (bif (decide (v35 < ((v32.length : Int)))) then (some (v34 == 0)) else (some false)) fun y49 => bif y49 then (Option.bind (getI v32 v35) fun y53 => bif decide (((v36.length : Int)) ≠ 0) then (Option.bind (getI v32 v35) fun y54 => bif (decide (0 ≤ y54.Byte) && decide (y54.Byte < 256)) then (Option.bind (G19 ((S_Disk.mk v40 v41 v42 v43)) (Int.tmod (wr .i64 (y53.At)) ((v36.length : Int))) ([(UInt8.ofNat (Int.toNat y54.Byte))])) fun y55 => bif (y55.2 != 0) then (some ((Sum.inl ((false, v40, v41, v42, v43, y55.1.Sectors, y55.1.Pending, y55.1.Left, y55.1.Stopped))))) else (Option.bind (G23 y55.1) fun y57 => F8_8_0 n v32 v33 v36 v37 v38 v39 v44 v45 v46 v47 m y57.2 (wr .i64 (v35 + 1)) y57.1.Sectors y57.1.Pending y57.1.Left y57.1.Stopped)) else none) else none) else (some ((Sum.inr ((v34, v40, v41, v42, v43)))))

theorem T8_8_0 (C : Nat → List A → Option A) (n : Nat) (h10 : Orc10 C) (h11 : Orc11 C) (h14 : Orc14 C) (h15 : Orc15 C) (h19 : Orc19 C) (h23 : Orc23 C) (v32 : (List S_kinespherelaw04_Act)) (v33 : Bool) (v36 : (List (List UInt8))) (v37 : (List S_Write)) (v38 : Int) (v39 : Bool) (v44 : (List (List UInt8))) (v45 : (List S_Write)) (v46 : Int) (v47 : Bool) {ρ γ : Type} {φ : ρ → γ → Prop} {kL : R → Option ρ} {K : ((Bool × (List (List UInt8)) × (List S_Write) × Int × Bool × (List (List UInt8)) × (List S_Write) × Int × Bool) ⊕ (Int × (List (List UInt8)) × (List S_Write) × Int × Bool)) → Option γ} (kx kg : Nat → St → Option R) (kr : St → Option R) (kp : A → St → Option R) (x0 : ∀ (o0 : Bool) (o1 : (List (List UInt8))) (o2 : (List S_Write)) (o3 : Int) (o4 : Bool) (o5 : (List (List UInt8))) (o6 : (List S_Write)) (o7 : Int) (o8 : Bool) (s1 : A) (s2 : A) (s5 : A) (s6 : A) (s7 : A) (s8 : A), J φ (kr (St.mk [(1, s1), (2, s2), (4, (A.v (Value.bool o0))), (5, s5), (6, s6), (7, s7), (8, s8)] [Blk.box [(A.imm (List.map (cL c8) v36) false), (A.imm (List.map c_S_Write v37) false), (A.v (Value.int .i64 v38)), (A.v (Value.bool v39))], Blk.box [(A.imm (List.map (cL c8) o1) false), (A.imm (List.map c_S_Write o2) false), (A.v (Value.int .i64 o3)), (A.v (Value.bool o4))], Blk.box [(A.imm (List.map (cL c8) v44) false), (A.imm (List.map c_S_Write v45) false), (A.v (Value.int .i64 v46)), (A.v (Value.bool v47))], Blk.box [(A.imm (List.map (cL c8) o5) false), (A.imm (List.map c_S_Write o6) false), (A.v (Value.int .i64 o7)), (A.v (Value.bool o8))]])) kL (K (Sum.inl ((o0, o1, o2, o3, o4, o5, o6, o7, o8)))) some) (x1 : ∀ (o0 : Int) (o1 : (List (List UInt8))) (o2 : (List S_Write)) (o3 : Int) (o4 : Bool) (s8 : A), J φ (kx 0 (St.mk [(1, (A.imm (List.map c_S_kinespherelaw04_Act v32) false)), (2, (A.ptr 0 0)), (4, (A.v (Value.bool v33))), (5, (A.ptr 1 0)), (6, (A.ptr 2 0)), (7, (A.v (Value.int .i64 o0))), (8, s8)] [Blk.box [(A.imm (List.map (cL c8) v36) false), (A.imm (List.map c_S_Write v37) false), (A.v (Value.int .i64 v38)), (A.v (Value.bool v39))], Blk.box [(A.imm (List.map (cL c8) o1) false), (A.imm (List.map c_S_Write o2) false), (A.v (Value.int .i64 o3)), (A.v (Value.bool o4))], Blk.box [(A.imm (List.map (cL c8) v44) false), (A.imm (List.map c_S_Write v45) false), (A.v (Value.int .i64 v46)), (A.v (Value.bool v47))]])) kL (K (Sum.inr ((o0, o1, o2, o3, o4)))) some) :
    ∀ (m : Nat) (v34 : Int) (v35 : Int) (v40 : (List (List UInt8))) (v41 : (List S_Write)) (v42 : Int) (v43 : Bool), J φ (loopR (cx C) (evCall (cx C) (n+8)) (evCallY (cx C) (n+8)) (n+8) 8 0 0 3 kx kg kr kp m (St.mk [(1, (A.imm (List.map c_S_kinespherelaw04_Act v32) false)), (2, (A.ptr 0 0)), (4, (A.v (Value.bool v33))), (5, (A.ptr 1 0)), (6, (A.ptr 2 0)), (7, (A.v (Value.int .i64 v34))), (8, (A.v (Value.int .i64 v35)))] [Blk.box [(A.imm (List.map (cL c8) v36) false), (A.imm (List.map c_S_Write v37) false), (A.v (Value.int .i64 v38)), (A.v (Value.bool v39))], Blk.box [(A.imm (List.map (cL c8) v40) false), (A.imm (List.map c_S_Write v41) false), (A.v (Value.int .i64 v42)), (A.v (Value.bool v43))], Blk.box [(A.imm (List.map (cL c8) v44) false), (A.imm (List.map c_S_Write v45) false), (A.v (Value.int .i64 v46)), (A.v (Value.bool v47))]])) kL (F8_8_0 n v32 v33 v36 v37 v38 v39 v44 v45 v46 v47 m v34 v35 v40 v41 v42 v43) K := by
  intro m
  induction m with
  | zero => intros; exact .nn
  | succ m ih =>
    intro v34 v35 v40 v41 v42 v43
    refine .lp (e8_0 ..) ?_
    unfold F8_8_0
    refine .st (v := (A.v (Value.int .i64 ((v32.length : Int))))) (len_imm (e := 46) (h1 := by kernel_rfl) ..) ?_
    refine .st (v := (A.v (Value.bool (decide (v35 < ((v32.length : Int))))))) (aBin_lss ..) ?_
    refine .bg (fun t (y : Bool) => ∃ j50 j51 : A, t = [(A.v (Value.bool y)), j50, j51]) ?_ ?_
    · refine .biH (fun hk48 => ?_) (fun hk48 => ?_)
      · refine .st (v := (A.v (Value.bool (v34 == 0)))) (aBin_eql ..) ?_
        exact .lg ⟨_, _, rfl⟩
      · exact .lg ⟨_, _, rfl⟩
    rintro _ y49 ⟨j50, j51, rfl⟩
    iterate 3 refine .uc ?_
    refine .biHN (fun hk52 => ?_) (fun hk52 => ?_)
    · refine .bd (g := fun (y : S_kinespherelaw04_Act) => A.ip (c_S_kinespherelaw04_Act y)) (idx_imm (e := 46) (es := 3) (h1 := by kernel_rfl) (h2 := by kernel_rfl) (h3 := fun _ => rfl) ..) fun y53 => ?_
      refine .st (v := (A.ip [(A.v (Value.int .u8 y53.At)), (A.v (Value.int .u8 y53.Byte))])) (by kernel_rfl) ?_
      refine .st (v := (A.v (Value.int .u8 y53.At))) (by kernel_rfl) ?_
      refine .st (v := (A.v (Value.int .i64 (wr .i64 (y53.At))))) (aConvert_int (hs := by kernel_rfl) (hd := by kernel_rfl) ..) ?_
      refine .st (v := (A.ptr 0 0)) (by kernel_rfl) ?_
      refine .st (v := (A.imm (List.map (cL c8) v36) false)) (by kernel_rfl) ?_
      refine .st (v := (A.v (Value.int .i64 ((v36.length : Int))))) (len_imm (e := 35) (h1 := by kernel_rfl) ..) ?_
      refine .gd fun hg => ?_
      refine .st (v := (A.v (Value.int .i64 (Int.tmod (wr .i64 (y53.At)) ((v36.length : Int)))))) (aBin_rem (hb := of_decide_eq_true hg) ..) ?_
      refine .st (v := (A.agg [(A.imm (List.map (cL c8) v40) false), (A.imm (List.map c_S_Write v41) false), (A.v (Value.int .i64 v42)), (A.v (Value.bool v43))])) (by kernel_rfl) ?_
      refine .bd (g := fun (y : S_kinespherelaw04_Act) => A.ip (c_S_kinespherelaw04_Act y)) (idx_imm (e := 46) (es := 3) (h1 := by kernel_rfl) (h2 := by kernel_rfl) (h3 := fun _ => rfl) ..) fun y54 => ?_
      refine .st (v := (A.ip [(A.v (Value.int .u8 y54.Byte))])) (by kernel_rfl) ?_
      refine .st (v := (A.v (Value.int .u8 y54.Byte))) (by kernel_rfl) ?_
      refine .gd fun hg => ?_
      refine .st (v := (A.imm [[(A.v (Value.int .u8 (((UInt8.ofNat (Int.toNat y54.Byte)).toNat : Int))))]] true)) (by rw [u8_back hg]; kernel_rfl) ?_
      refine .bd (g := fun (y : (S_Disk × Int)) => (A.tup [(A.agg [(A.imm (List.map (cL c8) y.1.Sectors) false), (A.imm (List.map c_S_Write y.1.Pending) false), (A.v (Value.int .i64 y.1.Left)), (A.v (Value.bool y.1.Stopped))]), (A.v (Value.int .i64 y.2))])) (by show C 19 [snap [Blk.box [(A.imm (List.map (cL c8) v36) false), (A.imm (List.map c_S_Write v37) false), (A.v (Value.int .i64 v38)), (A.v (Value.bool v39))], Blk.box [(A.imm (List.map (cL c8) v40) false), (A.imm (List.map c_S_Write v41) false), (A.v (Value.int .i64 v42)), (A.v (Value.bool v43))], Blk.box [(A.imm (List.map (cL c8) v44) false), (A.imm (List.map c_S_Write v45) false), (A.v (Value.int .i64 v46)), (A.v (Value.bool v47))]] (A.agg [(A.imm (List.map (cL c8) v40) false), (A.imm (List.map c_S_Write v41) false), (A.v (Value.int .i64 v42)), (A.v (Value.bool v43))]), snap [Blk.box [(A.imm (List.map (cL c8) v36) false), (A.imm (List.map c_S_Write v37) false), (A.v (Value.int .i64 v38)), (A.v (Value.bool v39))], Blk.box [(A.imm (List.map (cL c8) v40) false), (A.imm (List.map c_S_Write v41) false), (A.v (Value.int .i64 v42)), (A.v (Value.bool v43))], Blk.box [(A.imm (List.map (cL c8) v44) false), (A.imm (List.map c_S_Write v45) false), (A.v (Value.int .i64 v46)), (A.v (Value.bool v47))]] (A.v (Value.int .i64 (Int.tmod (wr .i64 (y53.At)) ((v36.length : Int))))), snap [Blk.box [(A.imm (List.map (cL c8) v36) false), (A.imm (List.map c_S_Write v37) false), (A.v (Value.int .i64 v38)), (A.v (Value.bool v39))], Blk.box [(A.imm (List.map (cL c8) v40) false), (A.imm (List.map c_S_Write v41) false), (A.v (Value.int .i64 v42)), (A.v (Value.bool v43))], Blk.box [(A.imm (List.map (cL c8) v44) false), (A.imm (List.map c_S_Write v45) false), (A.v (Value.int .i64 v46)), (A.v (Value.bool v47))]] (A.imm [[(A.v (Value.int .u8 (((UInt8.ofNat (Int.toNat y54.Byte)).toNat : Int))))]] true)] = _; simp only [snap, snapW, snapWs, snapWss, snapWss_map, trim, List.map_cons, List.map_nil, fl_cI, fl_c8, fl_cB, fl_cS, fl_cL, fl_S_Write, fl_S_Disk, fl_S_kinespherelaw04_Act]; exact h19 ((S_Disk.mk v40 v41 v42 v43)) (Int.tmod (wr .i64 (y53.At)) ((v36.length : Int))) ([(UInt8.ofNat (Int.toNat y54.Byte))])) fun y55 => ?_
      refine .st (v := (A.agg [(A.imm (List.map (cL c8) y55.1.Sectors) false), (A.imm (List.map c_S_Write y55.1.Pending) false), (A.v (Value.int .i64 y55.1.Left)), (A.v (Value.bool y55.1.Stopped))])) (by kernel_rfl) ?_
      refine .st (v := (A.v (Value.int .i64 y55.2))) (by kernel_rfl) ?_
      refine .cT (by kernel_rfl) ?_
      refine .st (v := ((A.ptr 3 0), [Blk.box [(A.imm (List.map (cL c8) v36) false), (A.imm (List.map c_S_Write v37) false), (A.v (Value.int .i64 v38)), (A.v (Value.bool v39))], Blk.box [(A.imm (List.map (cL c8) v40) false), (A.imm (List.map c_S_Write v41) false), (A.v (Value.int .i64 v42)), (A.v (Value.bool v43))], Blk.box [(A.imm (List.map (cL c8) v44) false), (A.imm (List.map c_S_Write v45) false), (A.v (Value.int .i64 v46)), (A.v (Value.bool v47))], Blk.box [(A.imm [] true), (A.imm [] true), (A.v (Value.int .i64 0)), (A.v (Value.bool false))]])) (by kernel_rfl) ?_
      refine .st (v := [Blk.box [(A.imm (List.map (cL c8) v36) false), (A.imm (List.map c_S_Write v37) false), (A.v (Value.int .i64 v38)), (A.v (Value.bool v39))], Blk.box [(A.imm (List.map (cL c8) v40) false), (A.imm (List.map c_S_Write v41) false), (A.v (Value.int .i64 v42)), (A.v (Value.bool v43))], Blk.box [(A.imm (List.map (cL c8) v44) false), (A.imm (List.map c_S_Write v45) false), (A.v (Value.int .i64 v46)), (A.v (Value.bool v47))], Blk.box [(A.imm (List.map (cL c8) y55.1.Sectors) false), (A.imm (List.map c_S_Write y55.1.Pending) false), (A.v (Value.int .i64 y55.1.Left)), (A.v (Value.bool y55.1.Stopped))]]) (by kernel_rfl) ?_
      refine .st (v := (A.v (Value.bool (y55.2 != 0)))) (aBin_neq ..) ?_
      refine .biHN (fun hk56 => ?_) (fun hk56 => ?_)
      · exact .ex (x0 _ _ _ _ _ _ _ _ _ _ _ _ _ _ _)
      · refine .st (v := (A.agg [(A.imm (List.map (cL c8) y55.1.Sectors) false), (A.imm (List.map c_S_Write y55.1.Pending) false), (A.v (Value.int .i64 y55.1.Left)), (A.v (Value.bool y55.1.Stopped))])) (by kernel_rfl) ?_
        refine .bd (g := fun (y : (S_Disk × Int)) => (A.tup [(A.agg [(A.imm (List.map (cL c8) y.1.Sectors) false), (A.imm (List.map c_S_Write y.1.Pending) false), (A.v (Value.int .i64 y.1.Left)), (A.v (Value.bool y.1.Stopped))]), (A.v (Value.int .i64 y.2))])) (by show C 23 [snap [Blk.box [(A.imm (List.map (cL c8) v36) false), (A.imm (List.map c_S_Write v37) false), (A.v (Value.int .i64 v38)), (A.v (Value.bool v39))], Blk.box [(A.imm (List.map (cL c8) v40) false), (A.imm (List.map c_S_Write v41) false), (A.v (Value.int .i64 v42)), (A.v (Value.bool v43))], Blk.box [(A.imm (List.map (cL c8) v44) false), (A.imm (List.map c_S_Write v45) false), (A.v (Value.int .i64 v46)), (A.v (Value.bool v47))], Blk.box [(A.imm (List.map (cL c8) y55.1.Sectors) false), (A.imm (List.map c_S_Write y55.1.Pending) false), (A.v (Value.int .i64 y55.1.Left)), (A.v (Value.bool y55.1.Stopped))]] (A.agg [(A.imm (List.map (cL c8) y55.1.Sectors) false), (A.imm (List.map c_S_Write y55.1.Pending) false), (A.v (Value.int .i64 y55.1.Left)), (A.v (Value.bool y55.1.Stopped))])] = _; simp only [snap, snapW, snapWs, snapWss, snapWss_map, trim, List.map_cons, List.map_nil, fl_cI, fl_c8, fl_cB, fl_cS, fl_cL, fl_S_Write, fl_S_Disk, fl_S_kinespherelaw04_Act]; exact h23 y55.1) fun y57 => ?_
        refine .st (v := (A.agg [(A.imm (List.map (cL c8) y57.1.Sectors) false), (A.imm (List.map c_S_Write y57.1.Pending) false), (A.v (Value.int .i64 y57.1.Left)), (A.v (Value.bool y57.1.Stopped))])) (by kernel_rfl) ?_
        refine .st (v := (A.v (Value.int .i64 y57.2))) (by kernel_rfl) ?_
        refine .st (v := [Blk.box [(A.imm (List.map (cL c8) v36) false), (A.imm (List.map c_S_Write v37) false), (A.v (Value.int .i64 v38)), (A.v (Value.bool v39))], Blk.box [(A.imm (List.map (cL c8) y57.1.Sectors) false), (A.imm (List.map c_S_Write y57.1.Pending) false), (A.v (Value.int .i64 y57.1.Left)), (A.v (Value.bool y57.1.Stopped))], Blk.box [(A.imm (List.map (cL c8) v44) false), (A.imm (List.map c_S_Write v45) false), (A.v (Value.int .i64 v46)), (A.v (Value.bool v47))], Blk.box [(A.imm (List.map (cL c8) y55.1.Sectors) false), (A.imm (List.map c_S_Write y55.1.Pending) false), (A.v (Value.int .i64 y55.1.Left)), (A.v (Value.bool y55.1.Stopped))]]) (by kernel_rfl) ?_
        refine .st (v := (A.v (Value.int .i64 (wr .i64 (v35 + 1))))) (aBin_add ..) ?_
        refine .st (v := [Blk.box [(A.imm (List.map (cL c8) v36) false), (A.imm (List.map c_S_Write v37) false), (A.v (Value.int .i64 v38)), (A.v (Value.bool v39))], Blk.box [(A.imm (List.map (cL c8) y57.1.Sectors) false), (A.imm (List.map c_S_Write y57.1.Pending) false), (A.v (Value.int .i64 y57.1.Left)), (A.v (Value.bool y57.1.Stopped))], Blk.box [(A.imm (List.map (cL c8) v44) false), (A.imm (List.map c_S_Write v45) false), (A.v (Value.int .i64 v46)), (A.v (Value.bool v47))]]) ((by kernel_rfl : _ = (bif ((((underss 3 (List.map (cL c8) v36)) && ((underss 3 (List.map c_S_Write v37)) && true))) && ((((underss 3 (List.map (cL c8) y57.1.Sectors)) && ((underss 3 (List.map c_S_Write y57.1.Pending)) && true))) && ((((underss 3 (List.map (cL c8) v44)) && ((underss 3 (List.map c_S_Write v45)) && true))) && true))) then some [Blk.box [(A.imm (List.map (cL c8) v36) false), (A.imm (List.map c_S_Write v37) false), (A.v (Value.int .i64 v38)), (A.v (Value.bool v39))], Blk.box [(A.imm (List.map (cL c8) y57.1.Sectors) false), (A.imm (List.map c_S_Write y57.1.Pending) false), (A.v (Value.int .i64 y57.1.Left)), (A.v (Value.bool y57.1.Stopped))], Blk.box [(A.imm (List.map (cL c8) v44) false), (A.imm (List.map c_S_Write v45) false), (A.v (Value.int .i64 v46)), (A.v (Value.bool v47))]] else none)).trans (by simp only [underss_map, fu_cI, fu_c8, fu_cB, fu_cS, fu_cL, fu_S_Write, fu_S_Disk, fu_S_kinespherelaw04_Act,  Bool.and_true, Bool.true_and, cond_true])) ?_
        refine .cT ((by kernel_rfl : _ = (bif underss 3 (List.map c_S_kinespherelaw04_Act v32) then true else false)).trans (by simp only [underss_map, fu_cI, fu_c8, fu_cB, fu_cS, fu_cL, fu_S_Write, fu_S_Disk, fu_S_kinespherelaw04_Act,  Bool.and_true, Bool.true_and, cond_true])) ?_
        exact ih _ _ _ _ _ _
    · exact .ex (x1 _ _ _ _ _ _)

def F8_8_1 (n : Nat) (v80 : (List S_kinespherelaw04_Act)) (v81 : Bool) (v82 : Int) (v83 : Int) (v84 : (List (List UInt8))) (v85 : (List S_Write)) (v86 : Int) (v87 : Bool) (v88 : (List (List UInt8))) (v89 : (List S_Write)) (v90 : Int) (v91 : Bool) (v92 : (List (List UInt8))) (v93 : (List S_Write)) (v94 : Int) (v95 : Bool) : Nat → Option (Unit)
  | 0 => none
  | m + 1 => bif (decide (v83 < ((v80.length : Int)))) then (Option.bind (getI v80 v83) fun y97 => none) else (some (()))

theorem T8_8_1 (C : Nat → List A → Option A) (n : Nat) (h10 : Orc10 C) (h11 : Orc11 C) (h14 : Orc14 C) (h15 : Orc15 C) (h19 : Orc19 C) (h23 : Orc23 C) (v80 : (List S_kinespherelaw04_Act)) (v81 : Bool) (v82 : Int) (v83 : Int) (v84 : (List (List UInt8))) (v85 : (List S_Write)) (v86 : Int) (v87 : Bool) (v88 : (List (List UInt8))) (v89 : (List S_Write)) (v90 : Int) (v91 : Bool) (v92 : (List (List UInt8))) (v93 : (List S_Write)) (v94 : Int) (v95 : Bool) {ρ γ : Type} {φ : ρ → γ → Prop} {kL : R → Option ρ} {K : (Unit) → Option γ} (kx kg : Nat → St → Option R) (kr : St → Option R) (kp : A → St → Option R) (x0 : ∀ (s1 : A) (s2 : A) (s4 : A) (s12 : A), J φ (kx 2 (St.mk [(1, s1), (2, s2), (4, s4), (5, (A.ptr 1 0)), (6, (A.ptr 2 0)), (7, (A.v (Value.int .i64 v82))), (12, s12)] [Blk.box [(A.imm (List.map (cL c8) v84) false), (A.imm (List.map c_S_Write v85) false), (A.v (Value.int .i64 v86)), (A.v (Value.bool v87))], Blk.box [(A.imm (List.map (cL c8) v88) false), (A.imm (List.map c_S_Write v89) false), (A.v (Value.int .i64 v90)), (A.v (Value.bool v91))], Blk.box [(A.imm (List.map (cL c8) v92) false), (A.imm (List.map c_S_Write v93) false), (A.v (Value.int .i64 v94)), (A.v (Value.bool v95))]])) kL (K ()) some) :
    ∀ (m : Nat), J φ (loopR (cx C) (evCall (cx C) (n+8)) (evCallY (cx C) (n+8)) (n+8) 8 0 1 3 kx kg kr kp m (St.mk [(1, (A.imm (List.map c_S_kinespherelaw04_Act v80) false)), (2, (A.ptr 0 0)), (4, (A.v (Value.bool v81))), (5, (A.ptr 1 0)), (6, (A.ptr 2 0)), (7, (A.v (Value.int .i64 v82))), (12, (A.v (Value.int .i64 v83)))] [Blk.box [(A.imm (List.map (cL c8) v84) false), (A.imm (List.map c_S_Write v85) false), (A.v (Value.int .i64 v86)), (A.v (Value.bool v87))], Blk.box [(A.imm (List.map (cL c8) v88) false), (A.imm (List.map c_S_Write v89) false), (A.v (Value.int .i64 v90)), (A.v (Value.bool v91))], Blk.box [(A.imm (List.map (cL c8) v92) false), (A.imm (List.map c_S_Write v93) false), (A.v (Value.int .i64 v94)), (A.v (Value.bool v95))]])) kL (F8_8_1 n v80 v81 v82 v83 v84 v85 v86 v87 v88 v89 v90 v91 v92 v93 v94 v95 m ) K := by
  intro m
  induction m with
  | zero => exact .nn
  | succ m ih =>
    skip
    refine .lp (e8_1 ..) ?_
    unfold F8_8_1
    refine .st (v := (A.v (Value.int .i64 ((v80.length : Int))))) (len_imm (e := 46) (h1 := by kernel_rfl) ..) ?_
    refine .st (v := (A.v (Value.bool (decide (v83 < ((v80.length : Int))))))) (aBin_lss ..) ?_
    refine .biHN (fun hk96 => ?_) (fun hk96 => ?_)
    · refine .st (v := (A.agg [(A.imm (List.map (cL c8) v92) false), (A.imm (List.map c_S_Write v93) false), (A.v (Value.int .i64 v94)), (A.v (Value.bool v95))])) (by kernel_rfl) ?_
      refine .bd (g := fun (y : S_kinespherelaw04_Act) => A.ip (c_S_kinespherelaw04_Act y)) (idx_imm (e := 46) (es := 3) (h1 := by kernel_rfl) (h2 := by kernel_rfl) (h3 := fun _ => rfl) ..) fun y97 => ?_
      refine .st (v := (A.ip [(A.v (Value.int .u8 y97.At)), (A.v (Value.int .u8 y97.Byte))])) (by kernel_rfl) ?_
      refine .st (v := (A.v (Value.int .u8 y97.At))) (by kernel_rfl) ?_
      exact .nn
    · exact .ex (x0 _ _ _ _)

def F8 (n : Nat) (a0 : S_Disk) (a1 : (List S_kinespherelaw04_Act)) : Option Bool :=
  Option.bind (G10 ) fun y1 => bif (!y1) then (some false) else (Option.bind (G11 a0) fun y3 => Option.bind (bif (!y3) then (some true) else (some (decide (20 < ((a1.length : Int)))))) fun y5 => Option.bind (bif y5 then (some true) else (some (decide (0 < ((a0.Pending.length : Int)))))) fun y10 => Option.bind (bif y10 then (some true) else (some (((a0.Sectors.length : Int)) == 0))) fun y16 => Option.bind (bif y16 then (some true) else (Option.bind (G15 a0) fun y22 => some (y22 != 0))) fun y23 => Option.bind (bif y23 then (some true) else (some a0.Stopped)) fun y28 => bif y28 then (some true) else (Option.bind (F8_8_0 n a1 false a0.Sectors a0.Pending a0.Left a0.Stopped a0.Sectors a0.Pending a0.Left a0.Stopped (n+8) 0 0 a0.Sectors a0.Pending a0.Left a0.Stopped) fun o58 => match o58 with | (Sum.inl ((y59, y60, y61, y62, y63, y64, y65, y66, y67))) => some y59 | (Sum.inr ((y74, y75, y76, y77, y78))) => Option.bind (F8_8_1 n a1 false y74 0 a0.Sectors a0.Pending a0.Left a0.Stopped y75 y76 y77 y78 a0.Sectors a0.Pending a0.Left a0.Stopped (n+8) ) fun o98 => match o98 with | _ => Option.bind (G23 a0) fun y103 => Option.bind (bif (y74 == y103.2) then (Option.bind (G14 ((S_Disk.mk y75 y76 y77 y78)) y103.1) fun y105 => some y105) else (some false)) fun y106 => some y106))

theorem T8 (C : Nat → List A → Option A) (n : Nat) (h10 : Orc10 C) (h11 : Orc11 C) (h14 : Orc14 C) (h15 : Orc15 C) (h19 : Orc19 C) (h23 : Orc23 C) (a0 : S_Disk) (a1 : (List S_kinespherelaw04_Act)) : J (fun (o : R) y => ∃ v, o.1 = .ret v ∧ snapE o.2 v = (A.v (Value.bool y))) (evCall1 (cx C) (evCall (cx C) (n+8)) (evCallY (cx C) (n+8)) (n+8) 8 [(A.agg [(A.imm (List.map (cL c8) a0.Sectors) false), (A.imm (List.map c_S_Write a0.Pending) false), (A.v (Value.int .i64 a0.Left)), (A.v (Value.bool a0.Stopped))]), (A.imm (List.map c_S_kinespherelaw04_Act a1) false)] [] 0) some (F8 n a0 a1) some := by
  refine .lp (e8 ..) ?_
  unfold F8
  refine .st (v := ((A.ptr 0 0), [Blk.box [(A.imm (List.map (cL c8) a0.Sectors) false), (A.imm (List.map c_S_Write a0.Pending) false), (A.v (Value.int .i64 a0.Left)), (A.v (Value.bool a0.Stopped))]])) (by kernel_rfl) ?_
  refine .bd (g := fun (y : Bool) => (A.v (Value.bool y))) (h10 ()) fun y1 => ?_
  refine .st (v := (A.v (Value.bool (!y1)))) (by kernel_rfl) ?_
  refine .biHN (fun hk2 => ?_) (fun hk2 => ?_)
  · exact .lf rfl rfl ⟨_, rfl, rfl⟩
  · refine .st (v := (A.agg [(A.imm (List.map (cL c8) a0.Sectors) false), (A.imm (List.map c_S_Write a0.Pending) false), (A.v (Value.int .i64 a0.Left)), (A.v (Value.bool a0.Stopped))])) (by kernel_rfl) ?_
    refine .bd (g := fun (y : Bool) => (A.v (Value.bool y))) (by show C 11 [snap [Blk.box [(A.imm (List.map (cL c8) a0.Sectors) false), (A.imm (List.map c_S_Write a0.Pending) false), (A.v (Value.int .i64 a0.Left)), (A.v (Value.bool a0.Stopped))]] (A.agg [(A.imm (List.map (cL c8) a0.Sectors) false), (A.imm (List.map c_S_Write a0.Pending) false), (A.v (Value.int .i64 a0.Left)), (A.v (Value.bool a0.Stopped))])] = _; simp only [snap, snapW, snapWs, snapWss, snapWss_map, trim, List.map_cons, List.map_nil, fl_cI, fl_c8, fl_cB, fl_cS, fl_cL, fl_S_Write, fl_S_Disk, fl_S_kinespherelaw04_Act]; exact h11 a0) fun y3 => ?_
    refine .st (v := (A.v (Value.bool (!y3)))) (by kernel_rfl) ?_
    refine .bg (fun t (y : Bool) => ∃ j6 j7 j8 : A, t = [(A.v (Value.bool y)), j6, j7, j8]) ?_ ?_
    · refine .biH (fun hk4 => ?_) (fun hk4 => ?_)
      · exact .lg ⟨_, _, _, rfl⟩
      · refine .st (v := (A.v (Value.int .i64 ((a1.length : Int))))) (len_imm (e := 46) (h1 := by kernel_rfl) ..) ?_
        refine .st (v := (A.v (Value.bool (decide (20 < ((a1.length : Int))))))) (aBin_gtr ..) ?_
        exact .lg ⟨_, _, _, rfl⟩
    rintro _ y5 ⟨j6, j7, j8, rfl⟩
    iterate 4 refine .uc ?_
    refine .bg (fun t (y : Bool) => ∃ j11 j12 j13 j14 : A, t = [(A.v (Value.bool y)), j11, j12, j13, j14]) ?_ ?_
    · refine .biH (fun hk9 => ?_) (fun hk9 => ?_)
      · exact .lg ⟨_, _, _, _, rfl⟩
      · refine .st (v := (A.ptr 0 1)) (by kernel_rfl) ?_
        refine .st (v := (A.imm (List.map c_S_Write a0.Pending) false)) (by kernel_rfl) ?_
        refine .st (v := (A.v (Value.int .i64 ((a0.Pending.length : Int))))) (len_imm (e := 54) (h1 := by kernel_rfl) ..) ?_
        refine .st (v := (A.v (Value.bool (decide (0 < ((a0.Pending.length : Int))))))) (aBin_gtr ..) ?_
        exact .lg ⟨_, _, _, _, rfl⟩
    rintro _ y10 ⟨j11, j12, j13, j14, rfl⟩
    iterate 5 refine .uc ?_
    refine .bg (fun t (y : Bool) => ∃ j17 j18 j19 j20 : A, t = [(A.v (Value.bool y)), j17, j18, j19, j20]) ?_ ?_
    · refine .biH (fun hk15 => ?_) (fun hk15 => ?_)
      · exact .lg ⟨_, _, _, _, rfl⟩
      · refine .st (v := (A.ptr 0 0)) (by kernel_rfl) ?_
        refine .st (v := (A.imm (List.map (cL c8) a0.Sectors) false)) (by kernel_rfl) ?_
        refine .st (v := (A.v (Value.int .i64 ((a0.Sectors.length : Int))))) (len_imm (e := 35) (h1 := by kernel_rfl) ..) ?_
        refine .st (v := (A.v (Value.bool (((a0.Sectors.length : Int)) == 0)))) (aBin_eql ..) ?_
        exact .lg ⟨_, _, _, _, rfl⟩
    rintro _ y16 ⟨j17, j18, j19, j20, rfl⟩
    iterate 5 refine .uc ?_
    refine .bg (fun t (y : Bool) => ∃ j24 j25 j26 : A, t = [(A.v (Value.bool y)), j24, j25, j26]) ?_ ?_
    · refine .biH (fun hk21 => ?_) (fun hk21 => ?_)
      · exact .lg ⟨_, _, _, rfl⟩
      · refine .st (v := (A.agg [(A.imm (List.map (cL c8) a0.Sectors) false), (A.imm (List.map c_S_Write a0.Pending) false), (A.v (Value.int .i64 a0.Left)), (A.v (Value.bool a0.Stopped))])) (by kernel_rfl) ?_
        refine .bd (g := fun (y : Int) => (A.v (Value.int .i64 y))) (by show C 15 [snap [Blk.box [(A.imm (List.map (cL c8) a0.Sectors) false), (A.imm (List.map c_S_Write a0.Pending) false), (A.v (Value.int .i64 a0.Left)), (A.v (Value.bool a0.Stopped))]] (A.agg [(A.imm (List.map (cL c8) a0.Sectors) false), (A.imm (List.map c_S_Write a0.Pending) false), (A.v (Value.int .i64 a0.Left)), (A.v (Value.bool a0.Stopped))])] = _; simp only [snap, snapW, snapWs, snapWss, snapWss_map, trim, List.map_cons, List.map_nil, fl_cI, fl_c8, fl_cB, fl_cS, fl_cL, fl_S_Write, fl_S_Disk, fl_S_kinespherelaw04_Act]; exact h15 a0) fun y22 => ?_
        refine .st (v := (A.v (Value.bool (y22 != 0)))) (aBin_neq ..) ?_
        exact .lg ⟨_, _, _, rfl⟩
    rintro _ y23 ⟨j24, j25, j26, rfl⟩
    iterate 4 refine .uc ?_
    refine .bg (fun t (y : Bool) => ∃ j29 j30 : A, t = [(A.v (Value.bool y)), j29, j30]) ?_ ?_
    · refine .biH (fun hk27 => ?_) (fun hk27 => ?_)
      · exact .lg ⟨_, _, rfl⟩
      · refine .st (v := (A.ptr 0 3)) (by kernel_rfl) ?_
        refine .st (v := (A.v (Value.bool a0.Stopped))) (by kernel_rfl) ?_
        exact .lg ⟨_, _, rfl⟩
    rintro _ y28 ⟨j29, j30, rfl⟩
    iterate 3 refine .uc ?_
    refine .biHN (fun hk31 => ?_) (fun hk31 => ?_)
    · exact .lf rfl rfl ⟨_, rfl, rfl⟩
    · refine .st (v := ((A.ptr 1 0), [Blk.box [(A.imm (List.map (cL c8) a0.Sectors) false), (A.imm (List.map c_S_Write a0.Pending) false), (A.v (Value.int .i64 a0.Left)), (A.v (Value.bool a0.Stopped))], Blk.box [(A.imm [] true), (A.imm [] true), (A.v (Value.int .i64 0)), (A.v (Value.bool false))]])) (by kernel_rfl) ?_
      refine .st (v := ((A.ptr 2 0), [Blk.box [(A.imm (List.map (cL c8) a0.Sectors) false), (A.imm (List.map c_S_Write a0.Pending) false), (A.v (Value.int .i64 a0.Left)), (A.v (Value.bool a0.Stopped))], Blk.box [(A.imm [] true), (A.imm [] true), (A.v (Value.int .i64 0)), (A.v (Value.bool false))], Blk.box [(A.imm [] true), (A.imm [] true), (A.v (Value.int .i64 0)), (A.v (Value.bool false))]])) (by kernel_rfl) ?_
      refine .st (v := (A.agg [(A.imm (List.map (cL c8) a0.Sectors) false), (A.imm (List.map c_S_Write a0.Pending) false), (A.v (Value.int .i64 a0.Left)), (A.v (Value.bool a0.Stopped))])) (by kernel_rfl) ?_
      refine .st (v := (A.agg [(A.imm (List.map (cL c8) a0.Sectors) false), (A.imm (List.map c_S_Write a0.Pending) false), (A.v (Value.int .i64 a0.Left)), (A.v (Value.bool a0.Stopped))])) (by kernel_rfl) ?_
      refine .cT (by kernel_rfl) ?_
      refine .st (v := [Blk.box [(A.imm (List.map (cL c8) a0.Sectors) false), (A.imm (List.map c_S_Write a0.Pending) false), (A.v (Value.int .i64 a0.Left)), (A.v (Value.bool a0.Stopped))], Blk.box [(A.imm (List.map (cL c8) a0.Sectors) false), (A.imm (List.map c_S_Write a0.Pending) false), (A.v (Value.int .i64 a0.Left)), (A.v (Value.bool a0.Stopped))], Blk.box [(A.imm [] true), (A.imm [] true), (A.v (Value.int .i64 0)), (A.v (Value.bool false))]]) (by kernel_rfl) ?_
      refine .st (v := [Blk.box [(A.imm (List.map (cL c8) a0.Sectors) false), (A.imm (List.map c_S_Write a0.Pending) false), (A.v (Value.int .i64 a0.Left)), (A.v (Value.bool a0.Stopped))], Blk.box [(A.imm (List.map (cL c8) a0.Sectors) false), (A.imm (List.map c_S_Write a0.Pending) false), (A.v (Value.int .i64 a0.Left)), (A.v (Value.bool a0.Stopped))], Blk.box [(A.imm (List.map (cL c8) a0.Sectors) false), (A.imm (List.map c_S_Write a0.Pending) false), (A.v (Value.int .i64 a0.Left)), (A.v (Value.bool a0.Stopped))]]) (by kernel_rfl) ?_
      refine .as (T8_8_0 C n h10 h11 h14 h15 h19 h23 a1 false a0.Sectors a0.Pending a0.Left a0.Stopped a0.Sectors a0.Pending a0.Left a0.Stopped _ _ _ _ ?_ ?_ _ 0 0 a0.Sectors a0.Pending a0.Left a0.Stopped)
      · intro y59 y60 y61 y62 y63 y64 y65 y66 y67 j68 j69 j70 j71 j72 j73
        refine .un rfl ?_
        exact .lf rfl rfl ⟨_, rfl, rfl⟩
      · intro y74 y75 y76 y77 y78 j79
        refine .un rfl ?_
        refine .cT (by kernel_rfl) ?_
        refine .as (T8_8_1 C n h10 h11 h14 h15 h19 h23 a1 false y74 0 a0.Sectors a0.Pending a0.Left a0.Stopped y75 y76 y77 y78 a0.Sectors a0.Pending a0.Left a0.Stopped _ _ _ _ ?_ _ )
        · intro j99 j100 j101 j102
          refine .un rfl ?_
          refine .cT (by kernel_rfl) ?_
          refine .st (v := (A.agg [(A.imm (List.map (cL c8) a0.Sectors) false), (A.imm (List.map c_S_Write a0.Pending) false), (A.v (Value.int .i64 a0.Left)), (A.v (Value.bool a0.Stopped))])) (by kernel_rfl) ?_
          refine .bd (g := fun (y : (S_Disk × Int)) => (A.tup [(A.agg [(A.imm (List.map (cL c8) y.1.Sectors) false), (A.imm (List.map c_S_Write y.1.Pending) false), (A.v (Value.int .i64 y.1.Left)), (A.v (Value.bool y.1.Stopped))]), (A.v (Value.int .i64 y.2))])) (by show C 23 [snap [Blk.box [(A.imm (List.map (cL c8) a0.Sectors) false), (A.imm (List.map c_S_Write a0.Pending) false), (A.v (Value.int .i64 a0.Left)), (A.v (Value.bool a0.Stopped))], Blk.box [(A.imm (List.map (cL c8) y75) false), (A.imm (List.map c_S_Write y76) false), (A.v (Value.int .i64 y77)), (A.v (Value.bool y78))], Blk.box [(A.imm (List.map (cL c8) a0.Sectors) false), (A.imm (List.map c_S_Write a0.Pending) false), (A.v (Value.int .i64 a0.Left)), (A.v (Value.bool a0.Stopped))]] (A.agg [(A.imm (List.map (cL c8) a0.Sectors) false), (A.imm (List.map c_S_Write a0.Pending) false), (A.v (Value.int .i64 a0.Left)), (A.v (Value.bool a0.Stopped))])] = _; simp only [snap, snapW, snapWs, snapWss, snapWss_map, trim, List.map_cons, List.map_nil, fl_cI, fl_c8, fl_cB, fl_cS, fl_cL, fl_S_Write, fl_S_Disk, fl_S_kinespherelaw04_Act]; exact h23 a0) fun y103 => ?_
          refine .st (v := (A.agg [(A.imm (List.map (cL c8) y103.1.Sectors) false), (A.imm (List.map c_S_Write y103.1.Pending) false), (A.v (Value.int .i64 y103.1.Left)), (A.v (Value.bool y103.1.Stopped))])) (by kernel_rfl) ?_
          refine .st (v := (A.v (Value.int .i64 y103.2))) (by kernel_rfl) ?_
          refine .st (v := [Blk.box [(A.imm (List.map (cL c8) a0.Sectors) false), (A.imm (List.map c_S_Write a0.Pending) false), (A.v (Value.int .i64 a0.Left)), (A.v (Value.bool a0.Stopped))], Blk.box [(A.imm (List.map (cL c8) y75) false), (A.imm (List.map c_S_Write y76) false), (A.v (Value.int .i64 y77)), (A.v (Value.bool y78))], Blk.box [(A.imm (List.map (cL c8) y103.1.Sectors) false), (A.imm (List.map c_S_Write y103.1.Pending) false), (A.v (Value.int .i64 y103.1.Left)), (A.v (Value.bool y103.1.Stopped))]]) (by kernel_rfl) ?_
          refine .st (v := (A.v (Value.bool (y74 == y103.2)))) (aBin_eql ..) ?_
          refine .bg (fun t (y : Bool) => ∃ j107 j108 j109 : A, t = [(A.v (Value.bool y)), j107, j108, j109]) ?_ ?_
          · refine .biH (fun hk104 => ?_) (fun hk104 => ?_)
            · refine .st (v := (A.agg [(A.imm (List.map (cL c8) y75) false), (A.imm (List.map c_S_Write y76) false), (A.v (Value.int .i64 y77)), (A.v (Value.bool y78))])) (by kernel_rfl) ?_
              refine .st (v := (A.agg [(A.imm (List.map (cL c8) y103.1.Sectors) false), (A.imm (List.map c_S_Write y103.1.Pending) false), (A.v (Value.int .i64 y103.1.Left)), (A.v (Value.bool y103.1.Stopped))])) (by kernel_rfl) ?_
              refine .bd (g := fun (y : Bool) => (A.v (Value.bool y))) (by show C 14 [snap [Blk.box [(A.imm (List.map (cL c8) a0.Sectors) false), (A.imm (List.map c_S_Write a0.Pending) false), (A.v (Value.int .i64 a0.Left)), (A.v (Value.bool a0.Stopped))], Blk.box [(A.imm (List.map (cL c8) y75) false), (A.imm (List.map c_S_Write y76) false), (A.v (Value.int .i64 y77)), (A.v (Value.bool y78))], Blk.box [(A.imm (List.map (cL c8) y103.1.Sectors) false), (A.imm (List.map c_S_Write y103.1.Pending) false), (A.v (Value.int .i64 y103.1.Left)), (A.v (Value.bool y103.1.Stopped))]] (A.agg [(A.imm (List.map (cL c8) y75) false), (A.imm (List.map c_S_Write y76) false), (A.v (Value.int .i64 y77)), (A.v (Value.bool y78))]), snap [Blk.box [(A.imm (List.map (cL c8) a0.Sectors) false), (A.imm (List.map c_S_Write a0.Pending) false), (A.v (Value.int .i64 a0.Left)), (A.v (Value.bool a0.Stopped))], Blk.box [(A.imm (List.map (cL c8) y75) false), (A.imm (List.map c_S_Write y76) false), (A.v (Value.int .i64 y77)), (A.v (Value.bool y78))], Blk.box [(A.imm (List.map (cL c8) y103.1.Sectors) false), (A.imm (List.map c_S_Write y103.1.Pending) false), (A.v (Value.int .i64 y103.1.Left)), (A.v (Value.bool y103.1.Stopped))]] (A.agg [(A.imm (List.map (cL c8) y103.1.Sectors) false), (A.imm (List.map c_S_Write y103.1.Pending) false), (A.v (Value.int .i64 y103.1.Left)), (A.v (Value.bool y103.1.Stopped))])] = _; simp only [snap, snapW, snapWs, snapWss, snapWss_map, trim, List.map_cons, List.map_nil, fl_cI, fl_c8, fl_cB, fl_cS, fl_cL, fl_S_Write, fl_S_Disk, fl_S_kinespherelaw04_Act]; exact h14 ((S_Disk.mk y75 y76 y77 y78)) y103.1) fun y105 => ?_
              exact .lg ⟨_, _, _, rfl⟩
            · exact .lg ⟨_, _, _, rfl⟩
          rintro _ y106 ⟨j107, j108, j109, rfl⟩
          iterate 4 refine .uc ?_
          exact .lf rfl rfl ⟨_, rfl, rfl⟩

def G8 (a0 : S_Disk) (a1 : (List S_kinespherelaw04_Act)) : Option Bool := F8 fuel0 a0 a1

def Orc8 (C : Nat → List A → Option A) : Prop := ∀ (a0 : S_Disk) (a1 : (List S_kinespherelaw04_Act)), C 8 [(A.agg [(A.imm (List.map (cL c8) a0.Sectors) false), (A.imm (List.map c_S_Write a0.Pending) false), (A.v (Value.int .i64 a0.Left)), (A.v (Value.bool a0.Stopped))]), (A.imm (List.map c_S_kinespherelaw04_Act a1) false)] = (G8 a0 a1).map fun y => (A.v (Value.bool y))

def F9_9_0 (n : Nat) (v40 : Int) (v41 : Int) (v42 : (List UInt8)) (v43 : Bool) (v45 : (List (List UInt8))) (v46 : (List S_Write)) (v47 : Int) (v48 : Bool) (v49 : (List (List UInt8))) (v50 : (List S_Write)) (v51 : Int) (v52 : Bool) (v53 : (List (List UInt8))) (v54 : (List S_Write)) (v55 : Int) (v56 : Bool) : Nat → Int → Option ((Bool) ⊕ (Unit))
  | 0, _ => none
  | m + 1, v44 => bif (decide (v44 < ((v45.length : Int)))) then (Option.bind (getI v49 v44) fun y58 => Option.bind (getI v45 v44) fun y59 => bif (!strEq (bstr y58) (bstr y59)) then (some ((Sum.inl false))) else (F9_9_0 n v40 v41 v42 v43 v45 v46 v47 v48 v49 v50 v51 v52 v53 v54 v55 v56 m (wr .i64 (v44 + 1)))) else (some ((Sum.inr (()))))

theorem T9_9_0 (C : Nat → List A → Option A) (n : Nat) (h10 : Orc10 C) (h11 : Orc11 C) (h14 : Orc14 C) (h17 : Orc17 C) (h19 : Orc19 C) (h21 : Orc21 C) (h23 : Orc23 C) (h25 : Orc25 C) (v40 : Int) (v41 : Int) (v42 : (List UInt8)) (v43 : Bool) (v45 : (List (List UInt8))) (v46 : (List S_Write)) (v47 : Int) (v48 : Bool) (v49 : (List (List UInt8))) (v50 : (List S_Write)) (v51 : Int) (v52 : Bool) (v53 : (List (List UInt8))) (v54 : (List S_Write)) (v55 : Int) (v56 : Bool) {ρ γ : Type} {φ : ρ → γ → Prop} {kL : R → Option ρ} {K : ((Bool) ⊕ (Unit)) → Option γ} (kx kg : Nat → St → Option R) (kr : St → Option R) (kp : A → St → Option R) (x0 : ∀ (o0 : Bool) (s1 : A) (s2 : A) (s3 : A) (s4 : A) (s9 : A) (s11 : A), J φ (kr (St.mk [(1, s1), (2, s2), (3, s3), (4, s4), (8, (A.v (Value.bool o0))), (9, s9), (11, s11)] [Blk.box [(A.imm (List.map (cL c8) v45) false), (A.imm (List.map c_S_Write v46) false), (A.v (Value.int .i64 v47)), (A.v (Value.bool v48))], Blk.box [(A.imm (List.map (cL c8) v49) false), (A.imm (List.map c_S_Write v50) false), (A.v (Value.int .i64 v51)), (A.v (Value.bool v52))], Blk.box [(A.imm (List.map (cL c8) v53) false), (A.imm (List.map c_S_Write v54) false), (A.v (Value.int .i64 v55)), (A.v (Value.bool v56))]])) kL (K (Sum.inl o0)) some) (x1 : ∀ (s8 : A) (s9 : A) (s11 : A), J φ (kx 0 (St.mk [(1, (A.v (Value.int .i64 v40))), (2, (A.v (Value.int .i64 v41))), (3, (A.imm (List.map c8 v42) false)), (4, (A.ptr 0 0)), (8, s8), (9, s9), (11, s11)] [Blk.box [(A.imm (List.map (cL c8) v45) false), (A.imm (List.map c_S_Write v46) false), (A.v (Value.int .i64 v47)), (A.v (Value.bool v48))], Blk.box [(A.imm (List.map (cL c8) v49) false), (A.imm (List.map c_S_Write v50) false), (A.v (Value.int .i64 v51)), (A.v (Value.bool v52))], Blk.box [(A.imm (List.map (cL c8) v53) false), (A.imm (List.map c_S_Write v54) false), (A.v (Value.int .i64 v55)), (A.v (Value.bool v56))]])) kL (K (Sum.inr (()))) some) :
    ∀ (m : Nat) (v44 : Int), J φ (loopR (cx C) (evCall (cx C) (n+8)) (evCallY (cx C) (n+8)) (n+8) 9 0 0 3 kx kg kr kp m (St.mk [(1, (A.v (Value.int .i64 v40))), (2, (A.v (Value.int .i64 v41))), (3, (A.imm (List.map c8 v42) false)), (4, (A.ptr 0 0)), (8, (A.v (Value.bool v43))), (9, (A.ptr 1 0)), (11, (A.v (Value.int .i64 v44)))] [Blk.box [(A.imm (List.map (cL c8) v45) false), (A.imm (List.map c_S_Write v46) false), (A.v (Value.int .i64 v47)), (A.v (Value.bool v48))], Blk.box [(A.imm (List.map (cL c8) v49) false), (A.imm (List.map c_S_Write v50) false), (A.v (Value.int .i64 v51)), (A.v (Value.bool v52))], Blk.box [(A.imm (List.map (cL c8) v53) false), (A.imm (List.map c_S_Write v54) false), (A.v (Value.int .i64 v55)), (A.v (Value.bool v56))]])) kL (F9_9_0 n v40 v41 v42 v43 v45 v46 v47 v48 v49 v50 v51 v52 v53 v54 v55 v56 m v44) K := by
  intro m
  induction m with
  | zero => intros; exact .nn
  | succ m ih =>
    intro v44
    refine .lp (e9_0 ..) ?_
    unfold F9_9_0
    refine .st (v := (A.ptr 0 0)) (by kernel_rfl) ?_
    refine .st (v := (A.imm (List.map (cL c8) v45) false)) (by kernel_rfl) ?_
    refine .st (v := (A.v (Value.int .i64 ((v45.length : Int))))) (len_imm (e := 35) (h1 := by kernel_rfl) ..) ?_
    refine .st (v := (A.v (Value.bool (decide (v44 < ((v45.length : Int))))))) (aBin_lss ..) ?_
    refine .biHN (fun hk57 => ?_) (fun hk57 => ?_)
    · refine .st (v := (A.ptr 1 0)) (by kernel_rfl) ?_
      refine .st (v := (A.imm (List.map (cL c8) v49) false)) (by kernel_rfl) ?_
      refine .bd (g := fun (y : (List UInt8)) => A.ip ((cL c8) y)) (idx_imm (e := 35) (es := 1) (h1 := by kernel_rfl) (h2 := by kernel_rfl) (h3 := fun _ => rfl) ..) fun y58 => ?_
      refine .st (v := (A.imm (List.map c8 y58) false)) (by kernel_rfl) ?_
      refine .st (v := (A.v (Value.string (bstr y58)))) (conv_bs (e := 5) (l := y58) (by kernel_rfl) (by kernel_rfl) (by kernel_rfl) (by kernel_rfl) (els_imm ..) rfl) ?_
      refine .st (v := (A.ptr 0 0)) (by kernel_rfl) ?_
      refine .st (v := (A.imm (List.map (cL c8) v45) false)) (by kernel_rfl) ?_
      refine .bd (g := fun (y : (List UInt8)) => A.ip ((cL c8) y)) (idx_imm (e := 35) (es := 1) (h1 := by kernel_rfl) (h2 := by kernel_rfl) (h3 := fun _ => rfl) ..) fun y59 => ?_
      refine .st (v := (A.imm (List.map c8 y59) false)) (by kernel_rfl) ?_
      refine .st (v := (A.v (Value.string (bstr y59)))) (conv_bs (e := 5) (l := y59) (by kernel_rfl) (by kernel_rfl) (by kernel_rfl) (by kernel_rfl) (els_imm ..) rfl) ?_
      refine .st (v := (A.v (Value.bool (!strEq (bstr y58) (bstr y59))))) (aBin_neq_s ..) ?_
      refine .biHN (fun hk60 => ?_) (fun hk60 => ?_)
      · exact .ex (x0 _ _ _ _ _ _ _)
      · refine .st (v := (A.v (Value.int .i64 (wr .i64 (v44 + 1))))) (aBin_add ..) ?_
        refine .st (v := [Blk.box [(A.imm (List.map (cL c8) v45) false), (A.imm (List.map c_S_Write v46) false), (A.v (Value.int .i64 v47)), (A.v (Value.bool v48))], Blk.box [(A.imm (List.map (cL c8) v49) false), (A.imm (List.map c_S_Write v50) false), (A.v (Value.int .i64 v51)), (A.v (Value.bool v52))], Blk.box [(A.imm (List.map (cL c8) v53) false), (A.imm (List.map c_S_Write v54) false), (A.v (Value.int .i64 v55)), (A.v (Value.bool v56))]]) (by kernel_rfl) ?_
        refine .cT (by kernel_rfl) ?_
        exact ih _
    · exact .ex (x1 _ _ _)

def F9 (n : Nat) (a0 : S_Disk) (a1 : Int) (a2 : Int) (a3 : (List UInt8)) : Option Bool :=
  Option.bind (G10 ) fun y1 => bif (!y1) then (some false) else (Option.bind (G11 a0) fun y3 => Option.bind (bif (!y3) then (some true) else (some (decide (1000 < ((a3.length : Int)))))) fun y5 => bif y5 then (some true) else (Option.bind (G17 a0) fun y10 => Option.bind (G17 y10) fun y11 => Option.bind (bif y10.Stopped then (some true) else (some (y10.Left != (-1)))) fun y13 => Option.bind (bif y13 then (some true) else (some (((y10.Pending.length : Int)) != 0))) fun y18 => Option.bind (bif y18 then (some true) else (Option.bind (G14 y10 y11) fun y24 => some (!y24))) fun y25 => Option.bind (bif y25 then (some true) else (some (((y10.Sectors.length : Int)) != ((a0.Sectors.length : Int))))) fun y31 => bif y31 then (some false) else (Option.bind (F9_9_0 n a1 a2 a3 false a0.Sectors a0.Pending a0.Left a0.Stopped y10.Sectors y10.Pending y10.Left y10.Stopped y11.Sectors y11.Pending y11.Left y11.Stopped (n+8) 0) fun o61 => match o61 with | (Sum.inl y62) => some y62 | (Sum.inr _) => Option.bind (G21 ((S_Disk.mk a0.Sectors a0.Pending a0.Left true)) a1) fun y72 => Option.bind (G19 ((S_Disk.mk a0.Sectors a0.Pending a0.Left true)) a1 a3) fun y73 => Option.bind (G23 ((S_Disk.mk a0.Sectors a0.Pending a0.Left true))) fun y74 => Option.bind (G25 ((S_Disk.mk a0.Sectors a0.Pending a0.Left true)) a2) fun y75 => Option.bind (bif (y72.2 == 40) then (some (y73.2 == 40)) else (some false)) fun y77 => Option.bind (bif y77 then (some (y74.2 == 40)) else (some false)) fun y81 => Option.bind (bif y81 then (some (y75.2 == 40)) else (some false)) fun y85 => some y85)))

theorem T9 (C : Nat → List A → Option A) (n : Nat) (h10 : Orc10 C) (h11 : Orc11 C) (h14 : Orc14 C) (h17 : Orc17 C) (h19 : Orc19 C) (h21 : Orc21 C) (h23 : Orc23 C) (h25 : Orc25 C) (a0 : S_Disk) (a1 : Int) (a2 : Int) (a3 : (List UInt8)) : J (fun (o : R) y => ∃ v, o.1 = .ret v ∧ snapE o.2 v = (A.v (Value.bool y))) (evCall1 (cx C) (evCall (cx C) (n+8)) (evCallY (cx C) (n+8)) (n+8) 9 [(A.agg [(A.imm (List.map (cL c8) a0.Sectors) false), (A.imm (List.map c_S_Write a0.Pending) false), (A.v (Value.int .i64 a0.Left)), (A.v (Value.bool a0.Stopped))]), (A.v (Value.int .i64 a1)), (A.v (Value.int .i64 a2)), (A.imm (List.map c8 a3) false)] [] 0) some (F9 n a0 a1 a2 a3) some := by
  refine .lp (e9 ..) ?_
  unfold F9
  refine .st (v := ((A.ptr 0 0), [Blk.box [(A.imm (List.map (cL c8) a0.Sectors) false), (A.imm (List.map c_S_Write a0.Pending) false), (A.v (Value.int .i64 a0.Left)), (A.v (Value.bool a0.Stopped))]])) (by kernel_rfl) ?_
  refine .bd (g := fun (y : Bool) => (A.v (Value.bool y))) (h10 ()) fun y1 => ?_
  refine .st (v := (A.v (Value.bool (!y1)))) (by kernel_rfl) ?_
  refine .biHN (fun hk2 => ?_) (fun hk2 => ?_)
  · exact .lf rfl rfl ⟨_, rfl, rfl⟩
  · refine .st (v := (A.agg [(A.imm (List.map (cL c8) a0.Sectors) false), (A.imm (List.map c_S_Write a0.Pending) false), (A.v (Value.int .i64 a0.Left)), (A.v (Value.bool a0.Stopped))])) (by kernel_rfl) ?_
    refine .bd (g := fun (y : Bool) => (A.v (Value.bool y))) (by show C 11 [snap [Blk.box [(A.imm (List.map (cL c8) a0.Sectors) false), (A.imm (List.map c_S_Write a0.Pending) false), (A.v (Value.int .i64 a0.Left)), (A.v (Value.bool a0.Stopped))]] (A.agg [(A.imm (List.map (cL c8) a0.Sectors) false), (A.imm (List.map c_S_Write a0.Pending) false), (A.v (Value.int .i64 a0.Left)), (A.v (Value.bool a0.Stopped))])] = _; simp only [snap, snapW, snapWs, snapWss, snapWss_map, trim, List.map_cons, List.map_nil, fl_cI, fl_c8, fl_cB, fl_cS, fl_cL, fl_S_Write, fl_S_Disk, fl_S_kinespherelaw04_Act]; exact h11 a0) fun y3 => ?_
    refine .st (v := (A.v (Value.bool (!y3)))) (by kernel_rfl) ?_
    refine .bg (fun t (y : Bool) => ∃ j6 j7 j8 : A, t = [(A.v (Value.bool y)), j6, j7, j8]) ?_ ?_
    · refine .biH (fun hk4 => ?_) (fun hk4 => ?_)
      · exact .lg ⟨_, _, _, rfl⟩
      · refine .st (v := (A.v (Value.int .i64 ((a3.length : Int))))) (len_imm (e := 5) (h1 := by kernel_rfl) ..) ?_
        refine .st (v := (A.v (Value.bool (decide (1000 < ((a3.length : Int))))))) (aBin_gtr ..) ?_
        exact .lg ⟨_, _, _, rfl⟩
    rintro _ y5 ⟨j6, j7, j8, rfl⟩
    iterate 4 refine .uc ?_
    refine .biHN (fun hk9 => ?_) (fun hk9 => ?_)
    · exact .lf rfl rfl ⟨_, rfl, rfl⟩
    · refine .st (v := (A.agg [(A.imm (List.map (cL c8) a0.Sectors) false), (A.imm (List.map c_S_Write a0.Pending) false), (A.v (Value.int .i64 a0.Left)), (A.v (Value.bool a0.Stopped))])) (by kernel_rfl) ?_
      refine .bd (g := fun (y : S_Disk) => (A.agg [(A.imm (List.map (cL c8) y.Sectors) false), (A.imm (List.map c_S_Write y.Pending) false), (A.v (Value.int .i64 y.Left)), (A.v (Value.bool y.Stopped))])) (by show C 17 [snap [Blk.box [(A.imm (List.map (cL c8) a0.Sectors) false), (A.imm (List.map c_S_Write a0.Pending) false), (A.v (Value.int .i64 a0.Left)), (A.v (Value.bool a0.Stopped))]] (A.agg [(A.imm (List.map (cL c8) a0.Sectors) false), (A.imm (List.map c_S_Write a0.Pending) false), (A.v (Value.int .i64 a0.Left)), (A.v (Value.bool a0.Stopped))])] = _; simp only [snap, snapW, snapWs, snapWss, snapWss_map, trim, List.map_cons, List.map_nil, fl_cI, fl_c8, fl_cB, fl_cS, fl_cL, fl_S_Write, fl_S_Disk, fl_S_kinespherelaw04_Act]; exact h17 a0) fun y10 => ?_
      refine .st (v := ((A.ptr 1 0), [Blk.box [(A.imm (List.map (cL c8) a0.Sectors) false), (A.imm (List.map c_S_Write a0.Pending) false), (A.v (Value.int .i64 a0.Left)), (A.v (Value.bool a0.Stopped))], Blk.box [(A.imm [] true), (A.imm [] true), (A.v (Value.int .i64 0)), (A.v (Value.bool false))]])) (by kernel_rfl) ?_
      refine .st (v := [Blk.box [(A.imm (List.map (cL c8) a0.Sectors) false), (A.imm (List.map c_S_Write a0.Pending) false), (A.v (Value.int .i64 a0.Left)), (A.v (Value.bool a0.Stopped))], Blk.box [(A.imm (List.map (cL c8) y10.Sectors) false), (A.imm (List.map c_S_Write y10.Pending) false), (A.v (Value.int .i64 y10.Left)), (A.v (Value.bool y10.Stopped))]]) (by kernel_rfl) ?_
      refine .st (v := (A.agg [(A.imm (List.map (cL c8) y10.Sectors) false), (A.imm (List.map c_S_Write y10.Pending) false), (A.v (Value.int .i64 y10.Left)), (A.v (Value.bool y10.Stopped))])) (by kernel_rfl) ?_
      refine .bd (g := fun (y : S_Disk) => (A.agg [(A.imm (List.map (cL c8) y.Sectors) false), (A.imm (List.map c_S_Write y.Pending) false), (A.v (Value.int .i64 y.Left)), (A.v (Value.bool y.Stopped))])) (by show C 17 [snap [Blk.box [(A.imm (List.map (cL c8) a0.Sectors) false), (A.imm (List.map c_S_Write a0.Pending) false), (A.v (Value.int .i64 a0.Left)), (A.v (Value.bool a0.Stopped))], Blk.box [(A.imm (List.map (cL c8) y10.Sectors) false), (A.imm (List.map c_S_Write y10.Pending) false), (A.v (Value.int .i64 y10.Left)), (A.v (Value.bool y10.Stopped))]] (A.agg [(A.imm (List.map (cL c8) y10.Sectors) false), (A.imm (List.map c_S_Write y10.Pending) false), (A.v (Value.int .i64 y10.Left)), (A.v (Value.bool y10.Stopped))])] = _; simp only [snap, snapW, snapWs, snapWss, snapWss_map, trim, List.map_cons, List.map_nil, fl_cI, fl_c8, fl_cB, fl_cS, fl_cL, fl_S_Write, fl_S_Disk, fl_S_kinespherelaw04_Act]; exact h17 y10) fun y11 => ?_
      refine .st (v := ((A.ptr 2 0), [Blk.box [(A.imm (List.map (cL c8) a0.Sectors) false), (A.imm (List.map c_S_Write a0.Pending) false), (A.v (Value.int .i64 a0.Left)), (A.v (Value.bool a0.Stopped))], Blk.box [(A.imm (List.map (cL c8) y10.Sectors) false), (A.imm (List.map c_S_Write y10.Pending) false), (A.v (Value.int .i64 y10.Left)), (A.v (Value.bool y10.Stopped))], Blk.box [(A.imm [] true), (A.imm [] true), (A.v (Value.int .i64 0)), (A.v (Value.bool false))]])) (by kernel_rfl) ?_
      refine .st (v := [Blk.box [(A.imm (List.map (cL c8) a0.Sectors) false), (A.imm (List.map c_S_Write a0.Pending) false), (A.v (Value.int .i64 a0.Left)), (A.v (Value.bool a0.Stopped))], Blk.box [(A.imm (List.map (cL c8) y10.Sectors) false), (A.imm (List.map c_S_Write y10.Pending) false), (A.v (Value.int .i64 y10.Left)), (A.v (Value.bool y10.Stopped))], Blk.box [(A.imm (List.map (cL c8) y11.Sectors) false), (A.imm (List.map c_S_Write y11.Pending) false), (A.v (Value.int .i64 y11.Left)), (A.v (Value.bool y11.Stopped))]]) (by kernel_rfl) ?_
      refine .st (v := (A.ptr 1 3)) (by kernel_rfl) ?_
      refine .st (v := (A.v (Value.bool y10.Stopped))) (by kernel_rfl) ?_
      refine .bg (fun t (y : Bool) => ∃ j14 j15 j16 : A, t = [(A.v (Value.bool y)), j14, j15, j16]) ?_ ?_
      · refine .biH (fun hk12 => ?_) (fun hk12 => ?_)
        · exact .lg ⟨_, _, _, rfl⟩
        · refine .st (v := (A.ptr 1 2)) (by kernel_rfl) ?_
          refine .st (v := (A.v (Value.int .i64 y10.Left))) (by kernel_rfl) ?_
          refine .st (v := (A.v (Value.bool (y10.Left != (-1))))) (aBin_neq ..) ?_
          exact .lg ⟨_, _, _, rfl⟩
      rintro _ y13 ⟨j14, j15, j16, rfl⟩
      iterate 4 refine .uc ?_
      refine .bg (fun t (y : Bool) => ∃ j19 j20 j21 j22 : A, t = [(A.v (Value.bool y)), j19, j20, j21, j22]) ?_ ?_
      · refine .biH (fun hk17 => ?_) (fun hk17 => ?_)
        · exact .lg ⟨_, _, _, _, rfl⟩
        · refine .st (v := (A.ptr 1 1)) (by kernel_rfl) ?_
          refine .st (v := (A.imm (List.map c_S_Write y10.Pending) false)) (by kernel_rfl) ?_
          refine .st (v := (A.v (Value.int .i64 ((y10.Pending.length : Int))))) (len_imm (e := 54) (h1 := by kernel_rfl) ..) ?_
          refine .st (v := (A.v (Value.bool (((y10.Pending.length : Int)) != 0)))) (aBin_neq ..) ?_
          exact .lg ⟨_, _, _, _, rfl⟩
      rintro _ y18 ⟨j19, j20, j21, j22, rfl⟩
      iterate 5 refine .uc ?_
      refine .bg (fun t (y : Bool) => ∃ j26 j27 j28 j29 : A, t = [(A.v (Value.bool y)), j26, j27, j28, j29]) ?_ ?_
      · refine .biH (fun hk23 => ?_) (fun hk23 => ?_)
        · exact .lg ⟨_, _, _, _, rfl⟩
        · refine .st (v := (A.agg [(A.imm (List.map (cL c8) y10.Sectors) false), (A.imm (List.map c_S_Write y10.Pending) false), (A.v (Value.int .i64 y10.Left)), (A.v (Value.bool y10.Stopped))])) (by kernel_rfl) ?_
          refine .st (v := (A.agg [(A.imm (List.map (cL c8) y11.Sectors) false), (A.imm (List.map c_S_Write y11.Pending) false), (A.v (Value.int .i64 y11.Left)), (A.v (Value.bool y11.Stopped))])) (by kernel_rfl) ?_
          refine .bd (g := fun (y : Bool) => (A.v (Value.bool y))) (by show C 14 [snap [Blk.box [(A.imm (List.map (cL c8) a0.Sectors) false), (A.imm (List.map c_S_Write a0.Pending) false), (A.v (Value.int .i64 a0.Left)), (A.v (Value.bool a0.Stopped))], Blk.box [(A.imm (List.map (cL c8) y10.Sectors) false), (A.imm (List.map c_S_Write y10.Pending) false), (A.v (Value.int .i64 y10.Left)), (A.v (Value.bool y10.Stopped))], Blk.box [(A.imm (List.map (cL c8) y11.Sectors) false), (A.imm (List.map c_S_Write y11.Pending) false), (A.v (Value.int .i64 y11.Left)), (A.v (Value.bool y11.Stopped))]] (A.agg [(A.imm (List.map (cL c8) y10.Sectors) false), (A.imm (List.map c_S_Write y10.Pending) false), (A.v (Value.int .i64 y10.Left)), (A.v (Value.bool y10.Stopped))]), snap [Blk.box [(A.imm (List.map (cL c8) a0.Sectors) false), (A.imm (List.map c_S_Write a0.Pending) false), (A.v (Value.int .i64 a0.Left)), (A.v (Value.bool a0.Stopped))], Blk.box [(A.imm (List.map (cL c8) y10.Sectors) false), (A.imm (List.map c_S_Write y10.Pending) false), (A.v (Value.int .i64 y10.Left)), (A.v (Value.bool y10.Stopped))], Blk.box [(A.imm (List.map (cL c8) y11.Sectors) false), (A.imm (List.map c_S_Write y11.Pending) false), (A.v (Value.int .i64 y11.Left)), (A.v (Value.bool y11.Stopped))]] (A.agg [(A.imm (List.map (cL c8) y11.Sectors) false), (A.imm (List.map c_S_Write y11.Pending) false), (A.v (Value.int .i64 y11.Left)), (A.v (Value.bool y11.Stopped))])] = _; simp only [snap, snapW, snapWs, snapWss, snapWss_map, trim, List.map_cons, List.map_nil, fl_cI, fl_c8, fl_cB, fl_cS, fl_cL, fl_S_Write, fl_S_Disk, fl_S_kinespherelaw04_Act]; exact h14 y10 y11) fun y24 => ?_
          refine .st (v := (A.v (Value.bool (!y24)))) (by kernel_rfl) ?_
          exact .lg ⟨_, _, _, _, rfl⟩
      rintro _ y25 ⟨j26, j27, j28, j29, rfl⟩
      iterate 5 refine .uc ?_
      refine .bg (fun t (y : Bool) => ∃ j32 j33 j34 j35 j36 j37 j38 : A, t = [(A.v (Value.bool y)), j32, j33, j34, j35, j36, j37, j38]) ?_ ?_
      · refine .biH (fun hk30 => ?_) (fun hk30 => ?_)
        · exact .lg ⟨_, _, _, _, _, _, _, rfl⟩
        · refine .st (v := (A.ptr 1 0)) (by kernel_rfl) ?_
          refine .st (v := (A.imm (List.map (cL c8) y10.Sectors) false)) (by kernel_rfl) ?_
          refine .st (v := (A.v (Value.int .i64 ((y10.Sectors.length : Int))))) (len_imm (e := 35) (h1 := by kernel_rfl) ..) ?_
          refine .st (v := (A.ptr 0 0)) (by kernel_rfl) ?_
          refine .st (v := (A.imm (List.map (cL c8) a0.Sectors) false)) (by kernel_rfl) ?_
          refine .st (v := (A.v (Value.int .i64 ((a0.Sectors.length : Int))))) (len_imm (e := 35) (h1 := by kernel_rfl) ..) ?_
          refine .st (v := (A.v (Value.bool (((y10.Sectors.length : Int)) != ((a0.Sectors.length : Int)))))) (aBin_neq ..) ?_
          exact .lg ⟨_, _, _, _, _, _, _, rfl⟩
      rintro _ y31 ⟨j32, j33, j34, j35, j36, j37, j38, rfl⟩
      iterate 8 refine .uc ?_
      refine .biHN (fun hk39 => ?_) (fun hk39 => ?_)
      · exact .lf rfl rfl ⟨_, rfl, rfl⟩
      · refine .as (T9_9_0 C n h10 h11 h14 h17 h19 h21 h23 h25 a1 a2 a3 false a0.Sectors a0.Pending a0.Left a0.Stopped y10.Sectors y10.Pending y10.Left y10.Stopped y11.Sectors y11.Pending y11.Left y11.Stopped _ _ _ _ ?_ ?_ _ 0)
        · intro y62 j63 j64 j65 j66 j67 j68
          refine .un rfl ?_
          exact .lf rfl rfl ⟨_, rfl, rfl⟩
        · intro j69 j70 j71
          refine .un rfl ?_
          refine .cT (by kernel_rfl) ?_
          refine .st (v := (A.ptr 0 3)) (by kernel_rfl) ?_
          refine .st (v := [Blk.box [(A.imm (List.map (cL c8) a0.Sectors) false), (A.imm (List.map c_S_Write a0.Pending) false), (A.v (Value.int .i64 a0.Left)), (A.v (Value.bool true))], Blk.box [(A.imm (List.map (cL c8) y10.Sectors) false), (A.imm (List.map c_S_Write y10.Pending) false), (A.v (Value.int .i64 y10.Left)), (A.v (Value.bool y10.Stopped))], Blk.box [(A.imm (List.map (cL c8) y11.Sectors) false), (A.imm (List.map c_S_Write y11.Pending) false), (A.v (Value.int .i64 y11.Left)), (A.v (Value.bool y11.Stopped))]]) (by kernel_rfl) ?_
          refine .st (v := (A.agg [(A.imm (List.map (cL c8) a0.Sectors) false), (A.imm (List.map c_S_Write a0.Pending) false), (A.v (Value.int .i64 a0.Left)), (A.v (Value.bool true))])) (by kernel_rfl) ?_
          refine .bd (g := fun (y : ((List UInt8) × Int)) => (A.tup [(A.imm (List.map c8 y.1) false), (A.v (Value.int .i64 y.2))])) (by show C 21 [snap [Blk.box [(A.imm (List.map (cL c8) a0.Sectors) false), (A.imm (List.map c_S_Write a0.Pending) false), (A.v (Value.int .i64 a0.Left)), (A.v (Value.bool true))], Blk.box [(A.imm (List.map (cL c8) y10.Sectors) false), (A.imm (List.map c_S_Write y10.Pending) false), (A.v (Value.int .i64 y10.Left)), (A.v (Value.bool y10.Stopped))], Blk.box [(A.imm (List.map (cL c8) y11.Sectors) false), (A.imm (List.map c_S_Write y11.Pending) false), (A.v (Value.int .i64 y11.Left)), (A.v (Value.bool y11.Stopped))]] (A.agg [(A.imm (List.map (cL c8) a0.Sectors) false), (A.imm (List.map c_S_Write a0.Pending) false), (A.v (Value.int .i64 a0.Left)), (A.v (Value.bool true))]), snap [Blk.box [(A.imm (List.map (cL c8) a0.Sectors) false), (A.imm (List.map c_S_Write a0.Pending) false), (A.v (Value.int .i64 a0.Left)), (A.v (Value.bool true))], Blk.box [(A.imm (List.map (cL c8) y10.Sectors) false), (A.imm (List.map c_S_Write y10.Pending) false), (A.v (Value.int .i64 y10.Left)), (A.v (Value.bool y10.Stopped))], Blk.box [(A.imm (List.map (cL c8) y11.Sectors) false), (A.imm (List.map c_S_Write y11.Pending) false), (A.v (Value.int .i64 y11.Left)), (A.v (Value.bool y11.Stopped))]] (A.v (Value.int .i64 a1))] = _; simp only [snap, snapW, snapWs, snapWss, snapWss_map, trim, List.map_cons, List.map_nil, fl_cI, fl_c8, fl_cB, fl_cS, fl_cL, fl_S_Write, fl_S_Disk, fl_S_kinespherelaw04_Act]; exact h21 ((S_Disk.mk a0.Sectors a0.Pending a0.Left true)) a1) fun y72 => ?_
          refine .st (v := (A.imm (List.map c8 y72.1) false)) (by kernel_rfl) ?_
          refine .st (v := (A.v (Value.int .i64 y72.2))) (by kernel_rfl) ?_
          refine .st (v := (A.agg [(A.imm (List.map (cL c8) a0.Sectors) false), (A.imm (List.map c_S_Write a0.Pending) false), (A.v (Value.int .i64 a0.Left)), (A.v (Value.bool true))])) (by kernel_rfl) ?_
          refine .bd (g := fun (y : (S_Disk × Int)) => (A.tup [(A.agg [(A.imm (List.map (cL c8) y.1.Sectors) false), (A.imm (List.map c_S_Write y.1.Pending) false), (A.v (Value.int .i64 y.1.Left)), (A.v (Value.bool y.1.Stopped))]), (A.v (Value.int .i64 y.2))])) (by show C 19 [snap [Blk.box [(A.imm (List.map (cL c8) a0.Sectors) false), (A.imm (List.map c_S_Write a0.Pending) false), (A.v (Value.int .i64 a0.Left)), (A.v (Value.bool true))], Blk.box [(A.imm (List.map (cL c8) y10.Sectors) false), (A.imm (List.map c_S_Write y10.Pending) false), (A.v (Value.int .i64 y10.Left)), (A.v (Value.bool y10.Stopped))], Blk.box [(A.imm (List.map (cL c8) y11.Sectors) false), (A.imm (List.map c_S_Write y11.Pending) false), (A.v (Value.int .i64 y11.Left)), (A.v (Value.bool y11.Stopped))]] (A.agg [(A.imm (List.map (cL c8) a0.Sectors) false), (A.imm (List.map c_S_Write a0.Pending) false), (A.v (Value.int .i64 a0.Left)), (A.v (Value.bool true))]), snap [Blk.box [(A.imm (List.map (cL c8) a0.Sectors) false), (A.imm (List.map c_S_Write a0.Pending) false), (A.v (Value.int .i64 a0.Left)), (A.v (Value.bool true))], Blk.box [(A.imm (List.map (cL c8) y10.Sectors) false), (A.imm (List.map c_S_Write y10.Pending) false), (A.v (Value.int .i64 y10.Left)), (A.v (Value.bool y10.Stopped))], Blk.box [(A.imm (List.map (cL c8) y11.Sectors) false), (A.imm (List.map c_S_Write y11.Pending) false), (A.v (Value.int .i64 y11.Left)), (A.v (Value.bool y11.Stopped))]] (A.v (Value.int .i64 a1)), snap [Blk.box [(A.imm (List.map (cL c8) a0.Sectors) false), (A.imm (List.map c_S_Write a0.Pending) false), (A.v (Value.int .i64 a0.Left)), (A.v (Value.bool true))], Blk.box [(A.imm (List.map (cL c8) y10.Sectors) false), (A.imm (List.map c_S_Write y10.Pending) false), (A.v (Value.int .i64 y10.Left)), (A.v (Value.bool y10.Stopped))], Blk.box [(A.imm (List.map (cL c8) y11.Sectors) false), (A.imm (List.map c_S_Write y11.Pending) false), (A.v (Value.int .i64 y11.Left)), (A.v (Value.bool y11.Stopped))]] (A.imm (List.map c8 a3) false)] = _; simp only [snap, snapW, snapWs, snapWss, snapWss_map, trim, List.map_cons, List.map_nil, fl_cI, fl_c8, fl_cB, fl_cS, fl_cL, fl_S_Write, fl_S_Disk, fl_S_kinespherelaw04_Act]; exact h19 ((S_Disk.mk a0.Sectors a0.Pending a0.Left true)) a1 a3) fun y73 => ?_
          refine .st (v := (A.agg [(A.imm (List.map (cL c8) y73.1.Sectors) false), (A.imm (List.map c_S_Write y73.1.Pending) false), (A.v (Value.int .i64 y73.1.Left)), (A.v (Value.bool y73.1.Stopped))])) (by kernel_rfl) ?_
          refine .st (v := (A.v (Value.int .i64 y73.2))) (by kernel_rfl) ?_
          refine .st (v := ((A.ptr 3 0), [Blk.box [(A.imm (List.map (cL c8) a0.Sectors) false), (A.imm (List.map c_S_Write a0.Pending) false), (A.v (Value.int .i64 a0.Left)), (A.v (Value.bool true))], Blk.box [(A.imm (List.map (cL c8) y10.Sectors) false), (A.imm (List.map c_S_Write y10.Pending) false), (A.v (Value.int .i64 y10.Left)), (A.v (Value.bool y10.Stopped))], Blk.box [(A.imm (List.map (cL c8) y11.Sectors) false), (A.imm (List.map c_S_Write y11.Pending) false), (A.v (Value.int .i64 y11.Left)), (A.v (Value.bool y11.Stopped))], Blk.box [(A.imm [] true), (A.imm [] true), (A.v (Value.int .i64 0)), (A.v (Value.bool false))]])) (by kernel_rfl) ?_
          refine .st (v := [Blk.box [(A.imm (List.map (cL c8) a0.Sectors) false), (A.imm (List.map c_S_Write a0.Pending) false), (A.v (Value.int .i64 a0.Left)), (A.v (Value.bool true))], Blk.box [(A.imm (List.map (cL c8) y10.Sectors) false), (A.imm (List.map c_S_Write y10.Pending) false), (A.v (Value.int .i64 y10.Left)), (A.v (Value.bool y10.Stopped))], Blk.box [(A.imm (List.map (cL c8) y11.Sectors) false), (A.imm (List.map c_S_Write y11.Pending) false), (A.v (Value.int .i64 y11.Left)), (A.v (Value.bool y11.Stopped))], Blk.box [(A.imm (List.map (cL c8) y73.1.Sectors) false), (A.imm (List.map c_S_Write y73.1.Pending) false), (A.v (Value.int .i64 y73.1.Left)), (A.v (Value.bool y73.1.Stopped))]]) (by kernel_rfl) ?_
          refine .st (v := (A.agg [(A.imm (List.map (cL c8) a0.Sectors) false), (A.imm (List.map c_S_Write a0.Pending) false), (A.v (Value.int .i64 a0.Left)), (A.v (Value.bool true))])) (by kernel_rfl) ?_
          refine .bd (g := fun (y : (S_Disk × Int)) => (A.tup [(A.agg [(A.imm (List.map (cL c8) y.1.Sectors) false), (A.imm (List.map c_S_Write y.1.Pending) false), (A.v (Value.int .i64 y.1.Left)), (A.v (Value.bool y.1.Stopped))]), (A.v (Value.int .i64 y.2))])) (by show C 23 [snap [Blk.box [(A.imm (List.map (cL c8) a0.Sectors) false), (A.imm (List.map c_S_Write a0.Pending) false), (A.v (Value.int .i64 a0.Left)), (A.v (Value.bool true))], Blk.box [(A.imm (List.map (cL c8) y10.Sectors) false), (A.imm (List.map c_S_Write y10.Pending) false), (A.v (Value.int .i64 y10.Left)), (A.v (Value.bool y10.Stopped))], Blk.box [(A.imm (List.map (cL c8) y11.Sectors) false), (A.imm (List.map c_S_Write y11.Pending) false), (A.v (Value.int .i64 y11.Left)), (A.v (Value.bool y11.Stopped))], Blk.box [(A.imm (List.map (cL c8) y73.1.Sectors) false), (A.imm (List.map c_S_Write y73.1.Pending) false), (A.v (Value.int .i64 y73.1.Left)), (A.v (Value.bool y73.1.Stopped))]] (A.agg [(A.imm (List.map (cL c8) a0.Sectors) false), (A.imm (List.map c_S_Write a0.Pending) false), (A.v (Value.int .i64 a0.Left)), (A.v (Value.bool true))])] = _; simp only [snap, snapW, snapWs, snapWss, snapWss_map, trim, List.map_cons, List.map_nil, fl_cI, fl_c8, fl_cB, fl_cS, fl_cL, fl_S_Write, fl_S_Disk, fl_S_kinespherelaw04_Act]; exact h23 ((S_Disk.mk a0.Sectors a0.Pending a0.Left true))) fun y74 => ?_
          refine .st (v := (A.agg [(A.imm (List.map (cL c8) y74.1.Sectors) false), (A.imm (List.map c_S_Write y74.1.Pending) false), (A.v (Value.int .i64 y74.1.Left)), (A.v (Value.bool y74.1.Stopped))])) (by kernel_rfl) ?_
          refine .st (v := (A.v (Value.int .i64 y74.2))) (by kernel_rfl) ?_
          refine .st (v := ((A.ptr 4 0), [Blk.box [(A.imm (List.map (cL c8) a0.Sectors) false), (A.imm (List.map c_S_Write a0.Pending) false), (A.v (Value.int .i64 a0.Left)), (A.v (Value.bool true))], Blk.box [(A.imm (List.map (cL c8) y10.Sectors) false), (A.imm (List.map c_S_Write y10.Pending) false), (A.v (Value.int .i64 y10.Left)), (A.v (Value.bool y10.Stopped))], Blk.box [(A.imm (List.map (cL c8) y11.Sectors) false), (A.imm (List.map c_S_Write y11.Pending) false), (A.v (Value.int .i64 y11.Left)), (A.v (Value.bool y11.Stopped))], Blk.box [(A.imm (List.map (cL c8) y73.1.Sectors) false), (A.imm (List.map c_S_Write y73.1.Pending) false), (A.v (Value.int .i64 y73.1.Left)), (A.v (Value.bool y73.1.Stopped))], Blk.box [(A.imm [] true), (A.imm [] true), (A.v (Value.int .i64 0)), (A.v (Value.bool false))]])) (by kernel_rfl) ?_
          refine .st (v := [Blk.box [(A.imm (List.map (cL c8) a0.Sectors) false), (A.imm (List.map c_S_Write a0.Pending) false), (A.v (Value.int .i64 a0.Left)), (A.v (Value.bool true))], Blk.box [(A.imm (List.map (cL c8) y10.Sectors) false), (A.imm (List.map c_S_Write y10.Pending) false), (A.v (Value.int .i64 y10.Left)), (A.v (Value.bool y10.Stopped))], Blk.box [(A.imm (List.map (cL c8) y11.Sectors) false), (A.imm (List.map c_S_Write y11.Pending) false), (A.v (Value.int .i64 y11.Left)), (A.v (Value.bool y11.Stopped))], Blk.box [(A.imm (List.map (cL c8) y73.1.Sectors) false), (A.imm (List.map c_S_Write y73.1.Pending) false), (A.v (Value.int .i64 y73.1.Left)), (A.v (Value.bool y73.1.Stopped))], Blk.box [(A.imm (List.map (cL c8) y74.1.Sectors) false), (A.imm (List.map c_S_Write y74.1.Pending) false), (A.v (Value.int .i64 y74.1.Left)), (A.v (Value.bool y74.1.Stopped))]]) (by kernel_rfl) ?_
          refine .st (v := (A.agg [(A.imm (List.map (cL c8) a0.Sectors) false), (A.imm (List.map c_S_Write a0.Pending) false), (A.v (Value.int .i64 a0.Left)), (A.v (Value.bool true))])) (by kernel_rfl) ?_
          refine .bd (g := fun (y : (S_Disk × Int)) => (A.tup [(A.agg [(A.imm (List.map (cL c8) y.1.Sectors) false), (A.imm (List.map c_S_Write y.1.Pending) false), (A.v (Value.int .i64 y.1.Left)), (A.v (Value.bool y.1.Stopped))]), (A.v (Value.int .i64 y.2))])) (by show C 25 [snap [Blk.box [(A.imm (List.map (cL c8) a0.Sectors) false), (A.imm (List.map c_S_Write a0.Pending) false), (A.v (Value.int .i64 a0.Left)), (A.v (Value.bool true))], Blk.box [(A.imm (List.map (cL c8) y10.Sectors) false), (A.imm (List.map c_S_Write y10.Pending) false), (A.v (Value.int .i64 y10.Left)), (A.v (Value.bool y10.Stopped))], Blk.box [(A.imm (List.map (cL c8) y11.Sectors) false), (A.imm (List.map c_S_Write y11.Pending) false), (A.v (Value.int .i64 y11.Left)), (A.v (Value.bool y11.Stopped))], Blk.box [(A.imm (List.map (cL c8) y73.1.Sectors) false), (A.imm (List.map c_S_Write y73.1.Pending) false), (A.v (Value.int .i64 y73.1.Left)), (A.v (Value.bool y73.1.Stopped))], Blk.box [(A.imm (List.map (cL c8) y74.1.Sectors) false), (A.imm (List.map c_S_Write y74.1.Pending) false), (A.v (Value.int .i64 y74.1.Left)), (A.v (Value.bool y74.1.Stopped))]] (A.agg [(A.imm (List.map (cL c8) a0.Sectors) false), (A.imm (List.map c_S_Write a0.Pending) false), (A.v (Value.int .i64 a0.Left)), (A.v (Value.bool true))]), snap [Blk.box [(A.imm (List.map (cL c8) a0.Sectors) false), (A.imm (List.map c_S_Write a0.Pending) false), (A.v (Value.int .i64 a0.Left)), (A.v (Value.bool true))], Blk.box [(A.imm (List.map (cL c8) y10.Sectors) false), (A.imm (List.map c_S_Write y10.Pending) false), (A.v (Value.int .i64 y10.Left)), (A.v (Value.bool y10.Stopped))], Blk.box [(A.imm (List.map (cL c8) y11.Sectors) false), (A.imm (List.map c_S_Write y11.Pending) false), (A.v (Value.int .i64 y11.Left)), (A.v (Value.bool y11.Stopped))], Blk.box [(A.imm (List.map (cL c8) y73.1.Sectors) false), (A.imm (List.map c_S_Write y73.1.Pending) false), (A.v (Value.int .i64 y73.1.Left)), (A.v (Value.bool y73.1.Stopped))], Blk.box [(A.imm (List.map (cL c8) y74.1.Sectors) false), (A.imm (List.map c_S_Write y74.1.Pending) false), (A.v (Value.int .i64 y74.1.Left)), (A.v (Value.bool y74.1.Stopped))]] (A.v (Value.int .i64 a2))] = _; simp only [snap, snapW, snapWs, snapWss, snapWss_map, trim, List.map_cons, List.map_nil, fl_cI, fl_c8, fl_cB, fl_cS, fl_cL, fl_S_Write, fl_S_Disk, fl_S_kinespherelaw04_Act]; exact h25 ((S_Disk.mk a0.Sectors a0.Pending a0.Left true)) a2) fun y75 => ?_
          refine .st (v := (A.agg [(A.imm (List.map (cL c8) y75.1.Sectors) false), (A.imm (List.map c_S_Write y75.1.Pending) false), (A.v (Value.int .i64 y75.1.Left)), (A.v (Value.bool y75.1.Stopped))])) (by kernel_rfl) ?_
          refine .st (v := (A.v (Value.int .i64 y75.2))) (by kernel_rfl) ?_
          refine .st (v := ((A.ptr 5 0), [Blk.box [(A.imm (List.map (cL c8) a0.Sectors) false), (A.imm (List.map c_S_Write a0.Pending) false), (A.v (Value.int .i64 a0.Left)), (A.v (Value.bool true))], Blk.box [(A.imm (List.map (cL c8) y10.Sectors) false), (A.imm (List.map c_S_Write y10.Pending) false), (A.v (Value.int .i64 y10.Left)), (A.v (Value.bool y10.Stopped))], Blk.box [(A.imm (List.map (cL c8) y11.Sectors) false), (A.imm (List.map c_S_Write y11.Pending) false), (A.v (Value.int .i64 y11.Left)), (A.v (Value.bool y11.Stopped))], Blk.box [(A.imm (List.map (cL c8) y73.1.Sectors) false), (A.imm (List.map c_S_Write y73.1.Pending) false), (A.v (Value.int .i64 y73.1.Left)), (A.v (Value.bool y73.1.Stopped))], Blk.box [(A.imm (List.map (cL c8) y74.1.Sectors) false), (A.imm (List.map c_S_Write y74.1.Pending) false), (A.v (Value.int .i64 y74.1.Left)), (A.v (Value.bool y74.1.Stopped))], Blk.box [(A.imm [] true), (A.imm [] true), (A.v (Value.int .i64 0)), (A.v (Value.bool false))]])) (by kernel_rfl) ?_
          refine .st (v := [Blk.box [(A.imm (List.map (cL c8) a0.Sectors) false), (A.imm (List.map c_S_Write a0.Pending) false), (A.v (Value.int .i64 a0.Left)), (A.v (Value.bool true))], Blk.box [(A.imm (List.map (cL c8) y10.Sectors) false), (A.imm (List.map c_S_Write y10.Pending) false), (A.v (Value.int .i64 y10.Left)), (A.v (Value.bool y10.Stopped))], Blk.box [(A.imm (List.map (cL c8) y11.Sectors) false), (A.imm (List.map c_S_Write y11.Pending) false), (A.v (Value.int .i64 y11.Left)), (A.v (Value.bool y11.Stopped))], Blk.box [(A.imm (List.map (cL c8) y73.1.Sectors) false), (A.imm (List.map c_S_Write y73.1.Pending) false), (A.v (Value.int .i64 y73.1.Left)), (A.v (Value.bool y73.1.Stopped))], Blk.box [(A.imm (List.map (cL c8) y74.1.Sectors) false), (A.imm (List.map c_S_Write y74.1.Pending) false), (A.v (Value.int .i64 y74.1.Left)), (A.v (Value.bool y74.1.Stopped))], Blk.box [(A.imm (List.map (cL c8) y75.1.Sectors) false), (A.imm (List.map c_S_Write y75.1.Pending) false), (A.v (Value.int .i64 y75.1.Left)), (A.v (Value.bool y75.1.Stopped))]]) (by kernel_rfl) ?_
          refine .st (v := (A.v (Value.bool (y72.2 == 40)))) (aBin_eql ..) ?_
          refine .bg (fun t (y : Bool) => ∃ j78 j79 : A, t = [(A.v (Value.bool y)), j78, j79]) ?_ ?_
          · refine .biH (fun hk76 => ?_) (fun hk76 => ?_)
            · refine .st (v := (A.v (Value.bool (y73.2 == 40)))) (aBin_eql ..) ?_
              exact .lg ⟨_, _, rfl⟩
            · exact .lg ⟨_, _, rfl⟩
          rintro _ y77 ⟨j78, j79, rfl⟩
          iterate 3 refine .uc ?_
          refine .bg (fun t (y : Bool) => ∃ j82 j83 : A, t = [(A.v (Value.bool y)), j82, j83]) ?_ ?_
          · refine .biH (fun hk80 => ?_) (fun hk80 => ?_)
            · refine .st (v := (A.v (Value.bool (y74.2 == 40)))) (aBin_eql ..) ?_
              exact .lg ⟨_, _, rfl⟩
            · exact .lg ⟨_, _, rfl⟩
          rintro _ y81 ⟨j82, j83, rfl⟩
          iterate 3 refine .uc ?_
          refine .bg (fun t (y : Bool) => ∃ j86 j87 : A, t = [(A.v (Value.bool y)), j86, j87]) ?_ ?_
          · refine .biH (fun hk84 => ?_) (fun hk84 => ?_)
            · refine .st (v := (A.v (Value.bool (y75.2 == 40)))) (aBin_eql ..) ?_
              exact .lg ⟨_, _, rfl⟩
            · exact .lg ⟨_, _, rfl⟩
          rintro _ y85 ⟨j86, j87, rfl⟩
          iterate 3 refine .uc ?_
          exact .lf rfl rfl ⟨_, rfl, rfl⟩

def G9 (a0 : S_Disk) (a1 : Int) (a2 : Int) (a3 : (List UInt8)) : Option Bool := F9 fuel0 a0 a1 a2 a3

def Orc9 (C : Nat → List A → Option A) : Prop := ∀ (a0 : S_Disk) (a1 : Int) (a2 : Int) (a3 : (List UInt8)), C 9 [(A.agg [(A.imm (List.map (cL c8) a0.Sectors) false), (A.imm (List.map c_S_Write a0.Pending) false), (A.v (Value.int .i64 a0.Left)), (A.v (Value.bool a0.Stopped))]), (A.v (Value.int .i64 a1)), (A.v (Value.int .i64 a2)), (A.imm (List.map c8 a3) false)] = (G9 a0 a1 a2 a3).map fun y => (A.v (Value.bool y))
end Go.Proofs.Ythoomfjliekbdaa
