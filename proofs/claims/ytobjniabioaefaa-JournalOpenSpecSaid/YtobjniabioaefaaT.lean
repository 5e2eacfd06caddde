/-
  The program's functions as plain functions: by a tool; each follows the interpreter.
-/
import Derived.Test.YtobjniabioaefaaT1
import Derived.KernelRfl
namespace Go.Proofs.Ytobjniabioaefaa
set_option linter.unusedVariables false
set_option linter.unusedSimpArgs false
set_option maxHeartbeats 4000000
set_option maxRecDepth 100000
def hk21_4 (a0 : S_Journal) : Blk := Blk.box [(A.imm (List.map (cL c8) a0.Records) false), (iA a0.Many), (iA ((a0.Records.length : Int)))]
def F21_21_0 (n : Nat) (v13 : Int) (v15 : (List (List UInt8))) (v16 : Int) (v18 : S_Journal) (v19 : S_Disk) (v20 : (List (List UInt8))) (v21 : Int) (v22 : Int) (v23 : (List (List UInt8))) (v24 : (List S_Write)) (v25 : Int) (v26 : Bool) (v27 : S_Journal) : Nat → Int → Int → Option (Int)
  | 0, _, _ => none
  | m + 1, v14, v17 => bif (decide (v17 < v16)) then (Option.bind (getI v15 v17) fun y29 => Option.bind (subI y29 0 4) fun y30 => Option.bind (G41 y30) fun y31 => Option.bind (subI y29 124 ((y29.length : Int))) fun y32 => Option.bind (G41 y32) fun y33 => F21_21_0 n v13 v15 v16 v18 v19 v20 v21 v22 v23 v24 v25 v26 v27 m ((if (if v14 < wr .u64 (y31 + 1) then wr .u64 (y31 + 1) else v14) < wr .u64 (y33 + 1) then wr .u64 (y33 + 1) else (if v14 < wr .u64 (y31 + 1) then wr .u64 (y31 + 1) else v14))) (wr .i64 (v17 + 1))) else (some v14)
theorem T21_21_0 (C : Nat → List A → Option A) (n : Nat) (h12 : Orc12 C) (h17 : Orc17 C) (h26 : Orc26 C) (h27 : Orc27 C) (h31 : Orc31 C) (h35 : Orc35 C) (h36 : Orc36 C) (h41 : Orc41 C) (h43 : Orc43 C) (h44 : Orc44 C) (v13 : Int) (v15 : (List (List UInt8))) (v16 : Int) (v18 : S_Journal) (v19 : S_Disk) (v20 : (List (List UInt8))) (v21 : Int) (v22 : Int) (v23 : (List (List UInt8))) (v24 : (List S_Write)) (v25 : Int) (v26 : Bool) (v27 : S_Journal) {ρ γ : Type} {φ : ρ → γ → Prop} {kL : R → Option ρ} {K : (Int) → Option γ} (kx kg : Nat → St → Option R) (kr : St → Option R) (kp : A → St → Option R) (x0 : ∀ (o0 : Int) (s57 : A) (s58 : A) (s59 : A), J φ (kx 0 (St.mk [(2, (A.ptr 0 0)), (3, (A.ptr 1 0)), (4, (A.ptr 2 0)), (5, (A.ptr 3 0)), (6, (iA v13)), (9, (A.ptr 4 0)), (10, (A.v (Value.int .u64 o0))), (57, s57), (58, s58), (59, s59)] [Blk.box (c_S_Journal v18), Blk.box (c_S_Disk v19), Blk.box [(A.imm (List.map (cL c8) v20) true), (iA v21), (iA v22)], (hk27_1 v23 v24 v25 v26), Blk.box (c_S_Journal v27)])) kL (K o0) some) :
    ∀ (m : Nat) (v14 : Int) (v17 : Int), J φ (loopR (cx C) (evCall (cx C) (n+8)) (evCallY (cx C) (n+8)) (n+8) 21 0 0 5 kx kg kr kp m (St.mk [(2, (A.ptr 0 0)), (3, (A.ptr 1 0)), (4, (A.ptr 2 0)), (5, (A.ptr 3 0)), (6, (iA v13)), (9, (A.ptr 4 0)), (10, (A.v (Value.int .u64 v14))), (57, (A.imm (List.map (cL c8) v15) false)), (58, (iA v16)), (59, (iA v17))] [Blk.box (c_S_Journal v18), Blk.box (c_S_Disk v19), Blk.box [(A.imm (List.map (cL c8) v20) true), (iA v21), (iA v22)], (hk27_1 v23 v24 v25 v26), Blk.box (c_S_Journal v27)])) kL (F21_21_0 n v13 v15 v16 v18 v19 v20 v21 v22 v23 v24 v25 v26 v27 m v14 v17) K := by
  intro m
  induction m with
  | zero => intros; exact .nn
  | succ m ih =>
    intro v14 v17
    refine .lp (e21_0 ..) ?_
    unfold F21_21_0
    refine .st (v := (bA (decide (v17 < v16)))) (aBin_lss ..) ?_
    refine .biHN (fun hk28 => ?_) (fun hk28 => ?_)
    · refine .bd (g := fun (y : (List UInt8)) => A.ip ((cL c8) y)) (idx_imm (e := 35) (es := 1) (h1 := by kernel_rfl) (h2 := by kernel_rfl) (h3 := fun _ => rfl) ..) fun y29 => ?_
      refine .s (A.imm (List.map c8 y29) false) ?_
      refine .bd (g := fun (y : List UInt8) => (A.imm (List.map c8 y) false)) (cut_imm (e := 5) (es := 1) (f := c8) (l := y29) (a := 0) (b := 4) (by kernel_rfl) (by kernel_rfl) (fun _ => rfl) (.inl ⟨rfl, rfl⟩) (.inr ⟨_, rfl⟩)) fun y30 => ?_
      refine .bd (g := fun (y : Int) => (A.v (Value.int .u64 y))) (by show C 41 [snap [Blk.box (c_S_Journal v18), Blk.box (c_S_Disk v19), Blk.box [(A.imm (List.map (cL c8) v20) true), (iA v21), (iA v22)], (hk27_1 v23 v24 v25 v26), Blk.box (c_S_Journal v27)] (A.imm (List.map c8 y30) false)] = _; simp only [snap, snapW, snapWs, snapWss, snapWss_map, trim, List.map_cons, List.map_nil, fl_cI, fl_c8, fl_cB, fl_cS, fl_cL, fl_S_Write, fl_S_Disk, fl_S_Journal, snapWs_app, fq_S_Write, fq_S_Disk, fq_S_Journal]; exact h41 y30) fun y31 => ?_
      refine .st (v := (A.v (Value.int .u64 (wr .u64 (y31 + 1))))) (aBin_add ..) ?_
      refine .bd (g := fun (y : List UInt8) => (A.imm (List.map c8 y) false)) (cut_imm (e := 5) (es := 1) (f := c8) (l := y29) (a := 124) (b := (y29.length : Int)) (by kernel_rfl) (by kernel_rfl) (fun _ => rfl) (.inr ⟨_, rfl⟩) (.inl ⟨rfl, rfl⟩)) fun y32 => ?_
      refine .bd (g := fun (y : Int) => (A.v (Value.int .u64 y))) (by show C 41 [snap [Blk.box (c_S_Journal v18), Blk.box (c_S_Disk v19), Blk.box [(A.imm (List.map (cL c8) v20) true), (iA v21), (iA v22)], (hk27_1 v23 v24 v25 v26), Blk.box (c_S_Journal v27)] (A.imm (List.map c8 y32) false)] = _; simp only [snap, snapW, snapWs, snapWss, snapWss_map, trim, List.map_cons, List.map_nil, fl_cI, fl_c8, fl_cB, fl_cS, fl_cL, fl_S_Write, fl_S_Disk, fl_S_Journal, snapWs_app, fq_S_Write, fq_S_Disk, fq_S_Journal]; exact h41 y32) fun y33 => ?_
      refine .st (v := (A.v (Value.int .u64 (wr .u64 (y33 + 1))))) (aBin_add ..) ?_
      refine .s (A.v (Value.int .u64 ((if (if v14 < wr .u64 (y31 + 1) then wr .u64 (y31 + 1) else v14) < wr .u64 (y33 + 1) then wr .u64 (y33 + 1) else (if v14 < wr .u64 (y31 + 1) then wr .u64 (y31 + 1) else v14))))) ?_
      refine .st (v := (iA (wr .i64 (v17 + 1)))) (aBin_add ..) ?_
      refine .s [Blk.box (c_S_Journal v18), Blk.box (c_S_Disk v19), Blk.box [(A.imm (List.map (cL c8) v20) true), (iA v21), (iA v22)], (hk27_1 v23 v24 v25 v26), Blk.box (c_S_Journal v27)] ?_
      refine .cT (by kernel_rfl) ?_
      exact ih _ _
    exact .ex (x0 _ _ _ _)
def F21_21_2 (n : Nat) (v70 : Int) (v75 : (List (List UInt8))) (v76 : Int) (v77 : Int) (v78 : S_Journal) (v80 : (List (List UInt8))) (v81 : Int) (v82 : Int) (v83 : (List (List UInt8))) (v84 : (List S_Write)) (v85 : Int) (v86 : Bool) (v87 : S_Journal) : Nat → Int → Int → (List UInt8) → Int → Int → S_Disk → Option ((Int × Int × (List (List UInt8)) × (List S_Write) × Int × Bool × Int × Int × Int × Bool) ⊕ (Int × Int × (List (List UInt8)) × (List S_Write) × Int × Bool))
  | 0, _, _, _, _, _, _ => none
  | m + 1, v69, v71, v72, v73, v74, v79 => bif (decide (0 < v74)) then (bif (v74 == 1) then (Option.bind (subI v72 0 ((if 112 < (v72.length : Int) then 112 else (v72.length : Int)))) fun y90 => Option.bind (G44 v70 v71 (orI .u8 v73 2) y90) fun y91 => Option.bind (G26 v79 v71 y91) fun y92 => bif (y92.2 != 0) then (some ((Sum.inl ((y92.2, v71, y92.1.Sectors, y92.1.Pending, y92.1.Left, y92.1.Stopped, 0, 0, 0, false))))) else (Option.bind (subI v72 ((if 112 < (v72.length : Int) then 112 else (v72.length : Int))) ((v72.length : Int))) fun y94 => F21_21_2 n v70 v75 v76 v77 v78 v80 v81 v82 v83 v84 v85 v86 v87 m y92.2 (wr .i64 (v71 + 1)) y94 0 (wr .i64 (v74 - 1)) y92.1)) else (Option.bind (subI v72 0 ((if 112 < (v72.length : Int) then 112 else (v72.length : Int)))) fun y95 => Option.bind (G44 v70 v71 v73 y95) fun y96 => Option.bind (G26 v79 v71 y96) fun y97 => bif (y97.2 != 0) then (some ((Sum.inl ((y97.2, v71, y97.1.Sectors, y97.1.Pending, y97.1.Left, y97.1.Stopped, 0, 0, 0, false))))) else (Option.bind (subI v72 ((if 112 < (v72.length : Int) then 112 else (v72.length : Int))) ((v72.length : Int))) fun y99 => F21_21_2 n v70 v75 v76 v77 v78 v80 v81 v82 v83 v84 v85 v86 v87 m y97.2 (wr .i64 (v71 + 1)) y99 0 (wr .i64 (v74 - 1)) y97.1))) else (some ((Sum.inr ((v69, v71, v79.Sectors, v79.Pending, v79.Left, v79.Stopped)))))
theorem T21_21_2 (C : Nat → List A → Option A) (n : Nat) (h12 : Orc12 C) (h17 : Orc17 C) (h26 : Orc26 C) (h27 : Orc27 C) (h31 : Orc31 C) (h35 : Orc35 C) (h36 : Orc36 C) (h41 : Orc41 C) (h43 : Orc43 C) (h44 : Orc44 C) (v70 : Int) (v75 : (List (List UInt8))) (v76 : Int) (v77 : Int) (v78 : S_Journal) (v80 : (List (List UInt8))) (v81 : Int) (v82 : Int) (v83 : (List (List UInt8))) (v84 : (List S_Write)) (v85 : Int) (v86 : Bool) (v87 : S_Journal) {ρ γ : Type} {φ : ρ → γ → Prop} {kL : R → Option ρ} {K : ((Int × Int × (List (List UInt8)) × (List S_Write) × Int × Bool × Int × Int × Int × Bool) ⊕ (Int × Int × (List (List UInt8)) × (List S_Write) × Int × Bool)) → Option γ} (kx kg : Nat → St → Option R) (kr : St → Option R) (kp : A → St → Option R) (x0 : ∀ (o0 : Int) (o1 : Int) (o2 : (List (List UInt8))) (o3 : (List S_Write)) (o4 : Int) (o5 : Bool) (o6 : Int) (o7 : Int) (o8 : Int) (o9 : Bool) (s15 : A) (s16 : A) (s17 : A), J φ (kr (St.mk [(2, (A.ptr 0 0)), (3, (A.ptr 1 0)), (4, (A.ptr 2 0)), (5, (A.ptr 3 0)), (6, (iA o0)), (10, (A.v (Value.int .u64 v70))), (13, (iA o1)), (15, s15), (16, s16), (17, s17), (108, (A.imm (List.map (cL c8) v75) false)), (109, (iA v76)), (110, (iA v77))] [Blk.box (c_S_Journal v78), Blk.box [(A.imm (List.map (cL c8) o2) false), (A.imm (List.map c_S_Write o3) false), (iA o4), (bA o5)], Blk.box [(A.imm [] true), (iA o6), (iA o7)], Blk.box [(A.imm [] true), (A.imm [] true), (iA o8), (bA o9)], Blk.box (c_S_Journal v87)])) kL (K (Sum.inl ((o0, o1, o2, o3, o4, o5, o6, o7, o8, o9)))) some) (x1 : ∀ (o0 : Int) (o1 : Int) (o2 : (List (List UInt8))) (o3 : (List S_Write)) (o4 : Int) (o5 : Bool) (s15 : A) (s16 : A) (s17 : A), J φ (kx 4 (St.mk [(2, (A.ptr 0 0)), (3, (A.ptr 1 0)), (4, (A.ptr 2 0)), (5, (A.ptr 3 0)), (6, (iA o0)), (10, (A.v (Value.int .u64 v70))), (13, (iA o1)), (15, s15), (16, s16), (17, s17), (108, (A.imm (List.map (cL c8) v75) false)), (109, (iA v76)), (110, (iA v77))] [Blk.box (c_S_Journal v78), Blk.box [(A.imm (List.map (cL c8) o2) false), (A.imm (List.map c_S_Write o3) false), (iA o4), (bA o5)], Blk.box [(A.imm (List.map (cL c8) v80) true), (iA v81), (iA v82)], (hk27_1 v83 v84 v85 v86), Blk.box (c_S_Journal v87)])) kL (K (Sum.inr ((o0, o1, o2, o3, o4, o5)))) some) :
    ∀ (m : Nat) (v69 : Int) (v71 : Int) (v72 : (List UInt8)) (v73 : Int) (v74 : Int) (v79 : S_Disk), J φ (loopR (cx C) (evCall (cx C) (n+8)) (evCallY (cx C) (n+8)) (n+8) 21 0 2 5 kx kg kr kp m (St.mk [(2, (A.ptr 0 0)), (3, (A.ptr 1 0)), (4, (A.ptr 2 0)), (5, (A.ptr 3 0)), (6, (iA v69)), (10, (A.v (Value.int .u64 v70))), (13, (iA v71)), (15, (A.imm (List.map c8 v72) false)), (16, (uA v73)), (17, (iA v74)), (108, (A.imm (List.map (cL c8) v75) false)), (109, (iA v76)), (110, (iA v77))] [Blk.box (c_S_Journal v78), Blk.box (c_S_Disk v79), Blk.box [(A.imm (List.map (cL c8) v80) true), (iA v81), (iA v82)], (hk27_1 v83 v84 v85 v86), Blk.box (c_S_Journal v87)])) kL (F21_21_2 n v70 v75 v76 v77 v78 v80 v81 v82 v83 v84 v85 v86 v87 m v69 v71 v72 v73 v74 v79) K := by
  intro m
  induction m with
  | zero => intros; exact .nn
  | succ m ih =>
    intro v69 v71 v72 v73 v74 v79
    refine .lp (e21_2 ..) ?_
    unfold F21_21_2
    refine .st (v := (bA (decide (0 < v74)))) (aBin_gtr ..) ?_
    refine .biHN (fun hk88 => ?_) (fun hk88 => ?_)
    · refine .st (v := (bA (v74 == 1))) (aBin_eql ..) ?_
      refine .biHN (fun hk89 => ?_) (fun hk89 => ?_)
      · refine .st (v := (uA (orI .u8 v73 2))) (aBin_bits_or ..) ?_
        refine .st (v := (iA ((v72.length : Int)))) (len_imm (e := 5) (h1 := by kernel_rfl) ..) ?_
        refine .s (iA ((if 112 < (v72.length : Int) then 112 else (v72.length : Int)))) (.s (A.agg (c_S_Disk v79)) ?_)
        refine .bd (g := fun (y : List UInt8) => (A.imm (List.map c8 y) false)) (cut_imm (e := 5) (es := 1) (f := c8) (l := v72) (a := 0) (b := (if 112 < (v72.length : Int) then 112 else (v72.length : Int))) (by kernel_rfl) (by kernel_rfl) (fun _ => rfl) (.inl ⟨rfl, rfl⟩) (.inr ⟨_, rfl⟩)) fun y90 => ?_
        refine .bd (g := fun (y : (List UInt8)) => (A.imm (List.map c8 y) false)) (by show C 44 [snap [Blk.box (c_S_Journal v78), Blk.box (c_S_Disk v79), Blk.box [(A.imm (List.map (cL c8) v80) true), (iA v81), (iA v82)], (hk27_1 v83 v84 v85 v86), Blk.box (c_S_Journal v87)] (A.v (Value.int .u64 v70)), snap [Blk.box (c_S_Journal v78), Blk.box (c_S_Disk v79), Blk.box [(A.imm (List.map (cL c8) v80) true), (iA v81), (iA v82)], (hk27_1 v83 v84 v85 v86), Blk.box (c_S_Journal v87)] (iA v71), snap [Blk.box (c_S_Journal v78), Blk.box (c_S_Disk v79), Blk.box [(A.imm (List.map (cL c8) v80) true), (iA v81), (iA v82)], (hk27_1 v83 v84 v85 v86), Blk.box (c_S_Journal v87)] (uA (orI .u8 v73 2)), snap [Blk.box (c_S_Journal v78), Blk.box (c_S_Disk v79), Blk.box [(A.imm (List.map (cL c8) v80) true), (iA v81), (iA v82)], (hk27_1 v83 v84 v85 v86), Blk.box (c_S_Journal v87)] (A.imm (List.map c8 y90) false)] = _; simp only [snap, snapW, snapWs, snapWss, snapWss_map, trim, List.map_cons, List.map_nil, fl_cI, fl_c8, fl_cB, fl_cS, fl_cL, fl_S_Write, fl_S_Disk, fl_S_Journal, snapWs_app, fq_S_Write, fq_S_Disk, fq_S_Journal]; exact h44 v70 v71 (orI .u8 v73 2) y90) fun y91 => ?_
        refine .bd (g := fun (y : (S_Disk × Int)) => (A.tup [(A.agg [(A.imm (List.map (cL c8) y.1.Sectors) false), (A.imm (List.map c_S_Write y.1.Pending) false), (iA y.1.Left), (bA y.1.Stopped)]), (iA y.2)])) (by show C 26 [snap [Blk.box (c_S_Journal v78), Blk.box (c_S_Disk v79), Blk.box [(A.imm (List.map (cL c8) v80) true), (iA v81), (iA v82)], (hk27_1 v83 v84 v85 v86), Blk.box (c_S_Journal v87)] (A.agg (c_S_Disk v79)), snap [Blk.box (c_S_Journal v78), Blk.box (c_S_Disk v79), Blk.box [(A.imm (List.map (cL c8) v80) true), (iA v81), (iA v82)], (hk27_1 v83 v84 v85 v86), Blk.box (c_S_Journal v87)] (iA v71), snap [Blk.box (c_S_Journal v78), Blk.box (c_S_Disk v79), Blk.box [(A.imm (List.map (cL c8) v80) true), (iA v81), (iA v82)], (hk27_1 v83 v84 v85 v86), Blk.box (c_S_Journal v87)] (A.imm (List.map c8 y91) false)] = _; simp only [snap, snapW, snapWs, snapWss, snapWss_map, trim, List.map_cons, List.map_nil, fl_cI, fl_c8, fl_cB, fl_cS, fl_cL, fl_S_Write, fl_S_Disk, fl_S_Journal, snapWs_app, fq_S_Write, fq_S_Disk, fq_S_Journal]; exact h26 v79 v71 y91) fun y92 => ?_
        refine .s (A.agg (c_S_Disk y92.1)) (.s (iA y92.2) (.s [Blk.box (c_S_Journal v78), Blk.box (c_S_Disk y92.1), Blk.box [(A.imm (List.map (cL c8) v80) true), (iA v81), (iA v82)], (hk27_1 v83 v84 v85 v86), Blk.box (c_S_Journal v87)] ?_))
        refine .st (v := (bA (y92.2 != 0))) (aBin_neq ..) ?_
        refine .biHN (fun hk93 => ?_) (fun hk93 => ?_)
        · refine .s (A.agg [(A.imm [] true), (iA 0), (iA 0)]) (.s (A.agg [(A.imm [] true), (A.imm [] true), (iA 0), (bA false)]) (.s [Blk.box (c_S_Journal v78), Blk.box (c_S_Disk y92.1), Blk.box [(A.imm [] true), (iA 0), (iA 0)], (hk27_1 v83 v84 v85 v86), Blk.box (c_S_Journal v87)] (.s [Blk.box (c_S_Journal v78), Blk.box (c_S_Disk y92.1), Blk.box [(A.imm [] true), (iA 0), (iA 0)], Blk.box [(A.imm [] true), (A.imm [] true), (iA 0), (bA false)], Blk.box (c_S_Journal v87)] ?_)))
          exact .ex (x0 _ _ _ _ _ _ _ _ _ _ _ _ _)
        refine .bd (g := fun (y : List UInt8) => (A.imm (List.map c8 y) false)) (cut_imm (e := 5) (es := 1) (f := c8) (l := v72) (a := (if 112 < (v72.length : Int) then 112 else (v72.length : Int))) (b := (v72.length : Int)) (by kernel_rfl) (by kernel_rfl) (fun _ => rfl) (.inr ⟨_, rfl⟩) (.inl ⟨rfl, rfl⟩)) fun y94 => ?_
        refine .st (v := (iA (wr .i64 (v71 + 1)))) (aBin_add ..) ?_
        refine .st (v := (iA (wr .i64 (v74 - 1)))) (aBin_sub ..) ?_
        refine .s [Blk.box (c_S_Journal v78), Blk.box (c_S_Disk y92.1), Blk.box [(A.imm (List.map (cL c8) v80) true), (iA v81), (iA v82)], (hk27_1 v83 v84 v85 v86), Blk.box (c_S_Journal v87)] ?_
        refine .cT (by kernel_rfl) ?_
        exact ih _ _ _ _ _ _
      refine .st (v := (iA ((v72.length : Int)))) (len_imm (e := 5) (h1 := by kernel_rfl) ..) ?_
      refine .s (iA ((if 112 < (v72.length : Int) then 112 else (v72.length : Int)))) (.s (A.agg (c_S_Disk v79)) ?_)
      refine .bd (g := fun (y : List UInt8) => (A.imm (List.map c8 y) false)) (cut_imm (e := 5) (es := 1) (f := c8) (l := v72) (a := 0) (b := (if 112 < (v72.length : Int) then 112 else (v72.length : Int))) (by kernel_rfl) (by kernel_rfl) (fun _ => rfl) (.inl ⟨rfl, rfl⟩) (.inr ⟨_, rfl⟩)) fun y95 => ?_
      refine .bd (g := fun (y : (List UInt8)) => (A.imm (List.map c8 y) false)) (by show C 44 [snap [Blk.box (c_S_Journal v78), Blk.box (c_S_Disk v79), Blk.box [(A.imm (List.map (cL c8) v80) true), (iA v81), (iA v82)], (hk27_1 v83 v84 v85 v86), Blk.box (c_S_Journal v87)] (A.v (Value.int .u64 v70)), snap [Blk.box (c_S_Journal v78), Blk.box (c_S_Disk v79), Blk.box [(A.imm (List.map (cL c8) v80) true), (iA v81), (iA v82)], (hk27_1 v83 v84 v85 v86), Blk.box (c_S_Journal v87)] (iA v71), snap [Blk.box (c_S_Journal v78), Blk.box (c_S_Disk v79), Blk.box [(A.imm (List.map (cL c8) v80) true), (iA v81), (iA v82)], (hk27_1 v83 v84 v85 v86), Blk.box (c_S_Journal v87)] (uA v73), snap [Blk.box (c_S_Journal v78), Blk.box (c_S_Disk v79), Blk.box [(A.imm (List.map (cL c8) v80) true), (iA v81), (iA v82)], (hk27_1 v83 v84 v85 v86), Blk.box (c_S_Journal v87)] (A.imm (List.map c8 y95) false)] = _; simp only [snap, snapW, snapWs, snapWss, snapWss_map, trim, List.map_cons, List.map_nil, fl_cI, fl_c8, fl_cB, fl_cS, fl_cL, fl_S_Write, fl_S_Disk, fl_S_Journal, snapWs_app, fq_S_Write, fq_S_Disk, fq_S_Journal]; exact h44 v70 v71 v73 y95) fun y96 => ?_
      refine .bd (g := fun (y : (S_Disk × Int)) => (A.tup [(A.agg [(A.imm (List.map (cL c8) y.1.Sectors) false), (A.imm (List.map c_S_Write y.1.Pending) false), (iA y.1.Left), (bA y.1.Stopped)]), (iA y.2)])) (by show C 26 [snap [Blk.box (c_S_Journal v78), Blk.box (c_S_Disk v79), Blk.box [(A.imm (List.map (cL c8) v80) true), (iA v81), (iA v82)], (hk27_1 v83 v84 v85 v86), Blk.box (c_S_Journal v87)] (A.agg (c_S_Disk v79)), snap [Blk.box (c_S_Journal v78), Blk.box (c_S_Disk v79), Blk.box [(A.imm (List.map (cL c8) v80) true), (iA v81), (iA v82)], (hk27_1 v83 v84 v85 v86), Blk.box (c_S_Journal v87)] (iA v71), snap [Blk.box (c_S_Journal v78), Blk.box (c_S_Disk v79), Blk.box [(A.imm (List.map (cL c8) v80) true), (iA v81), (iA v82)], (hk27_1 v83 v84 v85 v86), Blk.box (c_S_Journal v87)] (A.imm (List.map c8 y96) false)] = _; simp only [snap, snapW, snapWs, snapWss, snapWss_map, trim, List.map_cons, List.map_nil, fl_cI, fl_c8, fl_cB, fl_cS, fl_cL, fl_S_Write, fl_S_Disk, fl_S_Journal, snapWs_app, fq_S_Write, fq_S_Disk, fq_S_Journal]; exact h26 v79 v71 y96) fun y97 => ?_
      refine .s (A.agg (c_S_Disk y97.1)) (.s (iA y97.2) (.s [Blk.box (c_S_Journal v78), Blk.box (c_S_Disk y97.1), Blk.box [(A.imm (List.map (cL c8) v80) true), (iA v81), (iA v82)], (hk27_1 v83 v84 v85 v86), Blk.box (c_S_Journal v87)] ?_))
      refine .st (v := (bA (y97.2 != 0))) (aBin_neq ..) ?_
      refine .biHN (fun hk98 => ?_) (fun hk98 => ?_)
      · refine .s (A.agg [(A.imm [] true), (iA 0), (iA 0)]) (.s (A.agg [(A.imm [] true), (A.imm [] true), (iA 0), (bA false)]) (.s [Blk.box (c_S_Journal v78), Blk.box (c_S_Disk y97.1), Blk.box [(A.imm [] true), (iA 0), (iA 0)], (hk27_1 v83 v84 v85 v86), Blk.box (c_S_Journal v87)] (.s [Blk.box (c_S_Journal v78), Blk.box (c_S_Disk y97.1), Blk.box [(A.imm [] true), (iA 0), (iA 0)], Blk.box [(A.imm [] true), (A.imm [] true), (iA 0), (bA false)], Blk.box (c_S_Journal v87)] ?_)))
        exact .ex (x0 _ _ _ _ _ _ _ _ _ _ _ _ _)
      refine .bd (g := fun (y : List UInt8) => (A.imm (List.map c8 y) false)) (cut_imm (e := 5) (es := 1) (f := c8) (l := v72) (a := (if 112 < (v72.length : Int) then 112 else (v72.length : Int))) (b := (v72.length : Int)) (by kernel_rfl) (by kernel_rfl) (fun _ => rfl) (.inr ⟨_, rfl⟩) (.inl ⟨rfl, rfl⟩)) fun y99 => ?_
      refine .st (v := (iA (wr .i64 (v71 + 1)))) (aBin_add ..) ?_
      refine .st (v := (iA (wr .i64 (v74 - 1)))) (aBin_sub ..) ?_
      refine .s [Blk.box (c_S_Journal v78), Blk.box (c_S_Disk y97.1), Blk.box [(A.imm (List.map (cL c8) v80) true), (iA v81), (iA v82)], (hk27_1 v83 v84 v85 v86), Blk.box (c_S_Journal v87)] ?_
      refine .cT (by kernel_rfl) ?_
      exact ih _ _ _ _ _ _
    exact .ex (x1 _ _ _ _ _ _ _ _ _)
def F21_21_1 (n : Nat) (v51 : Int) (v53 : (List (List UInt8))) (v54 : Int) (v56 : S_Journal) (v58 : (List (List UInt8))) (v59 : Int) (v60 : Int) (v61 : (List (List UInt8))) (v62 : (List S_Write)) (v63 : Int) (v64 : Bool) (v65 : S_Journal) : Nat → Int → Int → Int → S_Disk → Option ((Int × (List (List UInt8)) × (List S_Write) × Int × Bool × Int × Int × Int × Bool) ⊕ ((List (List UInt8)) × (List S_Write) × Int × Bool))
  | 0, _, _, _, _ => none
  | m + 1, v50, v52, v55, v57 => bif (decide (v55 < v54)) then (Option.bind (getI v53 v55) fun y67 => Option.bind (G35 y67) fun y68 => Option.bind (F21_21_2 n v51 v53 v54 v55 v56 v58 v59 v60 v61 v62 v63 v64 v65 (n+8) v50 v52 y67 1 y68 v57) fun o100 => match o100 with | (Sum.inl ((y101, y102, y103, y104, y105, y106, y107, y108, y109, y110))) => some ((Sum.inl ((y101, y103, y104, y105, y106, y107, y108, y109, y110)))) | (Sum.inr ((y114, y115, y116, y117, y118, y119))) => F21_21_1 n v51 v53 v54 v56 v58 v59 v60 v61 v62 v63 v64 v65 m y114 y115 (wr .i64 (v55 + 1)) ((S_Disk.mk y116 y117 y118 y119))) else (some ((Sum.inr ((v57.Sectors, v57.Pending, v57.Left, v57.Stopped)))))
theorem T21_21_1 (C : Nat → List A → Option A) (n : Nat) (h12 : Orc12 C) (h17 : Orc17 C) (h26 : Orc26 C) (h27 : Orc27 C) (h31 : Orc31 C) (h35 : Orc35 C) (h36 : Orc36 C) (h41 : Orc41 C) (h43 : Orc43 C) (h44 : Orc44 C) (v51 : Int) (v53 : (List (List UInt8))) (v54 : Int) (v56 : S_Journal) (v58 : (List (List UInt8))) (v59 : Int) (v60 : Int) (v61 : (List (List UInt8))) (v62 : (List S_Write)) (v63 : Int) (v64 : Bool) (v65 : S_Journal) {ρ γ : Type} {φ : ρ → γ → Prop} {kL : R → Option ρ} {K : ((Int × (List (List UInt8)) × (List S_Write) × Int × Bool × Int × Int × Int × Bool) ⊕ ((List (List UInt8)) × (List S_Write) × Int × Bool)) → Option γ} (kx kg : Nat → St → Option R) (kr : St → Option R) (kp : A → St → Option R) (x0 : ∀ (o0 : Int) (o1 : (List (List UInt8))) (o2 : (List S_Write)) (o3 : Int) (o4 : Bool) (o5 : Int) (o6 : Int) (o7 : Int) (o8 : Bool) (s2 : A) (s3 : A) (s10 : A) (s13 : A) (s108 : A) (s109 : A) (s110 : A), J φ (kr (St.mk [(2, s2), (3, s3), (4, (A.ptr 2 0)), (5, (A.ptr 3 0)), (6, (iA o0)), (10, s10), (13, s13), (108, s108), (109, s109), (110, s110)] [Blk.box (c_S_Journal v56), Blk.box [(A.imm (List.map (cL c8) o1) false), (A.imm (List.map c_S_Write o2) false), (iA o3), (bA o4)], Blk.box [(A.imm [] true), (iA o5), (iA o6)], Blk.box [(A.imm [] true), (A.imm [] true), (iA o7), (bA o8)], Blk.box (c_S_Journal v65)])) kL (K (Sum.inl ((o0, o1, o2, o3, o4, o5, o6, o7, o8)))) some) (x1 : ∀ (o0 : (List (List UInt8))) (o1 : (List S_Write)) (o2 : Int) (o3 : Bool) (s6 : A) (s10 : A) (s13 : A) (s108 : A) (s109 : A) (s110 : A), J φ (kx 2 (St.mk [(2, (A.ptr 0 0)), (3, (A.ptr 1 0)), (4, (A.ptr 2 0)), (5, (A.ptr 3 0)), (6, s6), (10, s10), (13, s13), (108, s108), (109, s109), (110, s110)] [Blk.box (c_S_Journal v56), Blk.box [(A.imm (List.map (cL c8) o0) false), (A.imm (List.map c_S_Write o1) false), (iA o2), (bA o3)], Blk.box [(A.imm (List.map (cL c8) v58) true), (iA v59), (iA v60)], Blk.box [(A.imm (List.map (cL c8) v61) true), (A.imm (List.map c_S_Write v62) true), (iA v63), (bA v64)], Blk.box (c_S_Journal v65)])) kL (K (Sum.inr ((o0, o1, o2, o3)))) some) :
    ∀ (m : Nat) (v50 : Int) (v52 : Int) (v55 : Int) (v57 : S_Disk), J φ (loopR (cx C) (evCall (cx C) (n+8)) (evCallY (cx C) (n+8)) (n+8) 21 0 1 5 kx kg kr kp m (St.mk [(2, (A.ptr 0 0)), (3, (A.ptr 1 0)), (4, (A.ptr 2 0)), (5, (A.ptr 3 0)), (6, (iA v50)), (10, (A.v (Value.int .u64 v51))), (13, (iA v52)), (108, (A.imm (List.map (cL c8) v53) false)), (109, (iA v54)), (110, (iA v55))] [Blk.box (c_S_Journal v56), Blk.box (c_S_Disk v57), Blk.box [(A.imm (List.map (cL c8) v58) true), (iA v59), (iA v60)], Blk.box [(A.imm (List.map (cL c8) v61) true), (A.imm (List.map c_S_Write v62) true), (iA v63), (bA v64)], Blk.box (c_S_Journal v65)])) kL (F21_21_1 n v51 v53 v54 v56 v58 v59 v60 v61 v62 v63 v64 v65 m v50 v52 v55 v57) K := by
  intro m
  induction m with
  | zero => intros; exact .nn
  | succ m ih =>
    intro v50 v52 v55 v57
    refine .lp (e21_1 ..) ?_
    unfold F21_21_1
    refine .st (v := (bA (decide (v55 < v54)))) (aBin_lss ..) ?_
    refine .biHN (fun hk66 => ?_) (fun hk66 => ?_)
    · refine .bd (g := fun (y : (List UInt8)) => A.ip ((cL c8) y)) (idx_imm (e := 35) (es := 1) (h1 := by kernel_rfl) (h2 := by kernel_rfl) (h3 := fun _ => rfl) ..) fun y67 => ?_
      refine .s (A.imm (List.map c8 y67) false) ?_
      refine .bd (g := fun (y : Int) => (iA y)) (by show C 35 [snap [Blk.box (c_S_Journal v56), Blk.box (c_S_Disk v57), Blk.box [(A.imm (List.map (cL c8) v58) true), (iA v59), (iA v60)], Blk.box [(A.imm (List.map (cL c8) v61) true), (A.imm (List.map c_S_Write v62) true), (iA v63), (bA v64)], Blk.box (c_S_Journal v65)] (A.imm (List.map c8 y67) false)] = _; simp only [snap, snapW, snapWs, snapWss, snapWss_map, trim, List.map_cons, List.map_nil, fl_cI, fl_c8, fl_cB, fl_cS, fl_cL, fl_S_Write, fl_S_Disk, fl_S_Journal, snapWs_app, fq_S_Write, fq_S_Disk, fq_S_Journal]; exact h35 y67) fun y68 => ?_
      refine .as (T21_21_2 C n h12 h17 h26 h27 h31 h35 h36 h41 h43 h44 v51 v53 v54 v55 v56 v58 v59 v60 v61 v62 v63 v64 v65 _ _ _ _ ?_ ?_ _ v50 v52 y67 1 y68 v57)
      · intro y101 y102 y103 y104 y105 y106 y107 y108 y109 y110 j111 j112 j113
        refine .un rfl ?_
        exact .ex (x0 _ _ _ _ _ _ _ _ _ _ _ _ _ _ _ _)
      · intro y114 y115 y116 y117 y118 y119 j120 j121 j122
        refine .un rfl ?_
        refine .cT (by kernel_rfl) ?_
        refine .st (v := (iA (wr .i64 (v55 + 1)))) (aBin_add ..) ?_
        refine .s [Blk.box (c_S_Journal v56), Blk.box [(A.imm (List.map (cL c8) y116) false), (A.imm (List.map c_S_Write y117) false), (iA y118), (bA y119)], Blk.box [(A.imm (List.map (cL c8) v58) true), (iA v59), (iA v60)], Blk.box [(A.imm (List.map (cL c8) v61) true), (A.imm (List.map c_S_Write v62) true), (iA v63), (bA v64)], Blk.box (c_S_Journal v65)] ?_
        refine .cT (by kernel_rfl) ?_
        exact ih _ _ _ _
    exact .ex (x1 _ _ _ _ _ _ _ _ _ _)
def F21_42_0 (n : Nat) (v152 : (List (List UInt8))) (v153 : Bool) (v154 : (List (List UInt8))) (v155 : Int) (v157 : S_Journal) (v158 : S_Disk) (v159 : (List (List UInt8))) (v160 : Int) (v161 : Int) (v162 : (List (List UInt8))) (v163 : (List S_Write)) (v164 : Int) (v165 : Bool) (v166 : S_Journal) : Nat → Int → Option ((Bool) ⊕ (Unit))
  | 0, _ => none
  | m + 1, v156 => bif (decide (v156 < v155)) then (Option.bind (getI v154 v156) fun y168 => Option.bind (getI v152 v156) fun y169 => Option.bind (G43 y168 y169) fun y170 => bif (!y170) then (some ((Sum.inl false))) else (F21_42_0 n v152 v153 v154 v155 v157 v158 v159 v160 v161 v162 v163 v164 v165 v166 m (wr .i64 (v156 + 1)))) else (some ((Sum.inr (()))))
theorem T21_42_0 (C : Nat → List A → Option A) (n : Nat) (h12 : Orc12 C) (h17 : Orc17 C) (h26 : Orc26 C) (h27 : Orc27 C) (h31 : Orc31 C) (h35 : Orc35 C) (h36 : Orc36 C) (h41 : Orc41 C) (h43 : Orc43 C) (h44 : Orc44 C) (v152 : (List (List UInt8))) (v153 : Bool) (v154 : (List (List UInt8))) (v155 : Int) (v157 : S_Journal) (v158 : S_Disk) (v159 : (List (List UInt8))) (v160 : Int) (v161 : Int) (v162 : (List (List UInt8))) (v163 : (List S_Write)) (v164 : Int) (v165 : Bool) (v166 : S_Journal) {ρ γ : Type} {φ : ρ → γ → Prop} {kL : R → Option ρ} {K : ((Bool) ⊕ (Unit)) → Option γ} (kx kg : Nat → St → Option R) (kr : St → Option R) (kp : A → St → Option R) (x0 : ∀ (o0 : Bool) (s1 : A) (s2 : A) (s15 : A) (s16 : A) (s17 : A), J φ (kr (St.mk [(1, s1), (2, s2), (6, (bA o0)), (15, s15), (16, s16), (17, s17)] [Blk.box (c_S_Journal v157), Blk.box (c_S_Disk v158), Blk.box [(A.imm (List.map (cL c8) v159) true), (iA v160), (iA v161)], Blk.box [(A.imm (List.map (cL c8) v162) true), (A.imm (List.map c_S_Write v163) true), (iA v164), (bA v165)], Blk.box (c_S_Journal v166)])) kL (K (Sum.inl o0)) some) (x1 : ∀ (s1 : A) (s2 : A) (s6 : A) (s15 : A) (s16 : A) (s17 : A), J φ (kx 0 (St.mk [(1, s1), (2, s2), (6, s6), (15, s15), (16, s16), (17, s17)] [Blk.box (c_S_Journal v157), Blk.box (c_S_Disk v158), Blk.box [(A.imm (List.map (cL c8) v159) true), (iA v160), (iA v161)], Blk.box [(A.imm (List.map (cL c8) v162) true), (A.imm (List.map c_S_Write v163) true), (iA v164), (bA v165)], Blk.box (c_S_Journal v166)])) kL (K (Sum.inr (()))) some) :
    ∀ (m : Nat) (v156 : Int), J φ (loopR (cx C) (evCall (cx C) (n+7)) (evCallY (cx C) (n+7)) (n+7) 42 0 0 5 kx kg kr kp m (St.mk [(1, (A.imm (List.map (cL c8) v152) false)), (2, (A.fn (Fn.func 43) [] [])), (6, (bA v153)), (15, (A.imm (List.map (cL c8) v154) false)), (16, (iA v155)), (17, (iA v156))] [Blk.box (c_S_Journal v157), Blk.box (c_S_Disk v158), Blk.box [(A.imm (List.map (cL c8) v159) true), (iA v160), (iA v161)], Blk.box [(A.imm (List.map (cL c8) v162) true), (A.imm (List.map c_S_Write v163) true), (iA v164), (bA v165)], Blk.box (c_S_Journal v166)])) kL (F21_42_0 n v152 v153 v154 v155 v157 v158 v159 v160 v161 v162 v163 v164 v165 v166 m v156) K := by
  intro m
  induction m with
  | zero => intros; exact .nn
  | succ m ih =>
    intro v156
    refine .lp (e42_0 ..) ?_
    unfold F21_42_0
    refine .st (v := (bA (decide (v156 < v155)))) (aBin_lss ..) ?_
    refine .biHN (fun hk167 => ?_) (fun hk167 => ?_)
    · refine .bd (g := fun (y : (List UInt8)) => A.ip ((cL c8) y)) (idx_imm (e := 35) (es := 1) (h1 := by kernel_rfl) (h2 := by kernel_rfl) (h3 := fun _ => rfl) ..) fun y168 => ?_
      refine .s (A.imm (List.map c8 y168) false) ?_
      refine .bd (g := fun (y : (List UInt8)) => A.ip ((cL c8) y)) (idx_imm (e := 35) (es := 1) (h1 := by kernel_rfl) (h2 := by kernel_rfl) (h3 := fun _ => rfl) ..) fun y169 => ?_
      refine .s (A.imm (List.map c8 y169) false) ?_
      refine .dO (by kernel_rfl) (by kernel_rfl) ?_
      refine .bd (g := fun (y : Bool) => (bA y)) (by simp only [List.nil_append, List.cons_append, List.append_nil, snap, snapW, snapWs, snapWss, snapWss_map, trim, List.map_cons, List.map_nil, fl_cI, fl_c8, fl_cB, fl_cS, fl_cL, fl_S_Write, fl_S_Disk, fl_S_Journal, snapWs_app, fq_S_Write, fq_S_Disk, fq_S_Journal]; exact h43 y168 y169) fun y170 => ?_
      refine .s (bA (!y170)) ?_
      refine .biHN (fun hk171 => ?_) (fun hk171 => ?_)
      · exact .ex (x0 _ _ _ _ _ _)
      refine .st (v := (iA (wr .i64 (v156 + 1)))) (aBin_add ..) ?_
      refine .s [Blk.box (c_S_Journal v157), Blk.box (c_S_Disk v158), Blk.box [(A.imm (List.map (cL c8) v159) true), (iA v160), (iA v161)], Blk.box [(A.imm (List.map (cL c8) v162) true), (A.imm (List.map c_S_Write v163) true), (iA v164), (bA v165)], Blk.box (c_S_Journal v166)] ?_
      refine .cT (by kernel_rfl) ?_
      exact ih _
    exact .ex (x1 _ _ _ _ _ _)
def F21 (n : Nat) (a0 : S_Journal) (a1 : S_Disk) : Option (S_Journal × S_Disk × Int) :=
  Option.bind (G17 a0) fun y1 => bif (y1 != 0) then (some (((S_Journal.mk ([]) 0 0), (S_Disk.mk ([]) ([]) 0 false), y1))) else (Option.bind (G31 a1) fun y3 => bif (y3 != 0) then (some (((S_Journal.mk ([]) 0 0), (S_Disk.mk ([]) ([]) 0 false), y3))) else (Option.bind (bif (a0.Many != ((a1.Sectors.length : Int))) then (some (!a1.Stopped)) else (some false)) fun y6 => bif y6 then (some (((S_Journal.mk ([]) 0 0), (S_Disk.mk ([]) ([]) 0 false), 1))) else (Option.bind (G12 a1) fun y11 => bif (y11.2 != 0) then (some (((S_Journal.mk ([]) 0 0), (S_Disk.mk ([]) ([]) 0 false), y11.2))) else (Option.bind (F21_21_0 n y11.2 a1.Sectors ((a1.Sectors.length : Int)) a0 a1 ([]) 0 0 ([]) ([]) 0 false y11.1 (n+8) 1 0) fun o34 => match o34 with | y35 => Option.bind (subI a0.Records 0 a0.Synced) fun y39 => bif (((y11.1.Records.length : Int)) != ((y39.length : Int))) then (Option.bind (some true) fun y41 => bif y41 then (some (((S_Journal.mk ([]) 0 0), (S_Disk.mk ([]) ([]) 0 false), 50))) else (bif (a0.Synced == ((a0.Records.length : Int))) then (some ((a0, a1, 0))) else (Option.bind (subI a0.Records 0 a0.Synced) fun y47 => Option.bind (G36 y47) fun y48 => Option.bind (subI a0.Records a0.Synced ((a0.Records.length : Int))) fun y49 => Option.bind (F21_21_1 n y35 y49 ((y49.length : Int)) a0 ([]) 0 0 ([]) ([]) 0 false y11.1 (n+8) y11.2 y48 0 a1) fun o123 => match o123 with | (Sum.inl ((y124, y125, y126, y127, y128, y129, y130, y131, y132))) => some (((S_Journal.mk ([]) y129 y130), (S_Disk.mk ([]) ([]) y131 y132), y124)) | (Sum.inr ((y140, y141, y142, y143))) => Option.bind (G27 ((S_Disk.mk y140 y141 y142 y143))) fun y150 => bif (y150.2 != 0) then (some (((S_Journal.mk ([]) 0 0), y150.1, y150.2))) else (some (((S_Journal.mk a0.Records a0.Many ((a0.Records.length : Int))), y150.1, 0)))))) else (Option.bind (F21_42_0 n y39 false y11.1.Records ((y11.1.Records.length : Int)) a0 a1 ([]) 0 0 ([]) ([]) 0 false y11.1 (n+7) 0) fun o172 => match o172 with | (Sum.inl y173) => Option.bind (bif (!y173) then (some true) else (some ((shrI .u64 y35 32) != 0))) fun y180 => bif y180 then (some (((S_Journal.mk ([]) 0 0), (S_Disk.mk ([]) ([]) 0 false), 50))) else (bif (a0.Synced == ((a0.Records.length : Int))) then (some ((a0, a1, 0))) else (Option.bind (subI a0.Records 0 a0.Synced) fun y186 => Option.bind (G36 y186) fun y187 => Option.bind (subI a0.Records a0.Synced ((a0.Records.length : Int))) fun y188 => Option.bind (F21_21_1 n y35 y188 ((y188.length : Int)) a0 ([]) 0 0 ([]) ([]) 0 false y11.1 (n+8) y11.2 y187 0 a1) fun o262 => match o262 with | (Sum.inl ((y263, y264, y265, y266, y267, y268, y269, y270, y271))) => some (((S_Journal.mk ([]) y268 y269), (S_Disk.mk ([]) ([]) y270 y271), y263)) | (Sum.inr ((y279, y280, y281, y282))) => Option.bind (G27 ((S_Disk.mk y279 y280 y281 y282))) fun y289 => bif (y289.2 != 0) then (some (((S_Journal.mk ([]) 0 0), y289.1, y289.2))) else (some (((S_Journal.mk a0.Records a0.Many ((a0.Records.length : Int))), y289.1, 0))))) | (Sum.inr _) => Option.bind (some ((shrI .u64 y35 32) != 0)) fun y297 => bif y297 then (some (((S_Journal.mk ([]) 0 0), (S_Disk.mk ([]) ([]) 0 false), 50))) else (bif (a0.Synced == ((a0.Records.length : Int))) then (some ((a0, a1, 0))) else (Option.bind (subI a0.Records 0 a0.Synced) fun y303 => Option.bind (G36 y303) fun y304 => Option.bind (subI a0.Records a0.Synced ((a0.Records.length : Int))) fun y305 => Option.bind (F21_21_1 n y35 y305 ((y305.length : Int)) a0 ([]) 0 0 ([]) ([]) 0 false y11.1 (n+8) y11.2 y304 0 a1) fun o379 => match o379 with | (Sum.inl ((y380, y381, y382, y383, y384, y385, y386, y387, y388))) => some (((S_Journal.mk ([]) y385 y386), (S_Disk.mk ([]) ([]) y387 y388), y380)) | (Sum.inr ((y396, y397, y398, y399))) => Option.bind (G27 ((S_Disk.mk y396 y397 y398 y399))) fun y406 => bif (y406.2 != 0) then (some (((S_Journal.mk ([]) 0 0), y406.1, y406.2))) else (some (((S_Journal.mk a0.Records a0.Many ((a0.Records.length : Int))), y406.1, 0))))))))))
theorem T21 (C : Nat → List A → Option A) (n : Nat) (h12 : Orc12 C) (h17 : Orc17 C) (h26 : Orc26 C) (h27 : Orc27 C) (h31 : Orc31 C) (h35 : Orc35 C) (h36 : Orc36 C) (h41 : Orc41 C) (h43 : Orc43 C) (h44 : Orc44 C) (a0 : S_Journal) (a1 : S_Disk) : J (fun (o : R) y => ∃ v, o.1 = .ret v ∧ snapE o.2 v = (A.tup [(A.agg [(A.imm (List.map (cL c8) y.1.Records) false), (iA y.1.Many), (iA y.1.Synced)]), (A.agg [(A.imm (List.map (cL c8) y.2.1.Sectors) false), (A.imm (List.map c_S_Write y.2.1.Pending) false), (iA y.2.1.Left), (bA y.2.1.Stopped)]), (iA y.2.2)])) (evCall1 (cx C) (evCall (cx C) (n+8)) (evCallY (cx C) (n+8)) (n+8) 21 [(A.agg (c_S_Journal a0)), (A.agg (c_S_Disk a1))] [] 0) some (F21 n a0 a1) some := by
  refine .lp (e21 ..) ?_
  unfold F21
  refine .s ((A.ptr 0 0), [Blk.box (c_S_Journal a0)]) (.s ((A.ptr 1 0), [Blk.box (c_S_Journal a0), Blk.box (c_S_Disk a1)]) (.s ((A.ptr 2 0), [Blk.box (c_S_Journal a0), Blk.box (c_S_Disk a1), Blk.box [(A.imm [] true), (iA 0), (iA 0)]]) (.s ((A.ptr 3 0), [Blk.box (c_S_Journal a0), Blk.box (c_S_Disk a1), Blk.box [(A.imm [] true), (iA 0), (iA 0)], Blk.box [(A.imm [] true), (A.imm [] true), (iA 0), (bA false)]]) (.s (A.agg (c_S_Journal a0)) ?_))))
  refine .bd (g := fun (y : Int) => (iA y)) (by show C 17 [snap [Blk.box (c_S_Journal a0), Blk.box (c_S_Disk a1), Blk.box [(A.imm [] true), (iA 0), (iA 0)], Blk.box [(A.imm [] true), (A.imm [] true), (iA 0), (bA false)]] (A.agg (c_S_Journal a0))] = _; simp only [snap, snapW, snapWs, snapWss, snapWss_map, trim, List.map_cons, List.map_nil, fl_cI, fl_c8, fl_cB, fl_cS, fl_cL, fl_S_Write, fl_S_Disk, fl_S_Journal, snapWs_app, fq_S_Write, fq_S_Disk, fq_S_Journal]; exact h17 a0) fun y1 => ?_
  refine .st (v := (bA (y1 != 0))) (aBin_neq ..) ?_
  refine .biHN (fun hk2 => ?_) (fun hk2 => ?_)
  · refine .s (A.agg [(A.imm [] true), (iA 0), (iA 0)]) (.s (A.agg [(A.imm [] true), (A.imm [] true), (iA 0), (bA false)]) (.s [Blk.box (c_S_Journal a0), Blk.box (c_S_Disk a1), Blk.box [(A.imm [] true), (iA 0), (iA 0)], Blk.box [(A.imm [] true), (A.imm [] true), (iA 0), (bA false)]] (.s [Blk.box (c_S_Journal a0), Blk.box (c_S_Disk a1), Blk.box [(A.imm [] true), (iA 0), (iA 0)], Blk.box [(A.imm [] true), (A.imm [] true), (iA 0), (bA false)]] (.s (A.agg [(A.imm [] true), (iA 0), (iA 0)]) (.s (A.agg [(A.imm [] true), (A.imm [] true), (iA 0), (bA false)]) ?_)))))
    exact .lf rfl rfl ⟨_, rfl, by show snapE [Blk.box (c_S_Journal a0), Blk.box (c_S_Disk a1), Blk.box [(A.imm [] true), (iA 0), (iA 0)], Blk.box [(A.imm [] true), (A.imm [] true), (iA 0), (bA false)]] (A.tup [(A.agg [(A.imm [] true), (iA 0), (iA 0)]), (A.agg [(A.imm [] true), (A.imm [] true), (iA 0), (bA false)]), (iA y1)]) = _; first | (simp only [snap, snapW, snapWs, snapWss, snapWss_map, trim, List.map_cons, List.map_nil, fl_cI, fl_c8, fl_cB, fl_cS, fl_cL, fl_S_Write, fl_S_Disk, fl_S_Journal, snapWs_app, fq_S_Write, fq_S_Disk, fq_S_Journal, snapE]; done) | (simp only [snap, snapW, snapWs, snapWss, snapWss_map, trim, fl_cI, fl_c8, fl_cB, fl_cS, fl_cL, fl_S_Write, fl_S_Disk, fl_S_Journal, snapWs_app, fq_S_Write, fq_S_Disk, fq_S_Journal, snapE]; done) | (simp only [snap, snapW, snapWs, snapWss, snapWss_map, trim, fl_cI, fl_c8, fl_cB, fl_cS, fl_cL, fl_S_Write, fl_S_Disk, fl_S_Journal, snapWs_app, fq_S_Write, fq_S_Disk, fq_S_Journal, snapE]; rfl)⟩
  refine .s (A.agg (c_S_Disk a1)) ?_
  refine .bd (g := fun (y : Int) => (iA y)) (by show C 31 [snap [Blk.box (c_S_Journal a0), Blk.box (c_S_Disk a1), Blk.box [(A.imm [] true), (iA 0), (iA 0)], Blk.box [(A.imm [] true), (A.imm [] true), (iA 0), (bA false)]] (A.agg (c_S_Disk a1))] = _; simp only [snap, snapW, snapWs, snapWss, snapWss_map, trim, List.map_cons, List.map_nil, fl_cI, fl_c8, fl_cB, fl_cS, fl_cL, fl_S_Write, fl_S_Disk, fl_S_Journal, snapWs_app, fq_S_Write, fq_S_Disk, fq_S_Journal]; exact h31 a1) fun y3 => ?_
  refine .st (v := (bA (y3 != 0))) (aBin_neq ..) ?_
  refine .biHN (fun hk4 => ?_) (fun hk4 => ?_)
  · refine .s (A.agg [(A.imm [] true), (iA 0), (iA 0)]) (.s (A.agg [(A.imm [] true), (A.imm [] true), (iA 0), (bA false)]) (.s [Blk.box (c_S_Journal a0), Blk.box (c_S_Disk a1), Blk.box [(A.imm [] true), (iA 0), (iA 0)], Blk.box [(A.imm [] true), (A.imm [] true), (iA 0), (bA false)]] (.s [Blk.box (c_S_Journal a0), Blk.box (c_S_Disk a1), Blk.box [(A.imm [] true), (iA 0), (iA 0)], Blk.box [(A.imm [] true), (A.imm [] true), (iA 0), (bA false)]] (.s (A.agg [(A.imm [] true), (iA 0), (iA 0)]) (.s (A.agg [(A.imm [] true), (A.imm [] true), (iA 0), (bA false)]) ?_)))))
    exact .lf rfl rfl ⟨_, rfl, by show snapE [Blk.box (c_S_Journal a0), Blk.box (c_S_Disk a1), Blk.box [(A.imm [] true), (iA 0), (iA 0)], Blk.box [(A.imm [] true), (A.imm [] true), (iA 0), (bA false)]] (A.tup [(A.agg [(A.imm [] true), (iA 0), (iA 0)]), (A.agg [(A.imm [] true), (A.imm [] true), (iA 0), (bA false)]), (iA y3)]) = _; first | (simp only [snap, snapW, snapWs, snapWss, snapWss_map, trim, List.map_cons, List.map_nil, fl_cI, fl_c8, fl_cB, fl_cS, fl_cL, fl_S_Write, fl_S_Disk, fl_S_Journal, snapWs_app, fq_S_Write, fq_S_Disk, fq_S_Journal, snapE]; done) | (simp only [snap, snapW, snapWs, snapWss, snapWss_map, trim, fl_cI, fl_c8, fl_cB, fl_cS, fl_cL, fl_S_Write, fl_S_Disk, fl_S_Journal, snapWs_app, fq_S_Write, fq_S_Disk, fq_S_Journal, snapE]; done) | (simp only [snap, snapW, snapWs, snapWss, snapWss_map, trim, fl_cI, fl_c8, fl_cB, fl_cS, fl_cL, fl_S_Write, fl_S_Disk, fl_S_Journal, snapWs_app, fq_S_Write, fq_S_Disk, fq_S_Journal, snapE]; rfl)⟩
  refine .s (A.ptr 0 1) (.s (iA a0.Many) (.s (A.ptr 1 0) (.s (A.imm (List.map (cL c8) a1.Sectors) false) ?_)))
  refine .st (v := (iA ((a1.Sectors.length : Int)))) (len_imm (e := 35) (h1 := by kernel_rfl) ..) ?_
  refine .st (v := (bA (a0.Many != ((a1.Sectors.length : Int))))) (aBin_neq ..) ?_
  refine .bg (fun t (y : Bool) => ∃ j7 j8 j9 : A, t = [(bA y), j7, j8, j9]) ?_ ?_
  · refine .biH (fun hk5 => ?_) (fun hk5 => ?_)
    · refine .s (A.ptr 1 3) (.s (bA a1.Stopped) (.s (bA (!a1.Stopped)) ?_))
      exact .lg ⟨_, _, _, rfl⟩
    exact .lg ⟨_, _, _, rfl⟩
  rintro _ y6 ⟨j7, j8, j9, rfl⟩
  iterate 4 refine .uc ?_
  refine .biHN (fun hk10 => ?_) (fun hk10 => ?_)
  · refine .s (A.agg [(A.imm [] true), (iA 0), (iA 0)]) (.s (A.agg [(A.imm [] true), (A.imm [] true), (iA 0), (bA false)]) (.s [Blk.box (c_S_Journal a0), Blk.box (c_S_Disk a1), Blk.box [(A.imm [] true), (iA 0), (iA 0)], Blk.box [(A.imm [] true), (A.imm [] true), (iA 0), (bA false)]] (.s [Blk.box (c_S_Journal a0), Blk.box (c_S_Disk a1), Blk.box [(A.imm [] true), (iA 0), (iA 0)], Blk.box [(A.imm [] true), (A.imm [] true), (iA 0), (bA false)]] (.s (A.agg [(A.imm [] true), (iA 0), (iA 0)]) (.s (A.agg [(A.imm [] true), (A.imm [] true), (iA 0), (bA false)]) ?_)))))
    exact .lf rfl rfl ⟨_, rfl, by show snapE [Blk.box (c_S_Journal a0), Blk.box (c_S_Disk a1), Blk.box [(A.imm [] true), (iA 0), (iA 0)], Blk.box [(A.imm [] true), (A.imm [] true), (iA 0), (bA false)]] (A.tup [(A.agg [(A.imm [] true), (iA 0), (iA 0)]), (A.agg [(A.imm [] true), (A.imm [] true), (iA 0), (bA false)]), (iA 1)]) = _; first | (simp only [snap, snapW, snapWs, snapWss, snapWss_map, trim, List.map_cons, List.map_nil, fl_cI, fl_c8, fl_cB, fl_cS, fl_cL, fl_S_Write, fl_S_Disk, fl_S_Journal, snapWs_app, fq_S_Write, fq_S_Disk, fq_S_Journal, snapE]; done) | (simp only [snap, snapW, snapWs, snapWss, snapWss_map, trim, fl_cI, fl_c8, fl_cB, fl_cS, fl_cL, fl_S_Write, fl_S_Disk, fl_S_Journal, snapWs_app, fq_S_Write, fq_S_Disk, fq_S_Journal, snapE]; done) | (simp only [snap, snapW, snapWs, snapWss, snapWss_map, trim, fl_cI, fl_c8, fl_cB, fl_cS, fl_cL, fl_S_Write, fl_S_Disk, fl_S_Journal, snapWs_app, fq_S_Write, fq_S_Disk, fq_S_Journal, snapE]; rfl)⟩
  refine .s (A.agg (c_S_Disk a1)) ?_
  refine .bd (g := fun (y : (S_Journal × Int)) => (A.tup [(A.agg [(A.imm (List.map (cL c8) y.1.Records) false), (iA y.1.Many), (iA y.1.Synced)]), (iA y.2)])) (by show C 12 [snap [Blk.box (c_S_Journal a0), Blk.box (c_S_Disk a1), Blk.box [(A.imm [] true), (iA 0), (iA 0)], Blk.box [(A.imm [] true), (A.imm [] true), (iA 0), (bA false)]] (A.agg (c_S_Disk a1))] = _; simp only [snap, snapW, snapWs, snapWss, snapWss_map, trim, List.map_cons, List.map_nil, fl_cI, fl_c8, fl_cB, fl_cS, fl_cL, fl_S_Write, fl_S_Disk, fl_S_Journal, snapWs_app, fq_S_Write, fq_S_Disk, fq_S_Journal]; exact h12 a1) fun y11 => ?_
  refine .s (A.agg (c_S_Journal y11.1)) (.s (iA y11.2) (.s ((A.ptr 4 0), [Blk.box (c_S_Journal a0), Blk.box (c_S_Disk a1), Blk.box [(A.imm [] true), (iA 0), (iA 0)], Blk.box [(A.imm [] true), (A.imm [] true), (iA 0), (bA false)], Blk.box [(A.imm [] true), (iA 0), (iA 0)]]) (.s [Blk.box (c_S_Journal a0), Blk.box (c_S_Disk a1), Blk.box [(A.imm [] true), (iA 0), (iA 0)], Blk.box [(A.imm [] true), (A.imm [] true), (iA 0), (bA false)], Blk.box (c_S_Journal y11.1)] ?_)))
  refine .st (v := (bA (y11.2 != 0))) (aBin_neq ..) ?_
  refine .biHN (fun hk12 => ?_) (fun hk12 => ?_)
  · refine .s (A.agg [(A.imm [] true), (iA 0), (iA 0)]) (.s (A.agg [(A.imm [] true), (A.imm [] true), (iA 0), (bA false)]) (.s [Blk.box (c_S_Journal a0), Blk.box (c_S_Disk a1), Blk.box [(A.imm [] true), (iA 0), (iA 0)], Blk.box [(A.imm [] true), (A.imm [] true), (iA 0), (bA false)], Blk.box (c_S_Journal y11.1)] (.s [Blk.box (c_S_Journal a0), Blk.box (c_S_Disk a1), Blk.box [(A.imm [] true), (iA 0), (iA 0)], Blk.box [(A.imm [] true), (A.imm [] true), (iA 0), (bA false)], Blk.box (c_S_Journal y11.1)] (.s (A.agg [(A.imm [] true), (iA 0), (iA 0)]) (.s (A.agg [(A.imm [] true), (A.imm [] true), (iA 0), (bA false)]) ?_)))))
    exact .lf rfl rfl ⟨_, rfl, by show snapE [Blk.box (c_S_Journal a0), Blk.box (c_S_Disk a1), Blk.box [(A.imm [] true), (iA 0), (iA 0)], Blk.box [(A.imm [] true), (A.imm [] true), (iA 0), (bA false)], Blk.box (c_S_Journal y11.1)] (A.tup [(A.agg [(A.imm [] true), (iA 0), (iA 0)]), (A.agg [(A.imm [] true), (A.imm [] true), (iA 0), (bA false)]), (iA y11.2)]) = _; first | (simp only [snap, snapW, snapWs, snapWss, snapWss_map, trim, List.map_cons, List.map_nil, fl_cI, fl_c8, fl_cB, fl_cS, fl_cL, fl_S_Write, fl_S_Disk, fl_S_Journal, snapWs_app, fq_S_Write, fq_S_Disk, fq_S_Journal, snapE]; done) | (simp only [snap, snapW, snapWs, snapWss, snapWss_map, trim, fl_cI, fl_c8, fl_cB, fl_cS, fl_cL, fl_S_Write, fl_S_Disk, fl_S_Journal, snapWs_app, fq_S_Write, fq_S_Disk, fq_S_Journal, snapE]; done) | (simp only [snap, snapW, snapWs, snapWss, snapWss_map, trim, fl_cI, fl_c8, fl_cB, fl_cS, fl_cL, fl_S_Write, fl_S_Disk, fl_S_Journal, snapWs_app, fq_S_Write, fq_S_Disk, fq_S_Journal, snapE]; rfl)⟩
  refine .s (A.ptr 1 0) (.s (A.imm (List.map (cL c8) a1.Sectors) false) ?_)
  refine .st (v := (iA ((a1.Sectors.length : Int)))) (len_imm (e := 35) (h1 := by kernel_rfl) ..) ?_
  refine .as (T21_21_0 C n h12 h17 h26 h27 h31 h35 h36 h41 h43 h44 y11.2 a1.Sectors ((a1.Sectors.length : Int)) a0 a1 ([]) 0 0 ([]) ([]) 0 false y11.1 _ _ _ _ ?_ _ 1 0)
  · intro y35 j36 j37 j38
    refine .un rfl ?_
    refine .cT (by kernel_rfl) ?_
    refine .s (A.ptr 4 0) (.s (A.imm (List.map (cL c8) y11.1.Records) false) (.s (A.ptr 0 0) (.s (A.imm (List.map (cL c8) a0.Records) false) (.s (A.ptr 0 2) (.s (iA a0.Synced) ?_)))))
    refine .bd (g := fun (y : List (List UInt8)) => (A.imm (List.map (cL c8) y) false)) (cut_imm (e := 35) (es := 1) (f := (cL c8)) (l := a0.Records) (a := 0) (b := a0.Synced) (by kernel_rfl) (by kernel_rfl) (fun _ => rfl) (.inl ⟨rfl, rfl⟩) (.inr ⟨_, rfl⟩)) fun y39 => ?_
    refine .cl ((evCall_in lt_42).trans (e42 C (evCall (cx C) (n+7)) (evCallY (cx C) (n+7)) (n+7) _ _ _ _ _)) ?_
    refine .st (v := (iA ((y11.1.Records.length : Int)))) (len_imm (e := 35) (h1 := by kernel_rfl) ..) ?_
    refine .st (v := (iA ((y39.length : Int)))) (len_imm (e := 35) (h1 := by kernel_rfl) ..) ?_
    refine .st (v := (bA (((y11.1.Records.length : Int)) != ((y39.length : Int))))) (aBin_neq ..) ?_
    refine .biHN (fun hk40 => ?_) (fun hk40 => ?_)
    · refine .cr ?_
      refine .ok ?_
      refine .s (bA true) ?_
      refine .bg (fun t (y : Bool) => ∃ j42 j43 j44 : A, t = [(bA y), j42, j43, j44]) ?_ ?_
      · refine .bT ?_
        exact .lg ⟨_, _, _, rfl⟩
      rintro _ y41 ⟨j42, j43, j44, rfl⟩
      iterate 4 refine .uc ?_
      refine .biHN (fun hk45 => ?_) (fun hk45 => ?_)
      · refine .s (A.agg [(A.imm [] true), (iA 0), (iA 0)]) (.s (A.agg [(A.imm [] true), (A.imm [] true), (iA 0), (bA false)]) (.s [Blk.box (c_S_Journal a0), Blk.box (c_S_Disk a1), Blk.box [(A.imm [] true), (iA 0), (iA 0)], Blk.box [(A.imm [] true), (A.imm [] true), (iA 0), (bA false)], Blk.box (c_S_Journal y11.1)] (.s [Blk.box (c_S_Journal a0), Blk.box (c_S_Disk a1), Blk.box [(A.imm [] true), (iA 0), (iA 0)], Blk.box [(A.imm [] true), (A.imm [] true), (iA 0), (bA false)], Blk.box (c_S_Journal y11.1)] (.s (A.agg [(A.imm [] true), (iA 0), (iA 0)]) (.s (A.agg [(A.imm [] true), (A.imm [] true), (iA 0), (bA false)]) ?_)))))
        exact .lf rfl rfl ⟨_, rfl, by show snapE [Blk.box (c_S_Journal a0), Blk.box (c_S_Disk a1), Blk.box [(A.imm [] true), (iA 0), (iA 0)], Blk.box [(A.imm [] true), (A.imm [] true), (iA 0), (bA false)], Blk.box (c_S_Journal y11.1)] (A.tup [(A.agg [(A.imm [] true), (iA 0), (iA 0)]), (A.agg [(A.imm [] true), (A.imm [] true), (iA 0), (bA false)]), (iA 50)]) = _; first | (simp only [snap, snapW, snapWs, snapWss, snapWss_map, trim, List.map_cons, List.map_nil, fl_cI, fl_c8, fl_cB, fl_cS, fl_cL, fl_S_Write, fl_S_Disk, fl_S_Journal, snapWs_app, fq_S_Write, fq_S_Disk, fq_S_Journal, snapE]; done) | (simp only [snap, snapW, snapWs, snapWss, snapWss_map, trim, fl_cI, fl_c8, fl_cB, fl_cS, fl_cL, fl_S_Write, fl_S_Disk, fl_S_Journal, snapWs_app, fq_S_Write, fq_S_Disk, fq_S_Journal, snapE]; done) | (simp only [snap, snapW, snapWs, snapWss, snapWss_map, trim, fl_cI, fl_c8, fl_cB, fl_cS, fl_cL, fl_S_Write, fl_S_Disk, fl_S_Journal, snapWs_app, fq_S_Write, fq_S_Disk, fq_S_Journal, snapE]; rfl)⟩
      refine .s (A.ptr 0 2) (.s (iA a0.Synced) (.s (A.ptr 0 0) (.s (A.imm (List.map (cL c8) a0.Records) false) ?_)))
      refine .st (v := (iA ((a0.Records.length : Int)))) (len_imm (e := 35) (h1 := by kernel_rfl) ..) ?_
      refine .st (v := (bA (a0.Synced == ((a0.Records.length : Int))))) (aBin_eql ..) ?_
      refine .biHN (fun hk46 => ?_) (fun hk46 => ?_)
      · refine .s (A.agg (c_S_Journal a0)) (.s (A.agg (c_S_Disk a1)) ?_)
        refine .cT (by kernel_rfl) ?_
        refine .s [Blk.box (c_S_Journal a0), Blk.box (c_S_Disk a1), Blk.box (c_S_Journal a0), Blk.box [(A.imm [] true), (A.imm [] true), (iA 0), (bA false)], Blk.box (c_S_Journal y11.1)] (.s [Blk.box (c_S_Journal a0), Blk.box (c_S_Disk a1), Blk.box (c_S_Journal a0), Blk.box (c_S_Disk a1), Blk.box (c_S_Journal y11.1)] (.s (A.agg (c_S_Journal a0)) (.s (A.agg (c_S_Disk a1)) ?_)))
        exact .lf rfl rfl ⟨_, rfl, by show snapE [Blk.box (c_S_Journal a0), Blk.box (c_S_Disk a1), Blk.box (c_S_Journal a0), Blk.box (c_S_Disk a1), Blk.box (c_S_Journal y11.1)] (A.tup [(A.agg (c_S_Journal a0)), (A.agg (c_S_Disk a1)), (iA 0)]) = _; first | (simp only [snap, snapW, snapWs, snapWss, snapWss_map, trim, List.map_cons, List.map_nil, fl_cI, fl_c8, fl_cB, fl_cS, fl_cL, fl_S_Write, fl_S_Disk, fl_S_Journal, snapWs_app, fq_S_Write, fq_S_Disk, fq_S_Journal, snapE]; done) | (simp only [snap, snapW, snapWs, snapWss, snapWss_map, trim, fl_cI, fl_c8, fl_cB, fl_cS, fl_cL, fl_S_Write, fl_S_Disk, fl_S_Journal, snapWs_app, fq_S_Write, fq_S_Disk, fq_S_Journal, snapE]; done) | (simp only [snap, snapW, snapWs, snapWss, snapWss_map, trim, fl_cI, fl_c8, fl_cB, fl_cS, fl_cL, fl_S_Write, fl_S_Disk, fl_S_Journal, snapWs_app, fq_S_Write, fq_S_Disk, fq_S_Journal, snapE]; rfl)⟩
      refine .s (A.ptr 0 0) (.s (A.imm (List.map (cL c8) a0.Records) false) (.s (A.ptr 0 2) (.s (iA a0.Synced) ?_)))
      refine .bd (g := fun (y : List (List UInt8)) => (A.imm (List.map (cL c8) y) false)) (cut_imm (e := 35) (es := 1) (f := (cL c8)) (l := a0.Records) (a := 0) (b := a0.Synced) (by kernel_rfl) (by kernel_rfl) (fun _ => rfl) (.inl ⟨rfl, rfl⟩) (.inr ⟨_, rfl⟩)) fun y47 => ?_
      refine .bd (g := fun (y : Int) => (iA y)) (by show C 36 [snap [Blk.box (c_S_Journal a0), Blk.box (c_S_Disk a1), Blk.box [(A.imm [] true), (iA 0), (iA 0)], Blk.box [(A.imm [] true), (A.imm [] true), (iA 0), (bA false)], Blk.box (c_S_Journal y11.1)] (A.imm (List.map (cL c8) y47) false)] = _; simp only [snap, snapW, snapWs, snapWss, snapWss_map, trim, List.map_cons, List.map_nil, fl_cI, fl_c8, fl_cB, fl_cS, fl_cL, fl_S_Write, fl_S_Disk, fl_S_Journal, snapWs_app, fq_S_Write, fq_S_Disk, fq_S_Journal]; exact h36 y47) fun y48 => ?_
      refine .s (A.ptr 0 0) (.s (A.imm (List.map (cL c8) a0.Records) false) (.s (A.ptr 0 2) (.s (iA a0.Synced) ?_)))
      refine .bd (g := fun (y : List (List UInt8)) => (A.imm (List.map (cL c8) y) false)) (cut_imm (e := 35) (es := 1) (f := (cL c8)) (l := a0.Records) (a := a0.Synced) (b := (a0.Records.length : Int)) (by kernel_rfl) (by kernel_rfl) (fun _ => rfl) (.inr ⟨_, rfl⟩) (.inl ⟨rfl, rfl⟩)) fun y49 => ?_
      refine .st (v := (iA ((y49.length : Int)))) (len_imm (e := 35) (h1 := by kernel_rfl) ..) ?_
      refine .as (T21_21_1 C n h12 h17 h26 h27 h31 h35 h36 h41 h43 h44 y35 y49 ((y49.length : Int)) a0 ([]) 0 0 ([]) ([]) 0 false y11.1 _ _ _ _ ?_ ?_ _ y11.2 y48 0 a1)
      · intro y124 y125 y126 y127 y128 y129 y130 y131 y132 j133 j134 j135 j136 j137 j138 j139
        refine .un rfl ?_
        refine .s (A.agg [(A.imm [] true), (iA y129), (iA y130)]) (.s (A.agg [(A.imm [] true), (A.imm [] true), (iA y131), (bA y132)]) ?_)
        exact .lf rfl rfl ⟨_, rfl, by show snapE [Blk.box (c_S_Journal a0), Blk.box [(A.imm (List.map (cL c8) y125) false), (A.imm (List.map c_S_Write y126) false), (iA y127), (bA y128)], Blk.box [(A.imm [] true), (iA y129), (iA y130)], Blk.box [(A.imm [] true), (A.imm [] true), (iA y131), (bA y132)], Blk.box (c_S_Journal y11.1)] (A.tup [(A.agg [(A.imm [] true), (iA y129), (iA y130)]), (A.agg [(A.imm [] true), (A.imm [] true), (iA y131), (bA y132)]), (iA y124)]) = _; first | (simp only [snap, snapW, snapWs, snapWss, snapWss_map, trim, List.map_cons, List.map_nil, fl_cI, fl_c8, fl_cB, fl_cS, fl_cL, fl_S_Write, fl_S_Disk, fl_S_Journal, snapWs_app, fq_S_Write, fq_S_Disk, fq_S_Journal, snapE]; done) | (simp only [snap, snapW, snapWs, snapWss, snapWss_map, trim, fl_cI, fl_c8, fl_cB, fl_cS, fl_cL, fl_S_Write, fl_S_Disk, fl_S_Journal, snapWs_app, fq_S_Write, fq_S_Disk, fq_S_Journal, snapE]; done) | (simp only [snap, snapW, snapWs, snapWss, snapWss_map, trim, fl_cI, fl_c8, fl_cB, fl_cS, fl_cL, fl_S_Write, fl_S_Disk, fl_S_Journal, snapWs_app, fq_S_Write, fq_S_Disk, fq_S_Journal, snapE]; rfl)⟩
      · intro y140 y141 y142 y143 j144 j145 j146 j147 j148 j149
        refine .un rfl ?_
        refine .cT (by kernel_rfl) ?_
        refine .s (A.agg [(A.imm (List.map (cL c8) y140) false), (A.imm (List.map c_S_Write y141) false), (iA y142), (bA y143)]) ?_
        refine .bd (g := fun (y : (S_Disk × Int)) => (A.tup [(A.agg [(A.imm (List.map (cL c8) y.1.Sectors) false), (A.imm (List.map c_S_Write y.1.Pending) false), (iA y.1.Left), (bA y.1.Stopped)]), (iA y.2)])) (by show C 27 [snap [Blk.box (c_S_Journal a0), Blk.box [(A.imm (List.map (cL c8) y140) false), (A.imm (List.map c_S_Write y141) false), (iA y142), (bA y143)], Blk.box [(A.imm [] true), (iA 0), (iA 0)], Blk.box [(A.imm [] true), (A.imm [] true), (iA 0), (bA false)], Blk.box (c_S_Journal y11.1)] (A.agg [(A.imm (List.map (cL c8) y140) false), (A.imm (List.map c_S_Write y141) false), (iA y142), (bA y143)])] = _; simp only [snap, snapW, snapWs, snapWss, snapWss_map, trim, List.map_cons, List.map_nil, fl_cI, fl_c8, fl_cB, fl_cS, fl_cL, fl_S_Write, fl_S_Disk, fl_S_Journal, snapWs_app, fq_S_Write, fq_S_Disk, fq_S_Journal]; exact h27 ((S_Disk.mk y140 y141 y142 y143))) fun y150 => ?_
        refine .s (A.agg (c_S_Disk y150.1)) (.s (iA y150.2) (.s [Blk.box (c_S_Journal a0), Blk.box (c_S_Disk y150.1), Blk.box [(A.imm [] true), (iA 0), (iA 0)], Blk.box [(A.imm [] true), (A.imm [] true), (iA 0), (bA false)], Blk.box (c_S_Journal y11.1)] ?_))
        refine .st (v := (bA (y150.2 != 0))) (aBin_neq ..) ?_
        refine .biHN (fun hk151 => ?_) (fun hk151 => ?_)
        · refine .s (A.agg [(A.imm [] true), (iA 0), (iA 0)]) (.s (A.agg (c_S_Disk y150.1)) ?_)
          refine .cT (by kernel_rfl) ?_
          refine .s [Blk.box (c_S_Journal a0), Blk.box (c_S_Disk y150.1), Blk.box [(A.imm [] true), (iA 0), (iA 0)], Blk.box [(A.imm [] true), (A.imm [] true), (iA 0), (bA false)], Blk.box (c_S_Journal y11.1)] (.s [Blk.box (c_S_Journal a0), Blk.box (c_S_Disk y150.1), Blk.box [(A.imm [] true), (iA 0), (iA 0)], Blk.box (c_S_Disk y150.1), Blk.box (c_S_Journal y11.1)] (.s (A.agg [(A.imm [] true), (iA 0), (iA 0)]) (.s (A.agg (c_S_Disk y150.1)) ?_)))
          exact .lf rfl rfl ⟨_, rfl, by show snapE [Blk.box (c_S_Journal a0), Blk.box (c_S_Disk y150.1), Blk.box [(A.imm [] true), (iA 0), (iA 0)], Blk.box (c_S_Disk y150.1), Blk.box (c_S_Journal y11.1)] (A.tup [(A.agg [(A.imm [] true), (iA 0), (iA 0)]), (A.agg (c_S_Disk y150.1)), (iA y150.2)]) = _; first | (simp only [snap, snapW, snapWs, snapWss, snapWss_map, trim, List.map_cons, List.map_nil, fl_cI, fl_c8, fl_cB, fl_cS, fl_cL, fl_S_Write, fl_S_Disk, fl_S_Journal, snapWs_app, fq_S_Write, fq_S_Disk, fq_S_Journal, snapE]; done) | (simp only [snap, snapW, snapWs, snapWss, snapWss_map, trim, fl_cI, fl_c8, fl_cB, fl_cS, fl_cL, fl_S_Write, fl_S_Disk, fl_S_Journal, snapWs_app, fq_S_Write, fq_S_Disk, fq_S_Journal, snapE]; done) | (simp only [snap, snapW, snapWs, snapWss, snapWss_map, trim, fl_cI, fl_c8, fl_cB, fl_cS, fl_cL, fl_S_Write, fl_S_Disk, fl_S_Journal, snapWs_app, fq_S_Write, fq_S_Disk, fq_S_Journal, snapE]; rfl)⟩
        refine .s (A.ptr 0 0) (.s (A.imm (List.map (cL c8) a0.Records) false) ?_)
        refine .st (v := (iA ((a0.Records.length : Int)))) (len_imm (e := 35) (h1 := by kernel_rfl) ..) ?_
        refine .s (A.ptr 0 2) (.s [(hk21_4 a0), Blk.box (c_S_Disk y150.1), Blk.box [(A.imm [] true), (iA 0), (iA 0)], Blk.box [(A.imm [] true), (A.imm [] true), (iA 0), (bA false)], Blk.box (c_S_Journal y11.1)] (.s (A.agg [(A.imm (List.map (cL c8) a0.Records) false), (iA a0.Many), (iA ((a0.Records.length : Int)))]) (.s (A.agg (c_S_Disk y150.1)) ?_)))
        refine .cT (by kernel_rfl) ?_
        refine .s [(hk21_4 a0), Blk.box (c_S_Disk y150.1), (hk21_4 a0), Blk.box [(A.imm [] true), (A.imm [] true), (iA 0), (bA false)], Blk.box (c_S_Journal y11.1)] (.s [(hk21_4 a0), Blk.box (c_S_Disk y150.1), (hk21_4 a0), Blk.box (c_S_Disk y150.1), Blk.box (c_S_Journal y11.1)] (.s (A.agg [(A.imm (List.map (cL c8) a0.Records) false), (iA a0.Many), (iA ((a0.Records.length : Int)))]) (.s (A.agg (c_S_Disk y150.1)) ?_)))
        exact .lf rfl rfl ⟨_, rfl, by show snapE [(hk21_4 a0), Blk.box (c_S_Disk y150.1), (hk21_4 a0), Blk.box (c_S_Disk y150.1), Blk.box (c_S_Journal y11.1)] (A.tup [(A.agg [(A.imm (List.map (cL c8) a0.Records) false), (iA a0.Many), (iA ((a0.Records.length : Int)))]), (A.agg (c_S_Disk y150.1)), (iA 0)]) = _; first | (simp only [snap, snapW, snapWs, snapWss, snapWss_map, trim, List.map_cons, List.map_nil, fl_cI, fl_c8, fl_cB, fl_cS, fl_cL, fl_S_Write, fl_S_Disk, fl_S_Journal, snapWs_app, fq_S_Write, fq_S_Disk, fq_S_Journal, snapE]; done) | (simp only [snap, snapW, snapWs, snapWss, snapWss_map, trim, fl_cI, fl_c8, fl_cB, fl_cS, fl_cL, fl_S_Write, fl_S_Disk, fl_S_Journal, snapWs_app, fq_S_Write, fq_S_Disk, fq_S_Journal, snapE]; done) | (simp only [snap, snapW, snapWs, snapWss, snapWss_map, trim, fl_cI, fl_c8, fl_cB, fl_cS, fl_cL, fl_S_Write, fl_S_Disk, fl_S_Journal, snapWs_app, fq_S_Write, fq_S_Disk, fq_S_Journal, snapE]; rfl)⟩
    refine .st (v := (iA ((y11.1.Records.length : Int)))) (len_imm (e := 35) (h1 := by kernel_rfl) ..) ?_
    refine .as (T21_42_0 C n h12 h17 h26 h27 h31 h35 h36 h41 h43 h44 y39 false y11.1.Records ((y11.1.Records.length : Int)) a0 a1 ([]) 0 0 ([]) ([]) 0 false y11.1 _ _ _ _ ?_ ?_ _ 0)
    · intro y173 j174 j175 j176 j177 j178
      refine .un rfl ?_
      refine .cr ?_
      refine .ok ?_
      refine .s (bA (!y173)) ?_
      refine .bg (fun t (y : Bool) => ∃ j181 j182 j183 : A, t = [(bA y), j181, j182, j183]) ?_ ?_
      · refine .biH (fun hk179 => ?_) (fun hk179 => ?_)
        · exact .lg ⟨_, _, _, rfl⟩
        refine .st (v := (A.v (Value.int .u64 (shrI .u64 y35 32)))) (aBin_shr (hb := by decide) ..) ?_
        refine .st (v := (bA ((shrI .u64 y35 32) != 0))) (aBin_neq ..) ?_
        exact .lg ⟨_, _, _, rfl⟩
      rintro _ y180 ⟨j181, j182, j183, rfl⟩
      iterate 4 refine .uc ?_
      refine .biHN (fun hk184 => ?_) (fun hk184 => ?_)
      · refine .s (A.agg [(A.imm [] true), (iA 0), (iA 0)]) (.s (A.agg [(A.imm [] true), (A.imm [] true), (iA 0), (bA false)]) (.s [Blk.box (c_S_Journal a0), Blk.box (c_S_Disk a1), Blk.box [(A.imm [] true), (iA 0), (iA 0)], Blk.box [(A.imm [] true), (A.imm [] true), (iA 0), (bA false)], Blk.box (c_S_Journal y11.1)] (.s [Blk.box (c_S_Journal a0), Blk.box (c_S_Disk a1), Blk.box [(A.imm [] true), (iA 0), (iA 0)], Blk.box [(A.imm [] true), (A.imm [] true), (iA 0), (bA false)], Blk.box (c_S_Journal y11.1)] (.s (A.agg [(A.imm [] true), (iA 0), (iA 0)]) (.s (A.agg [(A.imm [] true), (A.imm [] true), (iA 0), (bA false)]) ?_)))))
        exact .lf rfl rfl ⟨_, rfl, by show snapE [Blk.box (c_S_Journal a0), Blk.box (c_S_Disk a1), Blk.box [(A.imm [] true), (iA 0), (iA 0)], Blk.box [(A.imm [] true), (A.imm [] true), (iA 0), (bA false)], Blk.box (c_S_Journal y11.1)] (A.tup [(A.agg [(A.imm [] true), (iA 0), (iA 0)]), (A.agg [(A.imm [] true), (A.imm [] true), (iA 0), (bA false)]), (iA 50)]) = _; first | (simp only [snap, snapW, snapWs, snapWss, snapWss_map, trim, List.map_cons, List.map_nil, fl_cI, fl_c8, fl_cB, fl_cS, fl_cL, fl_S_Write, fl_S_Disk, fl_S_Journal, snapWs_app, fq_S_Write, fq_S_Disk, fq_S_Journal, snapE]; done) | (simp only [snap, snapW, snapWs, snapWss, snapWss_map, trim, fl_cI, fl_c8, fl_cB, fl_cS, fl_cL, fl_S_Write, fl_S_Disk, fl_S_Journal, snapWs_app, fq_S_Write, fq_S_Disk, fq_S_Journal, snapE]; done) | (simp only [snap, snapW, snapWs, snapWss, snapWss_map, trim, fl_cI, fl_c8, fl_cB, fl_cS, fl_cL, fl_S_Write, fl_S_Disk, fl_S_Journal, snapWs_app, fq_S_Write, fq_S_Disk, fq_S_Journal, snapE]; rfl)⟩
      refine .s (A.ptr 0 2) (.s (iA a0.Synced) (.s (A.ptr 0 0) (.s (A.imm (List.map (cL c8) a0.Records) false) ?_)))
      refine .st (v := (iA ((a0.Records.length : Int)))) (len_imm (e := 35) (h1 := by kernel_rfl) ..) ?_
      refine .st (v := (bA (a0.Synced == ((a0.Records.length : Int))))) (aBin_eql ..) ?_
      refine .biHN (fun hk185 => ?_) (fun hk185 => ?_)
      · refine .s (A.agg (c_S_Journal a0)) (.s (A.agg (c_S_Disk a1)) ?_)
        refine .cT (by kernel_rfl) ?_
        refine .s [Blk.box (c_S_Journal a0), Blk.box (c_S_Disk a1), Blk.box (c_S_Journal a0), Blk.box [(A.imm [] true), (A.imm [] true), (iA 0), (bA false)], Blk.box (c_S_Journal y11.1)] (.s [Blk.box (c_S_Journal a0), Blk.box (c_S_Disk a1), Blk.box (c_S_Journal a0), Blk.box (c_S_Disk a1), Blk.box (c_S_Journal y11.1)] (.s (A.agg (c_S_Journal a0)) (.s (A.agg (c_S_Disk a1)) ?_)))
        exact .lf rfl rfl ⟨_, rfl, by show snapE [Blk.box (c_S_Journal a0), Blk.box (c_S_Disk a1), Blk.box (c_S_Journal a0), Blk.box (c_S_Disk a1), Blk.box (c_S_Journal y11.1)] (A.tup [(A.agg (c_S_Journal a0)), (A.agg (c_S_Disk a1)), (iA 0)]) = _; first | (simp only [snap, snapW, snapWs, snapWss, snapWss_map, trim, List.map_cons, List.map_nil, fl_cI, fl_c8, fl_cB, fl_cS, fl_cL, fl_S_Write, fl_S_Disk, fl_S_Journal, snapWs_app, fq_S_Write, fq_S_Disk, fq_S_Journal, snapE]; done) | (simp only [snap, snapW, snapWs, snapWss, snapWss_map, trim, fl_cI, fl_c8, fl_cB, fl_cS, fl_cL, fl_S_Write, fl_S_Disk, fl_S_Journal, snapWs_app, fq_S_Write, fq_S_Disk, fq_S_Journal, snapE]; done) | (simp only [snap, snapW, snapWs, snapWss, snapWss_map, trim, fl_cI, fl_c8, fl_cB, fl_cS, fl_cL, fl_S_Write, fl_S_Disk, fl_S_Journal, snapWs_app, fq_S_Write, fq_S_Disk, fq_S_Journal, snapE]; rfl)⟩
      refine .s (A.ptr 0 0) (.s (A.imm (List.map (cL c8) a0.Records) false) (.s (A.ptr 0 2) (.s (iA a0.Synced) ?_)))
      refine .bd (g := fun (y : List (List UInt8)) => (A.imm (List.map (cL c8) y) false)) (cut_imm (e := 35) (es := 1) (f := (cL c8)) (l := a0.Records) (a := 0) (b := a0.Synced) (by kernel_rfl) (by kernel_rfl) (fun _ => rfl) (.inl ⟨rfl, rfl⟩) (.inr ⟨_, rfl⟩)) fun y186 => ?_
      refine .bd (g := fun (y : Int) => (iA y)) (by show C 36 [snap [Blk.box (c_S_Journal a0), Blk.box (c_S_Disk a1), Blk.box [(A.imm [] true), (iA 0), (iA 0)], Blk.box [(A.imm [] true), (A.imm [] true), (iA 0), (bA false)], Blk.box (c_S_Journal y11.1)] (A.imm (List.map (cL c8) y186) false)] = _; simp only [snap, snapW, snapWs, snapWss, snapWss_map, trim, List.map_cons, List.map_nil, fl_cI, fl_c8, fl_cB, fl_cS, fl_cL, fl_S_Write, fl_S_Disk, fl_S_Journal, snapWs_app, fq_S_Write, fq_S_Disk, fq_S_Journal]; exact h36 y186) fun y187 => ?_
      refine .s (A.ptr 0 0) (.s (A.imm (List.map (cL c8) a0.Records) false) (.s (A.ptr 0 2) (.s (iA a0.Synced) ?_)))
      refine .bd (g := fun (y : List (List UInt8)) => (A.imm (List.map (cL c8) y) false)) (cut_imm (e := 35) (es := 1) (f := (cL c8)) (l := a0.Records) (a := a0.Synced) (b := (a0.Records.length : Int)) (by kernel_rfl) (by kernel_rfl) (fun _ => rfl) (.inr ⟨_, rfl⟩) (.inl ⟨rfl, rfl⟩)) fun y188 => ?_
      refine .st (v := (iA ((y188.length : Int)))) (len_imm (e := 35) (h1 := by kernel_rfl) ..) ?_
      refine .as (T21_21_1 C n h12 h17 h26 h27 h31 h35 h36 h41 h43 h44 y35 y188 ((y188.length : Int)) a0 ([]) 0 0 ([]) ([]) 0 false y11.1 _ _ _ _ ?_ ?_ _ y11.2 y187 0 a1)
      · intro y263 y264 y265 y266 y267 y268 y269 y270 y271 j272 j273 j274 j275 j276 j277 j278
        refine .un rfl ?_
        refine .s (A.agg [(A.imm [] true), (iA y268), (iA y269)]) (.s (A.agg [(A.imm [] true), (A.imm [] true), (iA y270), (bA y271)]) ?_)
        exact .lf rfl rfl ⟨_, rfl, by show snapE [Blk.box (c_S_Journal a0), Blk.box [(A.imm (List.map (cL c8) y264) false), (A.imm (List.map c_S_Write y265) false), (iA y266), (bA y267)], Blk.box [(A.imm [] true), (iA y268), (iA y269)], Blk.box [(A.imm [] true), (A.imm [] true), (iA y270), (bA y271)], Blk.box (c_S_Journal y11.1)] (A.tup [(A.agg [(A.imm [] true), (iA y268), (iA y269)]), (A.agg [(A.imm [] true), (A.imm [] true), (iA y270), (bA y271)]), (iA y263)]) = _; first | (simp only [snap, snapW, snapWs, snapWss, snapWss_map, trim, List.map_cons, List.map_nil, fl_cI, fl_c8, fl_cB, fl_cS, fl_cL, fl_S_Write, fl_S_Disk, fl_S_Journal, snapWs_app, fq_S_Write, fq_S_Disk, fq_S_Journal, snapE]; done) | (simp only [snap, snapW, snapWs, snapWss, snapWss_map, trim, fl_cI, fl_c8, fl_cB, fl_cS, fl_cL, fl_S_Write, fl_S_Disk, fl_S_Journal, snapWs_app, fq_S_Write, fq_S_Disk, fq_S_Journal, snapE]; done) | (simp only [snap, snapW, snapWs, snapWss, snapWss_map, trim, fl_cI, fl_c8, fl_cB, fl_cS, fl_cL, fl_S_Write, fl_S_Disk, fl_S_Journal, snapWs_app, fq_S_Write, fq_S_Disk, fq_S_Journal, snapE]; rfl)⟩
      · intro y279 y280 y281 y282 j283 j284 j285 j286 j287 j288
        refine .un rfl ?_
        refine .cT (by kernel_rfl) ?_
        refine .s (A.agg [(A.imm (List.map (cL c8) y279) false), (A.imm (List.map c_S_Write y280) false), (iA y281), (bA y282)]) ?_
        refine .bd (g := fun (y : (S_Disk × Int)) => (A.tup [(A.agg [(A.imm (List.map (cL c8) y.1.Sectors) false), (A.imm (List.map c_S_Write y.1.Pending) false), (iA y.1.Left), (bA y.1.Stopped)]), (iA y.2)])) (by show C 27 [snap [Blk.box (c_S_Journal a0), Blk.box [(A.imm (List.map (cL c8) y279) false), (A.imm (List.map c_S_Write y280) false), (iA y281), (bA y282)], Blk.box [(A.imm [] true), (iA 0), (iA 0)], Blk.box [(A.imm [] true), (A.imm [] true), (iA 0), (bA false)], Blk.box (c_S_Journal y11.1)] (A.agg [(A.imm (List.map (cL c8) y279) false), (A.imm (List.map c_S_Write y280) false), (iA y281), (bA y282)])] = _; simp only [snap, snapW, snapWs, snapWss, snapWss_map, trim, List.map_cons, List.map_nil, fl_cI, fl_c8, fl_cB, fl_cS, fl_cL, fl_S_Write, fl_S_Disk, fl_S_Journal, snapWs_app, fq_S_Write, fq_S_Disk, fq_S_Journal]; exact h27 ((S_Disk.mk y279 y280 y281 y282))) fun y289 => ?_
        refine .s (A.agg (c_S_Disk y289.1)) (.s (iA y289.2) (.s [Blk.box (c_S_Journal a0), Blk.box (c_S_Disk y289.1), Blk.box [(A.imm [] true), (iA 0), (iA 0)], Blk.box [(A.imm [] true), (A.imm [] true), (iA 0), (bA false)], Blk.box (c_S_Journal y11.1)] ?_))
        refine .st (v := (bA (y289.2 != 0))) (aBin_neq ..) ?_
        refine .biHN (fun hk290 => ?_) (fun hk290 => ?_)
        · refine .s (A.agg [(A.imm [] true), (iA 0), (iA 0)]) (.s (A.agg (c_S_Disk y289.1)) ?_)
          refine .cT (by kernel_rfl) ?_
          refine .s [Blk.box (c_S_Journal a0), Blk.box (c_S_Disk y289.1), Blk.box [(A.imm [] true), (iA 0), (iA 0)], Blk.box [(A.imm [] true), (A.imm [] true), (iA 0), (bA false)], Blk.box (c_S_Journal y11.1)] (.s [Blk.box (c_S_Journal a0), Blk.box (c_S_Disk y289.1), Blk.box [(A.imm [] true), (iA 0), (iA 0)], Blk.box (c_S_Disk y289.1), Blk.box (c_S_Journal y11.1)] (.s (A.agg [(A.imm [] true), (iA 0), (iA 0)]) (.s (A.agg (c_S_Disk y289.1)) ?_)))
          exact .lf rfl rfl ⟨_, rfl, by show snapE [Blk.box (c_S_Journal a0), Blk.box (c_S_Disk y289.1), Blk.box [(A.imm [] true), (iA 0), (iA 0)], Blk.box (c_S_Disk y289.1), Blk.box (c_S_Journal y11.1)] (A.tup [(A.agg [(A.imm [] true), (iA 0), (iA 0)]), (A.agg (c_S_Disk y289.1)), (iA y289.2)]) = _; first | (simp only [snap, snapW, snapWs, snapWss, snapWss_map, trim, List.map_cons, List.map_nil, fl_cI, fl_c8, fl_cB, fl_cS, fl_cL, fl_S_Write, fl_S_Disk, fl_S_Journal, snapWs_app, fq_S_Write, fq_S_Disk, fq_S_Journal, snapE]; done) | (simp only [snap, snapW, snapWs, snapWss, snapWss_map, trim, fl_cI, fl_c8, fl_cB, fl_cS, fl_cL, fl_S_Write, fl_S_Disk, fl_S_Journal, snapWs_app, fq_S_Write, fq_S_Disk, fq_S_Journal, snapE]; done) | (simp only [snap, snapW, snapWs, snapWss, snapWss_map, trim, fl_cI, fl_c8, fl_cB, fl_cS, fl_cL, fl_S_Write, fl_S_Disk, fl_S_Journal, snapWs_app, fq_S_Write, fq_S_Disk, fq_S_Journal, snapE]; rfl)⟩
        refine .s (A.ptr 0 0) (.s (A.imm (List.map (cL c8) a0.Records) false) ?_)
        refine .st (v := (iA ((a0.Records.length : Int)))) (len_imm (e := 35) (h1 := by kernel_rfl) ..) ?_
        refine .s (A.ptr 0 2) (.s [(hk21_4 a0), Blk.box (c_S_Disk y289.1), Blk.box [(A.imm [] true), (iA 0), (iA 0)], Blk.box [(A.imm [] true), (A.imm [] true), (iA 0), (bA false)], Blk.box (c_S_Journal y11.1)] (.s (A.agg [(A.imm (List.map (cL c8) a0.Records) false), (iA a0.Many), (iA ((a0.Records.length : Int)))]) (.s (A.agg (c_S_Disk y289.1)) ?_)))
        refine .cT (by kernel_rfl) ?_
        refine .s [(hk21_4 a0), Blk.box (c_S_Disk y289.1), (hk21_4 a0), Blk.box [(A.imm [] true), (A.imm [] true), (iA 0), (bA false)], Blk.box (c_S_Journal y11.1)] (.s [(hk21_4 a0), Blk.box (c_S_Disk y289.1), (hk21_4 a0), Blk.box (c_S_Disk y289.1), Blk.box (c_S_Journal y11.1)] (.s (A.agg [(A.imm (List.map (cL c8) a0.Records) false), (iA a0.Many), (iA ((a0.Records.length : Int)))]) (.s (A.agg (c_S_Disk y289.1)) ?_)))
        exact .lf rfl rfl ⟨_, rfl, by show snapE [(hk21_4 a0), Blk.box (c_S_Disk y289.1), (hk21_4 a0), Blk.box (c_S_Disk y289.1), Blk.box (c_S_Journal y11.1)] (A.tup [(A.agg [(A.imm (List.map (cL c8) a0.Records) false), (iA a0.Many), (iA ((a0.Records.length : Int)))]), (A.agg (c_S_Disk y289.1)), (iA 0)]) = _; first | (simp only [snap, snapW, snapWs, snapWss, snapWss_map, trim, List.map_cons, List.map_nil, fl_cI, fl_c8, fl_cB, fl_cS, fl_cL, fl_S_Write, fl_S_Disk, fl_S_Journal, snapWs_app, fq_S_Write, fq_S_Disk, fq_S_Journal, snapE]; done) | (simp only [snap, snapW, snapWs, snapWss, snapWss_map, trim, fl_cI, fl_c8, fl_cB, fl_cS, fl_cL, fl_S_Write, fl_S_Disk, fl_S_Journal, snapWs_app, fq_S_Write, fq_S_Disk, fq_S_Journal, snapE]; done) | (simp only [snap, snapW, snapWs, snapWss, snapWss_map, trim, fl_cI, fl_c8, fl_cB, fl_cS, fl_cL, fl_S_Write, fl_S_Disk, fl_S_Journal, snapWs_app, fq_S_Write, fq_S_Disk, fq_S_Journal, snapE]; rfl)⟩
    · intro j291 j292 j293 j294 j295 j296
      refine .un rfl ?_
      refine .cT (by kernel_rfl) ?_
      refine .cr ?_
      refine .ok ?_
      refine .s (bA false) ?_
      refine .bg (fun t (y : Bool) => ∃ j298 j299 j300 : A, t = [(bA y), j298, j299, j300]) ?_ ?_
      · refine .bF ?_
        refine .st (v := (A.v (Value.int .u64 (shrI .u64 y35 32)))) (aBin_shr (hb := by decide) ..) ?_
        refine .st (v := (bA ((shrI .u64 y35 32) != 0))) (aBin_neq ..) ?_
        exact .lg ⟨_, _, _, rfl⟩
      rintro _ y297 ⟨j298, j299, j300, rfl⟩
      iterate 4 refine .uc ?_
      refine .biHN (fun hk301 => ?_) (fun hk301 => ?_)
      · refine .s (A.agg [(A.imm [] true), (iA 0), (iA 0)]) (.s (A.agg [(A.imm [] true), (A.imm [] true), (iA 0), (bA false)]) (.s [Blk.box (c_S_Journal a0), Blk.box (c_S_Disk a1), Blk.box [(A.imm [] true), (iA 0), (iA 0)], Blk.box [(A.imm [] true), (A.imm [] true), (iA 0), (bA false)], Blk.box (c_S_Journal y11.1)] (.s [Blk.box (c_S_Journal a0), Blk.box (c_S_Disk a1), Blk.box [(A.imm [] true), (iA 0), (iA 0)], Blk.box [(A.imm [] true), (A.imm [] true), (iA 0), (bA false)], Blk.box (c_S_Journal y11.1)] (.s (A.agg [(A.imm [] true), (iA 0), (iA 0)]) (.s (A.agg [(A.imm [] true), (A.imm [] true), (iA 0), (bA false)]) ?_)))))
        exact .lf rfl rfl ⟨_, rfl, by show snapE [Blk.box (c_S_Journal a0), Blk.box (c_S_Disk a1), Blk.box [(A.imm [] true), (iA 0), (iA 0)], Blk.box [(A.imm [] true), (A.imm [] true), (iA 0), (bA false)], Blk.box (c_S_Journal y11.1)] (A.tup [(A.agg [(A.imm [] true), (iA 0), (iA 0)]), (A.agg [(A.imm [] true), (A.imm [] true), (iA 0), (bA false)]), (iA 50)]) = _; first | (simp only [snap, snapW, snapWs, snapWss, snapWss_map, trim, List.map_cons, List.map_nil, fl_cI, fl_c8, fl_cB, fl_cS, fl_cL, fl_S_Write, fl_S_Disk, fl_S_Journal, snapWs_app, fq_S_Write, fq_S_Disk, fq_S_Journal, snapE]; done) | (simp only [snap, snapW, snapWs, snapWss, snapWss_map, trim, fl_cI, fl_c8, fl_cB, fl_cS, fl_cL, fl_S_Write, fl_S_Disk, fl_S_Journal, snapWs_app, fq_S_Write, fq_S_Disk, fq_S_Journal, snapE]; done) | (simp only [snap, snapW, snapWs, snapWss, snapWss_map, trim, fl_cI, fl_c8, fl_cB, fl_cS, fl_cL, fl_S_Write, fl_S_Disk, fl_S_Journal, snapWs_app, fq_S_Write, fq_S_Disk, fq_S_Journal, snapE]; rfl)⟩
      refine .s (A.ptr 0 2) (.s (iA a0.Synced) (.s (A.ptr 0 0) (.s (A.imm (List.map (cL c8) a0.Records) false) ?_)))
      refine .st (v := (iA ((a0.Records.length : Int)))) (len_imm (e := 35) (h1 := by kernel_rfl) ..) ?_
      refine .st (v := (bA (a0.Synced == ((a0.Records.length : Int))))) (aBin_eql ..) ?_
      refine .biHN (fun hk302 => ?_) (fun hk302 => ?_)
      · refine .s (A.agg (c_S_Journal a0)) (.s (A.agg (c_S_Disk a1)) ?_)
        refine .cT (by kernel_rfl) ?_
        refine .s [Blk.box (c_S_Journal a0), Blk.box (c_S_Disk a1), Blk.box (c_S_Journal a0), Blk.box [(A.imm [] true), (A.imm [] true), (iA 0), (bA false)], Blk.box (c_S_Journal y11.1)] (.s [Blk.box (c_S_Journal a0), Blk.box (c_S_Disk a1), Blk.box (c_S_Journal a0), Blk.box (c_S_Disk a1), Blk.box (c_S_Journal y11.1)] (.s (A.agg (c_S_Journal a0)) (.s (A.agg (c_S_Disk a1)) ?_)))
        exact .lf rfl rfl ⟨_, rfl, by show snapE [Blk.box (c_S_Journal a0), Blk.box (c_S_Disk a1), Blk.box (c_S_Journal a0), Blk.box (c_S_Disk a1), Blk.box (c_S_Journal y11.1)] (A.tup [(A.agg (c_S_Journal a0)), (A.agg (c_S_Disk a1)), (iA 0)]) = _; first | (simp only [snap, snapW, snapWs, snapWss, snapWss_map, trim, List.map_cons, List.map_nil, fl_cI, fl_c8, fl_cB, fl_cS, fl_cL, fl_S_Write, fl_S_Disk, fl_S_Journal, snapWs_app, fq_S_Write, fq_S_Disk, fq_S_Journal, snapE]; done) | (simp only [snap, snapW, snapWs, snapWss, snapWss_map, trim, fl_cI, fl_c8, fl_cB, fl_cS, fl_cL, fl_S_Write, fl_S_Disk, fl_S_Journal, snapWs_app, fq_S_Write, fq_S_Disk, fq_S_Journal, snapE]; done) | (simp only [snap, snapW, snapWs, snapWss, snapWss_map, trim, fl_cI, fl_c8, fl_cB, fl_cS, fl_cL, fl_S_Write, fl_S_Disk, fl_S_Journal, snapWs_app, fq_S_Write, fq_S_Disk, fq_S_Journal, snapE]; rfl)⟩
      refine .s (A.ptr 0 0) (.s (A.imm (List.map (cL c8) a0.Records) false) (.s (A.ptr 0 2) (.s (iA a0.Synced) ?_)))
      refine .bd (g := fun (y : List (List UInt8)) => (A.imm (List.map (cL c8) y) false)) (cut_imm (e := 35) (es := 1) (f := (cL c8)) (l := a0.Records) (a := 0) (b := a0.Synced) (by kernel_rfl) (by kernel_rfl) (fun _ => rfl) (.inl ⟨rfl, rfl⟩) (.inr ⟨_, rfl⟩)) fun y303 => ?_
      refine .bd (g := fun (y : Int) => (iA y)) (by show C 36 [snap [Blk.box (c_S_Journal a0), Blk.box (c_S_Disk a1), Blk.box [(A.imm [] true), (iA 0), (iA 0)], Blk.box [(A.imm [] true), (A.imm [] true), (iA 0), (bA false)], Blk.box (c_S_Journal y11.1)] (A.imm (List.map (cL c8) y303) false)] = _; simp only [snap, snapW, snapWs, snapWss, snapWss_map, trim, List.map_cons, List.map_nil, fl_cI, fl_c8, fl_cB, fl_cS, fl_cL, fl_S_Write, fl_S_Disk, fl_S_Journal, snapWs_app, fq_S_Write, fq_S_Disk, fq_S_Journal]; exact h36 y303) fun y304 => ?_
      refine .s (A.ptr 0 0) (.s (A.imm (List.map (cL c8) a0.Records) false) (.s (A.ptr 0 2) (.s (iA a0.Synced) ?_)))
      refine .bd (g := fun (y : List (List UInt8)) => (A.imm (List.map (cL c8) y) false)) (cut_imm (e := 35) (es := 1) (f := (cL c8)) (l := a0.Records) (a := a0.Synced) (b := (a0.Records.length : Int)) (by kernel_rfl) (by kernel_rfl) (fun _ => rfl) (.inr ⟨_, rfl⟩) (.inl ⟨rfl, rfl⟩)) fun y305 => ?_
      refine .st (v := (iA ((y305.length : Int)))) (len_imm (e := 35) (h1 := by kernel_rfl) ..) ?_
      refine .as (T21_21_1 C n h12 h17 h26 h27 h31 h35 h36 h41 h43 h44 y35 y305 ((y305.length : Int)) a0 ([]) 0 0 ([]) ([]) 0 false y11.1 _ _ _ _ ?_ ?_ _ y11.2 y304 0 a1)
      · intro y380 y381 y382 y383 y384 y385 y386 y387 y388 j389 j390 j391 j392 j393 j394 j395
        refine .un rfl ?_
        refine .s (A.agg [(A.imm [] true), (iA y385), (iA y386)]) (.s (A.agg [(A.imm [] true), (A.imm [] true), (iA y387), (bA y388)]) ?_)
        exact .lf rfl rfl ⟨_, rfl, by show snapE [Blk.box (c_S_Journal a0), Blk.box [(A.imm (List.map (cL c8) y381) false), (A.imm (List.map c_S_Write y382) false), (iA y383), (bA y384)], Blk.box [(A.imm [] true), (iA y385), (iA y386)], Blk.box [(A.imm [] true), (A.imm [] true), (iA y387), (bA y388)], Blk.box (c_S_Journal y11.1)] (A.tup [(A.agg [(A.imm [] true), (iA y385), (iA y386)]), (A.agg [(A.imm [] true), (A.imm [] true), (iA y387), (bA y388)]), (iA y380)]) = _; first | (simp only [snap, snapW, snapWs, snapWss, snapWss_map, trim, List.map_cons, List.map_nil, fl_cI, fl_c8, fl_cB, fl_cS, fl_cL, fl_S_Write, fl_S_Disk, fl_S_Journal, snapWs_app, fq_S_Write, fq_S_Disk, fq_S_Journal, snapE]; done) | (simp only [snap, snapW, snapWs, snapWss, snapWss_map, trim, fl_cI, fl_c8, fl_cB, fl_cS, fl_cL, fl_S_Write, fl_S_Disk, fl_S_Journal, snapWs_app, fq_S_Write, fq_S_Disk, fq_S_Journal, snapE]; done) | (simp only [snap, snapW, snapWs, snapWss, snapWss_map, trim, fl_cI, fl_c8, fl_cB, fl_cS, fl_cL, fl_S_Write, fl_S_Disk, fl_S_Journal, snapWs_app, fq_S_Write, fq_S_Disk, fq_S_Journal, snapE]; rfl)⟩
      · intro y396 y397 y398 y399 j400 j401 j402 j403 j404 j405
        refine .un rfl ?_
        refine .cT (by kernel_rfl) ?_
        refine .s (A.agg [(A.imm (List.map (cL c8) y396) false), (A.imm (List.map c_S_Write y397) false), (iA y398), (bA y399)]) ?_
        refine .bd (g := fun (y : (S_Disk × Int)) => (A.tup [(A.agg [(A.imm (List.map (cL c8) y.1.Sectors) false), (A.imm (List.map c_S_Write y.1.Pending) false), (iA y.1.Left), (bA y.1.Stopped)]), (iA y.2)])) (by show C 27 [snap [Blk.box (c_S_Journal a0), Blk.box [(A.imm (List.map (cL c8) y396) false), (A.imm (List.map c_S_Write y397) false), (iA y398), (bA y399)], Blk.box [(A.imm [] true), (iA 0), (iA 0)], Blk.box [(A.imm [] true), (A.imm [] true), (iA 0), (bA false)], Blk.box (c_S_Journal y11.1)] (A.agg [(A.imm (List.map (cL c8) y396) false), (A.imm (List.map c_S_Write y397) false), (iA y398), (bA y399)])] = _; simp only [snap, snapW, snapWs, snapWss, snapWss_map, trim, List.map_cons, List.map_nil, fl_cI, fl_c8, fl_cB, fl_cS, fl_cL, fl_S_Write, fl_S_Disk, fl_S_Journal, snapWs_app, fq_S_Write, fq_S_Disk, fq_S_Journal]; exact h27 ((S_Disk.mk y396 y397 y398 y399))) fun y406 => ?_
        refine .s (A.agg (c_S_Disk y406.1)) (.s (iA y406.2) (.s [Blk.box (c_S_Journal a0), Blk.box (c_S_Disk y406.1), Blk.box [(A.imm [] true), (iA 0), (iA 0)], Blk.box [(A.imm [] true), (A.imm [] true), (iA 0), (bA false)], Blk.box (c_S_Journal y11.1)] ?_))
        refine .st (v := (bA (y406.2 != 0))) (aBin_neq ..) ?_
        refine .biHN (fun hk407 => ?_) (fun hk407 => ?_)
        · refine .s (A.agg [(A.imm [] true), (iA 0), (iA 0)]) (.s (A.agg (c_S_Disk y406.1)) ?_)
          refine .cT (by kernel_rfl) ?_
          refine .s [Blk.box (c_S_Journal a0), Blk.box (c_S_Disk y406.1), Blk.box [(A.imm [] true), (iA 0), (iA 0)], Blk.box [(A.imm [] true), (A.imm [] true), (iA 0), (bA false)], Blk.box (c_S_Journal y11.1)] (.s [Blk.box (c_S_Journal a0), Blk.box (c_S_Disk y406.1), Blk.box [(A.imm [] true), (iA 0), (iA 0)], Blk.box (c_S_Disk y406.1), Blk.box (c_S_Journal y11.1)] (.s (A.agg [(A.imm [] true), (iA 0), (iA 0)]) (.s (A.agg (c_S_Disk y406.1)) ?_)))
          exact .lf rfl rfl ⟨_, rfl, by show snapE [Blk.box (c_S_Journal a0), Blk.box (c_S_Disk y406.1), Blk.box [(A.imm [] true), (iA 0), (iA 0)], Blk.box (c_S_Disk y406.1), Blk.box (c_S_Journal y11.1)] (A.tup [(A.agg [(A.imm [] true), (iA 0), (iA 0)]), (A.agg (c_S_Disk y406.1)), (iA y406.2)]) = _; first | (simp only [snap, snapW, snapWs, snapWss, snapWss_map, trim, List.map_cons, List.map_nil, fl_cI, fl_c8, fl_cB, fl_cS, fl_cL, fl_S_Write, fl_S_Disk, fl_S_Journal, snapWs_app, fq_S_Write, fq_S_Disk, fq_S_Journal, snapE]; done) | (simp only [snap, snapW, snapWs, snapWss, snapWss_map, trim, fl_cI, fl_c8, fl_cB, fl_cS, fl_cL, fl_S_Write, fl_S_Disk, fl_S_Journal, snapWs_app, fq_S_Write, fq_S_Disk, fq_S_Journal, snapE]; done) | (simp only [snap, snapW, snapWs, snapWss, snapWss_map, trim, fl_cI, fl_c8, fl_cB, fl_cS, fl_cL, fl_S_Write, fl_S_Disk, fl_S_Journal, snapWs_app, fq_S_Write, fq_S_Disk, fq_S_Journal, snapE]; rfl)⟩
        refine .s (A.ptr 0 0) (.s (A.imm (List.map (cL c8) a0.Records) false) ?_)
        refine .st (v := (iA ((a0.Records.length : Int)))) (len_imm (e := 35) (h1 := by kernel_rfl) ..) ?_
        refine .s (A.ptr 0 2) (.s [(hk21_4 a0), Blk.box (c_S_Disk y406.1), Blk.box [(A.imm [] true), (iA 0), (iA 0)], Blk.box [(A.imm [] true), (A.imm [] true), (iA 0), (bA false)], Blk.box (c_S_Journal y11.1)] (.s (A.agg [(A.imm (List.map (cL c8) a0.Records) false), (iA a0.Many), (iA ((a0.Records.length : Int)))]) (.s (A.agg (c_S_Disk y406.1)) ?_)))
        refine .cT (by kernel_rfl) ?_
        refine .s [(hk21_4 a0), Blk.box (c_S_Disk y406.1), (hk21_4 a0), Blk.box [(A.imm [] true), (A.imm [] true), (iA 0), (bA false)], Blk.box (c_S_Journal y11.1)] (.s [(hk21_4 a0), Blk.box (c_S_Disk y406.1), (hk21_4 a0), Blk.box (c_S_Disk y406.1), Blk.box (c_S_Journal y11.1)] (.s (A.agg [(A.imm (List.map (cL c8) a0.Records) false), (iA a0.Many), (iA ((a0.Records.length : Int)))]) (.s (A.agg (c_S_Disk y406.1)) ?_)))
        exact .lf rfl rfl ⟨_, rfl, by show snapE [(hk21_4 a0), Blk.box (c_S_Disk y406.1), (hk21_4 a0), Blk.box (c_S_Disk y406.1), Blk.box (c_S_Journal y11.1)] (A.tup [(A.agg [(A.imm (List.map (cL c8) a0.Records) false), (iA a0.Many), (iA ((a0.Records.length : Int)))]), (A.agg (c_S_Disk y406.1)), (iA 0)]) = _; first | (simp only [snap, snapW, snapWs, snapWss, snapWss_map, trim, List.map_cons, List.map_nil, fl_cI, fl_c8, fl_cB, fl_cS, fl_cL, fl_S_Write, fl_S_Disk, fl_S_Journal, snapWs_app, fq_S_Write, fq_S_Disk, fq_S_Journal, snapE]; done) | (simp only [snap, snapW, snapWs, snapWss, snapWss_map, trim, fl_cI, fl_c8, fl_cB, fl_cS, fl_cL, fl_S_Write, fl_S_Disk, fl_S_Journal, snapWs_app, fq_S_Write, fq_S_Disk, fq_S_Journal, snapE]; done) | (simp only [snap, snapW, snapWs, snapWss, snapWss_map, trim, fl_cI, fl_c8, fl_cB, fl_cS, fl_cL, fl_S_Write, fl_S_Disk, fl_S_Journal, snapWs_app, fq_S_Write, fq_S_Disk, fq_S_Journal, snapE]; rfl)⟩
def G21 (a0 : S_Journal) (a1 : S_Disk) : Option (S_Journal × S_Disk × Int) := F21 fuel0 a0 a1
def Orc21 (C : Nat → List A → Option A) : Prop := ∀ (a0 : S_Journal) (a1 : S_Disk), C 21 [(A.agg (c_S_Journal a0)), (A.agg (c_S_Disk a1))] = (G21 a0 a1).map fun y => (A.tup [(A.agg [(A.imm (List.map (cL c8) y.1.Records) false), (iA y.1.Many), (iA y.1.Synced)]), (A.agg [(A.imm (List.map (cL c8) y.2.1.Sectors) false), (A.imm (List.map c_S_Write y.2.1.Pending) false), (iA y.2.1.Left), (bA y.2.1.Stopped)]), (iA y.2.2)])
def F19 (n : Nat) (a0 : S_Journal) : Option Int :=
  Option.bind (G17 a0) fun y1 => bif (y1 != 0) then (some 0) else (Option.bind (G36 a0.Records) fun y3 => some (wr .i64 (112 * (wr .i64 (a0.Many - y3)))))
theorem T19 (C : Nat → List A → Option A) (n : Nat) (h17 : Orc17 C) (h36 : Orc36 C) (a0 : S_Journal) : J (fun (o : R) y => ∃ v, o.1 = .ret v ∧ snapE o.2 v = (iA y)) (evCall1 (cx C) (evCall (cx C) (n+8)) (evCallY (cx C) (n+8)) (n+8) 19 [(A.agg (c_S_Journal a0))] [] 0) some (F19 n a0) some := by
  refine .lp (e19 ..) ?_
  unfold F19
  refine .s ((A.ptr 0 0), [Blk.box (c_S_Journal a0)]) (.s (A.agg (c_S_Journal a0)) ?_)
  refine .bd (g := fun (y : Int) => (iA y)) (by show C 17 [snap [Blk.box (c_S_Journal a0)] (A.agg (c_S_Journal a0))] = _; simp only [snap, snapW, snapWs, snapWss, snapWss_map, trim, List.map_cons, List.map_nil, fl_cI, fl_c8, fl_cB, fl_cS, fl_cL, fl_S_Write, fl_S_Disk, fl_S_Journal, snapWs_app, fq_S_Write, fq_S_Disk, fq_S_Journal]; exact h17 a0) fun y1 => ?_
  refine .st (v := (bA (y1 != 0))) (aBin_neq ..) ?_
  refine .biHN (fun hk2 => ?_) (fun hk2 => ?_)
  · exact .lf rfl rfl ⟨_, rfl, rfl⟩
  refine .s (A.ptr 0 1) (.s (iA a0.Many) (.s (A.ptr 0 0) (.s (A.imm (List.map (cL c8) a0.Records) false) ?_)))
  refine .bd (g := fun (y : Int) => (iA y)) (by show C 36 [snap [Blk.box (c_S_Journal a0)] (A.imm (List.map (cL c8) a0.Records) false)] = _; simp only [snap, snapW, snapWs, snapWss, snapWss_map, trim, List.map_cons, List.map_nil, fl_cI, fl_c8, fl_cB, fl_cS, fl_cL, fl_S_Write, fl_S_Disk, fl_S_Journal, snapWs_app, fq_S_Write, fq_S_Disk, fq_S_Journal]; exact h36 a0.Records) fun y3 => ?_
  refine .st (v := (iA (wr .i64 (a0.Many - y3)))) (aBin_sub ..) ?_
  refine .st (v := (iA (wr .i64 (112 * (wr .i64 (a0.Many - y3)))))) (aBin_mul ..) ?_
  exact .lf rfl rfl ⟨_, rfl, rfl⟩
def G19 (a0 : S_Journal) : Option Int := F19 fuel0 a0
def Orc19 (C : Nat → List A → Option A) : Prop := ∀ (a0 : S_Journal), C 19 [(A.agg (c_S_Journal a0))] = (G19 a0).map fun y => (iA y)
def F10 (n : Nat)  : Option Bool :=
  Option.bind (G25 1) fun y1 => Option.bind (G12 y1.1) fun y2 => Option.bind (mkI 1 113 ((0 : UInt8))) fun y3 => Option.bind (G15 y2.1 y3) fun y4 => Option.bind (G15 y2.1 ([(97 : UInt8), (98 : UInt8)])) fun y5 => Option.bind (G21 y5.1 y1.1) fun y6 => Option.bind (G12 y6.2.1) fun y7 => Option.bind (G21 y5.1 y6.2.1) fun y8 => Option.bind (bif (y1.2 == 0) then (some (y2.2 == 0)) else (some false)) fun y10 => Option.bind (bif y10 then (some (((y2.1.Records.length : Int)) == 0)) else (some false)) fun y14 => Option.bind (bif y14 then (Option.bind (G19 y2.1) fun y20 => some (y20 == 112)) else (some false)) fun y21 => Option.bind (bif y21 then (some (y4.2 == 2)) else (some false)) fun y26 => Option.bind (bif y26 then (some (y5.2 == 0)) else (some false)) fun y30 => Option.bind (bif y30 then (some (y6.2.2 == 0)) else (some false)) fun y34 => Option.bind (bif y34 then (some (y6.1.Synced == 1)) else (some false)) fun y38 => Option.bind (bif y38 then (some (y7.2 == 0)) else (some false)) fun y43 => Option.bind (bif y43 then (some (((y7.1.Records.length : Int)) == 1)) else (some false)) fun y47 => Option.bind (bif y47 then (Option.bind (getI y7.1.Records 0) fun y53 => some (strEq (bstr y53) ((ByteArray.mk #[97, 98])))) else (some false)) fun y54 => Option.bind (bif y54 then (some (y8.2.2 == 50)) else (some false)) fun y62 => Option.bind (bif y62 then (Option.bind (G17 ((S_Journal.mk ([]) 0 0))) fun y66 => some (y66 == 1)) else (some false)) fun y67 => some y67
theorem T10 (C : Nat → List A → Option A) (n : Nat) (h12 : Orc12 C) (h15 : Orc15 C) (h17 : Orc17 C) (h19 : Orc19 C) (h21 : Orc21 C) (h25 : Orc25 C) : J (fun (o : R) y => ∃ v, o.1 = .ret v ∧ snapE o.2 v = (bA y)) (evCall1 (cx C) (evCall (cx C) (n+8)) (evCallY (cx C) (n+8)) (n+8) 10 [] [] 0) some (F10 n ) some := by
  refine .lp (e10 ..) ?_
  unfold F10
  refine .bd (g := fun (y : (S_Disk × Int)) => (A.tup [(A.agg [(A.imm (List.map (cL c8) y.1.Sectors) false), (A.imm (List.map c_S_Write y.1.Pending) false), (iA y.1.Left), (bA y.1.Stopped)]), (iA y.2)])) (h25 1) fun y1 => ?_
  refine .s (A.agg (c_S_Disk y1.1)) (.s (iA y1.2) (.s ((A.ptr 0 0), [Blk.box [(A.imm [] true), (A.imm [] true), (iA 0), (bA false)]]) (.s [Blk.box (c_S_Disk y1.1)] (.s (A.agg (c_S_Disk y1.1)) ?_))))
  refine .bd (g := fun (y : (S_Journal × Int)) => (A.tup [(A.agg [(A.imm (List.map (cL c8) y.1.Records) false), (iA y.1.Many), (iA y.1.Synced)]), (iA y.2)])) (by show C 12 [snap [Blk.box (c_S_Disk y1.1)] (A.agg (c_S_Disk y1.1))] = _; simp only [snap, snapW, snapWs, snapWss, snapWss_map, trim, List.map_cons, List.map_nil, fl_cI, fl_c8, fl_cB, fl_cS, fl_cL, fl_S_Write, fl_S_Disk, fl_S_Journal, snapWs_app, fq_S_Write, fq_S_Disk, fq_S_Journal]; exact h12 y1.1) fun y2 => ?_
  refine .s (A.agg (c_S_Journal y2.1)) (.s (iA y2.2) (.s ((A.ptr 1 0), [Blk.box (c_S_Disk y1.1), Blk.box [(A.imm [] true), (iA 0), (iA 0)]]) (.s [Blk.box (c_S_Disk y1.1), Blk.box (c_S_Journal y2.1)] (.s ((A.ptr 2 0), [Blk.box (c_S_Disk y1.1), Blk.box (c_S_Journal y2.1), Blk.box [(A.imm [] true), (iA 0), (iA 0)]]) (.s (A.agg (c_S_Journal y2.1)) ?_)))))
  refine .cT (by kernel_rfl) ?_
  refine .bd (g := fun (y : List UInt8) => ((A.imm (List.map c8 y) false), [Blk.box (c_S_Disk y1.1), Blk.box (c_S_Journal y2.1), Blk.box [(A.imm [] true), (iA 0), (iA 0)]])) (wrow_makeI (e := 5) (es := 1) (f := c8) (z := (0 : UInt8)) (z' := [(uA 0)]) (by kernel_rfl) (by kernel_rfl) (by kernel_rfl) (by kernel_rfl) rfl (by decide) (fun _ => rfl)) fun y3 => ?_
  refine .bd (g := fun (y : (S_Journal × Int)) => (A.tup [(A.agg [(A.imm (List.map (cL c8) y.1.Records) false), (iA y.1.Many), (iA y.1.Synced)]), (iA y.2)])) (by show C 15 [snap [Blk.box (c_S_Disk y1.1), Blk.box (c_S_Journal y2.1), Blk.box [(A.imm [] true), (iA 0), (iA 0)]] (A.agg (c_S_Journal y2.1)), snap [Blk.box (c_S_Disk y1.1), Blk.box (c_S_Journal y2.1), Blk.box [(A.imm [] true), (iA 0), (iA 0)]] (A.imm (List.map c8 y3) false)] = _; simp only [snap, snapW, snapWs, snapWss, snapWss_map, trim, List.map_cons, List.map_nil, fl_cI, fl_c8, fl_cB, fl_cS, fl_cL, fl_S_Write, fl_S_Disk, fl_S_Journal, snapWs_app, fq_S_Write, fq_S_Disk, fq_S_Journal]; exact h15 y2.1 y3) fun y4 => ?_
  refine .s (A.agg (c_S_Journal y4.1)) (.s (iA y4.2) (.s [Blk.box (c_S_Disk y1.1), Blk.box (c_S_Journal y2.1), Blk.box (c_S_Journal y4.1)] (.s (A.agg (c_S_Journal y2.1)) (.s ((A.sl 3 0 2 true), [Blk.box (c_S_Disk y1.1), Blk.box (c_S_Journal y2.1), Blk.box (c_S_Journal y4.1), Blk.row true 1 [[(uA 97)], [(uA 98)]]]) (.s ((A.imm [[(uA 97)], [(uA 98)]] false), [Blk.box (c_S_Disk y1.1), Blk.box (c_S_Journal y2.1), Blk.box (c_S_Journal y4.1), Blk.dead]) ?_)))))
  refine .bd (g := fun (y : (S_Journal × Int)) => (A.tup [(A.agg [(A.imm (List.map (cL c8) y.1.Records) false), (iA y.1.Many), (iA y.1.Synced)]), (iA y.2)])) (by show C 15 [snap [Blk.box (c_S_Disk y1.1), Blk.box (c_S_Journal y2.1), Blk.box (c_S_Journal y4.1), Blk.dead] (A.agg (c_S_Journal y2.1)), snap [Blk.box (c_S_Disk y1.1), Blk.box (c_S_Journal y2.1), Blk.box (c_S_Journal y4.1), Blk.dead] (A.imm [[(uA 97)], [(uA 98)]] false)] = _; simp only [snap, snapW, snapWs, snapWss, snapWss_map, trim, List.map_cons, List.map_nil, fl_cI, fl_c8, fl_cB, fl_cS, fl_cL, fl_S_Write, fl_S_Disk, fl_S_Journal, snapWs_app, fq_S_Write, fq_S_Disk, fq_S_Journal]; exact h15 y2.1 ([(97 : UInt8), (98 : UInt8)])) fun y5 => ?_
  refine .s (A.agg (c_S_Journal y5.1)) (.s (iA y5.2) (.s ((A.ptr 4 0), [Blk.box (c_S_Disk y1.1), Blk.box (c_S_Journal y2.1), Blk.box (c_S_Journal y4.1), Blk.dead, Blk.box [(A.imm [] true), (iA 0), (iA 0)]]) (.s [Blk.box (c_S_Disk y1.1), Blk.box (c_S_Journal y2.1), Blk.box (c_S_Journal y4.1), Blk.dead, Blk.box (c_S_Journal y5.1)] (.s (A.agg (c_S_Journal y5.1)) (.s (A.agg (c_S_Disk y1.1)) ?_)))))
  refine .bd (g := fun (y : (S_Journal × S_Disk × Int)) => (A.tup [(A.agg [(A.imm (List.map (cL c8) y.1.Records) false), (iA y.1.Many), (iA y.1.Synced)]), (A.agg [(A.imm (List.map (cL c8) y.2.1.Sectors) false), (A.imm (List.map c_S_Write y.2.1.Pending) false), (iA y.2.1.Left), (bA y.2.1.Stopped)]), (iA y.2.2)])) (by show C 21 [snap [Blk.box (c_S_Disk y1.1), Blk.box (c_S_Journal y2.1), Blk.box (c_S_Journal y4.1), Blk.dead, Blk.box (c_S_Journal y5.1)] (A.agg (c_S_Journal y5.1)), snap [Blk.box (c_S_Disk y1.1), Blk.box (c_S_Journal y2.1), Blk.box (c_S_Journal y4.1), Blk.dead, Blk.box (c_S_Journal y5.1)] (A.agg (c_S_Disk y1.1))] = _; simp only [snap, snapW, snapWs, snapWss, snapWss_map, trim, List.map_cons, List.map_nil, fl_cI, fl_c8, fl_cB, fl_cS, fl_cL, fl_S_Write, fl_S_Disk, fl_S_Journal, snapWs_app, fq_S_Write, fq_S_Disk, fq_S_Journal]; exact h21 y5.1 y1.1) fun y6 => ?_
  refine .s (A.agg (c_S_Journal y6.1)) (.s (A.agg (c_S_Disk y6.2.1)) (.s (iA y6.2.2) (.s ((A.ptr 5 0), [Blk.box (c_S_Disk y1.1), Blk.box (c_S_Journal y2.1), Blk.box (c_S_Journal y4.1), Blk.dead, Blk.box (c_S_Journal y5.1), Blk.box [(A.imm [] true), (iA 0), (iA 0)]]) (.s ((A.ptr 6 0), [Blk.box (c_S_Disk y1.1), Blk.box (c_S_Journal y2.1), Blk.box (c_S_Journal y4.1), Blk.dead, Blk.box (c_S_Journal y5.1), Blk.box [(A.imm [] true), (iA 0), (iA 0)], Blk.box [(A.imm [] true), (A.imm [] true), (iA 0), (bA false)]]) (.s [Blk.box (c_S_Disk y1.1), Blk.box (c_S_Journal y2.1), Blk.box (c_S_Journal y4.1), Blk.dead, Blk.box (c_S_Journal y5.1), Blk.box (c_S_Journal y6.1), Blk.box [(A.imm [] true), (A.imm [] true), (iA 0), (bA false)]] (.s [Blk.box (c_S_Disk y1.1), Blk.box (c_S_Journal y2.1), Blk.box (c_S_Journal y4.1), Blk.dead, Blk.box (c_S_Journal y5.1), Blk.box (c_S_Journal y6.1), Blk.box (c_S_Disk y6.2.1)] (.s (A.agg (c_S_Disk y6.2.1)) ?_)))))))
  refine .bd (g := fun (y : (S_Journal × Int)) => (A.tup [(A.agg [(A.imm (List.map (cL c8) y.1.Records) false), (iA y.1.Many), (iA y.1.Synced)]), (iA y.2)])) (by show C 12 [snap [Blk.box (c_S_Disk y1.1), Blk.box (c_S_Journal y2.1), Blk.box (c_S_Journal y4.1), Blk.dead, Blk.box (c_S_Journal y5.1), Blk.box (c_S_Journal y6.1), Blk.box (c_S_Disk y6.2.1)] (A.agg (c_S_Disk y6.2.1))] = _; simp only [snap, snapW, snapWs, snapWss, snapWss_map, trim, List.map_cons, List.map_nil, fl_cI, fl_c8, fl_cB, fl_cS, fl_cL, fl_S_Write, fl_S_Disk, fl_S_Journal, snapWs_app, fq_S_Write, fq_S_Disk, fq_S_Journal]; exact h12 y6.2.1) fun y7 => ?_
  refine .s (A.agg (c_S_Journal y7.1)) (.s (iA y7.2) (.s ((A.ptr 7 0), [Blk.box (c_S_Disk y1.1), Blk.box (c_S_Journal y2.1), Blk.box (c_S_Journal y4.1), Blk.dead, Blk.box (c_S_Journal y5.1), Blk.box (c_S_Journal y6.1), Blk.box (c_S_Disk y6.2.1), Blk.box [(A.imm [] true), (iA 0), (iA 0)]]) (.s [Blk.box (c_S_Disk y1.1), Blk.box (c_S_Journal y2.1), Blk.box (c_S_Journal y4.1), Blk.dead, Blk.box (c_S_Journal y5.1), Blk.box (c_S_Journal y6.1), Blk.box (c_S_Disk y6.2.1), Blk.box (c_S_Journal y7.1)] (.s (A.agg (c_S_Journal y5.1)) (.s (A.agg (c_S_Disk y6.2.1)) ?_)))))
  refine .bd (g := fun (y : (S_Journal × S_Disk × Int)) => (A.tup [(A.agg [(A.imm (List.map (cL c8) y.1.Records) false), (iA y.1.Many), (iA y.1.Synced)]), (A.agg [(A.imm (List.map (cL c8) y.2.1.Sectors) false), (A.imm (List.map c_S_Write y.2.1.Pending) false), (iA y.2.1.Left), (bA y.2.1.Stopped)]), (iA y.2.2)])) (by show C 21 [snap [Blk.box (c_S_Disk y1.1), Blk.box (c_S_Journal y2.1), Blk.box (c_S_Journal y4.1), Blk.dead, Blk.box (c_S_Journal y5.1), Blk.box (c_S_Journal y6.1), Blk.box (c_S_Disk y6.2.1), Blk.box (c_S_Journal y7.1)] (A.agg (c_S_Journal y5.1)), snap [Blk.box (c_S_Disk y1.1), Blk.box (c_S_Journal y2.1), Blk.box (c_S_Journal y4.1), Blk.dead, Blk.box (c_S_Journal y5.1), Blk.box (c_S_Journal y6.1), Blk.box (c_S_Disk y6.2.1), Blk.box (c_S_Journal y7.1)] (A.agg (c_S_Disk y6.2.1))] = _; simp only [snap, snapW, snapWs, snapWss, snapWss_map, trim, List.map_cons, List.map_nil, fl_cI, fl_c8, fl_cB, fl_cS, fl_cL, fl_S_Write, fl_S_Disk, fl_S_Journal, snapWs_app, fq_S_Write, fq_S_Disk, fq_S_Journal]; exact h21 y5.1 y6.2.1) fun y8 => ?_
  refine .s (A.agg (c_S_Journal y8.1)) (.s (A.agg (c_S_Disk y8.2.1)) (.s (iA y8.2.2) (.s ((A.ptr 8 0), [Blk.box (c_S_Disk y1.1), Blk.box (c_S_Journal y2.1), Blk.box (c_S_Journal y4.1), Blk.dead, Blk.box (c_S_Journal y5.1), Blk.box (c_S_Journal y6.1), Blk.box (c_S_Disk y6.2.1), Blk.box (c_S_Journal y7.1), Blk.box [(A.imm [] true), (iA 0), (iA 0)]]) (.s ((A.ptr 9 0), [Blk.box (c_S_Disk y1.1), Blk.box (c_S_Journal y2.1), Blk.box (c_S_Journal y4.1), Blk.dead, Blk.box (c_S_Journal y5.1), Blk.box (c_S_Journal y6.1), Blk.box (c_S_Disk y6.2.1), Blk.box (c_S_Journal y7.1), Blk.box [(A.imm [] true), (iA 0), (iA 0)], Blk.box [(A.imm [] true), (A.imm [] true), (iA 0), (bA false)]]) (.s [Blk.box (c_S_Disk y1.1), Blk.box (c_S_Journal y2.1), Blk.box (c_S_Journal y4.1), Blk.dead, Blk.box (c_S_Journal y5.1), Blk.box (c_S_Journal y6.1), Blk.box (c_S_Disk y6.2.1), Blk.box (c_S_Journal y7.1), Blk.box (c_S_Journal y8.1), Blk.box [(A.imm [] true), (A.imm [] true), (iA 0), (bA false)]] (.s [Blk.box (c_S_Disk y1.1), Blk.box (c_S_Journal y2.1), Blk.box (c_S_Journal y4.1), Blk.dead, Blk.box (c_S_Journal y5.1), Blk.box (c_S_Journal y6.1), Blk.box (c_S_Disk y6.2.1), Blk.box (c_S_Journal y7.1), Blk.box (c_S_Journal y8.1), Blk.box (c_S_Disk y8.2.1)] ?_))))))
  refine .st (v := (bA (y1.2 == 0))) (aBin_eql ..) ?_
  refine .bg (fun t (y : Bool) => ∃ j11 j12 : A, t = [(bA y), j11, j12]) ?_ ?_
  · refine .biH (fun hk9 => ?_) (fun hk9 => ?_)
    · refine .st (v := (bA (y2.2 == 0))) (aBin_eql ..) ?_
      exact .lg ⟨_, _, rfl⟩
    exact .lg ⟨_, _, rfl⟩
  rintro _ y10 ⟨j11, j12, rfl⟩
  iterate 3 refine .uc ?_
  refine .bg (fun t (y : Bool) => ∃ j15 j16 j17 j18 : A, t = [(bA y), j15, j16, j17, j18]) ?_ ?_
  · refine .biH (fun hk13 => ?_) (fun hk13 => ?_)
    · refine .s (A.ptr 1 0) (.s (A.imm (List.map (cL c8) y2.1.Records) false) ?_)
      refine .st (v := (iA ((y2.1.Records.length : Int)))) (len_imm (e := 35) (h1 := by kernel_rfl) ..) ?_
      refine .st (v := (bA (((y2.1.Records.length : Int)) == 0))) (aBin_eql ..) ?_
      exact .lg ⟨_, _, _, _, rfl⟩
    exact .lg ⟨_, _, _, _, rfl⟩
  rintro _ y14 ⟨j15, j16, j17, j18, rfl⟩
  iterate 5 refine .uc ?_
  refine .bg (fun t (y : Bool) => ∃ j22 j23 j24 : A, t = [(bA y), j22, j23, j24]) ?_ ?_
  · refine .biH (fun hk19 => ?_) (fun hk19 => ?_)
    · refine .s (A.agg (c_S_Journal y2.1)) ?_
      refine .bd (g := fun (y : Int) => (iA y)) (by show C 19 [snap [Blk.box (c_S_Disk y1.1), Blk.box (c_S_Journal y2.1), Blk.box (c_S_Journal y4.1), Blk.dead, Blk.box (c_S_Journal y5.1), Blk.box (c_S_Journal y6.1), Blk.box (c_S_Disk y6.2.1), Blk.box (c_S_Journal y7.1), Blk.box (c_S_Journal y8.1), Blk.box (c_S_Disk y8.2.1)] (A.agg (c_S_Journal y2.1))] = _; simp only [snap, snapW, snapWs, snapWss, snapWss_map, trim, List.map_cons, List.map_nil, fl_cI, fl_c8, fl_cB, fl_cS, fl_cL, fl_S_Write, fl_S_Disk, fl_S_Journal, snapWs_app, fq_S_Write, fq_S_Disk, fq_S_Journal]; exact h19 y2.1) fun y20 => ?_
      refine .st (v := (bA (y20 == 112))) (aBin_eql ..) ?_
      exact .lg ⟨_, _, _, rfl⟩
    exact .lg ⟨_, _, _, rfl⟩
  rintro _ y21 ⟨j22, j23, j24, rfl⟩
  iterate 4 refine .uc ?_
  refine .bg (fun t (y : Bool) => ∃ j27 j28 : A, t = [(bA y), j27, j28]) ?_ ?_
  · refine .biH (fun hk25 => ?_) (fun hk25 => ?_)
    · refine .st (v := (bA (y4.2 == 2))) (aBin_eql ..) ?_
      exact .lg ⟨_, _, rfl⟩
    exact .lg ⟨_, _, rfl⟩
  rintro _ y26 ⟨j27, j28, rfl⟩
  iterate 3 refine .uc ?_
  refine .bg (fun t (y : Bool) => ∃ j31 j32 : A, t = [(bA y), j31, j32]) ?_ ?_
  · refine .biH (fun hk29 => ?_) (fun hk29 => ?_)
    · refine .st (v := (bA (y5.2 == 0))) (aBin_eql ..) ?_
      exact .lg ⟨_, _, rfl⟩
    exact .lg ⟨_, _, rfl⟩
  rintro _ y30 ⟨j31, j32, rfl⟩
  iterate 3 refine .uc ?_
  refine .bg (fun t (y : Bool) => ∃ j35 j36 : A, t = [(bA y), j35, j36]) ?_ ?_
  · refine .biH (fun hk33 => ?_) (fun hk33 => ?_)
    · refine .st (v := (bA (y6.2.2 == 0))) (aBin_eql ..) ?_
      exact .lg ⟨_, _, rfl⟩
    exact .lg ⟨_, _, rfl⟩
  rintro _ y34 ⟨j35, j36, rfl⟩
  iterate 3 refine .uc ?_
  refine .bg (fun t (y : Bool) => ∃ j39 j40 j41 : A, t = [(bA y), j39, j40, j41]) ?_ ?_
  · refine .biH (fun hk37 => ?_) (fun hk37 => ?_)
    · refine .s (A.ptr 5 2) (.s (iA y6.1.Synced) ?_)
      refine .st (v := (bA (y6.1.Synced == 1))) (aBin_eql ..) ?_
      exact .lg ⟨_, _, _, rfl⟩
    exact .lg ⟨_, _, _, rfl⟩
  rintro _ y38 ⟨j39, j40, j41, rfl⟩
  iterate 4 refine .uc ?_
  refine .bg (fun t (y : Bool) => ∃ j44 j45 : A, t = [(bA y), j44, j45]) ?_ ?_
  · refine .biH (fun hk42 => ?_) (fun hk42 => ?_)
    · refine .st (v := (bA (y7.2 == 0))) (aBin_eql ..) ?_
      exact .lg ⟨_, _, rfl⟩
    exact .lg ⟨_, _, rfl⟩
  rintro _ y43 ⟨j44, j45, rfl⟩
  iterate 3 refine .uc ?_
  refine .bg (fun t (y : Bool) => ∃ j48 j49 j50 j51 : A, t = [(bA y), j48, j49, j50, j51]) ?_ ?_
  · refine .biH (fun hk46 => ?_) (fun hk46 => ?_)
    · refine .s (A.ptr 7 0) (.s (A.imm (List.map (cL c8) y7.1.Records) false) ?_)
      refine .st (v := (iA ((y7.1.Records.length : Int)))) (len_imm (e := 35) (h1 := by kernel_rfl) ..) ?_
      refine .st (v := (bA (((y7.1.Records.length : Int)) == 1))) (aBin_eql ..) ?_
      exact .lg ⟨_, _, _, _, rfl⟩
    exact .lg ⟨_, _, _, _, rfl⟩
  rintro _ y47 ⟨j48, j49, j50, j51, rfl⟩
  iterate 5 refine .uc ?_
  refine .bg (fun t (y : Bool) => ∃ j55 j56 j57 j58 j59 j60 : A, t = [(bA y), j55, j56, j57, j58, j59, j60]) ?_ ?_
  · refine .biH (fun hk52 => ?_) (fun hk52 => ?_)
    · refine .s (A.ptr 7 0) (.s (A.imm (List.map (cL c8) y7.1.Records) false) ?_)
      refine .bd (g := fun (y : (List UInt8)) => A.ip ((cL c8) y)) (idx_imm (e := 35) (es := 1) (h1 := by kernel_rfl) (h2 := by kernel_rfl) (h3 := fun _ => rfl) ..) fun y53 => ?_
      refine .s (A.imm (List.map c8 y53) false) ?_
      refine .st (v := (A.v (Value.string (bstr y53)))) (conv_bs (e := 5) (l := y53) (by kernel_rfl) (by kernel_rfl) (by kernel_rfl) (by kernel_rfl) (els_imm ..) rfl) ?_
      refine .st (v := (bA (strEq (bstr y53) ((ByteArray.mk #[97, 98]))))) (aBin_eql_s ..) ?_
      exact .lg ⟨_, _, _, _, _, _, rfl⟩
    exact .lg ⟨_, _, _, _, _, _, rfl⟩
  rintro _ y54 ⟨j55, j56, j57, j58, j59, j60, rfl⟩
  iterate 7 refine .uc ?_
  refine .bg (fun t (y : Bool) => ∃ j63 j64 : A, t = [(bA y), j63, j64]) ?_ ?_
  · refine .biH (fun hk61 => ?_) (fun hk61 => ?_)
    · refine .st (v := (bA (y8.2.2 == 50))) (aBin_eql ..) ?_
      exact .lg ⟨_, _, rfl⟩
    exact .lg ⟨_, _, rfl⟩
  rintro _ y62 ⟨j63, j64, rfl⟩
  iterate 3 refine .uc ?_
  refine .bg (fun t (y : Bool) => ∃ j68 j69 j70 : A, t = [(bA y), j68, j69, j70]) ?_ ?_
  · refine .biH (fun hk65 => ?_) (fun hk65 => ?_)
    · refine .s (A.agg [(A.imm [] true), (iA 0), (iA 0)]) ?_
      refine .bd (g := fun (y : Int) => (iA y)) (by show C 17 [snap [Blk.box (c_S_Disk y1.1), Blk.box (c_S_Journal y2.1), Blk.box (c_S_Journal y4.1), Blk.dead, Blk.box (c_S_Journal y5.1), Blk.box (c_S_Journal y6.1), Blk.box (c_S_Disk y6.2.1), Blk.box (c_S_Journal y7.1), Blk.box (c_S_Journal y8.1), Blk.box (c_S_Disk y8.2.1)] (A.agg [(A.imm [] true), (iA 0), (iA 0)])] = _; simp only [snap, snapW, snapWs, snapWss, snapWss_map, trim, List.map_cons, List.map_nil, fl_cI, fl_c8, fl_cB, fl_cS, fl_cL, fl_S_Write, fl_S_Disk, fl_S_Journal, snapWs_app, fq_S_Write, fq_S_Disk, fq_S_Journal]; exact h17 ((S_Journal.mk ([]) 0 0))) fun y66 => ?_
      refine .st (v := (bA (y66 == 1))) (aBin_eql ..) ?_
      exact .lg ⟨_, _, _, rfl⟩
    exact .lg ⟨_, _, _, rfl⟩
  rintro _ y67 ⟨j68, j69, j70, rfl⟩
  iterate 4 refine .uc ?_
  exact .lf rfl rfl ⟨_, rfl, rfl⟩
def G10  : Option Bool := F10 fuel0
def Orc10 (C : Nat → List A → Option A) : Prop := ∀ (_ : Unit), C 10 [] = (G10 ).map fun y => (bA y)
def F11_11_0 (n : Nat) (v1 : Bool) (v3 : (List (List UInt8))) (v4 : Int) (v6 : S_Disk) : Nat → Int → Int → Option (Int)
  | 0, _, _ => none
  | m + 1, v2, v5 => bif (decide (v5 < v4)) then (Option.bind (getI v3 v5) fun y8 => F11_11_0 n v1 v3 v4 v6 m (wr .i64 (v2 + (wr .i64 (1 + ((y8.length : Int)))))) (wr .i64 (v5 + 1))) else (some v2)
theorem T11_11_0 (C : Nat → List A → Option A) (n : Nat) (v1 : Bool) (v3 : (List (List UInt8))) (v4 : Int) (v6 : S_Disk) {ρ γ : Type} {φ : ρ → γ → Prop} {kL : R → Option ρ} {K : (Int) → Option γ} (kx kg : Nat → St → Option R) (kr : St → Option R) (kp : A → St → Option R) (x0 : ∀ (o0 : Int) (s4 : A) (s8 : A) (s9 : A) (s10 : A), J φ (kx 0 (St.mk [(2, (A.ptr 0 0)), (4, s4), (5, (iA o0)), (8, s8), (9, s9), (10, s10)] [Blk.box (c_S_Disk v6)])) kL (K o0) some) :
    ∀ (m : Nat) (v2 : Int) (v5 : Int), J φ (loopR (cx C) (evCall (cx C) (n+8)) (evCallY (cx C) (n+8)) (n+8) 11 0 0 1 kx kg kr kp m (St.mk [(2, (A.ptr 0 0)), (4, (bA v1)), (5, (iA v2)), (8, (A.imm (List.map (cL c8) v3) false)), (9, (iA v4)), (10, (iA v5))] [Blk.box (c_S_Disk v6)])) kL (F11_11_0 n v1 v3 v4 v6 m v2 v5) K := by
  intro m
  induction m with
  | zero => intros; exact .nn
  | succ m ih =>
    intro v2 v5
    refine .lp (e11_0 ..) ?_
    unfold F11_11_0
    refine .st (v := (bA (decide (v5 < v4)))) (aBin_lss ..) ?_
    refine .biHN (fun hk7 => ?_) (fun hk7 => ?_)
    · refine .bd (g := fun (y : (List UInt8)) => A.ip ((cL c8) y)) (idx_imm (e := 35) (es := 1) (h1 := by kernel_rfl) (h2 := by kernel_rfl) (h3 := fun _ => rfl) ..) fun y8 => ?_
      refine .s (A.imm (List.map c8 y8) false) ?_
      refine .st (v := (iA ((y8.length : Int)))) (len_imm (e := 5) (h1 := by kernel_rfl) ..) ?_
      refine .st (v := (iA (wr .i64 (1 + ((y8.length : Int)))))) (aBin_add ..) ?_
      refine .st (v := (iA (wr .i64 (v2 + (wr .i64 (1 + ((y8.length : Int)))))))) (aBin_add ..) ?_
      refine .st (v := (iA (wr .i64 (v5 + 1)))) (aBin_add ..) ?_
      refine .s [Blk.box (c_S_Disk v6)] ?_
      refine .cT (by kernel_rfl) ?_
      exact ih _ _
    exact .ex (x0 _ _ _ _ _)
def F11 (n : Nat) (a0 : S_Disk) (a1 : (List (List UInt8))) : Option Bool :=
  Option.bind (F11_11_0 n false a1 ((a1.length : Int)) a0 (n+8) 0 0) fun o9 => match o9 with | y10 => Option.bind (bif (decide (((a0.Sectors.length : Int)) ≤ 40)) then (some (decide (((a0.Pending.length : Int)) ≤ 40))) else (some false)) fun y16 => Option.bind (bif y16 then (some (decide (y10 ≤ 4000))) else (some false)) fun y22 => some y22
theorem T11 (C : Nat → List A → Option A) (n : Nat) (a0 : S_Disk) (a1 : (List (List UInt8))) : J (fun (o : R) y => ∃ v, o.1 = .ret v ∧ snapE o.2 v = (bA y)) (evCall1 (cx C) (evCall (cx C) (n+8)) (evCallY (cx C) (n+8)) (n+8) 11 [(A.agg (c_S_Disk a0)), (A.imm (List.map (cL c8) a1) false)] [] 0) some (F11 n a0 a1) some := by
  refine .lp (e11 ..) ?_
  unfold F11
  refine .s ((A.ptr 0 0), [Blk.box (c_S_Disk a0)]) ?_
  refine .st (v := (iA ((a1.length : Int)))) (len_imm (e := 35) (h1 := by kernel_rfl) ..) ?_
  refine .as (T11_11_0 C n  false a1 ((a1.length : Int)) a0 _ _ _ _ ?_ _ 0 0)
  · intro y10 j11 j12 j13 j14
    refine .un rfl ?_
    refine .cT (by kernel_rfl) ?_
    refine .s (A.ptr 0 0) (.s (A.imm (List.map (cL c8) a0.Sectors) false) ?_)
    refine .st (v := (iA ((a0.Sectors.length : Int)))) (len_imm (e := 35) (h1 := by kernel_rfl) ..) ?_
    refine .st (v := (bA (decide (((a0.Sectors.length : Int)) ≤ 40)))) (aBin_leq ..) ?_
    refine .bg (fun t (y : Bool) => ∃ j17 j18 j19 j20 : A, t = [(bA y), j17, j18, j19, j20]) ?_ ?_
    · refine .biH (fun hk15 => ?_) (fun hk15 => ?_)
      · refine .s (A.ptr 0 1) (.s (A.imm (List.map c_S_Write a0.Pending) false) ?_)
        refine .st (v := (iA ((a0.Pending.length : Int)))) (len_imm (e := 76) (h1 := by kernel_rfl) ..) ?_
        refine .st (v := (bA (decide (((a0.Pending.length : Int)) ≤ 40)))) (aBin_leq ..) ?_
        exact .lg ⟨_, _, _, _, rfl⟩
      exact .lg ⟨_, _, _, _, rfl⟩
    rintro _ y16 ⟨j17, j18, j19, j20, rfl⟩
    iterate 5 refine .uc ?_
    refine .bg (fun t (y : Bool) => ∃ j23 j24 : A, t = [(bA y), j23, j24]) ?_ ?_
    · refine .biH (fun hk21 => ?_) (fun hk21 => ?_)
      · refine .st (v := (bA (decide (y10 ≤ 4000)))) (aBin_leq ..) ?_
        exact .lg ⟨_, _, rfl⟩
      exact .lg ⟨_, _, rfl⟩
    rintro _ y22 ⟨j23, j24, rfl⟩
    iterate 3 refine .uc ?_
    exact .lf rfl rfl ⟨_, rfl, rfl⟩
def G11 (a0 : S_Disk) (a1 : (List (List UInt8))) : Option Bool := F11 fuel0 a0 a1
def Orc11 (C : Nat → List A → Option A) : Prop := ∀ (a0 : S_Disk) (a1 : (List (List UInt8))), C 11 [(A.agg (c_S_Disk a0)), (A.imm (List.map (cL c8) a1) false)] = (G11 a0 a1).map fun y => (bA y)
def F33_33_0 (n : Nat) (v22 : Int) (v23 : Int) (v25 : S_Disk) : Nat → Int → Option ((Int) ⊕ (Unit))
  | 0, _ => none
  | m + 1, v24 => bif (decide (v24 < v23)) then (Option.bind (getI v25.Sectors v24) fun y27 => bif (((y27.length : Int)) != 128) then (some ((Sum.inl 40))) else (F33_33_0 n v22 v23 v25 m (wr .i64 (v24 + 1)))) else (some ((Sum.inr (()))))
theorem T33_33_0 (C : Nat → List A → Option A) (n : Nat) (v22 : Int) (v23 : Int) (v25 : S_Disk) {ρ γ : Type} {φ : ρ → γ → Prop} {kL : R → Option ρ} {K : ((Int) ⊕ (Unit)) → Option γ} (kx kg : Nat → St → Option R) (kr : St → Option R) (kp : A → St → Option R) (x0 : ∀ (o0 : Int) (s1 : A) (s3 : A) (s4 : A), J φ (kr (St.mk [(1, s1), (2, (iA o0)), (3, s3), (4, s4)] [Blk.box (c_S_Disk v25)])) kL (K (Sum.inl o0)) some) (x1 : ∀ (s4 : A), J φ (kx 0 (St.mk [(1, (A.ptr 0 0)), (2, (iA v22)), (3, (iA v23)), (4, s4)] [Blk.box (c_S_Disk v25)])) kL (K (Sum.inr (()))) some) :
    ∀ (m : Nat) (v24 : Int), J φ (loopR (cx C) (evCall (cx C) (n+8)) (evCallY (cx C) (n+8)) (n+8) 33 0 0 1 kx kg kr kp m (St.mk [(1, (A.ptr 0 0)), (2, (iA v22)), (3, (iA v23)), (4, (iA v24))] [Blk.box (c_S_Disk v25)])) kL (F33_33_0 n v22 v23 v25 m v24) K := by
  intro m
  induction m with
  | zero => intros; exact .nn
  | succ m ih =>
    intro v24
    refine .lp (e33_0 ..) ?_
    unfold F33_33_0
    refine .st (v := (bA (decide (v24 < v23)))) (aBin_lss ..) ?_
    refine .biHN (fun hk26 => ?_) (fun hk26 => ?_)
    · refine .s (A.ptr 0 0) (.s (A.imm (List.map (cL c8) v25.Sectors) false) ?_)
      refine .bd (g := fun (y : (List UInt8)) => A.ip ((cL c8) y)) (idx_imm (e := 35) (es := 1) (h1 := by kernel_rfl) (h2 := by kernel_rfl) (h3 := fun _ => rfl) ..) fun y27 => ?_
      refine .s (A.imm (List.map c8 y27) false) ?_
      refine .st (v := (iA ((y27.length : Int)))) (len_imm (e := 5) (h1 := by kernel_rfl) ..) ?_
      refine .st (v := (bA (((y27.length : Int)) != 128))) (aBin_neq ..) ?_
      refine .biHN (fun hk28 => ?_) (fun hk28 => ?_)
      · exact .ex (x0 _ _ _ _)
      refine .st (v := (iA (wr .i64 (v24 + 1)))) (aBin_add ..) ?_
      refine .s [Blk.box (c_S_Disk v25)] ?_
      refine .cT (by kernel_rfl) ?_
      exact ih _
    exact .ex (x1 _)
def F33_33_1 (n : Nat) (v35 : Int) (v36 : Int) (v38 : S_Disk) : Nat → Int → Option ((Int × Int × (List UInt8)) ⊕ (Unit))
  | 0, _ => none
  | m + 1, v37 => bif (decide (v37 < ((v38.Pending.length : Int)))) then (Option.bind (getI v38.Pending v37) fun y40 => Option.bind (bif (decide (y40.At < 0)) then (some true) else (some (decide (v36 ≤ y40.At)))) fun y42 => Option.bind (bif y42 then (some true) else (some (((y40.Data.length : Int)) != 128))) fun y48 => bif y48 then (some ((Sum.inl ((40, y40.At, y40.Data))))) else (F33_33_1 n v35 v36 v38 m (wr .i64 (v37 + 1)))) else (some ((Sum.inr (()))))
theorem T33_33_1 (C : Nat → List A → Option A) (n : Nat) (v35 : Int) (v36 : Int) (v38 : S_Disk) {ρ γ : Type} {φ : ρ → γ → Prop} {kL : R → Option ρ} {K : ((Int × Int × (List UInt8)) ⊕ (Unit)) → Option γ} (kx kg : Nat → St → Option R) (kr : St → Option R) (kp : A → St → Option R) (x0 : ∀ (o0 : Int) (o1 : Int) (o2 : (List UInt8)) (s1 : A) (s3 : A) (s5 : A), J φ (kr (St.mk [(1, s1), (2, (iA o0)), (3, s3), (5, s5)] [Blk.box (c_S_Disk v38), Blk.box [(iA o1), (A.imm (List.map c8 o2) false)]])) kL (K (Sum.inl ((o0, o1, o2)))) some) (x1 : ∀ (s1 : A) (s2 : A) (s3 : A) (s5 : A), J φ (kx 2 (St.mk [(1, s1), (2, s2), (3, s3), (5, s5)] [Blk.box (c_S_Disk v38)])) kL (K (Sum.inr (()))) some) :
    ∀ (m : Nat) (v37 : Int), J φ (loopR (cx C) (evCall (cx C) (n+8)) (evCallY (cx C) (n+8)) (n+8) 33 0 1 1 kx kg kr kp m (St.mk [(1, (A.ptr 0 0)), (2, (iA v35)), (3, (iA v36)), (5, (iA v37))] [Blk.box (c_S_Disk v38)])) kL (F33_33_1 n v35 v36 v38 m v37) K := by
  intro m
  induction m with
  | zero => intros; exact .nn
  | succ m ih =>
    intro v37
    refine .lp (e33_1 ..) ?_
    unfold F33_33_1
    refine .s (A.ptr 0 1) (.s (A.imm (List.map c_S_Write v38.Pending) false) ?_)
    refine .st (v := (iA ((v38.Pending.length : Int)))) (len_imm (e := 76) (h1 := by kernel_rfl) ..) ?_
    refine .st (v := (bA (decide (v37 < ((v38.Pending.length : Int)))))) (aBin_lss ..) ?_
    refine .biHN (fun hk39 => ?_) (fun hk39 => ?_)
    · refine .s (A.ptr 0 1) (.s (A.imm (List.map c_S_Write v38.Pending) false) ?_)
      refine .bd (g := fun (y : S_Write) => A.ip (c_S_Write y)) (idx_imm (e := 76) (es := 2) (h1 := by kernel_rfl) (h2 := by kernel_rfl) (h3 := fun _ => rfl) ..) fun y40 => ?_
      refine .s (A.agg [(iA y40.At), (A.imm (List.map c8 y40.Data) false)]) (.s ((A.ptr 1 0), [Blk.box (c_S_Disk v38), Blk.box [(iA 0), (A.imm [] true)]]) (.s [Blk.box (c_S_Disk v38), Blk.box [(iA y40.At), (A.imm (List.map c8 y40.Data) false)]] (.s (A.ptr 1 0) (.s (iA y40.At) ?_))))
      refine .st (v := (bA (decide (y40.At < 0)))) (aBin_lss ..) ?_
      refine .bg (fun t (y : Bool) => ∃ j43 j44 j45 j46 : A, t = [(bA y), j43, j44, j45, j46]) ?_ ?_
      · refine .biH (fun hk41 => ?_) (fun hk41 => ?_)
        · exact .lg ⟨_, _, _, _, rfl⟩
        refine .s (A.ptr 1 0) (.s (iA y40.At) ?_)
        refine .st (v := (bA (decide (v36 ≤ y40.At)))) (aBin_geq ..) ?_
        exact .lg ⟨_, _, _, _, rfl⟩
      rintro _ y42 ⟨j43, j44, j45, j46, rfl⟩
      iterate 5 refine .uc ?_
      refine .bg (fun t (y : Bool) => ∃ j49 j50 j51 j52 : A, t = [(bA y), j49, j50, j51, j52]) ?_ ?_
      · refine .biH (fun hk47 => ?_) (fun hk47 => ?_)
        · exact .lg ⟨_, _, _, _, rfl⟩
        refine .s (A.ptr 1 1) (.s (A.imm (List.map c8 y40.Data) false) ?_)
        refine .st (v := (iA ((y40.Data.length : Int)))) (len_imm (e := 5) (h1 := by kernel_rfl) ..) ?_
        refine .st (v := (bA (((y40.Data.length : Int)) != 128))) (aBin_neq ..) ?_
        exact .lg ⟨_, _, _, _, rfl⟩
      rintro _ y48 ⟨j49, j50, j51, j52, rfl⟩
      iterate 5 refine .uc ?_
      refine .biHN (fun hk53 => ?_) (fun hk53 => ?_)
      · exact .ex (x0 _ _ _ _ _ _)
      refine .st (v := (iA (wr .i64 (v37 + 1)))) (aBin_add ..) ?_
      refine .st (v := [Blk.box (c_S_Disk v38)]) ((by kernel_rfl : _ = (bif ((((underss 1 (List.map (cL c8) v38.Sectors)) && ((underss 1 (List.map c_S_Write v38.Pending)) && true))) && true) then some [Blk.box (c_S_Disk v38)] else none)).trans (by simp only [under_selF, underss_map, fu_cI, fu_c8, fu_cB, fu_cS, fu_cL, unders_app, fu_S_Write, fuq_S_Write, fu_S_Disk, fuq_S_Disk, fu_S_Journal, fuq_S_Journal,  Bool.and_true, Bool.true_and, cond_true])) ?_
      refine .cT (by kernel_rfl) ?_
      exact ih _
    exact .ex (x1 _ _ _ _)
def F33 (n : Nat) (a0 : S_Disk) : Option Int :=
  Option.bind (bif (decide (((a0.Sectors.length : Int)) < 1)) then (some true) else (some (decide (4096 < ((a0.Sectors.length : Int)))))) fun y2 => Option.bind (bif y2 then (some true) else (some (decide (4096 < ((a0.Pending.length : Int)))))) fun y6 => Option.bind (bif y6 then (some true) else (some (decide (a0.Left < (-1))))) fun y12 => Option.bind (bif y12 then (some true) else (some (decide (65536 < a0.Left)))) fun y17 => bif y17 then (some 40) else (Option.bind (F33_33_0 n 0 ((a0.Sectors.length : Int)) a0 (n+8) 0) fun o29 => match o29 with | (Sum.inl y30) => some y30 | (Sum.inr _) => Option.bind (F33_33_1 n 0 ((a0.Sectors.length : Int)) a0 (n+8) 0) fun o54 => match o54 with | (Sum.inl ((y55, y56, y57))) => some y55 | (Sum.inr _) => some 0)
theorem T33 (C : Nat → List A → Option A) (n : Nat) (a0 : S_Disk) : J (fun (o : R) y => ∃ v, o.1 = .ret v ∧ snapE o.2 v = (iA y)) (evCall1 (cx C) (evCall (cx C) (n+8)) (evCallY (cx C) (n+8)) (n+8) 33 [(A.agg (c_S_Disk a0))] [] 0) some (F33 n a0) some := by
  refine .lp (e33 ..) ?_
  unfold F33
  refine .s ((A.ptr 0 0), [Blk.box (c_S_Disk a0)]) (.s (A.ptr 0 0) (.s (A.imm (List.map (cL c8) a0.Sectors) false) ?_))
  refine .st (v := (iA ((a0.Sectors.length : Int)))) (len_imm (e := 35) (h1 := by kernel_rfl) ..) ?_
  refine .st (v := (bA (decide (((a0.Sectors.length : Int)) < 1)))) (aBin_lss ..) ?_
  refine .bg (fun t (y : Bool) => ∃ j3 j4 : A, t = [(bA y), j3, j4]) ?_ ?_
  · refine .biH (fun hk1 => ?_) (fun hk1 => ?_)
    · exact .lg ⟨_, _, rfl⟩
    refine .st (v := (bA (decide (4096 < ((a0.Sectors.length : Int)))))) (aBin_gtr ..) ?_
    exact .lg ⟨_, _, rfl⟩
  rintro _ y2 ⟨j3, j4, rfl⟩
  iterate 3 refine .uc ?_
  refine .bg (fun t (y : Bool) => ∃ j7 j8 j9 j10 : A, t = [(bA y), j7, j8, j9, j10]) ?_ ?_
  · refine .biH (fun hk5 => ?_) (fun hk5 => ?_)
    · exact .lg ⟨_, _, _, _, rfl⟩
    refine .s (A.ptr 0 1) (.s (A.imm (List.map c_S_Write a0.Pending) false) ?_)
    refine .st (v := (iA ((a0.Pending.length : Int)))) (len_imm (e := 76) (h1 := by kernel_rfl) ..) ?_
    refine .st (v := (bA (decide (4096 < ((a0.Pending.length : Int)))))) (aBin_gtr ..) ?_
    exact .lg ⟨_, _, _, _, rfl⟩
  rintro _ y6 ⟨j7, j8, j9, j10, rfl⟩
  iterate 5 refine .uc ?_
  refine .bg (fun t (y : Bool) => ∃ j13 j14 j15 : A, t = [(bA y), j13, j14, j15]) ?_ ?_
  · refine .biH (fun hk11 => ?_) (fun hk11 => ?_)
    · exact .lg ⟨_, _, _, rfl⟩
    refine .s (A.ptr 0 2) (.s (iA a0.Left) ?_)
    refine .st (v := (bA (decide (a0.Left < (-1))))) (aBin_lss ..) ?_
    exact .lg ⟨_, _, _, rfl⟩
  rintro _ y12 ⟨j13, j14, j15, rfl⟩
  iterate 4 refine .uc ?_
  refine .bg (fun t (y : Bool) => ∃ j18 j19 j20 : A, t = [(bA y), j18, j19, j20]) ?_ ?_
  · refine .biH (fun hk16 => ?_) (fun hk16 => ?_)
    · exact .lg ⟨_, _, _, rfl⟩
    refine .s (A.ptr 0 2) (.s (iA a0.Left) ?_)
    refine .st (v := (bA (decide (65536 < a0.Left)))) (aBin_gtr ..) ?_
    exact .lg ⟨_, _, _, rfl⟩
  rintro _ y17 ⟨j18, j19, j20, rfl⟩
  iterate 4 refine .uc ?_
  refine .biHN (fun hk21 => ?_) (fun hk21 => ?_)
  · exact .lf rfl rfl ⟨_, rfl, rfl⟩
  refine .as (T33_33_0 C n  0 ((a0.Sectors.length : Int)) a0 _ _ _ _ ?_ ?_ _ 0)
  · intro y30 j31 j32 j33
    refine .un rfl ?_
    exact .lf rfl rfl ⟨_, rfl, rfl⟩
  · intro j34
    refine .un rfl ?_
    refine .cT (by kernel_rfl) ?_
    refine .as (T33_33_1 C n  0 ((a0.Sectors.length : Int)) a0 _ _ _ _ ?_ ?_ _ 0)
    · intro y55 y56 y57 j58 j59 j60
      refine .un rfl ?_
      exact .lf rfl rfl ⟨_, rfl, rfl⟩
    · intro j61 j62 j63 j64
      refine .un rfl ?_
      refine .cT (by kernel_rfl) ?_
      exact .lf rfl rfl ⟨_, rfl, rfl⟩
def G33 (a0 : S_Disk) : Option Int := F33 fuel0 a0
def Orc33 (C : Nat → List A → Option A) : Prop := ∀ (a0 : S_Disk), C 33 [(A.agg (c_S_Disk a0))] = (G33 a0).map fun y => (iA y)
def F63_63_0 (n : Nat) (v1 : (List UInt8)) (v2 : Int) : Nat → Int → Int → Option (Int)
  | 0, _, _ => none
  | m + 1, v3, v4 => bif (decide (v4 < ((v1.length : Int)))) then (Option.bind (getI v1 v4) fun y6 => F63_63_0 n v1 v2 m (wr .u64 ((wr .u64 (256 * v3)) + (wr .u64 ((y6.toNat : Int))))) (wr .i64 (v4 + 1))) else (some v3)
theorem T63_63_0 (C : Nat → List A → Option A) (n : Nat) (v1 : (List UInt8)) (v2 : Int) {ρ γ : Type} {φ : ρ → γ → Prop} {kL : R → Option ρ} {K : (Int) → Option γ} (kx kg : Nat → St → Option R) (kr : St → Option R) (kp : A → St → Option R) (x0 : ∀ (o0 : Int) (s0 : A) (s2 : A) (s4 : A), J φ (kx 0 (St.mk [(0, s0), (2, s2), (3, (A.v (Value.int .u64 o0))), (4, s4)] [])) kL (K o0) some) :
    ∀ (m : Nat) (v3 : Int) (v4 : Int), J φ (loopR (cx C) (evCall (cx C) (n+8)) (evCallY (cx C) (n+8)) (n+8) 63 0 0 0 kx kg kr kp m (St.mk [(0, (A.imm (List.map c8 v1) false)), (2, (A.v (Value.int .u64 v2))), (3, (A.v (Value.int .u64 v3))), (4, (iA v4))] [])) kL (F63_63_0 n v1 v2 m v3 v4) K := by
  intro m
  induction m with
  | zero => intros; exact .nn
  | succ m ih =>
    intro v3 v4
    refine .lp (e63_0 ..) ?_
    unfold F63_63_0
    refine .st (v := (iA ((v1.length : Int)))) (len_imm (e := 5) (h1 := by kernel_rfl) ..) ?_
    refine .st (v := (bA (decide (v4 < ((v1.length : Int)))))) (aBin_lss ..) ?_
    refine .biHN (fun hk5 => ?_) (fun hk5 => ?_)
    · refine .st (v := (A.v (Value.int .u64 (wr .u64 (256 * v3))))) (aBin_mul ..) ?_
      refine .bd (g := fun (y : UInt8) => A.ip (c8 y)) (idx_imm (e := 5) (es := 1) (h1 := by kernel_rfl) (h2 := by kernel_rfl) (h3 := fun _ => rfl) ..) fun y6 => ?_
      refine .s (uA ((y6.toNat : Int))) ?_
      refine .st (v := (A.v (Value.int .u64 (wr .u64 ((y6.toNat : Int)))))) (aConvert_int (hs := by kernel_rfl) (hd := by kernel_rfl) ..) ?_
      refine .st (v := (A.v (Value.int .u64 (wr .u64 ((wr .u64 (256 * v3)) + (wr .u64 ((y6.toNat : Int)))))))) (aBin_add ..) ?_
      refine .st (v := (iA (wr .i64 (v4 + 1)))) (aBin_add ..) ?_
      refine .s [] ?_
      refine .cT (by kernel_rfl) ?_
      exact ih _ _
    exact .ex (x0 _ _ _ _)
def F63 (n : Nat) (a0 : (List UInt8)) : Option Int :=
  Option.bind (F63_63_0 n a0 0 (n+8) 0 0) fun o7 => match o7 with | y8 => some y8
theorem T63 (C : Nat → List A → Option A) (n : Nat) (a0 : (List UInt8)) : J (fun (o : R) y => ∃ v, o.1 = .ret v ∧ snapE o.2 v = (A.v (Value.int .u64 y))) (evCall1 (cx C) (evCall (cx C) (n+8)) (evCallY (cx C) (n+8)) (n+8) 63 [(A.imm (List.map c8 a0) false)] [] 0) some (F63 n a0) some := by
  refine .lp (e63 ..) ?_
  unfold F63
  refine .as (T63_63_0 C n  a0 0 _ _ _ _ ?_ _ 0 0)
  · intro y8 j9 j10 j11
    refine .un rfl ?_
    refine .cT (by kernel_rfl) ?_
    exact .lf rfl rfl ⟨_, rfl, rfl⟩
def G63 (a0 : (List UInt8)) : Option Int := F63 fuel0 a0
def Orc63 (C : Nat → List A → Option A) : Prop := ∀ (a0 : (List UInt8)), C 63 [(A.imm (List.map c8 a0) false)] = (G63 a0).map fun y => (A.v (Value.int .u64 y))
def F67_67_1 (n : Nat) (v7 : (List UInt8)) (v8 : Int) (v10 : Int) : Nat → Int → Int → Option (Int)
  | 0, _, _ => none
  | m + 1, v9, v11 => bif (decide (v11 < 8)) then (bif ((Int.tmod v9 2) == 1) then (F67_67_1 n v7 v8 v10 m (xorI .u32 (shrI .u32 v9 1) 3988292384) (wr .i64 (v11 + 1))) else (F67_67_1 n v7 v8 v10 m (shrI .u32 v9 1) (wr .i64 (v11 + 1)))) else (some v9)
theorem T67_67_1 (C : Nat → List A → Option A) (n : Nat) (v7 : (List UInt8)) (v8 : Int) (v10 : Int) {ρ γ : Type} {φ : ρ → γ → Prop} {kL : R → Option ρ} {K : (Int) → Option γ} (kx kg : Nat → St → Option R) (kr : St → Option R) (kp : A → St → Option R) (x0 : ∀ (o0 : Int) (s5 : A), J φ (kx 2 (St.mk [(0, (A.imm (List.map c8 v7) false)), (2, (A.v (Value.int .u32 v8))), (3, (A.v (Value.int .u32 o0))), (4, (iA v10)), (5, s5)] [])) kL (K o0) some) :
    ∀ (m : Nat) (v9 : Int) (v11 : Int), J φ (loopR (cx C) (evCall (cx C) (n+8)) (evCallY (cx C) (n+8)) (n+8) 67 0 1 0 kx kg kr kp m (St.mk [(0, (A.imm (List.map c8 v7) false)), (2, (A.v (Value.int .u32 v8))), (3, (A.v (Value.int .u32 v9))), (4, (iA v10)), (5, (iA v11))] [])) kL (F67_67_1 n v7 v8 v10 m v9 v11) K := by
  intro m
  induction m with
  | zero => intros; exact .nn
  | succ m ih =>
    intro v9 v11
    refine .lp (e67_1 ..) ?_
    unfold F67_67_1
    refine .st (v := (bA (decide (v11 < 8)))) (aBin_lss ..) ?_
    refine .biHN (fun hk12 => ?_) (fun hk12 => ?_)
    · refine .st (v := (A.v (Value.int .u32 (Int.tmod v9 2)))) (aBin_rem (hb := by decide) ..) ?_
      refine .st (v := (bA ((Int.tmod v9 2) == 1))) (aBin_eql ..) ?_
      refine .biHN (fun hk13 => ?_) (fun hk13 => ?_)
      · refine .st (v := (A.v (Value.int .u32 (shrI .u32 v9 1)))) (aBin_shr (hb := by decide) ..) ?_
        refine .st (v := (A.v (Value.int .u32 (xorI .u32 (shrI .u32 v9 1) 3988292384)))) (aBin_bits_xor ..) ?_
        refine .st (v := (iA (wr .i64 (v11 + 1)))) (aBin_add ..) ?_
        refine .s [] ?_
        refine .cT (by kernel_rfl) ?_
        exact ih _ _
      refine .st (v := (A.v (Value.int .u32 (shrI .u32 v9 1)))) (aBin_shr (hb := by decide) ..) ?_
      refine .st (v := (iA (wr .i64 (v11 + 1)))) (aBin_add ..) ?_
      refine .s [] ?_
      refine .cT (by kernel_rfl) ?_
      exact ih _ _
    exact .ex (x0 _ _)
def F67_67_0 (n : Nat) (v1 : (List UInt8)) (v2 : Int) : Nat → Int → Int → Option (Int)
  | 0, _, _ => none
  | m + 1, v3, v4 => bif (decide (v4 < ((v1.length : Int)))) then (Option.bind (getI v1 v4) fun y6 => Option.bind (F67_67_1 n v1 v2 v4 (n+8) (xorI .u32 v3 (wr .u32 ((y6.toNat : Int)))) 0) fun o14 => match o14 with | y15 => F67_67_0 n v1 v2 m y15 (wr .i64 (v4 + 1))) else (some v3)
theorem T67_67_0 (C : Nat → List A → Option A) (n : Nat) (v1 : (List UInt8)) (v2 : Int) {ρ γ : Type} {φ : ρ → γ → Prop} {kL : R → Option ρ} {K : (Int) → Option γ} (kx kg : Nat → St → Option R) (kr : St → Option R) (kp : A → St → Option R) (x0 : ∀ (o0 : Int) (s0 : A) (s2 : A) (s4 : A), J φ (kx 0 (St.mk [(0, s0), (2, s2), (3, (A.v (Value.int .u32 o0))), (4, s4)] [])) kL (K o0) some) :
    ∀ (m : Nat) (v3 : Int) (v4 : Int), J φ (loopR (cx C) (evCall (cx C) (n+8)) (evCallY (cx C) (n+8)) (n+8) 67 0 0 0 kx kg kr kp m (St.mk [(0, (A.imm (List.map c8 v1) false)), (2, (A.v (Value.int .u32 v2))), (3, (A.v (Value.int .u32 v3))), (4, (iA v4))] [])) kL (F67_67_0 n v1 v2 m v3 v4) K := by
  intro m
  induction m with
  | zero => intros; exact .nn
  | succ m ih =>
    intro v3 v4
    refine .lp (e67_0 ..) ?_
    unfold F67_67_0
    refine .st (v := (iA ((v1.length : Int)))) (len_imm (e := 5) (h1 := by kernel_rfl) ..) ?_
    refine .st (v := (bA (decide (v4 < ((v1.length : Int)))))) (aBin_lss ..) ?_
    refine .biHN (fun hk5 => ?_) (fun hk5 => ?_)
    · refine .bd (g := fun (y : UInt8) => A.ip (c8 y)) (idx_imm (e := 5) (es := 1) (h1 := by kernel_rfl) (h2 := by kernel_rfl) (h3 := fun _ => rfl) ..) fun y6 => ?_
      refine .s (uA ((y6.toNat : Int))) ?_
      refine .st (v := (A.v (Value.int .u32 (wr .u32 ((y6.toNat : Int)))))) (aConvert_int (hs := by kernel_rfl) (hd := by kernel_rfl) ..) ?_
      refine .st (v := (A.v (Value.int .u32 (xorI .u32 v3 (wr .u32 ((y6.toNat : Int))))))) (aBin_bits_xor ..) ?_
      refine .as (T67_67_1 C n  v1 v2 v4 _ _ _ _ ?_ _ (xorI .u32 v3 (wr .u32 ((y6.toNat : Int)))) 0)
      · intro y15 j16
        refine .un rfl ?_
        refine .cT (by kernel_rfl) ?_
        refine .st (v := (iA (wr .i64 (v4 + 1)))) (aBin_add ..) ?_
        refine .s [] ?_
        refine .cT (by kernel_rfl) ?_
        exact ih _ _
    exact .ex (x0 _ _ _ _)
def F67 (n : Nat) (a0 : (List UInt8)) : Option Int :=
  Option.bind (F67_67_0 n a0 0 (n+8) 4294967295 0) fun o17 => match o17 with | y18 => some (xorI .u32 y18 4294967295)
theorem T67 (C : Nat → List A → Option A) (n : Nat) (a0 : (List UInt8)) : J (fun (o : R) y => ∃ v, o.1 = .ret v ∧ snapE o.2 v = (A.v (Value.int .u32 y))) (evCall1 (cx C) (evCall (cx C) (n+8)) (evCallY (cx C) (n+8)) (n+8) 67 [(A.imm (List.map c8 a0) false)] [] 0) some (F67 n a0) some := by
  refine .lp (e67 ..) ?_
  unfold F67
  refine .as (T67_67_0 C n  a0 0 _ _ _ _ ?_ _ 4294967295 0)
  · intro y18 j19 j20 j21
    refine .un rfl ?_
    refine .cT (by kernel_rfl) ?_
    refine .st (v := (A.v (Value.int .u32 (xorI .u32 y18 4294967295)))) (aBin_bits_xor ..) ?_
    exact .lf rfl rfl ⟨_, rfl, rfl⟩
def G67 (a0 : (List UInt8)) : Option Int := F67 fuel0 a0
def Orc67 (C : Nat → List A → Option A) : Prop := ∀ (a0 : (List UInt8)), C 67 [(A.imm (List.map c8 a0) false)] = (G67 a0).map fun y => (A.v (Value.int .u32 y))
def F72_72_0 (n : Nat) (v79 : (List UInt8)) (v80 : Bool) : Nat → Int → Option ((Bool) ⊕ (Unit))
  | 0, _ => none
  | m + 1, v81 => bif (decide (v81 < 124)) then (Option.bind (getI v79 v81) fun y83 => bif (((y83.toNat : Int)) != 0) then (some ((Sum.inl false))) else (F72_72_0 n v79 v80 m (wr .i64 (v81 + 1)))) else (some ((Sum.inr (()))))
theorem T72_72_0 (C : Nat → List A → Option A) (n : Nat) (h63 : Orc63 C) (h67 : Orc67 C) (v79 : (List UInt8)) (v80 : Bool) {ρ γ : Type} {φ : ρ → γ → Prop} {kL : R → Option ρ} {K : ((Bool) ⊕ (Unit)) → Option γ} (kx kg : Nat → St → Option R) (kr : St → Option R) (kp : A → St → Option R) (x0 : ∀ (o0 : Bool) (s0 : A) (s6 : A), J φ (kr (St.mk [(0, s0), (4, (bA o0)), (6, s6)] [])) kL (K (Sum.inl o0)) some) (x1 : ∀ (s0 : A) (s4 : A) (s6 : A), J φ (kx 0 (St.mk [(0, s0), (4, s4), (6, s6)] [])) kL (K (Sum.inr (()))) some) :
    ∀ (m : Nat) (v81 : Int), J φ (loopR (cx C) (evCall (cx C) (n+8)) (evCallY (cx C) (n+8)) (n+8) 72 0 0 0 kx kg kr kp m (St.mk [(0, (A.imm (List.map c8 v79) false)), (4, (bA v80)), (6, (iA v81))] [])) kL (F72_72_0 n v79 v80 m v81) K := by
  intro m
  induction m with
  | zero => intros; exact .nn
  | succ m ih =>
    intro v81
    refine .lp (e72_0 ..) ?_
    unfold F72_72_0
    refine .st (v := (bA (decide (v81 < 124)))) (aBin_lss ..) ?_
    refine .biHN (fun hk82 => ?_) (fun hk82 => ?_)
    · refine .bd (g := fun (y : UInt8) => A.ip (c8 y)) (idx_imm (e := 5) (es := 1) (h1 := by kernel_rfl) (h2 := by kernel_rfl) (h3 := fun _ => rfl) ..) fun y83 => ?_
      refine .s (uA ((y83.toNat : Int))) ?_
      refine .st (v := (bA (((y83.toNat : Int)) != 0))) (aBin_neq ..) ?_
      refine .biHN (fun hk84 => ?_) (fun hk84 => ?_)
      · exact .ex (x0 _ _ _)
      refine .st (v := (iA (wr .i64 (v81 + 1)))) (aBin_add ..) ?_
      refine .s [] ?_
      refine .cT (by kernel_rfl) ?_
      exact ih _
    exact .ex (x1 _ _ _)
def F72 (n : Nat) (a0 : (List UInt8)) (a1 : Int) : Option Bool :=
  Option.bind (getI a0 11) fun y1 => Option.bind (subI a0 0 4) fun y2 => Option.bind (G63 y2) fun y3 => Option.bind (bif (y3 == 0) then (some true) else (Option.bind (subI a0 0 4) fun y5 => Option.bind (G63 y5) fun y6 => Option.bind (subI a0 124 ((a0.length : Int))) fun y7 => Option.bind (G63 y7) fun y8 => some (y6 != y8))) fun y9 => Option.bind (bif y9 then (some true) else (Option.bind (subI a0 4 8) fun y18 => Option.bind (G63 y18) fun y19 => Option.bind (subI a0 8 124) fun y20 => Option.bind (G67 y20) fun y21 => some ((wr .u32 (y19)) != y21))) fun y22 => bif y22 then (Option.bind (some true) fun y92 => Option.bind (bif y92 then (some true) else (Option.bind (getI a0 10) fun y95 => some (decide (3 < ((y95.toNat : Int)))))) fun y96 => Option.bind (bif y96 then (some true) else (some (decide (112 < (wr .i64 ((y1.toNat : Int))))))) fun y102 => Option.bind (bif y102 then (some true) else (Option.bind (getI a0 10) fun y106 => Option.bind (bif (decide (((y106.toNat : Int)) < 2)) then (some ((wr .i64 ((y1.toNat : Int))) != 112)) else (some false)) fun y108 => some y108)) fun y111 => Option.bind (bif y111 then (some true) else (Option.bind (getI a0 10) fun y121 => Option.bind (bif ((Int.tmod ((y121.toNat : Int)) 2) == 0) then (some ((wr .i64 ((y1.toNat : Int))) == 0)) else (some false)) fun y123 => some y123)) fun y126 => bif y126 then (some false) else (Option.bind (F72_72_0 n a0 false (n+8) (wr .i64 (12 + (wr .i64 ((y1.toNat : Int)))))) fun o143 => match o143 with | (Sum.inl y144) => some y144 | (Sum.inr _) => some true)) else (Option.bind (subI a0 8 10) fun y32 => Option.bind (G63 y32) fun y33 => Option.bind (some (y33 != (wr .u64 (a1)))) fun y34 => Option.bind (bif y34 then (some true) else (Option.bind (getI a0 10) fun y37 => some (decide (3 < ((y37.toNat : Int)))))) fun y38 => Option.bind (bif y38 then (some true) else (some (decide (112 < (wr .i64 ((y1.toNat : Int))))))) fun y44 => Option.bind (bif y44 then (some true) else (Option.bind (getI a0 10) fun y48 => Option.bind (bif (decide (((y48.toNat : Int)) < 2)) then (some ((wr .i64 ((y1.toNat : Int))) != 112)) else (some false)) fun y50 => some y50)) fun y53 => Option.bind (bif y53 then (some true) else (Option.bind (getI a0 10) fun y63 => Option.bind (bif ((Int.tmod ((y63.toNat : Int)) 2) == 0) then (some ((wr .i64 ((y1.toNat : Int))) == 0)) else (some false)) fun y65 => some y65)) fun y68 => bif y68 then (some false) else (Option.bind (F72_72_0 n a0 false (n+8) (wr .i64 (12 + (wr .i64 ((y1.toNat : Int)))))) fun o85 => match o85 with | (Sum.inl y86) => some y86 | (Sum.inr _) => some true))
theorem T72 (C : Nat → List A → Option A) (n : Nat) (h63 : Orc63 C) (h67 : Orc67 C) (a0 : (List UInt8)) (a1 : Int) : J (fun (o : R) y => ∃ v, o.1 = .ret v ∧ snapE o.2 v = (bA y)) (evCall1 (cx C) (evCall (cx C) (n+8)) (evCallY (cx C) (n+8)) (n+8) 72 [(A.imm (List.map c8 a0) false), (iA a1)] [] 0) some (F72 n a0 a1) some := by
  refine .lp (e72 ..) ?_
  unfold F72
  refine .bd (g := fun (y : UInt8) => A.ip (c8 y)) (idx_imm (e := 5) (es := 1) (h1 := by kernel_rfl) (h2 := by kernel_rfl) (h3 := fun _ => rfl) ..) fun y1 => ?_
  refine .s (uA ((y1.toNat : Int))) ?_
  refine .st (v := (iA (wr .i64 ((y1.toNat : Int))))) (aConvert_int (hs := by kernel_rfl) (hd := by kernel_rfl) ..) ?_
  refine .bd (g := fun (y : List UInt8) => (A.imm (List.map c8 y) false)) (cut_imm (e := 5) (es := 1) (f := c8) (l := a0) (a := 0) (b := 4) (by kernel_rfl) (by kernel_rfl) (fun _ => rfl) (.inl ⟨rfl, rfl⟩) (.inr ⟨_, rfl⟩)) fun y2 => ?_
  refine .bd (g := fun (y : Int) => (A.v (Value.int .u64 y))) (by show C 63 [snap [] (A.imm (List.map c8 y2) false)] = _; simp only [snap, snapW, snapWs, snapWss, snapWss_map, trim, List.map_cons, List.map_nil, fl_cI, fl_c8, fl_cB, fl_cS, fl_cL, fl_S_Write, fl_S_Disk, fl_S_Journal, snapWs_app, fq_S_Write, fq_S_Disk, fq_S_Journal]; exact h63 y2) fun y3 => ?_
  refine .st (v := (bA (y3 == 0))) (aBin_eql ..) ?_
  refine .bg (fun t (y : Bool) => ∃ j10 j11 j12 j13 j14 j15 j16 : A, t = [(bA y), j10, j11, j12, j13, j14, j15, j16]) ?_ ?_
  · refine .biH (fun hk4 => ?_) (fun hk4 => ?_)
    · exact .lg ⟨_, _, _, _, _, _, _, rfl⟩
    refine .bd (g := fun (y : List UInt8) => (A.imm (List.map c8 y) false)) (cut_imm (e := 5) (es := 1) (f := c8) (l := a0) (a := 0) (b := 4) (by kernel_rfl) (by kernel_rfl) (fun _ => rfl) (.inl ⟨rfl, rfl⟩) (.inr ⟨_, rfl⟩)) fun y5 => ?_
    refine .bd (g := fun (y : Int) => (A.v (Value.int .u64 y))) (by show C 63 [snap [] (A.imm (List.map c8 y5) false)] = _; simp only [snap, snapW, snapWs, snapWss, snapWss_map, trim, List.map_cons, List.map_nil, fl_cI, fl_c8, fl_cB, fl_cS, fl_cL, fl_S_Write, fl_S_Disk, fl_S_Journal, snapWs_app, fq_S_Write, fq_S_Disk, fq_S_Journal]; exact h63 y5) fun y6 => ?_
    refine .bd (g := fun (y : List UInt8) => (A.imm (List.map c8 y) false)) (cut_imm (e := 5) (es := 1) (f := c8) (l := a0) (a := 124) (b := (a0.length : Int)) (by kernel_rfl) (by kernel_rfl) (fun _ => rfl) (.inr ⟨_, rfl⟩) (.inl ⟨rfl, rfl⟩)) fun y7 => ?_
    refine .bd (g := fun (y : Int) => (A.v (Value.int .u64 y))) (by show C 63 [snap [] (A.imm (List.map c8 y7) false)] = _; simp only [snap, snapW, snapWs, snapWss, snapWss_map, trim, List.map_cons, List.map_nil, fl_cI, fl_c8, fl_cB, fl_cS, fl_cL, fl_S_Write, fl_S_Disk, fl_S_Journal, snapWs_app, fq_S_Write, fq_S_Disk, fq_S_Journal]; exact h63 y7) fun y8 => ?_
    refine .st (v := (bA (y6 != y8))) (aBin_neq ..) ?_
    exact .lg ⟨_, _, _, _, _, _, _, rfl⟩
  rintro _ y9 ⟨j10, j11, j12, j13, j14, j15, j16, rfl⟩
  iterate 8 refine .uc ?_
  refine .bg (fun t (y : Bool) => ∃ j23 j24 j25 j26 j27 j28 j29 j30 : A, t = [(bA y), j23, j24, j25, j26, j27, j28, j29, j30]) ?_ ?_
  · refine .biH (fun hk17 => ?_) (fun hk17 => ?_)
    · exact .lg ⟨_, _, _, _, _, _, _, _, rfl⟩
    refine .bd (g := fun (y : List UInt8) => (A.imm (List.map c8 y) false)) (cut_imm (e := 5) (es := 1) (f := c8) (l := a0) (a := 4) (b := 8) (by kernel_rfl) (by kernel_rfl) (fun _ => rfl) (.inr ⟨_, rfl⟩) (.inr ⟨_, rfl⟩)) fun y18 => ?_
    refine .bd (g := fun (y : Int) => (A.v (Value.int .u64 y))) (by show C 63 [snap [] (A.imm (List.map c8 y18) false)] = _; simp only [snap, snapW, snapWs, snapWss, snapWss_map, trim, List.map_cons, List.map_nil, fl_cI, fl_c8, fl_cB, fl_cS, fl_cL, fl_S_Write, fl_S_Disk, fl_S_Journal, snapWs_app, fq_S_Write, fq_S_Disk, fq_S_Journal]; exact h63 y18) fun y19 => ?_
    refine .st (v := (A.v (Value.int .u32 (wr .u32 (y19))))) (aConvert_int (hs := by kernel_rfl) (hd := by kernel_rfl) ..) ?_
    refine .bd (g := fun (y : List UInt8) => (A.imm (List.map c8 y) false)) (cut_imm (e := 5) (es := 1) (f := c8) (l := a0) (a := 8) (b := 124) (by kernel_rfl) (by kernel_rfl) (fun _ => rfl) (.inr ⟨_, rfl⟩) (.inr ⟨_, rfl⟩)) fun y20 => ?_
    refine .bd (g := fun (y : Int) => (A.v (Value.int .u32 y))) (by show C 67 [snap [] (A.imm (List.map c8 y20) false)] = _; simp only [snap, snapW, snapWs, snapWss, snapWss_map, trim, List.map_cons, List.map_nil, fl_cI, fl_c8, fl_cB, fl_cS, fl_cL, fl_S_Write, fl_S_Disk, fl_S_Journal, snapWs_app, fq_S_Write, fq_S_Disk, fq_S_Journal]; exact h67 y20) fun y21 => ?_
    refine .st (v := (bA ((wr .u32 (y19)) != y21))) (aBin_neq ..) ?_
    exact .lg ⟨_, _, _, _, _, _, _, _, rfl⟩
  rintro _ y22 ⟨j23, j24, j25, j26, j27, j28, j29, j30, rfl⟩
  iterate 9 refine .uc ?_
  refine .gsf (fun hc31 => ?_) (fun hc31 => ?_)
  · refine .bb ?_
    refine .bd (g := fun (y : List UInt8) => (A.imm (List.map c8 y) false)) (cut_imm (e := 5) (es := 1) (f := c8) (l := a0) (a := 8) (b := 10) (by kernel_rfl) (by kernel_rfl) (fun _ => rfl) (.inr ⟨_, rfl⟩) (.inr ⟨_, rfl⟩)) fun y32 => ?_
    refine .bd (g := fun (y : Int) => (A.v (Value.int .u64 y))) (by show C 63 [snap [] (A.imm (List.map c8 y32) false)] = _; simp only [snap, snapW, snapWs, snapWss, snapWss_map, trim, List.map_cons, List.map_nil, fl_cI, fl_c8, fl_cB, fl_cS, fl_cL, fl_S_Write, fl_S_Disk, fl_S_Journal, snapWs_app, fq_S_Write, fq_S_Disk, fq_S_Journal]; exact h63 y32) fun y33 => ?_
    refine .st (v := (A.v (Value.int .u64 (wr .u64 (a1))))) (aConvert_int (hs := by kernel_rfl) (hd := by kernel_rfl) ..) ?_
    refine .cr ?_
    iterate 5 refine .uc ?_
    refine .bg (fun t (y : Bool) => ∃ j35 : A, t = [(bA y), j35]) ?_ ?_
    · refine .bKF hc31 ?_
      refine .st (v := (bA (y33 != (wr .u64 (a1))))) (aBin_neq ..) ?_
      exact .lg ⟨_, rfl⟩
    rintro _ y34 ⟨j35, rfl⟩
    iterate 2 refine .uc ?_
    refine .bg (fun t (y : Bool) => ∃ j39 j40 j41 j42 : A, t = [(bA y), j39, j40, j41, j42]) ?_ ?_
    · refine .biH (fun hk36 => ?_) (fun hk36 => ?_)
      · exact .lg ⟨_, _, _, _, rfl⟩
      refine .bd (g := fun (y : UInt8) => A.ip (c8 y)) (idx_imm (e := 5) (es := 1) (h1 := by kernel_rfl) (h2 := by kernel_rfl) (h3 := fun _ => rfl) ..) fun y37 => ?_
      refine .s (uA ((y37.toNat : Int))) ?_
      refine .st (v := (bA (decide (3 < ((y37.toNat : Int)))))) (aBin_gtr ..) ?_
      exact .lg ⟨_, _, _, _, rfl⟩
    rintro _ y38 ⟨j39, j40, j41, j42, rfl⟩
    iterate 5 refine .uc ?_
    refine .bg (fun t (y : Bool) => ∃ j45 j46 : A, t = [(bA y), j45, j46]) ?_ ?_
    · refine .biH (fun hk43 => ?_) (fun hk43 => ?_)
      · exact .lg ⟨_, _, rfl⟩
      refine .st (v := (bA (decide (112 < (wr .i64 ((y1.toNat : Int))))))) (aBin_gtr ..) ?_
      exact .lg ⟨_, _, rfl⟩
    rintro _ y44 ⟨j45, j46, rfl⟩
    iterate 3 refine .uc ?_
    refine .bg (fun t (y : Bool) => ∃ j54 j55 j56 j57 j58 j59 j60 j61 : A, t = [(bA y), j54, j55, j56, j57, j58, j59, j60, j61]) ?_ ?_
    · refine .biH (fun hk47 => ?_) (fun hk47 => ?_)
      · exact .lg ⟨_, _, _, _, _, _, _, _, rfl⟩
      refine .bd (g := fun (y : UInt8) => A.ip (c8 y)) (idx_imm (e := 5) (es := 1) (h1 := by kernel_rfl) (h2 := by kernel_rfl) (h3 := fun _ => rfl) ..) fun y48 => ?_
      refine .s (uA ((y48.toNat : Int))) ?_
      refine .st (v := (bA (decide (((y48.toNat : Int)) < 2)))) (aBin_lss ..) ?_
      refine .bg (fun t (y : Bool) => ∃ j51 j52 : A, t = [(bA y), j51, j52]) ?_ ?_
      · refine .biH (fun hk49 => ?_) (fun hk49 => ?_)
        · refine .st (v := (bA ((wr .i64 ((y1.toNat : Int))) != 112))) (aBin_neq ..) ?_
          exact .lg ⟨_, _, rfl⟩
        exact .lg ⟨_, _, rfl⟩
      rintro _ y50 ⟨j51, j52, rfl⟩
      iterate 3 refine .uc ?_
      exact .lg ⟨_, _, _, _, _, _, _, _, rfl⟩
    rintro _ y53 ⟨j54, j55, j56, j57, j58, j59, j60, j61, rfl⟩
    iterate 9 refine .uc ?_
    refine .bg (fun t (y : Bool) => ∃ j69 j70 j71 j72 j73 j74 j75 j76 j77 : A, t = [(bA y), j69, j70, j71, j72, j73, j74, j75, j76, j77]) ?_ ?_
    · refine .biH (fun hk62 => ?_) (fun hk62 => ?_)
      · exact .lg ⟨_, _, _, _, _, _, _, _, _, rfl⟩
      refine .bd (g := fun (y : UInt8) => A.ip (c8 y)) (idx_imm (e := 5) (es := 1) (h1 := by kernel_rfl) (h2 := by kernel_rfl) (h3 := fun _ => rfl) ..) fun y63 => ?_
      refine .s (uA ((y63.toNat : Int))) ?_
      refine .st (v := (uA (Int.tmod ((y63.toNat : Int)) 2))) (aBin_rem (hb := by decide) ..) ?_
      refine .st (v := (bA ((Int.tmod ((y63.toNat : Int)) 2) == 0))) (aBin_eql ..) ?_
      refine .bg (fun t (y : Bool) => ∃ j66 j67 : A, t = [(bA y), j66, j67]) ?_ ?_
      · refine .biH (fun hk64 => ?_) (fun hk64 => ?_)
        · refine .st (v := (bA ((wr .i64 ((y1.toNat : Int))) == 0))) (aBin_eql ..) ?_
          exact .lg ⟨_, _, rfl⟩
        exact .lg ⟨_, _, rfl⟩
      rintro _ y65 ⟨j66, j67, rfl⟩
      iterate 3 refine .uc ?_
      exact .lg ⟨_, _, _, _, _, _, _, _, _, rfl⟩
    rintro _ y68 ⟨j69, j70, j71, j72, j73, j74, j75, j76, j77, rfl⟩
    iterate 10 refine .uc ?_
    refine .biHN (fun hk78 => ?_) (fun hk78 => ?_)
    · exact .lf rfl rfl ⟨_, rfl, rfl⟩
    refine .st (v := (iA (wr .i64 (12 + (wr .i64 ((y1.toNat : Int))))))) (aBin_add ..) ?_
    refine .as (T72_72_0 C n h63 h67 a0 false _ _ _ _ ?_ ?_ _ (wr .i64 (12 + (wr .i64 ((y1.toNat : Int))))))
    · intro y86 j87 j88
      refine .un rfl ?_
      exact .lf rfl rfl ⟨_, rfl, rfl⟩
    · intro j89 j90 j91
      refine .un rfl ?_
      refine .cT (by kernel_rfl) ?_
      exact .lf rfl rfl ⟨_, rfl, rfl⟩
  refine .bb ?_
  refine .cr ?_
  iterate 5 refine .uc ?_
  refine .bg (fun t (y : Bool) => ∃ j93 : A, t = [(bA y), j93]) ?_ ?_
  · refine .bKT hc31 ?_
    exact .lg ⟨_, rfl⟩
  rintro _ y92 ⟨j93, rfl⟩
  iterate 2 refine .uc ?_
  refine .bg (fun t (y : Bool) => ∃ j97 j98 j99 j100 : A, t = [(bA y), j97, j98, j99, j100]) ?_ ?_
  · refine .biH (fun hk94 => ?_) (fun hk94 => ?_)
    · exact .lg ⟨_, _, _, _, rfl⟩
    refine .bd (g := fun (y : UInt8) => A.ip (c8 y)) (idx_imm (e := 5) (es := 1) (h1 := by kernel_rfl) (h2 := by kernel_rfl) (h3 := fun _ => rfl) ..) fun y95 => ?_
    refine .s (uA ((y95.toNat : Int))) ?_
    refine .st (v := (bA (decide (3 < ((y95.toNat : Int)))))) (aBin_gtr ..) ?_
    exact .lg ⟨_, _, _, _, rfl⟩
  rintro _ y96 ⟨j97, j98, j99, j100, rfl⟩
  iterate 5 refine .uc ?_
  refine .bg (fun t (y : Bool) => ∃ j103 j104 : A, t = [(bA y), j103, j104]) ?_ ?_
  · refine .biH (fun hk101 => ?_) (fun hk101 => ?_)
    · exact .lg ⟨_, _, rfl⟩
    refine .st (v := (bA (decide (112 < (wr .i64 ((y1.toNat : Int))))))) (aBin_gtr ..) ?_
    exact .lg ⟨_, _, rfl⟩
  rintro _ y102 ⟨j103, j104, rfl⟩
  iterate 3 refine .uc ?_
  refine .bg (fun t (y : Bool) => ∃ j112 j113 j114 j115 j116 j117 j118 j119 : A, t = [(bA y), j112, j113, j114, j115, j116, j117, j118, j119]) ?_ ?_
  · refine .biH (fun hk105 => ?_) (fun hk105 => ?_)
    · exact .lg ⟨_, _, _, _, _, _, _, _, rfl⟩
    refine .bd (g := fun (y : UInt8) => A.ip (c8 y)) (idx_imm (e := 5) (es := 1) (h1 := by kernel_rfl) (h2 := by kernel_rfl) (h3 := fun _ => rfl) ..) fun y106 => ?_
    refine .s (uA ((y106.toNat : Int))) ?_
    refine .st (v := (bA (decide (((y106.toNat : Int)) < 2)))) (aBin_lss ..) ?_
    refine .bg (fun t (y : Bool) => ∃ j109 j110 : A, t = [(bA y), j109, j110]) ?_ ?_
    · refine .biH (fun hk107 => ?_) (fun hk107 => ?_)
      · refine .st (v := (bA ((wr .i64 ((y1.toNat : Int))) != 112))) (aBin_neq ..) ?_
        exact .lg ⟨_, _, rfl⟩
      exact .lg ⟨_, _, rfl⟩
    rintro _ y108 ⟨j109, j110, rfl⟩
    iterate 3 refine .uc ?_
    exact .lg ⟨_, _, _, _, _, _, _, _, rfl⟩
  rintro _ y111 ⟨j112, j113, j114, j115, j116, j117, j118, j119, rfl⟩
  iterate 9 refine .uc ?_
  refine .bg (fun t (y : Bool) => ∃ j127 j128 j129 j130 j131 j132 j133 j134 j135 : A, t = [(bA y), j127, j128, j129, j130, j131, j132, j133, j134, j135]) ?_ ?_
  · refine .biH (fun hk120 => ?_) (fun hk120 => ?_)
    · exact .lg ⟨_, _, _, _, _, _, _, _, _, rfl⟩
    refine .bd (g := fun (y : UInt8) => A.ip (c8 y)) (idx_imm (e := 5) (es := 1) (h1 := by kernel_rfl) (h2 := by kernel_rfl) (h3 := fun _ => rfl) ..) fun y121 => ?_
    refine .s (uA ((y121.toNat : Int))) ?_
    refine .st (v := (uA (Int.tmod ((y121.toNat : Int)) 2))) (aBin_rem (hb := by decide) ..) ?_
    refine .st (v := (bA ((Int.tmod ((y121.toNat : Int)) 2) == 0))) (aBin_eql ..) ?_
    refine .bg (fun t (y : Bool) => ∃ j124 j125 : A, t = [(bA y), j124, j125]) ?_ ?_
    · refine .biH (fun hk122 => ?_) (fun hk122 => ?_)
      · refine .st (v := (bA ((wr .i64 ((y1.toNat : Int))) == 0))) (aBin_eql ..) ?_
        exact .lg ⟨_, _, rfl⟩
      exact .lg ⟨_, _, rfl⟩
    rintro _ y123 ⟨j124, j125, rfl⟩
    iterate 3 refine .uc ?_
    exact .lg ⟨_, _, _, _, _, _, _, _, _, rfl⟩
  rintro _ y126 ⟨j127, j128, j129, j130, j131, j132, j133, j134, j135, rfl⟩
  iterate 10 refine .uc ?_
  refine .biHN (fun hk136 => ?_) (fun hk136 => ?_)
  · exact .lf rfl rfl ⟨_, rfl, rfl⟩
  refine .st (v := (iA (wr .i64 (12 + (wr .i64 ((y1.toNat : Int))))))) (aBin_add ..) ?_
  refine .as (T72_72_0 C n h63 h67 a0 false _ _ _ _ ?_ ?_ _ (wr .i64 (12 + (wr .i64 ((y1.toNat : Int))))))
  · intro y144 j145 j146
    refine .un rfl ?_
    exact .lf rfl rfl ⟨_, rfl, rfl⟩
  · intro j147 j148 j149
    refine .un rfl ?_
    refine .cT (by kernel_rfl) ?_
    exact .lf rfl rfl ⟨_, rfl, rfl⟩
def G72 (a0 : (List UInt8)) (a1 : Int) : Option Bool := F72 fuel0 a0 a1
def Orc72 (C : Nat → List A → Option A) : Prop := ∀ (a0 : (List UInt8)) (a1 : Int), C 72 [(A.imm (List.map c8 a0) false), (iA a1)] = (G72 a0 a1).map fun y => (bA y)
def F62_62_0 (n : Nat) (v1 : (List (List UInt8))) (v2 : Int) (v3 : (List UInt8)) (v4 : Int) : Nat → Int → (List UInt8) → Option ((Int × (List UInt8)) ⊕ ((Int × (List UInt8)) ⊕ ((List UInt8))))
  | 0, _, _ => none
  | m + 1, v5, v6 => bif (decide ((wr .i64 (v2 + v5)) < ((v1.length : Int)))) then (Option.bind (getI v1 (wr .i64 (v2 + v5))) fun y8 => Option.bind (G72 y8 (wr .i64 (v2 + v5))) fun y9 => Option.bind (bif (!y9) then (some true) else (Option.bind (getI y8 10) fun y11 => some (((Int.tmod ((y11.toNat : Int)) 2) == 1) != (v5 == 0)))) fun y12 => bif y12 then (Option.bind (some (())) fun y46 => Option.bind (some true) fun y48 => bif y48 then (some ((Sum.inl ((0, v6))))) else (Option.bind (getI y8 11) fun y51 => Option.bind (subI y8 12 (wr .i64 (12 + (wr .i64 ((y51.toNat : Int)))))) fun y52 => Option.bind (appI 1 v6 y52) fun y53 => Option.bind (getI y8 10) fun y54 => bif (decide (2 ≤ ((y54.toNat : Int)))) then (some ((Sum.inr ((Sum.inl ((wr .i64 (v5 + 1), y53))))))) else (F62_62_0 n v1 v2 v3 v4 m (wr .i64 (v5 + 1)) y53))) else (bif (decide (0 < v5)) then (Option.bind (subI y8 0 4) fun y23 => Option.bind (G63 y23) fun y24 => Option.bind (getI v1 v2) fun y25 => Option.bind (subI y25 0 4) fun y26 => Option.bind (G63 y26) fun y27 => Option.bind (Option.bind (some (y24 != y27)) fun y28 => some y28) fun y29 => bif y29 then (some ((Sum.inl ((0, v6))))) else (Option.bind (getI y8 11) fun y32 => Option.bind (subI y8 12 (wr .i64 (12 + (wr .i64 ((y32.toNat : Int)))))) fun y33 => Option.bind (appI 1 v6 y33) fun y34 => Option.bind (getI y8 10) fun y35 => bif (decide (2 ≤ ((y35.toNat : Int)))) then (some ((Sum.inr ((Sum.inl ((wr .i64 (v5 + 1), y34))))))) else (F62_62_0 n v1 v2 v3 v4 m (wr .i64 (v5 + 1)) y34))) else (Option.bind (Option.bind (some false) fun y37 => some y37) fun y38 => bif y38 then (some ((Sum.inl ((0, v6))))) else (Option.bind (getI y8 11) fun y41 => Option.bind (subI y8 12 (wr .i64 (12 + (wr .i64 ((y41.toNat : Int)))))) fun y42 => Option.bind (appI 1 v6 y42) fun y43 => Option.bind (getI y8 10) fun y44 => bif (decide (2 ≤ ((y44.toNat : Int)))) then (some ((Sum.inr ((Sum.inl ((wr .i64 (v5 + 1), y43))))))) else (F62_62_0 n v1 v2 v3 v4 m (wr .i64 (v5 + 1)) y43))))) else (some ((Sum.inr ((Sum.inr v6)))))
theorem T62_62_0 (C : Nat → List A → Option A) (n : Nat) (h63 : Orc63 C) (h72 : Orc72 C) (v1 : (List (List UInt8))) (v2 : Int) (v3 : (List UInt8)) (v4 : Int) {ρ γ : Type} {φ : ρ → γ → Prop} {kL : R → Option ρ} {K : ((Int × (List UInt8)) ⊕ ((Int × (List UInt8)) ⊕ ((List UInt8)))) → Option γ} (kx kg : Nat → St → Option R) (kr : St → Option R) (kp : A → St → Option R) (x0 : ∀ (o0 : Int) (o1 : (List UInt8)) (s0 : A) (s1 : A) (s6 : A) (s7 : A), J φ (kr (St.mk [(0, s0), (1, s1), (4, (A.imm [] true)), (5, (iA o0)), (6, s6), (7, s7)] [Blk.row false 1 (List.map c8 o1)])) kL (K (Sum.inl ((o0, o1)))) some) (x1 : ∀ (o0 : Int) (o1 : (List UInt8)) (s0 : A) (s1 : A) (s6 : A) (s7 : A), J φ (kr (St.mk [(0, s0), (1, s1), (4, (A.sl 0 0 o1.length false)), (5, (iA o0)), (6, s6), (7, s7)] [Blk.row false 1 (List.map c8 o1)])) kL (K (Sum.inr ((Sum.inl ((o0, o1)))))) some) (x2 : ∀ (o0 : (List UInt8)) (s0 : A) (s1 : A) (s4 : A) (s5 : A) (s6 : A) (s7 : A), J φ (kx 0 (St.mk [(0, s0), (1, s1), (4, s4), (5, s5), (6, s6), (7, s7)] [Blk.row false 1 (List.map c8 o0)])) kL (K (Sum.inr ((Sum.inr o0)))) some) :
    ∀ (m : Nat) (v5 : Int) (v6 : (List UInt8)), J φ (loopR (cx C) (evCall (cx C) (n+8)) (evCallY (cx C) (n+8)) (n+8) 62 0 0 1 kx kg kr kp m (St.mk [(0, (A.imm (List.map (cL c8) v1) false)), (1, (iA v2)), (4, (A.imm (List.map c8 v3) true)), (5, (iA v4)), (6, (A.sl 0 0 v6.length false)), (7, (iA v5))] [Blk.row false 1 (List.map c8 v6)])) kL (F62_62_0 n v1 v2 v3 v4 m v5 v6) K := by
  intro m
  induction m with
  | zero => intros; exact .nn
  | succ m ih =>
    intro v5 v6
    refine .lp (e62_0 ..) ?_
    unfold F62_62_0
    refine .st (v := (iA (wr .i64 (v2 + v5)))) (aBin_add ..) ?_
    refine .st (v := (iA ((v1.length : Int)))) (len_imm (e := 35) (h1 := by kernel_rfl) ..) ?_
    refine .st (v := (bA (decide ((wr .i64 (v2 + v5)) < ((v1.length : Int)))))) (aBin_lss ..) ?_
    refine .biHN (fun hk7 => ?_) (fun hk7 => ?_)
    · refine .st (v := (iA (wr .i64 (v2 + v5)))) (aBin_add ..) ?_
      refine .bd (g := fun (y : (List UInt8)) => A.ip ((cL c8) y)) (idx_imm (e := 35) (es := 1) (h1 := by kernel_rfl) (h2 := by kernel_rfl) (h3 := fun _ => rfl) ..) fun y8 => ?_
      refine .s (A.imm (List.map c8 y8) false) ?_
      refine .st (v := (iA (wr .i64 (v2 + v5)))) (aBin_add ..) ?_
      refine .bd (g := fun (y : Bool) => (bA y)) (by show C 72 [snap [Blk.row false 1 (List.map c8 v6)] (A.imm (List.map c8 y8) false), snap [Blk.row false 1 (List.map c8 v6)] (iA (wr .i64 (v2 + v5)))] = _; simp only [snap, snapW, snapWs, snapWss, snapWss_map, trim, List.map_cons, List.map_nil, fl_cI, fl_c8, fl_cB, fl_cS, fl_cL, fl_S_Write, fl_S_Disk, fl_S_Journal, snapWs_app, fq_S_Write, fq_S_Disk, fq_S_Journal, snapG_row (H := [Blk.row false 1 (List.map c8 v6)]) (b := 0) (es := 1) (l := v6) fl_c8 rfl]; exact h72 y8 (wr .i64 (v2 + v5))) fun y9 => ?_
      refine .s (bA (!y9)) ?_
      refine .bg (fun t (y : Bool) => ∃ j13 j14 j15 j16 j17 j18 j19 j20 : A, t = [(bA y), j13, j14, j15, j16, j17, j18, j19, j20]) ?_ ?_
      · refine .biH (fun hk10 => ?_) (fun hk10 => ?_)
        · exact .lg ⟨_, _, _, _, _, _, _, _, rfl⟩
        refine .bd (g := fun (y : UInt8) => A.ip (c8 y)) (idx_imm (e := 5) (es := 1) (h1 := by kernel_rfl) (h2 := by kernel_rfl) (h3 := fun _ => rfl) ..) fun y11 => ?_
        refine .s (uA ((y11.toNat : Int))) ?_
        refine .st (v := (uA (Int.tmod ((y11.toNat : Int)) 2))) (aBin_rem (hb := by decide) ..) ?_
        refine .st (v := (bA ((Int.tmod ((y11.toNat : Int)) 2) == 1))) (aBin_eql ..) ?_
        refine .st (v := (bA (v5 == 0))) (aBin_eql ..) ?_
        refine .s (bA (((Int.tmod ((y11.toNat : Int)) 2) == 1) != (v5 == 0))) ?_
        exact .lg ⟨_, _, _, _, _, _, _, _, rfl⟩
      rintro _ y12 ⟨j13, j14, j15, j16, j17, j18, j19, j20, rfl⟩
      iterate 9 refine .uc ?_
      refine .gsf (fun hc21 => ?_) (fun hc21 => ?_)
      · refine .bb ?_
        refine .st (v := (bA (decide (0 < v5)))) (aBin_gtr ..) ?_
        refine .gst (fun hc22 => ?_) (fun hc22 => ?_)
        · refine .bb ?_
          refine .bd (g := fun (y : List UInt8) => (A.imm (List.map c8 y) false)) (cut_imm (e := 5) (es := 1) (f := c8) (l := y8) (a := 0) (b := 4) (by kernel_rfl) (by kernel_rfl) (fun _ => rfl) (.inl ⟨rfl, rfl⟩) (.inr ⟨_, rfl⟩)) fun y23 => ?_
          refine .bd (g := fun (y : Int) => (A.v (Value.int .u64 y))) (by show C 63 [snap [Blk.row false 1 (List.map c8 v6)] (A.imm (List.map c8 y23) false)] = _; simp only [snap, snapW, snapWs, snapWss, snapWss_map, trim, List.map_cons, List.map_nil, fl_cI, fl_c8, fl_cB, fl_cS, fl_cL, fl_S_Write, fl_S_Disk, fl_S_Journal, snapWs_app, fq_S_Write, fq_S_Disk, fq_S_Journal, snapG_row (H := [Blk.row false 1 (List.map c8 v6)]) (b := 0) (es := 1) (l := v6) fl_c8 rfl]; exact h63 y23) fun y24 => ?_
          refine .bd (g := fun (y : (List UInt8)) => A.ip ((cL c8) y)) (idx_imm (e := 35) (es := 1) (h1 := by kernel_rfl) (h2 := by kernel_rfl) (h3 := fun _ => rfl) ..) fun y25 => ?_
          refine .s (A.imm (List.map c8 y25) false) ?_
          refine .bd (g := fun (y : List UInt8) => (A.imm (List.map c8 y) false)) (cut_imm (e := 5) (es := 1) (f := c8) (l := y25) (a := 0) (b := 4) (by kernel_rfl) (by kernel_rfl) (fun _ => rfl) (.inl ⟨rfl, rfl⟩) (.inr ⟨_, rfl⟩)) fun y26 => ?_
          refine .cr ?_
          iterate 8 refine .uc ?_
          refine .cr ?_
          iterate 11 refine .uc ?_
          refine .lp (congrArg (fun z => Option.bind z _) (gIf_knownTT hc22)) ?_
          refine .bb ?_
          refine .bd (g := fun (y : Int) => (A.v (Value.int .u64 y))) (by show C 63 [snap [Blk.row false 1 (List.map c8 v6)] (A.imm (List.map c8 y26) false)] = _; simp only [snap, snapW, snapWs, snapWss, snapWss_map, trim, List.map_cons, List.map_nil, fl_cI, fl_c8, fl_cB, fl_cS, fl_cL, fl_S_Write, fl_S_Disk, fl_S_Journal, snapWs_app, fq_S_Write, fq_S_Disk, fq_S_Journal, snapG_row (H := [Blk.row false 1 (List.map c8 v6)]) (b := 0) (es := 1) (l := v6) fl_c8 rfl]; exact h63 y26) fun y27 => ?_
          refine .st (v := (bA (y24 != y27))) (aBin_neq ..) ?_
          refine .cr ?_
          iterate 2 refine .uc ?_
          refine .bg (fun t (y : Bool) => ∃ j30 : A, t = [(bA y), j30]) ?_ ?_
          · refine .bKF hc21 ?_
            refine .bg (fun t (y : Bool) =>  t = (bA y)) ?_ ?_
            · refine .bKT hc22 ?_
              exact .lg rfl
            rintro _ y28 rfl
            exact .lg ⟨_, rfl⟩
          rintro _ y29 ⟨j30, rfl⟩
          iterate 2 refine .uc ?_
          refine .biHN (fun hk31 => ?_) (fun hk31 => ?_)
          · exact .ex (x0 _ _ _ _ _ _)
          refine .bd (g := fun (y : UInt8) => A.ip (c8 y)) (idx_imm (e := 5) (es := 1) (h1 := by kernel_rfl) (h2 := by kernel_rfl) (h3 := fun _ => rfl) ..) fun y32 => ?_
          refine .s (uA ((y32.toNat : Int))) ?_
          refine .st (v := (iA (wr .i64 ((y32.toNat : Int))))) (aConvert_int (hs := by kernel_rfl) (hd := by kernel_rfl) ..) ?_
          refine .st (v := (iA (wr .i64 (12 + (wr .i64 ((y32.toNat : Int))))))) (aBin_add ..) ?_
          refine .bd (g := fun (y : List UInt8) => (A.imm (List.map c8 y) false)) (cut_imm (e := 5) (es := 1) (f := c8) (l := y8) (a := 12) (b := wr .i64 (12 + (wr .i64 ((y32.toNat : Int))))) (by kernel_rfl) (by kernel_rfl) (fun _ => rfl) (.inr ⟨_, rfl⟩) (.inr ⟨_, rfl⟩)) fun y33 => ?_
          refine .bd (g := fun (y : List UInt8) => ((A.sl 0 0 y.length false), [Blk.row false 1 (List.map c8 y)])) (app_row (e := 5) (es := 1) (by_ := 1) (z := [(uA 0)]) (by kernel_rfl) (by kernel_rfl) (by kernel_rfl) (by kernel_rfl) rfl (by decide) (by decide) (by kernel_rfl) (f := c8) (fun _ => rfl) ce_c8 (l := v6) (l2 := y33) (b := 0) rfl (by decide) (els_imm ..)) fun y34 => ?_
          refine .bd (g := fun (y : UInt8) => A.ip (c8 y)) (idx_imm (e := 5) (es := 1) (h1 := by kernel_rfl) (h2 := by kernel_rfl) (h3 := fun _ => rfl) ..) fun y35 => ?_
          refine .s (uA ((y35.toNat : Int))) ?_
          refine .st (v := (bA (decide (2 ≤ ((y35.toNat : Int)))))) (aBin_geq ..) ?_
          refine .biHN (fun hk36 => ?_) (fun hk36 => ?_)
          · refine .st (v := (iA (wr .i64 (v5 + 1)))) (aBin_add ..) ?_
            exact .ex (x1 _ _ _ _ _ _)
          refine .st (v := (iA (wr .i64 (v5 + 1)))) (aBin_add ..) ?_
          refine .s [Blk.row false 1 (List.map c8 y34)] ?_
          refine .cT (by kernel_rfl) ?_
          exact ih _ _
        refine .bb ?_
        refine .cr ?_
        iterate 8 refine .uc ?_
        refine .cr ?_
        iterate 11 refine .uc ?_
        refine .lp (congrArg (fun z => Option.bind z _) (gIf_knownTF hc22)) ?_
        refine .bb ?_
        refine .cr ?_
        iterate 2 refine .uc ?_
        refine .bg (fun t (y : Bool) => ∃ j39 : A, t = [(bA y), j39]) ?_ ?_
        · refine .bKF hc21 ?_
          refine .bg (fun t (y : Bool) =>  t = (bA y)) ?_ ?_
          · refine .bKF hc22 ?_
            exact .lg rfl
          rintro _ y37 rfl
          exact .lg ⟨_, rfl⟩
        rintro _ y38 ⟨j39, rfl⟩
        iterate 2 refine .uc ?_
        refine .biHN (fun hk40 => ?_) (fun hk40 => ?_)
        · exact .ex (x0 _ _ _ _ _ _)
        refine .bd (g := fun (y : UInt8) => A.ip (c8 y)) (idx_imm (e := 5) (es := 1) (h1 := by kernel_rfl) (h2 := by kernel_rfl) (h3 := fun _ => rfl) ..) fun y41 => ?_
        refine .s (uA ((y41.toNat : Int))) ?_
        refine .st (v := (iA (wr .i64 ((y41.toNat : Int))))) (aConvert_int (hs := by kernel_rfl) (hd := by kernel_rfl) ..) ?_
        refine .st (v := (iA (wr .i64 (12 + (wr .i64 ((y41.toNat : Int))))))) (aBin_add ..) ?_
        refine .bd (g := fun (y : List UInt8) => (A.imm (List.map c8 y) false)) (cut_imm (e := 5) (es := 1) (f := c8) (l := y8) (a := 12) (b := wr .i64 (12 + (wr .i64 ((y41.toNat : Int))))) (by kernel_rfl) (by kernel_rfl) (fun _ => rfl) (.inr ⟨_, rfl⟩) (.inr ⟨_, rfl⟩)) fun y42 => ?_
        refine .bd (g := fun (y : List UInt8) => ((A.sl 0 0 y.length false), [Blk.row false 1 (List.map c8 y)])) (app_row (e := 5) (es := 1) (by_ := 1) (z := [(uA 0)]) (by kernel_rfl) (by kernel_rfl) (by kernel_rfl) (by kernel_rfl) rfl (by decide) (by decide) (by kernel_rfl) (f := c8) (fun _ => rfl) ce_c8 (l := v6) (l2 := y42) (b := 0) rfl (by decide) (els_imm ..)) fun y43 => ?_
        refine .bd (g := fun (y : UInt8) => A.ip (c8 y)) (idx_imm (e := 5) (es := 1) (h1 := by kernel_rfl) (h2 := by kernel_rfl) (h3 := fun _ => rfl) ..) fun y44 => ?_
        refine .s (uA ((y44.toNat : Int))) ?_
        refine .st (v := (bA (decide (2 ≤ ((y44.toNat : Int)))))) (aBin_geq ..) ?_
        refine .biHN (fun hk45 => ?_) (fun hk45 => ?_)
        · refine .st (v := (iA (wr .i64 (v5 + 1)))) (aBin_add ..) ?_
          exact .ex (x1 _ _ _ _ _ _)
        refine .st (v := (iA (wr .i64 (v5 + 1)))) (aBin_add ..) ?_
        refine .s [Blk.row false 1 (List.map c8 y43)] ?_
        refine .cT (by kernel_rfl) ?_
        exact ih _ _
      refine .bb ?_
      refine .cr ?_
      iterate 11 refine .uc ?_
      refine .bg (fun t (y : Unit) => ∃ j47 : A, t = [(A.v undef), j47]) ?_ ?_
      · refine .gU ?_
        exact .lg ⟨_, rfl⟩
      rintro _ y46 ⟨j47, rfl⟩
      iterate 2 refine .uc ?_
      refine .bg (fun t (y : Bool) => ∃ j49 : A, t = [(bA y), j49]) ?_ ?_
      · refine .bKT hc21 ?_
        exact .lg ⟨_, rfl⟩
      rintro _ y48 ⟨j49, rfl⟩
      iterate 2 refine .uc ?_
      refine .biHN (fun hk50 => ?_) (fun hk50 => ?_)
      · exact .ex (x0 _ _ _ _ _ _)
      refine .bd (g := fun (y : UInt8) => A.ip (c8 y)) (idx_imm (e := 5) (es := 1) (h1 := by kernel_rfl) (h2 := by kernel_rfl) (h3 := fun _ => rfl) ..) fun y51 => ?_
      refine .s (uA ((y51.toNat : Int))) ?_
      refine .st (v := (iA (wr .i64 ((y51.toNat : Int))))) (aConvert_int (hs := by kernel_rfl) (hd := by kernel_rfl) ..) ?_
      refine .st (v := (iA (wr .i64 (12 + (wr .i64 ((y51.toNat : Int))))))) (aBin_add ..) ?_
      refine .bd (g := fun (y : List UInt8) => (A.imm (List.map c8 y) false)) (cut_imm (e := 5) (es := 1) (f := c8) (l := y8) (a := 12) (b := wr .i64 (12 + (wr .i64 ((y51.toNat : Int))))) (by kernel_rfl) (by kernel_rfl) (fun _ => rfl) (.inr ⟨_, rfl⟩) (.inr ⟨_, rfl⟩)) fun y52 => ?_
      refine .bd (g := fun (y : List UInt8) => ((A.sl 0 0 y.length false), [Blk.row false 1 (List.map c8 y)])) (app_row (e := 5) (es := 1) (by_ := 1) (z := [(uA 0)]) (by kernel_rfl) (by kernel_rfl) (by kernel_rfl) (by kernel_rfl) rfl (by decide) (by decide) (by kernel_rfl) (f := c8) (fun _ => rfl) ce_c8 (l := v6) (l2 := y52) (b := 0) rfl (by decide) (els_imm ..)) fun y53 => ?_
      refine .bd (g := fun (y : UInt8) => A.ip (c8 y)) (idx_imm (e := 5) (es := 1) (h1 := by kernel_rfl) (h2 := by kernel_rfl) (h3 := fun _ => rfl) ..) fun y54 => ?_
      refine .s (uA ((y54.toNat : Int))) ?_
      refine .st (v := (bA (decide (2 ≤ ((y54.toNat : Int)))))) (aBin_geq ..) ?_
      refine .biHN (fun hk55 => ?_) (fun hk55 => ?_)
      · refine .st (v := (iA (wr .i64 (v5 + 1)))) (aBin_add ..) ?_
        exact .ex (x1 _ _ _ _ _ _)
      refine .st (v := (iA (wr .i64 (v5 + 1)))) (aBin_add ..) ?_
      refine .s [Blk.row false 1 (List.map c8 y53)] ?_
      refine .cT (by kernel_rfl) ?_
      exact ih _ _
    exact .ex (x2 _ _ _ _ _ _ _)
def F62 (n : Nat) (a0 : (List (List UInt8))) (a1 : Int) : Option ((List UInt8) × Int) :=
  Option.bind (F62_62_0 n a0 a1 ([]) 0 (n+8) 0 (([] : List UInt8))) fun o56 => match o56 with | (Sum.inl ((y57, y58))) => some (([], y57)) | (Sum.inr ((Sum.inl ((y63, y64))))) => some ((y64, y63)) | (Sum.inr ((Sum.inr y69))) => some (([], 0))
theorem T62 (C : Nat → List A → Option A) (n : Nat) (h63 : Orc63 C) (h72 : Orc72 C) (a0 : (List (List UInt8))) (a1 : Int) : J (fun (o : R) y => ∃ v, o.1 = .ret v ∧ snapE o.2 v = (A.tup [(A.imm (List.map c8 y.1) false), (iA y.2)])) (evCall1 (cx C) (evCall (cx C) (n+8)) (evCallY (cx C) (n+8)) (n+8) 62 [(A.imm (List.map (cL c8) a0) false), (iA a1)] [] 0) some (F62 n a0 a1) some := by
  refine .lp (e62 ..) ?_
  unfold F62
  refine .s (A.imm [] true) ?_
  refine .as (T62_62_0 C n h63 h72 a0 a1 ([]) 0 _ _ _ _ ?_ ?_ ?_ _ 0 (([] : List UInt8)))
  · intro y57 y58 j59 j60 j61 j62
    refine .un rfl ?_
    exact .lf rfl rfl ⟨_, rfl, by show snapE [Blk.row false 1 (List.map c8 y58)] (A.tup [(A.imm [] true), (iA y57)]) = _; first | (simp only [snap, snapW, snapWs, snapWss, snapWss_map, trim, List.map_cons, List.map_nil, fl_cI, fl_c8, fl_cB, fl_cS, fl_cL, fl_S_Write, fl_S_Disk, fl_S_Journal, snapWs_app, fq_S_Write, fq_S_Disk, fq_S_Journal, snapE]; done) | (simp only [snap, snapW, snapWs, snapWss, snapWss_map, trim, fl_cI, fl_c8, fl_cB, fl_cS, fl_cL, fl_S_Write, fl_S_Disk, fl_S_Journal, snapWs_app, fq_S_Write, fq_S_Disk, fq_S_Journal, snapE]; done) | (simp only [snap, snapW, snapWs, snapWss, snapWss_map, trim, fl_cI, fl_c8, fl_cB, fl_cS, fl_cL, fl_S_Write, fl_S_Disk, fl_S_Journal, snapWs_app, fq_S_Write, fq_S_Disk, fq_S_Journal, snapE]; rfl)⟩
  · intro y63 y64 j65 j66 j67 j68
    refine .un rfl ?_
    exact .lf rfl rfl ⟨_, rfl, by show snapE [Blk.row false 1 (List.map c8 y64)] (A.tup [(A.sl 0 0 y64.length false), (iA y63)]) = _; first | (simp only [snap, snapW, snapWs, snapWss, snapWss_map, trim, List.map_cons, List.map_nil, fl_cI, fl_c8, fl_cB, fl_cS, fl_cL, fl_S_Write, fl_S_Disk, fl_S_Journal, snapWs_app, fq_S_Write, fq_S_Disk, fq_S_Journal, snapE, snapGE_row (H := [Blk.row false 1 (List.map c8 y64)]) (b := 0) (es := 1) (wr := false) (l := y64) fl_c8 rfl]; done) | (simp only [snap, snapW, snapWs, snapWss, snapWss_map, trim, fl_cI, fl_c8, fl_cB, fl_cS, fl_cL, fl_S_Write, fl_S_Disk, fl_S_Journal, snapWs_app, fq_S_Write, fq_S_Disk, fq_S_Journal, snapE, snapGE_row (H := [Blk.row false 1 (List.map c8 y64)]) (b := 0) (es := 1) (wr := false) (l := y64) fl_c8 rfl]; done) | (simp only [snap, snapW, snapWs, snapWss, snapWss_map, trim, fl_cI, fl_c8, fl_cB, fl_cS, fl_cL, fl_S_Write, fl_S_Disk, fl_S_Journal, snapWs_app, fq_S_Write, fq_S_Disk, fq_S_Journal, snapE, snapGE_row (H := [Blk.row false 1 (List.map c8 y64)]) (b := 0) (es := 1) (wr := false) (l := y64) fl_c8 rfl]; rfl)⟩
  · intro y69 j70 j71 j72 j73 j74 j75
    refine .un rfl ?_
    refine .cT (by kernel_rfl) ?_
    exact .lf rfl rfl ⟨_, rfl, by show snapE [Blk.row false 1 (List.map c8 y69)] (A.tup [(A.imm [] true), (iA 0)]) = _; first | (simp only [snap, snapW, snapWs, snapWss, snapWss_map, trim, List.map_cons, List.map_nil, fl_cI, fl_c8, fl_cB, fl_cS, fl_cL, fl_S_Write, fl_S_Disk, fl_S_Journal, snapWs_app, fq_S_Write, fq_S_Disk, fq_S_Journal, snapE]; done) | (simp only [snap, snapW, snapWs, snapWss, snapWss_map, trim, fl_cI, fl_c8, fl_cB, fl_cS, fl_cL, fl_S_Write, fl_S_Disk, fl_S_Journal, snapWs_app, fq_S_Write, fq_S_Disk, fq_S_Journal, snapE]; done) | (simp only [snap, snapW, snapWs, snapWss, snapWss_map, trim, fl_cI, fl_c8, fl_cB, fl_cS, fl_cL, fl_S_Write, fl_S_Disk, fl_S_Journal, snapWs_app, fq_S_Write, fq_S_Disk, fq_S_Journal, snapE]; rfl)⟩
def G62 (a0 : (List (List UInt8))) (a1 : Int) : Option ((List UInt8) × Int) := F62 fuel0 a0 a1
def Orc62 (C : Nat → List A → Option A) : Prop := ∀ (a0 : (List (List UInt8))) (a1 : Int), C 62 [(A.imm (List.map (cL c8) a0) false), (iA a1)] = (G62 a0 a1).map fun y => (A.tup [(A.imm (List.map c8 y.1) false), (iA y.2)])
def F34_34_0 (n : Nat) (v1 : (List (List UInt8))) (v2 : (List (List UInt8))) : Nat → Int → Int → (List (List UInt8)) → Option ((List (List UInt8)))
  | 0, _, _, _ => none
  | m + 1, v3, v4, v5 => Option.bind (G62 v1 v3) fun y6 => Option.bind (bif (y6.2 == 0) then (some true) else (Option.bind (getI v1 v3) fun y8 => Option.bind (subI y8 0 4) fun y9 => Option.bind (G63 y9) fun y10 => some (decide (y10 < v4)))) fun y11 => bif y11 then (some v5) else (Option.bind (getI v1 v3) fun y21 => Option.bind (subI y21 0 4) fun y22 => Option.bind (G63 y22) fun y23 => Option.bind (appI 24 v5 ([y6.1])) fun y24 => F34_34_0 n v1 v2 m (wr .i64 (v3 + y6.2)) y23 y24)
theorem T34_34_0 (C : Nat → List A → Option A) (n : Nat) (h62 : Orc62 C) (h63 : Orc63 C) (v1 : (List (List UInt8))) (v2 : (List (List UInt8))) {ρ γ : Type} {φ : ρ → γ → Prop} {kL : R → Option ρ} {K : ((List (List UInt8))) → Option γ} (kx kg : Nat → St → Option R) (kr : St → Option R) (kp : A → St → Option R) (x0 : ∀ (o0 : (List (List UInt8))) (s0 : A) (s3 : A) (s4 : A) (s5 : A), J φ (kr (St.mk [(0, s0), (2, (A.sl 0 0 o0.length false)), (3, s3), (4, s4), (5, s5)] [Blk.row false 1 (List.map (cL c8) o0)])) kL (K o0) some) :
    ∀ (m : Nat) (v3 : Int) (v4 : Int) (v5 : (List (List UInt8))), J φ (loopR (cx C) (evCall (cx C) (n+8)) (evCallY (cx C) (n+8)) (n+8) 34 0 0 1 kx kg kr kp m (St.mk [(0, (A.imm (List.map (cL c8) v1) false)), (2, (A.imm (List.map (cL c8) v2) true)), (3, (A.sl 0 0 v5.length false)), (4, (iA v3)), (5, (A.v (Value.int .u64 v4)))] [Blk.row false 1 (List.map (cL c8) v5)])) kL (F34_34_0 n v1 v2 m v3 v4 v5) K := by
  intro m
  induction m with
  | zero => intros; exact .nn
  | succ m ih =>
    intro v3 v4 v5
    refine .lp (e34_0 ..) ?_
    unfold F34_34_0
    refine .bd (g := fun (y : ((List UInt8) × Int)) => (A.tup [(A.imm (List.map c8 y.1) false), (iA y.2)])) (by show C 62 [snap [Blk.row false 1 (List.map (cL c8) v5)] (A.imm (List.map (cL c8) v1) false), snap [Blk.row false 1 (List.map (cL c8) v5)] (iA v3)] = _; simp only [snap, snapW, snapWs, snapWss, snapWss_map, trim, List.map_cons, List.map_nil, fl_cI, fl_c8, fl_cB, fl_cS, fl_cL, fl_S_Write, fl_S_Disk, fl_S_Journal, snapWs_app, fq_S_Write, fq_S_Disk, fq_S_Journal, snapG_row (H := [Blk.row false 1 (List.map (cL c8) v5)]) (b := 0) (es := 1) (l := v5) (fl_cL fl_c8) rfl]; exact h62 v1 v3) fun y6 => ?_
    refine .s (A.imm (List.map c8 y6.1) false) (.s (iA y6.2) ?_)
    refine .st (v := (bA (y6.2 == 0))) (aBin_eql ..) ?_
    refine .bg (fun t (y : Bool) => ∃ j12 j13 j14 j15 j16 j17 j18 j19 : A, t = [(bA y), j12, j13, j14, j15, j16, j17, j18, j19]) ?_ ?_
    · refine .biH (fun hk7 => ?_) (fun hk7 => ?_)
      · exact .lg ⟨_, _, _, _, _, _, _, _, rfl⟩
      refine .bd (g := fun (y : (List UInt8)) => A.ip ((cL c8) y)) (idx_imm (e := 35) (es := 1) (h1 := by kernel_rfl) (h2 := by kernel_rfl) (h3 := fun _ => rfl) ..) fun y8 => ?_
      refine .s (A.imm (List.map c8 y8) false) ?_
      refine .bd (g := fun (y : List UInt8) => (A.imm (List.map c8 y) false)) (cut_imm (e := 5) (es := 1) (f := c8) (l := y8) (a := 0) (b := 4) (by kernel_rfl) (by kernel_rfl) (fun _ => rfl) (.inl ⟨rfl, rfl⟩) (.inr ⟨_, rfl⟩)) fun y9 => ?_
      refine .bd (g := fun (y : Int) => (A.v (Value.int .u64 y))) (by show C 63 [snap [Blk.row false 1 (List.map (cL c8) v5)] (A.imm (List.map c8 y9) false)] = _; simp only [snap, snapW, snapWs, snapWss, snapWss_map, trim, List.map_cons, List.map_nil, fl_cI, fl_c8, fl_cB, fl_cS, fl_cL, fl_S_Write, fl_S_Disk, fl_S_Journal, snapWs_app, fq_S_Write, fq_S_Disk, fq_S_Journal, snapG_row (H := [Blk.row false 1 (List.map (cL c8) v5)]) (b := 0) (es := 1) (l := v5) (fl_cL fl_c8) rfl]; exact h63 y9) fun y10 => ?_
      refine .st (v := (bA (decide (y10 < v4)))) (aBin_lss ..) ?_
      exact .lg ⟨_, _, _, _, _, _, _, _, rfl⟩
    rintro _ y11 ⟨j12, j13, j14, j15, j16, j17, j18, j19, rfl⟩
    iterate 9 refine .uc ?_
    refine .biHN (fun hk20 => ?_) (fun hk20 => ?_)
    · exact .ex (x0 _ _ _ _ _)
    refine .bd (g := fun (y : (List UInt8)) => A.ip ((cL c8) y)) (idx_imm (e := 35) (es := 1) (h1 := by kernel_rfl) (h2 := by kernel_rfl) (h3 := fun _ => rfl) ..) fun y21 => ?_
    refine .s (A.imm (List.map c8 y21) false) ?_
    refine .bd (g := fun (y : List UInt8) => (A.imm (List.map c8 y) false)) (cut_imm (e := 5) (es := 1) (f := c8) (l := y21) (a := 0) (b := 4) (by kernel_rfl) (by kernel_rfl) (fun _ => rfl) (.inl ⟨rfl, rfl⟩) (.inr ⟨_, rfl⟩)) fun y22 => ?_
    refine .bd (g := fun (y : Int) => (A.v (Value.int .u64 y))) (by show C 63 [snap [Blk.row false 1 (List.map (cL c8) v5)] (A.imm (List.map c8 y22) false)] = _; simp only [snap, snapW, snapWs, snapWss, snapWss_map, trim, List.map_cons, List.map_nil, fl_cI, fl_c8, fl_cB, fl_cS, fl_cL, fl_S_Write, fl_S_Disk, fl_S_Journal, snapWs_app, fq_S_Write, fq_S_Disk, fq_S_Journal, snapG_row (H := [Blk.row false 1 (List.map (cL c8) v5)]) (b := 0) (es := 1) (l := v5) (fl_cL fl_c8) rfl]; exact h63 y22) fun y23 => ?_
    refine .s (A.imm [[(A.imm (List.map c8 y6.1) false)]] true) ?_
    refine .bd (g := fun (y : List (List UInt8)) => ((A.sl 0 0 y.length false), [Blk.row false 1 (List.map (cL c8) y)])) (app_row (e := 35) (es := 1) (by_ := 24) (z := [(A.imm [] true)]) (by kernel_rfl) (by kernel_rfl) (by kernel_rfl) (by kernel_rfl) rfl (by decide) (by decide) (by kernel_rfl) (f := (cL c8)) (fun _ => rfl) ce_cL (l := v5) (l2 := [y6.1]) (b := 0) rfl (by decide) (els_imm (f := (cL c8)) ([y6.1] : List (List UInt8)) _ _)) fun y24 => ?_
    refine .st (v := (iA (wr .i64 (v3 + y6.2)))) (aBin_add ..) ?_
    refine .s [Blk.row false 1 (List.map (cL c8) y24)] ?_
    refine .cT (by kernel_rfl) ?_
    exact ih _ _ _
def F34 (n : Nat) (a0 : (List (List UInt8))) : Option (List (List UInt8)) :=
  Option.bind (F34_34_0 n a0 ([]) (n+8) 0 0 (([] : List (List UInt8)))) fun o25 => match o25 with | y26 => some y26
theorem T34 (C : Nat → List A → Option A) (n : Nat) (h62 : Orc62 C) (h63 : Orc63 C) (a0 : (List (List UInt8))) : J (fun (o : R) y => ∃ v, o.1 = .ret v ∧ snapE o.2 v = (A.imm (List.map (cL c8) y) false)) (evCall1 (cx C) (evCall (cx C) (n+8)) (evCallY (cx C) (n+8)) (n+8) 34 [(A.imm (List.map (cL c8) a0) false)] [] 0) some (F34 n a0) some := by
  refine .lp (e34 ..) ?_
  unfold F34
  refine .s (A.imm [] true) ?_
  refine .as (T34_34_0 C n h62 h63 a0 ([]) _ _ _ _ ?_ _ 0 0 (([] : List (List UInt8))))
  · intro y26 j27 j28 j29 j30
    refine .un rfl ?_
    exact .lf rfl rfl ⟨_, rfl, by show snapE [Blk.row false 1 (List.map (cL c8) y26)] (A.sl 0 0 y26.length false) = _; first | (simp only [snap, snapW, snapWs, snapWss, snapWss_map, trim, List.map_cons, List.map_nil, fl_cI, fl_c8, fl_cB, fl_cS, fl_cL, fl_S_Write, fl_S_Disk, fl_S_Journal, snapWs_app, fq_S_Write, fq_S_Disk, fq_S_Journal, snapE, snapGE_row (H := [Blk.row false 1 (List.map (cL c8) y26)]) (b := 0) (es := 1) (wr := false) (l := y26) (fl_cL fl_c8) rfl]; done) | (simp only [snap, snapW, snapWs, snapWss, snapWss_map, trim, fl_cI, fl_c8, fl_cB, fl_cS, fl_cL, fl_S_Write, fl_S_Disk, fl_S_Journal, snapWs_app, fq_S_Write, fq_S_Disk, fq_S_Journal, snapE, snapGE_row (H := [Blk.row false 1 (List.map (cL c8) y26)]) (b := 0) (es := 1) (wr := false) (l := y26) (fl_cL fl_c8) rfl]; done) | (simp only [snap, snapW, snapWs, snapWss, snapWss_map, trim, fl_cI, fl_c8, fl_cB, fl_cS, fl_cL, fl_S_Write, fl_S_Disk, fl_S_Journal, snapWs_app, fq_S_Write, fq_S_Disk, fq_S_Journal, snapE, snapGE_row (H := [Blk.row false 1 (List.map (cL c8) y26)]) (b := 0) (es := 1) (wr := false) (l := y26) (fl_cL fl_c8) rfl]; rfl)⟩
def G34 (a0 : (List (List UInt8))) : Option (List (List UInt8)) := F34 fuel0 a0
def Orc34 (C : Nat → List A → Option A) : Prop := ∀ (a0 : (List (List UInt8))), C 34 [(A.imm (List.map (cL c8) a0) false)] = (G34 a0).map fun y => (A.imm (List.map (cL c8) y) false)
def F13 (n : Nat) (a0 : S_Disk) : Option (S_Journal × Int) :=
  Option.bind (G33 a0) fun y1 => bif (y1 != 0) then (some (((S_Journal.mk ([]) 0 0), y1))) else (bif a0.Stopped then (some (((S_Journal.mk ([]) 0 0), 40))) else (bif (decide (0 < ((a0.Pending.length : Int)))) then (some (((S_Journal.mk ([]) 0 0), 1))) else (Option.bind (G34 a0.Sectors) fun y5 => some (((S_Journal.mk y5 ((a0.Sectors.length : Int)) ((y5.length : Int))), 0)))))
theorem T13 (C : Nat → List A → Option A) (n : Nat) (h33 : Orc33 C) (h34 : Orc34 C) (a0 : S_Disk) : J (fun (o : R) y => ∃ v, o.1 = .ret v ∧ snapE o.2 v = (A.tup [(A.agg [(A.imm (List.map (cL c8) y.1.Records) false), (iA y.1.Many), (iA y.1.Synced)]), (iA y.2)])) (evCall1 (cx C) (evCall (cx C) (n+8)) (evCallY (cx C) (n+8)) (n+8) 13 [(A.agg (c_S_Disk a0))] [] 0) some (F13 n a0) some := by
  refine .lp (e13 ..) ?_
  unfold F13
  refine .s ((A.ptr 0 0), [Blk.box (c_S_Disk a0)]) (.s ((A.ptr 1 0), [Blk.box (c_S_Disk a0), Blk.box [(A.imm [] true), (iA 0), (iA 0)]]) (.s (A.agg (c_S_Disk a0)) ?_))
  refine .bd (g := fun (y : Int) => (iA y)) (by show C 33 [snap [Blk.box (c_S_Disk a0), Blk.box [(A.imm [] true), (iA 0), (iA 0)]] (A.agg (c_S_Disk a0))] = _; simp only [snap, snapW, snapWs, snapWss, snapWss_map, trim, List.map_cons, List.map_nil, fl_cI, fl_c8, fl_cB, fl_cS, fl_cL, fl_S_Write, fl_S_Disk, fl_S_Journal, snapWs_app, fq_S_Write, fq_S_Disk, fq_S_Journal]; exact h33 a0) fun y1 => ?_
  refine .st (v := (bA (y1 != 0))) (aBin_neq ..) ?_
  refine .biHN (fun hk2 => ?_) (fun hk2 => ?_)
  · refine .s (A.agg [(A.imm [] true), (iA 0), (iA 0)]) (.s [Blk.box (c_S_Disk a0), Blk.box [(A.imm [] true), (iA 0), (iA 0)]] (.s (A.agg [(A.imm [] true), (iA 0), (iA 0)]) ?_))
    exact .lf rfl rfl ⟨_, rfl, by show snapE [Blk.box (c_S_Disk a0), Blk.box [(A.imm [] true), (iA 0), (iA 0)]] (A.tup [(A.agg [(A.imm [] true), (iA 0), (iA 0)]), (iA y1)]) = _; first | (simp only [snap, snapW, snapWs, snapWss, snapWss_map, trim, List.map_cons, List.map_nil, fl_cI, fl_c8, fl_cB, fl_cS, fl_cL, fl_S_Write, fl_S_Disk, fl_S_Journal, snapWs_app, fq_S_Write, fq_S_Disk, fq_S_Journal, snapE]; done) | (simp only [snap, snapW, snapWs, snapWss, snapWss_map, trim, fl_cI, fl_c8, fl_cB, fl_cS, fl_cL, fl_S_Write, fl_S_Disk, fl_S_Journal, snapWs_app, fq_S_Write, fq_S_Disk, fq_S_Journal, snapE]; done) | (simp only [snap, snapW, snapWs, snapWss, snapWss_map, trim, fl_cI, fl_c8, fl_cB, fl_cS, fl_cL, fl_S_Write, fl_S_Disk, fl_S_Journal, snapWs_app, fq_S_Write, fq_S_Disk, fq_S_Journal, snapE]; rfl)⟩
  refine .s (A.ptr 0 3) (.s (bA a0.Stopped) ?_)
  refine .biHN (fun hk3 => ?_) (fun hk3 => ?_)
  · refine .s (A.agg [(A.imm [] true), (iA 0), (iA 0)]) (.s [Blk.box (c_S_Disk a0), Blk.box [(A.imm [] true), (iA 0), (iA 0)]] (.s (A.agg [(A.imm [] true), (iA 0), (iA 0)]) ?_))
    exact .lf rfl rfl ⟨_, rfl, by show snapE [Blk.box (c_S_Disk a0), Blk.box [(A.imm [] true), (iA 0), (iA 0)]] (A.tup [(A.agg [(A.imm [] true), (iA 0), (iA 0)]), (iA 40)]) = _; first | (simp only [snap, snapW, snapWs, snapWss, snapWss_map, trim, List.map_cons, List.map_nil, fl_cI, fl_c8, fl_cB, fl_cS, fl_cL, fl_S_Write, fl_S_Disk, fl_S_Journal, snapWs_app, fq_S_Write, fq_S_Disk, fq_S_Journal, snapE]; done) | (simp only [snap, snapW, snapWs, snapWss, snapWss_map, trim, fl_cI, fl_c8, fl_cB, fl_cS, fl_cL, fl_S_Write, fl_S_Disk, fl_S_Journal, snapWs_app, fq_S_Write, fq_S_Disk, fq_S_Journal, snapE]; done) | (simp only [snap, snapW, snapWs, snapWss, snapWss_map, trim, fl_cI, fl_c8, fl_cB, fl_cS, fl_cL, fl_S_Write, fl_S_Disk, fl_S_Journal, snapWs_app, fq_S_Write, fq_S_Disk, fq_S_Journal, snapE]; rfl)⟩
  refine .s (A.ptr 0 1) (.s (A.imm (List.map c_S_Write a0.Pending) false) ?_)
  refine .st (v := (iA ((a0.Pending.length : Int)))) (len_imm (e := 76) (h1 := by kernel_rfl) ..) ?_
  refine .st (v := (bA (decide (0 < ((a0.Pending.length : Int)))))) (aBin_gtr ..) ?_
  refine .biHN (fun hk4 => ?_) (fun hk4 => ?_)
  · refine .s (A.agg [(A.imm [] true), (iA 0), (iA 0)]) (.s [Blk.box (c_S_Disk a0), Blk.box [(A.imm [] true), (iA 0), (iA 0)]] (.s (A.agg [(A.imm [] true), (iA 0), (iA 0)]) ?_))
    exact .lf rfl rfl ⟨_, rfl, by show snapE [Blk.box (c_S_Disk a0), Blk.box [(A.imm [] true), (iA 0), (iA 0)]] (A.tup [(A.agg [(A.imm [] true), (iA 0), (iA 0)]), (iA 1)]) = _; first | (simp only [snap, snapW, snapWs, snapWss, snapWss_map, trim, List.map_cons, List.map_nil, fl_cI, fl_c8, fl_cB, fl_cS, fl_cL, fl_S_Write, fl_S_Disk, fl_S_Journal, snapWs_app, fq_S_Write, fq_S_Disk, fq_S_Journal, snapE]; done) | (simp only [snap, snapW, snapWs, snapWss, snapWss_map, trim, fl_cI, fl_c8, fl_cB, fl_cS, fl_cL, fl_S_Write, fl_S_Disk, fl_S_Journal, snapWs_app, fq_S_Write, fq_S_Disk, fq_S_Journal, snapE]; done) | (simp only [snap, snapW, snapWs, snapWss, snapWss_map, trim, fl_cI, fl_c8, fl_cB, fl_cS, fl_cL, fl_S_Write, fl_S_Disk, fl_S_Journal, snapWs_app, fq_S_Write, fq_S_Disk, fq_S_Journal, snapE]; rfl)⟩
  refine .s (A.ptr 0 0) (.s (A.imm (List.map (cL c8) a0.Sectors) false) ?_)
  refine .bd (g := fun (y : (List (List UInt8))) => (A.imm (List.map (cL c8) y) false)) (by show C 34 [snap [Blk.box (c_S_Disk a0), Blk.box [(A.imm [] true), (iA 0), (iA 0)]] (A.imm (List.map (cL c8) a0.Sectors) false)] = _; simp only [snap, snapW, snapWs, snapWss, snapWss_map, trim, List.map_cons, List.map_nil, fl_cI, fl_c8, fl_cB, fl_cS, fl_cL, fl_S_Write, fl_S_Disk, fl_S_Journal, snapWs_app, fq_S_Write, fq_S_Disk, fq_S_Journal]; exact h34 a0.Sectors) fun y5 => ?_
  refine .s (A.ptr 0 0) (.s (A.imm (List.map (cL c8) a0.Sectors) false) ?_)
  refine .st (v := (iA ((a0.Sectors.length : Int)))) (len_imm (e := 35) (h1 := by kernel_rfl) ..) ?_
  refine .st (v := (iA ((y5.length : Int)))) (len_imm (e := 35) (h1 := by kernel_rfl) ..) ?_
  refine .s (A.agg [(A.imm (List.map (cL c8) y5) false), (iA ((a0.Sectors.length : Int))), (iA ((y5.length : Int)))]) (.s [Blk.box (c_S_Disk a0), Blk.box [(A.imm (List.map (cL c8) y5) false), (iA ((a0.Sectors.length : Int))), (iA ((y5.length : Int)))]] (.s (A.agg [(A.imm (List.map (cL c8) y5) false), (iA ((a0.Sectors.length : Int))), (iA ((y5.length : Int)))]) ?_))
  exact .lf rfl rfl ⟨_, rfl, by show snapE [Blk.box (c_S_Disk a0), Blk.box [(A.imm (List.map (cL c8) y5) false), (iA ((a0.Sectors.length : Int))), (iA ((y5.length : Int)))]] (A.tup [(A.agg [(A.imm (List.map (cL c8) y5) false), (iA ((a0.Sectors.length : Int))), (iA ((y5.length : Int)))]), (iA 0)]) = _; first | (simp only [snap, snapW, snapWs, snapWss, snapWss_map, trim, List.map_cons, List.map_nil, fl_cI, fl_c8, fl_cB, fl_cS, fl_cL, fl_S_Write, fl_S_Disk, fl_S_Journal, snapWs_app, fq_S_Write, fq_S_Disk, fq_S_Journal, snapE]; done) | (simp only [snap, snapW, snapWs, snapWss, snapWss_map, trim, fl_cI, fl_c8, fl_cB, fl_cS, fl_cL, fl_S_Write, fl_S_Disk, fl_S_Journal, snapWs_app, fq_S_Write, fq_S_Disk, fq_S_Journal, snapE]; done) | (simp only [snap, snapW, snapWs, snapWss, snapWss_map, trim, fl_cI, fl_c8, fl_cB, fl_cS, fl_cL, fl_S_Write, fl_S_Disk, fl_S_Journal, snapWs_app, fq_S_Write, fq_S_Disk, fq_S_Journal, snapE]; rfl)⟩
def G13 (a0 : S_Disk) : Option (S_Journal × Int) := F13 fuel0 a0
def Orc13 (C : Nat → List A → Option A) : Prop := ∀ (a0 : S_Disk), C 13 [(A.agg (c_S_Disk a0))] = (G13 a0).map fun y => (A.tup [(A.agg [(A.imm (List.map (cL c8) y.1.Records) false), (iA y.1.Many), (iA y.1.Synced)]), (iA y.2)])
def F24_24_0 (n : Nat) (v2 : (List (List UInt8))) (v3 : (List (List UInt8))) (v4 : Bool) : Nat → Int → Option ((Bool) ⊕ (Unit))
  | 0, _ => none
  | m + 1, v5 => bif (decide (v5 < ((v2.length : Int)))) then (Option.bind (getI v2 v5) fun y7 => Option.bind (getI v3 v5) fun y8 => bif (!strEq (bstr y7) (bstr y8)) then (some ((Sum.inl false))) else (F24_24_0 n v2 v3 v4 m (wr .i64 (v5 + 1)))) else (some ((Sum.inr (()))))
theorem T24_24_0 (C : Nat → List A → Option A) (n : Nat) (v2 : (List (List UInt8))) (v3 : (List (List UInt8))) (v4 : Bool) {ρ γ : Type} {φ : ρ → γ → Prop} {kL : R → Option ρ} {K : ((Bool) ⊕ (Unit)) → Option γ} (kx kg : Nat → St → Option R) (kr : St → Option R) (kp : A → St → Option R) (x0 : ∀ (o0 : Bool) (s0 : A) (s1 : A) (s5 : A), J φ (kr (St.mk [(0, s0), (1, s1), (4, (bA o0)), (5, s5)] [])) kL (K (Sum.inl o0)) some) (x1 : ∀ (s0 : A) (s1 : A) (s4 : A) (s5 : A), J φ (kx 0 (St.mk [(0, s0), (1, s1), (4, s4), (5, s5)] [])) kL (K (Sum.inr (()))) some) :
    ∀ (m : Nat) (v5 : Int), J φ (loopR (cx C) (evCall (cx C) (n+8)) (evCallY (cx C) (n+8)) (n+8) 24 0 0 0 kx kg kr kp m (St.mk [(0, (A.imm (List.map (cL c8) v2) false)), (1, (A.imm (List.map (cL c8) v3) false)), (4, (bA v4)), (5, (iA v5))] [])) kL (F24_24_0 n v2 v3 v4 m v5) K := by
  intro m
  induction m with
  | zero => intros; exact .nn
  | succ m ih =>
    intro v5
    refine .lp (e24_0 ..) ?_
    unfold F24_24_0
    refine .st (v := (iA ((v2.length : Int)))) (len_imm (e := 35) (h1 := by kernel_rfl) ..) ?_
    refine .st (v := (bA (decide (v5 < ((v2.length : Int)))))) (aBin_lss ..) ?_
    refine .biHN (fun hk6 => ?_) (fun hk6 => ?_)
    · refine .bd (g := fun (y : (List UInt8)) => A.ip ((cL c8) y)) (idx_imm (e := 35) (es := 1) (h1 := by kernel_rfl) (h2 := by kernel_rfl) (h3 := fun _ => rfl) ..) fun y7 => ?_
      refine .s (A.imm (List.map c8 y7) false) ?_
      refine .st (v := (A.v (Value.string (bstr y7)))) (conv_bs (e := 5) (l := y7) (by kernel_rfl) (by kernel_rfl) (by kernel_rfl) (by kernel_rfl) (els_imm ..) rfl) ?_
      refine .bd (g := fun (y : (List UInt8)) => A.ip ((cL c8) y)) (idx_imm (e := 35) (es := 1) (h1 := by kernel_rfl) (h2 := by kernel_rfl) (h3 := fun _ => rfl) ..) fun y8 => ?_
      refine .s (A.imm (List.map c8 y8) false) ?_
      refine .st (v := (A.v (Value.string (bstr y8)))) (conv_bs (e := 5) (l := y8) (by kernel_rfl) (by kernel_rfl) (by kernel_rfl) (by kernel_rfl) (els_imm ..) rfl) ?_
      refine .st (v := (bA (!strEq (bstr y7) (bstr y8)))) (aBin_neq_s ..) ?_
      refine .biHN (fun hk9 => ?_) (fun hk9 => ?_)
      · exact .ex (x0 _ _ _ _)
      refine .st (v := (iA (wr .i64 (v5 + 1)))) (aBin_add ..) ?_
      refine .s [] ?_
      refine .cT (by kernel_rfl) ?_
      exact ih _
    exact .ex (x1 _ _ _ _)
def F24 (n : Nat) (a0 : (List (List UInt8))) (a1 : (List (List UInt8))) : Option Bool :=
  bif (((a0.length : Int)) != ((a1.length : Int))) then (some false) else (Option.bind (F24_24_0 n a0 a1 false (n+8) 0) fun o10 => match o10 with | (Sum.inl y11) => some y11 | (Sum.inr _) => some true)
theorem T24 (C : Nat → List A → Option A) (n : Nat) (a0 : (List (List UInt8))) (a1 : (List (List UInt8))) : J (fun (o : R) y => ∃ v, o.1 = .ret v ∧ snapE o.2 v = (bA y)) (evCall1 (cx C) (evCall (cx C) (n+8)) (evCallY (cx C) (n+8)) (n+8) 24 [(A.imm (List.map (cL c8) a0) false), (A.imm (List.map (cL c8) a1) false)] [] 0) some (F24 n a0 a1) some := by
  refine .lp (e24 ..) ?_
  unfold F24
  refine .st (v := (iA ((a0.length : Int)))) (len_imm (e := 35) (h1 := by kernel_rfl) ..) ?_
  refine .st (v := (iA ((a1.length : Int)))) (len_imm (e := 35) (h1 := by kernel_rfl) ..) ?_
  refine .st (v := (bA (((a0.length : Int)) != ((a1.length : Int))))) (aBin_neq ..) ?_
  refine .biHN (fun hk1 => ?_) (fun hk1 => ?_)
  · exact .lf rfl rfl ⟨_, rfl, rfl⟩
  refine .as (T24_24_0 C n  a0 a1 false _ _ _ _ ?_ ?_ _ 0)
  · intro y11 j12 j13 j14
    refine .un rfl ?_
    exact .lf rfl rfl ⟨_, rfl, rfl⟩
  · intro j15 j16 j17 j18
    refine .un rfl ?_
    refine .cT (by kernel_rfl) ?_
    exact .lf rfl rfl ⟨_, rfl, rfl⟩
def G24 (a0 : (List (List UInt8))) (a1 : (List (List UInt8))) : Option Bool := F24 fuel0 a0 a1
def Orc24 (C : Nat → List A → Option A) : Prop := ∀ (a0 : (List (List UInt8))) (a1 : (List (List UInt8))), C 24 [(A.imm (List.map (cL c8) a0) false), (A.imm (List.map (cL c8) a1) false)] = (G24 a0 a1).map fun y => (bA y)
def F14 (n : Nat) (a0 : S_Journal) (a1 : S_Journal) : Option Bool :=
  Option.bind (bif (a0.Many == a1.Many) then (some (a0.Synced == a1.Synced)) else (some false)) fun y2 => Option.bind (bif y2 then (Option.bind (G24 a0.Records a1.Records) fun y9 => some y9) else (some false)) fun y10 => some y10
theorem T14 (C : Nat → List A → Option A) (n : Nat) (h24 : Orc24 C) (a0 : S_Journal) (a1 : S_Journal) : J (fun (o : R) y => ∃ v, o.1 = .ret v ∧ snapE o.2 v = (bA y)) (evCall1 (cx C) (evCall (cx C) (n+8)) (evCallY (cx C) (n+8)) (n+8) 14 [(A.agg (c_S_Journal a0)), (A.agg (c_S_Journal a1))] [] 0) some (F14 n a0 a1) some := by
  refine .lp (e14 ..) ?_
  unfold F14
  refine .s ((A.ptr 0 0), [Blk.box (c_S_Journal a0)]) (.s ((A.ptr 1 0), [Blk.box (c_S_Journal a0), Blk.box (c_S_Journal a1)]) (.s (A.ptr 0 1) (.s (iA a0.Many) (.s (A.ptr 1 1) (.s (iA a1.Many) ?_)))))
  refine .st (v := (bA (a0.Many == a1.Many))) (aBin_eql ..) ?_
  refine .bg (fun t (y : Bool) => ∃ j3 j4 j5 j6 j7 : A, t = [(bA y), j3, j4, j5, j6, j7]) ?_ ?_
  · refine .biH (fun hk1 => ?_) (fun hk1 => ?_)
    · refine .s (A.ptr 0 2) (.s (iA a0.Synced) (.s (A.ptr 1 2) (.s (iA a1.Synced) ?_)))
      refine .st (v := (bA (a0.Synced == a1.Synced))) (aBin_eql ..) ?_
      exact .lg ⟨_, _, _, _, _, rfl⟩
    exact .lg ⟨_, _, _, _, _, rfl⟩
  rintro _ y2 ⟨j3, j4, j5, j6, j7, rfl⟩
  iterate 6 refine .uc ?_
  refine .bg (fun t (y : Bool) => ∃ j11 j12 j13 j14 j15 : A, t = [(bA y), j11, j12, j13, j14, j15]) ?_ ?_
  · refine .biH (fun hk8 => ?_) (fun hk8 => ?_)
    · refine .s (A.ptr 0 0) (.s (A.imm (List.map (cL c8) a0.Records) false) (.s (A.ptr 1 0) (.s (A.imm (List.map (cL c8) a1.Records) false) ?_)))
      refine .bd (g := fun (y : Bool) => (bA y)) (by show C 24 [snap [Blk.box (c_S_Journal a0), Blk.box (c_S_Journal a1)] (A.imm (List.map (cL c8) a0.Records) false), snap [Blk.box (c_S_Journal a0), Blk.box (c_S_Journal a1)] (A.imm (List.map (cL c8) a1.Records) false)] = _; simp only [snap, snapW, snapWs, snapWss, snapWss_map, trim, List.map_cons, List.map_nil, fl_cI, fl_c8, fl_cB, fl_cS, fl_cL, fl_S_Write, fl_S_Disk, fl_S_Journal, snapWs_app, fq_S_Write, fq_S_Disk, fq_S_Journal]; exact h24 a0.Records a1.Records) fun y9 => ?_
      exact .lg ⟨_, _, _, _, _, rfl⟩
    exact .lg ⟨_, _, _, _, _, rfl⟩
  rintro _ y10 ⟨j11, j12, j13, j14, j15, rfl⟩
  iterate 6 refine .uc ?_
  exact .lf rfl rfl ⟨_, rfl, rfl⟩
def G14 (a0 : S_Journal) (a1 : S_Journal) : Option Bool := F14 fuel0 a0 a1
def Orc14 (C : Nat → List A → Option A) : Prop := ∀ (a0 : S_Journal) (a1 : S_Journal), C 14 [(A.agg (c_S_Journal a0)), (A.agg (c_S_Journal a1))] = (G14 a0 a1).map fun y => (bA y)
def F3 (n : Nat) (a0 : S_Disk) : Option Bool :=
  Option.bind (G10 ) fun y1 => bif (!y1) then (some false) else (Option.bind (G11 a0 ([])) fun y3 => bif (!y3) then (some true) else (Option.bind (G12 a0) fun y5 => Option.bind (G13 a0) fun y6 => Option.bind (G14 y5.1 y6.1) fun y7 => Option.bind (bif y7 then (some (y5.2 == y6.2)) else (some false)) fun y9 => some y9))
theorem T3 (C : Nat → List A → Option A) (n : Nat) (h10 : Orc10 C) (h11 : Orc11 C) (h12 : Orc12 C) (h13 : Orc13 C) (h14 : Orc14 C) (a0 : S_Disk) : J (fun (o : R) y => ∃ v, o.1 = .ret v ∧ snapE o.2 v = (bA y)) (evCall1 (cx C) (evCall (cx C) (n+8)) (evCallY (cx C) (n+8)) (n+8) 3 [(A.agg (c_S_Disk a0))] [] 0) some (F3 n a0) some := by
  refine .lp (e3 ..) ?_
  unfold F3
  refine .s ((A.ptr 0 0), [Blk.box (c_S_Disk a0)]) ?_
  refine .bd (g := fun (y : Bool) => (bA y)) (h10 ()) fun y1 => ?_
  refine .s (bA (!y1)) ?_
  refine .biHN (fun hk2 => ?_) (fun hk2 => ?_)
  · exact .lf rfl rfl ⟨_, rfl, rfl⟩
  refine .s (A.agg (c_S_Disk a0)) ?_
  refine .bd (g := fun (y : Bool) => (bA y)) (by show C 11 [snap [Blk.box (c_S_Disk a0)] (A.agg (c_S_Disk a0)), snap [Blk.box (c_S_Disk a0)] (A.imm [] true)] = _; simp only [snap, snapW, snapWs, snapWss, snapWss_map, trim, List.map_cons, List.map_nil, fl_cI, fl_c8, fl_cB, fl_cS, fl_cL, fl_S_Write, fl_S_Disk, fl_S_Journal, snapWs_app, fq_S_Write, fq_S_Disk, fq_S_Journal]; exact h11 a0 ([])) fun y3 => ?_
  refine .s (bA (!y3)) ?_
  refine .biHN (fun hk4 => ?_) (fun hk4 => ?_)
  · exact .lf rfl rfl ⟨_, rfl, rfl⟩
  refine .s (A.agg (c_S_Disk a0)) ?_
  refine .bd (g := fun (y : (S_Journal × Int)) => (A.tup [(A.agg [(A.imm (List.map (cL c8) y.1.Records) false), (iA y.1.Many), (iA y.1.Synced)]), (iA y.2)])) (by show C 12 [snap [Blk.box (c_S_Disk a0)] (A.agg (c_S_Disk a0))] = _; simp only [snap, snapW, snapWs, snapWss, snapWss_map, trim, List.map_cons, List.map_nil, fl_cI, fl_c8, fl_cB, fl_cS, fl_cL, fl_S_Write, fl_S_Disk, fl_S_Journal, snapWs_app, fq_S_Write, fq_S_Disk, fq_S_Journal]; exact h12 a0) fun y5 => ?_
  refine .s (A.agg (c_S_Journal y5.1)) (.s (iA y5.2) (.s ((A.ptr 1 0), [Blk.box (c_S_Disk a0), Blk.box [(A.imm [] true), (iA 0), (iA 0)]]) (.s [Blk.box (c_S_Disk a0), Blk.box (c_S_Journal y5.1)] (.s (A.agg (c_S_Disk a0)) ?_))))
  refine .bd (g := fun (y : (S_Journal × Int)) => (A.tup [(A.agg [(A.imm (List.map (cL c8) y.1.Records) false), (iA y.1.Many), (iA y.1.Synced)]), (iA y.2)])) (by show C 13 [snap [Blk.box (c_S_Disk a0), Blk.box (c_S_Journal y5.1)] (A.agg (c_S_Disk a0))] = _; simp only [snap, snapW, snapWs, snapWss, snapWss_map, trim, List.map_cons, List.map_nil, fl_cI, fl_c8, fl_cB, fl_cS, fl_cL, fl_S_Write, fl_S_Disk, fl_S_Journal, snapWs_app, fq_S_Write, fq_S_Disk, fq_S_Journal]; exact h13 a0) fun y6 => ?_
  refine .s (A.agg (c_S_Journal y6.1)) (.s (iA y6.2) (.s ((A.ptr 2 0), [Blk.box (c_S_Disk a0), Blk.box (c_S_Journal y5.1), Blk.box [(A.imm [] true), (iA 0), (iA 0)]]) (.s [Blk.box (c_S_Disk a0), Blk.box (c_S_Journal y5.1), Blk.box (c_S_Journal y6.1)] (.s (A.agg (c_S_Journal y5.1)) (.s (A.agg (c_S_Journal y6.1)) ?_)))))
  refine .bd (g := fun (y : Bool) => (bA y)) (by show C 14 [snap [Blk.box (c_S_Disk a0), Blk.box (c_S_Journal y5.1), Blk.box (c_S_Journal y6.1)] (A.agg (c_S_Journal y5.1)), snap [Blk.box (c_S_Disk a0), Blk.box (c_S_Journal y5.1), Blk.box (c_S_Journal y6.1)] (A.agg (c_S_Journal y6.1))] = _; simp only [snap, snapW, snapWs, snapWss, snapWss_map, trim, List.map_cons, List.map_nil, fl_cI, fl_c8, fl_cB, fl_cS, fl_cL, fl_S_Write, fl_S_Disk, fl_S_Journal, snapWs_app, fq_S_Write, fq_S_Disk, fq_S_Journal]; exact h14 y5.1 y6.1) fun y7 => ?_
  refine .bg (fun t (y : Bool) => ∃ j10 j11 j12 : A, t = [(bA y), j10, j11, j12]) ?_ ?_
  · refine .biH (fun hk8 => ?_) (fun hk8 => ?_)
    · refine .st (v := (bA (y5.2 == y6.2))) (aBin_eql ..) ?_
      exact .lg ⟨_, _, _, rfl⟩
    exact .lg ⟨_, _, _, rfl⟩
  rintro _ y9 ⟨j10, j11, j12, rfl⟩
  iterate 4 refine .uc ?_
  exact .lf rfl rfl ⟨_, rfl, rfl⟩
def G3 (a0 : S_Disk) : Option Bool := F3 fuel0 a0
end Go.Proofs.Ytobjniabioaefaa
