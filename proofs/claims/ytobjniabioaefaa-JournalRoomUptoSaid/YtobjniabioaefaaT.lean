/-
  The program's functions as plain functions: by a tool; each follows the interpreter.
-/
import Derived.Test.YtobjniabioaefaaT1
import Derived.KernelRfl
namespace Go.Proofs.Ytobjniabioaefaa
set_option linter.unusedVariables false
set_option linter.unusedSimpArgs false
set_option maxHeartbeats 4000000
set_option maxRecDepth 100000
def hk21_4 (a0 : S_Journal) : Blk := Blk.box [(A.imm (List.map (cL c8) a0.Records) false), (iA a0.Many), (iA ((a0.Records.length : Int)))]
def F21_21_0 (n : Nat) (v13 : Int) (v15 : (List (List UInt8))) (v16 : Int) (v18 : S_Journal) (v19 : S_Disk) (v20 : (List (List UInt8))) (v21 : Int) (v22 : Int) (v23 : (List (List UInt8))) (v24 : (List S_Write)) (v25 : Int) (v26 : Bool) (v27 : S_Journal) : Nat → Int → Int → Option (Int)
  | 0, _, _ => none
  | m + 1, v14, v17 => bif (decide (v17 < v16)) then (Option.bind (getI v15 v17) fun y29 => Option.bind (subI y29 0 4) fun y30 => Option.bind (G41 y30) fun y31 => Option.bind (subI y29 124 ((y29.length : Int))) fun y32 => Option.bind (G41 y32) fun y33 => F21_21_0 n v13 v15 v16 v18 v19 v20 v21 v22 v23 v24 v25 v26 v27 m ((if (if v14 < wr .u64 (y31 + 1) then wr .u64 (y31 + 1) else v14) < wr .u64 (y33 + 1) then wr .u64 (y33 + 1) else (if v14 < wr .u64 (y31 + 1) then wr .u64 (y31 + 1) else v14))) (wr .i64 (v17 + 1))) else (some v14)
theorem T21_21_0 (C : Nat → List A → Option A) (n : Nat) (h12 : Orc12 C) (h17 : Orc17 C) (h26 : Orc26 C) (h27 : Orc27 C) (h31 : Orc31 C) (h35 : Orc35 C) (h36 : Orc36 C) (h41 : Orc41 C) (h43 : Orc43 C) (h44 : Orc44 C) (v13 : Int) (v15 : (List (List UInt8))) (v16 : Int) (v18 : S_Journal) (v19 : S_Disk) (v20 : (List (List UInt8))) (v21 : Int) (v22 : Int) (v23 : (List (List UInt8))) (v24 : (List S_Write)) (v25 : Int) (v26 : Bool) (v27 : S_Journal) {ρ γ : Type} {φ : ρ → γ → Prop} {kL : R → Option ρ} {K : (Int) → Option γ} (kx kg : Nat → St → Option R) (kr : St → Option R) (kp : A → St → Option R) (x0 : ∀ (o0 : Int) (s57 : A) (s58 : A) (s59 : A), J φ (kx 0 (St.mk [(2, (A.ptr 0 0)), (3, (A.ptr 1 0)), (4, (A.ptr 2 0)), (5, (A.ptr 3 0)), (6, (iA v13)), (9, (A.ptr 4 0)), (10, (A.v (Value.int .u64 o0))), (57, s57), (58, s58), (59, s59)] [Blk.box (c_S_Journal v18), Blk.box (c_S_Disk v19), Blk.box [(A.imm (List.map (cL c8) v20) true), (iA v21), (iA v22)], (hk27_1 v23 v24 v25 v26), Blk.box (c_S_Journal v27)])) kL (K o0) some) :
    ∀ (m : Nat) (v14 : Int) (v17 : Int), J φ (loopR (cx C) (evCall (cx C) (n+8)) (evCallY (cx C) (n+8)) (n+8) 21 0 0 5 kx kg kr kp m (St.mk [(2, (A.ptr 0 0)), (3, (A.ptr 1 0)), (4, (A.ptr 2 0)), (5, (A.ptr 3 0)), (6, (iA v13)), (9, (A.ptr 4 0)), (10, (A.v (Value.int .u64 v14))), (57, (A.imm (List.map (cL c8) v15) false)), (58, (iA v16)), (59, (iA v17))] [Blk.box (c_S_Journal v18), Blk.box (c_S_Disk v19), Blk.box [(A.imm (List.map (cL c8) v20) true), (iA v21), (iA v22)], (hk27_1 v23 v24 v25 v26), Blk.box (c_S_Journal v27)])) kL (F21_21_0 n v13 v15 v16 v18 v19 v20 v21 v22 v23 v24 v25 v26 v27 m v14 v17) K := by
  intro m
  induction m with
  | zero => intros; exact .nn
  | succ m ih =>
    intro v14 v17
    refine .lp (e21_0 ..) ?_
    unfold F21_21_0
    refine .st (v := (bA (decide (v17 < v16)))) (aBin_lss ..) ?_
    refine .biHN (fun hk28 => ?_) (fun hk28 => ?_)
    · refine .bd (g := fun (y : (List UInt8)) => A.ip ((cL c8) y)) (idx_imm (e := 35) (es := 1) (h1 := by kernel_rfl) (h2 := by kernel_rfl) (h3 := fun _ => rfl) ..) fun y29 => ?_
      refine .s (A.imm (List.map c8 y29) false) ?_
      refine .bd (g := fun (y : List UInt8) => (A.imm (List.map c8 y) false)) (cut_imm (e := 5) (es := 1) (f := c8) (l := y29) (a := 0) (b := 4) (by kernel_rfl) (by kernel_rfl) (fun _ => rfl) (.inl ⟨rfl, rfl⟩) (.inr ⟨_, rfl⟩)) fun y30 => ?_
      refine .bd (g := fun (y : Int) => (A.v (Value.int .u64 y))) (by show C 41 [snap [Blk.box (c_S_Journal v18), Blk.box (c_S_Disk v19), Blk.box [(A.imm (List.map (cL c8) v20) true), (iA v21), (iA v22)], (hk27_1 v23 v24 v25 v26), Blk.box (c_S_Journal v27)] (A.imm (List.map c8 y30) false)] = _; simp only [snap, snapW, snapWs, snapWss, snapWss_map, trim, List.map_cons, List.map_nil, fl_cI, fl_c8, fl_cB, fl_cS, fl_cL, fl_S_Journal, fl_S_Write, fl_S_Disk, snapWs_app, fq_S_Journal, fq_S_Write, fq_S_Disk]; exact h41 y30) fun y31 => ?_
      refine .st (v := (A.v (Value.int .u64 (wr .u64 (y31 + 1))))) (aBin_add ..) ?_
      refine .bd (g := fun (y : List UInt8) => (A.imm (List.map c8 y) false)) (cut_imm (e := 5) (es := 1) (f := c8) (l := y29) (a := 124) (b := (y29.length : Int)) (by kernel_rfl) (by kernel_rfl) (fun _ => rfl) (.inr ⟨_, rfl⟩) (.inl ⟨rfl, rfl⟩)) fun y32 => ?_
      refine .bd (g := fun (y : Int) => (A.v (Value.int .u64 y))) (by show C 41 [snap [Blk.box (c_S_Journal v18), Blk.box (c_S_Disk v19), Blk.box [(A.imm (List.map (cL c8) v20) true), (iA v21), (iA v22)], (hk27_1 v23 v24 v25 v26), Blk.box (c_S_Journal v27)] (A.imm (List.map c8 y32) false)] = _; simp only [snap, snapW, snapWs, snapWss, snapWss_map, trim, List.map_cons, List.map_nil, fl_cI, fl_c8, fl_cB, fl_cS, fl_cL, fl_S_Journal, fl_S_Write, fl_S_Disk, snapWs_app, fq_S_Journal, fq_S_Write, fq_S_Disk]; exact h41 y32) fun y33 => ?_
      refine .st (v := (A.v (Value.int .u64 (wr .u64 (y33 + 1))))) (aBin_add ..) ?_
      refine .s (A.v (Value.int .u64 ((if (if v14 < wr .u64 (y31 + 1) then wr .u64 (y31 + 1) else v14) < wr .u64 (y33 + 1) then wr .u64 (y33 + 1) else (if v14 < wr .u64 (y31 + 1) then wr .u64 (y31 + 1) else v14))))) ?_
      refine .st (v := (iA (wr .i64 (v17 + 1)))) (aBin_add ..) ?_
      refine .s [Blk.box (c_S_Journal v18), Blk.box (c_S_Disk v19), Blk.box [(A.imm (List.map (cL c8) v20) true), (iA v21), (iA v22)], (hk27_1 v23 v24 v25 v26), Blk.box (c_S_Journal v27)] ?_
      refine .cT (by kernel_rfl) ?_
      exact ih _ _
    exact .ex (x0 _ _ _ _)
def F21_21_2 (n : Nat) (v70 : Int) (v75 : (List (List UInt8))) (v76 : Int) (v77 : Int) (v78 : S_Journal) (v80 : (List (List UInt8))) (v81 : Int) (v82 : Int) (v83 : (List (List UInt8))) (v84 : (List S_Write)) (v85 : Int) (v86 : Bool) (v87 : S_Journal) : Nat → Int → Int → (List UInt8) → Int → Int → S_Disk → Option ((Int × Int × (List (List UInt8)) × (List S_Write) × Int × Bool × Int × Int × Int × Bool) ⊕ (Int × Int × (List (List UInt8)) × (List S_Write) × Int × Bool))
  | 0, _, _, _, _, _, _ => none
  | m + 1, v69, v71, v72, v73, v74, v79 => bif (decide (0 < v74)) then (bif (v74 == 1) then (Option.bind (subI v72 0 ((if 112 < (v72.length : Int) then 112 else (v72.length : Int)))) fun y90 => Option.bind (G44 v70 v71 (orI .u8 v73 2) y90) fun y91 => Option.bind (G26 v79 v71 y91) fun y92 => bif (y92.2 != 0) then (some ((Sum.inl ((y92.2, v71, y92.1.Sectors, y92.1.Pending, y92.1.Left, y92.1.Stopped, 0, 0, 0, false))))) else (Option.bind (subI v72 ((if 112 < (v72.length : Int) then 112 else (v72.length : Int))) ((v72.length : Int))) fun y94 => F21_21_2 n v70 v75 v76 v77 v78 v80 v81 v82 v83 v84 v85 v86 v87 m y92.2 (wr .i64 (v71 + 1)) y94 0 (wr .i64 (v74 - 1)) y92.1)) else (Option.bind (subI v72 0 ((if 112 < (v72.length : Int) then 112 else (v72.length : Int)))) fun y95 => Option.bind (G44 v70 v71 v73 y95) fun y96 => Option.bind (G26 v79 v71 y96) fun y97 => bif (y97.2 != 0) then (some ((Sum.inl ((y97.2, v71, y97.1.Sectors, y97.1.Pending, y97.1.Left, y97.1.Stopped, 0, 0, 0, false))))) else (Option.bind (subI v72 ((if 112 < (v72.length : Int) then 112 else (v72.length : Int))) ((v72.length : Int))) fun y99 => F21_21_2 n v70 v75 v76 v77 v78 v80 v81 v82 v83 v84 v85 v86 v87 m y97.2 (wr .i64 (v71 + 1)) y99 0 (wr .i64 (v74 - 1)) y97.1))) else (some ((Sum.inr ((v69, v71, v79.Sectors, v79.Pending, v79.Left, v79.Stopped)))))
theorem T21_21_2 (C : Nat → List A → Option A) (n : Nat) (h12 : Orc12 C) (h17 : Orc17 C) (h26 : Orc26 C) (h27 : Orc27 C) (h31 : Orc31 C) (h35 : Orc35 C) (h36 : Orc36 C) (h41 : Orc41 C) (h43 : Orc43 C) (h44 : Orc44 C) (v70 : Int) (v75 : (List (List UInt8))) (v76 : Int) (v77 : Int) (v78 : S_Journal) (v80 : (List (List UInt8))) (v81 : Int) (v82 : Int) (v83 : (List (List UInt8))) (v84 : (List S_Write)) (v85 : Int) (v86 : Bool) (v87 : S_Journal) {ρ γ : Type} {φ : ρ → γ → Prop} {kL : R → Option ρ} {K : ((Int × Int × (List (List UInt8)) × (List S_Write) × Int × Bool × Int × Int × Int × Bool) ⊕ (Int × Int × (List (List UInt8)) × (List S_Write) × Int × Bool)) → Option γ} (kx kg : Nat → St → Option R) (kr : St → Option R) (kp : A → St → Option R) (x0 : ∀ (o0 : Int) (o1 : Int) (o2 : (List (List UInt8))) (o3 : (List S_Write)) (o4 : Int) (o5 : Bool) (o6 : Int) (o7 : Int) (o8 : Int) (o9 : Bool) (s15 : A) (s16 : A) (s17 : A), J φ (kr (St.mk [(2, (A.ptr 0 0)), (3, (A.ptr 1 0)), (4, (A.ptr 2 0)), (5, (A.ptr 3 0)), (6, (iA o0)), (10, (A.v (Value.int .u64 v70))), (13, (iA o1)), (15, s15), (16, s16), (17, s17), (108, (A.imm (List.map (cL c8) v75) false)), (109, (iA v76)), (110, (iA v77))] [Blk.box (c_S_Journal v78), Blk.box [(A.imm (List.map (cL c8) o2) false), (A.imm (List.map c_S_Write o3) false), (iA o4), (bA o5)], Blk.box [(A.imm [] true), (iA o6), (iA o7)], Blk.box [(A.imm [] true), (A.imm [] true), (iA o8), (bA o9)], Blk.box (c_S_Journal v87)])) kL (K (Sum.inl ((o0, o1, o2, o3, o4, o5, o6, o7, o8, o9)))) some) (x1 : ∀ (o0 : Int) (o1 : Int) (o2 : (List (List UInt8))) (o3 : (List S_Write)) (o4 : Int) (o5 : Bool) (s15 : A) (s16 : A) (s17 : A), J φ (kx 4 (St.mk [(2, (A.ptr 0 0)), (3, (A.ptr 1 0)), (4, (A.ptr 2 0)), (5, (A.ptr 3 0)), (6, (iA o0)), (10, (A.v (Value.int .u64 v70))), (13, (iA o1)), (15, s15), (16, s16), (17, s17), (108, (A.imm (List.map (cL c8) v75) false)), (109, (iA v76)), (110, (iA v77))] [Blk.box (c_S_Journal v78), Blk.box [(A.imm (List.map (cL c8) o2) false), (A.imm (List.map c_S_Write o3) false), (iA o4), (bA o5)], Blk.box [(A.imm (List.map (cL c8) v80) true), (iA v81), (iA v82)], (hk27_1 v83 v84 v85 v86), Blk.box (c_S_Journal v87)])) kL (K (Sum.inr ((o0, o1, o2, o3, o4, o5)))) some) :
    ∀ (m : Nat) (v69 : Int) (v71 : Int) (v72 : (List UInt8)) (v73 : Int) (v74 : Int) (v79 : S_Disk), J φ (loopR (cx C) (evCall (cx C) (n+8)) (evCallY (cx C) (n+8)) (n+8) 21 0 2 5 kx kg kr kp m (St.mk [(2, (A.ptr 0 0)), (3, (A.ptr 1 0)), (4, (A.ptr 2 0)), (5, (A.ptr 3 0)), (6, (iA v69)), (10, (A.v (Value.int .u64 v70))), (13, (iA v71)), (15, (A.imm (List.map c8 v72) false)), (16, (uA v73)), (17, (iA v74)), (108, (A.imm (List.map (cL c8) v75) false)), (109, (iA v76)), (110, (iA v77))] [Blk.box (c_S_Journal v78), Blk.box (c_S_Disk v79), Blk.box [(A.imm (List.map (cL c8) v80) true), (iA v81), (iA v82)], (hk27_1 v83 v84 v85 v86), Blk.box (c_S_Journal v87)])) kL (F21_21_2 n v70 v75 v76 v77 v78 v80 v81 v82 v83 v84 v85 v86 v87 m v69 v71 v72 v73 v74 v79) K := by
  intro m
  induction m with
  | zero => intros; exact .nn
  | succ m ih =>
    intro v69 v71 v72 v73 v74 v79
    refine .lp (e21_2 ..) ?_
    unfold F21_21_2
    refine .st (v := (bA (decide (0 < v74)))) (aBin_gtr ..) ?_
    refine .biHN (fun hk88 => ?_) (fun hk88 => ?_)
    · refine .st (v := (bA (v74 == 1))) (aBin_eql ..) ?_
      refine .biHN (fun hk89 => ?_) (fun hk89 => ?_)
      · refine .st (v := (uA (orI .u8 v73 2))) (aBin_bits_or ..) ?_
        refine .st (v := (iA ((v72.length : Int)))) (len_imm (e := 5) (h1 := by kernel_rfl) ..) ?_
        refine .s (iA ((if 112 < (v72.length : Int) then 112 else (v72.length : Int)))) (.s (A.agg (c_S_Disk v79)) ?_)
        refine .bd (g := fun (y : List UInt8) => (A.imm (List.map c8 y) false)) (cut_imm (e := 5) (es := 1) (f := c8) (l := v72) (a := 0) (b := (if 112 < (v72.length : Int) then 112 else (v72.length : Int))) (by kernel_rfl) (by kernel_rfl) (fun _ => rfl) (.inl ⟨rfl, rfl⟩) (.inr ⟨_, rfl⟩)) fun y90 => ?_
        refine .bd (g := fun (y : (List UInt8)) => (A.imm (List.map c8 y) false)) (by show C 44 [snap [Blk.box (c_S_Journal v78), Blk.box (c_S_Disk v79), Blk.box [(A.imm (List.map (cL c8) v80) true), (iA v81), (iA v82)], (hk27_1 v83 v84 v85 v86), Blk.box (c_S_Journal v87)] (A.v (Value.int .u64 v70)), snap [Blk.box (c_S_Journal v78), Blk.box (c_S_Disk v79), Blk.box [(A.imm (List.map (cL c8) v80) true), (iA v81), (iA v82)], (hk27_1 v83 v84 v85 v86), Blk.box (c_S_Journal v87)] (iA v71), snap [Blk.box (c_S_Journal v78), Blk.box (c_S_Disk v79), Blk.box [(A.imm (List.map (cL c8) v80) true), (iA v81), (iA v82)], (hk27_1 v83 v84 v85 v86), Blk.box (c_S_Journal v87)] (uA (orI .u8 v73 2)), snap [Blk.box (c_S_Journal v78), Blk.box (c_S_Disk v79), Blk.box [(A.imm (List.map (cL c8) v80) true), (iA v81), (iA v82)], (hk27_1 v83 v84 v85 v86), Blk.box (c_S_Journal v87)] (A.imm (List.map c8 y90) false)] = _; simp only [snap, snapW, snapWs, snapWss, snapWss_map, trim, List.map_cons, List.map_nil, fl_cI, fl_c8, fl_cB, fl_cS, fl_cL, fl_S_Journal, fl_S_Write, fl_S_Disk, snapWs_app, fq_S_Journal, fq_S_Write, fq_S_Disk]; exact h44 v70 v71 (orI .u8 v73 2) y90) fun y91 => ?_
        refine .bd (g := fun (y : (S_Disk × Int)) => (A.tup [(A.agg [(A.imm (List.map (cL c8) y.1.Sectors) false), (A.imm (List.map c_S_Write y.1.Pending) false), (iA y.1.Left), (bA y.1.Stopped)]), (iA y.2)])) (by show C 26 [snap [Blk.box (c_S_Journal v78), Blk.box (c_S_Disk v79), Blk.box [(A.imm (List.map (cL c8) v80) true), (iA v81), (iA v82)], (hk27_1 v83 v84 v85 v86), Blk.box (c_S_Journal v87)] (A.agg (c_S_Disk v79)), snap [Blk.box (c_S_Journal v78), Blk.box (c_S_Disk v79), Blk.box [(A.imm (List.map (cL c8) v80) true), (iA v81), (iA v82)], (hk27_1 v83 v84 v85 v86), Blk.box (c_S_Journal v87)] (iA v71), snap [Blk.box (c_S_Journal v78), Blk.box (c_S_Disk v79), Blk.box [(A.imm (List.map (cL c8) v80) true), (iA v81), (iA v82)], (hk27_1 v83 v84 v85 v86), Blk.box (c_S_Journal v87)] (A.imm (List.map c8 y91) false)] = _; simp only [snap, snapW, snapWs, snapWss, snapWss_map, trim, List.map_cons, List.map_nil, fl_cI, fl_c8, fl_cB, fl_cS, fl_cL, fl_S_Journal, fl_S_Write, fl_S_Disk, snapWs_app, fq_S_Journal, fq_S_Write, fq_S_Disk]; exact h26 v79 v71 y91) fun y92 => ?_
        refine .s (A.agg (c_S_Disk y92.1)) (.s (iA y92.2) (.s [Blk.box (c_S_Journal v78), Blk.box (c_S_Disk y92.1), Blk.box [(A.imm (List.map (cL c8) v80) true), (iA v81), (iA v82)], (hk27_1 v83 v84 v85 v86), Blk.box (c_S_Journal v87)] ?_))
        refine .st (v := (bA (y92.2 != 0))) (aBin_neq ..) ?_
        refine .biHN (fun hk93 => ?_) (fun hk93 => ?_)
        · refine .s (A.agg [(A.imm [] true), (iA 0), (iA 0)]) (.s (A.agg [(A.imm [] true), (A.imm [] true), (iA 0), (bA false)]) (.s [Blk.box (c_S_Journal v78), Blk.box (c_S_Disk y92.1), Blk.box [(A.imm [] true), (iA 0), (iA 0)], (hk27_1 v83 v84 v85 v86), Blk.box (c_S_Journal v87)] (.s [Blk.box (c_S_Journal v78), Blk.box (c_S_Disk y92.1), Blk.box [(A.imm [] true), (iA 0), (iA 0)], Blk.box [(A.imm [] true), (A.imm [] true), (iA 0), (bA false)], Blk.box (c_S_Journal v87)] ?_)))
          exact .ex (x0 _ _ _ _ _ _ _ _ _ _ _ _ _)
        refine .bd (g := fun (y : List UInt8) => (A.imm (List.map c8 y) false)) (cut_imm (e := 5) (es := 1) (f := c8) (l := v72) (a := (if 112 < (v72.length : Int) then 112 else (v72.length : Int))) (b := (v72.length : Int)) (by kernel_rfl) (by kernel_rfl) (fun _ => rfl) (.inr ⟨_, rfl⟩) (.inl ⟨rfl, rfl⟩)) fun y94 => ?_
        refine .st (v := (iA (wr .i64 (v71 + 1)))) (aBin_add ..) ?_
        refine .st (v := (iA (wr .i64 (v74 - 1)))) (aBin_sub ..) ?_
        refine .s [Blk.box (c_S_Journal v78), Blk.box (c_S_Disk y92.1), Blk.box [(A.imm (List.map (cL c8) v80) true), (iA v81), (iA v82)], (hk27_1 v83 v84 v85 v86), Blk.box (c_S_Journal v87)] ?_
        refine .cT (by kernel_rfl) ?_
        exact ih _ _ _ _ _ _
      refine .st (v := (iA ((v72.length : Int)))) (len_imm (e := 5) (h1 := by kernel_rfl) ..) ?_
      refine .s (iA ((if 112 < (v72.length : Int) then 112 else (v72.length : Int)))) (.s (A.agg (c_S_Disk v79)) ?_)
      refine .bd (g := fun (y : List UInt8) => (A.imm (List.map c8 y) false)) (cut_imm (e := 5) (es := 1) (f := c8) (l := v72) (a := 0) (b := (if 112 < (v72.length : Int) then 112 else (v72.length : Int))) (by kernel_rfl) (by kernel_rfl) (fun _ => rfl) (.inl ⟨rfl, rfl⟩) (.inr ⟨_, rfl⟩)) fun y95 => ?_
      refine .bd (g := fun (y : (List UInt8)) => (A.imm (List.map c8 y) false)) (by show C 44 [snap [Blk.box (c_S_Journal v78), Blk.box (c_S_Disk v79), Blk.box [(A.imm (List.map (cL c8) v80) true), (iA v81), (iA v82)], (hk27_1 v83 v84 v85 v86), Blk.box (c_S_Journal v87)] (A.v (Value.int .u64 v70)), snap [Blk.box (c_S_Journal v78), Blk.box (c_S_Disk v79), Blk.box [(A.imm (List.map (cL c8) v80) true), (iA v81), (iA v82)], (hk27_1 v83 v84 v85 v86), Blk.box (c_S_Journal v87)] (iA v71), snap [Blk.box (c_S_Journal v78), Blk.box (c_S_Disk v79), Blk.box [(A.imm (List.map (cL c8) v80) true), (iA v81), (iA v82)], (hk27_1 v83 v84 v85 v86), Blk.box (c_S_Journal v87)] (uA v73), snap [Blk.box (c_S_Journal v78), Blk.box (c_S_Disk v79), Blk.box [(A.imm (List.map (cL c8) v80) true), (iA v81), (iA v82)], (hk27_1 v83 v84 v85 v86), Blk.box (c_S_Journal v87)] (A.imm (List.map c8 y95) false)] = _; simp only [snap, snapW, snapWs, snapWss, snapWss_map, trim, List.map_cons, List.map_nil, fl_cI, fl_c8, fl_cB, fl_cS, fl_cL, fl_S_Journal, fl_S_Write, fl_S_Disk, snapWs_app, fq_S_Journal, fq_S_Write, fq_S_Disk]; exact h44 v70 v71 v73 y95) fun y96 => ?_
      refine .bd (g := fun (y : (S_Disk × Int)) => (A.tup [(A.agg [(A.imm (List.map (cL c8) y.1.Sectors) false), (A.imm (List.map c_S_Write y.1.Pending) false), (iA y.1.Left), (bA y.1.Stopped)]), (iA y.2)])) (by show C 26 [snap [Blk.box (c_S_Journal v78), Blk.box (c_S_Disk v79), Blk.box [(A.imm (List.map (cL c8) v80) true), (iA v81), (iA v82)], (hk27_1 v83 v84 v85 v86), Blk.box (c_S_Journal v87)] (A.agg (c_S_Disk v79)), snap [Blk.box (c_S_Journal v78), Blk.box (c_S_Disk v79), Blk.box [(A.imm (List.map (cL c8) v80) true), (iA v81), (iA v82)], (hk27_1 v83 v84 v85 v86), Blk.box (c_S_Journal v87)] (iA v71), snap [Blk.box (c_S_Journal v78), Blk.box (c_S_Disk v79), Blk.box [(A.imm (List.map (cL c8) v80) true), (iA v81), (iA v82)], (hk27_1 v83 v84 v85 v86), Blk.box (c_S_Journal v87)] (A.imm (List.map c8 y96) false)] = _; simp only [snap, snapW, snapWs, snapWss, snapWss_map, trim, List.map_cons, List.map_nil, fl_cI, fl_c8, fl_cB, fl_cS, fl_cL, fl_S_Journal, fl_S_Write, fl_S_Disk, snapWs_app, fq_S_Journal, fq_S_Write, fq_S_Disk]; exact h26 v79 v71 y96) fun y97 => ?_
      refine .s (A.agg (c_S_Disk y97.1)) (.s (iA y97.2) (.s [Blk.box (c_S_Journal v78), Blk.box (c_S_Disk y97.1), Blk.box [(A.imm (List.map (cL c8) v80) true), (iA v81), (iA v82)], (hk27_1 v83 v84 v85 v86), Blk.box (c_S_Journal v87)] ?_))
      refine .st (v := (bA (y97.2 != 0))) (aBin_neq ..) ?_
      refine .biHN (fun hk98 => ?_) (fun hk98 => ?_)
      · refine .s (A.agg [(A.imm [] true), (iA 0), (iA 0)]) (.s (A.agg [(A.imm [] true), (A.imm [] true), (iA 0), (bA false)]) (.s [Blk.box (c_S_Journal v78), Blk.box (c_S_Disk y97.1), Blk.box [(A.imm [] true), (iA 0), (iA 0)], (hk27_1 v83 v84 v85 v86), Blk.box (c_S_Journal v87)] (.s [Blk.box (c_S_Journal v78), Blk.box (c_S_Disk y97.1), Blk.box [(A.imm [] true), (iA 0), (iA 0)], Blk.box [(A.imm [] true), (A.imm [] true), (iA 0), (bA false)], Blk.box (c_S_Journal v87)] ?_)))
        exact .ex (x0 _ _ _ _ _ _ _ _ _ _ _ _ _)
      refine .bd (g := fun (y : List UInt8) => (A.imm (List.map c8 y) false)) (cut_imm (e := 5) (es := 1) (f := c8) (l := v72) (a := (if 112 < (v72.length : Int) then 112 else (v72.length : Int))) (b := (v72.length : Int)) (by kernel_rfl) (by kernel_rfl) (fun _ => rfl) (.inr ⟨_, rfl⟩) (.inl ⟨rfl, rfl⟩)) fun y99 => ?_
      refine .st (v := (iA (wr .i64 (v71 + 1)))) (aBin_add ..) ?_
      refine .st (v := (iA (wr .i64 (v74 - 1)))) (aBin_sub ..) ?_
      refine .s [Blk.box (c_S_Journal v78), Blk.box (c_S_Disk y97.1), Blk.box [(A.imm (List.map (cL c8) v80) true), (iA v81), (iA v82)], (hk27_1 v83 v84 v85 v86), Blk.box (c_S_Journal v87)] ?_
      refine .cT (by kernel_rfl) ?_
      exact ih _ _ _ _ _ _
    exact .ex (x1 _ _ _ _ _ _ _ _ _)
def F21_21_1 (n : Nat) (v51 : Int) (v53 : (List (List UInt8))) (v54 : Int) (v56 : S_Journal) (v58 : (List (List UInt8))) (v59 : Int) (v60 : Int) (v61 : (List (List UInt8))) (v62 : (List S_Write)) (v63 : Int) (v64 : Bool) (v65 : S_Journal) : Nat → Int → Int → Int → S_Disk → Option ((Int × (List (List UInt8)) × (List S_Write) × Int × Bool × Int × Int × Int × Bool) ⊕ ((List (List UInt8)) × (List S_Write) × Int × Bool))
  | 0, _, _, _, _ => none
  | m + 1, v50, v52, v55, v57 => bif (decide (v55 < v54)) then (Option.bind (getI v53 v55) fun y67 => Option.bind (G35 y67) fun y68 => Option.bind (F21_21_2 n v51 v53 v54 v55 v56 v58 v59 v60 v61 v62 v63 v64 v65 (n+8) v50 v52 y67 1 y68 v57) fun o100 => match o100 with | (Sum.inl ((y101, y102, y103, y104, y105, y106, y107, y108, y109, y110))) => some ((Sum.inl ((y101, y103, y104, y105, y106, y107, y108, y109, y110)))) | (Sum.inr ((y114, y115, y116, y117, y118, y119))) => F21_21_1 n v51 v53 v54 v56 v58 v59 v60 v61 v62 v63 v64 v65 m y114 y115 (wr .i64 (v55 + 1)) ((S_Disk.mk y116 y117 y118 y119))) else (some ((Sum.inr ((v57.Sectors, v57.Pending, v57.Left, v57.Stopped)))))
theorem T21_21_1 (C : Nat → List A → Option A) (n : Nat) (h12 : Orc12 C) (h17 : Orc17 C) (h26 : Orc26 C) (h27 : Orc27 C) (h31 : Orc31 C) (h35 : Orc35 C) (h36 : Orc36 C) (h41 : Orc41 C) (h43 : Orc43 C) (h44 : Orc44 C) (v51 : Int) (v53 : (List (List UInt8))) (v54 : Int) (v56 : S_Journal) (v58 : (List (List UInt8))) (v59 : Int) (v60 : Int) (v61 : (List (List UInt8))) (v62 : (List S_Write)) (v63 : Int) (v64 : Bool) (v65 : S_Journal) {ρ γ : Type} {φ : ρ → γ → Prop} {kL : R → Option ρ} {K : ((Int × (List (List UInt8)) × (List S_Write) × Int × Bool × Int × Int × Int × Bool) ⊕ ((List (List UInt8)) × (List S_Write) × Int × Bool)) → Option γ} (kx kg : Nat → St → Option R) (kr : St → Option R) (kp : A → St → Option R) (x0 : ∀ (o0 : Int) (o1 : (List (List UInt8))) (o2 : (List S_Write)) (o3 : Int) (o4 : Bool) (o5 : Int) (o6 : Int) (o7 : Int) (o8 : Bool) (s2 : A) (s3 : A) (s10 : A) (s13 : A) (s108 : A) (s109 : A) (s110 : A), J φ (kr (St.mk [(2, s2), (3, s3), (4, (A.ptr 2 0)), (5, (A.ptr 3 0)), (6, (iA o0)), (10, s10), (13, s13), (108, s108), (109, s109), (110, s110)] [Blk.box (c_S_Journal v56), Blk.box [(A.imm (List.map (cL c8) o1) false), (A.imm (List.map c_S_Write o2) false), (iA o3), (bA o4)], Blk.box [(A.imm [] true), (iA o5), (iA o6)], Blk.box [(A.imm [] true), (A.imm [] true), (iA o7), (bA o8)], Blk.box (c_S_Journal v65)])) kL (K (Sum.inl ((o0, o1, o2, o3, o4, o5, o6, o7, o8)))) some) (x1 : ∀ (o0 : (List (List UInt8))) (o1 : (List S_Write)) (o2 : Int) (o3 : Bool) (s6 : A) (s10 : A) (s13 : A) (s108 : A) (s109 : A) (s110 : A), J φ (kx 2 (St.mk [(2, (A.ptr 0 0)), (3, (A.ptr 1 0)), (4, (A.ptr 2 0)), (5, (A.ptr 3 0)), (6, s6), (10, s10), (13, s13), (108, s108), (109, s109), (110, s110)] [Blk.box (c_S_Journal v56), Blk.box [(A.imm (List.map (cL c8) o0) false), (A.imm (List.map c_S_Write o1) false), (iA o2), (bA o3)], Blk.box [(A.imm (List.map (cL c8) v58) true), (iA v59), (iA v60)], Blk.box [(A.imm (List.map (cL c8) v61) true), (A.imm (List.map c_S_Write v62) true), (iA v63), (bA v64)], Blk.box (c_S_Journal v65)])) kL (K (Sum.inr ((o0, o1, o2, o3)))) some) :
    ∀ (m : Nat) (v50 : Int) (v52 : Int) (v55 : Int) (v57 : S_Disk), J φ (loopR (cx C) (evCall (cx C) (n+8)) (evCallY (cx C) (n+8)) (n+8) 21 0 1 5 kx kg kr kp m (St.mk [(2, (A.ptr 0 0)), (3, (A.ptr 1 0)), (4, (A.ptr 2 0)), (5, (A.ptr 3 0)), (6, (iA v50)), (10, (A.v (Value.int .u64 v51))), (13, (iA v52)), (108, (A.imm (List.map (cL c8) v53) false)), (109, (iA v54)), (110, (iA v55))] [Blk.box (c_S_Journal v56), Blk.box (c_S_Disk v57), Blk.box [(A.imm (List.map (cL c8) v58) true), (iA v59), (iA v60)], Blk.box [(A.imm (List.map (cL c8) v61) true), (A.imm (List.map c_S_Write v62) true), (iA v63), (bA v64)], Blk.box (c_S_Journal v65)])) kL (F21_21_1 n v51 v53 v54 v56 v58 v59 v60 v61 v62 v63 v64 v65 m v50 v52 v55 v57) K := by
  intro m
  induction m with
  | zero => intros; exact .nn
  | succ m ih =>
    intro v50 v52 v55 v57
    refine .lp (e21_1 ..) ?_
    unfold F21_21_1
    refine .st (v := (bA (decide (v55 < v54)))) (aBin_lss ..) ?_
    refine .biHN (fun hk66 => ?_) (fun hk66 => ?_)
    · refine .bd (g := fun (y : (List UInt8)) => A.ip ((cL c8) y)) (idx_imm (e := 35) (es := 1) (h1 := by kernel_rfl) (h2 := by kernel_rfl) (h3 := fun _ => rfl) ..) fun y67 => ?_
      refine .s (A.imm (List.map c8 y67) false) ?_
      refine .bd (g := fun (y : Int) => (iA y)) (by show C 35 [snap [Blk.box (c_S_Journal v56), Blk.box (c_S_Disk v57), Blk.box [(A.imm (List.map (cL c8) v58) true), (iA v59), (iA v60)], Blk.box [(A.imm (List.map (cL c8) v61) true), (A.imm (List.map c_S_Write v62) true), (iA v63), (bA v64)], Blk.box (c_S_Journal v65)] (A.imm (List.map c8 y67) false)] = _; simp only [snap, snapW, snapWs, snapWss, snapWss_map, trim, List.map_cons, List.map_nil, fl_cI, fl_c8, fl_cB, fl_cS, fl_cL, fl_S_Journal, fl_S_Write, fl_S_Disk, snapWs_app, fq_S_Journal, fq_S_Write, fq_S_Disk]; exact h35 y67) fun y68 => ?_
      refine .as (T21_21_2 C n h12 h17 h26 h27 h31 h35 h36 h41 h43 h44 v51 v53 v54 v55 v56 v58 v59 v60 v61 v62 v63 v64 v65 _ _ _ _ ?_ ?_ _ v50 v52 y67 1 y68 v57)
      · intro y101 y102 y103 y104 y105 y106 y107 y108 y109 y110 j111 j112 j113
        refine .un rfl ?_
        exact .ex (x0 _ _ _ _ _ _ _ _ _ _ _ _ _ _ _ _)
      · intro y114 y115 y116 y117 y118 y119 j120 j121 j122
        refine .un rfl ?_
        refine .cT (by kernel_rfl) ?_
        refine .st (v := (iA (wr .i64 (v55 + 1)))) (aBin_add ..) ?_
        refine .s [Blk.box (c_S_Journal v56), Blk.box [(A.imm (List.map (cL c8) y116) false), (A.imm (List.map c_S_Write y117) false), (iA y118), (bA y119)], Blk.box [(A.imm (List.map (cL c8) v58) true), (iA v59), (iA v60)], Blk.box [(A.imm (List.map (cL c8) v61) true), (A.imm (List.map c_S_Write v62) true), (iA v63), (bA v64)], Blk.box (c_S_Journal v65)] ?_
        refine .cT (by kernel_rfl) ?_
        exact ih _ _ _ _
    exact .ex (x1 _ _ _ _ _ _ _ _ _ _)
def F21_42_0 (n : Nat) (v152 : (List (List UInt8))) (v153 : Bool) (v154 : (List (List UInt8))) (v155 : Int) (v157 : S_Journal) (v158 : S_Disk) (v159 : (List (List UInt8))) (v160 : Int) (v161 : Int) (v162 : (List (List UInt8))) (v163 : (List S_Write)) (v164 : Int) (v165 : Bool) (v166 : S_Journal) : Nat → Int → Option ((Bool) ⊕ (Unit))
  | 0, _ => none
  | m + 1, v156 => bif (decide (v156 < v155)) then (Option.bind (getI v154 v156) fun y168 => Option.bind (getI v152 v156) fun y169 => Option.bind (G43 y168 y169) fun y170 => bif (!y170) then (some ((Sum.inl false))) else (F21_42_0 n v152 v153 v154 v155 v157 v158 v159 v160 v161 v162 v163 v164 v165 v166 m (wr .i64 (v156 + 1)))) else (some ((Sum.inr (()))))
theorem T21_42_0 (C : Nat → List A → Option A) (n : Nat) (h12 : Orc12 C) (h17 : Orc17 C) (h26 : Orc26 C) (h27 : Orc27 C) (h31 : Orc31 C) (h35 : Orc35 C) (h36 : Orc36 C) (h41 : Orc41 C) (h43 : Orc43 C) (h44 : Orc44 C) (v152 : (List (List UInt8))) (v153 : Bool) (v154 : (List (List UInt8))) (v155 : Int) (v157 : S_Journal) (v158 : S_Disk) (v159 : (List (List UInt8))) (v160 : Int) (v161 : Int) (v162 : (List (List UInt8))) (v163 : (List S_Write)) (v164 : Int) (v165 : Bool) (v166 : S_Journal) {ρ γ : Type} {φ : ρ → γ → Prop} {kL : R → Option ρ} {K : ((Bool) ⊕ (Unit)) → Option γ} (kx kg : Nat → St → Option R) (kr : St → Option R) (kp : A → St → Option R) (x0 : ∀ (o0 : Bool) (s1 : A) (s2 : A) (s15 : A) (s16 : A) (s17 : A), J φ (kr (St.mk [(1, s1), (2, s2), (6, (bA o0)), (15, s15), (16, s16), (17, s17)] [Blk.box (c_S_Journal v157), Blk.box (c_S_Disk v158), Blk.box [(A.imm (List.map (cL c8) v159) true), (iA v160), (iA v161)], Blk.box [(A.imm (List.map (cL c8) v162) true), (A.imm (List.map c_S_Write v163) true), (iA v164), (bA v165)], Blk.box (c_S_Journal v166)])) kL (K (Sum.inl o0)) some) (x1 : ∀ (s1 : A) (s2 : A) (s6 : A) (s15 : A) (s16 : A) (s17 : A), J φ (kx 0 (St.mk [(1, s1), (2, s2), (6, s6), (15, s15), (16, s16), (17, s17)] [Blk.box (c_S_Journal v157), Blk.box (c_S_Disk v158), Blk.box [(A.imm (List.map (cL c8) v159) true), (iA v160), (iA v161)], Blk.box [(A.imm (List.map (cL c8) v162) true), (A.imm (List.map c_S_Write v163) true), (iA v164), (bA v165)], Blk.box (c_S_Journal v166)])) kL (K (Sum.inr (()))) some) :
    ∀ (m : Nat) (v156 : Int), J φ (loopR (cx C) (evCall (cx C) (n+7)) (evCallY (cx C) (n+7)) (n+7) 42 0 0 5 kx kg kr kp m (St.mk [(1, (A.imm (List.map (cL c8) v152) false)), (2, (A.fn (Fn.func 43) [] [])), (6, (bA v153)), (15, (A.imm (List.map (cL c8) v154) false)), (16, (iA v155)), (17, (iA v156))] [Blk.box (c_S_Journal v157), Blk.box (c_S_Disk v158), Blk.box [(A.imm (List.map (cL c8) v159) true), (iA v160), (iA v161)], Blk.box [(A.imm (List.map (cL c8) v162) true), (A.imm (List.map c_S_Write v163) true), (iA v164), (bA v165)], Blk.box (c_S_Journal v166)])) kL (F21_42_0 n v152 v153 v154 v155 v157 v158 v159 v160 v161 v162 v163 v164 v165 v166 m v156) K := by
  intro m
  induction m with
  | zero => intros; exact .nn
  | succ m ih =>
    intro v156
    refine .lp (e42_0 ..) ?_
    unfold F21_42_0
    refine .st (v := (bA (decide (v156 < v155)))) (aBin_lss ..) ?_
    refine .biHN (fun hk167 => ?_) (fun hk167 => ?_)
    · refine .bd (g := fun (y : (List UInt8)) => A.ip ((cL c8) y)) (idx_imm (e := 35) (es := 1) (h1 := by kernel_rfl) (h2 := by kernel_rfl) (h3 := fun _ => rfl) ..) fun y168 => ?_
      refine .s (A.imm (List.map c8 y168) false) ?_
      refine .bd (g := fun (y : (List UInt8)) => A.ip ((cL c8) y)) (idx_imm (e := 35) (es := 1) (h1 := by kernel_rfl) (h2 := by kernel_rfl) (h3 := fun _ => rfl) ..) fun y169 => ?_
      refine .s (A.imm (List.map c8 y169) false) ?_
      refine .dO (by kernel_rfl) (by kernel_rfl) ?_
      refine .bd (g := fun (y : Bool) => (bA y)) (by simp only [List.nil_append, List.cons_append, List.append_nil, snap, snapW, snapWs, snapWss, snapWss_map, trim, List.map_cons, List.map_nil, fl_cI, fl_c8, fl_cB, fl_cS, fl_cL, fl_S_Journal, fl_S_Write, fl_S_Disk, snapWs_app, fq_S_Journal, fq_S_Write, fq_S_Disk]; exact h43 y168 y169) fun y170 => ?_
      refine .s (bA (!y170)) ?_
      refine .biHN (fun hk171 => ?_) (fun hk171 => ?_)
      · exact .ex (x0 _ _ _ _ _ _)
      refine .st (v := (iA (wr .i64 (v156 + 1)))) (aBin_add ..) ?_
      refine .s [Blk.box (c_S_Journal v157), Blk.box (c_S_Disk v158), Blk.box [(A.imm (List.map (cL c8) v159) true), (iA v160), (iA v161)], Blk.box [(A.imm (List.map (cL c8) v162) true), (A.imm (List.map c_S_Write v163) true), (iA v164), (bA v165)], Blk.box (c_S_Journal v166)] ?_
      refine .cT (by kernel_rfl) ?_
      exact ih _
    exact .ex (x1 _ _ _ _ _ _)
def F21 (n : Nat) (a0 : S_Journal) (a1 : S_Disk) : Option (S_Journal × S_Disk × Int) :=
  Option.bind (G17 a0) fun y1 => bif (y1 != 0) then (some (((S_Journal.mk ([]) 0 0), (S_Disk.mk ([]) ([]) 0 false), y1))) else (Option.bind (G31 a1) fun y3 => bif (y3 != 0) then (some (((S_Journal.mk ([]) 0 0), (S_Disk.mk ([]) ([]) 0 false), y3))) else (Option.bind (bif (a0.Many != ((a1.Sectors.length : Int))) then (some (!a1.Stopped)) else (some false)) fun y6 => bif y6 then (some (((S_Journal.mk ([]) 0 0), (S_Disk.mk ([]) ([]) 0 false), 1))) else (Option.bind (G12 a1) fun y11 => bif (y11.2 != 0) then (some (((S_Journal.mk ([]) 0 0), (S_Disk.mk ([]) ([]) 0 false), y11.2))) else (Option.bind (F21_21_0 n y11.2 a1.Sectors ((a1.Sectors.length : Int)) a0 a1 ([]) 0 0 ([]) ([]) 0 false y11.1 (n+8) 1 0) fun o34 => match o34 with | y35 => Option.bind (subI a0.Records 0 a0.Synced) fun y39 => bif (((y11.1.Records.length : Int)) != ((y39.length : Int))) then (Option.bind (some true) fun y41 => bif y41 then (some (((S_Journal.mk ([]) 0 0), (S_Disk.mk ([]) ([]) 0 false), 50))) else (bif (a0.Synced == ((a0.Records.length : Int))) then (some ((a0, a1, 0))) else (Option.bind (subI a0.Records 0 a0.Synced) fun y47 => Option.bind (G36 y47) fun y48 => Option.bind (subI a0.Records a0.Synced ((a0.Records.length : Int))) fun y49 => Option.bind (F21_21_1 n y35 y49 ((y49.length : Int)) a0 ([]) 0 0 ([]) ([]) 0 false y11.1 (n+8) y11.2 y48 0 a1) fun o123 => match o123 with | (Sum.inl ((y124, y125, y126, y127, y128, y129, y130, y131, y132))) => some (((S_Journal.mk ([]) y129 y130), (S_Disk.mk ([]) ([]) y131 y132), y124)) | (Sum.inr ((y140, y141, y142, y143))) => Option.bind (G27 ((S_Disk.mk y140 y141 y142 y143))) fun y150 => bif (y150.2 != 0) then (some (((S_Journal.mk ([]) 0 0), y150.1, y150.2))) else (some (((S_Journal.mk a0.Records a0.Many ((a0.Records.length : Int))), y150.1, 0)))))) else (Option.bind (F21_42_0 n y39 false y11.1.Records ((y11.1.Records.length : Int)) a0 a1 ([]) 0 0 ([]) ([]) 0 false y11.1 (n+7) 0) fun o172 => match o172 with | (Sum.inl y173) => Option.bind (bif (!y173) then (some true) else (some ((shrI .u64 y35 32) != 0))) fun y180 => bif y180 then (some (((S_Journal.mk ([]) 0 0), (S_Disk.mk ([]) ([]) 0 false), 50))) else (bif (a0.Synced == ((a0.Records.length : Int))) then (some ((a0, a1, 0))) else (Option.bind (subI a0.Records 0 a0.Synced) fun y186 => Option.bind (G36 y186) fun y187 => Option.bind (subI a0.Records a0.Synced ((a0.Records.length : Int))) fun y188 => Option.bind (F21_21_1 n y35 y188 ((y188.length : Int)) a0 ([]) 0 0 ([]) ([]) 0 false y11.1 (n+8) y11.2 y187 0 a1) fun o262 => match o262 with | (Sum.inl ((y263, y264, y265, y266, y267, y268, y269, y270, y271))) => some (((S_Journal.mk ([]) y268 y269), (S_Disk.mk ([]) ([]) y270 y271), y263)) | (Sum.inr ((y279, y280, y281, y282))) => Option.bind (G27 ((S_Disk.mk y279 y280 y281 y282))) fun y289 => bif (y289.2 != 0) then (some (((S_Journal.mk ([]) 0 0), y289.1, y289.2))) else (some (((S_Journal.mk a0.Records a0.Many ((a0.Records.length : Int))), y289.1, 0))))) | (Sum.inr _) => Option.bind (some ((shrI .u64 y35 32) != 0)) fun y297 => bif y297 then (some (((S_Journal.mk ([]) 0 0), (S_Disk.mk ([]) ([]) 0 false), 50))) else (bif (a0.Synced == ((a0.Records.length : Int))) then (some ((a0, a1, 0))) else (Option.bind (subI a0.Records 0 a0.Synced) fun y303 => Option.bind (G36 y303) fun y304 => Option.bind (subI a0.Records a0.Synced ((a0.Records.length : Int))) fun y305 => Option.bind (F21_21_1 n y35 y305 ((y305.length : Int)) a0 ([]) 0 0 ([]) ([]) 0 false y11.1 (n+8) y11.2 y304 0 a1) fun o379 => match o379 with | (Sum.inl ((y380, y381, y382, y383, y384, y385, y386, y387, y388))) => some (((S_Journal.mk ([]) y385 y386), (S_Disk.mk ([]) ([]) y387 y388), y380)) | (Sum.inr ((y396, y397, y398, y399))) => Option.bind (G27 ((S_Disk.mk y396 y397 y398 y399))) fun y406 => bif (y406.2 != 0) then (some (((S_Journal.mk ([]) 0 0), y406.1, y406.2))) else (some (((S_Journal.mk a0.Records a0.Many ((a0.Records.length : Int))), y406.1, 0))))))))))
theorem T21 (C : Nat → List A → Option A) (n : Nat) (h12 : Orc12 C) (h17 : Orc17 C) (h26 : Orc26 C) (h27 : Orc27 C) (h31 : Orc31 C) (h35 : Orc35 C) (h36 : Orc36 C) (h41 : Orc41 C) (h43 : Orc43 C) (h44 : Orc44 C) (a0 : S_Journal) (a1 : S_Disk) : J (fun (o : R) y => ∃ v, o.1 = .ret v ∧ snapE o.2 v = (A.tup [(A.agg [(A.imm (List.map (cL c8) y.1.Records) false), (iA y.1.Many), (iA y.1.Synced)]), (A.agg [(A.imm (List.map (cL c8) y.2.1.Sectors) false), (A.imm (List.map c_S_Write y.2.1.Pending) false), (iA y.2.1.Left), (bA y.2.1.Stopped)]), (iA y.2.2)])) (evCall1 (cx C) (evCall (cx C) (n+8)) (evCallY (cx C) (n+8)) (n+8) 21 [(A.agg (c_S_Journal a0)), (A.agg (c_S_Disk a1))] [] 0) some (F21 n a0 a1) some := by
  refine .lp (e21 ..) ?_
  unfold F21
  refine .s ((A.ptr 0 0), [Blk.box (c_S_Journal a0)]) (.s ((A.ptr 1 0), [Blk.box (c_S_Journal a0), Blk.box (c_S_Disk a1)]) (.s ((A.ptr 2 0), [Blk.box (c_S_Journal a0), Blk.box (c_S_Disk a1), Blk.box [(A.imm [] true), (iA 0), (iA 0)]]) (.s ((A.ptr 3 0), [Blk.box (c_S_Journal a0), Blk.box (c_S_Disk a1), Blk.box [(A.imm [] true), (iA 0), (iA 0)], Blk.box [(A.imm [] true), (A.imm [] true), (iA 0), (bA false)]]) (.s (A.agg (c_S_Journal a0)) ?_))))
  refine .bd (g := fun (y : Int) => (iA y)) (by show C 17 [snap [Blk.box (c_S_Journal a0), Blk.box (c_S_Disk a1), Blk.box [(A.imm [] true), (iA 0), (iA 0)], Blk.box [(A.imm [] true), (A.imm [] true), (iA 0), (bA false)]] (A.agg (c_S_Journal a0))] = _; simp only [snap, snapW, snapWs, snapWss, snapWss_map, trim, List.map_cons, List.map_nil, fl_cI, fl_c8, fl_cB, fl_cS, fl_cL, fl_S_Journal, fl_S_Write, fl_S_Disk, snapWs_app, fq_S_Journal, fq_S_Write, fq_S_Disk]; exact h17 a0) fun y1 => ?_
  refine .st (v := (bA (y1 != 0))) (aBin_neq ..) ?_
  refine .biHN (fun hk2 => ?_) (fun hk2 => ?_)
  · refine .s (A.agg [(A.imm [] true), (iA 0), (iA 0)]) (.s (A.agg [(A.imm [] true), (A.imm [] true), (iA 0), (bA false)]) (.s [Blk.box (c_S_Journal a0), Blk.box (c_S_Disk a1), Blk.box [(A.imm [] true), (iA 0), (iA 0)], Blk.box [(A.imm [] true), (A.imm [] true), (iA 0), (bA false)]] (.s [Blk.box (c_S_Journal a0), Blk.box (c_S_Disk a1), Blk.box [(A.imm [] true), (iA 0), (iA 0)], Blk.box [(A.imm [] true), (A.imm [] true), (iA 0), (bA false)]] (.s (A.agg [(A.imm [] true), (iA 0), (iA 0)]) (.s (A.agg [(A.imm [] true), (A.imm [] true), (iA 0), (bA false)]) ?_)))))
    exact .lf rfl rfl ⟨_, rfl, by show snapE [Blk.box (c_S_Journal a0), Blk.box (c_S_Disk a1), Blk.box [(A.imm [] true), (iA 0), (iA 0)], Blk.box [(A.imm [] true), (A.imm [] true), (iA 0), (bA false)]] (A.tup [(A.agg [(A.imm [] true), (iA 0), (iA 0)]), (A.agg [(A.imm [] true), (A.imm [] true), (iA 0), (bA false)]), (iA y1)]) = _; first | (simp only [snap, snapW, snapWs, snapWss, snapWss_map, trim, List.map_cons, List.map_nil, fl_cI, fl_c8, fl_cB, fl_cS, fl_cL, fl_S_Journal, fl_S_Write, fl_S_Disk, snapWs_app, fq_S_Journal, fq_S_Write, fq_S_Disk, snapE]; done) | (simp only [snap, snapW, snapWs, snapWss, snapWss_map, trim, fl_cI, fl_c8, fl_cB, fl_cS, fl_cL, fl_S_Journal, fl_S_Write, fl_S_Disk, snapWs_app, fq_S_Journal, fq_S_Write, fq_S_Disk, snapE]; done) | (simp only [snap, snapW, snapWs, snapWss, snapWss_map, trim, fl_cI, fl_c8, fl_cB, fl_cS, fl_cL, fl_S_Journal, fl_S_Write, fl_S_Disk, snapWs_app, fq_S_Journal, fq_S_Write, fq_S_Disk, snapE]; rfl)⟩
  refine .s (A.agg (c_S_Disk a1)) ?_
  refine .bd (g := fun (y : Int) => (iA y)) (by show C 31 [snap [Blk.box (c_S_Journal a0), Blk.box (c_S_Disk a1), Blk.box [(A.imm [] true), (iA 0), (iA 0)], Blk.box [(A.imm [] true), (A.imm [] true), (iA 0), (bA false)]] (A.agg (c_S_Disk a1))] = _; simp only [snap, snapW, snapWs, snapWss, snapWss_map, trim, List.map_cons, List.map_nil, fl_cI, fl_c8, fl_cB, fl_cS, fl_cL, fl_S_Journal, fl_S_Write, fl_S_Disk, snapWs_app, fq_S_Journal, fq_S_Write, fq_S_Disk]; exact h31 a1) fun y3 => ?_
  refine .st (v := (bA (y3 != 0))) (aBin_neq ..) ?_
  refine .biHN (fun hk4 => ?_) (fun hk4 => ?_)
  · refine .s (A.agg [(A.imm [] true), (iA 0), (iA 0)]) (.s (A.agg [(A.imm [] true), (A.imm [] true), (iA 0), (bA false)]) (.s [Blk.box (c_S_Journal a0), Blk.box (c_S_Disk a1), Blk.box [(A.imm [] true), (iA 0), (iA 0)], Blk.box [(A.imm [] true), (A.imm [] true), (iA 0), (bA false)]] (.s [Blk.box (c_S_Journal a0), Blk.box (c_S_Disk a1), Blk.box [(A.imm [] true), (iA 0), (iA 0)], Blk.box [(A.imm [] true), (A.imm [] true), (iA 0), (bA false)]] (.s (A.agg [(A.imm [] true), (iA 0), (iA 0)]) (.s (A.agg [(A.imm [] true), (A.imm [] true), (iA 0), (bA false)]) ?_)))))
    exact .lf rfl rfl ⟨_, rfl, by show snapE [Blk.box (c_S_Journal a0), Blk.box (c_S_Disk a1), Blk.box [(A.imm [] true), (iA 0), (iA 0)], Blk.box [(A.imm [] true), (A.imm [] true), (iA 0), (bA false)]] (A.tup [(A.agg [(A.imm [] true), (iA 0), (iA 0)]), (A.agg [(A.imm [] true), (A.imm [] true), (iA 0), (bA false)]), (iA y3)]) = _; first | (simp only [snap, snapW, snapWs, snapWss, snapWss_map, trim, List.map_cons, List.map_nil, fl_cI, fl_c8, fl_cB, fl_cS, fl_cL, fl_S_Journal, fl_S_Write, fl_S_Disk, snapWs_app, fq_S_Journal, fq_S_Write, fq_S_Disk, snapE]; done) | (simp only [snap, snapW, snapWs, snapWss, snapWss_map, trim, fl_cI, fl_c8, fl_cB, fl_cS, fl_cL, fl_S_Journal, fl_S_Write, fl_S_Disk, snapWs_app, fq_S_Journal, fq_S_Write, fq_S_Disk, snapE]; done) | (simp only [snap, snapW, snapWs, snapWss, snapWss_map, trim, fl_cI, fl_c8, fl_cB, fl_cS, fl_cL, fl_S_Journal, fl_S_Write, fl_S_Disk, snapWs_app, fq_S_Journal, fq_S_Write, fq_S_Disk, snapE]; rfl)⟩
  refine .s (A.ptr 0 1) (.s (iA a0.Many) (.s (A.ptr 1 0) (.s (A.imm (List.map (cL c8) a1.Sectors) false) ?_)))
  refine .st (v := (iA ((a1.Sectors.length : Int)))) (len_imm (e := 35) (h1 := by kernel_rfl) ..) ?_
  refine .st (v := (bA (a0.Many != ((a1.Sectors.length : Int))))) (aBin_neq ..) ?_
  refine .bg (fun t (y : Bool) => ∃ j7 j8 j9 : A, t = [(bA y), j7, j8, j9]) ?_ ?_
  · refine .biH (fun hk5 => ?_) (fun hk5 => ?_)
    · refine .s (A.ptr 1 3) (.s (bA a1.Stopped) (.s (bA (!a1.Stopped)) ?_))
      exact .lg ⟨_, _, _, rfl⟩
    exact .lg ⟨_, _, _, rfl⟩
  rintro _ y6 ⟨j7, j8, j9, rfl⟩
  iterate 4 refine .uc ?_
  refine .biHN (fun hk10 => ?_) (fun hk10 => ?_)
  · refine .s (A.agg [(A.imm [] true), (iA 0), (iA 0)]) (.s (A.agg [(A.imm [] true), (A.imm [] true), (iA 0), (bA false)]) (.s [Blk.box (c_S_Journal a0), Blk.box (c_S_Disk a1), Blk.box [(A.imm [] true), (iA 0), (iA 0)], Blk.box [(A.imm [] true), (A.imm [] true), (iA 0), (bA false)]] (.s [Blk.box (c_S_Journal a0), Blk.box (c_S_Disk a1), Blk.box [(A.imm [] true), (iA 0), (iA 0)], Blk.box [(A.imm [] true), (A.imm [] true), (iA 0), (bA false)]] (.s (A.agg [(A.imm [] true), (iA 0), (iA 0)]) (.s (A.agg [(A.imm [] true), (A.imm [] true), (iA 0), (bA false)]) ?_)))))
    exact .lf rfl rfl ⟨_, rfl, by show snapE [Blk.box (c_S_Journal a0), Blk.box (c_S_Disk a1), Blk.box [(A.imm [] true), (iA 0), (iA 0)], Blk.box [(A.imm [] true), (A.imm [] true), (iA 0), (bA false)]] (A.tup [(A.agg [(A.imm [] true), (iA 0), (iA 0)]), (A.agg [(A.imm [] true), (A.imm [] true), (iA 0), (bA false)]), (iA 1)]) = _; first | (simp only [snap, snapW, snapWs, snapWss, snapWss_map, trim, List.map_cons, List.map_nil, fl_cI, fl_c8, fl_cB, fl_cS, fl_cL, fl_S_Journal, fl_S_Write, fl_S_Disk, snapWs_app, fq_S_Journal, fq_S_Write, fq_S_Disk, snapE]; done) | (simp only [snap, snapW, snapWs, snapWss, snapWss_map, trim, fl_cI, fl_c8, fl_cB, fl_cS, fl_cL, fl_S_Journal, fl_S_Write, fl_S_Disk, snapWs_app, fq_S_Journal, fq_S_Write, fq_S_Disk, snapE]; done) | (simp only [snap, snapW, snapWs, snapWss, snapWss_map, trim, fl_cI, fl_c8, fl_cB, fl_cS, fl_cL, fl_S_Journal, fl_S_Write, fl_S_Disk, snapWs_app, fq_S_Journal, fq_S_Write, fq_S_Disk, snapE]; rfl)⟩
  refine .s (A.agg (c_S_Disk a1)) ?_
  refine .bd (g := fun (y : (S_Journal × Int)) => (A.tup [(A.agg [(A.imm (List.map (cL c8) y.1.Records) false), (iA y.1.Many), (iA y.1.Synced)]), (iA y.2)])) (by show C 12 [snap [Blk.box (c_S_Journal a0), Blk.box (c_S_Disk a1), Blk.box [(A.imm [] true), (iA 0), (iA 0)], Blk.box [(A.imm [] true), (A.imm [] true), (iA 0), (bA false)]] (A.agg (c_S_Disk a1))] = _; simp only [snap, snapW, snapWs, snapWss, snapWss_map, trim, List.map_cons, List.map_nil, fl_cI, fl_c8, fl_cB, fl_cS, fl_cL, fl_S_Journal, fl_S_Write, fl_S_Disk, snapWs_app, fq_S_Journal, fq_S_Write, fq_S_Disk]; exact h12 a1) fun y11 => ?_
  refine .s (A.agg (c_S_Journal y11.1)) (.s (iA y11.2) (.s ((A.ptr 4 0), [Blk.box (c_S_Journal a0), Blk.box (c_S_Disk a1), Blk.box [(A.imm [] true), (iA 0), (iA 0)], Blk.box [(A.imm [] true), (A.imm [] true), (iA 0), (bA false)], Blk.box [(A.imm [] true), (iA 0), (iA 0)]]) (.s [Blk.box (c_S_Journal a0), Blk.box (c_S_Disk a1), Blk.box [(A.imm [] true), (iA 0), (iA 0)], Blk.box [(A.imm [] true), (A.imm [] true), (iA 0), (bA false)], Blk.box (c_S_Journal y11.1)] ?_)))
  refine .st (v := (bA (y11.2 != 0))) (aBin_neq ..) ?_
  refine .biHN (fun hk12 => ?_) (fun hk12 => ?_)
  · refine .s (A.agg [(A.imm [] true), (iA 0), (iA 0)]) (.s (A.agg [(A.imm [] true), (A.imm [] true), (iA 0), (bA false)]) (.s [Blk.box (c_S_Journal a0), Blk.box (c_S_Disk a1), Blk.box [(A.imm [] true), (iA 0), (iA 0)], Blk.box [(A.imm [] true), (A.imm [] true), (iA 0), (bA false)], Blk.box (c_S_Journal y11.1)] (.s [Blk.box (c_S_Journal a0), Blk.box (c_S_Disk a1), Blk.box [(A.imm [] true), (iA 0), (iA 0)], Blk.box [(A.imm [] true), (A.imm [] true), (iA 0), (bA false)], Blk.box (c_S_Journal y11.1)] (.s (A.agg [(A.imm [] true), (iA 0), (iA 0)]) (.s (A.agg [(A.imm [] true), (A.imm [] true), (iA 0), (bA false)]) ?_)))))
    exact .lf rfl rfl ⟨_, rfl, by show snapE [Blk.box (c_S_Journal a0), Blk.box (c_S_Disk a1), Blk.box [(A.imm [] true), (iA 0), (iA 0)], Blk.box [(A.imm [] true), (A.imm [] true), (iA 0), (bA false)], Blk.box (c_S_Journal y11.1)] (A.tup [(A.agg [(A.imm [] true), (iA 0), (iA 0)]), (A.agg [(A.imm [] true), (A.imm [] true), (iA 0), (bA false)]), (iA y11.2)]) = _; first | (simp only [snap, snapW, snapWs, snapWss, snapWss_map, trim, List.map_cons, List.map_nil, fl_cI, fl_c8, fl_cB, fl_cS, fl_cL, fl_S_Journal, fl_S_Write, fl_S_Disk, snapWs_app, fq_S_Journal, fq_S_Write, fq_S_Disk, snapE]; done) | (simp only [snap, snapW, snapWs, snapWss, snapWss_map, trim, fl_cI, fl_c8, fl_cB, fl_cS, fl_cL, fl_S_Journal, fl_S_Write, fl_S_Disk, snapWs_app, fq_S_Journal, fq_S_Write, fq_S_Disk, snapE]; done) | (simp only [snap, snapW, snapWs, snapWss, snapWss_map, trim, fl_cI, fl_c8, fl_cB, fl_cS, fl_cL, fl_S_Journal, fl_S_Write, fl_S_Disk, snapWs_app, fq_S_Journal, fq_S_Write, fq_S_Disk, snapE]; rfl)⟩
  refine .s (A.ptr 1 0) (.s (A.imm (List.map (cL c8) a1.Sectors) false) ?_)
  refine .st (v := (iA ((a1.Sectors.length : Int)))) (len_imm (e := 35) (h1 := by kernel_rfl) ..) ?_
  refine .as (T21_21_0 C n h12 h17 h26 h27 h31 h35 h36 h41 h43 h44 y11.2 a1.Sectors ((a1.Sectors.length : Int)) a0 a1 ([]) 0 0 ([]) ([]) 0 false y11.1 _ _ _ _ ?_ _ 1 0)
  · intro y35 j36 j37 j38
    refine .un rfl ?_
    refine .cT (by kernel_rfl) ?_
    refine .s (A.ptr 4 0) (.s (A.imm (List.map (cL c8) y11.1.Records) false) (.s (A.ptr 0 0) (.s (A.imm (List.map (cL c8) a0.Records) false) (.s (A.ptr 0 2) (.s (iA a0.Synced) ?_)))))
    refine .bd (g := fun (y : List (List UInt8)) => (A.imm (List.map (cL c8) y) false)) (cut_imm (e := 35) (es := 1) (f := (cL c8)) (l := a0.Records) (a := 0) (b := a0.Synced) (by kernel_rfl) (by kernel_rfl) (fun _ => rfl) (.inl ⟨rfl, rfl⟩) (.inr ⟨_, rfl⟩)) fun y39 => ?_
    refine .cl ((evCall_in lt_42).trans (e42 C (evCall (cx C) (n+7)) (evCallY (cx C) (n+7)) (n+7) _ _ _ _ _)) ?_
    refine .st (v := (iA ((y11.1.Records.length : Int)))) (len_imm (e := 35) (h1 := by kernel_rfl) ..) ?_
    refine .st (v := (iA ((y39.length : Int)))) (len_imm (e := 35) (h1 := by kernel_rfl) ..) ?_
    refine .st (v := (bA (((y11.1.Records.length : Int)) != ((y39.length : Int))))) (aBin_neq ..) ?_
    refine .biHN (fun hk40 => ?_) (fun hk40 => ?_)
    · refine .cr ?_
      refine .ok ?_
      refine .s (bA true) ?_
      refine .bg (fun t (y : Bool) => ∃ j42 j43 j44 : A, t = [(bA y), j42, j43, j44]) ?_ ?_
      · refine .bT ?_
        exact .lg ⟨_, _, _, rfl⟩
      rintro _ y41 ⟨j42, j43, j44, rfl⟩
      iterate 4 refine .uc ?_
      refine .biHN (fun hk45 => ?_) (fun hk45 => ?_)
      · refine .s (A.agg [(A.imm [] true), (iA 0), (iA 0)]) (.s (A.agg [(A.imm [] true), (A.imm [] true), (iA 0), (bA false)]) (.s [Blk.box (c_S_Journal a0), Blk.box (c_S_Disk a1), Blk.box [(A.imm [] true), (iA 0), (iA 0)], Blk.box [(A.imm [] true), (A.imm [] true), (iA 0), (bA false)], Blk.box (c_S_Journal y11.1)] (.s [Blk.box (c_S_Journal a0), Blk.box (c_S_Disk a1), Blk.box [(A.imm [] true), (iA 0), (iA 0)], Blk.box [(A.imm [] true), (A.imm [] true), (iA 0), (bA false)], Blk.box (c_S_Journal y11.1)] (.s (A.agg [(A.imm [] true), (iA 0), (iA 0)]) (.s (A.agg [(A.imm [] true), (A.imm [] true), (iA 0), (bA false)]) ?_)))))
        exact .lf rfl rfl ⟨_, rfl, by show snapE [Blk.box (c_S_Journal a0), Blk.box (c_S_Disk a1), Blk.box [(A.imm [] true), (iA 0), (iA 0)], Blk.box [(A.imm [] true), (A.imm [] true), (iA 0), (bA false)], Blk.box (c_S_Journal y11.1)] (A.tup [(A.agg [(A.imm [] true), (iA 0), (iA 0)]), (A.agg [(A.imm [] true), (A.imm [] true), (iA 0), (bA false)]), (iA 50)]) = _; first | (simp only [snap, snapW, snapWs, snapWss, snapWss_map, trim, List.map_cons, List.map_nil, fl_cI, fl_c8, fl_cB, fl_cS, fl_cL, fl_S_Journal, fl_S_Write, fl_S_Disk, snapWs_app, fq_S_Journal, fq_S_Write, fq_S_Disk, snapE]; done) | (simp only [snap, snapW, snapWs, snapWss, snapWss_map, trim, fl_cI, fl_c8, fl_cB, fl_cS, fl_cL, fl_S_Journal, fl_S_Write, fl_S_Disk, snapWs_app, fq_S_Journal, fq_S_Write, fq_S_Disk, snapE]; done) | (simp only [snap, snapW, snapWs, snapWss, snapWss_map, trim, fl_cI, fl_c8, fl_cB, fl_cS, fl_cL, fl_S_Journal, fl_S_Write, fl_S_Disk, snapWs_app, fq_S_Journal, fq_S_Write, fq_S_Disk, snapE]; rfl)⟩
      refine .s (A.ptr 0 2) (.s (iA a0.Synced) (.s (A.ptr 0 0) (.s (A.imm (List.map (cL c8) a0.Records) false) ?_)))
      refine .st (v := (iA ((a0.Records.length : Int)))) (len_imm (e := 35) (h1 := by kernel_rfl) ..) ?_
      refine .st (v := (bA (a0.Synced == ((a0.Records.length : Int))))) (aBin_eql ..) ?_
      refine .biHN (fun hk46 => ?_) (fun hk46 => ?_)
      · refine .s (A.agg (c_S_Journal a0)) (.s (A.agg (c_S_Disk a1)) ?_)
        refine .cT (by kernel_rfl) ?_
        refine .s [Blk.box (c_S_Journal a0), Blk.box (c_S_Disk a1), Blk.box (c_S_Journal a0), Blk.box [(A.imm [] true), (A.imm [] true), (iA 0), (bA false)], Blk.box (c_S_Journal y11.1)] (.s [Blk.box (c_S_Journal a0), Blk.box (c_S_Disk a1), Blk.box (c_S_Journal a0), Blk.box (c_S_Disk a1), Blk.box (c_S_Journal y11.1)] (.s (A.agg (c_S_Journal a0)) (.s (A.agg (c_S_Disk a1)) ?_)))
        exact .lf rfl rfl ⟨_, rfl, by show snapE [Blk.box (c_S_Journal a0), Blk.box (c_S_Disk a1), Blk.box (c_S_Journal a0), Blk.box (c_S_Disk a1), Blk.box (c_S_Journal y11.1)] (A.tup [(A.agg (c_S_Journal a0)), (A.agg (c_S_Disk a1)), (iA 0)]) = _; first | (simp only [snap, snapW, snapWs, snapWss, snapWss_map, trim, List.map_cons, List.map_nil, fl_cI, fl_c8, fl_cB, fl_cS, fl_cL, fl_S_Journal, fl_S_Write, fl_S_Disk, snapWs_app, fq_S_Journal, fq_S_Write, fq_S_Disk, snapE]; done) | (simp only [snap, snapW, snapWs, snapWss, snapWss_map, trim, fl_cI, fl_c8, fl_cB, fl_cS, fl_cL, fl_S_Journal, fl_S_Write, fl_S_Disk, snapWs_app, fq_S_Journal, fq_S_Write, fq_S_Disk, snapE]; done) | (simp only [snap, snapW, snapWs, snapWss, snapWss_map, trim, fl_cI, fl_c8, fl_cB, fl_cS, fl_cL, fl_S_Journal, fl_S_Write, fl_S_Disk, snapWs_app, fq_S_Journal, fq_S_Write, fq_S_Disk, snapE]; rfl)⟩
      refine .s (A.ptr 0 0) (.s (A.imm (List.map (cL c8) a0.Records) false) (.s (A.ptr 0 2) (.s (iA a0.Synced) ?_)))
      refine .bd (g := fun (y : List (List UInt8)) => (A.imm (List.map (cL c8) y) false)) (cut_imm (e := 35) (es := 1) (f := (cL c8)) (l := a0.Records) (a := 0) (b := a0.Synced) (by kernel_rfl) (by kernel_rfl) (fun _ => rfl) (.inl ⟨rfl, rfl⟩) (.inr ⟨_, rfl⟩)) fun y47 => ?_
      refine .bd (g := fun (y : Int) => (iA y)) (by show C 36 [snap [Blk.box (c_S_Journal a0), Blk.box (c_S_Disk a1), Blk.box [(A.imm [] true), (iA 0), (iA 0)], Blk.box [(A.imm [] true), (A.imm [] true), (iA 0), (bA false)], Blk.box (c_S_Journal y11.1)] (A.imm (List.map (cL c8) y47) false)] = _; simp only [snap, snapW, snapWs, snapWss, snapWss_map, trim, List.map_cons, List.map_nil, fl_cI, fl_c8, fl_cB, fl_cS, fl_cL, fl_S_Journal, fl_S_Write, fl_S_Disk, snapWs_app, fq_S_Journal, fq_S_Write, fq_S_Disk]; exact h36 y47) fun y48 => ?_
      refine .s (A.ptr 0 0) (.s (A.imm (List.map (cL c8) a0.Records) false) (.s (A.ptr 0 2) (.s (iA a0.Synced) ?_)))
      refine .bd (g := fun (y : List (List UInt8)) => (A.imm (List.map (cL c8) y) false)) (cut_imm (e := 35) (es := 1) (f := (cL c8)) (l := a0.Records) (a := a0.Synced) (b := (a0.Records.length : Int)) (by kernel_rfl) (by kernel_rfl) (fun _ => rfl) (.inr ⟨_, rfl⟩) (.inl ⟨rfl, rfl⟩)) fun y49 => ?_
      refine .st (v := (iA ((y49.length : Int)))) (len_imm (e := 35) (h1 := by kernel_rfl) ..) ?_
      refine .as (T21_21_1 C n h12 h17 h26 h27 h31 h35 h36 h41 h43 h44 y35 y49 ((y49.length : Int)) a0 ([]) 0 0 ([]) ([]) 0 false y11.1 _ _ _ _ ?_ ?_ _ y11.2 y48 0 a1)
      · intro y124 y125 y126 y127 y128 y129 y130 y131 y132 j133 j134 j135 j136 j137 j138 j139
        refine .un rfl ?_
        refine .s (A.agg [(A.imm [] true), (iA y129), (iA y130)]) (.s (A.agg [(A.imm [] true), (A.imm [] true), (iA y131), (bA y132)]) ?_)
        exact .lf rfl rfl ⟨_, rfl, by show snapE [Blk.box (c_S_Journal a0), Blk.box [(A.imm (List.map (cL c8) y125) false), (A.imm (List.map c_S_Write y126) false), (iA y127), (bA y128)], Blk.box [(A.imm [] true), (iA y129), (iA y130)], Blk.box [(A.imm [] true), (A.imm [] true), (iA y131), (bA y132)], Blk.box (c_S_Journal y11.1)] (A.tup [(A.agg [(A.imm [] true), (iA y129), (iA y130)]), (A.agg [(A.imm [] true), (A.imm [] true), (iA y131), (bA y132)]), (iA y124)]) = _; first | (simp only [snap, snapW, snapWs, snapWss, snapWss_map, trim, List.map_cons, List.map_nil, fl_cI, fl_c8, fl_cB, fl_cS, fl_cL, fl_S_Journal, fl_S_Write, fl_S_Disk, snapWs_app, fq_S_Journal, fq_S_Write, fq_S_Disk, snapE]; done) | (simp only [snap, snapW, snapWs, snapWss, snapWss_map, trim, fl_cI, fl_c8, fl_cB, fl_cS, fl_cL, fl_S_Journal, fl_S_Write, fl_S_Disk, snapWs_app, fq_S_Journal, fq_S_Write, fq_S_Disk, snapE]; done) | (simp only [snap, snapW, snapWs, snapWss, snapWss_map, trim, fl_cI, fl_c8, fl_cB, fl_cS, fl_cL, fl_S_Journal, fl_S_Write, fl_S_Disk, snapWs_app, fq_S_Journal, fq_S_Write, fq_S_Disk, snapE]; rfl)⟩
      · intro y140 y141 y142 y143 j144 j145 j146 j147 j148 j149
        refine .un rfl ?_
        refine .cT (by kernel_rfl) ?_
        refine .s (A.agg [(A.imm (List.map (cL c8) y140) false), (A.imm (List.map c_S_Write y141) false), (iA y142), (bA y143)]) ?_
        refine .bd (g := fun (y : (S_Disk × Int)) => (A.tup [(A.agg [(A.imm (List.map (cL c8) y.1.Sectors) false), (A.imm (List.map c_S_Write y.1.Pending) false), (iA y.1.Left), (bA y.1.Stopped)]), (iA y.2)])) (by show C 27 [snap [Blk.box (c_S_Journal a0), Blk.box [(A.imm (List.map (cL c8) y140) false), (A.imm (List.map c_S_Write y141) false), (iA y142), (bA y143)], Blk.box [(A.imm [] true), (iA 0), (iA 0)], Blk.box [(A.imm [] true), (A.imm [] true), (iA 0), (bA false)], Blk.box (c_S_Journal y11.1)] (A.agg [(A.imm (List.map (cL c8) y140) false), (A.imm (List.map c_S_Write y141) false), (iA y142), (bA y143)])] = _; simp only [snap, snapW, snapWs, snapWss, snapWss_map, trim, List.map_cons, List.map_nil, fl_cI, fl_c8, fl_cB, fl_cS, fl_cL, fl_S_Journal, fl_S_Write, fl_S_Disk, snapWs_app, fq_S_Journal, fq_S_Write, fq_S_Disk]; exact h27 ((S_Disk.mk y140 y141 y142 y143))) fun y150 => ?_
        refine .s (A.agg (c_S_Disk y150.1)) (.s (iA y150.2) (.s [Blk.box (c_S_Journal a0), Blk.box (c_S_Disk y150.1), Blk.box [(A.imm [] true), (iA 0), (iA 0)], Blk.box [(A.imm [] true), (A.imm [] true), (iA 0), (bA false)], Blk.box (c_S_Journal y11.1)] ?_))
        refine .st (v := (bA (y150.2 != 0))) (aBin_neq ..) ?_
        refine .biHN (fun hk151 => ?_) (fun hk151 => ?_)
        · refine .s (A.agg [(A.imm [] true), (iA 0), (iA 0)]) (.s (A.agg (c_S_Disk y150.1)) ?_)
          refine .cT (by kernel_rfl) ?_
          refine .s [Blk.box (c_S_Journal a0), Blk.box (c_S_Disk y150.1), Blk.box [(A.imm [] true), (iA 0), (iA 0)], Blk.box [(A.imm [] true), (A.imm [] true), (iA 0), (bA false)], Blk.box (c_S_Journal y11.1)] (.s [Blk.box (c_S_Journal a0), Blk.box (c_S_Disk y150.1), Blk.box [(A.imm [] true), (iA 0), (iA 0)], Blk.box (c_S_Disk y150.1), Blk.box (c_S_Journal y11.1)] (.s (A.agg [(A.imm [] true), (iA 0), (iA 0)]) (.s (A.agg (c_S_Disk y150.1)) ?_)))
          exact .lf rfl rfl ⟨_, rfl, by show snapE [Blk.box (c_S_Journal a0), Blk.box (c_S_Disk y150.1), Blk.box [(A.imm [] true), (iA 0), (iA 0)], Blk.box (c_S_Disk y150.1), Blk.box (c_S_Journal y11.1)] (A.tup [(A.agg [(A.imm [] true), (iA 0), (iA 0)]), (A.agg (c_S_Disk y150.1)), (iA y150.2)]) = _; first | (simp only [snap, snapW, snapWs, snapWss, snapWss_map, trim, List.map_cons, List.map_nil, fl_cI, fl_c8, fl_cB, fl_cS, fl_cL, fl_S_Journal, fl_S_Write, fl_S_Disk, snapWs_app, fq_S_Journal, fq_S_Write, fq_S_Disk, snapE]; done) | (simp only [snap, snapW, snapWs, snapWss, snapWss_map, trim, fl_cI, fl_c8, fl_cB, fl_cS, fl_cL, fl_S_Journal, fl_S_Write, fl_S_Disk, snapWs_app, fq_S_Journal, fq_S_Write, fq_S_Disk, snapE]; done) | (simp only [snap, snapW, snapWs, snapWss, snapWss_map, trim, fl_cI, fl_c8, fl_cB, fl_cS, fl_cL, fl_S_Journal, fl_S_Write, fl_S_Disk, snapWs_app, fq_S_Journal, fq_S_Write, fq_S_Disk, snapE]; rfl)⟩
        refine .s (A.ptr 0 0) (.s (A.imm (List.map (cL c8) a0.Records) false) ?_)
        refine .st (v := (iA ((a0.Records.length : Int)))) (len_imm (e := 35) (h1 := by kernel_rfl) ..) ?_
        refine .s (A.ptr 0 2) (.s [(hk21_4 a0), Blk.box (c_S_Disk y150.1), Blk.box [(A.imm [] true), (iA 0), (iA 0)], Blk.box [(A.imm [] true), (A.imm [] true), (iA 0), (bA false)], Blk.box (c_S_Journal y11.1)] (.s (A.agg [(A.imm (List.map (cL c8) a0.Records) false), (iA a0.Many), (iA ((a0.Records.length : Int)))]) (.s (A.agg (c_S_Disk y150.1)) ?_)))
        refine .cT (by kernel_rfl) ?_
        refine .s [(hk21_4 a0), Blk.box (c_S_Disk y150.1), (hk21_4 a0), Blk.box [(A.imm [] true), (A.imm [] true), (iA 0), (bA false)], Blk.box (c_S_Journal y11.1)] (.s [(hk21_4 a0), Blk.box (c_S_Disk y150.1), (hk21_4 a0), Blk.box (c_S_Disk y150.1), Blk.box (c_S_Journal y11.1)] (.s (A.agg [(A.imm (List.map (cL c8) a0.Records) false), (iA a0.Many), (iA ((a0.Records.length : Int)))]) (.s (A.agg (c_S_Disk y150.1)) ?_)))
        exact .lf rfl rfl ⟨_, rfl, by show snapE [(hk21_4 a0), Blk.box (c_S_Disk y150.1), (hk21_4 a0), Blk.box (c_S_Disk y150.1), Blk.box (c_S_Journal y11.1)] (A.tup [(A.agg [(A.imm (List.map (cL c8) a0.Records) false), (iA a0.Many), (iA ((a0.Records.length : Int)))]), (A.agg (c_S_Disk y150.1)), (iA 0)]) = _; first | (simp only [snap, snapW, snapWs, snapWss, snapWss_map, trim, List.map_cons, List.map_nil, fl_cI, fl_c8, fl_cB, fl_cS, fl_cL, fl_S_Journal, fl_S_Write, fl_S_Disk, snapWs_app, fq_S_Journal, fq_S_Write, fq_S_Disk, snapE]; done) | (simp only [snap, snapW, snapWs, snapWss, snapWss_map, trim, fl_cI, fl_c8, fl_cB, fl_cS, fl_cL, fl_S_Journal, fl_S_Write, fl_S_Disk, snapWs_app, fq_S_Journal, fq_S_Write, fq_S_Disk, snapE]; done) | (simp only [snap, snapW, snapWs, snapWss, snapWss_map, trim, fl_cI, fl_c8, fl_cB, fl_cS, fl_cL, fl_S_Journal, fl_S_Write, fl_S_Disk, snapWs_app, fq_S_Journal, fq_S_Write, fq_S_Disk, snapE]; rfl)⟩
    refine .st (v := (iA ((y11.1.Records.length : Int)))) (len_imm (e := 35) (h1 := by kernel_rfl) ..) ?_
    refine .as (T21_42_0 C n h12 h17 h26 h27 h31 h35 h36 h41 h43 h44 y39 false y11.1.Records ((y11.1.Records.length : Int)) a0 a1 ([]) 0 0 ([]) ([]) 0 false y11.1 _ _ _ _ ?_ ?_ _ 0)
    · intro y173 j174 j175 j176 j177 j178
      refine .un rfl ?_
      refine .cr ?_
      refine .ok ?_
      refine .s (bA (!y173)) ?_
      refine .bg (fun t (y : Bool) => ∃ j181 j182 j183 : A, t = [(bA y), j181, j182, j183]) ?_ ?_
      · refine .biH (fun hk179 => ?_) (fun hk179 => ?_)
        · exact .lg ⟨_, _, _, rfl⟩
        refine .st (v := (A.v (Value.int .u64 (shrI .u64 y35 32)))) (aBin_shr (hb := by decide) ..) ?_
        refine .st (v := (bA ((shrI .u64 y35 32) != 0))) (aBin_neq ..) ?_
        exact .lg ⟨_, _, _, rfl⟩
      rintro _ y180 ⟨j181, j182, j183, rfl⟩
      iterate 4 refine .uc ?_
      refine .biHN (fun hk184 => ?_) (fun hk184 => ?_)
      · refine .s (A.agg [(A.imm [] true), (iA 0), (iA 0)]) (.s (A.agg [(A.imm [] true), (A.imm [] true), (iA 0), (bA false)]) (.s [Blk.box (c_S_Journal a0), Blk.box (c_S_Disk a1), Blk.box [(A.imm [] true), (iA 0), (iA 0)], Blk.box [(A.imm [] true), (A.imm [] true), (iA 0), (bA false)], Blk.box (c_S_Journal y11.1)] (.s [Blk.box (c_S_Journal a0), Blk.box (c_S_Disk a1), Blk.box [(A.imm [] true), (iA 0), (iA 0)], Blk.box [(A.imm [] true), (A.imm [] true), (iA 0), (bA false)], Blk.box (c_S_Journal y11.1)] (.s (A.agg [(A.imm [] true), (iA 0), (iA 0)]) (.s (A.agg [(A.imm [] true), (A.imm [] true), (iA 0), (bA false)]) ?_)))))
        exact .lf rfl rfl ⟨_, rfl, by show snapE [Blk.box (c_S_Journal a0), Blk.box (c_S_Disk a1), Blk.box [(A.imm [] true), (iA 0), (iA 0)], Blk.box [(A.imm [] true), (A.imm [] true), (iA 0), (bA false)], Blk.box (c_S_Journal y11.1)] (A.tup [(A.agg [(A.imm [] true), (iA 0), (iA 0)]), (A.agg [(A.imm [] true), (A.imm [] true), (iA 0), (bA false)]), (iA 50)]) = _; first | (simp only [snap, snapW, snapWs, snapWss, snapWss_map, trim, List.map_cons, List.map_nil, fl_cI, fl_c8, fl_cB, fl_cS, fl_cL, fl_S_Journal, fl_S_Write, fl_S_Disk, snapWs_app, fq_S_Journal, fq_S_Write, fq_S_Disk, snapE]; done) | (simp only [snap, snapW, snapWs, snapWss, snapWss_map, trim, fl_cI, fl_c8, fl_cB, fl_cS, fl_cL, fl_S_Journal, fl_S_Write, fl_S_Disk, snapWs_app, fq_S_Journal, fq_S_Write, fq_S_Disk, snapE]; done) | (simp only [snap, snapW, snapWs, snapWss, snapWss_map, trim, fl_cI, fl_c8, fl_cB, fl_cS, fl_cL, fl_S_Journal, fl_S_Write, fl_S_Disk, snapWs_app, fq_S_Journal, fq_S_Write, fq_S_Disk, snapE]; rfl)⟩
      refine .s (A.ptr 0 2) (.s (iA a0.Synced) (.s (A.ptr 0 0) (.s (A.imm (List.map (cL c8) a0.Records) false) ?_)))
      refine .st (v := (iA ((a0.Records.length : Int)))) (len_imm (e := 35) (h1 := by kernel_rfl) ..) ?_
      refine .st (v := (bA (a0.Synced == ((a0.Records.length : Int))))) (aBin_eql ..) ?_
      refine .biHN (fun hk185 => ?_) (fun hk185 => ?_)
      · refine .s (A.agg (c_S_Journal a0)) (.s (A.agg (c_S_Disk a1)) ?_)
        refine .cT (by kernel_rfl) ?_
        refine .s [Blk.box (c_S_Journal a0), Blk.box (c_S_Disk a1), Blk.box (c_S_Journal a0), Blk.box [(A.imm [] true), (A.imm [] true), (iA 0), (bA false)], Blk.box (c_S_Journal y11.1)] (.s [Blk.box (c_S_Journal a0), Blk.box (c_S_Disk a1), Blk.box (c_S_Journal a0), Blk.box (c_S_Disk a1), Blk.box (c_S_Journal y11.1)] (.s (A.agg (c_S_Journal a0)) (.s (A.agg (c_S_Disk a1)) ?_)))
        exact .lf rfl rfl ⟨_, rfl, by show snapE [Blk.box (c_S_Journal a0), Blk.box (c_S_Disk a1), Blk.box (c_S_Journal a0), Blk.box (c_S_Disk a1), Blk.box (c_S_Journal y11.1)] (A.tup [(A.agg (c_S_Journal a0)), (A.agg (c_S_Disk a1)), (iA 0)]) = _; first | (simp only [snap, snapW, snapWs, snapWss, snapWss_map, trim, List.map_cons, List.map_nil, fl_cI, fl_c8, fl_cB, fl_cS, fl_cL, fl_S_Journal, fl_S_Write, fl_S_Disk, snapWs_app, fq_S_Journal, fq_S_Write, fq_S_Disk, snapE]; done) | (simp only [snap, snapW, snapWs, snapWss, snapWss_map, trim, fl_cI, fl_c8, fl_cB, fl_cS, fl_cL, fl_S_Journal, fl_S_Write, fl_S_Disk, snapWs_app, fq_S_Journal, fq_S_Write, fq_S_Disk, snapE]; done) | (simp only [snap, snapW, snapWs, snapWss, snapWss_map, trim, fl_cI, fl_c8, fl_cB, fl_cS, fl_cL, fl_S_Journal, fl_S_Write, fl_S_Disk, snapWs_app, fq_S_Journal, fq_S_Write, fq_S_Disk, snapE]; rfl)⟩
      refine .s (A.ptr 0 0) (.s (A.imm (List.map (cL c8) a0.Records) false) (.s (A.ptr 0 2) (.s (iA a0.Synced) ?_)))
      refine .bd (g := fun (y : List (List UInt8)) => (A.imm (List.map (cL c8) y) false)) (cut_imm (e := 35) (es := 1) (f := (cL c8)) (l := a0.Records) (a := 0) (b := a0.Synced) (by kernel_rfl) (by kernel_rfl) (fun _ => rfl) (.inl ⟨rfl, rfl⟩) (.inr ⟨_, rfl⟩)) fun y186 => ?_
      refine .bd (g := fun (y : Int) => (iA y)) (by show C 36 [snap [Blk.box (c_S_Journal a0), Blk.box (c_S_Disk a1), Blk.box [(A.imm [] true), (iA 0), (iA 0)], Blk.box [(A.imm [] true), (A.imm [] true), (iA 0), (bA false)], Blk.box (c_S_Journal y11.1)] (A.imm (List.map (cL c8) y186) false)] = _; simp only [snap, snapW, snapWs, snapWss, snapWss_map, trim, List.map_cons, List.map_nil, fl_cI, fl_c8, fl_cB, fl_cS, fl_cL, fl_S_Journal, fl_S_Write, fl_S_Disk, snapWs_app, fq_S_Journal, fq_S_Write, fq_S_Disk]; exact h36 y186) fun y187 => ?_
      refine .s (A.ptr 0 0) (.s (A.imm (List.map (cL c8) a0.Records) false) (.s (A.ptr 0 2) (.s (iA a0.Synced) ?_)))
      refine .bd (g := fun (y : List (List UInt8)) => (A.imm (List.map (cL c8) y) false)) (cut_imm (e := 35) (es := 1) (f := (cL c8)) (l := a0.Records) (a := a0.Synced) (b := (a0.Records.length : Int)) (by kernel_rfl) (by kernel_rfl) (fun _ => rfl) (.inr ⟨_, rfl⟩) (.inl ⟨rfl, rfl⟩)) fun y188 => ?_
      refine .st (v := (iA ((y188.length : Int)))) (len_imm (e := 35) (h1 := by kernel_rfl) ..) ?_
      refine .as (T21_21_1 C n h12 h17 h26 h27 h31 h35 h36 h41 h43 h44 y35 y188 ((y188.length : Int)) a0 ([]) 0 0 ([]) ([]) 0 false y11.1 _ _ _ _ ?_ ?_ _ y11.2 y187 0 a1)
      · intro y263 y264 y265 y266 y267 y268 y269 y270 y271 j272 j273 j274 j275 j276 j277 j278
        refine .un rfl ?_
        refine .s (A.agg [(A.imm [] true), (iA y268), (iA y269)]) (.s (A.agg [(A.imm [] true), (A.imm [] true), (iA y270), (bA y271)]) ?_)
        exact .lf rfl rfl ⟨_, rfl, by show snapE [Blk.box (c_S_Journal a0), Blk.box [(A.imm (List.map (cL c8) y264) false), (A.imm (List.map c_S_Write y265) false), (iA y266), (bA y267)], Blk.box [(A.imm [] true), (iA y268), (iA y269)], Blk.box [(A.imm [] true), (A.imm [] true), (iA y270), (bA y271)], Blk.box (c_S_Journal y11.1)] (A.tup [(A.agg [(A.imm [] true), (iA y268), (iA y269)]), (A.agg [(A.imm [] true), (A.imm [] true), (iA y270), (bA y271)]), (iA y263)]) = _; first | (simp only [snap, snapW, snapWs, snapWss, snapWss_map, trim, List.map_cons, List.map_nil, fl_cI, fl_c8, fl_cB, fl_cS, fl_cL, fl_S_Journal, fl_S_Write, fl_S_Disk, snapWs_app, fq_S_Journal, fq_S_Write, fq_S_Disk, snapE]; done) | (simp only [snap, snapW, snapWs, snapWss, snapWss_map, trim, fl_cI, fl_c8, fl_cB, fl_cS, fl_cL, fl_S_Journal, fl_S_Write, fl_S_Disk, snapWs_app, fq_S_Journal, fq_S_Write, fq_S_Disk, snapE]; done) | (simp only [snap, snapW, snapWs, snapWss, snapWss_map, trim, fl_cI, fl_c8, fl_cB, fl_cS, fl_cL, fl_S_Journal, fl_S_Write, fl_S_Disk, snapWs_app, fq_S_Journal, fq_S_Write, fq_S_Disk, snapE]; rfl)⟩
      · intro y279 y280 y281 y282 j283 j284 j285 j286 j287 j288
        refine .un rfl ?_
        refine .cT (by kernel_rfl) ?_
        refine .s (A.agg [(A.imm (List.map (cL c8) y279) false), (A.imm (List.map c_S_Write y280) false), (iA y281), (bA y282)]) ?_
        refine .bd (g := fun (y : (S_Disk × Int)) => (A.tup [(A.agg [(A.imm (List.map (cL c8) y.1.Sectors) false), (A.imm (List.map c_S_Write y.1.Pending) false), (iA y.1.Left), (bA y.1.Stopped)]), (iA y.2)])) (by show C 27 [snap [Blk.box (c_S_Journal a0), Blk.box [(A.imm (List.map (cL c8) y279) false), (A.imm (List.map c_S_Write y280) false), (iA y281), (bA y282)], Blk.box [(A.imm [] true), (iA 0), (iA 0)], Blk.box [(A.imm [] true), (A.imm [] true), (iA 0), (bA false)], Blk.box (c_S_Journal y11.1)] (A.agg [(A.imm (List.map (cL c8) y279) false), (A.imm (List.map c_S_Write y280) false), (iA y281), (bA y282)])] = _; simp only [snap, snapW, snapWs, snapWss, snapWss_map, trim, List.map_cons, List.map_nil, fl_cI, fl_c8, fl_cB, fl_cS, fl_cL, fl_S_Journal, fl_S_Write, fl_S_Disk, snapWs_app, fq_S_Journal, fq_S_Write, fq_S_Disk]; exact h27 ((S_Disk.mk y279 y280 y281 y282))) fun y289 => ?_
        refine .s (A.agg (c_S_Disk y289.1)) (.s (iA y289.2) (.s [Blk.box (c_S_Journal a0), Blk.box (c_S_Disk y289.1), Blk.box [(A.imm [] true), (iA 0), (iA 0)], Blk.box [(A.imm [] true), (A.imm [] true), (iA 0), (bA false)], Blk.box (c_S_Journal y11.1)] ?_))
        refine .st (v := (bA (y289.2 != 0))) (aBin_neq ..) ?_
        refine .biHN (fun hk290 => ?_) (fun hk290 => ?_)
        · refine .s (A.agg [(A.imm [] true), (iA 0), (iA 0)]) (.s (A.agg (c_S_Disk y289.1)) ?_)
          refine .cT (by kernel_rfl) ?_
          refine .s [Blk.box (c_S_Journal a0), Blk.box (c_S_Disk y289.1), Blk.box [(A.imm [] true), (iA 0), (iA 0)], Blk.box [(A.imm [] true), (A.imm [] true), (iA 0), (bA false)], Blk.box (c_S_Journal y11.1)] (.s [Blk.box (c_S_Journal a0), Blk.box (c_S_Disk y289.1), Blk.box [(A.imm [] true), (iA 0), (iA 0)], Blk.box (c_S_Disk y289.1), Blk.box (c_S_Journal y11.1)] (.s (A.agg [(A.imm [] true), (iA 0), (iA 0)]) (.s (A.agg (c_S_Disk y289.1)) ?_)))
          exact .lf rfl rfl ⟨_, rfl, by show snapE [Blk.box (c_S_Journal a0), Blk.box (c_S_Disk y289.1), Blk.box [(A.imm [] true), (iA 0), (iA 0)], Blk.box (c_S_Disk y289.1), Blk.box (c_S_Journal y11.1)] (A.tup [(A.agg [(A.imm [] true), (iA 0), (iA 0)]), (A.agg (c_S_Disk y289.1)), (iA y289.2)]) = _; first | (simp only [snap, snapW, snapWs, snapWss, snapWss_map, trim, List.map_cons, List.map_nil, fl_cI, fl_c8, fl_cB, fl_cS, fl_cL, fl_S_Journal, fl_S_Write, fl_S_Disk, snapWs_app, fq_S_Journal, fq_S_Write, fq_S_Disk, snapE]; done) | (simp only [snap, snapW, snapWs, snapWss, snapWss_map, trim, fl_cI, fl_c8, fl_cB, fl_cS, fl_cL, fl_S_Journal, fl_S_Write, fl_S_Disk, snapWs_app, fq_S_Journal, fq_S_Write, fq_S_Disk, snapE]; done) | (simp only [snap, snapW, snapWs, snapWss, snapWss_map, trim, fl_cI, fl_c8, fl_cB, fl_cS, fl_cL, fl_S_Journal, fl_S_Write, fl_S_Disk, snapWs_app, fq_S_Journal, fq_S_Write, fq_S_Disk, snapE]; rfl)⟩
        refine .s (A.ptr 0 0) (.s (A.imm (List.map (cL c8) a0.Records) false) ?_)
        refine .st (v := (iA ((a0.Records.length : Int)))) (len_imm (e := 35) (h1 := by kernel_rfl) ..) ?_
        refine .s (A.ptr 0 2) (.s [(hk21_4 a0), Blk.box (c_S_Disk y289.1), Blk.box [(A.imm [] true), (iA 0), (iA 0)], Blk.box [(A.imm [] true), (A.imm [] true), (iA 0), (bA false)], Blk.box (c_S_Journal y11.1)] (.s (A.agg [(A.imm (List.map (cL c8) a0.Records) false), (iA a0.Many), (iA ((a0.Records.length : Int)))]) (.s (A.agg (c_S_Disk y289.1)) ?_)))
        refine .cT (by kernel_rfl) ?_
        refine .s [(hk21_4 a0), Blk.box (c_S_Disk y289.1), (hk21_4 a0), Blk.box [(A.imm [] true), (A.imm [] true), (iA 0), (bA false)], Blk.box (c_S_Journal y11.1)] (.s [(hk21_4 a0), Blk.box (c_S_Disk y289.1), (hk21_4 a0), Blk.box (c_S_Disk y289.1), Blk.box (c_S_Journal y11.1)] (.s (A.agg [(A.imm (List.map (cL c8) a0.Records) false), (iA a0.Many), (iA ((a0.Records.length : Int)))]) (.s (A.agg (c_S_Disk y289.1)) ?_)))
        exact .lf rfl rfl ⟨_, rfl, by show snapE [(hk21_4 a0), Blk.box (c_S_Disk y289.1), (hk21_4 a0), Blk.box (c_S_Disk y289.1), Blk.box (c_S_Journal y11.1)] (A.tup [(A.agg [(A.imm (List.map (cL c8) a0.Records) false), (iA a0.Many), (iA ((a0.Records.length : Int)))]), (A.agg (c_S_Disk y289.1)), (iA 0)]) = _; first | (simp only [snap, snapW, snapWs, snapWss, snapWss_map, trim, List.map_cons, List.map_nil, fl_cI, fl_c8, fl_cB, fl_cS, fl_cL, fl_S_Journal, fl_S_Write, fl_S_Disk, snapWs_app, fq_S_Journal, fq_S_Write, fq_S_Disk, snapE]; done) | (simp only [snap, snapW, snapWs, snapWss, snapWss_map, trim, fl_cI, fl_c8, fl_cB, fl_cS, fl_cL, fl_S_Journal, fl_S_Write, fl_S_Disk, snapWs_app, fq_S_Journal, fq_S_Write, fq_S_Disk, snapE]; done) | (simp only [snap, snapW, snapWs, snapWss, snapWss_map, trim, fl_cI, fl_c8, fl_cB, fl_cS, fl_cL, fl_S_Journal, fl_S_Write, fl_S_Disk, snapWs_app, fq_S_Journal, fq_S_Write, fq_S_Disk, snapE]; rfl)⟩
    · intro j291 j292 j293 j294 j295 j296
      refine .un rfl ?_
      refine .cT (by kernel_rfl) ?_
      refine .cr ?_
      refine .ok ?_
      refine .s (bA false) ?_
      refine .bg (fun t (y : Bool) => ∃ j298 j299 j300 : A, t = [(bA y), j298, j299, j300]) ?_ ?_
      · refine .bF ?_
        refine .st (v := (A.v (Value.int .u64 (shrI .u64 y35 32)))) (aBin_shr (hb := by decide) ..) ?_
        refine .st (v := (bA ((shrI .u64 y35 32) != 0))) (aBin_neq ..) ?_
        exact .lg ⟨_, _, _, rfl⟩
      rintro _ y297 ⟨j298, j299, j300, rfl⟩
      iterate 4 refine .uc ?_
      refine .biHN (fun hk301 => ?_) (fun hk301 => ?_)
      · refine .s (A.agg [(A.imm [] true), (iA 0), (iA 0)]) (.s (A.agg [(A.imm [] true), (A.imm [] true), (iA 0), (bA false)]) (.s [Blk.box (c_S_Journal a0), Blk.box (c_S_Disk a1), Blk.box [(A.imm [] true), (iA 0), (iA 0)], Blk.box [(A.imm [] true), (A.imm [] true), (iA 0), (bA false)], Blk.box (c_S_Journal y11.1)] (.s [Blk.box (c_S_Journal a0), Blk.box (c_S_Disk a1), Blk.box [(A.imm [] true), (iA 0), (iA 0)], Blk.box [(A.imm [] true), (A.imm [] true), (iA 0), (bA false)], Blk.box (c_S_Journal y11.1)] (.s (A.agg [(A.imm [] true), (iA 0), (iA 0)]) (.s (A.agg [(A.imm [] true), (A.imm [] true), (iA 0), (bA false)]) ?_)))))
        exact .lf rfl rfl ⟨_, rfl, by show snapE [Blk.box (c_S_Journal a0), Blk.box (c_S_Disk a1), Blk.box [(A.imm [] true), (iA 0), (iA 0)], Blk.box [(A.imm [] true), (A.imm [] true), (iA 0), (bA false)], Blk.box (c_S_Journal y11.1)] (A.tup [(A.agg [(A.imm [] true), (iA 0), (iA 0)]), (A.agg [(A.imm [] true), (A.imm [] true), (iA 0), (bA false)]), (iA 50)]) = _; first | (simp only [snap, snapW, snapWs, snapWss, snapWss_map, trim, List.map_cons, List.map_nil, fl_cI, fl_c8, fl_cB, fl_cS, fl_cL, fl_S_Journal, fl_S_Write, fl_S_Disk, snapWs_app, fq_S_Journal, fq_S_Write, fq_S_Disk, snapE]; done) | (simp only [snap, snapW, snapWs, snapWss, snapWss_map, trim, fl_cI, fl_c8, fl_cB, fl_cS, fl_cL, fl_S_Journal, fl_S_Write, fl_S_Disk, snapWs_app, fq_S_Journal, fq_S_Write, fq_S_Disk, snapE]; done) | (simp only [snap, snapW, snapWs, snapWss, snapWss_map, trim, fl_cI, fl_c8, fl_cB, fl_cS, fl_cL, fl_S_Journal, fl_S_Write, fl_S_Disk, snapWs_app, fq_S_Journal, fq_S_Write, fq_S_Disk, snapE]; rfl)⟩
      refine .s (A.ptr 0 2) (.s (iA a0.Synced) (.s (A.ptr 0 0) (.s (A.imm (List.map (cL c8) a0.Records) false) ?_)))
      refine .st (v := (iA ((a0.Records.length : Int)))) (len_imm (e := 35) (h1 := by kernel_rfl) ..) ?_
      refine .st (v := (bA (a0.Synced == ((a0.Records.length : Int))))) (aBin_eql ..) ?_
      refine .biHN (fun hk302 => ?_) (fun hk302 => ?_)
      · refine .s (A.agg (c_S_Journal a0)) (.s (A.agg (c_S_Disk a1)) ?_)
        refine .cT (by kernel_rfl) ?_
        refine .s [Blk.box (c_S_Journal a0), Blk.box (c_S_Disk a1), Blk.box (c_S_Journal a0), Blk.box [(A.imm [] true), (A.imm [] true), (iA 0), (bA false)], Blk.box (c_S_Journal y11.1)] (.s [Blk.box (c_S_Journal a0), Blk.box (c_S_Disk a1), Blk.box (c_S_Journal a0), Blk.box (c_S_Disk a1), Blk.box (c_S_Journal y11.1)] (.s (A.agg (c_S_Journal a0)) (.s (A.agg (c_S_Disk a1)) ?_)))
        exact .lf rfl rfl ⟨_, rfl, by show snapE [Blk.box (c_S_Journal a0), Blk.box (c_S_Disk a1), Blk.box (c_S_Journal a0), Blk.box (c_S_Disk a1), Blk.box (c_S_Journal y11.1)] (A.tup [(A.agg (c_S_Journal a0)), (A.agg (c_S_Disk a1)), (iA 0)]) = _; first | (simp only [snap, snapW, snapWs, snapWss, snapWss_map, trim, List.map_cons, List.map_nil, fl_cI, fl_c8, fl_cB, fl_cS, fl_cL, fl_S_Journal, fl_S_Write, fl_S_Disk, snapWs_app, fq_S_Journal, fq_S_Write, fq_S_Disk, snapE]; done) | (simp only [snap, snapW, snapWs, snapWss, snapWss_map, trim, fl_cI, fl_c8, fl_cB, fl_cS, fl_cL, fl_S_Journal, fl_S_Write, fl_S_Disk, snapWs_app, fq_S_Journal, fq_S_Write, fq_S_Disk, snapE]; done) | (simp only [snap, snapW, snapWs, snapWss, snapWss_map, trim, fl_cI, fl_c8, fl_cB, fl_cS, fl_cL, fl_S_Journal, fl_S_Write, fl_S_Disk, snapWs_app, fq_S_Journal, fq_S_Write, fq_S_Disk, snapE]; rfl)⟩
      refine .s (A.ptr 0 0) (.s (A.imm (List.map (cL c8) a0.Records) false) (.s (A.ptr 0 2) (.s (iA a0.Synced) ?_)))
      refine .bd (g := fun (y : List (List UInt8)) => (A.imm (List.map (cL c8) y) false)) (cut_imm (e := 35) (es := 1) (f := (cL c8)) (l := a0.Records) (a := 0) (b := a0.Synced) (by kernel_rfl) (by kernel_rfl) (fun _ => rfl) (.inl ⟨rfl, rfl⟩) (.inr ⟨_, rfl⟩)) fun y303 => ?_
      refine .bd (g := fun (y : Int) => (iA y)) (by show C 36 [snap [Blk.box (c_S_Journal a0), Blk.box (c_S_Disk a1), Blk.box [(A.imm [] true), (iA 0), (iA 0)], Blk.box [(A.imm [] true), (A.imm [] true), (iA 0), (bA false)], Blk.box (c_S_Journal y11.1)] (A.imm (List.map (cL c8) y303) false)] = _; simp only [snap, snapW, snapWs, snapWss, snapWss_map, trim, List.map_cons, List.map_nil, fl_cI, fl_c8, fl_cB, fl_cS, fl_cL, fl_S_Journal, fl_S_Write, fl_S_Disk, snapWs_app, fq_S_Journal, fq_S_Write, fq_S_Disk]; exact h36 y303) fun y304 => ?_
      refine .s (A.ptr 0 0) (.s (A.imm (List.map (cL c8) a0.Records) false) (.s (A.ptr 0 2) (.s (iA a0.Synced) ?_)))
      refine .bd (g := fun (y : List (List UInt8)) => (A.imm (List.map (cL c8) y) false)) (cut_imm (e := 35) (es := 1) (f := (cL c8)) (l := a0.Records) (a := a0.Synced) (b := (a0.Records.length : Int)) (by kernel_rfl) (by kernel_rfl) (fun _ => rfl) (.inr ⟨_, rfl⟩) (.inl ⟨rfl, rfl⟩)) fun y305 => ?_
      refine .st (v := (iA ((y305.length : Int)))) (len_imm (e := 35) (h1 := by kernel_rfl) ..) ?_
      refine .as (T21_21_1 C n h12 h17 h26 h27 h31 h35 h36 h41 h43 h44 y35 y305 ((y305.length : Int)) a0 ([]) 0 0 ([]) ([]) 0 false y11.1 _ _ _ _ ?_ ?_ _ y11.2 y304 0 a1)
      · intro y380 y381 y382 y383 y384 y385 y386 y387 y388 j389 j390 j391 j392 j393 j394 j395
        refine .un rfl ?_
        refine .s (A.agg [(A.imm [] true), (iA y385), (iA y386)]) (.s (A.agg [(A.imm [] true), (A.imm [] true), (iA y387), (bA y388)]) ?_)
        exact .lf rfl rfl ⟨_, rfl, by show snapE [Blk.box (c_S_Journal a0), Blk.box [(A.imm (List.map (cL c8) y381) false), (A.imm (List.map c_S_Write y382) false), (iA y383), (bA y384)], Blk.box [(A.imm [] true), (iA y385), (iA y386)], Blk.box [(A.imm [] true), (A.imm [] true), (iA y387), (bA y388)], Blk.box (c_S_Journal y11.1)] (A.tup [(A.agg [(A.imm [] true), (iA y385), (iA y386)]), (A.agg [(A.imm [] true), (A.imm [] true), (iA y387), (bA y388)]), (iA y380)]) = _; first | (simp only [snap, snapW, snapWs, snapWss, snapWss_map, trim, List.map_cons, List.map_nil, fl_cI, fl_c8, fl_cB, fl_cS, fl_cL, fl_S_Journal, fl_S_Write, fl_S_Disk, snapWs_app, fq_S_Journal, fq_S_Write, fq_S_Disk, snapE]; done) | (simp only [snap, snapW, snapWs, snapWss, snapWss_map, trim, fl_cI, fl_c8, fl_cB, fl_cS, fl_cL, fl_S_Journal, fl_S_Write, fl_S_Disk, snapWs_app, fq_S_Journal, fq_S_Write, fq_S_Disk, snapE]; done) | (simp only [snap, snapW, snapWs, snapWss, snapWss_map, trim, fl_cI, fl_c8, fl_cB, fl_cS, fl_cL, fl_S_Journal, fl_S_Write, fl_S_Disk, snapWs_app, fq_S_Journal, fq_S_Write, fq_S_Disk, snapE]; rfl)⟩
      · intro y396 y397 y398 y399 j400 j401 j402 j403 j404 j405
        refine .un rfl ?_
        refine .cT (by kernel_rfl) ?_
        refine .s (A.agg [(A.imm (List.map (cL c8) y396) false), (A.imm (List.map c_S_Write y397) false), (iA y398), (bA y399)]) ?_
        refine .bd (g := fun (y : (S_Disk × Int)) => (A.tup [(A.agg [(A.imm (List.map (cL c8) y.1.Sectors) false), (A.imm (List.map c_S_Write y.1.Pending) false), (iA y.1.Left), (bA y.1.Stopped)]), (iA y.2)])) (by show C 27 [snap [Blk.box (c_S_Journal a0), Blk.box [(A.imm (List.map (cL c8) y396) false), (A.imm (List.map c_S_Write y397) false), (iA y398), (bA y399)], Blk.box [(A.imm [] true), (iA 0), (iA 0)], Blk.box [(A.imm [] true), (A.imm [] true), (iA 0), (bA false)], Blk.box (c_S_Journal y11.1)] (A.agg [(A.imm (List.map (cL c8) y396) false), (A.imm (List.map c_S_Write y397) false), (iA y398), (bA y399)])] = _; simp only [snap, snapW, snapWs, snapWss, snapWss_map, trim, List.map_cons, List.map_nil, fl_cI, fl_c8, fl_cB, fl_cS, fl_cL, fl_S_Journal, fl_S_Write, fl_S_Disk, snapWs_app, fq_S_Journal, fq_S_Write, fq_S_Disk]; exact h27 ((S_Disk.mk y396 y397 y398 y399))) fun y406 => ?_
        refine .s (A.agg (c_S_Disk y406.1)) (.s (iA y406.2) (.s [Blk.box (c_S_Journal a0), Blk.box (c_S_Disk y406.1), Blk.box [(A.imm [] true), (iA 0), (iA 0)], Blk.box [(A.imm [] true), (A.imm [] true), (iA 0), (bA false)], Blk.box (c_S_Journal y11.1)] ?_))
        refine .st (v := (bA (y406.2 != 0))) (aBin_neq ..) ?_
        refine .biHN (fun hk407 => ?_) (fun hk407 => ?_)
        · refine .s (A.agg [(A.imm [] true), (iA 0), (iA 0)]) (.s (A.agg (c_S_Disk y406.1)) ?_)
          refine .cT (by kernel_rfl) ?_
          refine .s [Blk.box (c_S_Journal a0), Blk.box (c_S_Disk y406.1), Blk.box [(A.imm [] true), (iA 0), (iA 0)], Blk.box [(A.imm [] true), (A.imm [] true), (iA 0), (bA false)], Blk.box (c_S_Journal y11.1)] (.s [Blk.box (c_S_Journal a0), Blk.box (c_S_Disk y406.1), Blk.box [(A.imm [] true), (iA 0), (iA 0)], Blk.box (c_S_Disk y406.1), Blk.box (c_S_Journal y11.1)] (.s (A.agg [(A.imm [] true), (iA 0), (iA 0)]) (.s (A.agg (c_S_Disk y406.1)) ?_)))
          exact .lf rfl rfl ⟨_, rfl, by show snapE [Blk.box (c_S_Journal a0), Blk.box (c_S_Disk y406.1), Blk.box [(A.imm [] true), (iA 0), (iA 0)], Blk.box (c_S_Disk y406.1), Blk.box (c_S_Journal y11.1)] (A.tup [(A.agg [(A.imm [] true), (iA 0), (iA 0)]), (A.agg (c_S_Disk y406.1)), (iA y406.2)]) = _; first | (simp only [snap, snapW, snapWs, snapWss, snapWss_map, trim, List.map_cons, List.map_nil, fl_cI, fl_c8, fl_cB, fl_cS, fl_cL, fl_S_Journal, fl_S_Write, fl_S_Disk, snapWs_app, fq_S_Journal, fq_S_Write, fq_S_Disk, snapE]; done) | (simp only [snap, snapW, snapWs, snapWss, snapWss_map, trim, fl_cI, fl_c8, fl_cB, fl_cS, fl_cL, fl_S_Journal, fl_S_Write, fl_S_Disk, snapWs_app, fq_S_Journal, fq_S_Write, fq_S_Disk, snapE]; done) | (simp only [snap, snapW, snapWs, snapWss, snapWss_map, trim, fl_cI, fl_c8, fl_cB, fl_cS, fl_cL, fl_S_Journal, fl_S_Write, fl_S_Disk, snapWs_app, fq_S_Journal, fq_S_Write, fq_S_Disk, snapE]; rfl)⟩
        refine .s (A.ptr 0 0) (.s (A.imm (List.map (cL c8) a0.Records) false) ?_)
        refine .st (v := (iA ((a0.Records.length : Int)))) (len_imm (e := 35) (h1 := by kernel_rfl) ..) ?_
        refine .s (A.ptr 0 2) (.s [(hk21_4 a0), Blk.box (c_S_Disk y406.1), Blk.box [(A.imm [] true), (iA 0), (iA 0)], Blk.box [(A.imm [] true), (A.imm [] true), (iA 0), (bA false)], Blk.box (c_S_Journal y11.1)] (.s (A.agg [(A.imm (List.map (cL c8) a0.Records) false), (iA a0.Many), (iA ((a0.Records.length : Int)))]) (.s (A.agg (c_S_Disk y406.1)) ?_)))
        refine .cT (by kernel_rfl) ?_
        refine .s [(hk21_4 a0), Blk.box (c_S_Disk y406.1), (hk21_4 a0), Blk.box [(A.imm [] true), (A.imm [] true), (iA 0), (bA false)], Blk.box (c_S_Journal y11.1)] (.s [(hk21_4 a0), Blk.box (c_S_Disk y406.1), (hk21_4 a0), Blk.box (c_S_Disk y406.1), Blk.box (c_S_Journal y11.1)] (.s (A.agg [(A.imm (List.map (cL c8) a0.Records) false), (iA a0.Many), (iA ((a0.Records.length : Int)))]) (.s (A.agg (c_S_Disk y406.1)) ?_)))
        exact .lf rfl rfl ⟨_, rfl, by show snapE [(hk21_4 a0), Blk.box (c_S_Disk y406.1), (hk21_4 a0), Blk.box (c_S_Disk y406.1), Blk.box (c_S_Journal y11.1)] (A.tup [(A.agg [(A.imm (List.map (cL c8) a0.Records) false), (iA a0.Many), (iA ((a0.Records.length : Int)))]), (A.agg (c_S_Disk y406.1)), (iA 0)]) = _; first | (simp only [snap, snapW, snapWs, snapWss, snapWss_map, trim, List.map_cons, List.map_nil, fl_cI, fl_c8, fl_cB, fl_cS, fl_cL, fl_S_Journal, fl_S_Write, fl_S_Disk, snapWs_app, fq_S_Journal, fq_S_Write, fq_S_Disk, snapE]; done) | (simp only [snap, snapW, snapWs, snapWss, snapWss_map, trim, fl_cI, fl_c8, fl_cB, fl_cS, fl_cL, fl_S_Journal, fl_S_Write, fl_S_Disk, snapWs_app, fq_S_Journal, fq_S_Write, fq_S_Disk, snapE]; done) | (simp only [snap, snapW, snapWs, snapWss, snapWss_map, trim, fl_cI, fl_c8, fl_cB, fl_cS, fl_cL, fl_S_Journal, fl_S_Write, fl_S_Disk, snapWs_app, fq_S_Journal, fq_S_Write, fq_S_Disk, snapE]; rfl)⟩
def G21 (a0 : S_Journal) (a1 : S_Disk) : Option (S_Journal × S_Disk × Int) := F21 fuel0 a0 a1
def Orc21 (C : Nat → List A → Option A) : Prop := ∀ (a0 : S_Journal) (a1 : S_Disk), C 21 [(A.agg (c_S_Journal a0)), (A.agg (c_S_Disk a1))] = (G21 a0 a1).map fun y => (A.tup [(A.agg [(A.imm (List.map (cL c8) y.1.Records) false), (iA y.1.Many), (iA y.1.Synced)]), (A.agg [(A.imm (List.map (cL c8) y.2.1.Sectors) false), (A.imm (List.map c_S_Write y.2.1.Pending) false), (iA y.2.1.Left), (bA y.2.1.Stopped)]), (iA y.2.2)])
def F19 (n : Nat) (a0 : S_Journal) : Option Int :=
  Option.bind (G17 a0) fun y1 => bif (y1 != 0) then (some 0) else (Option.bind (G36 a0.Records) fun y3 => some (wr .i64 (112 * (wr .i64 (a0.Many - y3)))))
theorem T19 (C : Nat → List A → Option A) (n : Nat) (h17 : Orc17 C) (h36 : Orc36 C) (a0 : S_Journal) : J (fun (o : R) y => ∃ v, o.1 = .ret v ∧ snapE o.2 v = (iA y)) (evCall1 (cx C) (evCall (cx C) (n+8)) (evCallY (cx C) (n+8)) (n+8) 19 [(A.agg (c_S_Journal a0))] [] 0) some (F19 n a0) some := by
  refine .lp (e19 ..) ?_
  unfold F19
  refine .s ((A.ptr 0 0), [Blk.box (c_S_Journal a0)]) (.s (A.agg (c_S_Journal a0)) ?_)
  refine .bd (g := fun (y : Int) => (iA y)) (by show C 17 [snap [Blk.box (c_S_Journal a0)] (A.agg (c_S_Journal a0))] = _; simp only [snap, snapW, snapWs, snapWss, snapWss_map, trim, List.map_cons, List.map_nil, fl_cI, fl_c8, fl_cB, fl_cS, fl_cL, fl_S_Journal, fl_S_Write, fl_S_Disk, snapWs_app, fq_S_Journal, fq_S_Write, fq_S_Disk]; exact h17 a0) fun y1 => ?_
  refine .st (v := (bA (y1 != 0))) (aBin_neq ..) ?_
  refine .biHN (fun hk2 => ?_) (fun hk2 => ?_)
  · exact .lf rfl rfl ⟨_, rfl, rfl⟩
  refine .s (A.ptr 0 1) (.s (iA a0.Many) (.s (A.ptr 0 0) (.s (A.imm (List.map (cL c8) a0.Records) false) ?_)))
  refine .bd (g := fun (y : Int) => (iA y)) (by show C 36 [snap [Blk.box (c_S_Journal a0)] (A.imm (List.map (cL c8) a0.Records) false)] = _; simp only [snap, snapW, snapWs, snapWss, snapWss_map, trim, List.map_cons, List.map_nil, fl_cI, fl_c8, fl_cB, fl_cS, fl_cL, fl_S_Journal, fl_S_Write, fl_S_Disk, snapWs_app, fq_S_Journal, fq_S_Write, fq_S_Disk]; exact h36 a0.Records) fun y3 => ?_
  refine .st (v := (iA (wr .i64 (a0.Many - y3)))) (aBin_sub ..) ?_
  refine .st (v := (iA (wr .i64 (112 * (wr .i64 (a0.Many - y3)))))) (aBin_mul ..) ?_
  exact .lf rfl rfl ⟨_, rfl, rfl⟩
def G19 (a0 : S_Journal) : Option Int := F19 fuel0 a0
def Orc19 (C : Nat → List A → Option A) : Prop := ∀ (a0 : S_Journal), C 19 [(A.agg (c_S_Journal a0))] = (G19 a0).map fun y => (iA y)
def F10 (n : Nat)  : Option Bool :=
  Option.bind (G25 1) fun y1 => Option.bind (G12 y1.1) fun y2 => Option.bind (mkI 1 113 ((0 : UInt8))) fun y3 => Option.bind (G15 y2.1 y3) fun y4 => Option.bind (G15 y2.1 ([(97 : UInt8), (98 : UInt8)])) fun y5 => Option.bind (G21 y5.1 y1.1) fun y6 => Option.bind (G12 y6.2.1) fun y7 => Option.bind (G21 y5.1 y6.2.1) fun y8 => Option.bind (bif (y1.2 == 0) then (some (y2.2 == 0)) else (some false)) fun y10 => Option.bind (bif y10 then (some (((y2.1.Records.length : Int)) == 0)) else (some false)) fun y14 => Option.bind (bif y14 then (Option.bind (G19 y2.1) fun y20 => some (y20 == 112)) else (some false)) fun y21 => Option.bind (bif y21 then (some (y4.2 == 2)) else (some false)) fun y26 => Option.bind (bif y26 then (some (y5.2 == 0)) else (some false)) fun y30 => Option.bind (bif y30 then (some (y6.2.2 == 0)) else (some false)) fun y34 => Option.bind (bif y34 then (some (y6.1.Synced == 1)) else (some false)) fun y38 => Option.bind (bif y38 then (some (y7.2 == 0)) else (some false)) fun y43 => Option.bind (bif y43 then (some (((y7.1.Records.length : Int)) == 1)) else (some false)) fun y47 => Option.bind (bif y47 then (Option.bind (getI y7.1.Records 0) fun y53 => some (strEq (bstr y53) ((ByteArray.mk #[97, 98])))) else (some false)) fun y54 => Option.bind (bif y54 then (some (y8.2.2 == 50)) else (some false)) fun y62 => Option.bind (bif y62 then (Option.bind (G17 ((S_Journal.mk ([]) 0 0))) fun y66 => some (y66 == 1)) else (some false)) fun y67 => some y67
theorem T10 (C : Nat → List A → Option A) (n : Nat) (h12 : Orc12 C) (h15 : Orc15 C) (h17 : Orc17 C) (h19 : Orc19 C) (h21 : Orc21 C) (h25 : Orc25 C) : J (fun (o : R) y => ∃ v, o.1 = .ret v ∧ snapE o.2 v = (bA y)) (evCall1 (cx C) (evCall (cx C) (n+8)) (evCallY (cx C) (n+8)) (n+8) 10 [] [] 0) some (F10 n ) some := by
  refine .lp (e10 ..) ?_
  unfold F10
  refine .bd (g := fun (y : (S_Disk × Int)) => (A.tup [(A.agg [(A.imm (List.map (cL c8) y.1.Sectors) false), (A.imm (List.map c_S_Write y.1.Pending) false), (iA y.1.Left), (bA y.1.Stopped)]), (iA y.2)])) (h25 1) fun y1 => ?_
  refine .s (A.agg (c_S_Disk y1.1)) (.s (iA y1.2) (.s ((A.ptr 0 0), [Blk.box [(A.imm [] true), (A.imm [] true), (iA 0), (bA false)]]) (.s [Blk.box (c_S_Disk y1.1)] (.s (A.agg (c_S_Disk y1.1)) ?_))))
  refine .bd (g := fun (y : (S_Journal × Int)) => (A.tup [(A.agg [(A.imm (List.map (cL c8) y.1.Records) false), (iA y.1.Many), (iA y.1.Synced)]), (iA y.2)])) (by show C 12 [snap [Blk.box (c_S_Disk y1.1)] (A.agg (c_S_Disk y1.1))] = _; simp only [snap, snapW, snapWs, snapWss, snapWss_map, trim, List.map_cons, List.map_nil, fl_cI, fl_c8, fl_cB, fl_cS, fl_cL, fl_S_Journal, fl_S_Write, fl_S_Disk, snapWs_app, fq_S_Journal, fq_S_Write, fq_S_Disk]; exact h12 y1.1) fun y2 => ?_
  refine .s (A.agg (c_S_Journal y2.1)) (.s (iA y2.2) (.s ((A.ptr 1 0), [Blk.box (c_S_Disk y1.1), Blk.box [(A.imm [] true), (iA 0), (iA 0)]]) (.s [Blk.box (c_S_Disk y1.1), Blk.box (c_S_Journal y2.1)] (.s ((A.ptr 2 0), [Blk.box (c_S_Disk y1.1), Blk.box (c_S_Journal y2.1), Blk.box [(A.imm [] true), (iA 0), (iA 0)]]) (.s (A.agg (c_S_Journal y2.1)) ?_)))))
  refine .cT (by kernel_rfl) ?_
  refine .bd (g := fun (y : List UInt8) => ((A.imm (List.map c8 y) false), [Blk.box (c_S_Disk y1.1), Blk.box (c_S_Journal y2.1), Blk.box [(A.imm [] true), (iA 0), (iA 0)]])) (wrow_makeI (e := 5) (es := 1) (f := c8) (z := (0 : UInt8)) (z' := [(uA 0)]) (by kernel_rfl) (by kernel_rfl) (by kernel_rfl) (by kernel_rfl) rfl (by decide) (fun _ => rfl)) fun y3 => ?_
  refine .bd (g := fun (y : (S_Journal × Int)) => (A.tup [(A.agg [(A.imm (List.map (cL c8) y.1.Records) false), (iA y.1.Many), (iA y.1.Synced)]), (iA y.2)])) (by show C 15 [snap [Blk.box (c_S_Disk y1.1), Blk.box (c_S_Journal y2.1), Blk.box [(A.imm [] true), (iA 0), (iA 0)]] (A.agg (c_S_Journal y2.1)), snap [Blk.box (c_S_Disk y1.1), Blk.box (c_S_Journal y2.1), Blk.box [(A.imm [] true), (iA 0), (iA 0)]] (A.imm (List.map c8 y3) false)] = _; simp only [snap, snapW, snapWs, snapWss, snapWss_map, trim, List.map_cons, List.map_nil, fl_cI, fl_c8, fl_cB, fl_cS, fl_cL, fl_S_Journal, fl_S_Write, fl_S_Disk, snapWs_app, fq_S_Journal, fq_S_Write, fq_S_Disk]; exact h15 y2.1 y3) fun y4 => ?_
  refine .s (A.agg (c_S_Journal y4.1)) (.s (iA y4.2) (.s [Blk.box (c_S_Disk y1.1), Blk.box (c_S_Journal y2.1), Blk.box (c_S_Journal y4.1)] (.s (A.agg (c_S_Journal y2.1)) (.s ((A.sl 3 0 2 true), [Blk.box (c_S_Disk y1.1), Blk.box (c_S_Journal y2.1), Blk.box (c_S_Journal y4.1), Blk.row true 1 [[(uA 97)], [(uA 98)]]]) (.s ((A.imm [[(uA 97)], [(uA 98)]] false), [Blk.box (c_S_Disk y1.1), Blk.box (c_S_Journal y2.1), Blk.box (c_S_Journal y4.1), Blk.dead]) ?_)))))
  refine .bd (g := fun (y : (S_Journal × Int)) => (A.tup [(A.agg [(A.imm (List.map (cL c8) y.1.Records) false), (iA y.1.Many), (iA y.1.Synced)]), (iA y.2)])) (by show C 15 [snap [Blk.box (c_S_Disk y1.1), Blk.box (c_S_Journal y2.1), Blk.box (c_S_Journal y4.1), Blk.dead] (A.agg (c_S_Journal y2.1)), snap [Blk.box (c_S_Disk y1.1), Blk.box (c_S_Journal y2.1), Blk.box (c_S_Journal y4.1), Blk.dead] (A.imm [[(uA 97)], [(uA 98)]] false)] = _; simp only [snap, snapW, snapWs, snapWss, snapWss_map, trim, List.map_cons, List.map_nil, fl_cI, fl_c8, fl_cB, fl_cS, fl_cL, fl_S_Journal, fl_S_Write, fl_S_Disk, snapWs_app, fq_S_Journal, fq_S_Write, fq_S_Disk]; exact h15 y2.1 ([(97 : UInt8), (98 : UInt8)])) fun y5 => ?_
  refine .s (A.agg (c_S_Journal y5.1)) (.s (iA y5.2) (.s ((A.ptr 4 0), [Blk.box (c_S_Disk y1.1), Blk.box (c_S_Journal y2.1), Blk.box (c_S_Journal y4.1), Blk.dead, Blk.box [(A.imm [] true), (iA 0), (iA 0)]]) (.s [Blk.box (c_S_Disk y1.1), Blk.box (c_S_Journal y2.1), Blk.box (c_S_Journal y4.1), Blk.dead, Blk.box (c_S_Journal y5.1)] (.s (A.agg (c_S_Journal y5.1)) (.s (A.agg (c_S_Disk y1.1)) ?_)))))
  refine .bd (g := fun (y : (S_Journal × S_Disk × Int)) => (A.tup [(A.agg [(A.imm (List.map (cL c8) y.1.Records) false), (iA y.1.Many), (iA y.1.Synced)]), (A.agg [(A.imm (List.map (cL c8) y.2.1.Sectors) false), (A.imm (List.map c_S_Write y.2.1.Pending) false), (iA y.2.1.Left), (bA y.2.1.Stopped)]), (iA y.2.2)])) (by show C 21 [snap [Blk.box (c_S_Disk y1.1), Blk.box (c_S_Journal y2.1), Blk.box (c_S_Journal y4.1), Blk.dead, Blk.box (c_S_Journal y5.1)] (A.agg (c_S_Journal y5.1)), snap [Blk.box (c_S_Disk y1.1), Blk.box (c_S_Journal y2.1), Blk.box (c_S_Journal y4.1), Blk.dead, Blk.box (c_S_Journal y5.1)] (A.agg (c_S_Disk y1.1))] = _; simp only [snap, snapW, snapWs, snapWss, snapWss_map, trim, List.map_cons, List.map_nil, fl_cI, fl_c8, fl_cB, fl_cS, fl_cL, fl_S_Journal, fl_S_Write, fl_S_Disk, snapWs_app, fq_S_Journal, fq_S_Write, fq_S_Disk]; exact h21 y5.1 y1.1) fun y6 => ?_
  refine .s (A.agg (c_S_Journal y6.1)) (.s (A.agg (c_S_Disk y6.2.1)) (.s (iA y6.2.2) (.s ((A.ptr 5 0), [Blk.box (c_S_Disk y1.1), Blk.box (c_S_Journal y2.1), Blk.box (c_S_Journal y4.1), Blk.dead, Blk.box (c_S_Journal y5.1), Blk.box [(A.imm [] true), (iA 0), (iA 0)]]) (.s ((A.ptr 6 0), [Blk.box (c_S_Disk y1.1), Blk.box (c_S_Journal y2.1), Blk.box (c_S_Journal y4.1), Blk.dead, Blk.box (c_S_Journal y5.1), Blk.box [(A.imm [] true), (iA 0), (iA 0)], Blk.box [(A.imm [] true), (A.imm [] true), (iA 0), (bA false)]]) (.s [Blk.box (c_S_Disk y1.1), Blk.box (c_S_Journal y2.1), Blk.box (c_S_Journal y4.1), Blk.dead, Blk.box (c_S_Journal y5.1), Blk.box (c_S_Journal y6.1), Blk.box [(A.imm [] true), (A.imm [] true), (iA 0), (bA false)]] (.s [Blk.box (c_S_Disk y1.1), Blk.box (c_S_Journal y2.1), Blk.box (c_S_Journal y4.1), Blk.dead, Blk.box (c_S_Journal y5.1), Blk.box (c_S_Journal y6.1), Blk.box (c_S_Disk y6.2.1)] (.s (A.agg (c_S_Disk y6.2.1)) ?_)))))))
  refine .bd (g := fun (y : (S_Journal × Int)) => (A.tup [(A.agg [(A.imm (List.map (cL c8) y.1.Records) false), (iA y.1.Many), (iA y.1.Synced)]), (iA y.2)])) (by show C 12 [snap [Blk.box (c_S_Disk y1.1), Blk.box (c_S_Journal y2.1), Blk.box (c_S_Journal y4.1), Blk.dead, Blk.box (c_S_Journal y5.1), Blk.box (c_S_Journal y6.1), Blk.box (c_S_Disk y6.2.1)] (A.agg (c_S_Disk y6.2.1))] = _; simp only [snap, snapW, snapWs, snapWss, snapWss_map, trim, List.map_cons, List.map_nil, fl_cI, fl_c8, fl_cB, fl_cS, fl_cL, fl_S_Journal, fl_S_Write, fl_S_Disk, snapWs_app, fq_S_Journal, fq_S_Write, fq_S_Disk]; exact h12 y6.2.1) fun y7 => ?_
  refine .s (A.agg (c_S_Journal y7.1)) (.s (iA y7.2) (.s ((A.ptr 7 0), [Blk.box (c_S_Disk y1.1), Blk.box (c_S_Journal y2.1), Blk.box (c_S_Journal y4.1), Blk.dead, Blk.box (c_S_Journal y5.1), Blk.box (c_S_Journal y6.1), Blk.box (c_S_Disk y6.2.1), Blk.box [(A.imm [] true), (iA 0), (iA 0)]]) (.s [Blk.box (c_S_Disk y1.1), Blk.box (c_S_Journal y2.1), Blk.box (c_S_Journal y4.1), Blk.dead, Blk.box (c_S_Journal y5.1), Blk.box (c_S_Journal y6.1), Blk.box (c_S_Disk y6.2.1), Blk.box (c_S_Journal y7.1)] (.s (A.agg (c_S_Journal y5.1)) (.s (A.agg (c_S_Disk y6.2.1)) ?_)))))
  refine .bd (g := fun (y : (S_Journal × S_Disk × Int)) => (A.tup [(A.agg [(A.imm (List.map (cL c8) y.1.Records) false), (iA y.1.Many), (iA y.1.Synced)]), (A.agg [(A.imm (List.map (cL c8) y.2.1.Sectors) false), (A.imm (List.map c_S_Write y.2.1.Pending) false), (iA y.2.1.Left), (bA y.2.1.Stopped)]), (iA y.2.2)])) (by show C 21 [snap [Blk.box (c_S_Disk y1.1), Blk.box (c_S_Journal y2.1), Blk.box (c_S_Journal y4.1), Blk.dead, Blk.box (c_S_Journal y5.1), Blk.box (c_S_Journal y6.1), Blk.box (c_S_Disk y6.2.1), Blk.box (c_S_Journal y7.1)] (A.agg (c_S_Journal y5.1)), snap [Blk.box (c_S_Disk y1.1), Blk.box (c_S_Journal y2.1), Blk.box (c_S_Journal y4.1), Blk.dead, Blk.box (c_S_Journal y5.1), Blk.box (c_S_Journal y6.1), Blk.box (c_S_Disk y6.2.1), Blk.box (c_S_Journal y7.1)] (A.agg (c_S_Disk y6.2.1))] = _; simp only [snap, snapW, snapWs, snapWss, snapWss_map, trim, List.map_cons, List.map_nil, fl_cI, fl_c8, fl_cB, fl_cS, fl_cL, fl_S_Journal, fl_S_Write, fl_S_Disk, snapWs_app, fq_S_Journal, fq_S_Write, fq_S_Disk]; exact h21 y5.1 y6.2.1) fun y8 => ?_
  refine .s (A.agg (c_S_Journal y8.1)) (.s (A.agg (c_S_Disk y8.2.1)) (.s (iA y8.2.2) (.s ((A.ptr 8 0), [Blk.box (c_S_Disk y1.1), Blk.box (c_S_Journal y2.1), Blk.box (c_S_Journal y4.1), Blk.dead, Blk.box (c_S_Journal y5.1), Blk.box (c_S_Journal y6.1), Blk.box (c_S_Disk y6.2.1), Blk.box (c_S_Journal y7.1), Blk.box [(A.imm [] true), (iA 0), (iA 0)]]) (.s ((A.ptr 9 0), [Blk.box (c_S_Disk y1.1), Blk.box (c_S_Journal y2.1), Blk.box (c_S_Journal y4.1), Blk.dead, Blk.box (c_S_Journal y5.1), Blk.box (c_S_Journal y6.1), Blk.box (c_S_Disk y6.2.1), Blk.box (c_S_Journal y7.1), Blk.box [(A.imm [] true), (iA 0), (iA 0)], Blk.box [(A.imm [] true), (A.imm [] true), (iA 0), (bA false)]]) (.s [Blk.box (c_S_Disk y1.1), Blk.box (c_S_Journal y2.1), Blk.box (c_S_Journal y4.1), Blk.dead, Blk.box (c_S_Journal y5.1), Blk.box (c_S_Journal y6.1), Blk.box (c_S_Disk y6.2.1), Blk.box (c_S_Journal y7.1), Blk.box (c_S_Journal y8.1), Blk.box [(A.imm [] true), (A.imm [] true), (iA 0), (bA false)]] (.s [Blk.box (c_S_Disk y1.1), Blk.box (c_S_Journal y2.1), Blk.box (c_S_Journal y4.1), Blk.dead, Blk.box (c_S_Journal y5.1), Blk.box (c_S_Journal y6.1), Blk.box (c_S_Disk y6.2.1), Blk.box (c_S_Journal y7.1), Blk.box (c_S_Journal y8.1), Blk.box (c_S_Disk y8.2.1)] ?_))))))
  refine .st (v := (bA (y1.2 == 0))) (aBin_eql ..) ?_
  refine .bg (fun t (y : Bool) => ∃ j11 j12 : A, t = [(bA y), j11, j12]) ?_ ?_
  · refine .biH (fun hk9 => ?_) (fun hk9 => ?_)
    · refine .st (v := (bA (y2.2 == 0))) (aBin_eql ..) ?_
      exact .lg ⟨_, _, rfl⟩
    exact .lg ⟨_, _, rfl⟩
  rintro _ y10 ⟨j11, j12, rfl⟩
  iterate 3 refine .uc ?_
  refine .bg (fun t (y : Bool) => ∃ j15 j16 j17 j18 : A, t = [(bA y), j15, j16, j17, j18]) ?_ ?_
  · refine .biH (fun hk13 => ?_) (fun hk13 => ?_)
    · refine .s (A.ptr 1 0) (.s (A.imm (List.map (cL c8) y2.1.Records) false) ?_)
      refine .st (v := (iA ((y2.1.Records.length : Int)))) (len_imm (e := 35) (h1 := by kernel_rfl) ..) ?_
      refine .st (v := (bA (((y2.1.Records.length : Int)) == 0))) (aBin_eql ..) ?_
      exact .lg ⟨_, _, _, _, rfl⟩
    exact .lg ⟨_, _, _, _, rfl⟩
  rintro _ y14 ⟨j15, j16, j17, j18, rfl⟩
  iterate 5 refine .uc ?_
  refine .bg (fun t (y : Bool) => ∃ j22 j23 j24 : A, t = [(bA y), j22, j23, j24]) ?_ ?_
  · refine .biH (fun hk19 => ?_) (fun hk19 => ?_)
    · refine .s (A.agg (c_S_Journal y2.1)) ?_
      refine .bd (g := fun (y : Int) => (iA y)) (by show C 19 [snap [Blk.box (c_S_Disk y1.1), Blk.box (c_S_Journal y2.1), Blk.box (c_S_Journal y4.1), Blk.dead, Blk.box (c_S_Journal y5.1), Blk.box (c_S_Journal y6.1), Blk.box (c_S_Disk y6.2.1), Blk.box (c_S_Journal y7.1), Blk.box (c_S_Journal y8.1), Blk.box (c_S_Disk y8.2.1)] (A.agg (c_S_Journal y2.1))] = _; simp only [snap, snapW, snapWs, snapWss, snapWss_map, trim, List.map_cons, List.map_nil, fl_cI, fl_c8, fl_cB, fl_cS, fl_cL, fl_S_Journal, fl_S_Write, fl_S_Disk, snapWs_app, fq_S_Journal, fq_S_Write, fq_S_Disk]; exact h19 y2.1) fun y20 => ?_
      refine .st (v := (bA (y20 == 112))) (aBin_eql ..) ?_
      exact .lg ⟨_, _, _, rfl⟩
    exact .lg ⟨_, _, _, rfl⟩
  rintro _ y21 ⟨j22, j23, j24, rfl⟩
  iterate 4 refine .uc ?_
  refine .bg (fun t (y : Bool) => ∃ j27 j28 : A, t = [(bA y), j27, j28]) ?_ ?_
  · refine .biH (fun hk25 => ?_) (fun hk25 => ?_)
    · refine .st (v := (bA (y4.2 == 2))) (aBin_eql ..) ?_
      exact .lg ⟨_, _, rfl⟩
    exact .lg ⟨_, _, rfl⟩
  rintro _ y26 ⟨j27, j28, rfl⟩
  iterate 3 refine .uc ?_
  refine .bg (fun t (y : Bool) => ∃ j31 j32 : A, t = [(bA y), j31, j32]) ?_ ?_
  · refine .biH (fun hk29 => ?_) (fun hk29 => ?_)
    · refine .st (v := (bA (y5.2 == 0))) (aBin_eql ..) ?_
      exact .lg ⟨_, _, rfl⟩
    exact .lg ⟨_, _, rfl⟩
  rintro _ y30 ⟨j31, j32, rfl⟩
  iterate 3 refine .uc ?_
  refine .bg (fun t (y : Bool) => ∃ j35 j36 : A, t = [(bA y), j35, j36]) ?_ ?_
  · refine .biH (fun hk33 => ?_) (fun hk33 => ?_)
    · refine .st (v := (bA (y6.2.2 == 0))) (aBin_eql ..) ?_
      exact .lg ⟨_, _, rfl⟩
    exact .lg ⟨_, _, rfl⟩
  rintro _ y34 ⟨j35, j36, rfl⟩
  iterate 3 refine .uc ?_
  refine .bg (fun t (y : Bool) => ∃ j39 j40 j41 : A, t = [(bA y), j39, j40, j41]) ?_ ?_
  · refine .biH (fun hk37 => ?_) (fun hk37 => ?_)
    · refine .s (A.ptr 5 2) (.s (iA y6.1.Synced) ?_)
      refine .st (v := (bA (y6.1.Synced == 1))) (aBin_eql ..) ?_
      exact .lg ⟨_, _, _, rfl⟩
    exact .lg ⟨_, _, _, rfl⟩
  rintro _ y38 ⟨j39, j40, j41, rfl⟩
  iterate 4 refine .uc ?_
  refine .bg (fun t (y : Bool) => ∃ j44 j45 : A, t = [(bA y), j44, j45]) ?_ ?_
  · refine .biH (fun hk42 => ?_) (fun hk42 => ?_)
    · refine .st (v := (bA (y7.2 == 0))) (aBin_eql ..) ?_
      exact .lg ⟨_, _, rfl⟩
    exact .lg ⟨_, _, rfl⟩
  rintro _ y43 ⟨j44, j45, rfl⟩
  iterate 3 refine .uc ?_
  refine .bg (fun t (y : Bool) => ∃ j48 j49 j50 j51 : A, t = [(bA y), j48, j49, j50, j51]) ?_ ?_
  · refine .biH (fun hk46 => ?_) (fun hk46 => ?_)
    · refine .s (A.ptr 7 0) (.s (A.imm (List.map (cL c8) y7.1.Records) false) ?_)
      refine .st (v := (iA ((y7.1.Records.length : Int)))) (len_imm (e := 35) (h1 := by kernel_rfl) ..) ?_
      refine .st (v := (bA (((y7.1.Records.length : Int)) == 1))) (aBin_eql ..) ?_
      exact .lg ⟨_, _, _, _, rfl⟩
    exact .lg ⟨_, _, _, _, rfl⟩
  rintro _ y47 ⟨j48, j49, j50, j51, rfl⟩
  iterate 5 refine .uc ?_
  refine .bg (fun t (y : Bool) => ∃ j55 j56 j57 j58 j59 j60 : A, t = [(bA y), j55, j56, j57, j58, j59, j60]) ?_ ?_
  · refine .biH (fun hk52 => ?_) (fun hk52 => ?_)
    · refine .s (A.ptr 7 0) (.s (A.imm (List.map (cL c8) y7.1.Records) false) ?_)
      refine .bd (g := fun (y : (List UInt8)) => A.ip ((cL c8) y)) (idx_imm (e := 35) (es := 1) (h1 := by kernel_rfl) (h2 := by kernel_rfl) (h3 := fun _ => rfl) ..) fun y53 => ?_
      refine .s (A.imm (List.map c8 y53) false) ?_
      refine .st (v := (A.v (Value.string (bstr y53)))) (conv_bs (e := 5) (l := y53) (by kernel_rfl) (by kernel_rfl) (by kernel_rfl) (by kernel_rfl) (els_imm ..) rfl) ?_
      refine .st (v := (bA (strEq (bstr y53) ((ByteArray.mk #[97, 98]))))) (aBin_eql_s ..) ?_
      exact .lg ⟨_, _, _, _, _, _, rfl⟩
    exact .lg ⟨_, _, _, _, _, _, rfl⟩
  rintro _ y54 ⟨j55, j56, j57, j58, j59, j60, rfl⟩
  iterate 7 refine .uc ?_
  refine .bg (fun t (y : Bool) => ∃ j63 j64 : A, t = [(bA y), j63, j64]) ?_ ?_
  · refine .biH (fun hk61 => ?_) (fun hk61 => ?_)
    · refine .st (v := (bA (y8.2.2 == 50))) (aBin_eql ..) ?_
      exact .lg ⟨_, _, rfl⟩
    exact .lg ⟨_, _, rfl⟩
  rintro _ y62 ⟨j63, j64, rfl⟩
  iterate 3 refine .uc ?_
  refine .bg (fun t (y : Bool) => ∃ j68 j69 j70 : A, t = [(bA y), j68, j69, j70]) ?_ ?_
  · refine .biH (fun hk65 => ?_) (fun hk65 => ?_)
    · refine .s (A.agg [(A.imm [] true), (iA 0), (iA 0)]) ?_
      refine .bd (g := fun (y : Int) => (iA y)) (by show C 17 [snap [Blk.box (c_S_Disk y1.1), Blk.box (c_S_Journal y2.1), Blk.box (c_S_Journal y4.1), Blk.dead, Blk.box (c_S_Journal y5.1), Blk.box (c_S_Journal y6.1), Blk.box (c_S_Disk y6.2.1), Blk.box (c_S_Journal y7.1), Blk.box (c_S_Journal y8.1), Blk.box (c_S_Disk y8.2.1)] (A.agg [(A.imm [] true), (iA 0), (iA 0)])] = _; simp only [snap, snapW, snapWs, snapWss, snapWss_map, trim, List.map_cons, List.map_nil, fl_cI, fl_c8, fl_cB, fl_cS, fl_cL, fl_S_Journal, fl_S_Write, fl_S_Disk, snapWs_app, fq_S_Journal, fq_S_Write, fq_S_Disk]; exact h17 ((S_Journal.mk ([]) 0 0))) fun y66 => ?_
      refine .st (v := (bA (y66 == 1))) (aBin_eql ..) ?_
      exact .lg ⟨_, _, _, rfl⟩
    exact .lg ⟨_, _, _, rfl⟩
  rintro _ y67 ⟨j68, j69, j70, rfl⟩
  iterate 4 refine .uc ?_
  exact .lf rfl rfl ⟨_, rfl, rfl⟩
def G10  : Option Bool := F10 fuel0
def Orc10 (C : Nat → List A → Option A) : Prop := ∀ (_ : Unit), C 10 [] = (G10 ).map fun y => (bA y)
def F11_11_0 (n : Nat) (v1 : Bool) (v3 : (List (List UInt8))) (v4 : Int) (v6 : S_Disk) : Nat → Int → Int → Option (Int)
  | 0, _, _ => none
  | m + 1, v2, v5 => bif (decide (v5 < v4)) then (Option.bind (getI v3 v5) fun y8 => F11_11_0 n v1 v3 v4 v6 m (wr .i64 (v2 + (wr .i64 (1 + ((y8.length : Int)))))) (wr .i64 (v5 + 1))) else (some v2)
theorem T11_11_0 (C : Nat → List A → Option A) (n : Nat) (v1 : Bool) (v3 : (List (List UInt8))) (v4 : Int) (v6 : S_Disk) {ρ γ : Type} {φ : ρ → γ → Prop} {kL : R → Option ρ} {K : (Int) → Option γ} (kx kg : Nat → St → Option R) (kr : St → Option R) (kp : A → St → Option R) (x0 : ∀ (o0 : Int) (s4 : A) (s8 : A) (s9 : A) (s10 : A), J φ (kx 0 (St.mk [(2, (A.ptr 0 0)), (4, s4), (5, (iA o0)), (8, s8), (9, s9), (10, s10)] [Blk.box (c_S_Disk v6)])) kL (K o0) some) :
    ∀ (m : Nat) (v2 : Int) (v5 : Int), J φ (loopR (cx C) (evCall (cx C) (n+8)) (evCallY (cx C) (n+8)) (n+8) 11 0 0 1 kx kg kr kp m (St.mk [(2, (A.ptr 0 0)), (4, (bA v1)), (5, (iA v2)), (8, (A.imm (List.map (cL c8) v3) false)), (9, (iA v4)), (10, (iA v5))] [Blk.box (c_S_Disk v6)])) kL (F11_11_0 n v1 v3 v4 v6 m v2 v5) K := by
  intro m
  induction m with
  | zero => intros; exact .nn
  | succ m ih =>
    intro v2 v5
    refine .lp (e11_0 ..) ?_
    unfold F11_11_0
    refine .st (v := (bA (decide (v5 < v4)))) (aBin_lss ..) ?_
    refine .biHN (fun hk7 => ?_) (fun hk7 => ?_)
    · refine .bd (g := fun (y : (List UInt8)) => A.ip ((cL c8) y)) (idx_imm (e := 35) (es := 1) (h1 := by kernel_rfl) (h2 := by kernel_rfl) (h3 := fun _ => rfl) ..) fun y8 => ?_
      refine .s (A.imm (List.map c8 y8) false) ?_
      refine .st (v := (iA ((y8.length : Int)))) (len_imm (e := 5) (h1 := by kernel_rfl) ..) ?_
      refine .st (v := (iA (wr .i64 (1 + ((y8.length : Int)))))) (aBin_add ..) ?_
      refine .st (v := (iA (wr .i64 (v2 + (wr .i64 (1 + ((y8.length : Int)))))))) (aBin_add ..) ?_
      refine .st (v := (iA (wr .i64 (v5 + 1)))) (aBin_add ..) ?_
      refine .s [Blk.box (c_S_Disk v6)] ?_
      refine .cT (by kernel_rfl) ?_
      exact ih _ _
    exact .ex (x0 _ _ _ _ _)
def F11 (n : Nat) (a0 : S_Disk) (a1 : (List (List UInt8))) : Option Bool :=
  Option.bind (F11_11_0 n false a1 ((a1.length : Int)) a0 (n+8) 0 0) fun o9 => match o9 with | y10 => Option.bind (bif (decide (((a0.Sectors.length : Int)) ≤ 40)) then (some (decide (((a0.Pending.length : Int)) ≤ 40))) else (some false)) fun y16 => Option.bind (bif y16 then (some (decide (y10 ≤ 4000))) else (some false)) fun y22 => some y22
theorem T11 (C : Nat → List A → Option A) (n : Nat) (a0 : S_Disk) (a1 : (List (List UInt8))) : J (fun (o : R) y => ∃ v, o.1 = .ret v ∧ snapE o.2 v = (bA y)) (evCall1 (cx C) (evCall (cx C) (n+8)) (evCallY (cx C) (n+8)) (n+8) 11 [(A.agg (c_S_Disk a0)), (A.imm (List.map (cL c8) a1) false)] [] 0) some (F11 n a0 a1) some := by
  refine .lp (e11 ..) ?_
  unfold F11
  refine .s ((A.ptr 0 0), [Blk.box (c_S_Disk a0)]) ?_
  refine .st (v := (iA ((a1.length : Int)))) (len_imm (e := 35) (h1 := by kernel_rfl) ..) ?_
  refine .as (T11_11_0 C n  false a1 ((a1.length : Int)) a0 _ _ _ _ ?_ _ 0 0)
  · intro y10 j11 j12 j13 j14
    refine .un rfl ?_
    refine .cT (by kernel_rfl) ?_
    refine .s (A.ptr 0 0) (.s (A.imm (List.map (cL c8) a0.Sectors) false) ?_)
    refine .st (v := (iA ((a0.Sectors.length : Int)))) (len_imm (e := 35) (h1 := by kernel_rfl) ..) ?_
    refine .st (v := (bA (decide (((a0.Sectors.length : Int)) ≤ 40)))) (aBin_leq ..) ?_
    refine .bg (fun t (y : Bool) => ∃ j17 j18 j19 j20 : A, t = [(bA y), j17, j18, j19, j20]) ?_ ?_
    · refine .biH (fun hk15 => ?_) (fun hk15 => ?_)
      · refine .s (A.ptr 0 1) (.s (A.imm (List.map c_S_Write a0.Pending) false) ?_)
        refine .st (v := (iA ((a0.Pending.length : Int)))) (len_imm (e := 76) (h1 := by kernel_rfl) ..) ?_
        refine .st (v := (bA (decide (((a0.Pending.length : Int)) ≤ 40)))) (aBin_leq ..) ?_
        exact .lg ⟨_, _, _, _, rfl⟩
      exact .lg ⟨_, _, _, _, rfl⟩
    rintro _ y16 ⟨j17, j18, j19, j20, rfl⟩
    iterate 5 refine .uc ?_
    refine .bg (fun t (y : Bool) => ∃ j23 j24 : A, t = [(bA y), j23, j24]) ?_ ?_
    · refine .biH (fun hk21 => ?_) (fun hk21 => ?_)
      · refine .st (v := (bA (decide (y10 ≤ 4000)))) (aBin_leq ..) ?_
        exact .lg ⟨_, _, rfl⟩
      exact .lg ⟨_, _, rfl⟩
    rintro _ y22 ⟨j23, j24, rfl⟩
    iterate 3 refine .uc ?_
    exact .lf rfl rfl ⟨_, rfl, rfl⟩
def G11 (a0 : S_Disk) (a1 : (List (List UInt8))) : Option Bool := F11 fuel0 a0 a1
def Orc11 (C : Nat → List A → Option A) : Prop := ∀ (a0 : S_Disk) (a1 : (List (List UInt8))), C 11 [(A.agg (c_S_Disk a0)), (A.imm (List.map (cL c8) a1) false)] = (G11 a0 a1).map fun y => (bA y)
def F39 (n : Nat) (a0 : Int) : Option Int :=
  some ((if 1 < wr .i64 (Int.tdiv (wr .i64 ((wr .i64 (a0 + 112)) - 1)) 112) then wr .i64 (Int.tdiv (wr .i64 ((wr .i64 (a0 + 112)) - 1)) 112) else 1))
theorem T39 (C : Nat → List A → Option A) (n : Nat) (a0 : Int) : J (fun (o : R) y => ∃ v, o.1 = .ret v ∧ snapE o.2 v = (iA y)) (evCall1 (cx C) (evCall (cx C) (n+8)) (evCallY (cx C) (n+8)) (n+8) 39 [(iA a0)] [] 0) some (F39 n a0) some := by
  refine .lp (e39 ..) ?_
  unfold F39
  refine .st (v := (iA (wr .i64 (a0 + 112)))) (aBin_add ..) ?_
  refine .st (v := (iA (wr .i64 ((wr .i64 (a0 + 112)) - 1)))) (aBin_sub ..) ?_
  refine .st (v := (iA (wr .i64 (Int.tdiv (wr .i64 ((wr .i64 (a0 + 112)) - 1)) 112)))) (aBin_quo (hb := by decide) ..) ?_
  refine .s (iA ((if 1 < wr .i64 (Int.tdiv (wr .i64 ((wr .i64 (a0 + 112)) - 1)) 112) then wr .i64 (Int.tdiv (wr .i64 ((wr .i64 (a0 + 112)) - 1)) 112) else 1))) ?_
  exact .lf rfl rfl ⟨_, rfl, rfl⟩
def G39 (a0 : Int) : Option Int := F39 fuel0 a0
def Orc39 (C : Nat → List A → Option A) : Prop := ∀ (a0 : Int), C 39 [(iA a0)] = (G39 a0).map fun y => (iA y)
def F40_40_0 (n : Nat) (v1 : (List (List UInt8))) (v2 : Int) : Nat → Int → Int → Option (Int)
  | 0, _, _ => none
  | m + 1, v3, v4 => bif (decide (v4 < ((v1.length : Int)))) then (Option.bind (getI v1 v4) fun y6 => Option.bind (G39 ((y6.length : Int))) fun y7 => F40_40_0 n v1 v2 m (wr .i64 (v3 + y7)) (wr .i64 (v4 + 1))) else (some v3)
theorem T40_40_0 (C : Nat → List A → Option A) (n : Nat) (h39 : Orc39 C) (v1 : (List (List UInt8))) (v2 : Int) {ρ γ : Type} {φ : ρ → γ → Prop} {kL : R → Option ρ} {K : (Int) → Option γ} (kx kg : Nat → St → Option R) (kr : St → Option R) (kp : A → St → Option R) (x0 : ∀ (o0 : Int) (s0 : A) (s2 : A) (s4 : A), J φ (kx 0 (St.mk [(0, s0), (2, s2), (3, (iA o0)), (4, s4)] [])) kL (K o0) some) :
    ∀ (m : Nat) (v3 : Int) (v4 : Int), J φ (loopR (cx C) (evCall (cx C) (n+8)) (evCallY (cx C) (n+8)) (n+8) 40 0 0 0 kx kg kr kp m (St.mk [(0, (A.imm (List.map (cL c8) v1) false)), (2, (iA v2)), (3, (iA v3)), (4, (iA v4))] [])) kL (F40_40_0 n v1 v2 m v3 v4) K := by
  intro m
  induction m with
  | zero => intros; exact .nn
  | succ m ih =>
    intro v3 v4
    refine .lp (e40_0 ..) ?_
    unfold F40_40_0
    refine .st (v := (iA ((v1.length : Int)))) (len_imm (e := 35) (h1 := by kernel_rfl) ..) ?_
    refine .st (v := (bA (decide (v4 < ((v1.length : Int)))))) (aBin_lss ..) ?_
    refine .biHN (fun hk5 => ?_) (fun hk5 => ?_)
    · refine .bd (g := fun (y : (List UInt8)) => A.ip ((cL c8) y)) (idx_imm (e := 35) (es := 1) (h1 := by kernel_rfl) (h2 := by kernel_rfl) (h3 := fun _ => rfl) ..) fun y6 => ?_
      refine .s (A.imm (List.map c8 y6) false) ?_
      refine .st (v := (iA ((y6.length : Int)))) (len_imm (e := 5) (h1 := by kernel_rfl) ..) ?_
      refine .bd (g := fun (y : Int) => (iA y)) (h39 ((y6.length : Int))) fun y7 => ?_
      refine .st (v := (iA (wr .i64 (v3 + y7)))) (aBin_add ..) ?_
      refine .st (v := (iA (wr .i64 (v4 + 1)))) (aBin_add ..) ?_
      refine .s [] ?_
      refine .cT (by kernel_rfl) ?_
      exact ih _ _
    exact .ex (x0 _ _ _ _)
def F40 (n : Nat) (a0 : (List (List UInt8))) : Option Int :=
  Option.bind (F40_40_0 n a0 0 (n+8) 0 0) fun o8 => match o8 with | y9 => some y9
theorem T40 (C : Nat → List A → Option A) (n : Nat) (h39 : Orc39 C) (a0 : (List (List UInt8))) : J (fun (o : R) y => ∃ v, o.1 = .ret v ∧ snapE o.2 v = (iA y)) (evCall1 (cx C) (evCall (cx C) (n+8)) (evCallY (cx C) (n+8)) (n+8) 40 [(A.imm (List.map (cL c8) a0) false)] [] 0) some (F40 n a0) some := by
  refine .lp (e40 ..) ?_
  unfold F40
  refine .as (T40_40_0 C n h39 a0 0 _ _ _ _ ?_ _ 0 0)
  · intro y9 j10 j11 j12
    refine .un rfl ?_
    refine .cT (by kernel_rfl) ?_
    exact .lf rfl rfl ⟨_, rfl, rfl⟩
def G40 (a0 : (List (List UInt8))) : Option Int := F40 fuel0 a0
def Orc40 (C : Nat → List A → Option A) : Prop := ∀ (a0 : (List (List UInt8))), C 40 [(A.imm (List.map (cL c8) a0) false)] = (G40 a0).map fun y => (iA y)
def F18 (n : Nat) (a0 : S_Journal) : Option Int :=
  Option.bind (bif (decide (a0.Many < 1)) then (some true) else (some (decide (4096 < a0.Many)))) fun y2 => Option.bind (bif y2 then (some true) else (some (decide (a0.Synced < 0)))) fun y7 => Option.bind (bif y7 then (some true) else (some (decide (((a0.Records.length : Int)) < a0.Synced)))) fun y12 => bif y12 then (Option.bind (some true) fun y24 => bif y24 then (some 1) else (some 0)) else (Option.bind (G40 a0.Records) fun y20 => Option.bind (some (decide (a0.Many < y20))) fun y21 => bif y21 then (some 1) else (some 0))
theorem T18 (C : Nat → List A → Option A) (n : Nat) (h40 : Orc40 C) (a0 : S_Journal) : J (fun (o : R) y => ∃ v, o.1 = .ret v ∧ snapE o.2 v = (iA y)) (evCall1 (cx C) (evCall (cx C) (n+8)) (evCallY (cx C) (n+8)) (n+8) 18 [(A.agg (c_S_Journal a0))] [] 0) some (F18 n a0) some := by
  refine .lp (e18 ..) ?_
  unfold F18
  refine .s ((A.ptr 0 0), [Blk.box (c_S_Journal a0)]) (.s (A.ptr 0 1) (.s (iA a0.Many) ?_))
  refine .st (v := (bA (decide (a0.Many < 1)))) (aBin_lss ..) ?_
  refine .bg (fun t (y : Bool) => ∃ j3 j4 j5 : A, t = [(bA y), j3, j4, j5]) ?_ ?_
  · refine .biH (fun hk1 => ?_) (fun hk1 => ?_)
    · exact .lg ⟨_, _, _, rfl⟩
    refine .s (A.ptr 0 1) (.s (iA a0.Many) ?_)
    refine .st (v := (bA (decide (4096 < a0.Many)))) (aBin_gtr ..) ?_
    exact .lg ⟨_, _, _, rfl⟩
  rintro _ y2 ⟨j3, j4, j5, rfl⟩
  iterate 4 refine .uc ?_
  refine .bg (fun t (y : Bool) => ∃ j8 j9 j10 : A, t = [(bA y), j8, j9, j10]) ?_ ?_
  · refine .biH (fun hk6 => ?_) (fun hk6 => ?_)
    · exact .lg ⟨_, _, _, rfl⟩
    refine .s (A.ptr 0 2) (.s (iA a0.Synced) ?_)
    refine .st (v := (bA (decide (a0.Synced < 0)))) (aBin_lss ..) ?_
    exact .lg ⟨_, _, _, rfl⟩
  rintro _ y7 ⟨j8, j9, j10, rfl⟩
  iterate 4 refine .uc ?_
  refine .bg (fun t (y : Bool) => ∃ j13 j14 j15 j16 j17 j18 : A, t = [(bA y), j13, j14, j15, j16, j17, j18]) ?_ ?_
  · refine .biH (fun hk11 => ?_) (fun hk11 => ?_)
    · exact .lg ⟨_, _, _, _, _, _, rfl⟩
    refine .s (A.ptr 0 2) (.s (iA a0.Synced) (.s (A.ptr 0 0) (.s (A.imm (List.map (cL c8) a0.Records) false) ?_)))
    refine .st (v := (iA ((a0.Records.length : Int)))) (len_imm (e := 35) (h1 := by kernel_rfl) ..) ?_
    refine .st (v := (bA (decide (((a0.Records.length : Int)) < a0.Synced)))) (aBin_gtr ..) ?_
    exact .lg ⟨_, _, _, _, _, _, rfl⟩
  rintro _ y12 ⟨j13, j14, j15, j16, j17, j18, rfl⟩
  iterate 7 refine .uc ?_
  refine .gsf (fun hc19 => ?_) (fun hc19 => ?_)
  · refine .bb ?_
    refine .s (A.ptr 0 0) (.s (A.imm (List.map (cL c8) a0.Records) false) ?_)
    refine .bd (g := fun (y : Int) => (iA y)) (by show C 40 [snap [Blk.box (c_S_Journal a0)] (A.imm (List.map (cL c8) a0.Records) false)] = _; simp only [snap, snapW, snapWs, snapWss, snapWss_map, trim, List.map_cons, List.map_nil, fl_cI, fl_c8, fl_cB, fl_cS, fl_cL, fl_S_Journal, fl_S_Write, fl_S_Disk, snapWs_app, fq_S_Journal, fq_S_Write, fq_S_Disk]; exact h40 a0.Records) fun y20 => ?_
    refine .s (A.ptr 0 1) (.s (iA a0.Many) ?_)
    refine .cr ?_
    iterate 5 refine .uc ?_
    refine .bg (fun t (y : Bool) => ∃ j22 : A, t = [(bA y), j22]) ?_ ?_
    · refine .bKF hc19 ?_
      refine .st (v := (bA (decide (a0.Many < y20)))) (aBin_gtr ..) ?_
      exact .lg ⟨_, rfl⟩
    rintro _ y21 ⟨j22, rfl⟩
    iterate 2 refine .uc ?_
    refine .biHN (fun hk23 => ?_) (fun hk23 => ?_)
    · exact .lf rfl rfl ⟨_, rfl, rfl⟩
    exact .lf rfl rfl ⟨_, rfl, rfl⟩
  refine .bb ?_
  refine .cr ?_
  iterate 5 refine .uc ?_
  refine .bg (fun t (y : Bool) => ∃ j25 : A, t = [(bA y), j25]) ?_ ?_
  · refine .bKT hc19 ?_
    exact .lg ⟨_, rfl⟩
  rintro _ y24 ⟨j25, rfl⟩
  iterate 2 refine .uc ?_
  refine .biHN (fun hk26 => ?_) (fun hk26 => ?_)
  · exact .lf rfl rfl ⟨_, rfl, rfl⟩
  exact .lf rfl rfl ⟨_, rfl, rfl⟩
def G18 (a0 : S_Journal) : Option Int := F18 fuel0 a0
def Orc18 (C : Nat → List A → Option A) : Prop := ∀ (a0 : S_Journal), C 18 [(A.agg (c_S_Journal a0))] = (G18 a0).map fun y => (iA y)
def F16 (n : Nat) (a0 : S_Journal) (a1 : (List UInt8)) : Option (S_Journal × Int) :=
  Option.bind (G18 a0) fun y1 => bif (y1 != 0) then (some (((S_Journal.mk ([]) 0 0), y1))) else (Option.bind (G39 ((a1.length : Int))) fun y3 => Option.bind (G40 a0.Records) fun y4 => bif (decide ((wr .i64 (a0.Many - y4)) < y3)) then (some (((S_Journal.mk ([]) 0 0), 2))) else (Option.bind (appI 24 ([]) a0.Records) fun y6 => Option.bind (appI 24 y6 ([a1])) fun y7 => some (((S_Journal.mk y7 a0.Many a0.Synced), 0))))
theorem T16 (C : Nat → List A → Option A) (n : Nat) (h18 : Orc18 C) (h39 : Orc39 C) (h40 : Orc40 C) (a0 : S_Journal) (a1 : (List UInt8)) : J (fun (o : R) y => ∃ v, o.1 = .ret v ∧ snapE o.2 v = (A.tup [(A.agg [(A.imm (List.map (cL c8) y.1.Records) false), (iA y.1.Many), (iA y.1.Synced)]), (iA y.2)])) (evCall1 (cx C) (evCall (cx C) (n+8)) (evCallY (cx C) (n+8)) (n+8) 16 [(A.agg (c_S_Journal a0)), (A.imm (List.map c8 a1) false)] [] 0) some (F16 n a0 a1) some := by
  refine .lp (e16 ..) ?_
  unfold F16
  refine .s ((A.ptr 0 0), [Blk.box (c_S_Journal a0)]) (.s ((A.ptr 1 0), [Blk.box (c_S_Journal a0), Blk.box [(A.imm [] true), (iA 0), (iA 0)]]) (.s (A.agg (c_S_Journal a0)) ?_))
  refine .bd (g := fun (y : Int) => (iA y)) (by show C 18 [snap [Blk.box (c_S_Journal a0), Blk.box [(A.imm [] true), (iA 0), (iA 0)]] (A.agg (c_S_Journal a0))] = _; simp only [snap, snapW, snapWs, snapWss, snapWss_map, trim, List.map_cons, List.map_nil, fl_cI, fl_c8, fl_cB, fl_cS, fl_cL, fl_S_Journal, fl_S_Write, fl_S_Disk, snapWs_app, fq_S_Journal, fq_S_Write, fq_S_Disk]; exact h18 a0) fun y1 => ?_
  refine .st (v := (bA (y1 != 0))) (aBin_neq ..) ?_
  refine .biHN (fun hk2 => ?_) (fun hk2 => ?_)
  · refine .s (A.agg [(A.imm [] true), (iA 0), (iA 0)]) (.s [Blk.box (c_S_Journal a0), Blk.box [(A.imm [] true), (iA 0), (iA 0)]] (.s (A.agg [(A.imm [] true), (iA 0), (iA 0)]) ?_))
    exact .lf rfl rfl ⟨_, rfl, by show snapE [Blk.box (c_S_Journal a0), Blk.box [(A.imm [] true), (iA 0), (iA 0)]] (A.tup [(A.agg [(A.imm [] true), (iA 0), (iA 0)]), (iA y1)]) = _; first | (simp only [snap, snapW, snapWs, snapWss, snapWss_map, trim, List.map_cons, List.map_nil, fl_cI, fl_c8, fl_cB, fl_cS, fl_cL, fl_S_Journal, fl_S_Write, fl_S_Disk, snapWs_app, fq_S_Journal, fq_S_Write, fq_S_Disk, snapE]; done) | (simp only [snap, snapW, snapWs, snapWss, snapWss_map, trim, fl_cI, fl_c8, fl_cB, fl_cS, fl_cL, fl_S_Journal, fl_S_Write, fl_S_Disk, snapWs_app, fq_S_Journal, fq_S_Write, fq_S_Disk, snapE]; done) | (simp only [snap, snapW, snapWs, snapWss, snapWss_map, trim, fl_cI, fl_c8, fl_cB, fl_cS, fl_cL, fl_S_Journal, fl_S_Write, fl_S_Disk, snapWs_app, fq_S_Journal, fq_S_Write, fq_S_Disk, snapE]; rfl)⟩
  refine .st (v := (iA ((a1.length : Int)))) (len_imm (e := 5) (h1 := by kernel_rfl) ..) ?_
  refine .bd (g := fun (y : Int) => (iA y)) (h39 ((a1.length : Int))) fun y3 => ?_
  refine .s (A.ptr 0 1) (.s (iA a0.Many) (.s (A.ptr 0 0) (.s (A.imm (List.map (cL c8) a0.Records) false) ?_)))
  refine .bd (g := fun (y : Int) => (iA y)) (by show C 40 [snap [Blk.box (c_S_Journal a0), Blk.box [(A.imm [] true), (iA 0), (iA 0)]] (A.imm (List.map (cL c8) a0.Records) false)] = _; simp only [snap, snapW, snapWs, snapWss, snapWss_map, trim, List.map_cons, List.map_nil, fl_cI, fl_c8, fl_cB, fl_cS, fl_cL, fl_S_Journal, fl_S_Write, fl_S_Disk, snapWs_app, fq_S_Journal, fq_S_Write, fq_S_Disk]; exact h40 a0.Records) fun y4 => ?_
  refine .st (v := (iA (wr .i64 (a0.Many - y4)))) (aBin_sub ..) ?_
  refine .st (v := (bA (decide ((wr .i64 (a0.Many - y4)) < y3)))) (aBin_gtr ..) ?_
  refine .biHN (fun hk5 => ?_) (fun hk5 => ?_)
  · refine .s (A.agg [(A.imm [] true), (iA 0), (iA 0)]) (.s [Blk.box (c_S_Journal a0), Blk.box [(A.imm [] true), (iA 0), (iA 0)]] (.s (A.agg [(A.imm [] true), (iA 0), (iA 0)]) ?_))
    exact .lf rfl rfl ⟨_, rfl, by show snapE [Blk.box (c_S_Journal a0), Blk.box [(A.imm [] true), (iA 0), (iA 0)]] (A.tup [(A.agg [(A.imm [] true), (iA 0), (iA 0)]), (iA 2)]) = _; first | (simp only [snap, snapW, snapWs, snapWss, snapWss_map, trim, List.map_cons, List.map_nil, fl_cI, fl_c8, fl_cB, fl_cS, fl_cL, fl_S_Journal, fl_S_Write, fl_S_Disk, snapWs_app, fq_S_Journal, fq_S_Write, fq_S_Disk, snapE]; done) | (simp only [snap, snapW, snapWs, snapWss, snapWss_map, trim, fl_cI, fl_c8, fl_cB, fl_cS, fl_cL, fl_S_Journal, fl_S_Write, fl_S_Disk, snapWs_app, fq_S_Journal, fq_S_Write, fq_S_Disk, snapE]; done) | (simp only [snap, snapW, snapWs, snapWss, snapWss_map, trim, fl_cI, fl_c8, fl_cB, fl_cS, fl_cL, fl_S_Journal, fl_S_Write, fl_S_Disk, snapWs_app, fq_S_Journal, fq_S_Write, fq_S_Disk, snapE]; rfl)⟩
  refine .s (A.imm [] true) (.s (A.ptr 0 0) (.s (A.imm (List.map (cL c8) a0.Records) false) ?_))
  refine .bd (g := fun (y : List (List UInt8)) => ((A.sl 2 0 y.length false), [Blk.box (c_S_Journal a0), Blk.box [(A.imm [] true), (iA 0), (iA 0)], Blk.row false 1 (List.map (cL c8) y)])) (app_imm (e := 35) (es := 1) (by_ := 24) (z := [(A.imm [] true)]) (by kernel_rfl) (by kernel_rfl) (by kernel_rfl) (by kernel_rfl) rfl (by decide) (by decide) (by kernel_rfl) (f := (cL c8)) (fun _ => rfl) ce_cL (l := []) (l2 := a0.Records) (els_imm ..)) fun y6 => ?_
  refine .s (A.imm [[(A.imm (List.map c8 a1) false)]] true) ?_
  refine .bd (g := fun (y : List (List UInt8)) => ((A.sl 2 0 y.length false), [Blk.box (c_S_Journal a0), Blk.box [(A.imm [] true), (iA 0), (iA 0)], Blk.row false 1 (List.map (cL c8) y)])) (app_row (e := 35) (es := 1) (by_ := 24) (z := [(A.imm [] true)]) (by kernel_rfl) (by kernel_rfl) (by kernel_rfl) (by kernel_rfl) rfl (by decide) (by decide) (by kernel_rfl) (f := (cL c8)) (fun _ => rfl) ce_cL (l := y6) (l2 := [a1]) (b := 2) rfl (by decide) (els_imm (f := (cL c8)) ([a1] : List (List UInt8)) _ _)) fun y7 => ?_
  refine .s (A.ptr 0 0) (.s [Blk.box [(A.sl 2 0 y7.length false), (iA a0.Many), (iA a0.Synced)], Blk.box [(A.imm [] true), (iA 0), (iA 0)], Blk.row false 1 (List.map (cL c8) y7)] (.s (A.agg [(A.sl 2 0 y7.length false), (iA a0.Many), (iA a0.Synced)]) (.s [Blk.box [(A.sl 2 0 y7.length false), (iA a0.Many), (iA a0.Synced)], Blk.box [(A.sl 2 0 y7.length false), (iA a0.Many), (iA a0.Synced)], Blk.row false 1 (List.map (cL c8) y7)] (.s (A.agg [(A.sl 2 0 y7.length false), (iA a0.Many), (iA a0.Synced)]) ?_))))
  exact .lf rfl rfl ⟨_, rfl, by show snapE [Blk.box [(A.sl 2 0 y7.length false), (iA a0.Many), (iA a0.Synced)], Blk.box [(A.sl 2 0 y7.length false), (iA a0.Many), (iA a0.Synced)], Blk.row false 1 (List.map (cL c8) y7)] (A.tup [(A.agg [(A.sl 2 0 y7.length false), (iA a0.Many), (iA a0.Synced)]), (iA 0)]) = _; first | (simp only [snap, snapW, snapWs, snapWss, snapWss_map, trim, List.map_cons, List.map_nil, fl_cI, fl_c8, fl_cB, fl_cS, fl_cL, fl_S_Journal, fl_S_Write, fl_S_Disk, snapWs_app, fq_S_Journal, fq_S_Write, fq_S_Disk, snapE, snapGE_row (H := [Blk.box [(A.sl 2 0 y7.length false), (iA a0.Many), (iA a0.Synced)], Blk.box [(A.sl 2 0 y7.length false), (iA a0.Many), (iA a0.Synced)], Blk.row false 1 (List.map (cL c8) y7)]) (b := 2) (es := 1) (wr := false) (l := y7) (fl_cL fl_c8) rfl]; done) | (simp only [snap, snapW, snapWs, snapWss, snapWss_map, trim, fl_cI, fl_c8, fl_cB, fl_cS, fl_cL, fl_S_Journal, fl_S_Write, fl_S_Disk, snapWs_app, fq_S_Journal, fq_S_Write, fq_S_Disk, snapE, snapGE_row (H := [Blk.box [(A.sl 2 0 y7.length false), (iA a0.Many), (iA a0.Synced)], Blk.box [(A.sl 2 0 y7.length false), (iA a0.Many), (iA a0.Synced)], Blk.row false 1 (List.map (cL c8) y7)]) (b := 2) (es := 1) (wr := false) (l := y7) (fl_cL fl_c8) rfl]; done) | (simp only [snap, snapW, snapWs, snapWss, snapWss_map, trim, fl_cI, fl_c8, fl_cB, fl_cS, fl_cL, fl_S_Journal, fl_S_Write, fl_S_Disk, snapWs_app, fq_S_Journal, fq_S_Write, fq_S_Disk, snapE, snapGE_row (H := [Blk.box [(A.sl 2 0 y7.length false), (iA a0.Many), (iA a0.Synced)], Blk.box [(A.sl 2 0 y7.length false), (iA a0.Many), (iA a0.Synced)], Blk.row false 1 (List.map (cL c8) y7)]) (b := 2) (es := 1) (wr := false) (l := y7) (fl_cL fl_c8) rfl]; rfl)⟩
def G16 (a0 : S_Journal) (a1 : (List UInt8)) : Option (S_Journal × Int) := F16 fuel0 a0 a1
def Orc16 (C : Nat → List A → Option A) : Prop := ∀ (a0 : S_Journal) (a1 : (List UInt8)), C 16 [(A.agg (c_S_Journal a0)), (A.imm (List.map c8 a1) false)] = (G16 a0 a1).map fun y => (A.tup [(A.agg [(A.imm (List.map (cL c8) y.1.Records) false), (iA y.1.Many), (iA y.1.Synced)]), (iA y.2)])
def F20 (n : Nat) (a0 : S_Journal) : Option Int :=
  Option.bind (G18 a0) fun y1 => bif (y1 != 0) then (some 0) else (Option.bind (G40 a0.Records) fun y3 => some (wr .i64 (112 * (wr .i64 (a0.Many - y3)))))
theorem T20 (C : Nat → List A → Option A) (n : Nat) (h18 : Orc18 C) (h40 : Orc40 C) (a0 : S_Journal) : J (fun (o : R) y => ∃ v, o.1 = .ret v ∧ snapE o.2 v = (iA y)) (evCall1 (cx C) (evCall (cx C) (n+8)) (evCallY (cx C) (n+8)) (n+8) 20 [(A.agg (c_S_Journal a0))] [] 0) some (F20 n a0) some := by
  refine .lp (e20 ..) ?_
  unfold F20
  refine .s ((A.ptr 0 0), [Blk.box (c_S_Journal a0)]) (.s (A.agg (c_S_Journal a0)) ?_)
  refine .bd (g := fun (y : Int) => (iA y)) (by show C 18 [snap [Blk.box (c_S_Journal a0)] (A.agg (c_S_Journal a0))] = _; simp only [snap, snapW, snapWs, snapWss, snapWss_map, trim, List.map_cons, List.map_nil, fl_cI, fl_c8, fl_cB, fl_cS, fl_cL, fl_S_Journal, fl_S_Write, fl_S_Disk, snapWs_app, fq_S_Journal, fq_S_Write, fq_S_Disk]; exact h18 a0) fun y1 => ?_
  refine .st (v := (bA (y1 != 0))) (aBin_neq ..) ?_
  refine .biHN (fun hk2 => ?_) (fun hk2 => ?_)
  · exact .lf rfl rfl ⟨_, rfl, rfl⟩
  refine .s (A.ptr 0 1) (.s (iA a0.Many) (.s (A.ptr 0 0) (.s (A.imm (List.map (cL c8) a0.Records) false) ?_)))
  refine .bd (g := fun (y : Int) => (iA y)) (by show C 40 [snap [Blk.box (c_S_Journal a0)] (A.imm (List.map (cL c8) a0.Records) false)] = _; simp only [snap, snapW, snapWs, snapWss, snapWss_map, trim, List.map_cons, List.map_nil, fl_cI, fl_c8, fl_cB, fl_cS, fl_cL, fl_S_Journal, fl_S_Write, fl_S_Disk, snapWs_app, fq_S_Journal, fq_S_Write, fq_S_Disk]; exact h40 a0.Records) fun y3 => ?_
  refine .st (v := (iA (wr .i64 (a0.Many - y3)))) (aBin_sub ..) ?_
  refine .st (v := (iA (wr .i64 (112 * (wr .i64 (a0.Many - y3)))))) (aBin_mul ..) ?_
  exact .lf rfl rfl ⟨_, rfl, rfl⟩
def G20 (a0 : S_Journal) : Option Int := F20 fuel0 a0
def Orc20 (C : Nat → List A → Option A) : Prop := ∀ (a0 : S_Journal), C 20 [(A.agg (c_S_Journal a0))] = (G20 a0).map fun y => (iA y)
def F24_24_0 (n : Nat) (v2 : (List (List UInt8))) (v3 : (List (List UInt8))) (v4 : Bool) : Nat → Int → Option ((Bool) ⊕ (Unit))
  | 0, _ => none
  | m + 1, v5 => bif (decide (v5 < ((v2.length : Int)))) then (Option.bind (getI v2 v5) fun y7 => Option.bind (getI v3 v5) fun y8 => bif (!strEq (bstr y7) (bstr y8)) then (some ((Sum.inl false))) else (F24_24_0 n v2 v3 v4 m (wr .i64 (v5 + 1)))) else (some ((Sum.inr (()))))
theorem T24_24_0 (C : Nat → List A → Option A) (n : Nat) (v2 : (List (List UInt8))) (v3 : (List (List UInt8))) (v4 : Bool) {ρ γ : Type} {φ : ρ → γ → Prop} {kL : R → Option ρ} {K : ((Bool) ⊕ (Unit)) → Option γ} (kx kg : Nat → St → Option R) (kr : St → Option R) (kp : A → St → Option R) (x0 : ∀ (o0 : Bool) (s0 : A) (s1 : A) (s5 : A), J φ (kr (St.mk [(0, s0), (1, s1), (4, (bA o0)), (5, s5)] [])) kL (K (Sum.inl o0)) some) (x1 : ∀ (s0 : A) (s1 : A) (s4 : A) (s5 : A), J φ (kx 0 (St.mk [(0, s0), (1, s1), (4, s4), (5, s5)] [])) kL (K (Sum.inr (()))) some) :
    ∀ (m : Nat) (v5 : Int), J φ (loopR (cx C) (evCall (cx C) (n+8)) (evCallY (cx C) (n+8)) (n+8) 24 0 0 0 kx kg kr kp m (St.mk [(0, (A.imm (List.map (cL c8) v2) false)), (1, (A.imm (List.map (cL c8) v3) false)), (4, (bA v4)), (5, (iA v5))] [])) kL (F24_24_0 n v2 v3 v4 m v5) K := by
  intro m
  induction m with
  | zero => intros; exact .nn
  | succ m ih =>
    intro v5
    refine .lp (e24_0 ..) ?_
    unfold F24_24_0
    refine .st (v := (iA ((v2.length : Int)))) (len_imm (e := 35) (h1 := by kernel_rfl) ..) ?_
    refine .st (v := (bA (decide (v5 < ((v2.length : Int)))))) (aBin_lss ..) ?_
    refine .biHN (fun hk6 => ?_) (fun hk6 => ?_)
    · refine .bd (g := fun (y : (List UInt8)) => A.ip ((cL c8) y)) (idx_imm (e := 35) (es := 1) (h1 := by kernel_rfl) (h2 := by kernel_rfl) (h3 := fun _ => rfl) ..) fun y7 => ?_
      refine .s (A.imm (List.map c8 y7) false) ?_
      refine .st (v := (A.v (Value.string (bstr y7)))) (conv_bs (e := 5) (l := y7) (by kernel_rfl) (by kernel_rfl) (by kernel_rfl) (by kernel_rfl) (els_imm ..) rfl) ?_
      refine .bd (g := fun (y : (List UInt8)) => A.ip ((cL c8) y)) (idx_imm (e := 35) (es := 1) (h1 := by kernel_rfl) (h2 := by kernel_rfl) (h3 := fun _ => rfl) ..) fun y8 => ?_
      refine .s (A.imm (List.map c8 y8) false) ?_
      refine .st (v := (A.v (Value.string (bstr y8)))) (conv_bs (e := 5) (l := y8) (by kernel_rfl) (by kernel_rfl) (by kernel_rfl) (by kernel_rfl) (els_imm ..) rfl) ?_
      refine .st (v := (bA (!strEq (bstr y7) (bstr y8)))) (aBin_neq_s ..) ?_
      refine .biHN (fun hk9 => ?_) (fun hk9 => ?_)
      · exact .ex (x0 _ _ _ _)
      refine .st (v := (iA (wr .i64 (v5 + 1)))) (aBin_add ..) ?_
      refine .s [] ?_
      refine .cT (by kernel_rfl) ?_
      exact ih _
    exact .ex (x1 _ _ _ _)
def F24 (n : Nat) (a0 : (List (List UInt8))) (a1 : (List (List UInt8))) : Option Bool :=
  bif (((a0.length : Int)) != ((a1.length : Int))) then (some false) else (Option.bind (F24_24_0 n a0 a1 false (n+8) 0) fun o10 => match o10 with | (Sum.inl y11) => some y11 | (Sum.inr _) => some true)
theorem T24 (C : Nat → List A → Option A) (n : Nat) (a0 : (List (List UInt8))) (a1 : (List (List UInt8))) : J (fun (o : R) y => ∃ v, o.1 = .ret v ∧ snapE o.2 v = (bA y)) (evCall1 (cx C) (evCall (cx C) (n+8)) (evCallY (cx C) (n+8)) (n+8) 24 [(A.imm (List.map (cL c8) a0) false), (A.imm (List.map (cL c8) a1) false)] [] 0) some (F24 n a0 a1) some := by
  refine .lp (e24 ..) ?_
  unfold F24
  refine .st (v := (iA ((a0.length : Int)))) (len_imm (e := 35) (h1 := by kernel_rfl) ..) ?_
  refine .st (v := (iA ((a1.length : Int)))) (len_imm (e := 35) (h1 := by kernel_rfl) ..) ?_
  refine .st (v := (bA (((a0.length : Int)) != ((a1.length : Int))))) (aBin_neq ..) ?_
  refine .biHN (fun hk1 => ?_) (fun hk1 => ?_)
  · exact .lf rfl rfl ⟨_, rfl, rfl⟩
  refine .as (T24_24_0 C n  a0 a1 false _ _ _ _ ?_ ?_ _ 0)
  · intro y11 j12 j13 j14
    refine .un rfl ?_
    exact .lf rfl rfl ⟨_, rfl, rfl⟩
  · intro j15 j16 j17 j18
    refine .un rfl ?_
    refine .cT (by kernel_rfl) ?_
    exact .lf rfl rfl ⟨_, rfl, rfl⟩
def G24 (a0 : (List (List UInt8))) (a1 : (List (List UInt8))) : Option Bool := F24 fuel0 a0 a1
def Orc24 (C : Nat → List A → Option A) : Prop := ∀ (a0 : (List (List UInt8))) (a1 : (List (List UInt8))), C 24 [(A.imm (List.map (cL c8) a0) false), (A.imm (List.map (cL c8) a1) false)] = (G24 a0 a1).map fun y => (bA y)
def F14 (n : Nat) (a0 : S_Journal) (a1 : S_Journal) : Option Bool :=
  Option.bind (bif (a0.Many == a1.Many) then (some (a0.Synced == a1.Synced)) else (some false)) fun y2 => Option.bind (bif y2 then (Option.bind (G24 a0.Records a1.Records) fun y9 => some y9) else (some false)) fun y10 => some y10
theorem T14 (C : Nat → List A → Option A) (n : Nat) (h24 : Orc24 C) (a0 : S_Journal) (a1 : S_Journal) : J (fun (o : R) y => ∃ v, o.1 = .ret v ∧ snapE o.2 v = (bA y)) (evCall1 (cx C) (evCall (cx C) (n+8)) (evCallY (cx C) (n+8)) (n+8) 14 [(A.agg (c_S_Journal a0)), (A.agg (c_S_Journal a1))] [] 0) some (F14 n a0 a1) some := by
  refine .lp (e14 ..) ?_
  unfold F14
  refine .s ((A.ptr 0 0), [Blk.box (c_S_Journal a0)]) (.s ((A.ptr 1 0), [Blk.box (c_S_Journal a0), Blk.box (c_S_Journal a1)]) (.s (A.ptr 0 1) (.s (iA a0.Many) (.s (A.ptr 1 1) (.s (iA a1.Many) ?_)))))
  refine .st (v := (bA (a0.Many == a1.Many))) (aBin_eql ..) ?_
  refine .bg (fun t (y : Bool) => ∃ j3 j4 j5 j6 j7 : A, t = [(bA y), j3, j4, j5, j6, j7]) ?_ ?_
  · refine .biH (fun hk1 => ?_) (fun hk1 => ?_)
    · refine .s (A.ptr 0 2) (.s (iA a0.Synced) (.s (A.ptr 1 2) (.s (iA a1.Synced) ?_)))
      refine .st (v := (bA (a0.Synced == a1.Synced))) (aBin_eql ..) ?_
      exact .lg ⟨_, _, _, _, _, rfl⟩
    exact .lg ⟨_, _, _, _, _, rfl⟩
  rintro _ y2 ⟨j3, j4, j5, j6, j7, rfl⟩
  iterate 6 refine .uc ?_
  refine .bg (fun t (y : Bool) => ∃ j11 j12 j13 j14 j15 : A, t = [(bA y), j11, j12, j13, j14, j15]) ?_ ?_
  · refine .biH (fun hk8 => ?_) (fun hk8 => ?_)
    · refine .s (A.ptr 0 0) (.s (A.imm (List.map (cL c8) a0.Records) false) (.s (A.ptr 1 0) (.s (A.imm (List.map (cL c8) a1.Records) false) ?_)))
      refine .bd (g := fun (y : Bool) => (bA y)) (by show C 24 [snap [Blk.box (c_S_Journal a0), Blk.box (c_S_Journal a1)] (A.imm (List.map (cL c8) a0.Records) false), snap [Blk.box (c_S_Journal a0), Blk.box (c_S_Journal a1)] (A.imm (List.map (cL c8) a1.Records) false)] = _; simp only [snap, snapW, snapWs, snapWss, snapWss_map, trim, List.map_cons, List.map_nil, fl_cI, fl_c8, fl_cB, fl_cS, fl_cL, fl_S_Journal, fl_S_Write, fl_S_Disk, snapWs_app, fq_S_Journal, fq_S_Write, fq_S_Disk]; exact h24 a0.Records a1.Records) fun y9 => ?_
      exact .lg ⟨_, _, _, _, _, rfl⟩
    exact .lg ⟨_, _, _, _, _, rfl⟩
  rintro _ y10 ⟨j11, j12, j13, j14, j15, rfl⟩
  iterate 6 refine .uc ?_
  exact .lf rfl rfl ⟨_, rfl, rfl⟩
def G14 (a0 : S_Journal) (a1 : S_Journal) : Option Bool := F14 fuel0 a0 a1
def Orc14 (C : Nat → List A → Option A) : Prop := ∀ (a0 : S_Journal) (a1 : S_Journal), C 14 [(A.agg (c_S_Journal a0)), (A.agg (c_S_Journal a1))] = (G14 a0 a1).map fun y => (bA y)
def F4 (n : Nat) (a0 : S_Journal) (a1 : (List UInt8)) : Option Bool :=
  Option.bind (G10 ) fun y1 => bif (!y1) then (some false) else (Option.bind (G11 ((S_Disk.mk ([]) ([]) 0 false)) a0.Records) fun y3 => Option.bind (bif (!y3) then (some true) else (some (decide (70000 < ((a1.length : Int)))))) fun y5 => bif y5 then (some true) else (Option.bind (G15 a0 a1) fun y10 => Option.bind (G16 a0 a1) fun y11 => Option.bind (G17 a0) fun y12 => Option.bind (G18 a0) fun y13 => Option.bind (bif (y12 == y13) then (Option.bind (G19 a0) fun y15 => Option.bind (G20 a0) fun y16 => some (y15 == y16)) else (some false)) fun y17 => Option.bind (bif y17 then (Option.bind (G14 y10.1 y11.1) fun y24 => some y24) else (some false)) fun y25 => bif y25 then (Option.bind (some (y10.2 == y11.2)) fun y30 => some y30) else (Option.bind (some false) fun y32 => some y32)))
theorem T4 (C : Nat → List A → Option A) (n : Nat) (h10 : Orc10 C) (h11 : Orc11 C) (h14 : Orc14 C) (h15 : Orc15 C) (h16 : Orc16 C) (h17 : Orc17 C) (h18 : Orc18 C) (h19 : Orc19 C) (h20 : Orc20 C) (a0 : S_Journal) (a1 : (List UInt8)) : J (fun (o : R) y => ∃ v, o.1 = .ret v ∧ snapE o.2 v = (bA y)) (evCall1 (cx C) (evCall (cx C) (n+8)) (evCallY (cx C) (n+8)) (n+8) 4 [(A.agg (c_S_Journal a0)), (A.imm (List.map c8 a1) false)] [] 0) some (F4 n a0 a1) some := by
  refine .lp (e4 ..) ?_
  unfold F4
  refine .s ((A.ptr 0 0), [Blk.box (c_S_Journal a0)]) ?_
  refine .bd (g := fun (y : Bool) => (bA y)) (h10 ()) fun y1 => ?_
  refine .s (bA (!y1)) ?_
  refine .biHN (fun hk2 => ?_) (fun hk2 => ?_)
  · exact .lf rfl rfl ⟨_, rfl, rfl⟩
  refine .s (A.agg [(A.imm [] true), (A.imm [] true), (iA 0), (bA false)]) (.s (A.ptr 0 0) (.s (A.imm (List.map (cL c8) a0.Records) false) ?_))
  refine .bd (g := fun (y : Bool) => (bA y)) (by show C 11 [snap [Blk.box (c_S_Journal a0)] (A.agg [(A.imm [] true), (A.imm [] true), (iA 0), (bA false)]), snap [Blk.box (c_S_Journal a0)] (A.imm (List.map (cL c8) a0.Records) false)] = _; simp only [snap, snapW, snapWs, snapWss, snapWss_map, trim, List.map_cons, List.map_nil, fl_cI, fl_c8, fl_cB, fl_cS, fl_cL, fl_S_Journal, fl_S_Write, fl_S_Disk, snapWs_app, fq_S_Journal, fq_S_Write, fq_S_Disk]; exact h11 ((S_Disk.mk ([]) ([]) 0 false)) a0.Records) fun y3 => ?_
  refine .s (bA (!y3)) ?_
  refine .bg (fun t (y : Bool) => ∃ j6 j7 j8 : A, t = [(bA y), j6, j7, j8]) ?_ ?_
  · refine .biH (fun hk4 => ?_) (fun hk4 => ?_)
    · exact .lg ⟨_, _, _, rfl⟩
    refine .st (v := (iA ((a1.length : Int)))) (len_imm (e := 5) (h1 := by kernel_rfl) ..) ?_
    refine .st (v := (bA (decide (70000 < ((a1.length : Int)))))) (aBin_gtr ..) ?_
    exact .lg ⟨_, _, _, rfl⟩
  rintro _ y5 ⟨j6, j7, j8, rfl⟩
  iterate 4 refine .uc ?_
  refine .biHN (fun hk9 => ?_) (fun hk9 => ?_)
  · exact .lf rfl rfl ⟨_, rfl, rfl⟩
  refine .s (A.agg (c_S_Journal a0)) ?_
  refine .bd (g := fun (y : (S_Journal × Int)) => (A.tup [(A.agg [(A.imm (List.map (cL c8) y.1.Records) false), (iA y.1.Many), (iA y.1.Synced)]), (iA y.2)])) (by show C 15 [snap [Blk.box (c_S_Journal a0)] (A.agg (c_S_Journal a0)), snap [Blk.box (c_S_Journal a0)] (A.imm (List.map c8 a1) false)] = _; simp only [snap, snapW, snapWs, snapWss, snapWss_map, trim, List.map_cons, List.map_nil, fl_cI, fl_c8, fl_cB, fl_cS, fl_cL, fl_S_Journal, fl_S_Write, fl_S_Disk, snapWs_app, fq_S_Journal, fq_S_Write, fq_S_Disk]; exact h15 a0 a1) fun y10 => ?_
  refine .s (A.agg (c_S_Journal y10.1)) (.s (iA y10.2) (.s ((A.ptr 1 0), [Blk.box (c_S_Journal a0), Blk.box [(A.imm [] true), (iA 0), (iA 0)]]) (.s [Blk.box (c_S_Journal a0), Blk.box (c_S_Journal y10.1)] (.s (A.agg (c_S_Journal a0)) ?_))))
  refine .bd (g := fun (y : (S_Journal × Int)) => (A.tup [(A.agg [(A.imm (List.map (cL c8) y.1.Records) false), (iA y.1.Many), (iA y.1.Synced)]), (iA y.2)])) (by show C 16 [snap [Blk.box (c_S_Journal a0), Blk.box (c_S_Journal y10.1)] (A.agg (c_S_Journal a0)), snap [Blk.box (c_S_Journal a0), Blk.box (c_S_Journal y10.1)] (A.imm (List.map c8 a1) false)] = _; simp only [snap, snapW, snapWs, snapWss, snapWss_map, trim, List.map_cons, List.map_nil, fl_cI, fl_c8, fl_cB, fl_cS, fl_cL, fl_S_Journal, fl_S_Write, fl_S_Disk, snapWs_app, fq_S_Journal, fq_S_Write, fq_S_Disk]; exact h16 a0 a1) fun y11 => ?_
  refine .s (A.agg (c_S_Journal y11.1)) (.s (iA y11.2) (.s ((A.ptr 2 0), [Blk.box (c_S_Journal a0), Blk.box (c_S_Journal y10.1), Blk.box [(A.imm [] true), (iA 0), (iA 0)]]) (.s [Blk.box (c_S_Journal a0), Blk.box (c_S_Journal y10.1), Blk.box (c_S_Journal y11.1)] (.s (A.agg (c_S_Journal a0)) ?_))))
  refine .bd (g := fun (y : Int) => (iA y)) (by show C 17 [snap [Blk.box (c_S_Journal a0), Blk.box (c_S_Journal y10.1), Blk.box (c_S_Journal y11.1)] (A.agg (c_S_Journal a0))] = _; simp only [snap, snapW, snapWs, snapWss, snapWss_map, trim, List.map_cons, List.map_nil, fl_cI, fl_c8, fl_cB, fl_cS, fl_cL, fl_S_Journal, fl_S_Write, fl_S_Disk, snapWs_app, fq_S_Journal, fq_S_Write, fq_S_Disk]; exact h17 a0) fun y12 => ?_
  refine .s (A.agg (c_S_Journal a0)) ?_
  refine .bd (g := fun (y : Int) => (iA y)) (by show C 18 [snap [Blk.box (c_S_Journal a0), Blk.box (c_S_Journal y10.1), Blk.box (c_S_Journal y11.1)] (A.agg (c_S_Journal a0))] = _; simp only [snap, snapW, snapWs, snapWss, snapWss_map, trim, List.map_cons, List.map_nil, fl_cI, fl_c8, fl_cB, fl_cS, fl_cL, fl_S_Journal, fl_S_Write, fl_S_Disk, snapWs_app, fq_S_Journal, fq_S_Write, fq_S_Disk]; exact h18 a0) fun y13 => ?_
  refine .st (v := (bA (y12 == y13))) (aBin_eql ..) ?_
  refine .bg (fun t (y : Bool) => ∃ j18 j19 j20 j21 j22 : A, t = [(bA y), j18, j19, j20, j21, j22]) ?_ ?_
  · refine .biH (fun hk14 => ?_) (fun hk14 => ?_)
    · refine .s (A.agg (c_S_Journal a0)) ?_
      refine .bd (g := fun (y : Int) => (iA y)) (by show C 19 [snap [Blk.box (c_S_Journal a0), Blk.box (c_S_Journal y10.1), Blk.box (c_S_Journal y11.1)] (A.agg (c_S_Journal a0))] = _; simp only [snap, snapW, snapWs, snapWss, snapWss_map, trim, List.map_cons, List.map_nil, fl_cI, fl_c8, fl_cB, fl_cS, fl_cL, fl_S_Journal, fl_S_Write, fl_S_Disk, snapWs_app, fq_S_Journal, fq_S_Write, fq_S_Disk]; exact h19 a0) fun y15 => ?_
      refine .s (A.agg (c_S_Journal a0)) ?_
      refine .bd (g := fun (y : Int) => (iA y)) (by show C 20 [snap [Blk.box (c_S_Journal a0), Blk.box (c_S_Journal y10.1), Blk.box (c_S_Journal y11.1)] (A.agg (c_S_Journal a0))] = _; simp only [snap, snapW, snapWs, snapWss, snapWss_map, trim, List.map_cons, List.map_nil, fl_cI, fl_c8, fl_cB, fl_cS, fl_cL, fl_S_Journal, fl_S_Write, fl_S_Disk, snapWs_app, fq_S_Journal, fq_S_Write, fq_S_Disk]; exact h20 a0) fun y16 => ?_
      refine .st (v := (bA (y15 == y16))) (aBin_eql ..) ?_
      exact .lg ⟨_, _, _, _, _, rfl⟩
    exact .lg ⟨_, _, _, _, _, rfl⟩
  rintro _ y17 ⟨j18, j19, j20, j21, j22, rfl⟩
  iterate 6 refine .uc ?_
  refine .bg (fun t (y : Bool) => ∃ j26 j27 j28 : A, t = [(bA y), j26, j27, j28]) ?_ ?_
  · refine .biH (fun hk23 => ?_) (fun hk23 => ?_)
    · refine .s (A.agg (c_S_Journal y10.1)) (.s (A.agg (c_S_Journal y11.1)) ?_)
      refine .bd (g := fun (y : Bool) => (bA y)) (by show C 14 [snap [Blk.box (c_S_Journal a0), Blk.box (c_S_Journal y10.1), Blk.box (c_S_Journal y11.1)] (A.agg (c_S_Journal y10.1)), snap [Blk.box (c_S_Journal a0), Blk.box (c_S_Journal y10.1), Blk.box (c_S_Journal y11.1)] (A.agg (c_S_Journal y11.1))] = _; simp only [snap, snapW, snapWs, snapWss, snapWss_map, trim, List.map_cons, List.map_nil, fl_cI, fl_c8, fl_cB, fl_cS, fl_cL, fl_S_Journal, fl_S_Write, fl_S_Disk, snapWs_app, fq_S_Journal, fq_S_Write, fq_S_Disk]; exact h14 y10.1 y11.1) fun y24 => ?_
      exact .lg ⟨_, _, _, rfl⟩
    exact .lg ⟨_, _, _, rfl⟩
  rintro _ y25 ⟨j26, j27, j28, rfl⟩
  iterate 4 refine .uc ?_
  refine .gst (fun hc29 => ?_) (fun hc29 => ?_)
  · refine .bb ?_
    refine .cr ?_
    iterate 2 refine .uc ?_
    refine .bg (fun t (y : Bool) => ∃ j31 : A, t = [(bA y), j31]) ?_ ?_
    · refine .bKT hc29 ?_
      refine .st (v := (bA (y10.2 == y11.2))) (aBin_eql ..) ?_
      exact .lg ⟨_, rfl⟩
    rintro _ y30 ⟨j31, rfl⟩
    iterate 2 refine .uc ?_
    exact .lf rfl rfl ⟨_, rfl, rfl⟩
  refine .bb ?_
  refine .cr ?_
  iterate 2 refine .uc ?_
  refine .bg (fun t (y : Bool) => ∃ j33 : A, t = [(bA y), j33]) ?_ ?_
  · refine .bKF hc29 ?_
    exact .lg ⟨_, rfl⟩
  rintro _ y32 ⟨j33, rfl⟩
  iterate 2 refine .uc ?_
  exact .lf rfl rfl ⟨_, rfl, rfl⟩
def G4 (a0 : S_Journal) (a1 : (List UInt8)) : Option Bool := F4 fuel0 a0 a1
def F6 (n : Nat) (a0 : S_Journal) (a1 : (List UInt8)) : Option Bool :=
  Option.bind (G10 ) fun y1 => bif (!y1) then (some false) else (Option.bind (G11 ((S_Disk.mk ([]) ([]) 0 false)) a0.Records) fun y3 => Option.bind (bif (!y3) then (some true) else (some (decide (70000 < ((a1.length : Int)))))) fun y5 => Option.bind (bif y5 then (some true) else (Option.bind (G17 a0) fun y10 => some (y10 != 0))) fun y11 => bif y11 then (some true) else (Option.bind (G15 a0 a1) fun y16 => Option.bind (G19 a0) fun y17 => Option.bind (bif (decide (0 < y17)) then (some (decide (((a1.length : Int)) ≤ y17))) else (some false)) fun y19 => bif ((y16.2 == 0) != y19) then (some false) else (bif (y16.2 != 0) then (Option.bind (bif (y16.2 == 2) then (some (((y16.1.Records.length : Int)) == 0)) else (some false)) fun y27 => some y27) else (Option.bind (G17 y16.1) fun y32 => Option.bind (bif (y32 == 0) then (some (y16.1.Many == a0.Many)) else (some false)) fun y34 => Option.bind (bif y34 then (some (y16.1.Synced == a0.Synced)) else (some false)) fun y41 => Option.bind (bif y41 then (some (((y16.1.Records.length : Int)) == (wr .i64 (((a0.Records.length : Int)) + 1)))) else (some false)) fun y48 => Option.bind (bif y48 then (Option.bind (subI y16.1.Records 0 ((a0.Records.length : Int))) fun y56 => Option.bind (G24 y56 a0.Records) fun y57 => some y57) else (some false)) fun y58 => Option.bind (bif y58 then (Option.bind (getI y16.1.Records ((a0.Records.length : Int))) fun y67 => some (strEq (bstr y67) (bstr a1))) else (some false)) fun y68 => bif y68 then (Option.bind (G19 y16.1) fun y79 => Option.bind (some (decide (y79 < y17))) fun y80 => some y80) else (Option.bind (some false) fun y82 => some y82)))))
theorem T6 (C : Nat → List A → Option A) (n : Nat) (h10 : Orc10 C) (h11 : Orc11 C) (h15 : Orc15 C) (h17 : Orc17 C) (h19 : Orc19 C) (h24 : Orc24 C) (a0 : S_Journal) (a1 : (List UInt8)) : J (fun (o : R) y => ∃ v, o.1 = .ret v ∧ snapE o.2 v = (bA y)) (evCall1 (cx C) (evCall (cx C) (n+8)) (evCallY (cx C) (n+8)) (n+8) 6 [(A.agg (c_S_Journal a0)), (A.imm (List.map c8 a1) false)] [] 0) some (F6 n a0 a1) some := by
  refine .lp (e6 ..) ?_
  unfold F6
  refine .s ((A.ptr 0 0), [Blk.box (c_S_Journal a0)]) ?_
  refine .bd (g := fun (y : Bool) => (bA y)) (h10 ()) fun y1 => ?_
  refine .s (bA (!y1)) ?_
  refine .biHN (fun hk2 => ?_) (fun hk2 => ?_)
  · exact .lf rfl rfl ⟨_, rfl, rfl⟩
  refine .s (A.agg [(A.imm [] true), (A.imm [] true), (iA 0), (bA false)]) (.s (A.ptr 0 0) (.s (A.imm (List.map (cL c8) a0.Records) false) ?_))
  refine .bd (g := fun (y : Bool) => (bA y)) (by show C 11 [snap [Blk.box (c_S_Journal a0)] (A.agg [(A.imm [] true), (A.imm [] true), (iA 0), (bA false)]), snap [Blk.box (c_S_Journal a0)] (A.imm (List.map (cL c8) a0.Records) false)] = _; simp only [snap, snapW, snapWs, snapWss, snapWss_map, trim, List.map_cons, List.map_nil, fl_cI, fl_c8, fl_cB, fl_cS, fl_cL, fl_S_Journal, fl_S_Write, fl_S_Disk, snapWs_app, fq_S_Journal, fq_S_Write, fq_S_Disk]; exact h11 ((S_Disk.mk ([]) ([]) 0 false)) a0.Records) fun y3 => ?_
  refine .s (bA (!y3)) ?_
  refine .bg (fun t (y : Bool) => ∃ j6 j7 j8 : A, t = [(bA y), j6, j7, j8]) ?_ ?_
  · refine .biH (fun hk4 => ?_) (fun hk4 => ?_)
    · exact .lg ⟨_, _, _, rfl⟩
    refine .st (v := (iA ((a1.length : Int)))) (len_imm (e := 5) (h1 := by kernel_rfl) ..) ?_
    refine .st (v := (bA (decide (70000 < ((a1.length : Int)))))) (aBin_gtr ..) ?_
    exact .lg ⟨_, _, _, rfl⟩
  rintro _ y5 ⟨j6, j7, j8, rfl⟩
  iterate 4 refine .uc ?_
  refine .bg (fun t (y : Bool) => ∃ j12 j13 j14 : A, t = [(bA y), j12, j13, j14]) ?_ ?_
  · refine .biH (fun hk9 => ?_) (fun hk9 => ?_)
    · exact .lg ⟨_, _, _, rfl⟩
    refine .s (A.agg (c_S_Journal a0)) ?_
    refine .bd (g := fun (y : Int) => (iA y)) (by show C 17 [snap [Blk.box (c_S_Journal a0)] (A.agg (c_S_Journal a0))] = _; simp only [snap, snapW, snapWs, snapWss, snapWss_map, trim, List.map_cons, List.map_nil, fl_cI, fl_c8, fl_cB, fl_cS, fl_cL, fl_S_Journal, fl_S_Write, fl_S_Disk, snapWs_app, fq_S_Journal, fq_S_Write, fq_S_Disk]; exact h17 a0) fun y10 => ?_
    refine .st (v := (bA (y10 != 0))) (aBin_neq ..) ?_
    exact .lg ⟨_, _, _, rfl⟩
  rintro _ y11 ⟨j12, j13, j14, rfl⟩
  iterate 4 refine .uc ?_
  refine .biHN (fun hk15 => ?_) (fun hk15 => ?_)
  · exact .lf rfl rfl ⟨_, rfl, rfl⟩
  refine .s (A.agg (c_S_Journal a0)) ?_
  refine .bd (g := fun (y : (S_Journal × Int)) => (A.tup [(A.agg [(A.imm (List.map (cL c8) y.1.Records) false), (iA y.1.Many), (iA y.1.Synced)]), (iA y.2)])) (by show C 15 [snap [Blk.box (c_S_Journal a0)] (A.agg (c_S_Journal a0)), snap [Blk.box (c_S_Journal a0)] (A.imm (List.map c8 a1) false)] = _; simp only [snap, snapW, snapWs, snapWss, snapWss_map, trim, List.map_cons, List.map_nil, fl_cI, fl_c8, fl_cB, fl_cS, fl_cL, fl_S_Journal, fl_S_Write, fl_S_Disk, snapWs_app, fq_S_Journal, fq_S_Write, fq_S_Disk]; exact h15 a0 a1) fun y16 => ?_
  refine .s (A.agg (c_S_Journal y16.1)) (.s (iA y16.2) (.s ((A.ptr 1 0), [Blk.box (c_S_Journal a0), Blk.box [(A.imm [] true), (iA 0), (iA 0)]]) (.s [Blk.box (c_S_Journal a0), Blk.box (c_S_Journal y16.1)] (.s (A.agg (c_S_Journal a0)) ?_))))
  refine .bd (g := fun (y : Int) => (iA y)) (by show C 19 [snap [Blk.box (c_S_Journal a0), Blk.box (c_S_Journal y16.1)] (A.agg (c_S_Journal a0))] = _; simp only [snap, snapW, snapWs, snapWss, snapWss_map, trim, List.map_cons, List.map_nil, fl_cI, fl_c8, fl_cB, fl_cS, fl_cL, fl_S_Journal, fl_S_Write, fl_S_Disk, snapWs_app, fq_S_Journal, fq_S_Write, fq_S_Disk]; exact h19 a0) fun y17 => ?_
  refine .st (v := (bA (y16.2 == 0))) (aBin_eql ..) ?_
  refine .st (v := (bA (decide (0 < y17)))) (aBin_gtr ..) ?_
  refine .bg (fun t (y : Bool) => ∃ j20 j21 j22 j23 : A, t = [(bA y), j20, j21, j22, j23]) ?_ ?_
  · refine .biH (fun hk18 => ?_) (fun hk18 => ?_)
    · refine .st (v := (iA ((a1.length : Int)))) (len_imm (e := 5) (h1 := by kernel_rfl) ..) ?_
      refine .st (v := (bA (decide (((a1.length : Int)) ≤ y17)))) (aBin_leq ..) ?_
      exact .lg ⟨_, _, _, _, rfl⟩
    exact .lg ⟨_, _, _, _, rfl⟩
  rintro _ y19 ⟨j20, j21, j22, j23, rfl⟩
  iterate 5 refine .uc ?_
  refine .s (bA ((y16.2 == 0) != y19)) ?_
  refine .biHN (fun hk24 => ?_) (fun hk24 => ?_)
  · exact .lf rfl rfl ⟨_, rfl, rfl⟩
  refine .st (v := (bA (y16.2 != 0))) (aBin_neq ..) ?_
  refine .biHN (fun hk25 => ?_) (fun hk25 => ?_)
  · refine .st (v := (bA (y16.2 == 2))) (aBin_eql ..) ?_
    refine .bg (fun t (y : Bool) => ∃ j28 j29 j30 j31 : A, t = [(bA y), j28, j29, j30, j31]) ?_ ?_
    · refine .biH (fun hk26 => ?_) (fun hk26 => ?_)
      · refine .s (A.ptr 1 0) (.s (A.imm (List.map (cL c8) y16.1.Records) false) ?_)
        refine .st (v := (iA ((y16.1.Records.length : Int)))) (len_imm (e := 35) (h1 := by kernel_rfl) ..) ?_
        refine .st (v := (bA (((y16.1.Records.length : Int)) == 0))) (aBin_eql ..) ?_
        exact .lg ⟨_, _, _, _, rfl⟩
      exact .lg ⟨_, _, _, _, rfl⟩
    rintro _ y27 ⟨j28, j29, j30, j31, rfl⟩
    iterate 5 refine .uc ?_
    exact .lf rfl rfl ⟨_, rfl, rfl⟩
  refine .s (A.ptr 0 0) (.s (A.imm (List.map (cL c8) a0.Records) false) ?_)
  refine .st (v := (iA ((a0.Records.length : Int)))) (len_imm (e := 35) (h1 := by kernel_rfl) ..) ?_
  refine .s (A.agg (c_S_Journal y16.1)) ?_
  refine .bd (g := fun (y : Int) => (iA y)) (by show C 17 [snap [Blk.box (c_S_Journal a0), Blk.box (c_S_Journal y16.1)] (A.agg (c_S_Journal y16.1))] = _; simp only [snap, snapW, snapWs, snapWss, snapWss_map, trim, List.map_cons, List.map_nil, fl_cI, fl_c8, fl_cB, fl_cS, fl_cL, fl_S_Journal, fl_S_Write, fl_S_Disk, snapWs_app, fq_S_Journal, fq_S_Write, fq_S_Disk]; exact h17 y16.1) fun y32 => ?_
  refine .st (v := (bA (y32 == 0))) (aBin_eql ..) ?_
  refine .bg (fun t (y : Bool) => ∃ j35 j36 j37 j38 j39 : A, t = [(bA y), j35, j36, j37, j38, j39]) ?_ ?_
  · refine .biH (fun hk33 => ?_) (fun hk33 => ?_)
    · refine .s (A.ptr 1 1) (.s (iA y16.1.Many) (.s (A.ptr 0 1) (.s (iA a0.Many) ?_)))
      refine .st (v := (bA (y16.1.Many == a0.Many))) (aBin_eql ..) ?_
      exact .lg ⟨_, _, _, _, _, rfl⟩
    exact .lg ⟨_, _, _, _, _, rfl⟩
  rintro _ y34 ⟨j35, j36, j37, j38, j39, rfl⟩
  iterate 6 refine .uc ?_
  refine .bg (fun t (y : Bool) => ∃ j42 j43 j44 j45 j46 : A, t = [(bA y), j42, j43, j44, j45, j46]) ?_ ?_
  · refine .biH (fun hk40 => ?_) (fun hk40 => ?_)
    · refine .s (A.ptr 1 2) (.s (iA y16.1.Synced) (.s (A.ptr 0 2) (.s (iA a0.Synced) ?_)))
      refine .st (v := (bA (y16.1.Synced == a0.Synced))) (aBin_eql ..) ?_
      exact .lg ⟨_, _, _, _, _, rfl⟩
    exact .lg ⟨_, _, _, _, _, rfl⟩
  rintro _ y41 ⟨j42, j43, j44, j45, j46, rfl⟩
  iterate 6 refine .uc ?_
  refine .bg (fun t (y : Bool) => ∃ j49 j50 j51 j52 j53 j54 : A, t = [(bA y), j49, j50, j51, j52, j53, j54]) ?_ ?_
  · refine .biH (fun hk47 => ?_) (fun hk47 => ?_)
    · refine .s (A.ptr 1 0) (.s (A.imm (List.map (cL c8) y16.1.Records) false) ?_)
      refine .st (v := (iA ((y16.1.Records.length : Int)))) (len_imm (e := 35) (h1 := by kernel_rfl) ..) ?_
      refine .st (v := (iA (wr .i64 (((a0.Records.length : Int)) + 1)))) (aBin_add ..) ?_
      refine .st (v := (bA (((y16.1.Records.length : Int)) == (wr .i64 (((a0.Records.length : Int)) + 1))))) (aBin_eql ..) ?_
      exact .lg ⟨_, _, _, _, _, _, rfl⟩
    exact .lg ⟨_, _, _, _, _, _, rfl⟩
  rintro _ y48 ⟨j49, j50, j51, j52, j53, j54, rfl⟩
  iterate 7 refine .uc ?_
  refine .bg (fun t (y : Bool) => ∃ j59 j60 j61 j62 j63 j64 j65 : A, t = [(bA y), j59, j60, j61, j62, j63, j64, j65]) ?_ ?_
  · refine .biH (fun hk55 => ?_) (fun hk55 => ?_)
    · refine .s (A.ptr 1 0) (.s (A.imm (List.map (cL c8) y16.1.Records) false) ?_)
      refine .bd (g := fun (y : List (List UInt8)) => (A.imm (List.map (cL c8) y) false)) (cut_imm (e := 35) (es := 1) (f := (cL c8)) (l := y16.1.Records) (a := 0) (b := (a0.Records.length : Int)) (by kernel_rfl) (by kernel_rfl) (fun _ => rfl) (.inl ⟨rfl, rfl⟩) (.inr ⟨_, rfl⟩)) fun y56 => ?_
      refine .s (A.ptr 0 0) (.s (A.imm (List.map (cL c8) a0.Records) false) ?_)
      refine .bd (g := fun (y : Bool) => (bA y)) (by show C 24 [snap [Blk.box (c_S_Journal a0), Blk.box (c_S_Journal y16.1)] (A.imm (List.map (cL c8) y56) false), snap [Blk.box (c_S_Journal a0), Blk.box (c_S_Journal y16.1)] (A.imm (List.map (cL c8) a0.Records) false)] = _; simp only [snap, snapW, snapWs, snapWss, snapWss_map, trim, List.map_cons, List.map_nil, fl_cI, fl_c8, fl_cB, fl_cS, fl_cL, fl_S_Journal, fl_S_Write, fl_S_Disk, snapWs_app, fq_S_Journal, fq_S_Write, fq_S_Disk]; exact h24 y56 a0.Records) fun y57 => ?_
      exact .lg ⟨_, _, _, _, _, _, _, rfl⟩
    exact .lg ⟨_, _, _, _, _, _, _, rfl⟩
  rintro _ y58 ⟨j59, j60, j61, j62, j63, j64, j65, rfl⟩
  iterate 8 refine .uc ?_
  refine .bg (fun t (y : Bool) => ∃ j69 j70 j71 j72 j73 j74 j75 j76 j77 : A, t = [(bA y), j69, j70, j71, j72, j73, j74, j75, j76, j77]) ?_ ?_
  · refine .biH (fun hk66 => ?_) (fun hk66 => ?_)
    · refine .s (A.ptr 1 0) (.s (A.imm (List.map (cL c8) y16.1.Records) false) ?_)
      refine .bd (g := fun (y : (List UInt8)) => A.ip ((cL c8) y)) (idx_imm (e := 35) (es := 1) (h1 := by kernel_rfl) (h2 := by kernel_rfl) (h3 := fun _ => rfl) ..) fun y67 => ?_
      refine .s (A.imm (List.map c8 y67) false) ?_
      refine .st (v := (A.v (Value.string (bstr y67)))) (conv_bs (e := 5) (l := y67) (by kernel_rfl) (by kernel_rfl) (by kernel_rfl) (by kernel_rfl) (els_imm ..) rfl) ?_
      refine .st (v := (A.v (Value.string (bstr a1)))) (conv_bs (e := 5) (l := a1) (by kernel_rfl) (by kernel_rfl) (by kernel_rfl) (by kernel_rfl) (els_imm ..) rfl) ?_
      refine .st (v := (bA (strEq (bstr y67) (bstr a1)))) (aBin_eql_s ..) ?_
      exact .lg ⟨_, _, _, _, _, _, _, _, _, rfl⟩
    exact .lg ⟨_, _, _, _, _, _, _, _, _, rfl⟩
  rintro _ y68 ⟨j69, j70, j71, j72, j73, j74, j75, j76, j77, rfl⟩
  iterate 10 refine .uc ?_
  refine .gst (fun hc78 => ?_) (fun hc78 => ?_)
  · refine .bb ?_
    refine .s (A.agg (c_S_Journal y16.1)) ?_
    refine .bd (g := fun (y : Int) => (iA y)) (by show C 19 [snap [Blk.box (c_S_Journal a0), Blk.box (c_S_Journal y16.1)] (A.agg (c_S_Journal y16.1))] = _; simp only [snap, snapW, snapWs, snapWss, snapWss_map, trim, List.map_cons, List.map_nil, fl_cI, fl_c8, fl_cB, fl_cS, fl_cL, fl_S_Journal, fl_S_Write, fl_S_Disk, snapWs_app, fq_S_Journal, fq_S_Write, fq_S_Disk]; exact h19 y16.1) fun y79 => ?_
    refine .cr ?_
    iterate 3 refine .uc ?_
    refine .bg (fun t (y : Bool) => ∃ j81 : A, t = [(bA y), j81]) ?_ ?_
    · refine .bKT hc78 ?_
      refine .st (v := (bA (decide (y79 < y17)))) (aBin_lss ..) ?_
      exact .lg ⟨_, rfl⟩
    rintro _ y80 ⟨j81, rfl⟩
    iterate 2 refine .uc ?_
    exact .lf rfl rfl ⟨_, rfl, rfl⟩
  refine .bb ?_
  refine .cr ?_
  iterate 3 refine .uc ?_
  refine .bg (fun t (y : Bool) => ∃ j83 : A, t = [(bA y), j83]) ?_ ?_
  · refine .bKF hc78 ?_
    exact .lg ⟨_, rfl⟩
  rintro _ y82 ⟨j83, rfl⟩
  iterate 2 refine .uc ?_
  exact .lf rfl rfl ⟨_, rfl, rfl⟩
def G6 (a0 : S_Journal) (a1 : (List UInt8)) : Option Bool := F6 fuel0 a0 a1
end Go.Proofs.Ytobjniabioaefaa
