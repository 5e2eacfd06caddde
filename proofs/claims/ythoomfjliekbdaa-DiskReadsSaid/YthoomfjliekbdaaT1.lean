/-
  The program's functions as plain functions: by a tool; each follows the interpreter.
-/
import Derived.Test.YthoomfjliekbdaaE
import Derived.KernelRfl
namespace Go.Proofs.Ythoomfjliekbdaa
set_option linter.unusedVariables false
set_option linter.unusedSimpArgs false
set_option maxHeartbeats 4000000
set_option maxRecDepth 100000
structure S_Write where
  At : Int
  Data : (List UInt8)
  deriving DecidableEq, Inhabited
def c_S_Write (x : S_Write) : List A := [(A.v (Value.int .i64 x.At)), (A.imm (List.map c8 x.Data) false)]
theorem ce_S_Write : CellF c_S_Write := fun _ => rfl
theorem fu_S_Write : FlatU c_S_Write := fun _ _ => by simp only [c_S_Write, unders, A.under, underss_map, fu_cI, fu_c8, fu_cB, fu_cS, fu_cL, Bool.and_true, Bool.true_and]
theorem fl_S_Write : FlatS c_S_Write := fun _ _ => by simp only [c_S_Write, snapW, snapWs, snapWss_map, fl_cI, fl_c8, fl_cB, fl_cS, fl_cL]
structure S_Disk where
  Sectors : (List (List UInt8))
  Pending : (List S_Write)
  Left : Int
  Stopped : Bool
  deriving DecidableEq, Inhabited
def c_S_Disk (x : S_Disk) : List A := [(A.imm (List.map (cL c8) x.Sectors) false), (A.imm (List.map c_S_Write x.Pending) false), (A.v (Value.int .i64 x.Left)), (A.v (Value.bool x.Stopped))]
theorem ce_S_Disk : CellF c_S_Disk := fun _ => rfl
theorem fu_S_Disk : FlatU c_S_Disk := fun _ _ => by simp only [c_S_Disk, unders, A.under, underss_map, fu_cI, fu_c8, fu_cB, fu_cS, fu_cL, Bool.and_true, Bool.true_and, fu_S_Write]
theorem fl_S_Disk : FlatS c_S_Disk := fun _ _ => by simp only [c_S_Disk, snapW, snapWs, snapWss_map, fl_cI, fl_c8, fl_cB, fl_cS, fl_cL, fl_S_Write]
structure S_kinespherelaw04_Act where
  Sync : Bool
  At : Int
  Byte : Int
  deriving DecidableEq, Inhabited
def c_S_kinespherelaw04_Act (x : S_kinespherelaw04_Act) : List A := [(A.v (Value.bool x.Sync)), (A.v (Value.int .u8 x.At)), (A.v (Value.int .u8 x.Byte))]
theorem ce_S_kinespherelaw04_Act : CellF c_S_kinespherelaw04_Act := fun _ => rfl
theorem fu_S_kinespherelaw04_Act : FlatU c_S_kinespherelaw04_Act := fun _ _ => by simp only [c_S_kinespherelaw04_Act, unders, A.under, underss_map, fu_cI, fu_c8, fu_cB, fu_cS, fu_cL, Bool.and_true, Bool.true_and, fu_S_Write, fu_S_Disk]
theorem fl_S_kinespherelaw04_Act : FlatS c_S_kinespherelaw04_Act := fun _ _ => by simp only [c_S_kinespherelaw04_Act, snapW, snapWs, snapWss_map, fl_cI, fl_c8, fl_cB, fl_cS, fl_cL, fl_S_Write, fl_S_Disk]

def F48 (n : Nat) (a0 : Int) (a1 : Int) : Option (Int × Int) :=
  some ((wr .u64 ((wr .u64 ((wr .u64 ((shrI .u64 a0 32) * (shrI .u64 a1 32))) + (shrI .u64 (wr .u64 ((wr .u64 ((shrI .u64 a0 32) * (andI .u64 a1 4294967295))) + (shrI .u64 (wr .u64 ((andI .u64 a0 4294967295) * (andI .u64 a1 4294967295))) 32))) 32))) + (shrI .u64 (wr .u64 ((andI .u64 (wr .u64 ((wr .u64 ((shrI .u64 a0 32) * (andI .u64 a1 4294967295))) + (shrI .u64 (wr .u64 ((andI .u64 a0 4294967295) * (andI .u64 a1 4294967295))) 32))) 4294967295) + (wr .u64 ((andI .u64 a0 4294967295) * (shrI .u64 a1 32))))) 32)), wr .u64 (a0 * a1)))

theorem T48 (C : Nat → List A → Option A) (n : Nat) (a0 : Int) (a1 : Int) : J (fun (o : R) y => ∃ v, o.1 = .ret v ∧ snapE o.2 v = (A.tup [(A.v (Value.int .u64 y.1)), (A.v (Value.int .u64 y.2))])) (evCall1 (cx C) (evCall (cx C) (n+8)) (evCallY (cx C) (n+8)) (n+8) 48 [(A.v (Value.int .u64 a0)), (A.v (Value.int .u64 a1))] [] 0) some (F48 n a0 a1) some := by
  refine .lp (e48 ..) ?_
  unfold F48
  refine .st (v := (A.v (Value.int .u64 (andI .u64 a0 4294967295)))) (aBin_bits_and ..) ?_
  refine .st (v := (A.v (Value.int .u64 (shrI .u64 a0 32)))) (aBin_shr (hb := by decide) ..) ?_
  refine .st (v := (A.v (Value.int .u64 (andI .u64 a1 4294967295)))) (aBin_bits_and ..) ?_
  refine .st (v := (A.v (Value.int .u64 (shrI .u64 a1 32)))) (aBin_shr (hb := by decide) ..) ?_
  refine .st (v := (A.v (Value.int .u64 (wr .u64 ((andI .u64 a0 4294967295) * (andI .u64 a1 4294967295)))))) (aBin_mul ..) ?_
  refine .st (v := (A.v (Value.int .u64 (wr .u64 ((shrI .u64 a0 32) * (andI .u64 a1 4294967295)))))) (aBin_mul ..) ?_
  refine .st (v := (A.v (Value.int .u64 (shrI .u64 (wr .u64 ((andI .u64 a0 4294967295) * (andI .u64 a1 4294967295))) 32)))) (aBin_shr (hb := by decide) ..) ?_
  refine .st (v := (A.v (Value.int .u64 (wr .u64 ((wr .u64 ((shrI .u64 a0 32) * (andI .u64 a1 4294967295))) + (shrI .u64 (wr .u64 ((andI .u64 a0 4294967295) * (andI .u64 a1 4294967295))) 32)))))) (aBin_add ..) ?_
  refine .st (v := (A.v (Value.int .u64 (andI .u64 (wr .u64 ((wr .u64 ((shrI .u64 a0 32) * (andI .u64 a1 4294967295))) + (shrI .u64 (wr .u64 ((andI .u64 a0 4294967295) * (andI .u64 a1 4294967295))) 32))) 4294967295)))) (aBin_bits_and ..) ?_
  refine .st (v := (A.v (Value.int .u64 (shrI .u64 (wr .u64 ((wr .u64 ((shrI .u64 a0 32) * (andI .u64 a1 4294967295))) + (shrI .u64 (wr .u64 ((andI .u64 a0 4294967295) * (andI .u64 a1 4294967295))) 32))) 32)))) (aBin_shr (hb := by decide) ..) ?_
  refine .st (v := (A.v (Value.int .u64 (wr .u64 ((andI .u64 a0 4294967295) * (shrI .u64 a1 32)))))) (aBin_mul ..) ?_
  refine .st (v := (A.v (Value.int .u64 (wr .u64 ((andI .u64 (wr .u64 ((wr .u64 ((shrI .u64 a0 32) * (andI .u64 a1 4294967295))) + (shrI .u64 (wr .u64 ((andI .u64 a0 4294967295) * (andI .u64 a1 4294967295))) 32))) 4294967295) + (wr .u64 ((andI .u64 a0 4294967295) * (shrI .u64 a1 32)))))))) (aBin_add ..) ?_
  refine .st (v := (A.v (Value.int .u64 (wr .u64 ((shrI .u64 a0 32) * (shrI .u64 a1 32)))))) (aBin_mul ..) ?_
  refine .st (v := (A.v (Value.int .u64 (wr .u64 ((wr .u64 ((shrI .u64 a0 32) * (shrI .u64 a1 32))) + (shrI .u64 (wr .u64 ((wr .u64 ((shrI .u64 a0 32) * (andI .u64 a1 4294967295))) + (shrI .u64 (wr .u64 ((andI .u64 a0 4294967295) * (andI .u64 a1 4294967295))) 32))) 32)))))) (aBin_add ..) ?_
  refine .st (v := (A.v (Value.int .u64 (shrI .u64 (wr .u64 ((andI .u64 (wr .u64 ((wr .u64 ((shrI .u64 a0 32) * (andI .u64 a1 4294967295))) + (shrI .u64 (wr .u64 ((andI .u64 a0 4294967295) * (andI .u64 a1 4294967295))) 32))) 4294967295) + (wr .u64 ((andI .u64 a0 4294967295) * (shrI .u64 a1 32))))) 32)))) (aBin_shr (hb := by decide) ..) ?_
  refine .st (v := (A.v (Value.int .u64 (wr .u64 ((wr .u64 ((wr .u64 ((shrI .u64 a0 32) * (shrI .u64 a1 32))) + (shrI .u64 (wr .u64 ((wr .u64 ((shrI .u64 a0 32) * (andI .u64 a1 4294967295))) + (shrI .u64 (wr .u64 ((andI .u64 a0 4294967295) * (andI .u64 a1 4294967295))) 32))) 32))) + (shrI .u64 (wr .u64 ((andI .u64 (wr .u64 ((wr .u64 ((shrI .u64 a0 32) * (andI .u64 a1 4294967295))) + (shrI .u64 (wr .u64 ((andI .u64 a0 4294967295) * (andI .u64 a1 4294967295))) 32))) 4294967295) + (wr .u64 ((andI .u64 a0 4294967295) * (shrI .u64 a1 32))))) 32)))))) (aBin_add ..) ?_
  refine .st (v := (A.v (Value.int .u64 (wr .u64 (a0 * a1))))) (aBin_mul ..) ?_
  exact .lf rfl rfl ⟨_, rfl, rfl⟩

def G48 (a0 : Int) (a1 : Int) : Option (Int × Int) := F48 fuel0 a0 a1

def Orc48 (C : Nat → List A → Option A) : Prop := ∀ (a0 : Int) (a1 : Int), C 48 [(A.v (Value.int .u64 a0)), (A.v (Value.int .u64 a1))] = (G48 a0 a1).map fun y => (A.tup [(A.v (Value.int .u64 y.1)), (A.v (Value.int .u64 y.2))])

def F42 (n : Nat) (a0 : Int) (a1 : Int) : Option (Int × Int) :=
  Option.bind (G48 a0 a1) fun y1 => some ((y1.1, y1.2))

theorem T42 (C : Nat → List A → Option A) (n : Nat) (h48 : Orc48 C) (a0 : Int) (a1 : Int) : J (fun (o : R) y => ∃ v, o.1 = .ret v ∧ snapE o.2 v = (A.tup [(A.v (Value.int .u64 y.1)), (A.v (Value.int .u64 y.2))])) (evCall1 (cx C) (evCall (cx C) (n+8)) (evCallY (cx C) (n+8)) (n+8) 42 [(A.v (Value.int .u64 a0)), (A.v (Value.int .u64 a1))] [] 0) some (F42 n a0 a1) some := by
  refine .lp (e42 ..) ?_
  unfold F42
  refine .bd (g := fun (y : (Int × Int)) => (A.tup [(A.v (Value.int .u64 y.1)), (A.v (Value.int .u64 y.2))])) (h48 a0 a1) fun y1 => ?_
  refine .st (v := (A.v (Value.int .u64 y1.1))) (by kernel_rfl) ?_
  refine .st (v := (A.v (Value.int .u64 y1.2))) (by kernel_rfl) ?_
  exact .lf rfl rfl ⟨_, rfl, rfl⟩

def G42 (a0 : Int) (a1 : Int) : Option (Int × Int) := F42 fuel0 a0 a1

def Orc42 (C : Nat → List A → Option A) : Prop := ∀ (a0 : Int) (a1 : Int), C 42 [(A.v (Value.int .u64 a0)), (A.v (Value.int .u64 a1))] = (G42 a0 a1).map fun y => (A.tup [(A.v (Value.int .u64 y.1)), (A.v (Value.int .u64 y.2))])

def F29_29_0 (n : Nat) (v9 : (List (List UInt8))) (v10 : Nat) : Nat → Int → (List (List UInt8)) → Option (Nat × (List (List UInt8)))
  | 0, _, _ => none
  | m + 1, v11, v12 => bif (decide (v11 < ((v10 : Int)))) then (Option.bind (subN v10 v11 (((v10 : Nat) : Int))) fun k14 => Option.bind (subN v10 0 v11) fun k15 => F29_29_0 n v9 v10 m (wr .i64 (v11 + (((min ((List.take k15.2 (List.drop k15.1 v12))).length k14.2 : Nat) : Int)))) ((copyI v12 k14.1 k14.2 ((List.take k15.2 (List.drop k15.1 v12)))))) else (some ((v10, v12)))

theorem T29_29_0 (C : Nat → List A → Option A) (n : Nat) (h42 : Orc42 C) (v9 : (List (List UInt8))) (v10 : Nat) {ρ γ : Type} {φ : ρ → γ → Prop} {kL : R → Option ρ} {K : (Nat × (List (List UInt8))) → Option γ} (kx kg : Nat → St → Option R) (kr : St → Option R) (kp : A → St → Option R) (x0 : ∀ (o0 : Nat) (o1 : (List (List UInt8))) (s4 : A) (s8 : A), J φ (kx 0 (St.mk [(4, s4), (7, (A.sl 0 0 o0 false)), (8, s8)] [Blk.row true 1 (List.map (cL c8) o1)])) kL (K (o0, o1)) some) :
    ∀ (m : Nat) (v11 : Int) (v12 : (List (List UInt8))), J φ (loopR (cx C) (evCall (cx C) (n+8)) (evCallY (cx C) (n+8)) (n+8) 29 0 0 1 kx kg kr kp m (St.mk [(4, (A.imm (List.map (cL c8) v9) true)), (7, (A.sl 0 0 v10 false)), (8, (A.v (Value.int .i64 v11)))] [Blk.row true 1 (List.map (cL c8) v12)])) kL (F29_29_0 n v9 v10 m v11 v12) K := by
  intro m
  induction m with
  | zero => intros; exact .nn
  | succ m ih =>
    intro v11 v12
    refine .lp (e29_0 ..) ?_
    unfold F29_29_0
    refine .st (v := (A.v (Value.int .i64 ((v10 : Int))))) (row_len (e := 35) (by kernel_rfl) rfl rfl) ?_
    refine .st (v := (A.v (Value.bool (decide (v11 < ((v10 : Int))))))) (aBin_lss ..) ?_
    refine .biHN (fun hk13 => ?_) (fun hk13 => ?_)
    · refine .bd (g := fun (y : Nat × Nat) => (A.sl 0 y.1 y.2 false)) (wrow_cut0 (e := 35) (es := 1) (p := v11) (q := ((v10 : Nat) : Int)) (by kernel_rfl) (by kernel_rfl) rfl (.inr ⟨_, rfl⟩) (.inl ⟨rfl, rfl⟩)) fun k14 => ?_
      refine .bd (g := fun (y : Nat × Nat) => (A.sl 0 y.1 y.2 false)) (wrow_cut0 (e := 35) (es := 1) (p := 0) (q := v11) (by kernel_rfl) (by kernel_rfl) rfl (.inl ⟨rfl, rfl⟩) (.inr ⟨_, rfl⟩)) fun k15 => ?_
      refine .st (v := ((A.v (Value.int .i64 (((min ((List.take k15.2 (List.drop k15.1 v12))).length k14.2 : Nat) : Int)))), [Blk.row true 1 (List.map (cL c8) ((copyI v12 k14.1 k14.2 ((List.take k15.2 (List.drop k15.1 v12))))))])) (wrow_copy (e := 35) (es := 1) (f := (cL c8)) (l := v12) (l2 := (List.take k15.2 (List.drop k15.1 v12))) (by kernel_rfl) (by kernel_rfl) (by decide) (fun _ => rfl) ce_cL (by decide) rfl (els_sub _ rfl)) ?_
      refine .st (v := (A.v (Value.int .i64 (wr .i64 (v11 + (((min ((List.take k15.2 (List.drop k15.1 v12))).length k14.2 : Nat) : Int))))))) (aBin_add ..) ?_
      refine .st (v := [Blk.row true 1 (List.map (cL c8) ((copyI v12 k14.1 k14.2 ((List.take k15.2 (List.drop k15.1 v12))))))]) (by kernel_rfl) ?_
      refine .cT (by kernel_rfl) ?_
      exact ih _ _
    · exact .ex (x0 _ _ _ _)

def F29 (n : Nat) (a0 : (List (List UInt8))) (a1 : Int) : Option (List (List UInt8)) :=
  bif (decide (a1 < 0)) then (none) else (Option.bind (G42 (wr .u64 ((a0.length : Int))) (wr .u64 (a1))) fun y2 => Option.bind (bif (decide (0 < y2.1)) then (some true) else (some (decide (9223372036854775807 < y2.2)))) fun y4 => bif y4 then (none) else (Option.bind (mkI 24 (wr .i64 (y2.2)) ([])) fun y8 => Option.bind (F29_29_0 n ([]) y8.length (n+8) (((min a0.length y8.length : Nat) : Int)) ((copyI y8 0 y8.length a0))) fun o16 => match o16 with | (y17, y18) => some ((List.take y17 (List.drop 0 y18)))))

theorem T29 (C : Nat → List A → Option A) (n : Nat) (h42 : Orc42 C) (a0 : (List (List UInt8))) (a1 : Int) : J (fun (o : R) y => ∃ v, o.1 = .ret v ∧ snapE o.2 v = (A.imm (List.map (cL c8) y) false)) (evCall1 (cx C) (evCall (cx C) (n+8)) (evCallY (cx C) (n+8)) (n+8) 29 [(A.imm (List.map (cL c8) a0) false), (A.v (Value.int .i64 a1))] [] 0) some (F29 n a0 a1) some := by
  refine .lp (e29 ..) ?_
  unfold F29
  refine .st (v := (A.v (Value.bool (decide (a1 < 0))))) (aBin_lss ..) ?_
  refine .biHN (fun hk1 => ?_) (fun hk1 => ?_)
  · refine .st (v := (A.ifc 9 (A.v (Value.string ((ByteArray.mk #[99, 97, 110, 110, 111, 116, 32, 98, 101, 32, 110, 101, 103, 97, 116, 105, 118, 101])))))) (by kernel_rfl) ?_
    exact .nn
  · refine .st (v := (A.v (Value.int .i64 ((a0.length : Int))))) (len_imm (e := 35) (h1 := by kernel_rfl) ..) ?_
    refine .st (v := (A.v (Value.int .u64 (wr .u64 ((a0.length : Int)))))) (aConvert_int (hs := by kernel_rfl) (hd := by kernel_rfl) ..) ?_
    refine .st (v := (A.v (Value.int .u64 (wr .u64 (a1))))) (aConvert_int (hs := by kernel_rfl) (hd := by kernel_rfl) ..) ?_
    refine .bd (g := fun (y : (Int × Int)) => (A.tup [(A.v (Value.int .u64 y.1)), (A.v (Value.int .u64 y.2))])) (h42 (wr .u64 ((a0.length : Int))) (wr .u64 (a1))) fun y2 => ?_
    refine .st (v := (A.v (Value.int .u64 y2.1))) (by kernel_rfl) ?_
    refine .st (v := (A.v (Value.int .u64 y2.2))) (by kernel_rfl) ?_
    refine .st (v := (A.v (Value.bool (decide (0 < y2.1))))) (aBin_gtr ..) ?_
    refine .bg (fun t (y : Bool) => ∃ j5 j6 : A, t = [(A.v (Value.bool y)), j5, j6]) ?_ ?_
    · refine .biH (fun hk3 => ?_) (fun hk3 => ?_)
      · exact .lg ⟨_, _, rfl⟩
      · refine .st (v := (A.v (Value.bool (decide (9223372036854775807 < y2.2))))) (aBin_gtr ..) ?_
        exact .lg ⟨_, _, rfl⟩
    rintro _ y4 ⟨j5, j6, rfl⟩
    iterate 3 refine .uc ?_
    refine .biHN (fun hk7 => ?_) (fun hk7 => ?_)
    · refine .st (v := (A.ifc 9 (A.v (Value.string ((ByteArray.mk #[116, 104, 101, 32, 114, 101, 115, 117, 108, 116, 32, 111, 102, 32, 40, 108, 101, 110, 40, 120, 41, 32, 42, 32, 99, 111, 117, 110, 116, 41, 32, 111, 118, 101, 114, 102, 108, 111, 119, 115])))))) (by kernel_rfl) ?_
      exact .nn
    · refine .st (v := (A.v (Value.int .i64 (wr .i64 (y2.2))))) (aConvert_int (hs := by kernel_rfl) (hd := by kernel_rfl) ..) ?_
      refine .bd (g := fun (y : List (List UInt8)) => ((A.sl 0 0 y.length false), [Blk.row true 1 (List.map (cL c8) y)])) (wrow_make (e := 35) (es := 1) (f := (cL c8)) (z := []) (z' := [(A.imm [] true)]) (by kernel_rfl) (by kernel_rfl) (by kernel_rfl) (by kernel_rfl) rfl (by decide) (fun _ => rfl)) fun y8 => ?_
      refine .st (v := ((A.v (Value.int .i64 (((min a0.length y8.length : Nat) : Int)))), [Blk.row true 1 (List.map (cL c8) ((copyI y8 0 y8.length a0)))])) (wrow_copy (e := 35) (es := 1) (f := (cL c8)) (l := y8) (l2 := a0) (by kernel_rfl) (by kernel_rfl) (by decide) (fun _ => rfl) ce_cL (by decide) rfl (els_imm ..)) ?_
      refine .as (T29_29_0 C n h42 ([]) y8.length _ _ _ _ ?_ _ (((min a0.length y8.length : Nat) : Int)) ((copyI y8 0 y8.length a0)))
      · intro y17 y18 j19 j20
        refine .un rfl ?_
        refine .cT (by kernel_rfl) ?_
        exact .lf rfl rfl ⟨_, rfl, by show snapE [Blk.row true 1 (List.map (cL c8) y18)] (A.sl 0 0 y17 false) = _; first | (simp only [snap, snapW, snapWs, snapWss, snapWss_map, trim, List.map_cons, List.map_nil, fl_cI, fl_c8, fl_cB, fl_cS, fl_cL, fl_S_Write, fl_S_Disk, fl_S_kinespherelaw04_Act, snapE, snapGE_sub (H := [Blk.row true 1 (List.map (cL c8) y18)]) (b := 0) (es := 1) (wr := true) (l := y18) (fl_cL fl_c8) rfl]; done) | (simp only [snap, snapW, snapWs, snapWss, snapWss_map, trim, fl_cI, fl_c8, fl_cB, fl_cS, fl_cL, fl_S_Write, fl_S_Disk, fl_S_kinespherelaw04_Act, snapE, snapGE_sub (H := [Blk.row true 1 (List.map (cL c8) y18)]) (b := 0) (es := 1) (wr := true) (l := y18) (fl_cL fl_c8) rfl]; done) | (simp only [snap, snapW, snapWs, snapWss, snapWss_map, trim, fl_cI, fl_c8, fl_cB, fl_cS, fl_cL, fl_S_Write, fl_S_Disk, fl_S_kinespherelaw04_Act, snapE, snapGE_sub (H := [Blk.row true 1 (List.map (cL c8) y18)]) (b := 0) (es := 1) (wr := true) (l := y18) (fl_cL fl_c8) rfl]; rfl)⟩

def G29 (a0 : (List (List UInt8))) (a1 : Int) : Option (List (List UInt8)) := F29 fuel0 a0 a1

def Orc29 (C : Nat → List A → Option A) : Prop := ∀ (a0 : (List (List UInt8))) (a1 : Int), C 29 [(A.imm (List.map (cL c8) a0) false), (A.v (Value.int .i64 a1))] = (G29 a0 a1).map fun y => (A.imm (List.map (cL c8) y) false)

def F12 (n : Nat) (a0 : Int) : Option (S_Disk × Int) :=
  Option.bind (bif (decide (a0 < 1)) then (some true) else (some (decide (4096 < a0)))) fun y2 => bif y2 then (some (((S_Disk.mk ([]) ([]) 0 false), 1))) else (Option.bind (mkI 1 128 ((0 : UInt8))) fun y6 => Option.bind (G29 ([y6]) a0) fun y7 => some (((S_Disk.mk y7 ([]) (-1) false), 0)))

theorem T12 (C : Nat → List A → Option A) (n : Nat) (h29 : Orc29 C) (a0 : Int) : J (fun (o : R) y => ∃ v, o.1 = .ret v ∧ snapE o.2 v = (A.tup [(A.agg [(A.imm (List.map (cL c8) y.1.Sectors) false), (A.imm (List.map c_S_Write y.1.Pending) false), (A.v (Value.int .i64 y.1.Left)), (A.v (Value.bool y.1.Stopped))]), (A.v (Value.int .i64 y.2))])) (evCall1 (cx C) (evCall (cx C) (n+8)) (evCallY (cx C) (n+8)) (n+8) 12 [(A.v (Value.int .i64 a0))] [] 0) some (F12 n a0) some := by
  refine .lp (e12 ..) ?_
  unfold F12
  refine .st (v := ((A.ptr 0 0), [Blk.box [(A.imm [] true), (A.imm [] true), (A.v (Value.int .i64 0)), (A.v (Value.bool false))]])) (by kernel_rfl) ?_
  refine .st (v := (A.v (Value.bool (decide (a0 < 1))))) (aBin_lss ..) ?_
  refine .bg (fun t (y : Bool) => ∃ j3 j4 : A, t = [(A.v (Value.bool y)), j3, j4]) ?_ ?_
  · refine .biH (fun hk1 => ?_) (fun hk1 => ?_)
    · exact .lg ⟨_, _, rfl⟩
    · refine .st (v := (A.v (Value.bool (decide (4096 < a0))))) (aBin_gtr ..) ?_
      exact .lg ⟨_, _, rfl⟩
  rintro _ y2 ⟨j3, j4, rfl⟩
  iterate 3 refine .uc ?_
  refine .biHN (fun hk5 => ?_) (fun hk5 => ?_)
  · refine .st (v := (A.agg [(A.imm [] true), (A.imm [] true), (A.v (Value.int .i64 0)), (A.v (Value.bool false))])) (by kernel_rfl) ?_
    refine .st (v := [Blk.box [(A.imm [] true), (A.imm [] true), (A.v (Value.int .i64 0)), (A.v (Value.bool false))]]) (by kernel_rfl) ?_
    refine .st (v := (A.agg [(A.imm [] true), (A.imm [] true), (A.v (Value.int .i64 0)), (A.v (Value.bool false))])) (by kernel_rfl) ?_
    exact .lf rfl rfl ⟨_, rfl, by show snapE [Blk.box [(A.imm [] true), (A.imm [] true), (A.v (Value.int .i64 0)), (A.v (Value.bool false))]] (A.tup [(A.agg [(A.imm [] true), (A.imm [] true), (A.v (Value.int .i64 0)), (A.v (Value.bool false))]), (A.v (Value.int .i64 1))]) = _; first | (simp only [snap, snapW, snapWs, snapWss, snapWss_map, trim, List.map_cons, List.map_nil, fl_cI, fl_c8, fl_cB, fl_cS, fl_cL, fl_S_Write, fl_S_Disk, fl_S_kinespherelaw04_Act, snapE]; done) | (simp only [snap, snapW, snapWs, snapWss, snapWss_map, trim, fl_cI, fl_c8, fl_cB, fl_cS, fl_cL, fl_S_Write, fl_S_Disk, fl_S_kinespherelaw04_Act, snapE]; done) | (simp only [snap, snapW, snapWs, snapWss, snapWss_map, trim, fl_cI, fl_c8, fl_cB, fl_cS, fl_cL, fl_S_Write, fl_S_Disk, fl_S_kinespherelaw04_Act, snapE]; rfl)⟩
  · refine .bd (g := fun (y : List UInt8) => ((A.sl 1 0 y.length false), [Blk.box [(A.imm [] true), (A.imm [] true), (A.v (Value.int .i64 0)), (A.v (Value.bool false))], Blk.row true 1 (List.map c8 y)])) (wrow_make (e := 5) (es := 1) (f := c8) (z := (0 : UInt8)) (z' := [(A.v (Value.int .u8 0))]) (by kernel_rfl) (by kernel_rfl) (by kernel_rfl) (by kernel_rfl) rfl (by decide) (fun _ => rfl)) fun y6 => ?_
    refine .st (v := ((A.imm (List.map c8 y6) false), [Blk.box [(A.imm [] true), (A.imm [] true), (A.v (Value.int .i64 0)), (A.v (Value.bool false))], Blk.dead])) (kill_all (es := 1) (l := y6) fl_c8 rfl (by decide)) ?_
    refine .st (v := (A.imm [[(A.imm (List.map c8 y6) false)]] true)) (by kernel_rfl) ?_
    refine .bd (g := fun (y : (List (List UInt8))) => (A.imm (List.map (cL c8) y) false)) (by show C 29 [snap [Blk.box [(A.imm [] true), (A.imm [] true), (A.v (Value.int .i64 0)), (A.v (Value.bool false))], Blk.dead] (A.imm [[(A.imm (List.map c8 y6) false)]] true), snap [Blk.box [(A.imm [] true), (A.imm [] true), (A.v (Value.int .i64 0)), (A.v (Value.bool false))], Blk.dead] (A.v (Value.int .i64 a0))] = _; simp only [snap, snapW, snapWs, snapWss, snapWss_map, trim, List.map_cons, List.map_nil, fl_cI, fl_c8, fl_cB, fl_cS, fl_cL, fl_S_Write, fl_S_Disk, fl_S_kinespherelaw04_Act]; exact h29 ([y6]) a0) fun y7 => ?_
    refine .st (v := (A.agg [(A.imm (List.map (cL c8) y7) false), (A.imm [] true), (A.v (Value.int .i64 (-1))), (A.v (Value.bool false))])) (by kernel_rfl) ?_
    refine .st (v := [Blk.box [(A.imm (List.map (cL c8) y7) false), (A.imm [] true), (A.v (Value.int .i64 (-1))), (A.v (Value.bool false))], Blk.dead]) (by kernel_rfl) ?_
    refine .st (v := (A.agg [(A.imm (List.map (cL c8) y7) false), (A.imm [] true), (A.v (Value.int .i64 (-1))), (A.v (Value.bool false))])) (by kernel_rfl) ?_
    exact .lf rfl rfl ⟨_, rfl, by show snapE [Blk.box [(A.imm (List.map (cL c8) y7) false), (A.imm [] true), (A.v (Value.int .i64 (-1))), (A.v (Value.bool false))], Blk.dead] (A.tup [(A.agg [(A.imm (List.map (cL c8) y7) false), (A.imm [] true), (A.v (Value.int .i64 (-1))), (A.v (Value.bool false))]), (A.v (Value.int .i64 0))]) = _; first | (simp only [snap, snapW, snapWs, snapWss, snapWss_map, trim, List.map_cons, List.map_nil, fl_cI, fl_c8, fl_cB, fl_cS, fl_cL, fl_S_Write, fl_S_Disk, fl_S_kinespherelaw04_Act, snapE]; done) | (simp only [snap, snapW, snapWs, snapWss, snapWss_map, trim, fl_cI, fl_c8, fl_cB, fl_cS, fl_cL, fl_S_Write, fl_S_Disk, fl_S_kinespherelaw04_Act, snapE]; done) | (simp only [snap, snapW, snapWs, snapWss, snapWss_map, trim, fl_cI, fl_c8, fl_cB, fl_cS, fl_cL, fl_S_Write, fl_S_Disk, fl_S_kinespherelaw04_Act, snapE]; rfl)⟩

def G12 (a0 : Int) : Option (S_Disk × Int) := F12 fuel0 a0

def Orc12 (C : Nat → List A → Option A) : Prop := ∀ (a0 : Int), C 12 [(A.v (Value.int .i64 a0))] = (G12 a0).map fun y => (A.tup [(A.agg [(A.imm (List.map (cL c8) y.1.Sectors) false), (A.imm (List.map c_S_Write y.1.Pending) false), (A.v (Value.int .i64 y.1.Left)), (A.v (Value.bool y.1.Stopped))]), (A.v (Value.int .i64 y.2))])

def F31 (n : Nat) (a0 : (List UInt8)) : Option Bool :=
  some (((a0.length : Int)) == 128)

theorem T31 (C : Nat → List A → Option A) (n : Nat) (a0 : (List UInt8)) : J (fun (o : R) y => ∃ v, o.1 = .ret v ∧ snapE o.2 v = (A.v (Value.bool y))) (evCall1 (cx C) (evCall (cx C) (n+8)) (evCallY (cx C) (n+8)) (n+8) 31 [(A.imm (List.map c8 a0) false)] [] 0) some (F31 n a0) some := by
  refine .lp (e31 ..) ?_
  unfold F31
  refine .st (v := (A.v (Value.int .i64 ((a0.length : Int))))) (len_imm (e := 5) (h1 := by kernel_rfl) ..) ?_
  refine .st (v := (A.v (Value.bool (((a0.length : Int)) == 128)))) (aBin_eql ..) ?_
  exact .lf rfl rfl ⟨_, rfl, rfl⟩

def G31 (a0 : (List UInt8)) : Option Bool := F31 fuel0 a0

def Orc31 (C : Nat → List A → Option A) : Prop := ∀ (a0 : (List UInt8)), C 31 [(A.imm (List.map c8 a0) false)] = (G31 a0).map fun y => (A.v (Value.bool y))

def F34 (n : Nat) (a0 : (List UInt8)) : Option Bool :=
  Option.bind (G31 a0) fun y1 => some (!y1)

theorem T34 (C : Nat → List A → Option A) (n : Nat) (h31 : Orc31 C) (a0 : (List UInt8)) : J (fun (o : R) y => ∃ v, o.1 = .ret v ∧ snapE o.2 v = (A.v (Value.bool y))) (evCall1 (cx C) (evCall (cx C) (n+8)) (evCallY (cx C) (n+8)) (n+8) 34 [(A.imm (List.map c8 a0) false)] [] 0) some (F34 n a0) some := by
  refine .lp (e34 ..) ?_
  unfold F34
  refine .bd (g := fun (y : Bool) => (A.v (Value.bool y))) (by show C 31 [snap [] (A.imm (List.map c8 a0) false)] = _; simp only [snap, snapW, snapWs, snapWss, snapWss_map, trim, List.map_cons, List.map_nil, fl_cI, fl_c8, fl_cB, fl_cS, fl_cL, fl_S_Write, fl_S_Disk, fl_S_kinespherelaw04_Act]; exact h31 a0) fun y1 => ?_
  refine .st (v := (A.v (Value.bool (!y1)))) (by kernel_rfl) ?_
  exact .lf rfl rfl ⟨_, rfl, rfl⟩

def G34 (a0 : (List UInt8)) : Option Bool := F34 fuel0 a0

def Orc34 (C : Nat → List A → Option A) : Prop := ∀ (a0 : (List UInt8)), C 34 [(A.imm (List.map c8 a0) false)] = (G34 a0).map fun y => (A.v (Value.bool y))

def F44_34_44_0 (n : Nat) (v1 : (List (List UInt8))) (v2 : Int) (v3 : Int) : Nat → Int → Option ((Int) ⊕ (Unit))
  | 0, _ => none
  | m + 1, v4 => bif (decide (v4 < v3)) then (Option.bind (getI v1 v4) fun y6 => Option.bind (G34 y6) fun y7 => bif y7 then (some ((Sum.inl v4))) else (F44_34_44_0 n v1 v2 v3 m (wr .i64 (v4 + 1)))) else (some ((Sum.inr (()))))

theorem T44_34_44_0 (C : Nat → List A → Option A) (n : Nat) (h34 : Orc34 C) (v1 : (List (List UInt8))) (v2 : Int) (v3 : Int) {ρ γ : Type} {φ : ρ → γ → Prop} {kL : R → Option ρ} {K : ((Int) ⊕ (Unit)) → Option γ} (kx kg : Nat → St → Option R) (kr : St → Option R) (kp : A → St → Option R) (x0 : ∀ (o0 : Int) (s0 : A) (s1 : A) (s7 : A) (s8 : A), J φ (kr (St.mk [(0, s0), (1, s1), (4, (A.v (Value.int .i64 o0))), (7, s7), (8, s8)] [])) kL (K (Sum.inl o0)) some) (x1 : ∀ (s0 : A) (s1 : A) (s4 : A) (s7 : A) (s8 : A), J φ (kx 0 (St.mk [(0, s0), (1, s1), (4, s4), (7, s7), (8, s8)] [])) kL (K (Sum.inr (()))) some) :
    ∀ (m : Nat) (v4 : Int), J φ (loopR (cx C) (evCall (cx C) (n+8)) (evCallY (cx C) (n+8)) (n+8) 44 0 0 0 kx kg kr kp m (St.mk [(0, (A.imm (List.map (cL c8) v1) false)), (1, (A.fn (Fn.func 34) [] [])), (4, (A.v (Value.int .i64 v2))), (7, (A.v (Value.int .i64 v3))), (8, (A.v (Value.int .i64 v4)))] [])) kL (F44_34_44_0 n v1 v2 v3 m v4) K := by
  intro m
  induction m with
  | zero => intros; exact .nn
  | succ m ih =>
    intro v4
    refine .lp (e44_0 ..) ?_
    unfold F44_34_44_0
    refine .st (v := (A.v (Value.bool (decide (v4 < v3))))) (aBin_lss ..) ?_
    refine .biHN (fun hk5 => ?_) (fun hk5 => ?_)
    · refine .bd (g := fun (y : (List UInt8)) => A.ip ((cL c8) y)) (idx_imm (e := 35) (es := 1) (h1 := by kernel_rfl) (h2 := by kernel_rfl) (h3 := fun _ => rfl) ..) fun y6 => ?_
      refine .st (v := (A.imm (List.map c8 y6) false)) (by kernel_rfl) ?_
      refine .dO (by kernel_rfl) (by kernel_rfl) ?_
      refine .bd (g := fun (y : Bool) => (A.v (Value.bool y))) (by simp only [List.nil_append, List.cons_append, List.append_nil, snap, snapW, snapWs, snapWss, snapWss_map, trim, List.map_cons, List.map_nil, fl_cI, fl_c8, fl_cB, fl_cS, fl_cL, fl_S_Write, fl_S_Disk, fl_S_kinespherelaw04_Act]; exact h34 y6) fun y7 => ?_
      refine .biHN (fun hk8 => ?_) (fun hk8 => ?_)
      · exact .ex (x0 _ _ _ _ _)
      · refine .st (v := (A.v (Value.int .i64 (wr .i64 (v4 + 1))))) (aBin_add ..) ?_
        refine .st (v := []) (by kernel_rfl) ?_
        refine .cT (by kernel_rfl) ?_
        exact ih _
    · exact .ex (x1 _ _ _ _ _)

def F44_34 (n : Nat) (a0 : (List (List UInt8))) : Option Int :=
  Option.bind (F44_34_44_0 n a0 0 ((a0.length : Int)) (n+8) 0) fun o9 => match o9 with | (Sum.inl y10) => some y10 | (Sum.inr _) => some (-1)

theorem T44_34 (C : Nat → List A → Option A) (n : Nat) (h34 : Orc34 C) (a0 : (List (List UInt8))) : J (fun (o : R) y => ∃ v, o.1 = .ret v ∧ snapE o.2 v = (A.v (Value.int .i64 y))) (evCall1 (cx C) (evCall (cx C) (n+8)) (evCallY (cx C) (n+8)) (n+8) 44 [(A.imm (List.map (cL c8) a0) false), (A.fn (Fn.func 34) [] [])] [] 0) some (F44_34 n a0) some := by
  refine .lp (e44 ..) ?_
  unfold F44_34
  refine .st (v := (A.v (Value.int .i64 ((a0.length : Int))))) (len_imm (e := 35) (h1 := by kernel_rfl) ..) ?_
  refine .as (T44_34_44_0 C n h34 a0 0 ((a0.length : Int)) _ _ _ _ ?_ ?_ _ 0)
  · intro y10 j11 j12 j13 j14
    refine .un rfl ?_
    exact .lf rfl rfl ⟨_, rfl, rfl⟩
  · intro j15 j16 j17 j18 j19
    refine .un rfl ?_
    refine .cT (by kernel_rfl) ?_
    exact .lf rfl rfl ⟨_, rfl, rfl⟩

def G44_34 (a0 : (List (List UInt8))) : Option Int := F44_34 fuel0 a0

def Orc44_34 (C : Nat → List A → Option A) : Prop := ∀ (a0 : (List (List UInt8))), C 44 [(A.imm (List.map (cL c8) a0) false), (A.fn (Fn.func 34) [] [])] = (G44_34 a0).map fun y => (A.v (Value.int .i64 y))

def F33_34 (n : Nat) (a0 : (List (List UInt8))) : Option Bool :=
  Option.bind (G44_34 a0) fun y1 => some (decide (0 ≤ y1))

theorem T33_34 (C : Nat → List A → Option A) (n : Nat) (h44_34 : Orc44_34 C) (a0 : (List (List UInt8))) : J (fun (o : R) y => ∃ v, o.1 = .ret v ∧ snapE o.2 v = (A.v (Value.bool y))) (evCall1 (cx C) (evCall (cx C) (n+8)) (evCallY (cx C) (n+8)) (n+8) 33 [(A.imm (List.map (cL c8) a0) false), (A.fn (Fn.func 34) [] [])] [] 0) some (F33_34 n a0) some := by
  refine .lp (e33 ..) ?_
  unfold F33_34
  refine .bd (g := fun (y : Int) => (A.v (Value.int .i64 y))) (by show C 44 [snap [] (A.imm (List.map (cL c8) a0) false), snap [] (A.fn (Fn.func 34) [] [])] = _; simp only [snap, snapW, snapWs, snapWss, snapWss_map, trim, List.map_cons, List.map_nil, fl_cI, fl_c8, fl_cB, fl_cS, fl_cL, fl_S_Write, fl_S_Disk, fl_S_kinespherelaw04_Act]; exact h44_34 a0) fun y1 => ?_
  refine .st (v := (A.v (Value.bool (decide (0 ≤ y1))))) (aBin_geq ..) ?_
  exact .lf rfl rfl ⟨_, rfl, rfl⟩

def G33_34 (a0 : (List (List UInt8))) : Option Bool := F33_34 fuel0 a0

def Orc33_34 (C : Nat → List A → Option A) : Prop := ∀ (a0 : (List (List UInt8))), C 33 [(A.imm (List.map (cL c8) a0) false), (A.fn (Fn.func 34) [] [])] = (G33_34 a0).map fun y => (A.v (Value.bool y))

def F15_43_0 (n : Nat) (v26 : (List S_Write)) (v27 : Int) (v28 : Int) (v30 : (List (List UInt8))) (v31 : (List S_Write)) (v32 : Int) (v33 : Bool) (v34 : Int) : Nat → Int → Option ((Int × Int × (List UInt8)) ⊕ (Unit))
  | 0, _ => none
  | m + 1, v29 => bif (decide (v29 < v28)) then (Option.bind (getI v26 v29) fun y36 => Option.bind (bif (decide (y36.At < 0)) then (some true) else (some (decide (v34 ≤ y36.At)))) fun y38 => Option.bind (bif y38 then (some true) else (Option.bind (G31 y36.Data) fun y44 => some (!y44))) fun y45 => bif y45 then (some ((Sum.inl ((v29, y36.At, y36.Data))))) else (F15_43_0 n v26 v27 v28 v30 v31 v32 v33 v34 m (wr .i64 (v29 + 1)))) else (some ((Sum.inr (()))))

theorem T15_43_0 (C : Nat → List A → Option A) (n : Nat) (h31 : Orc31 C) (h33_34 : Orc33_34 C) (v26 : (List S_Write)) (v27 : Int) (v28 : Int) (v30 : (List (List UInt8))) (v31 : (List S_Write)) (v32 : Int) (v33 : Bool) (v34 : Int) {ρ γ : Type} {φ : ρ → γ → Prop} {kL : R → Option ρ} {K : ((Int × Int × (List UInt8)) ⊕ (Unit)) → Option γ} (kx kg : Nat → St → Option R) (kr : St → Option R) (kp : A → St → Option R) (x0 : ∀ (o0 : Int) (o1 : Int) (o2 : (List UInt8)) (s0 : A) (s1 : A) (s7 : A) (s8 : A), J φ (kr (St.mk [(0, s0), (1, s1), (4, (A.v (Value.int .i64 o0))), (7, s7), (8, s8)] [Blk.box [(A.imm (List.map (cL c8) v30) false), (A.imm (List.map c_S_Write v31) false), (A.v (Value.int .i64 v32)), (A.v (Value.bool v33))], Blk.box [(A.v (Value.int .i64 v34))], Blk.box [(A.v (Value.int .i64 o1)), (A.imm (List.map c8 o2) false)]])) kL (K (Sum.inl ((o0, o1, o2)))) some) (x1 : ∀ (s0 : A) (s1 : A) (s4 : A) (s7 : A) (s8 : A), J φ (kx 0 (St.mk [(0, s0), (1, s1), (4, s4), (7, s7), (8, s8)] [Blk.box [(A.imm (List.map (cL c8) v30) false), (A.imm (List.map c_S_Write v31) false), (A.v (Value.int .i64 v32)), (A.v (Value.bool v33))], Blk.box [(A.v (Value.int .i64 v34))]])) kL (K (Sum.inr (()))) some) :
    ∀ (m : Nat) (v29 : Int), J φ (loopR (cx C) (evCall (cx C) (n+6)) (evCallY (cx C) (n+6)) (n+6) 43 0 0 2 kx kg kr kp m (St.mk [(0, (A.imm (List.map c_S_Write v26) false)), (1, (A.fn (Fn.func 30) [] [(A.ptr 1 0)])), (4, (A.v (Value.int .i64 v27))), (7, (A.v (Value.int .i64 v28))), (8, (A.v (Value.int .i64 v29)))] [Blk.box [(A.imm (List.map (cL c8) v30) false), (A.imm (List.map c_S_Write v31) false), (A.v (Value.int .i64 v32)), (A.v (Value.bool v33))], Blk.box [(A.v (Value.int .i64 v34))]])) kL (F15_43_0 n v26 v27 v28 v30 v31 v32 v33 v34 m v29) K := by
  intro m
  induction m with
  | zero => intros; exact .nn
  | succ m ih =>
    intro v29
    refine .lp (e43_0 ..) ?_
    unfold F15_43_0
    refine .st (v := (A.v (Value.bool (decide (v29 < v28))))) (aBin_lss ..) ?_
    refine .biHN (fun hk35 => ?_) (fun hk35 => ?_)
    · refine .bd (g := fun (y : S_Write) => A.ip (c_S_Write y)) (idx_imm (e := 54) (es := 2) (h1 := by kernel_rfl) (h2 := by kernel_rfl) (h3 := fun _ => rfl) ..) fun y36 => ?_
      refine .st (v := (A.agg [(A.v (Value.int .i64 y36.At)), (A.imm (List.map c8 y36.Data) false)])) (by kernel_rfl) ?_
      refine .dC (by kernel_rfl) (by kernel_rfl) ?_
      refine .cl ((evCall_in lt_30).trans (e30 C (evCall (cx C) (n+5)) (evCallY (cx C) (n+5)) (n+5) _ _ _ _)) ?_
      refine .st (v := ((A.ptr 2 0), [Blk.box [(A.imm (List.map (cL c8) v30) false), (A.imm (List.map c_S_Write v31) false), (A.v (Value.int .i64 v32)), (A.v (Value.bool v33))], Blk.box [(A.v (Value.int .i64 v34))], Blk.box [(A.v (Value.int .i64 y36.At)), (A.imm (List.map c8 y36.Data) false)]])) (by kernel_rfl) ?_
      refine .st (v := (A.ptr 2 0)) (by kernel_rfl) ?_
      refine .st (v := (A.v (Value.int .i64 y36.At))) (by kernel_rfl) ?_
      refine .st (v := (A.v (Value.bool (decide (y36.At < 0))))) (aBin_lss ..) ?_
      refine .bg (fun t (y : Bool) => ∃ j39 j40 j41 j42 : A, t = [(A.v (Value.bool y)), j39, j40, j41, j42]) ?_ ?_
      · refine .biH (fun hk37 => ?_) (fun hk37 => ?_)
        · exact .lg ⟨_, _, _, _, rfl⟩
        · refine .st (v := (A.ptr 2 0)) (by kernel_rfl) ?_
          refine .st (v := (A.v (Value.int .i64 y36.At))) (by kernel_rfl) ?_
          refine .st (v := (A.v (Value.int .i64 v34))) (by kernel_rfl) ?_
          refine .st (v := (A.v (Value.bool (decide (v34 ≤ y36.At))))) (aBin_geq ..) ?_
          exact .lg ⟨_, _, _, _, rfl⟩
      rintro _ y38 ⟨j39, j40, j41, j42, rfl⟩
      iterate 5 refine .uc ?_
      refine .bg (fun t (y : Bool) => ∃ j46 j47 j48 j49 : A, t = [(A.v (Value.bool y)), j46, j47, j48, j49]) ?_ ?_
      · refine .biH (fun hk43 => ?_) (fun hk43 => ?_)
        · exact .lg ⟨_, _, _, _, rfl⟩
        · refine .st (v := (A.ptr 2 1)) (by kernel_rfl) ?_
          refine .st (v := (A.imm (List.map c8 y36.Data) false)) (by kernel_rfl) ?_
          refine .bd (g := fun (y : Bool) => (A.v (Value.bool y))) (by show C 31 [snap [Blk.box [(A.imm (List.map (cL c8) v30) false), (A.imm (List.map c_S_Write v31) false), (A.v (Value.int .i64 v32)), (A.v (Value.bool v33))], Blk.box [(A.v (Value.int .i64 v34))], Blk.box [(A.v (Value.int .i64 y36.At)), (A.imm (List.map c8 y36.Data) false)]] (A.imm (List.map c8 y36.Data) false)] = _; simp only [snap, snapW, snapWs, snapWss, snapWss_map, trim, List.map_cons, List.map_nil, fl_cI, fl_c8, fl_cB, fl_cS, fl_cL, fl_S_Write, fl_S_Disk, fl_S_kinespherelaw04_Act]; exact h31 y36.Data) fun y44 => ?_
          refine .st (v := (A.v (Value.bool (!y44)))) (by kernel_rfl) ?_
          exact .lg ⟨_, _, _, _, rfl⟩
      rintro _ y45 ⟨j46, j47, j48, j49, rfl⟩
      iterate 5 refine .uc ?_
      refine .cr ?_
      refine .ok ?_
      refine .biHN (fun hk50 => ?_) (fun hk50 => ?_)
      · exact .ex (x0 _ _ _ _ _ _ _)
      · refine .st (v := (A.v (Value.int .i64 (wr .i64 (v29 + 1))))) (aBin_add ..) ?_
        refine .st (v := [Blk.box [(A.imm (List.map (cL c8) v30) false), (A.imm (List.map c_S_Write v31) false), (A.v (Value.int .i64 v32)), (A.v (Value.bool v33))], Blk.box [(A.v (Value.int .i64 v34))]]) ((by kernel_rfl : _ = (bif ((((underss 2 (List.map (cL c8) v30)) && ((underss 2 (List.map c_S_Write v31)) && true))) && true) then some [Blk.box [(A.imm (List.map (cL c8) v30) false), (A.imm (List.map c_S_Write v31) false), (A.v (Value.int .i64 v32)), (A.v (Value.bool v33))], Blk.box [(A.v (Value.int .i64 v34))]] else none)).trans (by simp only [underss_map, fu_cI, fu_c8, fu_cB, fu_cS, fu_cL, fu_S_Write, fu_S_Disk, fu_S_kinespherelaw04_Act,  Bool.and_true, Bool.true_and, cond_true])) ?_
        refine .cT ((by kernel_rfl : _ = (bif underss 2 (List.map c_S_Write v26) then true else false)).trans (by simp only [underss_map, fu_cI, fu_c8, fu_cB, fu_cS, fu_cL, fu_S_Write, fu_S_Disk, fu_S_kinespherelaw04_Act,  Bool.and_true, Bool.true_and, cond_true])) ?_
        exact ih _
    · exact .ex (x1 _ _ _ _ _)

def F15 (n : Nat) (a0 : S_Disk) : Option Int :=
  Option.bind (bif (decide (((a0.Sectors.length : Int)) < 1)) then (some true) else (some (decide (4096 < ((a0.Sectors.length : Int)))))) fun y2 => Option.bind (bif y2 then (some true) else (some (decide (4096 < ((a0.Pending.length : Int)))))) fun y6 => Option.bind (bif y6 then (some true) else (some (decide (a0.Left < (-1))))) fun y12 => Option.bind (bif y12 then (some true) else (some (decide (65536 < a0.Left)))) fun y17 => bif y17 then (Option.bind (some (())) fun y72 => Option.bind (some (())) fun y73 => Option.bind (some true) fun y74 => bif y74 then (some 40) else (Option.bind (G33_34 a0.Sectors) fun y76 => bif y76 then (some 40) else (some 0))) else (Option.bind (some a0.Pending) fun y24 => Option.bind (some (())) fun y25 => Option.bind (F15_43_0 n y24 0 ((y24.length : Int)) a0.Sectors a0.Pending a0.Left a0.Stopped ((a0.Sectors.length : Int)) (n+6) 0) fun o51 => match o51 with | (Sum.inl ((y52, y53, y54))) => Option.bind (some (decide (0 ≤ y52))) fun y59 => bif y59 then (some 40) else (Option.bind (G33_34 a0.Sectors) fun y61 => bif y61 then (some 40) else (some 0)) | (Sum.inr _) => Option.bind (some false) fun y68 => bif y68 then (some 40) else (Option.bind (G33_34 a0.Sectors) fun y70 => bif y70 then (some 40) else (some 0)))

theorem T15 (C : Nat → List A → Option A) (n : Nat) (h31 : Orc31 C) (h33_34 : Orc33_34 C) (a0 : S_Disk) : J (fun (o : R) y => ∃ v, o.1 = .ret v ∧ snapE o.2 v = (A.v (Value.int .i64 y))) (evCall1 (cx C) (evCall (cx C) (n+8)) (evCallY (cx C) (n+8)) (n+8) 15 [(A.agg [(A.imm (List.map (cL c8) a0.Sectors) false), (A.imm (List.map c_S_Write a0.Pending) false), (A.v (Value.int .i64 a0.Left)), (A.v (Value.bool a0.Stopped))])] [] 0) some (F15 n a0) some := by
  refine .lp (e15 ..) ?_
  unfold F15
  refine .st (v := ((A.ptr 0 0), [Blk.box [(A.imm (List.map (cL c8) a0.Sectors) false), (A.imm (List.map c_S_Write a0.Pending) false), (A.v (Value.int .i64 a0.Left)), (A.v (Value.bool a0.Stopped))]])) (by kernel_rfl) ?_
  refine .st (v := (A.ptr 0 0)) (by kernel_rfl) ?_
  refine .st (v := (A.imm (List.map (cL c8) a0.Sectors) false)) (by kernel_rfl) ?_
  refine .st (v := (A.v (Value.int .i64 ((a0.Sectors.length : Int))))) (len_imm (e := 35) (h1 := by kernel_rfl) ..) ?_
  refine .st (v := ((A.ptr 1 0), [Blk.box [(A.imm (List.map (cL c8) a0.Sectors) false), (A.imm (List.map c_S_Write a0.Pending) false), (A.v (Value.int .i64 a0.Left)), (A.v (Value.bool a0.Stopped))], Blk.box [(A.v (Value.int .i64 0))]])) (by kernel_rfl) ?_
  refine .st (v := [Blk.box [(A.imm (List.map (cL c8) a0.Sectors) false), (A.imm (List.map c_S_Write a0.Pending) false), (A.v (Value.int .i64 a0.Left)), (A.v (Value.bool a0.Stopped))], Blk.box [(A.v (Value.int .i64 ((a0.Sectors.length : Int))))]]) (by kernel_rfl) ?_
  refine .st (v := (A.v (Value.int .i64 ((a0.Sectors.length : Int))))) (by kernel_rfl) ?_
  refine .st (v := (A.v (Value.bool (decide (((a0.Sectors.length : Int)) < 1))))) (aBin_lss ..) ?_
  refine .bg (fun t (y : Bool) => ∃ j3 j4 : A, t = [(A.v (Value.bool y)), j3, j4]) ?_ ?_
  · refine .biH (fun hk1 => ?_) (fun hk1 => ?_)
    · exact .lg ⟨_, _, rfl⟩
    · refine .st (v := (A.v (Value.int .i64 ((a0.Sectors.length : Int))))) (by kernel_rfl) ?_
      refine .st (v := (A.v (Value.bool (decide (4096 < ((a0.Sectors.length : Int))))))) (aBin_gtr ..) ?_
      exact .lg ⟨_, _, rfl⟩
  rintro _ y2 ⟨j3, j4, rfl⟩
  iterate 3 refine .uc ?_
  refine .bg (fun t (y : Bool) => ∃ j7 j8 j9 j10 : A, t = [(A.v (Value.bool y)), j7, j8, j9, j10]) ?_ ?_
  · refine .biH (fun hk5 => ?_) (fun hk5 => ?_)
    · exact .lg ⟨_, _, _, _, rfl⟩
    · refine .st (v := (A.ptr 0 1)) (by kernel_rfl) ?_
      refine .st (v := (A.imm (List.map c_S_Write a0.Pending) false)) (by kernel_rfl) ?_
      refine .st (v := (A.v (Value.int .i64 ((a0.Pending.length : Int))))) (len_imm (e := 54) (h1 := by kernel_rfl) ..) ?_
      refine .st (v := (A.v (Value.bool (decide (4096 < ((a0.Pending.length : Int))))))) (aBin_gtr ..) ?_
      exact .lg ⟨_, _, _, _, rfl⟩
  rintro _ y6 ⟨j7, j8, j9, j10, rfl⟩
  iterate 5 refine .uc ?_
  refine .bg (fun t (y : Bool) => ∃ j13 j14 j15 : A, t = [(A.v (Value.bool y)), j13, j14, j15]) ?_ ?_
  · refine .biH (fun hk11 => ?_) (fun hk11 => ?_)
    · exact .lg ⟨_, _, _, rfl⟩
    · refine .st (v := (A.ptr 0 2)) (by kernel_rfl) ?_
      refine .st (v := (A.v (Value.int .i64 a0.Left))) (by kernel_rfl) ?_
      refine .st (v := (A.v (Value.bool (decide (a0.Left < (-1)))))) (aBin_lss ..) ?_
      exact .lg ⟨_, _, _, rfl⟩
  rintro _ y12 ⟨j13, j14, j15, rfl⟩
  iterate 4 refine .uc ?_
  refine .bg (fun t (y : Bool) => ∃ j18 j19 j20 : A, t = [(A.v (Value.bool y)), j18, j19, j20]) ?_ ?_
  · refine .biH (fun hk16 => ?_) (fun hk16 => ?_)
    · exact .lg ⟨_, _, _, rfl⟩
    · refine .st (v := (A.ptr 0 2)) (by kernel_rfl) ?_
      refine .st (v := (A.v (Value.int .i64 a0.Left))) (by kernel_rfl) ?_
      refine .st (v := (A.v (Value.bool (decide (65536 < a0.Left))))) (aBin_gtr ..) ?_
      exact .lg ⟨_, _, _, rfl⟩
  rintro _ y17 ⟨j18, j19, j20, rfl⟩
  iterate 4 refine .uc ?_
  refine .gsf (fun hc23 => ?_) (fun hc23 => ?_)
  · refine .bb ?_
    refine .st (v := (A.ptr 0 1)) (by kernel_rfl) ?_
    refine .cr ?_
    refine .bg (fun t (y : (List S_Write)) =>  t = (A.imm (List.map c_S_Write y) false)) ?_ ?_
    · refine .lp (gIf_knownFF hc23) ?_
      refine .st (v := (A.imm (List.map c_S_Write a0.Pending) false)) (by kernel_rfl) ?_
      exact .lg rfl
    rintro _ y24 rfl
    refine .bg (fun t (y : Unit) =>  t = (A.fn (Fn.func 30) [] [(A.ptr 1 0)])) ?_ ?_
    · refine .lp (gIf_knownFF hc23) ?_
      exact .lg rfl
    rintro _ y25 rfl
    refine .lp (gIf_knownFF hc23) ?_
    refine .cl ((evCall_in lt_32).trans (e32 C (evCall (cx C) (n+7)) (evCallY (cx C) (n+7)) (n+7) _ _ _ _)) ?_
    refine .cl ((evCall_in lt_43).trans (e43 C (evCall (cx C) (n+6)) (evCallY (cx C) (n+6)) (n+6) _ _ _ _)) ?_
    refine .st (v := (A.v (Value.int .i64 ((y24.length : Int))))) (len_imm (e := 54) (h1 := by kernel_rfl) ..) ?_
    refine .as (T15_43_0 C n h31 h33_34 y24 0 ((y24.length : Int)) a0.Sectors a0.Pending a0.Left a0.Stopped ((a0.Sectors.length : Int)) _ _ _ _ ?_ ?_ _ 0)
    · intro y52 y53 y54 j55 j56 j57 j58
      refine .un rfl ?_
      refine .cr ?_
      refine .ok ?_
      refine .st (v := (A.v (Value.bool (decide (0 ≤ y52))))) (aBin_geq ..) ?_
      refine .cr ?_
      refine .ok ?_
      refine .bg (fun t (y : Bool) =>  t = (A.v (Value.bool y))) ?_ ?_
      · refine .bKF hc23 ?_
        exact .lg rfl
      rintro _ y59 rfl
      refine .biHN (fun hk60 => ?_) (fun hk60 => ?_)
      · exact .lf rfl rfl ⟨_, rfl, rfl⟩
      · refine .st (v := (A.ptr 0 0)) (by kernel_rfl) ?_
        refine .st (v := (A.imm (List.map (cL c8) a0.Sectors) false)) (by kernel_rfl) ?_
        refine .bd (g := fun (y : Bool) => (A.v (Value.bool y))) (by show C 33 [snap [Blk.box [(A.imm (List.map (cL c8) a0.Sectors) false), (A.imm (List.map c_S_Write a0.Pending) false), (A.v (Value.int .i64 a0.Left)), (A.v (Value.bool a0.Stopped))], Blk.box [(A.v (Value.int .i64 ((a0.Sectors.length : Int))))], Blk.box [(A.v (Value.int .i64 y53)), (A.imm (List.map c8 y54) false)]] (A.imm (List.map (cL c8) a0.Sectors) false), snap [Blk.box [(A.imm (List.map (cL c8) a0.Sectors) false), (A.imm (List.map c_S_Write a0.Pending) false), (A.v (Value.int .i64 a0.Left)), (A.v (Value.bool a0.Stopped))], Blk.box [(A.v (Value.int .i64 ((a0.Sectors.length : Int))))], Blk.box [(A.v (Value.int .i64 y53)), (A.imm (List.map c8 y54) false)]] (A.fn (Fn.func 34) [] [])] = _; simp only [snap, snapW, snapWs, snapWss, snapWss_map, trim, List.map_cons, List.map_nil, fl_cI, fl_c8, fl_cB, fl_cS, fl_cL, fl_S_Write, fl_S_Disk, fl_S_kinespherelaw04_Act]; exact h33_34 a0.Sectors) fun y61 => ?_
        refine .biHN (fun hk62 => ?_) (fun hk62 => ?_)
        · exact .lf rfl rfl ⟨_, rfl, rfl⟩
        · exact .lf rfl rfl ⟨_, rfl, rfl⟩
    · intro j63 j64 j65 j66 j67
      refine .un rfl ?_
      refine .cT (by kernel_rfl) ?_
      refine .cr ?_
      refine .ok ?_
      refine .st (v := (A.v (Value.bool false))) (by kernel_rfl) ?_
      refine .cr ?_
      refine .ok ?_
      refine .bg (fun t (y : Bool) =>  t = (A.v (Value.bool y))) ?_ ?_
      · refine .bKF hc23 ?_
        exact .lg rfl
      rintro _ y68 rfl
      refine .biHN (fun hk69 => ?_) (fun hk69 => ?_)
      · exact .lf rfl rfl ⟨_, rfl, rfl⟩
      · refine .st (v := (A.ptr 0 0)) (by kernel_rfl) ?_
        refine .st (v := (A.imm (List.map (cL c8) a0.Sectors) false)) (by kernel_rfl) ?_
        refine .bd (g := fun (y : Bool) => (A.v (Value.bool y))) (by show C 33 [snap [Blk.box [(A.imm (List.map (cL c8) a0.Sectors) false), (A.imm (List.map c_S_Write a0.Pending) false), (A.v (Value.int .i64 a0.Left)), (A.v (Value.bool a0.Stopped))], Blk.box [(A.v (Value.int .i64 ((a0.Sectors.length : Int))))]] (A.imm (List.map (cL c8) a0.Sectors) false), snap [Blk.box [(A.imm (List.map (cL c8) a0.Sectors) false), (A.imm (List.map c_S_Write a0.Pending) false), (A.v (Value.int .i64 a0.Left)), (A.v (Value.bool a0.Stopped))], Blk.box [(A.v (Value.int .i64 ((a0.Sectors.length : Int))))]] (A.fn (Fn.func 34) [] [])] = _; simp only [snap, snapW, snapWs, snapWss, snapWss_map, trim, List.map_cons, List.map_nil, fl_cI, fl_c8, fl_cB, fl_cS, fl_cL, fl_S_Write, fl_S_Disk, fl_S_kinespherelaw04_Act]; exact h33_34 a0.Sectors) fun y70 => ?_
        refine .biHN (fun hk71 => ?_) (fun hk71 => ?_)
        · exact .lf rfl rfl ⟨_, rfl, rfl⟩
        · exact .lf rfl rfl ⟨_, rfl, rfl⟩
  · refine .bb ?_
    refine .cr ?_
    refine .bg (fun t (y : Unit) =>  t = (A.v undef)) ?_ ?_
    · refine .lp (gIf_knownFT hc23) ?_
      exact .lg rfl
    rintro _ y72 rfl
    refine .bg (fun t (y : Unit) =>  t = (A.v undef)) ?_ ?_
    · refine .lp (gIf_knownFT hc23) ?_
      exact .lg rfl
    rintro _ y73 rfl
    refine .lp (gIf_knownFT hc23) ?_
    refine .bg (fun t (y : Bool) =>  t = (A.v (Value.bool y))) ?_ ?_
    · refine .bKT hc23 ?_
      exact .lg rfl
    rintro _ y74 rfl
    refine .biHN (fun hk75 => ?_) (fun hk75 => ?_)
    · exact .lf rfl rfl ⟨_, rfl, rfl⟩
    · refine .st (v := (A.ptr 0 0)) (by kernel_rfl) ?_
      refine .st (v := (A.imm (List.map (cL c8) a0.Sectors) false)) (by kernel_rfl) ?_
      refine .bd (g := fun (y : Bool) => (A.v (Value.bool y))) (by show C 33 [snap [Blk.box [(A.imm (List.map (cL c8) a0.Sectors) false), (A.imm (List.map c_S_Write a0.Pending) false), (A.v (Value.int .i64 a0.Left)), (A.v (Value.bool a0.Stopped))], Blk.box [(A.v (Value.int .i64 ((a0.Sectors.length : Int))))]] (A.imm (List.map (cL c8) a0.Sectors) false), snap [Blk.box [(A.imm (List.map (cL c8) a0.Sectors) false), (A.imm (List.map c_S_Write a0.Pending) false), (A.v (Value.int .i64 a0.Left)), (A.v (Value.bool a0.Stopped))], Blk.box [(A.v (Value.int .i64 ((a0.Sectors.length : Int))))]] (A.fn (Fn.func 34) [] [])] = _; simp only [snap, snapW, snapWs, snapWss, snapWss_map, trim, List.map_cons, List.map_nil, fl_cI, fl_c8, fl_cB, fl_cS, fl_cL, fl_S_Write, fl_S_Disk, fl_S_kinespherelaw04_Act]; exact h33_34 a0.Sectors) fun y76 => ?_
      refine .biHN (fun hk77 => ?_) (fun hk77 => ?_)
      · exact .lf rfl rfl ⟨_, rfl, rfl⟩
      · exact .lf rfl rfl ⟨_, rfl, rfl⟩

def G15 (a0 : S_Disk) : Option Int := F15 fuel0 a0

def Orc15 (C : Nat → List A → Option A) : Prop := ∀ (a0 : S_Disk), C 15 [(A.agg [(A.imm (List.map (cL c8) a0.Sectors) false), (A.imm (List.map c_S_Write a0.Pending) false), (A.v (Value.int .i64 a0.Left)), (A.v (Value.bool a0.Stopped))])] = (G15 a0).map fun y => (A.v (Value.int .i64 y))

def F35 (n : Nat) (a0 : S_Disk) : Option Bool :=
  Option.bind (G15 a0) fun y1 => Option.bind (bif (y1 == 0) then (some (!a0.Stopped)) else (some false)) fun y3 => some y3

theorem T35 (C : Nat → List A → Option A) (n : Nat) (h15 : Orc15 C) (a0 : S_Disk) : J (fun (o : R) y => ∃ v, o.1 = .ret v ∧ snapE o.2 v = (A.v (Value.bool y))) (evCall1 (cx C) (evCall (cx C) (n+8)) (evCallY (cx C) (n+8)) (n+8) 35 [(A.agg [(A.imm (List.map (cL c8) a0.Sectors) false), (A.imm (List.map c_S_Write a0.Pending) false), (A.v (Value.int .i64 a0.Left)), (A.v (Value.bool a0.Stopped))])] [] 0) some (F35 n a0) some := by
  refine .lp (e35 ..) ?_
  unfold F35
  refine .st (v := ((A.ptr 0 0), [Blk.box [(A.imm (List.map (cL c8) a0.Sectors) false), (A.imm (List.map c_S_Write a0.Pending) false), (A.v (Value.int .i64 a0.Left)), (A.v (Value.bool a0.Stopped))]])) (by kernel_rfl) ?_
  refine .st (v := (A.agg [(A.imm (List.map (cL c8) a0.Sectors) false), (A.imm (List.map c_S_Write a0.Pending) false), (A.v (Value.int .i64 a0.Left)), (A.v (Value.bool a0.Stopped))])) (by kernel_rfl) ?_
  refine .bd (g := fun (y : Int) => (A.v (Value.int .i64 y))) (by show C 15 [snap [Blk.box [(A.imm (List.map (cL c8) a0.Sectors) false), (A.imm (List.map c_S_Write a0.Pending) false), (A.v (Value.int .i64 a0.Left)), (A.v (Value.bool a0.Stopped))]] (A.agg [(A.imm (List.map (cL c8) a0.Sectors) false), (A.imm (List.map c_S_Write a0.Pending) false), (A.v (Value.int .i64 a0.Left)), (A.v (Value.bool a0.Stopped))])] = _; simp only [snap, snapW, snapWs, snapWss, snapWss_map, trim, List.map_cons, List.map_nil, fl_cI, fl_c8, fl_cB, fl_cS, fl_cL, fl_S_Write, fl_S_Disk, fl_S_kinespherelaw04_Act]; exact h15 a0) fun y1 => ?_
  refine .st (v := (A.v (Value.bool (y1 == 0)))) (aBin_eql ..) ?_
  refine .bg (fun t (y : Bool) => ∃ j4 j5 j6 : A, t = [(A.v (Value.bool y)), j4, j5, j6]) ?_ ?_
  · refine .biH (fun hk2 => ?_) (fun hk2 => ?_)
    · refine .st (v := (A.ptr 0 3)) (by kernel_rfl) ?_
      refine .st (v := (A.v (Value.bool a0.Stopped))) (by kernel_rfl) ?_
      refine .st (v := (A.v (Value.bool (!a0.Stopped)))) (by kernel_rfl) ?_
      exact .lg ⟨_, _, _, rfl⟩
    · exact .lg ⟨_, _, _, rfl⟩
  rintro _ y3 ⟨j4, j5, j6, rfl⟩
  iterate 4 refine .uc ?_
  exact .lf rfl rfl ⟨_, rfl, rfl⟩

def G35 (a0 : S_Disk) : Option Bool := F35 fuel0 a0

def Orc35 (C : Nat → List A → Option A) : Prop := ∀ (a0 : S_Disk), C 35 [(A.agg [(A.imm (List.map (cL c8) a0.Sectors) false), (A.imm (List.map c_S_Write a0.Pending) false), (A.v (Value.int .i64 a0.Left)), (A.v (Value.bool a0.Stopped))])] = (G35 a0).map fun y => (A.v (Value.bool y))

def F36 (n : Nat) (a0 : S_Disk) (a1 : Int) : Option Bool :=
  Option.bind (bif (decide (0 ≤ a1)) then (some (decide (a1 < ((a0.Sectors.length : Int))))) else (some false)) fun y2 => some y2

theorem T36 (C : Nat → List A → Option A) (n : Nat) (a0 : S_Disk) (a1 : Int) : J (fun (o : R) y => ∃ v, o.1 = .ret v ∧ snapE o.2 v = (A.v (Value.bool y))) (evCall1 (cx C) (evCall (cx C) (n+8)) (evCallY (cx C) (n+8)) (n+8) 36 [(A.agg [(A.imm (List.map (cL c8) a0.Sectors) false), (A.imm (List.map c_S_Write a0.Pending) false), (A.v (Value.int .i64 a0.Left)), (A.v (Value.bool a0.Stopped))]), (A.v (Value.int .i64 a1))] [] 0) some (F36 n a0 a1) some := by
  refine .lp (e36 ..) ?_
  unfold F36
  refine .st (v := ((A.ptr 0 0), [Blk.box [(A.imm (List.map (cL c8) a0.Sectors) false), (A.imm (List.map c_S_Write a0.Pending) false), (A.v (Value.int .i64 a0.Left)), (A.v (Value.bool a0.Stopped))]])) (by kernel_rfl) ?_
  refine .st (v := (A.v (Value.bool (decide (0 ≤ a1))))) (aBin_geq ..) ?_
  refine .bg (fun t (y : Bool) => ∃ j3 j4 j5 j6 j7 : A, t = [(A.v (Value.bool y)), j3, j4, j5, j6, j7]) ?_ ?_
  · refine .biH (fun hk1 => ?_) (fun hk1 => ?_)
    · refine .st (v := (A.ptr 0 0)) (by kernel_rfl) ?_
      refine .st (v := (A.imm (List.map (cL c8) a0.Sectors) false)) (by kernel_rfl) ?_
      refine .st (v := (A.v (Value.int .i64 ((a0.Sectors.length : Int))))) (len_imm (e := 35) (h1 := by kernel_rfl) ..) ?_
      refine .st (v := (A.v (Value.bool (decide (a1 < ((a0.Sectors.length : Int))))))) (aBin_lss ..) ?_
      exact .lg ⟨_, _, _, _, _, rfl⟩
    · exact .lg ⟨_, _, _, _, _, rfl⟩
  rintro _ y2 ⟨j3, j4, j5, j6, j7, rfl⟩
  iterate 6 refine .uc ?_
  exact .lf rfl rfl ⟨_, rfl, rfl⟩

def G36 (a0 : S_Disk) (a1 : Int) : Option Bool := F36 fuel0 a0 a1

def Orc36 (C : Nat → List A → Option A) : Prop := ∀ (a0 : S_Disk) (a1 : Int), C 36 [(A.agg [(A.imm (List.map (cL c8) a0.Sectors) false), (A.imm (List.map c_S_Write a0.Pending) false), (A.v (Value.int .i64 a0.Left)), (A.v (Value.bool a0.Stopped))]), (A.v (Value.int .i64 a1))] = (G36 a0 a1).map fun y => (A.v (Value.bool y))

def F38 (n : Nat) (a0 : (List S_Write)) : Option (List S_Write) :=
  Option.bind (appI 32 ([]) a0) fun y1 => some y1

theorem T38 (C : Nat → List A → Option A) (n : Nat) (a0 : (List S_Write)) : J (fun (o : R) y => ∃ v, o.1 = .ret v ∧ snapE o.2 v = (A.imm (List.map c_S_Write y) false)) (evCall1 (cx C) (evCall (cx C) (n+8)) (evCallY (cx C) (n+8)) (n+8) 38 [(A.imm (List.map c_S_Write a0) false)] [] 0) some (F38 n a0) some := by
  refine .lp (e38 ..) ?_
  unfold F38
  refine .st (v := (A.nq (List.map c_S_Write a0))) (nq_imm (e := 54) (by kernel_rfl)) ?_
  refine .nq (f := c_S_Write) (l := a0) (fun hn => by rw [hn]; kernel_rfl) ?_
  refine .st (v := (A.imm [] true)) (by kernel_rfl) ?_
  refine .bd (g := fun (y : List S_Write) => ((A.sl 0 0 y.length false), [Blk.row false 2 (List.map c_S_Write y)])) (app_imm (e := 54) (es := 2) (by_ := 32) (z := [(A.v (Value.int .i64 0)), (A.imm [] true)]) (by kernel_rfl) (by kernel_rfl) (by kernel_rfl) (by kernel_rfl) rfl (by decide) (by decide) (by kernel_rfl) (f := c_S_Write) (fun _ => rfl) ce_S_Write (l := []) (l2 := a0) (els_imm ..)) fun y1 => ?_
  exact .lf rfl rfl ⟨_, rfl, by show snapE [Blk.row false 2 (List.map c_S_Write y1)] (A.sl 0 0 y1.length false) = _; first | (simp only [snap, snapW, snapWs, snapWss, snapWss_map, trim, List.map_cons, List.map_nil, fl_cI, fl_c8, fl_cB, fl_cS, fl_cL, fl_S_Write, fl_S_Disk, fl_S_kinespherelaw04_Act, snapE, snapGE_row (H := [Blk.row false 2 (List.map c_S_Write y1)]) (b := 0) (es := 2) (wr := false) (l := y1) fl_S_Write rfl]; done) | (simp only [snap, snapW, snapWs, snapWss, snapWss_map, trim, fl_cI, fl_c8, fl_cB, fl_cS, fl_cL, fl_S_Write, fl_S_Disk, fl_S_kinespherelaw04_Act, snapE, snapGE_row (H := [Blk.row false 2 (List.map c_S_Write y1)]) (b := 0) (es := 2) (wr := false) (l := y1) fl_S_Write rfl]; done) | (simp only [snap, snapW, snapWs, snapWss, snapWss_map, trim, fl_cI, fl_c8, fl_cB, fl_cS, fl_cL, fl_S_Write, fl_S_Disk, fl_S_kinespherelaw04_Act, snapE, snapGE_row (H := [Blk.row false 2 (List.map c_S_Write y1)]) (b := 0) (es := 2) (wr := false) (l := y1) fl_S_Write rfl]; rfl)⟩

def G38 (a0 : (List S_Write)) : Option (List S_Write) := F38 fuel0 a0

def Orc38 (C : Nat → List A → Option A) : Prop := ∀ (a0 : (List S_Write)), C 38 [(A.imm (List.map c_S_Write a0) false)] = (G38 a0).map fun y => (A.imm (List.map c_S_Write y) false)

def F19 (n : Nat) (a0 : S_Disk) (a1 : Int) (a2 : (List UInt8)) : Option (S_Disk × Int) :=
  Option.bind (G35 a0) fun y1 => Option.bind (bif (!y1) then (some true) else (Option.bind (G36 a0 a1) fun y3 => some (!y3))) fun y4 => bif y4 then (some (((S_Disk.mk ([]) ([]) 0 false), 40))) else (bif (decide (128 < ((a2.length : Int)))) then (some (((S_Disk.mk ([]) ([]) 0 false), 1))) else (bif (((a0.Pending.length : Int)) == 4096) then (some (((S_Disk.mk ([]) ([]) 0 false), 2))) else (Option.bind (mkI 1 128 ((0 : UInt8))) fun y12 => Option.bind (G38 a0.Pending) fun y13 => Option.bind (subI y13 0 ((y13.length : Int))) fun y14 => Option.bind (appI 32 y14 ([(S_Write.mk a1 ((List.take y12.length (List.drop 0 ((copyI y12 0 y12.length a2))))))])) fun y15 => some (((S_Disk.mk a0.Sectors y15 a0.Left a0.Stopped), 0)))))

theorem T19 (C : Nat → List A → Option A) (n : Nat) (h35 : Orc35 C) (h36 : Orc36 C) (h38 : Orc38 C) (a0 : S_Disk) (a1 : Int) (a2 : (List UInt8)) : J (fun (o : R) y => ∃ v, o.1 = .ret v ∧ snapE o.2 v = (A.tup [(A.agg [(A.imm (List.map (cL c8) y.1.Sectors) false), (A.imm (List.map c_S_Write y.1.Pending) false), (A.v (Value.int .i64 y.1.Left)), (A.v (Value.bool y.1.Stopped))]), (A.v (Value.int .i64 y.2))])) (evCall1 (cx C) (evCall (cx C) (n+8)) (evCallY (cx C) (n+8)) (n+8) 19 [(A.agg [(A.imm (List.map (cL c8) a0.Sectors) false), (A.imm (List.map c_S_Write a0.Pending) false), (A.v (Value.int .i64 a0.Left)), (A.v (Value.bool a0.Stopped))]), (A.v (Value.int .i64 a1)), (A.imm (List.map c8 a2) false)] [] 0) some (F19 n a0 a1 a2) some := by
  refine .lp (e19 ..) ?_
  unfold F19
  refine .st (v := ((A.ptr 0 0), [Blk.box [(A.imm (List.map (cL c8) a0.Sectors) false), (A.imm (List.map c_S_Write a0.Pending) false), (A.v (Value.int .i64 a0.Left)), (A.v (Value.bool a0.Stopped))]])) (by kernel_rfl) ?_
  refine .st (v := ((A.ptr 1 0), [Blk.box [(A.imm (List.map (cL c8) a0.Sectors) false), (A.imm (List.map c_S_Write a0.Pending) false), (A.v (Value.int .i64 a0.Left)), (A.v (Value.bool a0.Stopped))], Blk.box [(A.imm [] true), (A.imm [] true), (A.v (Value.int .i64 0)), (A.v (Value.bool false))]])) (by kernel_rfl) ?_
  refine .st (v := (A.agg [(A.imm (List.map (cL c8) a0.Sectors) false), (A.imm (List.map c_S_Write a0.Pending) false), (A.v (Value.int .i64 a0.Left)), (A.v (Value.bool a0.Stopped))])) (by kernel_rfl) ?_
  refine .bd (g := fun (y : Bool) => (A.v (Value.bool y))) (by show C 35 [snap [Blk.box [(A.imm (List.map (cL c8) a0.Sectors) false), (A.imm (List.map c_S_Write a0.Pending) false), (A.v (Value.int .i64 a0.Left)), (A.v (Value.bool a0.Stopped))], Blk.box [(A.imm [] true), (A.imm [] true), (A.v (Value.int .i64 0)), (A.v (Value.bool false))]] (A.agg [(A.imm (List.map (cL c8) a0.Sectors) false), (A.imm (List.map c_S_Write a0.Pending) false), (A.v (Value.int .i64 a0.Left)), (A.v (Value.bool a0.Stopped))])] = _; simp only [snap, snapW, snapWs, snapWss, snapWss_map, trim, List.map_cons, List.map_nil, fl_cI, fl_c8, fl_cB, fl_cS, fl_cL, fl_S_Write, fl_S_Disk, fl_S_kinespherelaw04_Act]; exact h35 a0) fun y1 => ?_
  refine .st (v := (A.v (Value.bool (!y1)))) (by kernel_rfl) ?_
  refine .bg (fun t (y : Bool) => ∃ j5 j6 j7 j8 : A, t = [(A.v (Value.bool y)), j5, j6, j7, j8]) ?_ ?_
  · refine .biH (fun hk2 => ?_) (fun hk2 => ?_)
    · exact .lg ⟨_, _, _, _, rfl⟩
    · refine .st (v := (A.agg [(A.imm (List.map (cL c8) a0.Sectors) false), (A.imm (List.map c_S_Write a0.Pending) false), (A.v (Value.int .i64 a0.Left)), (A.v (Value.bool a0.Stopped))])) (by kernel_rfl) ?_
      refine .bd (g := fun (y : Bool) => (A.v (Value.bool y))) (by show C 36 [snap [Blk.box [(A.imm (List.map (cL c8) a0.Sectors) false), (A.imm (List.map c_S_Write a0.Pending) false), (A.v (Value.int .i64 a0.Left)), (A.v (Value.bool a0.Stopped))], Blk.box [(A.imm [] true), (A.imm [] true), (A.v (Value.int .i64 0)), (A.v (Value.bool false))]] (A.agg [(A.imm (List.map (cL c8) a0.Sectors) false), (A.imm (List.map c_S_Write a0.Pending) false), (A.v (Value.int .i64 a0.Left)), (A.v (Value.bool a0.Stopped))]), snap [Blk.box [(A.imm (List.map (cL c8) a0.Sectors) false), (A.imm (List.map c_S_Write a0.Pending) false), (A.v (Value.int .i64 a0.Left)), (A.v (Value.bool a0.Stopped))], Blk.box [(A.imm [] true), (A.imm [] true), (A.v (Value.int .i64 0)), (A.v (Value.bool false))]] (A.v (Value.int .i64 a1))] = _; simp only [snap, snapW, snapWs, snapWss, snapWss_map, trim, List.map_cons, List.map_nil, fl_cI, fl_c8, fl_cB, fl_cS, fl_cL, fl_S_Write, fl_S_Disk, fl_S_kinespherelaw04_Act]; exact h36 a0 a1) fun y3 => ?_
      refine .st (v := (A.v (Value.bool (!y3)))) (by kernel_rfl) ?_
      exact .lg ⟨_, _, _, _, rfl⟩
  rintro _ y4 ⟨j5, j6, j7, j8, rfl⟩
  iterate 5 refine .uc ?_
  refine .biHN (fun hk9 => ?_) (fun hk9 => ?_)
  · refine .st (v := (A.agg [(A.imm [] true), (A.imm [] true), (A.v (Value.int .i64 0)), (A.v (Value.bool false))])) (by kernel_rfl) ?_
    refine .st (v := [Blk.box [(A.imm (List.map (cL c8) a0.Sectors) false), (A.imm (List.map c_S_Write a0.Pending) false), (A.v (Value.int .i64 a0.Left)), (A.v (Value.bool a0.Stopped))], Blk.box [(A.imm [] true), (A.imm [] true), (A.v (Value.int .i64 0)), (A.v (Value.bool false))]]) (by kernel_rfl) ?_
    refine .st (v := (A.agg [(A.imm [] true), (A.imm [] true), (A.v (Value.int .i64 0)), (A.v (Value.bool false))])) (by kernel_rfl) ?_
    exact .lf rfl rfl ⟨_, rfl, by show snapE [Blk.box [(A.imm (List.map (cL c8) a0.Sectors) false), (A.imm (List.map c_S_Write a0.Pending) false), (A.v (Value.int .i64 a0.Left)), (A.v (Value.bool a0.Stopped))], Blk.box [(A.imm [] true), (A.imm [] true), (A.v (Value.int .i64 0)), (A.v (Value.bool false))]] (A.tup [(A.agg [(A.imm [] true), (A.imm [] true), (A.v (Value.int .i64 0)), (A.v (Value.bool false))]), (A.v (Value.int .i64 40))]) = _; first | (simp only [snap, snapW, snapWs, snapWss, snapWss_map, trim, List.map_cons, List.map_nil, fl_cI, fl_c8, fl_cB, fl_cS, fl_cL, fl_S_Write, fl_S_Disk, fl_S_kinespherelaw04_Act, snapE]; done) | (simp only [snap, snapW, snapWs, snapWss, snapWss_map, trim, fl_cI, fl_c8, fl_cB, fl_cS, fl_cL, fl_S_Write, fl_S_Disk, fl_S_kinespherelaw04_Act, snapE]; done) | (simp only [snap, snapW, snapWs, snapWss, snapWss_map, trim, fl_cI, fl_c8, fl_cB, fl_cS, fl_cL, fl_S_Write, fl_S_Disk, fl_S_kinespherelaw04_Act, snapE]; rfl)⟩
  · refine .st (v := (A.v (Value.int .i64 ((a2.length : Int))))) (len_imm (e := 5) (h1 := by kernel_rfl) ..) ?_
    refine .st (v := (A.v (Value.bool (decide (128 < ((a2.length : Int))))))) (aBin_gtr ..) ?_
    refine .biHN (fun hk10 => ?_) (fun hk10 => ?_)
    · refine .st (v := (A.agg [(A.imm [] true), (A.imm [] true), (A.v (Value.int .i64 0)), (A.v (Value.bool false))])) (by kernel_rfl) ?_
      refine .st (v := [Blk.box [(A.imm (List.map (cL c8) a0.Sectors) false), (A.imm (List.map c_S_Write a0.Pending) false), (A.v (Value.int .i64 a0.Left)), (A.v (Value.bool a0.Stopped))], Blk.box [(A.imm [] true), (A.imm [] true), (A.v (Value.int .i64 0)), (A.v (Value.bool false))]]) (by kernel_rfl) ?_
      refine .st (v := (A.agg [(A.imm [] true), (A.imm [] true), (A.v (Value.int .i64 0)), (A.v (Value.bool false))])) (by kernel_rfl) ?_
      exact .lf rfl rfl ⟨_, rfl, by show snapE [Blk.box [(A.imm (List.map (cL c8) a0.Sectors) false), (A.imm (List.map c_S_Write a0.Pending) false), (A.v (Value.int .i64 a0.Left)), (A.v (Value.bool a0.Stopped))], Blk.box [(A.imm [] true), (A.imm [] true), (A.v (Value.int .i64 0)), (A.v (Value.bool false))]] (A.tup [(A.agg [(A.imm [] true), (A.imm [] true), (A.v (Value.int .i64 0)), (A.v (Value.bool false))]), (A.v (Value.int .i64 1))]) = _; first | (simp only [snap, snapW, snapWs, snapWss, snapWss_map, trim, List.map_cons, List.map_nil, fl_cI, fl_c8, fl_cB, fl_cS, fl_cL, fl_S_Write, fl_S_Disk, fl_S_kinespherelaw04_Act, snapE]; done) | (simp only [snap, snapW, snapWs, snapWss, snapWss_map, trim, fl_cI, fl_c8, fl_cB, fl_cS, fl_cL, fl_S_Write, fl_S_Disk, fl_S_kinespherelaw04_Act, snapE]; done) | (simp only [snap, snapW, snapWs, snapWss, snapWss_map, trim, fl_cI, fl_c8, fl_cB, fl_cS, fl_cL, fl_S_Write, fl_S_Disk, fl_S_kinespherelaw04_Act, snapE]; rfl)⟩
    · refine .st (v := (A.ptr 0 1)) (by kernel_rfl) ?_
      refine .st (v := (A.imm (List.map c_S_Write a0.Pending) false)) (by kernel_rfl) ?_
      refine .st (v := (A.v (Value.int .i64 ((a0.Pending.length : Int))))) (len_imm (e := 54) (h1 := by kernel_rfl) ..) ?_
      refine .st (v := (A.v (Value.bool (((a0.Pending.length : Int)) == 4096)))) (aBin_eql ..) ?_
      refine .biHN (fun hk11 => ?_) (fun hk11 => ?_)
      · refine .st (v := (A.agg [(A.imm [] true), (A.imm [] true), (A.v (Value.int .i64 0)), (A.v (Value.bool false))])) (by kernel_rfl) ?_
        refine .st (v := [Blk.box [(A.imm (List.map (cL c8) a0.Sectors) false), (A.imm (List.map c_S_Write a0.Pending) false), (A.v (Value.int .i64 a0.Left)), (A.v (Value.bool a0.Stopped))], Blk.box [(A.imm [] true), (A.imm [] true), (A.v (Value.int .i64 0)), (A.v (Value.bool false))]]) (by kernel_rfl) ?_
        refine .st (v := (A.agg [(A.imm [] true), (A.imm [] true), (A.v (Value.int .i64 0)), (A.v (Value.bool false))])) (by kernel_rfl) ?_
        exact .lf rfl rfl ⟨_, rfl, by show snapE [Blk.box [(A.imm (List.map (cL c8) a0.Sectors) false), (A.imm (List.map c_S_Write a0.Pending) false), (A.v (Value.int .i64 a0.Left)), (A.v (Value.bool a0.Stopped))], Blk.box [(A.imm [] true), (A.imm [] true), (A.v (Value.int .i64 0)), (A.v (Value.bool false))]] (A.tup [(A.agg [(A.imm [] true), (A.imm [] true), (A.v (Value.int .i64 0)), (A.v (Value.bool false))]), (A.v (Value.int .i64 2))]) = _; first | (simp only [snap, snapW, snapWs, snapWss, snapWss_map, trim, List.map_cons, List.map_nil, fl_cI, fl_c8, fl_cB, fl_cS, fl_cL, fl_S_Write, fl_S_Disk, fl_S_kinespherelaw04_Act, snapE]; done) | (simp only [snap, snapW, snapWs, snapWss, snapWss_map, trim, fl_cI, fl_c8, fl_cB, fl_cS, fl_cL, fl_S_Write, fl_S_Disk, fl_S_kinespherelaw04_Act, snapE]; done) | (simp only [snap, snapW, snapWs, snapWss, snapWss_map, trim, fl_cI, fl_c8, fl_cB, fl_cS, fl_cL, fl_S_Write, fl_S_Disk, fl_S_kinespherelaw04_Act, snapE]; rfl)⟩
      · refine .bd (g := fun (y : List UInt8) => ((A.sl 2 0 y.length false), [Blk.box [(A.imm (List.map (cL c8) a0.Sectors) false), (A.imm (List.map c_S_Write a0.Pending) false), (A.v (Value.int .i64 a0.Left)), (A.v (Value.bool a0.Stopped))], Blk.box [(A.imm [] true), (A.imm [] true), (A.v (Value.int .i64 0)), (A.v (Value.bool false))], Blk.row true 1 (List.map c8 y)])) (wrow_make (e := 5) (es := 1) (f := c8) (z := (0 : UInt8)) (z' := [(A.v (Value.int .u8 0))]) (by kernel_rfl) (by kernel_rfl) (by kernel_rfl) (by kernel_rfl) rfl (by decide) (fun _ => rfl)) fun y12 => ?_
        refine .st (v := ((A.v (Value.int .i64 (((min a2.length y12.length : Nat) : Int)))), [Blk.box [(A.imm (List.map (cL c8) a0.Sectors) false), (A.imm (List.map c_S_Write a0.Pending) false), (A.v (Value.int .i64 a0.Left)), (A.v (Value.bool a0.Stopped))], Blk.box [(A.imm [] true), (A.imm [] true), (A.v (Value.int .i64 0)), (A.v (Value.bool false))], Blk.row true 1 (List.map c8 ((copyI y12 0 y12.length a2)))])) (wrow_copy (e := 5) (es := 1) (f := c8) (l := y12) (l2 := a2) (by kernel_rfl) (by kernel_rfl) (by decide) (fun _ => rfl) ce_c8 (by decide) rfl (els_imm ..)) ?_
        refine .st (v := ((A.imm (List.map c8 ((List.take y12.length (List.drop 0 ((copyI y12 0 y12.length a2)))))) false), [Blk.box [(A.imm (List.map (cL c8) a0.Sectors) false), (A.imm (List.map c_S_Write a0.Pending) false), (A.v (Value.int .i64 a0.Left)), (A.v (Value.bool a0.Stopped))], Blk.box [(A.imm [] true), (A.imm [] true), (A.v (Value.int .i64 0)), (A.v (Value.bool false))], Blk.dead])) (kill_row (es := 1) (l := (copyI y12 0 y12.length a2)) fl_c8 rfl (by decide)) ?_
        refine .st (v := (A.ptr 0 1)) (by kernel_rfl) ?_
        refine .st (v := (A.imm (List.map c_S_Write a0.Pending) false)) (by kernel_rfl) ?_
        refine .bd (g := fun (y : (List S_Write)) => (A.imm (List.map c_S_Write y) false)) (by show C 38 [snap [Blk.box [(A.imm (List.map (cL c8) a0.Sectors) false), (A.imm (List.map c_S_Write a0.Pending) false), (A.v (Value.int .i64 a0.Left)), (A.v (Value.bool a0.Stopped))], Blk.box [(A.imm [] true), (A.imm [] true), (A.v (Value.int .i64 0)), (A.v (Value.bool false))], Blk.dead] (A.imm (List.map c_S_Write a0.Pending) false)] = _; simp only [snap, snapW, snapWs, snapWss, snapWss_map, trim, List.map_cons, List.map_nil, fl_cI, fl_c8, fl_cB, fl_cS, fl_cL, fl_S_Write, fl_S_Disk, fl_S_kinespherelaw04_Act]; exact h38 a0.Pending) fun y13 => ?_
        refine .cl ((evCall_in lt_37).trans (e37 C (evCall (cx C) (n+7)) (evCallY (cx C) (n+7)) (n+7) _ _ _)) ?_
        refine .st (v := (A.v (Value.int .i64 ((y13.length : Int))))) (len_imm (e := 54) (h1 := by kernel_rfl) ..) ?_
        refine .st (v := (A.v (Value.int .i64 ((y13.length : Int))))) (len_imm (e := 54) (h1 := by kernel_rfl) ..) ?_
        refine .bd (g := fun (y : List S_Write) => (A.imm (List.map c_S_Write y) true)) (cut_imm3 (e := 54) (es := 2) (f := c_S_Write) (l := y13) (a := 0) (b := (y13.length : Int)) (by kernel_rfl) (by kernel_rfl) (fun _ => rfl) (.inl ⟨rfl, rfl⟩)) fun y14 => ?_
        refine .cr ?_
        refine .ok ?_
        refine .st (v := (A.agg [(A.v (Value.int .i64 a1)), (A.imm (List.map c8 ((List.take y12.length (List.drop 0 ((copyI y12 0 y12.length a2)))))) false)])) (by kernel_rfl) ?_
        refine .st (v := (A.imm [[(A.v (Value.int .i64 a1)), (A.imm (List.map c8 ((List.take y12.length (List.drop 0 ((copyI y12 0 y12.length a2)))))) false)]] true)) (by kernel_rfl) ?_
        refine .bd (g := fun (y : List S_Write) => ((A.sl 3 0 y.length false), [Blk.box [(A.imm (List.map (cL c8) a0.Sectors) false), (A.imm (List.map c_S_Write a0.Pending) false), (A.v (Value.int .i64 a0.Left)), (A.v (Value.bool a0.Stopped))], Blk.box [(A.imm [] true), (A.imm [] true), (A.v (Value.int .i64 0)), (A.v (Value.bool false))], Blk.dead, Blk.row false 2 (List.map c_S_Write y)])) (app_imm (e := 54) (es := 2) (by_ := 32) (z := [(A.v (Value.int .i64 0)), (A.imm [] true)]) (by kernel_rfl) (by kernel_rfl) (by kernel_rfl) (by kernel_rfl) rfl (by decide) (by decide) (by kernel_rfl) (f := c_S_Write) (fun _ => rfl) ce_S_Write (l := y14) (l2 := [(S_Write.mk a1 ((List.take y12.length (List.drop 0 ((copyI y12 0 y12.length a2))))))]) (els_imm (f := c_S_Write) ([(S_Write.mk a1 ((List.take y12.length (List.drop 0 ((copyI y12 0 y12.length a2))))))] : List S_Write) _ _)) fun y15 => ?_
        refine .st (v := (A.ptr 0 1)) (by kernel_rfl) ?_
        refine .st (v := [Blk.box [(A.imm (List.map (cL c8) a0.Sectors) false), (A.sl 3 0 y15.length false), (A.v (Value.int .i64 a0.Left)), (A.v (Value.bool a0.Stopped))], Blk.box [(A.imm [] true), (A.imm [] true), (A.v (Value.int .i64 0)), (A.v (Value.bool false))], Blk.dead, Blk.row false 2 (List.map c_S_Write y15)]) (by kernel_rfl) ?_
        refine .st (v := (A.agg [(A.imm (List.map (cL c8) a0.Sectors) false), (A.sl 3 0 y15.length false), (A.v (Value.int .i64 a0.Left)), (A.v (Value.bool a0.Stopped))])) (by kernel_rfl) ?_
        refine .st (v := [Blk.box [(A.imm (List.map (cL c8) a0.Sectors) false), (A.sl 3 0 y15.length false), (A.v (Value.int .i64 a0.Left)), (A.v (Value.bool a0.Stopped))], Blk.box [(A.imm (List.map (cL c8) a0.Sectors) false), (A.sl 3 0 y15.length false), (A.v (Value.int .i64 a0.Left)), (A.v (Value.bool a0.Stopped))], Blk.dead, Blk.row false 2 (List.map c_S_Write y15)]) (by kernel_rfl) ?_
        refine .st (v := (A.agg [(A.imm (List.map (cL c8) a0.Sectors) false), (A.sl 3 0 y15.length false), (A.v (Value.int .i64 a0.Left)), (A.v (Value.bool a0.Stopped))])) (by kernel_rfl) ?_
        exact .lf rfl rfl ⟨_, rfl, by show snapE [Blk.box [(A.imm (List.map (cL c8) a0.Sectors) false), (A.sl 3 0 y15.length false), (A.v (Value.int .i64 a0.Left)), (A.v (Value.bool a0.Stopped))], Blk.box [(A.imm (List.map (cL c8) a0.Sectors) false), (A.sl 3 0 y15.length false), (A.v (Value.int .i64 a0.Left)), (A.v (Value.bool a0.Stopped))], Blk.dead, Blk.row false 2 (List.map c_S_Write y15)] (A.tup [(A.agg [(A.imm (List.map (cL c8) a0.Sectors) false), (A.sl 3 0 y15.length false), (A.v (Value.int .i64 a0.Left)), (A.v (Value.bool a0.Stopped))]), (A.v (Value.int .i64 0))]) = _; first | (simp only [snap, snapW, snapWs, snapWss, snapWss_map, trim, List.map_cons, List.map_nil, fl_cI, fl_c8, fl_cB, fl_cS, fl_cL, fl_S_Write, fl_S_Disk, fl_S_kinespherelaw04_Act, snapE, snapGE_row (H := [Blk.box [(A.imm (List.map (cL c8) a0.Sectors) false), (A.sl 3 0 y15.length false), (A.v (Value.int .i64 a0.Left)), (A.v (Value.bool a0.Stopped))], Blk.box [(A.imm (List.map (cL c8) a0.Sectors) false), (A.sl 3 0 y15.length false), (A.v (Value.int .i64 a0.Left)), (A.v (Value.bool a0.Stopped))], Blk.dead, Blk.row false 2 (List.map c_S_Write y15)]) (b := 3) (es := 2) (wr := false) (l := y15) fl_S_Write rfl]; done) | (simp only [snap, snapW, snapWs, snapWss, snapWss_map, trim, fl_cI, fl_c8, fl_cB, fl_cS, fl_cL, fl_S_Write, fl_S_Disk, fl_S_kinespherelaw04_Act, snapE, snapGE_row (H := [Blk.box [(A.imm (List.map (cL c8) a0.Sectors) false), (A.sl 3 0 y15.length false), (A.v (Value.int .i64 a0.Left)), (A.v (Value.bool a0.Stopped))], Blk.box [(A.imm (List.map (cL c8) a0.Sectors) false), (A.sl 3 0 y15.length false), (A.v (Value.int .i64 a0.Left)), (A.v (Value.bool a0.Stopped))], Blk.dead, Blk.row false 2 (List.map c_S_Write y15)]) (b := 3) (es := 2) (wr := false) (l := y15) fl_S_Write rfl]; done) | (simp only [snap, snapW, snapWs, snapWss, snapWss_map, trim, fl_cI, fl_c8, fl_cB, fl_cS, fl_cL, fl_S_Write, fl_S_Disk, fl_S_kinespherelaw04_Act, snapE, snapGE_row (H := [Blk.box [(A.imm (List.map (cL c8) a0.Sectors) false), (A.sl 3 0 y15.length false), (A.v (Value.int .i64 a0.Left)), (A.v (Value.bool a0.Stopped))], Blk.box [(A.imm (List.map (cL c8) a0.Sectors) false), (A.sl 3 0 y15.length false), (A.v (Value.int .i64 a0.Left)), (A.v (Value.bool a0.Stopped))], Blk.dead, Blk.row false 2 (List.map c_S_Write y15)]) (b := 3) (es := 2) (wr := false) (l := y15) fl_S_Write rfl]; rfl)⟩

def G19 (a0 : S_Disk) (a1 : Int) (a2 : (List UInt8)) : Option (S_Disk × Int) := F19 fuel0 a0 a1 a2

def Orc19 (C : Nat → List A → Option A) : Prop := ∀ (a0 : S_Disk) (a1 : Int) (a2 : (List UInt8)), C 19 [(A.agg [(A.imm (List.map (cL c8) a0.Sectors) false), (A.imm (List.map c_S_Write a0.Pending) false), (A.v (Value.int .i64 a0.Left)), (A.v (Value.bool a0.Stopped))]), (A.v (Value.int .i64 a1)), (A.imm (List.map c8 a2) false)] = (G19 a0 a1 a2).map fun y => (A.tup [(A.agg [(A.imm (List.map (cL c8) y.1.Sectors) false), (A.imm (List.map c_S_Write y.1.Pending) false), (A.v (Value.int .i64 y.1.Left)), (A.v (Value.bool y.1.Stopped))]), (A.v (Value.int .i64 y.2))])

def F21_45_0 (n : Nat) (v11 : (List (List UInt8))) (v12 : (List S_Write)) (v13 : Int) (v14 : Bool) (v15 : Int) (v16 : (List UInt8)) (v17 : Int) (v18 : (List S_Write)) : Nat → Int → Option (((List UInt8) × Int × Int × (List UInt8)) ⊕ (Unit))
  | 0, _ => none
  | m + 1, v10 => bif (decide (0 ≤ v10)) then (Option.bind (getI v18 v10) fun y20 => bif (y20.At == v15) then (some ((Sum.inl ((y20.Data, 0, y20.At, y20.Data))))) else (F21_45_0 n v11 v12 v13 v14 v15 v16 v17 v18 m (wr .i64 (v10 - 1)))) else (some ((Sum.inr (()))))

theorem T21_45_0 (C : Nat → List A → Option A) (n : Nat) (h35 : Orc35 C) (h36 : Orc36 C) (v11 : (List (List UInt8))) (v12 : (List S_Write)) (v13 : Int) (v14 : Bool) (v15 : Int) (v16 : (List UInt8)) (v17 : Int) (v18 : (List S_Write)) {ρ γ : Type} {φ : ρ → γ → Prop} {kL : R → Option ρ} {K : (((List UInt8) × Int × Int × (List UInt8)) ⊕ (Unit)) → Option γ} (kx kg : Nat → St → Option R) (kr : St → Option R) (kp : A → St → Option R) (x0 : ∀ (o0 : (List UInt8)) (o1 : Int) (o2 : Int) (o3 : (List UInt8)) (s0 : A) (s1 : A) (s3 : A), J φ (kr (St.mk [(0, s0), (1, s1), (3, s3)] [Blk.box [(A.imm (List.map (cL c8) v11) false), (A.imm (List.map c_S_Write v12) false), (A.v (Value.int .i64 v13)), (A.v (Value.bool v14))], Blk.box [(A.v (Value.int .i64 v15))], Blk.box [(A.imm (List.map c8 o0) false)], Blk.box [(A.v (Value.int .i64 o1))], Blk.box [(A.imm (List.map c_S_Write v18) false)], Blk.rng (RSt.done Jmp.ret), Blk.box [(A.v (Value.int .i64 o2)), (A.imm (List.map c8 o3) false)]])) kL (K (Sum.inl ((o0, o1, o2, o3)))) some) (x1 : ∀ (s0 : A) (s1 : A) (s3 : A), J φ (kx 0 (St.mk [(0, s0), (1, s1), (3, s3)] [Blk.box [(A.imm (List.map (cL c8) v11) false), (A.imm (List.map c_S_Write v12) false), (A.v (Value.int .i64 v13)), (A.v (Value.bool v14))], Blk.box [(A.v (Value.int .i64 v15))], Blk.box [(A.imm (List.map c8 v16) true)], Blk.box [(A.v (Value.int .i64 v17))], Blk.box [(A.imm (List.map c_S_Write v18) false)], Blk.rng RSt.ready])) kL (K (Sum.inr (()))) some) :
    ∀ (m : Nat) (v10 : Int), J φ (loopR (cx C) (evCallY (cx C) (n+7) (yext 65 (evCall (cx C) (n+8)) 5 (roundR (cx C) (evCall (cx C) (n+8)) (evCallY (cx C) (n+8)) (n+8) 21 0 0 5 [(3, (A.ptr 1 0)), (4, (A.ptr 2 0)), (5, (A.ptr 3 0))]))) (evCallY (cx C) (n+7)) (n+7) 45 0 0 6 kx kg kr kp m (St.mk [(0, (A.yld 5)), (1, (A.ptr 4 0)), (3, (A.v (Value.int .i64 v10)))] [Blk.box [(A.imm (List.map (cL c8) v11) false), (A.imm (List.map c_S_Write v12) false), (A.v (Value.int .i64 v13)), (A.v (Value.bool v14))], Blk.box [(A.v (Value.int .i64 v15))], Blk.box [(A.imm (List.map c8 v16) true)], Blk.box [(A.v (Value.int .i64 v17))], Blk.box [(A.imm (List.map c_S_Write v18) false)], Blk.rng RSt.ready])) kL (F21_45_0 n v11 v12 v13 v14 v15 v16 v17 v18 m v10) K := by
  intro m
  induction m with
  | zero => intros; exact .nn
  | succ m ih =>
    intro v10
    refine .lp (e45_0 ..) ?_
    unfold F21_45_0
    refine .st (v := (A.v (Value.bool (decide (0 ≤ v10))))) (aBin_geq ..) ?_
    refine .biHN (fun hk19 => ?_) (fun hk19 => ?_)
    · refine .st (v := (A.imm (List.map c_S_Write v18) false)) (by kernel_rfl) ?_
      refine .bd (g := fun (y : S_Write) => A.ip (c_S_Write y)) (idx_imm (e := 54) (es := 2) (h1 := by kernel_rfl) (h2 := by kernel_rfl) (h3 := fun _ => rfl) ..) fun y20 => ?_
      refine .st (v := (A.agg [(A.v (Value.int .i64 y20.At)), (A.imm (List.map c8 y20.Data) false)])) (by kernel_rfl) ?_
      refine .dY rfl ?_
      refine .cl (yq.trans (yext_at.trans (e21_r0 C (evCall (cx C) (n+8)) (evCallY (cx C) (n+8)) (n+8) _ _ _ _ _ _ _ _ _))) ?_
      refine .cT (by kernel_rfl) ?_
      refine .lp (rdy_at rfl) ?_
      refine .st (v := ((A.ptr 6 0), [Blk.box [(A.imm (List.map (cL c8) v11) false), (A.imm (List.map c_S_Write v12) false), (A.v (Value.int .i64 v13)), (A.v (Value.bool v14))], Blk.box [(A.v (Value.int .i64 v15))], Blk.box [(A.imm (List.map c8 v16) true)], Blk.box [(A.v (Value.int .i64 v17))], Blk.box [(A.imm (List.map c_S_Write v18) false)], Blk.rng RSt.ready, Blk.box [(A.v (Value.int .i64 0)), (A.imm [] true)]])) (by kernel_rfl) ?_
      refine .st (v := [Blk.box [(A.imm (List.map (cL c8) v11) false), (A.imm (List.map c_S_Write v12) false), (A.v (Value.int .i64 v13)), (A.v (Value.bool v14))], Blk.box [(A.v (Value.int .i64 v15))], Blk.box [(A.imm (List.map c8 v16) true)], Blk.box [(A.v (Value.int .i64 v17))], Blk.box [(A.imm (List.map c_S_Write v18) false)], Blk.rng RSt.ready, Blk.box [(A.v (Value.int .i64 y20.At)), (A.imm (List.map c8 y20.Data) false)]]) (by kernel_rfl) ?_
      refine .lp (rdy_at rfl) ?_
      refine .st (v := (A.ptr 6 0)) (by kernel_rfl) ?_
      refine .st (v := (A.v (Value.int .i64 y20.At))) (by kernel_rfl) ?_
      refine .st (v := (A.v (Value.int .i64 v15))) (by kernel_rfl) ?_
      refine .st (v := (A.v (Value.bool (y20.At == v15)))) (aBin_eql ..) ?_
      refine .biHN (fun hk21 => ?_) (fun hk21 => ?_)
      · refine .st (v := (A.ptr 6 1)) (by kernel_rfl) ?_
        refine .st (v := (A.imm (List.map c8 y20.Data) false)) (by kernel_rfl) ?_
        refine .st (v := [Blk.box [(A.imm (List.map (cL c8) v11) false), (A.imm (List.map c_S_Write v12) false), (A.v (Value.int .i64 v13)), (A.v (Value.bool v14))], Blk.box [(A.v (Value.int .i64 v15))], Blk.box [(A.imm (List.map c8 y20.Data) false)], Blk.box [(A.v (Value.int .i64 v17))], Blk.box [(A.imm (List.map c_S_Write v18) false)], Blk.rng RSt.busy, Blk.box [(A.v (Value.int .i64 y20.At)), (A.imm (List.map c8 y20.Data) false)]]) (by kernel_rfl) ?_
        refine .st (v := [Blk.box [(A.imm (List.map (cL c8) v11) false), (A.imm (List.map c_S_Write v12) false), (A.v (Value.int .i64 v13)), (A.v (Value.bool v14))], Blk.box [(A.v (Value.int .i64 v15))], Blk.box [(A.imm (List.map c8 y20.Data) false)], Blk.box [(A.v (Value.int .i64 0))], Blk.box [(A.imm (List.map c_S_Write v18) false)], Blk.rng RSt.busy, Blk.box [(A.v (Value.int .i64 y20.At)), (A.imm (List.map c8 y20.Data) false)]]) (by kernel_rfl) ?_
        refine .lp (bsy_at rfl) ?_
        refine .cr ?_
        refine .ok ?_
        refine .st (v := (A.v (Value.bool true))) (by kernel_rfl) ?_
        refine .bTN ?_
        exact .ex (x0 _ _ _ _ _ _ _)
      · refine .lp (bsy_at rfl) ?_
        refine .cr ?_
        refine .ok ?_
        refine .st (v := (A.v (Value.bool false))) (by kernel_rfl) ?_
        refine .bFN ?_
        refine .st (v := (A.v (Value.int .i64 (wr .i64 (v10 - 1))))) (aBin_sub ..) ?_
        refine .st (v := [Blk.box [(A.imm (List.map (cL c8) v11) false), (A.imm (List.map c_S_Write v12) false), (A.v (Value.int .i64 v13)), (A.v (Value.bool v14))], Blk.box [(A.v (Value.int .i64 v15))], Blk.box [(A.imm (List.map c8 v16) true)], Blk.box [(A.v (Value.int .i64 v17))], Blk.box [(A.imm (List.map c_S_Write v18) false)], Blk.rng RSt.ready]) ((by kernel_rfl : _ = (bif ((((underss 6 (List.map (cL c8) v11)) && ((underss 6 (List.map c_S_Write v12)) && true))) && ((((underss 6 (List.map c8 v16)) && true)) && ((((underss 6 (List.map c_S_Write v18)) && true)) && true))) then some [Blk.box [(A.imm (List.map (cL c8) v11) false), (A.imm (List.map c_S_Write v12) false), (A.v (Value.int .i64 v13)), (A.v (Value.bool v14))], Blk.box [(A.v (Value.int .i64 v15))], Blk.box [(A.imm (List.map c8 v16) true)], Blk.box [(A.v (Value.int .i64 v17))], Blk.box [(A.imm (List.map c_S_Write v18) false)], Blk.rng RSt.ready] else none)).trans (by simp only [underss_map, fu_cI, fu_c8, fu_cB, fu_cS, fu_cL, fu_S_Write, fu_S_Disk, fu_S_kinespherelaw04_Act,  Bool.and_true, Bool.true_and, cond_true])) ?_
        refine .cT (by kernel_rfl) ?_
        exact ih _
    · exact .ex (x1 _ _ _)

def F21 (n : Nat) (a0 : S_Disk) (a1 : Int) : Option ((List UInt8) × Int) :=
  Option.bind (G35 a0) fun y1 => Option.bind (bif (!y1) then (some true) else (Option.bind (G36 a0 a1) fun y3 => some (!y3))) fun y4 => bif y4 then (some (([], 40))) else (Option.bind (F21_45_0 n a0.Sectors a0.Pending a0.Left a0.Stopped a1 ([]) 0 a0.Pending (n+7) (wr .i64 (((a0.Pending.length : Int)) - 1))) fun o22 => match o22 with | (Sum.inl ((y23, y24, y25, y26))) => some ((y23, y24)) | (Sum.inr _) => Option.bind (getI a0.Sectors a1) fun y33 => some ((y33, 0)))

theorem T21 (C : Nat → List A → Option A) (n : Nat) (h35 : Orc35 C) (h36 : Orc36 C) (a0 : S_Disk) (a1 : Int) : J (fun (o : R) y => ∃ v, o.1 = .ret v ∧ snapE o.2 v = (A.tup [(A.imm (List.map c8 y.1) false), (A.v (Value.int .i64 y.2))])) (evCall1 (cx C) (evCall (cx C) (n+8)) (evCallY (cx C) (n+8)) (n+8) 21 [(A.agg [(A.imm (List.map (cL c8) a0.Sectors) false), (A.imm (List.map c_S_Write a0.Pending) false), (A.v (Value.int .i64 a0.Left)), (A.v (Value.bool a0.Stopped))]), (A.v (Value.int .i64 a1))] [] 0) some (F21 n a0 a1) some := by
  refine .lp (e21 ..) ?_
  unfold F21
  refine .st (v := ((A.ptr 0 0), [Blk.box [(A.imm (List.map (cL c8) a0.Sectors) false), (A.imm (List.map c_S_Write a0.Pending) false), (A.v (Value.int .i64 a0.Left)), (A.v (Value.bool a0.Stopped))]])) (by kernel_rfl) ?_
  refine .st (v := ((A.ptr 1 0), [Blk.box [(A.imm (List.map (cL c8) a0.Sectors) false), (A.imm (List.map c_S_Write a0.Pending) false), (A.v (Value.int .i64 a0.Left)), (A.v (Value.bool a0.Stopped))], Blk.box [(A.v (Value.int .i64 a1))]])) (by kernel_rfl) ?_
  refine .st (v := ((A.ptr 2 0), [Blk.box [(A.imm (List.map (cL c8) a0.Sectors) false), (A.imm (List.map c_S_Write a0.Pending) false), (A.v (Value.int .i64 a0.Left)), (A.v (Value.bool a0.Stopped))], Blk.box [(A.v (Value.int .i64 a1))], Blk.box [(A.imm [] true)]])) (by kernel_rfl) ?_
  refine .st (v := ((A.ptr 3 0), [Blk.box [(A.imm (List.map (cL c8) a0.Sectors) false), (A.imm (List.map c_S_Write a0.Pending) false), (A.v (Value.int .i64 a0.Left)), (A.v (Value.bool a0.Stopped))], Blk.box [(A.v (Value.int .i64 a1))], Blk.box [(A.imm [] true)], Blk.box [(A.v (Value.int .i64 0))]])) (by kernel_rfl) ?_
  refine .st (v := (A.agg [(A.imm (List.map (cL c8) a0.Sectors) false), (A.imm (List.map c_S_Write a0.Pending) false), (A.v (Value.int .i64 a0.Left)), (A.v (Value.bool a0.Stopped))])) (by kernel_rfl) ?_
  refine .bd (g := fun (y : Bool) => (A.v (Value.bool y))) (by show C 35 [snap [Blk.box [(A.imm (List.map (cL c8) a0.Sectors) false), (A.imm (List.map c_S_Write a0.Pending) false), (A.v (Value.int .i64 a0.Left)), (A.v (Value.bool a0.Stopped))], Blk.box [(A.v (Value.int .i64 a1))], Blk.box [(A.imm [] true)], Blk.box [(A.v (Value.int .i64 0))]] (A.agg [(A.imm (List.map (cL c8) a0.Sectors) false), (A.imm (List.map c_S_Write a0.Pending) false), (A.v (Value.int .i64 a0.Left)), (A.v (Value.bool a0.Stopped))])] = _; simp only [snap, snapW, snapWs, snapWss, snapWss_map, trim, List.map_cons, List.map_nil, fl_cI, fl_c8, fl_cB, fl_cS, fl_cL, fl_S_Write, fl_S_Disk, fl_S_kinespherelaw04_Act]; exact h35 a0) fun y1 => ?_
  refine .st (v := (A.v (Value.bool (!y1)))) (by kernel_rfl) ?_
  refine .bg (fun t (y : Bool) => ∃ j5 j6 j7 j8 : A, t = [(A.v (Value.bool y)), j5, j6, j7, j8]) ?_ ?_
  · refine .biH (fun hk2 => ?_) (fun hk2 => ?_)
    · exact .lg ⟨_, _, _, _, rfl⟩
    · refine .st (v := (A.agg [(A.imm (List.map (cL c8) a0.Sectors) false), (A.imm (List.map c_S_Write a0.Pending) false), (A.v (Value.int .i64 a0.Left)), (A.v (Value.bool a0.Stopped))])) (by kernel_rfl) ?_
      refine .st (v := (A.v (Value.int .i64 a1))) (by kernel_rfl) ?_
      refine .bd (g := fun (y : Bool) => (A.v (Value.bool y))) (by show C 36 [snap [Blk.box [(A.imm (List.map (cL c8) a0.Sectors) false), (A.imm (List.map c_S_Write a0.Pending) false), (A.v (Value.int .i64 a0.Left)), (A.v (Value.bool a0.Stopped))], Blk.box [(A.v (Value.int .i64 a1))], Blk.box [(A.imm [] true)], Blk.box [(A.v (Value.int .i64 0))]] (A.agg [(A.imm (List.map (cL c8) a0.Sectors) false), (A.imm (List.map c_S_Write a0.Pending) false), (A.v (Value.int .i64 a0.Left)), (A.v (Value.bool a0.Stopped))]), snap [Blk.box [(A.imm (List.map (cL c8) a0.Sectors) false), (A.imm (List.map c_S_Write a0.Pending) false), (A.v (Value.int .i64 a0.Left)), (A.v (Value.bool a0.Stopped))], Blk.box [(A.v (Value.int .i64 a1))], Blk.box [(A.imm [] true)], Blk.box [(A.v (Value.int .i64 0))]] (A.v (Value.int .i64 a1))] = _; simp only [snap, snapW, snapWs, snapWss, snapWss_map, trim, List.map_cons, List.map_nil, fl_cI, fl_c8, fl_cB, fl_cS, fl_cL, fl_S_Write, fl_S_Disk, fl_S_kinespherelaw04_Act]; exact h36 a0 a1) fun y3 => ?_
      refine .st (v := (A.v (Value.bool (!y3)))) (by kernel_rfl) ?_
      exact .lg ⟨_, _, _, _, rfl⟩
  rintro _ y4 ⟨j5, j6, j7, j8, rfl⟩
  iterate 5 refine .uc ?_
  refine .biHN (fun hk9 => ?_) (fun hk9 => ?_)
  · refine .st (v := [Blk.box [(A.imm (List.map (cL c8) a0.Sectors) false), (A.imm (List.map c_S_Write a0.Pending) false), (A.v (Value.int .i64 a0.Left)), (A.v (Value.bool a0.Stopped))], Blk.box [(A.v (Value.int .i64 a1))], Blk.box [(A.imm [] true)], Blk.box [(A.v (Value.int .i64 0))]]) (by kernel_rfl) ?_
    refine .st (v := [Blk.box [(A.imm (List.map (cL c8) a0.Sectors) false), (A.imm (List.map c_S_Write a0.Pending) false), (A.v (Value.int .i64 a0.Left)), (A.v (Value.bool a0.Stopped))], Blk.box [(A.v (Value.int .i64 a1))], Blk.box [(A.imm [] true)], Blk.box [(A.v (Value.int .i64 40))]]) (by kernel_rfl) ?_
    refine .st (v := (A.imm [] true)) (by kernel_rfl) ?_
    refine .st (v := (A.v (Value.int .i64 40))) (by kernel_rfl) ?_
    exact .lf rfl rfl ⟨_, rfl, by show snapE [Blk.box [(A.imm (List.map (cL c8) a0.Sectors) false), (A.imm (List.map c_S_Write a0.Pending) false), (A.v (Value.int .i64 a0.Left)), (A.v (Value.bool a0.Stopped))], Blk.box [(A.v (Value.int .i64 a1))], Blk.box [(A.imm [] true)], Blk.box [(A.v (Value.int .i64 40))]] (A.tup [(A.imm [] true), (A.v (Value.int .i64 40))]) = _; first | (simp only [snap, snapW, snapWs, snapWss, snapWss_map, trim, List.map_cons, List.map_nil, fl_cI, fl_c8, fl_cB, fl_cS, fl_cL, fl_S_Write, fl_S_Disk, fl_S_kinespherelaw04_Act, snapE]; done) | (simp only [snap, snapW, snapWs, snapWss, snapWss_map, trim, fl_cI, fl_c8, fl_cB, fl_cS, fl_cL, fl_S_Write, fl_S_Disk, fl_S_kinespherelaw04_Act, snapE]; done) | (simp only [snap, snapW, snapWs, snapWss, snapWss_map, trim, fl_cI, fl_c8, fl_cB, fl_cS, fl_cL, fl_S_Write, fl_S_Disk, fl_S_kinespherelaw04_Act, snapE]; rfl)⟩
  · refine .st (v := (A.ptr 0 1)) (by kernel_rfl) ?_
    refine .st (v := (A.imm (List.map c_S_Write a0.Pending) false)) (by kernel_rfl) ?_
    refine .cl ((evCall_in lt_39).trans (e39 C (evCall (cx C) (n+7)) (evCallY (cx C) (n+7)) (n+7) _ _ _)) ?_
    refine .st (v := ((A.ptr 4 0), [Blk.box [(A.imm (List.map (cL c8) a0.Sectors) false), (A.imm (List.map c_S_Write a0.Pending) false), (A.v (Value.int .i64 a0.Left)), (A.v (Value.bool a0.Stopped))], Blk.box [(A.v (Value.int .i64 a1))], Blk.box [(A.imm [] true)], Blk.box [(A.v (Value.int .i64 0))], Blk.box [(A.imm (List.map c_S_Write a0.Pending) false)]])) (by kernel_rfl) ?_
    refine .cr ?_
    refine .ok ?_
    refine .st (v := (45, [(A.ptr 4 0)])) (by kernel_rfl) ?_
    refine .cT (by kernel_rfl) ?_
    refine .cl ((evCallY_in lt_45).trans (e45 C (evCallY (cx C) (n+7) (yext 65 (evCall (cx C) (n+8)) 5 (roundR (cx C) (evCall (cx C) (n+8)) (evCallY (cx C) (n+8)) (n+8) 21 0 0 5 [(3, (A.ptr 1 0)), (4, (A.ptr 2 0)), (5, (A.ptr 3 0))]))) (evCallY (cx C) (n+7)) (n+7) _ _ _ _)) ?_
    refine .st (v := (A.imm (List.map c_S_Write a0.Pending) false)) (by kernel_rfl) ?_
    refine .st (v := (A.v (Value.int .i64 ((a0.Pending.length : Int))))) (len_imm (e := 54) (h1 := by kernel_rfl) ..) ?_
    refine .st (v := (A.v (Value.int .i64 (wr .i64 (((a0.Pending.length : Int)) - 1))))) (aBin_sub ..) ?_
    refine .as (T21_45_0 C n h35 h36 a0.Sectors a0.Pending a0.Left a0.Stopped a1 ([]) 0 a0.Pending _ _ _ _ ?_ ?_ _ (wr .i64 (((a0.Pending.length : Int)) - 1)))
    · intro y23 y24 y25 y26 j27 j28 j29
      refine .un rfl ?_
      refine .cr ?_
      refine .ok ?_
      refine .lp (rs_r rfl) ?_
      refine .st (v := (A.imm (List.map c8 y23) false)) (by kernel_rfl) ?_
      refine .st (v := (A.v (Value.int .i64 y24))) (by kernel_rfl) ?_
      exact .lf rfl rfl ⟨_, rfl, by show snapE [Blk.box [(A.imm (List.map (cL c8) a0.Sectors) false), (A.imm (List.map c_S_Write a0.Pending) false), (A.v (Value.int .i64 a0.Left)), (A.v (Value.bool a0.Stopped))], Blk.box [(A.v (Value.int .i64 a1))], Blk.box [(A.imm (List.map c8 y23) false)], Blk.box [(A.v (Value.int .i64 y24))], Blk.box [(A.imm (List.map c_S_Write a0.Pending) false)], Blk.dead, Blk.box [(A.v (Value.int .i64 y25)), (A.imm (List.map c8 y26) false)]] (A.tup [(A.imm (List.map c8 y23) false), (A.v (Value.int .i64 y24))]) = _; first | (simp only [snap, snapW, snapWs, snapWss, snapWss_map, trim, List.map_cons, List.map_nil, fl_cI, fl_c8, fl_cB, fl_cS, fl_cL, fl_S_Write, fl_S_Disk, fl_S_kinespherelaw04_Act, snapE]; done) | (simp only [snap, snapW, snapWs, snapWss, snapWss_map, trim, fl_cI, fl_c8, fl_cB, fl_cS, fl_cL, fl_S_Write, fl_S_Disk, fl_S_kinespherelaw04_Act, snapE]; done) | (simp only [snap, snapW, snapWs, snapWss, snapWss_map, trim, fl_cI, fl_c8, fl_cB, fl_cS, fl_cL, fl_S_Write, fl_S_Disk, fl_S_kinespherelaw04_Act, snapE]; rfl)⟩
    · intro j30 j31 j32
      refine .un rfl ?_
      refine .cT (by kernel_rfl) ?_
      refine .cr ?_
      refine .ok ?_
      refine .lp (rs_n rfl) ?_
      refine .st (v := (A.ptr 0 0)) (by kernel_rfl) ?_
      refine .st (v := (A.imm (List.map (cL c8) a0.Sectors) false)) (by kernel_rfl) ?_
      refine .st (v := (A.v (Value.int .i64 a1))) (by kernel_rfl) ?_
      refine .bd (g := fun (y : (List UInt8)) => A.ip ((cL c8) y)) (idx_imm (e := 35) (es := 1) (h1 := by kernel_rfl) (h2 := by kernel_rfl) (h3 := fun _ => rfl) ..) fun y33 => ?_
      refine .st (v := (A.imm (List.map c8 y33) false)) (by kernel_rfl) ?_
      refine .st (v := [Blk.box [(A.imm (List.map (cL c8) a0.Sectors) false), (A.imm (List.map c_S_Write a0.Pending) false), (A.v (Value.int .i64 a0.Left)), (A.v (Value.bool a0.Stopped))], Blk.box [(A.v (Value.int .i64 a1))], Blk.box [(A.imm (List.map c8 y33) false)], Blk.box [(A.v (Value.int .i64 0))], Blk.box [(A.imm (List.map c_S_Write a0.Pending) false)], Blk.dead]) (by kernel_rfl) ?_
      refine .st (v := [Blk.box [(A.imm (List.map (cL c8) a0.Sectors) false), (A.imm (List.map c_S_Write a0.Pending) false), (A.v (Value.int .i64 a0.Left)), (A.v (Value.bool a0.Stopped))], Blk.box [(A.v (Value.int .i64 a1))], Blk.box [(A.imm (List.map c8 y33) false)], Blk.box [(A.v (Value.int .i64 0))], Blk.box [(A.imm (List.map c_S_Write a0.Pending) false)], Blk.dead]) (by kernel_rfl) ?_
      refine .st (v := (A.imm (List.map c8 y33) false)) (by kernel_rfl) ?_
      refine .st (v := (A.v (Value.int .i64 0))) (by kernel_rfl) ?_
      exact .lf rfl rfl ⟨_, rfl, by show snapE [Blk.box [(A.imm (List.map (cL c8) a0.Sectors) false), (A.imm (List.map c_S_Write a0.Pending) false), (A.v (Value.int .i64 a0.Left)), (A.v (Value.bool a0.Stopped))], Blk.box [(A.v (Value.int .i64 a1))], Blk.box [(A.imm (List.map c8 y33) false)], Blk.box [(A.v (Value.int .i64 0))], Blk.box [(A.imm (List.map c_S_Write a0.Pending) false)], Blk.dead] (A.tup [(A.imm (List.map c8 y33) false), (A.v (Value.int .i64 0))]) = _; first | (simp only [snap, snapW, snapWs, snapWss, snapWss_map, trim, List.map_cons, List.map_nil, fl_cI, fl_c8, fl_cB, fl_cS, fl_cL, fl_S_Write, fl_S_Disk, fl_S_kinespherelaw04_Act, snapE]; done) | (simp only [snap, snapW, snapWs, snapWss, snapWss_map, trim, fl_cI, fl_c8, fl_cB, fl_cS, fl_cL, fl_S_Write, fl_S_Disk, fl_S_kinespherelaw04_Act, snapE]; done) | (simp only [snap, snapW, snapWs, snapWss, snapWss_map, trim, fl_cI, fl_c8, fl_cB, fl_cS, fl_cL, fl_S_Write, fl_S_Disk, fl_S_kinespherelaw04_Act, snapE]; rfl)⟩

def G21 (a0 : S_Disk) (a1 : Int) : Option ((List UInt8) × Int) := F21 fuel0 a0 a1

def Orc21 (C : Nat → List A → Option A) : Prop := ∀ (a0 : S_Disk) (a1 : Int), C 21 [(A.agg [(A.imm (List.map (cL c8) a0.Sectors) false), (A.imm (List.map c_S_Write a0.Pending) false), (A.v (Value.int .i64 a0.Left)), (A.v (Value.bool a0.Stopped))]), (A.v (Value.int .i64 a1))] = (G21 a0 a1).map fun y => (A.tup [(A.imm (List.map c8 y.1) false), (A.v (Value.int .i64 y.2))])

def F25 (n : Nat) (a0 : S_Disk) (a1 : Int) : Option (S_Disk × Int) :=
  Option.bind (G35 a0) fun y1 => bif (!y1) then (some (((S_Disk.mk ([]) ([]) 0 false), 40))) else (Option.bind (bif (decide (a1 < 0)) then (some true) else (some (decide (65536 < a1)))) fun y4 => bif y4 then (some (((S_Disk.mk ([]) ([]) 0 false), 1))) else (some (((S_Disk.mk a0.Sectors a0.Pending a1 a0.Stopped), 0))))

theorem T25 (C : Nat → List A → Option A) (n : Nat) (h35 : Orc35 C) (a0 : S_Disk) (a1 : Int) : J (fun (o : R) y => ∃ v, o.1 = .ret v ∧ snapE o.2 v = (A.tup [(A.agg [(A.imm (List.map (cL c8) y.1.Sectors) false), (A.imm (List.map c_S_Write y.1.Pending) false), (A.v (Value.int .i64 y.1.Left)), (A.v (Value.bool y.1.Stopped))]), (A.v (Value.int .i64 y.2))])) (evCall1 (cx C) (evCall (cx C) (n+8)) (evCallY (cx C) (n+8)) (n+8) 25 [(A.agg [(A.imm (List.map (cL c8) a0.Sectors) false), (A.imm (List.map c_S_Write a0.Pending) false), (A.v (Value.int .i64 a0.Left)), (A.v (Value.bool a0.Stopped))]), (A.v (Value.int .i64 a1))] [] 0) some (F25 n a0 a1) some := by
  refine .lp (e25 ..) ?_
  unfold F25
  refine .st (v := ((A.ptr 0 0), [Blk.box [(A.imm (List.map (cL c8) a0.Sectors) false), (A.imm (List.map c_S_Write a0.Pending) false), (A.v (Value.int .i64 a0.Left)), (A.v (Value.bool a0.Stopped))]])) (by kernel_rfl) ?_
  refine .st (v := ((A.ptr 1 0), [Blk.box [(A.imm (List.map (cL c8) a0.Sectors) false), (A.imm (List.map c_S_Write a0.Pending) false), (A.v (Value.int .i64 a0.Left)), (A.v (Value.bool a0.Stopped))], Blk.box [(A.imm [] true), (A.imm [] true), (A.v (Value.int .i64 0)), (A.v (Value.bool false))]])) (by kernel_rfl) ?_
  refine .st (v := (A.agg [(A.imm (List.map (cL c8) a0.Sectors) false), (A.imm (List.map c_S_Write a0.Pending) false), (A.v (Value.int .i64 a0.Left)), (A.v (Value.bool a0.Stopped))])) (by kernel_rfl) ?_
  refine .bd (g := fun (y : Bool) => (A.v (Value.bool y))) (by show C 35 [snap [Blk.box [(A.imm (List.map (cL c8) a0.Sectors) false), (A.imm (List.map c_S_Write a0.Pending) false), (A.v (Value.int .i64 a0.Left)), (A.v (Value.bool a0.Stopped))], Blk.box [(A.imm [] true), (A.imm [] true), (A.v (Value.int .i64 0)), (A.v (Value.bool false))]] (A.agg [(A.imm (List.map (cL c8) a0.Sectors) false), (A.imm (List.map c_S_Write a0.Pending) false), (A.v (Value.int .i64 a0.Left)), (A.v (Value.bool a0.Stopped))])] = _; simp only [snap, snapW, snapWs, snapWss, snapWss_map, trim, List.map_cons, List.map_nil, fl_cI, fl_c8, fl_cB, fl_cS, fl_cL, fl_S_Write, fl_S_Disk, fl_S_kinespherelaw04_Act]; exact h35 a0) fun y1 => ?_
  refine .st (v := (A.v (Value.bool (!y1)))) (by kernel_rfl) ?_
  refine .biHN (fun hk2 => ?_) (fun hk2 => ?_)
  · refine .st (v := (A.agg [(A.imm [] true), (A.imm [] true), (A.v (Value.int .i64 0)), (A.v (Value.bool false))])) (by kernel_rfl) ?_
    refine .st (v := [Blk.box [(A.imm (List.map (cL c8) a0.Sectors) false), (A.imm (List.map c_S_Write a0.Pending) false), (A.v (Value.int .i64 a0.Left)), (A.v (Value.bool a0.Stopped))], Blk.box [(A.imm [] true), (A.imm [] true), (A.v (Value.int .i64 0)), (A.v (Value.bool false))]]) (by kernel_rfl) ?_
    refine .st (v := (A.agg [(A.imm [] true), (A.imm [] true), (A.v (Value.int .i64 0)), (A.v (Value.bool false))])) (by kernel_rfl) ?_
    exact .lf rfl rfl ⟨_, rfl, by show snapE [Blk.box [(A.imm (List.map (cL c8) a0.Sectors) false), (A.imm (List.map c_S_Write a0.Pending) false), (A.v (Value.int .i64 a0.Left)), (A.v (Value.bool a0.Stopped))], Blk.box [(A.imm [] true), (A.imm [] true), (A.v (Value.int .i64 0)), (A.v (Value.bool false))]] (A.tup [(A.agg [(A.imm [] true), (A.imm [] true), (A.v (Value.int .i64 0)), (A.v (Value.bool false))]), (A.v (Value.int .i64 40))]) = _; first | (simp only [snap, snapW, snapWs, snapWss, snapWss_map, trim, List.map_cons, List.map_nil, fl_cI, fl_c8, fl_cB, fl_cS, fl_cL, fl_S_Write, fl_S_Disk, fl_S_kinespherelaw04_Act, snapE]; done) | (simp only [snap, snapW, snapWs, snapWss, snapWss_map, trim, fl_cI, fl_c8, fl_cB, fl_cS, fl_cL, fl_S_Write, fl_S_Disk, fl_S_kinespherelaw04_Act, snapE]; done) | (simp only [snap, snapW, snapWs, snapWss, snapWss_map, trim, fl_cI, fl_c8, fl_cB, fl_cS, fl_cL, fl_S_Write, fl_S_Disk, fl_S_kinespherelaw04_Act, snapE]; rfl)⟩
  · refine .st (v := (A.v (Value.bool (decide (a1 < 0))))) (aBin_lss ..) ?_
    refine .bg (fun t (y : Bool) => ∃ j5 j6 : A, t = [(A.v (Value.bool y)), j5, j6]) ?_ ?_
    · refine .biH (fun hk3 => ?_) (fun hk3 => ?_)
      · exact .lg ⟨_, _, rfl⟩
      · refine .st (v := (A.v (Value.bool (decide (65536 < a1))))) (aBin_gtr ..) ?_
        exact .lg ⟨_, _, rfl⟩
    rintro _ y4 ⟨j5, j6, rfl⟩
    iterate 3 refine .uc ?_
    refine .biHN (fun hk7 => ?_) (fun hk7 => ?_)
    · refine .st (v := (A.agg [(A.imm [] true), (A.imm [] true), (A.v (Value.int .i64 0)), (A.v (Value.bool false))])) (by kernel_rfl) ?_
      refine .st (v := [Blk.box [(A.imm (List.map (cL c8) a0.Sectors) false), (A.imm (List.map c_S_Write a0.Pending) false), (A.v (Value.int .i64 a0.Left)), (A.v (Value.bool a0.Stopped))], Blk.box [(A.imm [] true), (A.imm [] true), (A.v (Value.int .i64 0)), (A.v (Value.bool false))]]) (by kernel_rfl) ?_
      refine .st (v := (A.agg [(A.imm [] true), (A.imm [] true), (A.v (Value.int .i64 0)), (A.v (Value.bool false))])) (by kernel_rfl) ?_
      exact .lf rfl rfl ⟨_, rfl, by show snapE [Blk.box [(A.imm (List.map (cL c8) a0.Sectors) false), (A.imm (List.map c_S_Write a0.Pending) false), (A.v (Value.int .i64 a0.Left)), (A.v (Value.bool a0.Stopped))], Blk.box [(A.imm [] true), (A.imm [] true), (A.v (Value.int .i64 0)), (A.v (Value.bool false))]] (A.tup [(A.agg [(A.imm [] true), (A.imm [] true), (A.v (Value.int .i64 0)), (A.v (Value.bool false))]), (A.v (Value.int .i64 1))]) = _; first | (simp only [snap, snapW, snapWs, snapWss, snapWss_map, trim, List.map_cons, List.map_nil, fl_cI, fl_c8, fl_cB, fl_cS, fl_cL, fl_S_Write, fl_S_Disk, fl_S_kinespherelaw04_Act, snapE]; done) | (simp only [snap, snapW, snapWs, snapWss, snapWss_map, trim, fl_cI, fl_c8, fl_cB, fl_cS, fl_cL, fl_S_Write, fl_S_Disk, fl_S_kinespherelaw04_Act, snapE]; done) | (simp only [snap, snapW, snapWs, snapWss, snapWss_map, trim, fl_cI, fl_c8, fl_cB, fl_cS, fl_cL, fl_S_Write, fl_S_Disk, fl_S_kinespherelaw04_Act, snapE]; rfl)⟩
    · refine .st (v := (A.ptr 0 2)) (by kernel_rfl) ?_
      refine .st (v := [Blk.box [(A.imm (List.map (cL c8) a0.Sectors) false), (A.imm (List.map c_S_Write a0.Pending) false), (A.v (Value.int .i64 a1)), (A.v (Value.bool a0.Stopped))], Blk.box [(A.imm [] true), (A.imm [] true), (A.v (Value.int .i64 0)), (A.v (Value.bool false))]]) (by kernel_rfl) ?_
      refine .st (v := (A.agg [(A.imm (List.map (cL c8) a0.Sectors) false), (A.imm (List.map c_S_Write a0.Pending) false), (A.v (Value.int .i64 a1)), (A.v (Value.bool a0.Stopped))])) (by kernel_rfl) ?_
      refine .st (v := [Blk.box [(A.imm (List.map (cL c8) a0.Sectors) false), (A.imm (List.map c_S_Write a0.Pending) false), (A.v (Value.int .i64 a1)), (A.v (Value.bool a0.Stopped))], Blk.box [(A.imm (List.map (cL c8) a0.Sectors) false), (A.imm (List.map c_S_Write a0.Pending) false), (A.v (Value.int .i64 a1)), (A.v (Value.bool a0.Stopped))]]) (by kernel_rfl) ?_
      refine .st (v := (A.agg [(A.imm (List.map (cL c8) a0.Sectors) false), (A.imm (List.map c_S_Write a0.Pending) false), (A.v (Value.int .i64 a1)), (A.v (Value.bool a0.Stopped))])) (by kernel_rfl) ?_
      exact .lf rfl rfl ⟨_, rfl, by show snapE [Blk.box [(A.imm (List.map (cL c8) a0.Sectors) false), (A.imm (List.map c_S_Write a0.Pending) false), (A.v (Value.int .i64 a1)), (A.v (Value.bool a0.Stopped))], Blk.box [(A.imm (List.map (cL c8) a0.Sectors) false), (A.imm (List.map c_S_Write a0.Pending) false), (A.v (Value.int .i64 a1)), (A.v (Value.bool a0.Stopped))]] (A.tup [(A.agg [(A.imm (List.map (cL c8) a0.Sectors) false), (A.imm (List.map c_S_Write a0.Pending) false), (A.v (Value.int .i64 a1)), (A.v (Value.bool a0.Stopped))]), (A.v (Value.int .i64 0))]) = _; first | (simp only [snap, snapW, snapWs, snapWss, snapWss_map, trim, List.map_cons, List.map_nil, fl_cI, fl_c8, fl_cB, fl_cS, fl_cL, fl_S_Write, fl_S_Disk, fl_S_kinespherelaw04_Act, snapE]; done) | (simp only [snap, snapW, snapWs, snapWss, snapWss_map, trim, fl_cI, fl_c8, fl_cB, fl_cS, fl_cL, fl_S_Write, fl_S_Disk, fl_S_kinespherelaw04_Act, snapE]; done) | (simp only [snap, snapW, snapWs, snapWss, snapWss_map, trim, fl_cI, fl_c8, fl_cB, fl_cS, fl_cL, fl_S_Write, fl_S_Disk, fl_S_kinespherelaw04_Act, snapE]; rfl)⟩

def G25 (a0 : S_Disk) (a1 : Int) : Option (S_Disk × Int) := F25 fuel0 a0 a1

def Orc25 (C : Nat → List A → Option A) : Prop := ∀ (a0 : S_Disk) (a1 : Int), C 25 [(A.agg [(A.imm (List.map (cL c8) a0.Sectors) false), (A.imm (List.map c_S_Write a0.Pending) false), (A.v (Value.int .i64 a0.Left)), (A.v (Value.bool a0.Stopped))]), (A.v (Value.int .i64 a1))] = (G25 a0 a1).map fun y => (A.tup [(A.agg [(A.imm (List.map (cL c8) y.1.Sectors) false), (A.imm (List.map c_S_Write y.1.Pending) false), (A.v (Value.int .i64 y.1.Left)), (A.v (Value.bool y.1.Stopped))]), (A.v (Value.int .i64 y.2))])

def F27 (n : Nat) (a0 : Int) : Option (List UInt8) :=
  Option.bind (mkI 1 128 ((0 : UInt8))) fun y1 => Option.bind (idxN y1.length 0) fun k2 => bif (decide (0 ≤ a0) && decide (a0 < 256)) then (Option.bind (modI y1 k2 (fun (y : UInt8) => (UInt8.ofNat (Int.toNat a0)))) fun y3 => Option.bind (idxN y1.length 64) fun k4 => bif (decide (0 ≤ a0) && decide (a0 < 256)) then (Option.bind (modI y3 k4 (fun (y : UInt8) => (UInt8.ofNat (Int.toNat a0)))) fun y5 => some ((List.take y1.length (List.drop 0 y5)))) else none) else none

theorem T27 (C : Nat → List A → Option A) (n : Nat) (a0 : Int) : J (fun (o : R) y => ∃ v, o.1 = .ret v ∧ snapE o.2 v = (A.imm (List.map c8 y) false)) (evCall1 (cx C) (evCall (cx C) (n+8)) (evCallY (cx C) (n+8)) (n+8) 27 [(A.v (Value.int .u8 a0))] [] 0) some (F27 n a0) some := by
  refine .lp (e27 ..) ?_
  unfold F27
  refine .bd (g := fun (y : List UInt8) => ((A.sl 0 0 y.length false), [Blk.row true 1 (List.map c8 y)])) (wrow_make (e := 5) (es := 1) (f := c8) (z := (0 : UInt8)) (z' := [(A.v (Value.int .u8 0))]) (by kernel_rfl) (by kernel_rfl) (by kernel_rfl) (by kernel_rfl) rfl (by decide) (fun _ => rfl)) fun y1 => ?_
  refine .bd (g := fun (y : Nat) => A.ep 0 y 0) (wrow_idx0 (e := 5) (es := 1) (l := y1) (by kernel_rfl) (by kernel_rfl) rfl) fun k2 => ?_
  refine .gd fun hg => ?_
  refine .bd (g := fun (y : List UInt8) => [Blk.row true 1 (List.map c8 y)]) ((congrArg (fun z => aStore _ _ _ (A.v (Value.int .u8 z)) _ _) (u8_back hg).symm).trans ((wrow_store (es := 1) (n := 1) (l := y1) (xs := [(A.v (Value.int .u8 (((UInt8.ofNat (Int.toNat a0)).toNat : Int))))]) (u := fun (y : UInt8) => (UInt8.ofNat (Int.toNat a0))) (by kernel_rfl) (by kernel_rfl) (by decide) rfl (fun _ => rfl) (by decide) (by decide) rfl (fun _ => rfl)))) fun y3 => ?_
  refine .bd (g := fun (y : Nat) => A.ep 0 y 0) (wrow_idx0 (e := 5) (es := 1) (l := y3) (by kernel_rfl) (by kernel_rfl) rfl) fun k4 => ?_
  refine .gd fun hg => ?_
  refine .bd (g := fun (y : List UInt8) => [Blk.row true 1 (List.map c8 y)]) ((congrArg (fun z => aStore _ _ _ (A.v (Value.int .u8 z)) _ _) (u8_back hg).symm).trans ((wrow_store (es := 1) (n := 1) (l := y3) (xs := [(A.v (Value.int .u8 (((UInt8.ofNat (Int.toNat a0)).toNat : Int))))]) (u := fun (y : UInt8) => (UInt8.ofNat (Int.toNat a0))) (by kernel_rfl) (by kernel_rfl) (by decide) rfl (fun _ => rfl) (by decide) (by decide) rfl (fun _ => rfl)))) fun y5 => ?_
  exact .lf rfl rfl ⟨_, rfl, by show snapE [Blk.row true 1 (List.map c8 y5)] (A.sl 0 0 y1.length false) = _; first | (simp only [snap, snapW, snapWs, snapWss, snapWss_map, trim, List.map_cons, List.map_nil, fl_cI, fl_c8, fl_cB, fl_cS, fl_cL, fl_S_Write, fl_S_Disk, fl_S_kinespherelaw04_Act, snapE, snapGE_sub (H := [Blk.row true 1 (List.map c8 y5)]) (b := 0) (es := 1) (wr := true) (l := y5) fl_c8 rfl]; done) | (simp only [snap, snapW, snapWs, snapWss, snapWss_map, trim, fl_cI, fl_c8, fl_cB, fl_cS, fl_cL, fl_S_Write, fl_S_Disk, fl_S_kinespherelaw04_Act, snapE, snapGE_sub (H := [Blk.row true 1 (List.map c8 y5)]) (b := 0) (es := 1) (wr := true) (l := y5) fl_c8 rfl]; done) | (simp only [snap, snapW, snapWs, snapWss, snapWss_map, trim, fl_cI, fl_c8, fl_cB, fl_cS, fl_cL, fl_S_Write, fl_S_Disk, fl_S_kinespherelaw04_Act, snapE, snapGE_sub (H := [Blk.row true 1 (List.map c8 y5)]) (b := 0) (es := 1) (wr := true) (l := y5) fl_c8 rfl]; rfl)⟩

def G27 (a0 : Int) : Option (List UInt8) := F27 fuel0 a0

def Orc27 (C : Nat → List A → Option A) : Prop := ∀ (a0 : Int), C 27 [(A.v (Value.int .u8 a0))] = (G27 a0).map fun y => (A.imm (List.map c8 y) false)

def F40_40_0 (n : Nat) (v2 : (List (List UInt8))) (v3 : Nat) (v4 : (List S_Write)) (v5 : Int) : Nat → Int → (List (List UInt8)) → Option (Nat × (List (List UInt8)))
  | 0, _, _ => none
  | m + 1, v6, v7 => bif (decide (v6 < v5)) then (Option.bind (getI v4 v6) fun y9 => Option.bind (idxN v3 y9.At) fun k10 => Option.bind (modI v7 k10 (fun (y : (List UInt8)) => y9.Data)) fun y11 => F40_40_0 n v2 v3 v4 v5 m (wr .i64 (v6 + 1)) y11) else (some ((v3, v7)))

theorem T40_40_0 (C : Nat → List A → Option A) (n : Nat) (v2 : (List (List UInt8))) (v3 : Nat) (v4 : (List S_Write)) (v5 : Int) {ρ γ : Type} {φ : ρ → γ → Prop} {kL : R → Option ρ} {K : (Nat × (List (List UInt8))) → Option γ} (kx kg : Nat → St → Option R) (kr : St → Option R) (kp : A → St → Option R) (x0 : ∀ (o0 : Nat) (o1 : (List (List UInt8))) (s4 : A) (s10 : A) (s11 : A) (s12 : A), J φ (kx 0 (St.mk [(4, s4), (5, (A.sl 0 0 o0 false)), (10, s10), (11, s11), (12, s12)] [Blk.row true 1 (List.map (cL c8) o1)])) kL (K (o0, o1)) some) :
    ∀ (m : Nat) (v6 : Int) (v7 : (List (List UInt8))), J φ (loopR (cx C) (evCall (cx C) (n+8)) (evCallY (cx C) (n+8)) (n+8) 40 0 0 1 kx kg kr kp m (St.mk [(4, (A.imm (List.map (cL c8) v2) true)), (5, (A.sl 0 0 v3 false)), (10, (A.imm (List.map c_S_Write v4) false)), (11, (A.v (Value.int .i64 v5))), (12, (A.v (Value.int .i64 v6)))] [Blk.row true 1 (List.map (cL c8) v7)])) kL (F40_40_0 n v2 v3 v4 v5 m v6 v7) K := by
  intro m
  induction m with
  | zero => intros; exact .nn
  | succ m ih =>
    intro v6 v7
    refine .lp (e40_0 ..) ?_
    unfold F40_40_0
    refine .st (v := (A.v (Value.bool (decide (v6 < v5))))) (aBin_lss ..) ?_
    refine .biHN (fun hk8 => ?_) (fun hk8 => ?_)
    · refine .bd (g := fun (y : S_Write) => A.ip (c_S_Write y)) (idx_imm (e := 54) (es := 2) (h1 := by kernel_rfl) (h2 := by kernel_rfl) (h3 := fun _ => rfl) ..) fun y9 => ?_
      refine .st (v := (A.agg [(A.v (Value.int .i64 y9.At)), (A.imm (List.map c8 y9.Data) false)])) (by kernel_rfl) ?_
      refine .st (v := ((A.ptr 1 0), [Blk.row true 1 (List.map (cL c8) v7), Blk.box [(A.v (Value.int .i64 0)), (A.imm [] true)]])) (by kernel_rfl) ?_
      refine .st (v := [Blk.row true 1 (List.map (cL c8) v7), Blk.box [(A.v (Value.int .i64 y9.At)), (A.imm (List.map c8 y9.Data) false)]]) (by kernel_rfl) ?_
      refine .st (v := (A.ptr 1 0)) (by kernel_rfl) ?_
      refine .st (v := (A.v (Value.int .i64 y9.At))) (by kernel_rfl) ?_
      refine .st (v := (A.ptr 1 1)) (by kernel_rfl) ?_
      refine .st (v := (A.imm (List.map c8 y9.Data) false)) (by kernel_rfl) ?_
      refine .bd (g := fun (y : Nat) => A.ep 0 y 0) (wrow_idx0 (e := 35) (es := 1) (l := v7) (by kernel_rfl) (by kernel_rfl) rfl) fun k10 => ?_
      refine .bd (g := fun (y : List (List UInt8)) => [Blk.row true 1 (List.map (cL c8) y), Blk.box [(A.v (Value.int .i64 y9.At)), (A.imm (List.map c8 y9.Data) false)]]) ((wrow_store (es := 1) (n := 1) (l := v7) (xs := [(A.imm (List.map c8 y9.Data) false)]) (u := fun (y : (List UInt8)) => y9.Data) (by kernel_rfl) (by kernel_rfl) (by decide) rfl (fun _ => rfl) (by decide) (by decide) rfl (fun _ => rfl))) fun y11 => ?_
      refine .st (v := (A.v (Value.int .i64 (wr .i64 (v6 + 1))))) (aBin_add ..) ?_
      refine .st (v := [Blk.row true 1 (List.map (cL c8) y11)]) ((by kernel_rfl : _ = (bif ((underss 1 (List.map (cL c8) y11)) && true) then some [Blk.row true 1 (List.map (cL c8) y11)] else none)).trans (by simp only [underss_map, fu_cI, fu_c8, fu_cB, fu_cS, fu_cL, fu_S_Write, fu_S_Disk, fu_S_kinespherelaw04_Act,  Bool.and_true, Bool.true_and, cond_true])) ?_
      refine .cT ((by kernel_rfl : _ = (bif underss 1 (List.map (cL c8) v2) then (bif underss 1 (List.map c_S_Write v4) then true else false) else false)).trans (by simp only [underss_map, fu_cI, fu_c8, fu_cB, fu_cS, fu_cL, fu_S_Write, fu_S_Disk, fu_S_kinespherelaw04_Act,  Bool.and_true, Bool.true_and, cond_true])) ?_
      exact ih _ _
    · exact .ex (x0 _ _ _ _ _ _)

def F40 (n : Nat) (a0 : (List (List UInt8))) (a1 : (List S_Write)) : Option (List (List UInt8)) :=
  Option.bind (appI 24 ([]) a0) fun y1 => Option.bind (F40_40_0 n ([]) y1.length a1 ((a1.length : Int)) (n+8) 0 y1) fun o12 => match o12 with | (y13, y14) => some ((List.take y13 (List.drop 0 y14)))

theorem T40 (C : Nat → List A → Option A) (n : Nat) (a0 : (List (List UInt8))) (a1 : (List S_Write)) : J (fun (o : R) y => ∃ v, o.1 = .ret v ∧ snapE o.2 v = (A.imm (List.map (cL c8) y) false)) (evCall1 (cx C) (evCall (cx C) (n+8)) (evCallY (cx C) (n+8)) (n+8) 40 [(A.imm (List.map (cL c8) a0) false), (A.imm (List.map c_S_Write a1) false)] [] 0) some (F40 n a0 a1) some := by
  refine .lp (e40 ..) ?_
  unfold F40
  refine .cl ((evCall_in lt_46).trans (e46 C (evCall (cx C) (n+7)) (evCallY (cx C) (n+7)) (n+7) _ _ _)) ?_
  refine .st (v := (A.nq (List.map (cL c8) a0))) (nq_imm (e := 35) (by kernel_rfl)) ?_
  refine .nq (f := (cL c8)) (l := a0) (fun hn => by rw [hn]; kernel_rfl) ?_
  refine .st (v := (A.imm [] true)) (by kernel_rfl) ?_
  refine .bd (g := fun (y : List (List UInt8)) => ((A.sl 0 0 y.length false), [Blk.row true 1 (List.map (cL c8) y)])) (wrow_app (e := 35) (es := 1) (by_ := 24) (z := [(A.imm [] true)]) (by kernel_rfl) (by kernel_rfl) (by kernel_rfl) (by kernel_rfl) rfl (by decide) (by decide) (by kernel_rfl) (f := (cL c8)) (fun _ => rfl) ce_cL (l2 := a0) (els_imm ..)) fun y1 => ?_
  refine .cr ?_
  refine .ok ?_
  refine .st (v := (A.v (Value.int .i64 ((a1.length : Int))))) (len_imm (e := 54) (h1 := by kernel_rfl) ..) ?_
  refine .as (T40_40_0 C n  ([]) y1.length a1 ((a1.length : Int)) _ _ _ _ ?_ _ 0 y1)
  · intro y13 y14 j15 j16 j17 j18
    refine .un rfl ?_
    refine .cT (by kernel_rfl) ?_
    exact .lf rfl rfl ⟨_, rfl, by show snapE [Blk.row true 1 (List.map (cL c8) y14)] (A.sl 0 0 y13 false) = _; first | (simp only [snap, snapW, snapWs, snapWss, snapWss_map, trim, List.map_cons, List.map_nil, fl_cI, fl_c8, fl_cB, fl_cS, fl_cL, fl_S_Write, fl_S_Disk, fl_S_kinespherelaw04_Act, snapE, snapGE_sub (H := [Blk.row true 1 (List.map (cL c8) y14)]) (b := 0) (es := 1) (wr := true) (l := y14) (fl_cL fl_c8) rfl]; done) | (simp only [snap, snapW, snapWs, snapWss, snapWss_map, trim, fl_cI, fl_c8, fl_cB, fl_cS, fl_cL, fl_S_Write, fl_S_Disk, fl_S_kinespherelaw04_Act, snapE, snapGE_sub (H := [Blk.row true 1 (List.map (cL c8) y14)]) (b := 0) (es := 1) (wr := true) (l := y14) (fl_cL fl_c8) rfl]; done) | (simp only [snap, snapW, snapWs, snapWss, snapWss_map, trim, fl_cI, fl_c8, fl_cB, fl_cS, fl_cL, fl_S_Write, fl_S_Disk, fl_S_kinespherelaw04_Act, snapE, snapGE_sub (H := [Blk.row true 1 (List.map (cL c8) y14)]) (b := 0) (es := 1) (wr := true) (l := y14) (fl_cL fl_c8) rfl]; rfl)⟩

def G40 (a0 : (List (List UInt8))) (a1 : (List S_Write)) : Option (List (List UInt8)) := F40 fuel0 a0 a1

def Orc40 (C : Nat → List A → Option A) : Prop := ∀ (a0 : (List (List UInt8))) (a1 : (List S_Write)), C 40 [(A.imm (List.map (cL c8) a0) false), (A.imm (List.map c_S_Write a1) false)] = (G40 a0 a1).map fun y => (A.imm (List.map (cL c8) y) false)

def F23_40_0 (n : Nat) (v12 : (List (List UInt8))) (v13 : Nat) (v14 : (List S_Write)) (v15 : Int) (v17 : (List (List UInt8))) (v18 : (List S_Write)) (v19 : Int) (v20 : Bool) (v21 : (List (List UInt8))) (v22 : (List S_Write)) (v23 : Int) (v24 : Bool) : Nat → Int → (List (List UInt8)) → Option (Nat × (List (List UInt8)))
  | 0, _, _ => none
  | m + 1, v16, v25 => bif (decide (v16 < v15)) then (Option.bind (getI v14 v16) fun y27 => Option.bind (idxN v13 y27.At) fun k28 => Option.bind (modI v25 k28 (fun (y : (List UInt8)) => y27.Data)) fun y29 => F23_40_0 n v12 v13 v14 v15 v17 v18 v19 v20 v21 v22 v23 v24 m (wr .i64 (v16 + 1)) y29) else (some ((v13, v25)))

theorem T23_40_0 (C : Nat → List A → Option A) (n : Nat) (h35 : Orc35 C) (h40 : Orc40 C) (v12 : (List (List UInt8))) (v13 : Nat) (v14 : (List S_Write)) (v15 : Int) (v17 : (List (List UInt8))) (v18 : (List S_Write)) (v19 : Int) (v20 : Bool) (v21 : (List (List UInt8))) (v22 : (List S_Write)) (v23 : Int) (v24 : Bool) {ρ γ : Type} {φ : ρ → γ → Prop} {kL : R → Option ρ} {K : (Nat × (List (List UInt8))) → Option γ} (kx kg : Nat → St → Option R) (kr : St → Option R) (kp : A → St → Option R) (x0 : ∀ (o0 : Nat) (o1 : (List (List UInt8))) (s4 : A) (s10 : A) (s11 : A) (s12 : A), J φ (kx 0 (St.mk [(4, s4), (5, (A.sl 2 0 o0 false)), (10, s10), (11, s11), (12, s12)] [Blk.box [(A.imm (List.map (cL c8) v17) false), (A.imm (List.map c_S_Write v18) false), (A.v (Value.int .i64 v19)), (A.v (Value.bool v20))], Blk.box [(A.imm (List.map (cL c8) v21) true), (A.imm (List.map c_S_Write v22) true), (A.v (Value.int .i64 v23)), (A.v (Value.bool v24))], Blk.row true 1 (List.map (cL c8) o1)])) kL (K (o0, o1)) some) :
    ∀ (m : Nat) (v16 : Int) (v25 : (List (List UInt8))), J φ (loopR (cx C) (evCall (cx C) (n+7)) (evCallY (cx C) (n+7)) (n+7) 40 0 0 3 kx kg kr kp m (St.mk [(4, (A.imm (List.map (cL c8) v12) true)), (5, (A.sl 2 0 v13 false)), (10, (A.imm (List.map c_S_Write v14) true)), (11, (A.v (Value.int .i64 v15))), (12, (A.v (Value.int .i64 v16)))] [Blk.box [(A.imm (List.map (cL c8) v17) false), (A.imm (List.map c_S_Write v18) false), (A.v (Value.int .i64 v19)), (A.v (Value.bool v20))], Blk.box [(A.imm (List.map (cL c8) v21) true), (A.imm (List.map c_S_Write v22) true), (A.v (Value.int .i64 v23)), (A.v (Value.bool v24))], Blk.row true 1 (List.map (cL c8) v25)])) kL (F23_40_0 n v12 v13 v14 v15 v17 v18 v19 v20 v21 v22 v23 v24 m v16 v25) K := by
  intro m
  induction m with
  | zero => intros; exact .nn
  | succ m ih =>
    intro v16 v25
    refine .lp (e40_0 ..) ?_
    unfold F23_40_0
    refine .st (v := (A.v (Value.bool (decide (v16 < v15))))) (aBin_lss ..) ?_
    refine .biHN (fun hk26 => ?_) (fun hk26 => ?_)
    · refine .bd (g := fun (y : S_Write) => A.ip (c_S_Write y)) (idx_imm (e := 54) (es := 2) (h1 := by kernel_rfl) (h2 := by kernel_rfl) (h3 := fun _ => rfl) ..) fun y27 => ?_
      refine .st (v := (A.agg [(A.v (Value.int .i64 y27.At)), (A.imm (List.map c8 y27.Data) false)])) (by kernel_rfl) ?_
      refine .st (v := ((A.ptr 3 0), [Blk.box [(A.imm (List.map (cL c8) v17) false), (A.imm (List.map c_S_Write v18) false), (A.v (Value.int .i64 v19)), (A.v (Value.bool v20))], Blk.box [(A.imm (List.map (cL c8) v21) true), (A.imm (List.map c_S_Write v22) true), (A.v (Value.int .i64 v23)), (A.v (Value.bool v24))], Blk.row true 1 (List.map (cL c8) v25), Blk.box [(A.v (Value.int .i64 0)), (A.imm [] true)]])) (by kernel_rfl) ?_
      refine .st (v := [Blk.box [(A.imm (List.map (cL c8) v17) false), (A.imm (List.map c_S_Write v18) false), (A.v (Value.int .i64 v19)), (A.v (Value.bool v20))], Blk.box [(A.imm (List.map (cL c8) v21) true), (A.imm (List.map c_S_Write v22) true), (A.v (Value.int .i64 v23)), (A.v (Value.bool v24))], Blk.row true 1 (List.map (cL c8) v25), Blk.box [(A.v (Value.int .i64 y27.At)), (A.imm (List.map c8 y27.Data) false)]]) (by kernel_rfl) ?_
      refine .st (v := (A.ptr 3 0)) (by kernel_rfl) ?_
      refine .st (v := (A.v (Value.int .i64 y27.At))) (by kernel_rfl) ?_
      refine .st (v := (A.ptr 3 1)) (by kernel_rfl) ?_
      refine .st (v := (A.imm (List.map c8 y27.Data) false)) (by kernel_rfl) ?_
      refine .bd (g := fun (y : Nat) => A.ep 2 y 0) (wrow_idx0 (e := 35) (es := 1) (l := v25) (by kernel_rfl) (by kernel_rfl) rfl) fun k28 => ?_
      refine .bd (g := fun (y : List (List UInt8)) => [Blk.box [(A.imm (List.map (cL c8) v17) false), (A.imm (List.map c_S_Write v18) false), (A.v (Value.int .i64 v19)), (A.v (Value.bool v20))], Blk.box [(A.imm (List.map (cL c8) v21) true), (A.imm (List.map c_S_Write v22) true), (A.v (Value.int .i64 v23)), (A.v (Value.bool v24))], Blk.row true 1 (List.map (cL c8) y), Blk.box [(A.v (Value.int .i64 y27.At)), (A.imm (List.map c8 y27.Data) false)]]) ((wrow_store (es := 1) (n := 1) (l := v25) (xs := [(A.imm (List.map c8 y27.Data) false)]) (u := fun (y : (List UInt8)) => y27.Data) (by kernel_rfl) (by kernel_rfl) (by decide) rfl (fun _ => rfl) (by decide) (by decide) rfl (fun _ => rfl))) fun y29 => ?_
      refine .st (v := (A.v (Value.int .i64 (wr .i64 (v16 + 1))))) (aBin_add ..) ?_
      refine .st (v := [Blk.box [(A.imm (List.map (cL c8) v17) false), (A.imm (List.map c_S_Write v18) false), (A.v (Value.int .i64 v19)), (A.v (Value.bool v20))], Blk.box [(A.imm (List.map (cL c8) v21) true), (A.imm (List.map c_S_Write v22) true), (A.v (Value.int .i64 v23)), (A.v (Value.bool v24))], Blk.row true 1 (List.map (cL c8) y29)]) ((by kernel_rfl : _ = (bif ((((underss 3 (List.map (cL c8) v17)) && ((underss 3 (List.map c_S_Write v18)) && true))) && ((((underss 3 (List.map (cL c8) v21)) && ((underss 3 (List.map c_S_Write v22)) && true))) && ((underss 3 (List.map (cL c8) y29)) && true))) then some [Blk.box [(A.imm (List.map (cL c8) v17) false), (A.imm (List.map c_S_Write v18) false), (A.v (Value.int .i64 v19)), (A.v (Value.bool v20))], Blk.box [(A.imm (List.map (cL c8) v21) true), (A.imm (List.map c_S_Write v22) true), (A.v (Value.int .i64 v23)), (A.v (Value.bool v24))], Blk.row true 1 (List.map (cL c8) y29)] else none)).trans (by simp only [underss_map, fu_cI, fu_c8, fu_cB, fu_cS, fu_cL, fu_S_Write, fu_S_Disk, fu_S_kinespherelaw04_Act,  Bool.and_true, Bool.true_and, cond_true])) ?_
      refine .cT ((by kernel_rfl : _ = (bif underss 3 (List.map (cL c8) v12) then (bif underss 3 (List.map c_S_Write v14) then true else false) else false)).trans (by simp only [underss_map, fu_cI, fu_c8, fu_cB, fu_cS, fu_cL, fu_S_Write, fu_S_Disk, fu_S_kinespherelaw04_Act,  Bool.and_true, Bool.true_and, cond_true])) ?_
      exact ih _ _
    · exact .ex (x0 _ _ _ _ _ _)

def F23 (n : Nat) (a0 : S_Disk) : Option (S_Disk × Int) :=
  Option.bind (G35 a0) fun y1 => bif (!y1) then (some (((S_Disk.mk ([]) ([]) 0 false), 40))) else (Option.bind (bif (decide (0 ≤ a0.Left)) then (some (decide (a0.Left < ((a0.Pending.length : Int))))) else (some false)) fun y4 => bif y4 then (Option.bind (subI a0.Pending 0 a0.Left) fun y10 => Option.bind (appI 24 ([]) a0.Sectors) fun y11 => Option.bind (F23_40_0 n ([]) y11.length y10 ((y10.length : Int)) a0.Sectors a0.Pending a0.Left a0.Stopped ([]) ([]) 0 false (n+7) 0 y11) fun o30 => match o30 with | (y31, y32) => Option.bind (getI a0.Pending a0.Left) fun y37 => Option.bind (idxN y31 y37.At) fun k38 => Option.bind (y32[k38]?) fun y39 => Option.bind (appI 1 ([]) y39) fun y40 => Option.bind (subN y40.length 0 64) fun k41 => Option.bind (idxN y31 y37.At) fun k42 => Option.bind (modI y32 k42 (fun (y : (List UInt8)) => (List.take y40.length (List.drop 0 ((copyI y40 k41.1 k41.2 y37.Data)))))) fun y43 => some (((S_Disk.mk ((List.take y31 (List.drop 0 y43))) ([]) 0 true), 40))) else (Option.bind (G40 a0.Sectors a0.Pending) fun y44 => bif (decide (0 ≤ a0.Left)) then (some (((S_Disk.mk y44 ([]) (wr .i64 (a0.Left - ((a0.Pending.length : Int)))) false), 0))) else (some (((S_Disk.mk y44 ([]) a0.Left false), 0)))))

theorem T23 (C : Nat → List A → Option A) (n : Nat) (h35 : Orc35 C) (h40 : Orc40 C) (a0 : S_Disk) : J (fun (o : R) y => ∃ v, o.1 = .ret v ∧ snapE o.2 v = (A.tup [(A.agg [(A.imm (List.map (cL c8) y.1.Sectors) false), (A.imm (List.map c_S_Write y.1.Pending) false), (A.v (Value.int .i64 y.1.Left)), (A.v (Value.bool y.1.Stopped))]), (A.v (Value.int .i64 y.2))])) (evCall1 (cx C) (evCall (cx C) (n+8)) (evCallY (cx C) (n+8)) (n+8) 23 [(A.agg [(A.imm (List.map (cL c8) a0.Sectors) false), (A.imm (List.map c_S_Write a0.Pending) false), (A.v (Value.int .i64 a0.Left)), (A.v (Value.bool a0.Stopped))])] [] 0) some (F23 n a0) some := by
  refine .lp (e23 ..) ?_
  unfold F23
  refine .st (v := ((A.ptr 0 0), [Blk.box [(A.imm (List.map (cL c8) a0.Sectors) false), (A.imm (List.map c_S_Write a0.Pending) false), (A.v (Value.int .i64 a0.Left)), (A.v (Value.bool a0.Stopped))]])) (by kernel_rfl) ?_
  refine .st (v := ((A.ptr 1 0), [Blk.box [(A.imm (List.map (cL c8) a0.Sectors) false), (A.imm (List.map c_S_Write a0.Pending) false), (A.v (Value.int .i64 a0.Left)), (A.v (Value.bool a0.Stopped))], Blk.box [(A.imm [] true), (A.imm [] true), (A.v (Value.int .i64 0)), (A.v (Value.bool false))]])) (by kernel_rfl) ?_
  refine .st (v := (A.agg [(A.imm (List.map (cL c8) a0.Sectors) false), (A.imm (List.map c_S_Write a0.Pending) false), (A.v (Value.int .i64 a0.Left)), (A.v (Value.bool a0.Stopped))])) (by kernel_rfl) ?_
  refine .bd (g := fun (y : Bool) => (A.v (Value.bool y))) (by show C 35 [snap [Blk.box [(A.imm (List.map (cL c8) a0.Sectors) false), (A.imm (List.map c_S_Write a0.Pending) false), (A.v (Value.int .i64 a0.Left)), (A.v (Value.bool a0.Stopped))], Blk.box [(A.imm [] true), (A.imm [] true), (A.v (Value.int .i64 0)), (A.v (Value.bool false))]] (A.agg [(A.imm (List.map (cL c8) a0.Sectors) false), (A.imm (List.map c_S_Write a0.Pending) false), (A.v (Value.int .i64 a0.Left)), (A.v (Value.bool a0.Stopped))])] = _; simp only [snap, snapW, snapWs, snapWss, snapWss_map, trim, List.map_cons, List.map_nil, fl_cI, fl_c8, fl_cB, fl_cS, fl_cL, fl_S_Write, fl_S_Disk, fl_S_kinespherelaw04_Act]; exact h35 a0) fun y1 => ?_
  refine .st (v := (A.v (Value.bool (!y1)))) (by kernel_rfl) ?_
  refine .biHN (fun hk2 => ?_) (fun hk2 => ?_)
  · refine .st (v := (A.agg [(A.imm [] true), (A.imm [] true), (A.v (Value.int .i64 0)), (A.v (Value.bool false))])) (by kernel_rfl) ?_
    refine .st (v := [Blk.box [(A.imm (List.map (cL c8) a0.Sectors) false), (A.imm (List.map c_S_Write a0.Pending) false), (A.v (Value.int .i64 a0.Left)), (A.v (Value.bool a0.Stopped))], Blk.box [(A.imm [] true), (A.imm [] true), (A.v (Value.int .i64 0)), (A.v (Value.bool false))]]) (by kernel_rfl) ?_
    refine .st (v := (A.agg [(A.imm [] true), (A.imm [] true), (A.v (Value.int .i64 0)), (A.v (Value.bool false))])) (by kernel_rfl) ?_
    exact .lf rfl rfl ⟨_, rfl, by show snapE [Blk.box [(A.imm (List.map (cL c8) a0.Sectors) false), (A.imm (List.map c_S_Write a0.Pending) false), (A.v (Value.int .i64 a0.Left)), (A.v (Value.bool a0.Stopped))], Blk.box [(A.imm [] true), (A.imm [] true), (A.v (Value.int .i64 0)), (A.v (Value.bool false))]] (A.tup [(A.agg [(A.imm [] true), (A.imm [] true), (A.v (Value.int .i64 0)), (A.v (Value.bool false))]), (A.v (Value.int .i64 40))]) = _; first | (simp only [snap, snapW, snapWs, snapWss, snapWss_map, trim, List.map_cons, List.map_nil, fl_cI, fl_c8, fl_cB, fl_cS, fl_cL, fl_S_Write, fl_S_Disk, fl_S_kinespherelaw04_Act, snapE]; done) | (simp only [snap, snapW, snapWs, snapWss, snapWss_map, trim, fl_cI, fl_c8, fl_cB, fl_cS, fl_cL, fl_S_Write, fl_S_Disk, fl_S_kinespherelaw04_Act, snapE]; done) | (simp only [snap, snapW, snapWs, snapWss, snapWss_map, trim, fl_cI, fl_c8, fl_cB, fl_cS, fl_cL, fl_S_Write, fl_S_Disk, fl_S_kinespherelaw04_Act, snapE]; rfl)⟩
  · refine .st (v := (A.ptr 0 1)) (by kernel_rfl) ?_
    refine .st (v := (A.imm (List.map c_S_Write a0.Pending) false)) (by kernel_rfl) ?_
    refine .st (v := (A.v (Value.int .i64 ((a0.Pending.length : Int))))) (len_imm (e := 54) (h1 := by kernel_rfl) ..) ?_
    refine .st (v := (A.ptr 0 2)) (by kernel_rfl) ?_
    refine .st (v := (A.v (Value.int .i64 a0.Left))) (by kernel_rfl) ?_
    refine .st (v := (A.v (Value.bool (decide (0 ≤ a0.Left))))) (aBin_geq ..) ?_
    refine .bg (fun t (y : Bool) => ∃ j5 j6 j7 j8 : A, t = [(A.v (Value.bool y)), j5, j6, j7, j8]) ?_ ?_
    · refine .biH (fun hk3 => ?_) (fun hk3 => ?_)
      · refine .st (v := (A.ptr 0 2)) (by kernel_rfl) ?_
        refine .st (v := (A.v (Value.int .i64 a0.Left))) (by kernel_rfl) ?_
        refine .st (v := (A.v (Value.bool (decide (a0.Left < ((a0.Pending.length : Int))))))) (aBin_lss ..) ?_
        exact .lg ⟨_, _, _, _, rfl⟩
      · exact .lg ⟨_, _, _, _, rfl⟩
    rintro _ y4 ⟨j5, j6, j7, j8, rfl⟩
    iterate 5 refine .uc ?_
    refine .biHN (fun hk9 => ?_) (fun hk9 => ?_)
    · refine .st (v := (A.ptr 0 1)) (by kernel_rfl) ?_
      refine .st (v := (A.imm (List.map c_S_Write a0.Pending) false)) (by kernel_rfl) ?_
      refine .st (v := (A.ptr 0 2)) (by kernel_rfl) ?_
      refine .st (v := (A.v (Value.int .i64 a0.Left))) (by kernel_rfl) ?_
      refine .st (v := (A.ptr 0 2)) (by kernel_rfl) ?_
      refine .st (v := (A.v (Value.int .i64 a0.Left))) (by kernel_rfl) ?_
      refine .bd (g := fun (y : List S_Write) => (A.imm (List.map c_S_Write y) true)) (cut_imm3 (e := 54) (es := 2) (f := c_S_Write) (l := a0.Pending) (a := 0) (b := a0.Left) (by kernel_rfl) (by kernel_rfl) (fun _ => rfl) (.inl ⟨rfl, rfl⟩)) fun y10 => ?_
      refine .st (v := (A.ptr 0 0)) (by kernel_rfl) ?_
      refine .st (v := (A.imm (List.map (cL c8) a0.Sectors) false)) (by kernel_rfl) ?_
      refine .cl ((evCall_in lt_40).trans (e40 C (evCall (cx C) (n+7)) (evCallY (cx C) (n+7)) (n+7) _ _ _ _)) ?_
      refine .cl ((evCall_in lt_46).trans (e46 C (evCall (cx C) (n+6)) (evCallY (cx C) (n+6)) (n+6) _ _ _)) ?_
      refine .st (v := (A.nq (List.map (cL c8) a0.Sectors))) (nq_imm (e := 35) (by kernel_rfl)) ?_
      refine .nq (f := (cL c8)) (l := a0.Sectors) (fun hn => by rw [hn]; kernel_rfl) ?_
      refine .st (v := (A.imm [] true)) (by kernel_rfl) ?_
      refine .bd (g := fun (y : List (List UInt8)) => ((A.sl 2 0 y.length false), [Blk.box [(A.imm (List.map (cL c8) a0.Sectors) false), (A.imm (List.map c_S_Write a0.Pending) false), (A.v (Value.int .i64 a0.Left)), (A.v (Value.bool a0.Stopped))], Blk.box [(A.imm [] true), (A.imm [] true), (A.v (Value.int .i64 0)), (A.v (Value.bool false))], Blk.row true 1 (List.map (cL c8) y)])) (wrow_app (e := 35) (es := 1) (by_ := 24) (z := [(A.imm [] true)]) (by kernel_rfl) (by kernel_rfl) (by kernel_rfl) (by kernel_rfl) rfl (by decide) (by decide) (by kernel_rfl) (f := (cL c8)) (fun _ => rfl) ce_cL (l2 := a0.Sectors) (els_imm ..)) fun y11 => ?_
      refine .cr ?_
      refine .ok ?_
      refine .st (v := (A.v (Value.int .i64 ((y10.length : Int))))) (len_imm (e := 54) (h1 := by kernel_rfl) ..) ?_
      refine .as (T23_40_0 C n h35 h40 ([]) y11.length y10 ((y10.length : Int)) a0.Sectors a0.Pending a0.Left a0.Stopped ([]) ([]) 0 false _ _ _ _ ?_ _ 0 y11)
      · intro y31 y32 j33 j34 j35 j36
        refine .un rfl ?_
        refine .cT (by kernel_rfl) ?_
        refine .cr ?_
        refine .ok ?_
        refine .st (v := (A.agg [(A.sl 2 0 y31 false), (A.imm [] true), (A.v (Value.int .i64 0)), (A.v (Value.bool true))])) (by kernel_rfl) ?_
        refine .st (v := [Blk.box [(A.imm (List.map (cL c8) a0.Sectors) false), (A.imm (List.map c_S_Write a0.Pending) false), (A.v (Value.int .i64 a0.Left)), (A.v (Value.bool a0.Stopped))], Blk.box [(A.sl 2 0 y31 false), (A.imm [] true), (A.v (Value.int .i64 0)), (A.v (Value.bool true))], Blk.row true 1 (List.map (cL c8) y32)]) (by kernel_rfl) ?_
        refine .st (v := (A.ptr 0 1)) (by kernel_rfl) ?_
        refine .st (v := (A.imm (List.map c_S_Write a0.Pending) false)) (by kernel_rfl) ?_
        refine .st (v := (A.ptr 0 2)) (by kernel_rfl) ?_
        refine .st (v := (A.v (Value.int .i64 a0.Left))) (by kernel_rfl) ?_
        refine .bd (g := fun (y : S_Write) => A.ip (c_S_Write y)) (idx_imm (e := 54) (es := 2) (h1 := by kernel_rfl) (h2 := by kernel_rfl) (h3 := fun _ => rfl) ..) fun y37 => ?_
        refine .st (v := (A.agg [(A.v (Value.int .i64 y37.At)), (A.imm (List.map c8 y37.Data) false)])) (by kernel_rfl) ?_
        refine .st (v := ((A.ptr 3 0), [Blk.box [(A.imm (List.map (cL c8) a0.Sectors) false), (A.imm (List.map c_S_Write a0.Pending) false), (A.v (Value.int .i64 a0.Left)), (A.v (Value.bool a0.Stopped))], Blk.box [(A.sl 2 0 y31 false), (A.imm [] true), (A.v (Value.int .i64 0)), (A.v (Value.bool true))], Blk.row true 1 (List.map (cL c8) y32), Blk.box [(A.v (Value.int .i64 0)), (A.imm [] true)]])) (by kernel_rfl) ?_
        refine .st (v := [Blk.box [(A.imm (List.map (cL c8) a0.Sectors) false), (A.imm (List.map c_S_Write a0.Pending) false), (A.v (Value.int .i64 a0.Left)), (A.v (Value.bool a0.Stopped))], Blk.box [(A.sl 2 0 y31 false), (A.imm [] true), (A.v (Value.int .i64 0)), (A.v (Value.bool true))], Blk.row true 1 (List.map (cL c8) y32), Blk.box [(A.v (Value.int .i64 y37.At)), (A.imm (List.map c8 y37.Data) false)]]) (by kernel_rfl) ?_
        refine .st (v := (A.ptr 1 0)) (by kernel_rfl) ?_
        refine .st (v := (A.sl 2 0 y31 false)) (by kernel_rfl) ?_
        refine .st (v := (A.ptr 3 0)) (by kernel_rfl) ?_
        refine .st (v := (A.v (Value.int .i64 y37.At))) (by kernel_rfl) ?_
        refine .bd (g := fun (y : Nat) => A.ep 2 y 0) (wrow_idx0 (e := 35) (es := 1) (l := y32) (by kernel_rfl) (by kernel_rfl) rfl) fun k38 => ?_
        refine .bd (g := fun (y : (List UInt8)) => (A.imm (List.map c8 y) false)) (wrow_load (es := 1) (n := 1) (l := y32) (by kernel_rfl) (by decide) (fun _ => rfl) (by decide) rfl (fun _ => by kernel_rfl)) fun y39 => ?_
        refine .cl ((evCall_in lt_41).trans (e41 C (evCall (cx C) (n+7)) (evCallY (cx C) (n+7)) (n+7) _ _ _)) ?_
        refine .st (v := (A.nq (List.map c8 y39))) (nq_imm (e := 5) (by kernel_rfl)) ?_
        refine .nq (f := c8) (l := y39) (fun hn => by rw [hn]; kernel_rfl) ?_
        refine .st (v := (A.imm [] true)) (by kernel_rfl) ?_
        refine .bd (g := fun (y : List UInt8) => ((A.sl 4 0 y.length false), [Blk.box [(A.imm (List.map (cL c8) a0.Sectors) false), (A.imm (List.map c_S_Write a0.Pending) false), (A.v (Value.int .i64 a0.Left)), (A.v (Value.bool a0.Stopped))], Blk.box [(A.sl 2 0 y31 false), (A.imm [] true), (A.v (Value.int .i64 0)), (A.v (Value.bool true))], Blk.row true 1 (List.map (cL c8) y32), Blk.box [(A.v (Value.int .i64 y37.At)), (A.imm (List.map c8 y37.Data) false)], Blk.row true 1 (List.map c8 y)])) (wrow_app (e := 5) (es := 1) (by_ := 1) (z := [(A.v (Value.int .u8 0))]) (by kernel_rfl) (by kernel_rfl) (by kernel_rfl) (by kernel_rfl) rfl (by decide) (by decide) (by kernel_rfl) (f := c8) (fun _ => rfl) ce_c8 (l2 := y39) (els_imm ..)) fun y40 => ?_
        refine .cr ?_
        refine .ok ?_
        refine .bd (g := fun (y : Nat × Nat) => (A.sl 4 y.1 y.2 false)) (wrow_cut0 (e := 5) (es := 1) (p := 0) (q := 64) (by kernel_rfl) (by kernel_rfl) rfl (.inl ⟨rfl, rfl⟩) (.inr ⟨_, rfl⟩)) fun k41 => ?_
        refine .st (v := (A.ptr 3 1)) (by kernel_rfl) ?_
        refine .st (v := (A.imm (List.map c8 y37.Data) false)) (by kernel_rfl) ?_
        refine .st (v := ((A.v (Value.int .i64 (((min y37.Data.length k41.2 : Nat) : Int)))), [Blk.box [(A.imm (List.map (cL c8) a0.Sectors) false), (A.imm (List.map c_S_Write a0.Pending) false), (A.v (Value.int .i64 a0.Left)), (A.v (Value.bool a0.Stopped))], Blk.box [(A.sl 2 0 y31 false), (A.imm [] true), (A.v (Value.int .i64 0)), (A.v (Value.bool true))], Blk.row true 1 (List.map (cL c8) y32), Blk.box [(A.v (Value.int .i64 y37.At)), (A.imm (List.map c8 y37.Data) false)], Blk.row true 1 (List.map c8 ((copyI y40 k41.1 k41.2 y37.Data)))])) (wrow_copy (e := 5) (es := 1) (f := c8) (l := y40) (l2 := y37.Data) (by kernel_rfl) (by kernel_rfl) (by decide) (fun _ => rfl) ce_c8 (by decide) rfl (els_imm ..)) ?_
        refine .st (v := ((A.imm (List.map c8 ((List.take y40.length (List.drop 0 ((copyI y40 k41.1 k41.2 y37.Data)))))) false), [Blk.box [(A.imm (List.map (cL c8) a0.Sectors) false), (A.imm (List.map c_S_Write a0.Pending) false), (A.v (Value.int .i64 a0.Left)), (A.v (Value.bool a0.Stopped))], Blk.box [(A.sl 2 0 y31 false), (A.imm [] true), (A.v (Value.int .i64 0)), (A.v (Value.bool true))], Blk.row true 1 (List.map (cL c8) y32), Blk.box [(A.v (Value.int .i64 y37.At)), (A.imm (List.map c8 y37.Data) false)], Blk.dead])) (kill_row (es := 1) (l := (copyI y40 k41.1 k41.2 y37.Data)) fl_c8 rfl (by decide)) ?_
        refine .st (v := (A.ptr 1 0)) (by kernel_rfl) ?_
        refine .st (v := (A.sl 2 0 y31 false)) (by kernel_rfl) ?_
        refine .st (v := (A.ptr 3 0)) (by kernel_rfl) ?_
        refine .st (v := (A.v (Value.int .i64 y37.At))) (by kernel_rfl) ?_
        refine .bd (g := fun (y : Nat) => A.ep 2 y 0) (wrow_idx0 (e := 35) (es := 1) (l := y32) (by kernel_rfl) (by kernel_rfl) rfl) fun k42 => ?_
        refine .bd (g := fun (y : List (List UInt8)) => [Blk.box [(A.imm (List.map (cL c8) a0.Sectors) false), (A.imm (List.map c_S_Write a0.Pending) false), (A.v (Value.int .i64 a0.Left)), (A.v (Value.bool a0.Stopped))], Blk.box [(A.sl 2 0 y31 false), (A.imm [] true), (A.v (Value.int .i64 0)), (A.v (Value.bool true))], Blk.row true 1 (List.map (cL c8) y), Blk.box [(A.v (Value.int .i64 y37.At)), (A.imm (List.map c8 y37.Data) false)], Blk.dead]) ((wrow_store (es := 1) (n := 1) (l := y32) (xs := [(A.imm (List.map c8 ((List.take y40.length (List.drop 0 ((copyI y40 k41.1 k41.2 y37.Data)))))) false)]) (u := fun (y : (List UInt8)) => (List.take y40.length (List.drop 0 ((copyI y40 k41.1 k41.2 y37.Data))))) (by kernel_rfl) (by kernel_rfl) (by decide) rfl (fun _ => rfl) (by decide) (by decide) rfl (fun _ => rfl))) fun y43 => ?_
        refine .st (v := (A.agg [(A.sl 2 0 y31 false), (A.imm [] true), (A.v (Value.int .i64 0)), (A.v (Value.bool true))])) (by kernel_rfl) ?_
        refine .st (v := [Blk.box [(A.imm (List.map (cL c8) a0.Sectors) false), (A.imm (List.map c_S_Write a0.Pending) false), (A.v (Value.int .i64 a0.Left)), (A.v (Value.bool a0.Stopped))], Blk.box [(A.sl 2 0 y31 false), (A.imm [] true), (A.v (Value.int .i64 0)), (A.v (Value.bool true))], Blk.row true 1 (List.map (cL c8) y43), Blk.box [(A.v (Value.int .i64 y37.At)), (A.imm (List.map c8 y37.Data) false)], Blk.dead]) (by kernel_rfl) ?_
        refine .st (v := (A.agg [(A.sl 2 0 y31 false), (A.imm [] true), (A.v (Value.int .i64 0)), (A.v (Value.bool true))])) (by kernel_rfl) ?_
        exact .lf rfl rfl ⟨_, rfl, by show snapE [Blk.box [(A.imm (List.map (cL c8) a0.Sectors) false), (A.imm (List.map c_S_Write a0.Pending) false), (A.v (Value.int .i64 a0.Left)), (A.v (Value.bool a0.Stopped))], Blk.box [(A.sl 2 0 y31 false), (A.imm [] true), (A.v (Value.int .i64 0)), (A.v (Value.bool true))], Blk.row true 1 (List.map (cL c8) y43), Blk.box [(A.v (Value.int .i64 y37.At)), (A.imm (List.map c8 y37.Data) false)], Blk.dead] (A.tup [(A.agg [(A.sl 2 0 y31 false), (A.imm [] true), (A.v (Value.int .i64 0)), (A.v (Value.bool true))]), (A.v (Value.int .i64 40))]) = _; first | (simp only [snap, snapW, snapWs, snapWss, snapWss_map, trim, List.map_cons, List.map_nil, fl_cI, fl_c8, fl_cB, fl_cS, fl_cL, fl_S_Write, fl_S_Disk, fl_S_kinespherelaw04_Act, snapE, snapGE_sub (H := [Blk.box [(A.imm (List.map (cL c8) a0.Sectors) false), (A.imm (List.map c_S_Write a0.Pending) false), (A.v (Value.int .i64 a0.Left)), (A.v (Value.bool a0.Stopped))], Blk.box [(A.sl 2 0 y31 false), (A.imm [] true), (A.v (Value.int .i64 0)), (A.v (Value.bool true))], Blk.row true 1 (List.map (cL c8) y43), Blk.box [(A.v (Value.int .i64 y37.At)), (A.imm (List.map c8 y37.Data) false)], Blk.dead]) (b := 2) (es := 1) (wr := true) (l := y43) (fl_cL fl_c8) rfl]; done) | (simp only [snap, snapW, snapWs, snapWss, snapWss_map, trim, fl_cI, fl_c8, fl_cB, fl_cS, fl_cL, fl_S_Write, fl_S_Disk, fl_S_kinespherelaw04_Act, snapE, snapGE_sub (H := [Blk.box [(A.imm (List.map (cL c8) a0.Sectors) false), (A.imm (List.map c_S_Write a0.Pending) false), (A.v (Value.int .i64 a0.Left)), (A.v (Value.bool a0.Stopped))], Blk.box [(A.sl 2 0 y31 false), (A.imm [] true), (A.v (Value.int .i64 0)), (A.v (Value.bool true))], Blk.row true 1 (List.map (cL c8) y43), Blk.box [(A.v (Value.int .i64 y37.At)), (A.imm (List.map c8 y37.Data) false)], Blk.dead]) (b := 2) (es := 1) (wr := true) (l := y43) (fl_cL fl_c8) rfl]; done) | (simp only [snap, snapW, snapWs, snapWss, snapWss_map, trim, fl_cI, fl_c8, fl_cB, fl_cS, fl_cL, fl_S_Write, fl_S_Disk, fl_S_kinespherelaw04_Act, snapE, snapGE_sub (H := [Blk.box [(A.imm (List.map (cL c8) a0.Sectors) false), (A.imm (List.map c_S_Write a0.Pending) false), (A.v (Value.int .i64 a0.Left)), (A.v (Value.bool a0.Stopped))], Blk.box [(A.sl 2 0 y31 false), (A.imm [] true), (A.v (Value.int .i64 0)), (A.v (Value.bool true))], Blk.row true 1 (List.map (cL c8) y43), Blk.box [(A.v (Value.int .i64 y37.At)), (A.imm (List.map c8 y37.Data) false)], Blk.dead]) (b := 2) (es := 1) (wr := true) (l := y43) (fl_cL fl_c8) rfl]; rfl)⟩
    · refine .st (v := (A.ptr 0 0)) (by kernel_rfl) ?_
      refine .st (v := (A.imm (List.map (cL c8) a0.Sectors) false)) (by kernel_rfl) ?_
      refine .st (v := (A.ptr 0 1)) (by kernel_rfl) ?_
      refine .st (v := (A.imm (List.map c_S_Write a0.Pending) false)) (by kernel_rfl) ?_
      refine .bd (g := fun (y : (List (List UInt8))) => (A.imm (List.map (cL c8) y) false)) (by show C 40 [snap [Blk.box [(A.imm (List.map (cL c8) a0.Sectors) false), (A.imm (List.map c_S_Write a0.Pending) false), (A.v (Value.int .i64 a0.Left)), (A.v (Value.bool a0.Stopped))], Blk.box [(A.imm [] true), (A.imm [] true), (A.v (Value.int .i64 0)), (A.v (Value.bool false))]] (A.imm (List.map (cL c8) a0.Sectors) false), snap [Blk.box [(A.imm (List.map (cL c8) a0.Sectors) false), (A.imm (List.map c_S_Write a0.Pending) false), (A.v (Value.int .i64 a0.Left)), (A.v (Value.bool a0.Stopped))], Blk.box [(A.imm [] true), (A.imm [] true), (A.v (Value.int .i64 0)), (A.v (Value.bool false))]] (A.imm (List.map c_S_Write a0.Pending) false)] = _; simp only [snap, snapW, snapWs, snapWss, snapWss_map, trim, List.map_cons, List.map_nil, fl_cI, fl_c8, fl_cB, fl_cS, fl_cL, fl_S_Write, fl_S_Disk, fl_S_kinespherelaw04_Act]; exact h40 a0.Sectors a0.Pending) fun y44 => ?_
      refine .st (v := (A.ptr 0 2)) (by kernel_rfl) ?_
      refine .st (v := (A.v (Value.int .i64 a0.Left))) (by kernel_rfl) ?_
      refine .st (v := (A.agg [(A.imm (List.map (cL c8) y44) false), (A.imm [] true), (A.v (Value.int .i64 a0.Left)), (A.v (Value.bool false))])) (by kernel_rfl) ?_
      refine .st (v := [Blk.box [(A.imm (List.map (cL c8) a0.Sectors) false), (A.imm (List.map c_S_Write a0.Pending) false), (A.v (Value.int .i64 a0.Left)), (A.v (Value.bool a0.Stopped))], Blk.box [(A.imm (List.map (cL c8) y44) false), (A.imm [] true), (A.v (Value.int .i64 a0.Left)), (A.v (Value.bool false))]]) (by kernel_rfl) ?_
      refine .st (v := (A.ptr 1 2)) (by kernel_rfl) ?_
      refine .st (v := (A.v (Value.int .i64 a0.Left))) (by kernel_rfl) ?_
      refine .st (v := (A.v (Value.bool (decide (0 ≤ a0.Left))))) (aBin_geq ..) ?_
      refine .biHN (fun hk45 => ?_) (fun hk45 => ?_)
      · refine .st (v := (A.ptr 1 2)) (by kernel_rfl) ?_
        refine .st (v := (A.v (Value.int .i64 a0.Left))) (by kernel_rfl) ?_
        refine .st (v := (A.v (Value.int .i64 (wr .i64 (a0.Left - ((a0.Pending.length : Int))))))) (aBin_sub ..) ?_
        refine .st (v := (A.ptr 1 2)) (by kernel_rfl) ?_
        refine .st (v := [Blk.box [(A.imm (List.map (cL c8) a0.Sectors) false), (A.imm (List.map c_S_Write a0.Pending) false), (A.v (Value.int .i64 a0.Left)), (A.v (Value.bool a0.Stopped))], Blk.box [(A.imm (List.map (cL c8) y44) false), (A.imm [] true), (A.v (Value.int .i64 (wr .i64 (a0.Left - ((a0.Pending.length : Int)))))), (A.v (Value.bool false))]]) (by kernel_rfl) ?_
        refine .st (v := (A.agg [(A.imm (List.map (cL c8) y44) false), (A.imm [] true), (A.v (Value.int .i64 (wr .i64 (a0.Left - ((a0.Pending.length : Int)))))), (A.v (Value.bool false))])) (by kernel_rfl) ?_
        refine .st (v := [Blk.box [(A.imm (List.map (cL c8) a0.Sectors) false), (A.imm (List.map c_S_Write a0.Pending) false), (A.v (Value.int .i64 a0.Left)), (A.v (Value.bool a0.Stopped))], Blk.box [(A.imm (List.map (cL c8) y44) false), (A.imm [] true), (A.v (Value.int .i64 (wr .i64 (a0.Left - ((a0.Pending.length : Int)))))), (A.v (Value.bool false))]]) (by kernel_rfl) ?_
        refine .st (v := (A.agg [(A.imm (List.map (cL c8) y44) false), (A.imm [] true), (A.v (Value.int .i64 (wr .i64 (a0.Left - ((a0.Pending.length : Int)))))), (A.v (Value.bool false))])) (by kernel_rfl) ?_
        exact .lf rfl rfl ⟨_, rfl, by show snapE [Blk.box [(A.imm (List.map (cL c8) a0.Sectors) false), (A.imm (List.map c_S_Write a0.Pending) false), (A.v (Value.int .i64 a0.Left)), (A.v (Value.bool a0.Stopped))], Blk.box [(A.imm (List.map (cL c8) y44) false), (A.imm [] true), (A.v (Value.int .i64 (wr .i64 (a0.Left - ((a0.Pending.length : Int)))))), (A.v (Value.bool false))]] (A.tup [(A.agg [(A.imm (List.map (cL c8) y44) false), (A.imm [] true), (A.v (Value.int .i64 (wr .i64 (a0.Left - ((a0.Pending.length : Int)))))), (A.v (Value.bool false))]), (A.v (Value.int .i64 0))]) = _; first | (simp only [snap, snapW, snapWs, snapWss, snapWss_map, trim, List.map_cons, List.map_nil, fl_cI, fl_c8, fl_cB, fl_cS, fl_cL, fl_S_Write, fl_S_Disk, fl_S_kinespherelaw04_Act, snapE]; done) | (simp only [snap, snapW, snapWs, snapWss, snapWss_map, trim, fl_cI, fl_c8, fl_cB, fl_cS, fl_cL, fl_S_Write, fl_S_Disk, fl_S_kinespherelaw04_Act, snapE]; done) | (simp only [snap, snapW, snapWs, snapWss, snapWss_map, trim, fl_cI, fl_c8, fl_cB, fl_cS, fl_cL, fl_S_Write, fl_S_Disk, fl_S_kinespherelaw04_Act, snapE]; rfl)⟩
      · refine .st (v := (A.agg [(A.imm (List.map (cL c8) y44) false), (A.imm [] true), (A.v (Value.int .i64 a0.Left)), (A.v (Value.bool false))])) (by kernel_rfl) ?_
        refine .st (v := [Blk.box [(A.imm (List.map (cL c8) a0.Sectors) false), (A.imm (List.map c_S_Write a0.Pending) false), (A.v (Value.int .i64 a0.Left)), (A.v (Value.bool a0.Stopped))], Blk.box [(A.imm (List.map (cL c8) y44) false), (A.imm [] true), (A.v (Value.int .i64 a0.Left)), (A.v (Value.bool false))]]) (by kernel_rfl) ?_
        refine .st (v := (A.agg [(A.imm (List.map (cL c8) y44) false), (A.imm [] true), (A.v (Value.int .i64 a0.Left)), (A.v (Value.bool false))])) (by kernel_rfl) ?_
        exact .lf rfl rfl ⟨_, rfl, by show snapE [Blk.box [(A.imm (List.map (cL c8) a0.Sectors) false), (A.imm (List.map c_S_Write a0.Pending) false), (A.v (Value.int .i64 a0.Left)), (A.v (Value.bool a0.Stopped))], Blk.box [(A.imm (List.map (cL c8) y44) false), (A.imm [] true), (A.v (Value.int .i64 a0.Left)), (A.v (Value.bool false))]] (A.tup [(A.agg [(A.imm (List.map (cL c8) y44) false), (A.imm [] true), (A.v (Value.int .i64 a0.Left)), (A.v (Value.bool false))]), (A.v (Value.int .i64 0))]) = _; first | (simp only [snap, snapW, snapWs, snapWss, snapWss_map, trim, List.map_cons, List.map_nil, fl_cI, fl_c8, fl_cB, fl_cS, fl_cL, fl_S_Write, fl_S_Disk, fl_S_kinespherelaw04_Act, snapE]; done) | (simp only [snap, snapW, snapWs, snapWss, snapWss_map, trim, fl_cI, fl_c8, fl_cB, fl_cS, fl_cL, fl_S_Write, fl_S_Disk, fl_S_kinespherelaw04_Act, snapE]; done) | (simp only [snap, snapW, snapWs, snapWss, snapWss_map, trim, fl_cI, fl_c8, fl_cB, fl_cS, fl_cL, fl_S_Write, fl_S_Disk, fl_S_kinespherelaw04_Act, snapE]; rfl)⟩

def G23 (a0 : S_Disk) : Option (S_Disk × Int) := F23 fuel0 a0

def Orc23 (C : Nat → List A → Option A) : Prop := ∀ (a0 : S_Disk), C 23 [(A.agg [(A.imm (List.map (cL c8) a0.Sectors) false), (A.imm (List.map c_S_Write a0.Pending) false), (A.v (Value.int .i64 a0.Left)), (A.v (Value.bool a0.Stopped))])] = (G23 a0).map fun y => (A.tup [(A.agg [(A.imm (List.map (cL c8) y.1.Sectors) false), (A.imm (List.map c_S_Write y.1.Pending) false), (A.v (Value.int .i64 y.1.Left)), (A.v (Value.bool y.1.Stopped))]), (A.v (Value.int .i64 y.2))])

def F17 (n : Nat) (a0 : S_Disk) : Option S_Disk :=
  some ((S_Disk.mk a0.Sectors ([]) (-1) false))

theorem T17 (C : Nat → List A → Option A) (n : Nat) (a0 : S_Disk) : J (fun (o : R) y => ∃ v, o.1 = .ret v ∧ snapE o.2 v = (A.agg [(A.imm (List.map (cL c8) y.Sectors) false), (A.imm (List.map c_S_Write y.Pending) false), (A.v (Value.int .i64 y.Left)), (A.v (Value.bool y.Stopped))])) (evCall1 (cx C) (evCall (cx C) (n+8)) (evCallY (cx C) (n+8)) (n+8) 17 [(A.agg [(A.imm (List.map (cL c8) a0.Sectors) false), (A.imm (List.map c_S_Write a0.Pending) false), (A.v (Value.int .i64 a0.Left)), (A.v (Value.bool a0.Stopped))])] [] 0) some (F17 n a0) some := by
  refine .lp (e17 ..) ?_
  unfold F17
  refine .st (v := ((A.ptr 0 0), [Blk.box [(A.imm (List.map (cL c8) a0.Sectors) false), (A.imm (List.map c_S_Write a0.Pending) false), (A.v (Value.int .i64 a0.Left)), (A.v (Value.bool a0.Stopped))]])) (by kernel_rfl) ?_
  refine .st (v := ((A.ptr 1 0), [Blk.box [(A.imm (List.map (cL c8) a0.Sectors) false), (A.imm (List.map c_S_Write a0.Pending) false), (A.v (Value.int .i64 a0.Left)), (A.v (Value.bool a0.Stopped))], Blk.box [(A.imm [] true), (A.imm [] true), (A.v (Value.int .i64 0)), (A.v (Value.bool false))]])) (by kernel_rfl) ?_
  refine .st (v := (A.ptr 0 0)) (by kernel_rfl) ?_
  refine .st (v := (A.imm (List.map (cL c8) a0.Sectors) false)) (by kernel_rfl) ?_
  refine .st (v := (A.agg [(A.imm (List.map (cL c8) a0.Sectors) false), (A.imm [] true), (A.v (Value.int .i64 (-1))), (A.v (Value.bool false))])) (by kernel_rfl) ?_
  refine .st (v := [Blk.box [(A.imm (List.map (cL c8) a0.Sectors) false), (A.imm (List.map c_S_Write a0.Pending) false), (A.v (Value.int .i64 a0.Left)), (A.v (Value.bool a0.Stopped))], Blk.box [(A.imm (List.map (cL c8) a0.Sectors) false), (A.imm [] true), (A.v (Value.int .i64 (-1))), (A.v (Value.bool false))]]) (by kernel_rfl) ?_
  refine .st (v := (A.agg [(A.imm (List.map (cL c8) a0.Sectors) false), (A.imm [] true), (A.v (Value.int .i64 (-1))), (A.v (Value.bool false))])) (by kernel_rfl) ?_
  exact .lf rfl rfl ⟨_, rfl, by show snapE [Blk.box [(A.imm (List.map (cL c8) a0.Sectors) false), (A.imm (List.map c_S_Write a0.Pending) false), (A.v (Value.int .i64 a0.Left)), (A.v (Value.bool a0.Stopped))], Blk.box [(A.imm (List.map (cL c8) a0.Sectors) false), (A.imm [] true), (A.v (Value.int .i64 (-1))), (A.v (Value.bool false))]] (A.agg [(A.imm (List.map (cL c8) a0.Sectors) false), (A.imm [] true), (A.v (Value.int .i64 (-1))), (A.v (Value.bool false))]) = _; first | (simp only [snap, snapW, snapWs, snapWss, snapWss_map, trim, List.map_cons, List.map_nil, fl_cI, fl_c8, fl_cB, fl_cS, fl_cL, fl_S_Write, fl_S_Disk, fl_S_kinespherelaw04_Act, snapE]; done) | (simp only [snap, snapW, snapWs, snapWss, snapWss_map, trim, fl_cI, fl_c8, fl_cB, fl_cS, fl_cL, fl_S_Write, fl_S_Disk, fl_S_kinespherelaw04_Act, snapE]; done) | (simp only [snap, snapW, snapWs, snapWss, snapWss_map, trim, fl_cI, fl_c8, fl_cB, fl_cS, fl_cL, fl_S_Write, fl_S_Disk, fl_S_kinespherelaw04_Act, snapE]; rfl)⟩

def G17 (a0 : S_Disk) : Option S_Disk := F17 fuel0 a0

def Orc17 (C : Nat → List A → Option A) : Prop := ∀ (a0 : S_Disk), C 17 [(A.agg [(A.imm (List.map (cL c8) a0.Sectors) false), (A.imm (List.map c_S_Write a0.Pending) false), (A.v (Value.int .i64 a0.Left)), (A.v (Value.bool a0.Stopped))])] = (G17 a0).map fun y => (A.agg [(A.imm (List.map (cL c8) y.Sectors) false), (A.imm (List.map c_S_Write y.Pending) false), (A.v (Value.int .i64 y.Left)), (A.v (Value.bool y.Stopped))])

end Go.Proofs.Ythoomfjliekbdaa
