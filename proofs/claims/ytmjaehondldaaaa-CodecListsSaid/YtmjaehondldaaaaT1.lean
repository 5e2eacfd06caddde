/-
 The program's functions as plain functions: by a tool; each follows the interpreter.
-/
import Derived.Test.YtmjaehondldaaaaE
import Derived.KernelRfl
namespace Go.Proofs.Ytmjaehondldaaaa
open Go.Proofs.Try (prog)
set_option linter.unusedVariables false
set_option linter.unusedSimpArgs false
set_option maxHeartbeats 4000000
set_option maxRecDepth 100000
abbrev bz4 : Blk := Blk.box [(A.imm [] true), (A.imm [] true), (iA 0), (bA false)]
abbrev bz3 : Blk := Blk.box [(A.imm [] true), (iA 0), (iA 0)]
noncomputable abbrev ec (C : Nat -> List A -> Option A) (n k : Nat) := evCall (cx C) (n+k)
noncomputable abbrev ey (C : Nat -> List A -> Option A) (n k : Nat) := evCallY (cx C) (n+k)
structure S_Value where
 Kind : Int
 N : Int
 S : ByteArray
 L : (List S_Value)
 deriving Inhabited
mutual
def la_S_Value : S_Value -> A
 | .mk _ _ _ l => .imm (ls_S_Value l) false
def ls_S_Value : List S_Value -> List (List A)
 | [] => []
 | x :: r => [(iA x.Kind), (iA x.N), (A.v (Value.string x.S)), la_S_Value x] :: ls_S_Value r
end
def c_S_Value (x : S_Value) : List A := [(iA x.Kind), (iA x.N), (A.v (Value.string x.S)), la_S_Value x]
theorem le_S_Value : ∀ (l : List S_Value), ls_S_Value l = l.map c_S_Value
 | [] => by rw [ls_S_Value]; rfl
 | x :: r => by rw [ls_S_Value, le_S_Value r]; rfl
theorem lq_S_Value (x : S_Value) : la_S_Value x = .imm (x.L.map c_S_Value) false := by
 cases x; rw [la_S_Value, le_S_Value]
theorem cq_S_Value (x : S_Value) : c_S_Value x = [(iA x.Kind), (iA x.N), (A.v (Value.string x.S)), .imm (x.L.map c_S_Value) false] := by
 show [(iA x.Kind), (iA x.N), (A.v (Value.string x.S)), la_S_Value x] = _
 rw [lq_S_Value]
theorem ci_S_Value (o : Option S_Value) : (o.map fun x => A.ip (c_S_Value x)) = o.map fun x => A.ip [(iA x.Kind), (iA x.N), (A.v (Value.string x.S)), .imm (x.L.map c_S_Value) false] := by
 cases o with
 | none => rfl
 | some x => exact congrArg (fun z => some (A.ip z)) (cq_S_Value x)
theorem ce_S_Value : CellF c_S_Value := fun x => by rw [cq_S_Value]; rfl
mutual
theorem ua_S_Value (L : Nat) : ∀ (x : S_Value), A.under L (la_S_Value x) = true
 | .mk _ _ _ l => by rw [la_S_Value, A.under]; exact us_S_Value L l
theorem us_S_Value (L : Nat) : ∀ (l : List S_Value), underss L (ls_S_Value l) = true
 | [] => by rw [ls_S_Value]; rfl
 | x :: r => by rw [ls_S_Value, underss, us_S_Value L r]; simp only [unders, A.under, ua_S_Value L x, Bool.and_true, Bool.and_self]
end
mutual
theorem sa_S_Value (g : Nat -> Nat -> Nat -> A) : ∀ (x : S_Value), snapW g (la_S_Value x) = la_S_Value x
 | .mk _ _ _ l => by rw [la_S_Value, snapW, ss_S_Value g l]
theorem ss_S_Value (g : Nat -> Nat -> Nat -> A) : ∀ (l : List S_Value), snapWss g (ls_S_Value l) = ls_S_Value l
 | [] => by rw [ls_S_Value]; rfl
 | x :: r => by rw [ls_S_Value, snapWss, ss_S_Value g r]; simp only [snapWs, snapW, sa_S_Value g x]
end
theorem fu_S_Value : FlatU c_S_Value := fun L x => by unfold c_S_Value; simp only [unders, A.under, ua_S_Value L x, Bool.and_true, Bool.and_self]
theorem fl_S_Value : FlatS c_S_Value := fun g x => by unfold c_S_Value; simp only [snapWs, snapW, sa_S_Value g x]
mutual
theorem ia_S_Value : ∀ (x y : S_Value), la_S_Value x = la_S_Value y -> x.L = y.L
 | .mk xKind xN xS l, .mk yKind yN yS l' => fun h => by
  rw [la_S_Value, la_S_Value, A.imm.injEq] at h
  exact is_S_Value l l' h.1
theorem is_S_Value : ∀ (l l' : List S_Value), ls_S_Value l = ls_S_Value l' -> l = l'
 | [], [] => fun _ => rfl
 | [], y :: r => fun h => by rw [ls_S_Value, ls_S_Value] at h; cases h
 | x :: r, [] => fun h => by rw [ls_S_Value, ls_S_Value] at h; cases h
 | x :: r, y :: r' => fun h => by
  rw [ls_S_Value, ls_S_Value, List.cons.injEq] at h
  have h2 := is_S_Value r r' h.2
  have h1 := h.1
  simp only [List.cons.injEq, A.v.injEq, Value.int.injEq, Value.bool.injEq, Value.string.injEq, and_true, true_and] at h1
  have h3 := ia_S_Value x y (by simp [h1])
  rw [h2]
  congr 1
  obtain ⟨xKind, xN, xS, lx⟩ := x; obtain ⟨yKind, yN, yS, ly⟩ := y
  simp_all
end
theorem els_lit {T : Type} {f : T -> List A} {H : Heap} {l : List T} {rows : List (List A)} {c : Bool} (h : l.map f = rows) : ElsOf H (.imm rows c) f l := by
 rw [<- h]; exact els_imm ..
def c_A4_bool (x : (Bool × Bool × Bool × Bool)) : List A := [(bA x.1), (bA x.2.1), (bA x.2.2.1), (bA x.2.2.2)]
theorem fu_A4_bool : FlatU c_A4_bool := fun _ _ => by simp only [c_A4_bool, unders, A.under, underss_map, fu_cI, fu_c8, fu_cB, fu_cS, fu_cL, Bool.and_true, Bool.true_and, fu_S_Value]
theorem fl_A4_bool : FlatS c_A4_bool := fun _ _ => by simp only [c_A4_bool, snapW, snapWs, snapWss_map, fl_cI, fl_c8, fl_cB, fl_cS, fl_cL, fl_S_Value]
theorem fq_A4_bool (g : Nat -> Nat -> Nat -> A) (x : (Bool × Bool × Bool × Bool)) : snapWs g (c_A4_bool x) = c_A4_bool x := fl_A4_bool g x
theorem fuq_A4_bool (L : Nat) (x : (Bool × Bool × Bool × Bool)) : unders L (c_A4_bool x) = true := fu_A4_bool L x
structure S_codec_reader where
 rest : (List UInt8)
 deriving DecidableEq, Inhabited
def c_S_codec_reader (x : S_codec_reader) : List A := [(A.imm (List.map c8 x.rest) false)]
theorem fu_S_codec_reader : FlatU c_S_codec_reader := fun _ _ => by simp only [c_S_codec_reader, unders, A.under, underss_map, fu_cI, fu_c8, fu_cB, fu_cS, fu_cL, Bool.and_true, Bool.true_and, fu_S_Value, fu_A4_bool]
theorem fl_S_codec_reader : FlatS c_S_codec_reader := fun _ _ => by simp only [c_S_codec_reader, snapW, snapWs, snapWss_map, fl_cI, fl_c8, fl_cB, fl_cS, fl_cL, fl_S_Value, fl_A4_bool]
theorem fq_S_Value (g : Nat -> Nat -> Nat -> A) (x : S_Value) : snapWs g (c_S_Value x) = c_S_Value x := fl_S_Value g x
theorem fuq_S_Value (L : Nat) (x : S_Value) : unders L (c_S_Value x) = true := fu_S_Value L x
theorem fq_S_codec_reader (g : Nat -> Nat -> Nat -> A) (x : S_codec_reader) : snapWs g (c_S_codec_reader x) = c_S_codec_reader x := fl_S_codec_reader g x
theorem fuq_S_codec_reader (L : Nat) (x : S_codec_reader) : unders L (c_S_codec_reader x) = true := fu_S_codec_reader L x
theorem snS : FlatS c_S_Value /\ FlatS c_A4_bool /\ FlatS c_S_codec_reader /\ (∀ (g : Nat -> Nat -> Nat -> A) (x : S_Value), snapWs g (c_S_Value x) = c_S_Value x) /\ (∀ (g : Nat -> Nat -> Nat -> A) (x : (Bool × Bool × Bool × Bool)), snapWs g (c_A4_bool x) = c_A4_bool x) /\ (∀ (g : Nat -> Nat -> Nat -> A) (x : S_codec_reader), snapWs g (c_S_codec_reader x) = c_S_codec_reader x) /\ True := ⟨fl_S_Value, fl_A4_bool, fl_S_codec_reader, fq_S_Value, fq_A4_bool, fq_S_codec_reader, trivial⟩
theorem snM : (FlatS c_S_Value /\ FlatS c_A4_bool /\ FlatS c_S_codec_reader /\ (∀ (g : Nat -> Nat -> Nat -> A) (x : S_Value), snapWs g (c_S_Value x) = c_S_Value x) /\ (∀ (g : Nat -> Nat -> Nat -> A) (x : (Bool × Bool × Bool × Bool)), snapWs g (c_A4_bool x) = c_A4_bool x) /\ (∀ (g : Nat -> Nat -> Nat -> A) (x : S_codec_reader), snapWs g (c_S_codec_reader x) = c_S_codec_reader x) /\ True) /\ (∀ {T U : Type} (f : T -> U) (a : T) (l : List T), (a :: l).map f = f a :: l.map f) /\ (∀ {T U : Type} (f : T -> U), [].map f = []) := ⟨snS, fun _ _ _ => rfl, fun _ => rfl⟩
theorem unS : FlatU c_S_Value /\ FlatU c_A4_bool /\ FlatU c_S_codec_reader /\ (∀ (L : Nat) (x : S_Value), unders L (c_S_Value x) = true) /\ (∀ (L : Nat) (x : (Bool × Bool × Bool × Bool)), unders L (c_A4_bool x) = true) /\ (∀ (L : Nat) (x : S_codec_reader), unders L (c_S_codec_reader x) = true) /\ True := ⟨fu_S_Value, fu_A4_bool, fu_S_codec_reader, fuq_S_Value, fuq_A4_bool, fuq_S_codec_reader, trivial⟩
def F23 (n : Nat) (a0 : Int) : Option S_Value :=
 some ((S_Value.mk 1 a0 ByteArray.empty ([])))
theorem T23 (C : Nat -> List A -> Option A) (n : Nat) (a0 : Int) : J (fun (o : R) y => ∃ v, o.1 = .ret v /\ snapE o.2 v = (A.agg [(iA y.Kind), (iA y.N), (A.v (Value.string y.S)), (A.imm (List.map c_S_Value y.L) false)])) (evCall1 (cx C) (ec C n 8) (ey C n 8) (n+8) 23 [(iA a0)] [] 0) some (F23 n a0) some := by
 refine .lp (e23 ..) ?_
 unfold F23
 refine .s ((A.ptr 0 0), [Blk.box [(iA 0), (iA 0), (A.v (Value.string ByteArray.empty)), (A.imm [] true)]]) (.s (A.agg [(iA 1), (iA a0), (A.v (Value.string ByteArray.empty)), (A.imm [] true)]) (.s [Blk.box [(iA 1), (iA a0), (A.v (Value.string ByteArray.empty)), (A.imm [] true)]] (.s (A.agg [(iA 1), (iA a0), (A.v (Value.string ByteArray.empty)), (A.imm [] true)]) ?_)))
 exact .lf rfl rfl ⟨_, rfl, by show snapE _ (A.agg [(iA 1), (iA a0), (A.v (Value.string ByteArray.empty)), (A.imm [] true)]) = _; first | (simp only [sn0, snM, snapE]; done) | (simp only [sn0, snS, snapE]; first | done | rfl)⟩
def G23 (a0 : Int) : Option S_Value := F23 fuel0 a0
def Orc23 (C : Nat -> List A -> Option A) : Prop := ∀ (a0 : Int), C 23 [(iA a0)] = (G23 a0).map fun y => (A.agg [(iA y.Kind), (iA y.N), (A.v (Value.string y.S)), (A.imm (List.map c_S_Value y.L) false)])
def hk28_1 (v41 : S_Value) : Blk := Blk.box [(iA v41.Kind), (iA v41.N), (A.v (Value.string v41.S)), (A.imm (List.map c_S_Value v41.L) false)]
def OrcS28 (C : Nat -> List A -> Option A) (self : S_Value -> Option (Int × Bool)) : Prop := ∀ (a0 : S_Value), C 28 [(A.agg [(iA a0.Kind), (iA a0.N), (A.v (Value.string a0.S)), (A.imm (List.map c_S_Value a0.L) false)])] = (self a0).map fun y => (A.tup [(iA y.1), (bA y.2)])
def F28_28_0 (self : S_Value -> Option (Int × Bool)) (n : Nat) (v37 : Bool) (v38 : (List S_Value)) (v39 : Int) (v41 : S_Value) (v42 : Bool) (v43 : Bool) (v44 : Bool) (v45 : Bool) : Nat -> Int -> Int -> Option ((Int × Bool × Int × Int × ByteArray × (List S_Value)) ⊕ (Int))
 | 0, _, _ => none
 | m + 1, v36, v40 => bif (decide (v40 < v39)) then ((getI v38 v40).bind fun y47 => (self y47).bind fun y48 => bif (!y48.2) then (some ((Sum.inl ((0, false, y47.Kind, y47.N, y47.S, y47.L))))) else (F28_28_0 self n v37 v38 v39 v41 v42 v43 v44 v45 m ((if v36 < y48.1 then y48.1 else v36)) (wr .i64 (v40 + 1)))) else (some ((Sum.inr v36)))
theorem T28_28_0 (C : Nat -> List A -> Option A) (n : Nat) (self : S_Value -> Option (Int × Bool)) (hS : OrcS28 C self) (v37 : Bool) (v38 : (List S_Value)) (v39 : Int) (v41 : S_Value) (v42 : Bool) (v43 : Bool) (v44 : Bool) (v45 : Bool) {ρ γ : Type} {φ : ρ -> γ -> Prop} {kL : R -> Option ρ} {K : ((Int × Bool × Int × Int × ByteArray × (List S_Value)) ⊕ (Int)) -> Option γ} (kx kg : Nat -> St -> Option R) (kr : St -> Option R) (kp : A -> St -> Option R) (x0 : ∀ (o0 : Int) (o1 : Bool) (o2 : Int) (o3 : Int) (o4 : ByteArray) (o5 : (List S_Value)) (s55 : A) (s56 : A) (s57 : A), J φ (kr (St.mk [(2, (iA o0)), (3, (bA o1)), (55, s55), (56, s56), (57, s57)] [(hk28_1 v41), Blk.box [(bA v42), (bA v43), (bA v44), (bA v45)], Blk.box [(iA o2), (iA o3), (A.v (Value.string o4)), (A.imm (List.map c_S_Value o5) false)]])) kL (K (Sum.inl ((o0, o1, o2, o3, o4, o5)))) some) (x1 : ∀ (o0 : Int) (s3 : A) (s55 : A) (s56 : A) (s57 : A), J φ (kx 0 (St.mk [(2, (iA o0)), (3, s3), (55, s55), (56, s56), (57, s57)] [(hk28_1 v41), Blk.box [(bA v42), (bA v43), (bA v44), (bA v45)]])) kL (K (Sum.inr o0)) some) :
  ∀ (m : Nat) (v36 : Int) (v40 : Int), J φ (loopR (cx C) (ec C n 8) (ey C n 8) (n+8) 28 0 0 2 kx kg kr kp m (St.mk [(2, (iA v36)), (3, (bA v37)), (55, (A.imm (List.map c_S_Value v38) false)), (56, (iA v39)), (57, (iA v40))] [(hk28_1 v41), Blk.box [(bA v42), (bA v43), (bA v44), (bA v45)]])) kL (F28_28_0 self n v37 v38 v39 v41 v42 v43 v44 v45 m v36 v40) K := by
 intro m
 induction m with
 | zero => intros; exact .nn
 | succ m ih =>
  intro v36 v40
  refine .lp (e28_0 ..) ?_
  unfold F28_28_0
  refine .st (v := (bA (decide (v40 < v39)))) (aBin_lss ..) ?_
  refine .biHN (fun hk46 => ?_) (fun hk46 => ?_)
  ·refine .bd (g := fun (y : S_Value) => (A.ip [(iA y.Kind), (iA y.N), (A.v (Value.string y.S)), (A.imm (List.map c_S_Value y.L) false)])) ((idx_imm (e := 24) (es := 4) (h1 := by kernel_rfl) (h2 := by kernel_rfl) (h3 := fun _ => rfl) ..).trans (ci_S_Value _)) fun y47 => ?_
   refine .s (A.agg [(iA y47.Kind), (iA y47.N), (A.v (Value.string y47.S)), (A.imm (List.map c_S_Value y47.L) false)]) (.s ((A.ptr 2 0), [(hk28_1 v41), Blk.box [(bA v42), (bA v43), (bA v44), (bA v45)], Blk.box [(iA 0), (iA 0), (A.v (Value.string ByteArray.empty)), (A.imm [] true)]]) (.s [(hk28_1 v41), Blk.box [(bA v42), (bA v43), (bA v44), (bA v45)], Blk.box [(iA y47.Kind), (iA y47.N), (A.v (Value.string y47.S)), (A.imm (List.map c_S_Value y47.L) false)]] (.s (A.agg [(iA y47.Kind), (iA y47.N), (A.v (Value.string y47.S)), (A.imm (List.map c_S_Value y47.L) false)]) ?_)))
   refine .bd (g := fun (y : (Int × Bool)) => (A.tup [(iA y.1), (bA y.2)])) (by show C 28 [snap _ (A.agg [(iA y47.Kind), (iA y47.N), (A.v (Value.string y47.S)), (A.imm (List.map c_S_Value y47.L) false)])] = _; simp only [sn0, snM]; exact hS y47) fun y48 => ?_
   refine .s (iA y48.1) (.s (bA y48.2) (.s (bA (!y48.2)) ?_))
   refine .biHN (fun hk49 => ?_) (fun hk49 => ?_)
   ·exact .ex (x0 _ _ _ _ _ _ _ _ _)
   refine .s (iA ((if v36 < y48.1 then y48.1 else v36))) ?_
   refine .st (v := (iA (wr .i64 (v40 + 1)))) (aBin_add ..) ?_
   refine .st (v := [(hk28_1 v41), Blk.box [(bA v42), (bA v43), (bA v44), (bA v45)]]) ((by kernel_rfl : _ = (bif ((((underss 2 (List.map c_S_Value v41.L)) && true)) && true) then some [(hk28_1 v41), Blk.box [(bA v42), (bA v43), (bA v44), (bA v45)]] else none)).trans (by simp only [un0, unS])) ?_
   refine .cT ((by kernel_rfl : _ = (bif underss 2 (List.map c_S_Value v38) then true else false)).trans (by simp only [un0, unS])) ?_
   exact ih _ _
  exact .ex (x1 _ _ _ _ _)
def F28 (self : S_Value -> Option (Int × Bool)) (n : Nat) (a0 : S_Value) : Option (Int × Bool) :=
 (bif (strEq a0.S ((ByteArray.mk #[]))) then (some (((a0.L.length : Int)) == 0)) else (some false)).bind fun y2 => (bif (a0.N == 0) then (some (((a0.L.length : Int)) == 0)) else (some false)).bind fun y8 => (bif (a0.N == 0) then (some (strEq a0.S ((ByteArray.mk #[])))) else (some false)).bind fun y14 => (bif (decide (a0.Kind < 1)) then (some true) else (some (decide (3 < a0.Kind)))).bind fun y19 => (bif y19 then (some true) else (bif decide (a0.Kind = 0) then (some true) else bif decide (a0.Kind = 1) then (some (!y2)) else bif decide (a0.Kind = 2) then (some (!y8)) else bif decide (a0.Kind = 3) then (some (!y14)) else none)).bind fun y28 => bif y28 then (some ((0, false))) else (bif (decide (a0.Kind < 3)) then (some ((0, true))) else ((F28_28_0 self n false a0.L ((a0.L.length : Int)) a0 false y2 y8 y14 (n+8) 0 0).bind fun o50 => match o50 with | (Sum.inl ((y51, y52, y53, y54, y55, y56))) => some ((y51, y52)) | (Sum.inr y60) => some ((wr .i64 (y60 + 1), true))))
theorem T28 (C : Nat -> List A -> Option A) (n : Nat) (self : S_Value -> Option (Int × Bool)) (hS : OrcS28 C self) (a0 : S_Value) : J (fun (o : R) y => ∃ v, o.1 = .ret v /\ snapE o.2 v = (A.tup [(iA y.1), (bA y.2)])) (evCall1 (cx C) (ec C n 8) (ey C n 8) (n+8) 28 [(A.agg [(iA a0.Kind), (iA a0.N), (A.v (Value.string a0.S)), (A.imm (List.map c_S_Value a0.L) false)])] [] 0) some (F28 self n a0) some := by
 refine .lp (e28 ..) ?_
 unfold F28
 refine .s ((A.ptr 0 0), [Blk.box [(iA a0.Kind), (iA a0.N), (A.v (Value.string a0.S)), (A.imm (List.map c_S_Value a0.L) false)]]) (.s (A.ptr 0 2) (.s (A.v (Value.string a0.S)) ?_))
 refine .st (v := (bA (strEq a0.S ((ByteArray.mk #[]))))) (aBin_eql_s ..) ?_
 refine .bg (fun t (y : Bool) => ∃ j3 j4 j5 j6 : A, t = [(bA y), j3, j4, j5, j6]) ?_ ?_
 ·refine .biH (fun hk1 => ?_) (fun hk1 => ?_)
  ·refine .s (A.ptr 0 3) (.s (A.imm (List.map c_S_Value a0.L) false) ?_)
   refine .st (v := (iA ((a0.L.length : Int)))) (len_imm (e := 24) (h1 := by kernel_rfl) ..) ?_
   refine .st (v := (bA (((a0.L.length : Int)) == 0))) (aBin_eql ..) ?_
   exact .lg ⟨_, _, _, _, rfl⟩
  exact .lg ⟨_, _, _, _, rfl⟩
 rintro _ y2 ⟨j3, j4, j5, j6, rfl⟩
 iterate 5 refine .uc ?_
 refine .s (A.ptr 0 1) (.s (iA a0.N) ?_)
 refine .st (v := (bA (a0.N == 0))) (aBin_eql ..) ?_
 refine .bg (fun t (y : Bool) => ∃ j9 j10 j11 j12 : A, t = [(bA y), j9, j10, j11, j12]) ?_ ?_
 ·refine .biH (fun hk7 => ?_) (fun hk7 => ?_)
  ·refine .s (A.ptr 0 3) (.s (A.imm (List.map c_S_Value a0.L) false) ?_)
   refine .st (v := (iA ((a0.L.length : Int)))) (len_imm (e := 24) (h1 := by kernel_rfl) ..) ?_
   refine .st (v := (bA (((a0.L.length : Int)) == 0))) (aBin_eql ..) ?_
   exact .lg ⟨_, _, _, _, rfl⟩
  exact .lg ⟨_, _, _, _, rfl⟩
 rintro _ y8 ⟨j9, j10, j11, j12, rfl⟩
 iterate 5 refine .uc ?_
 refine .s (A.ptr 0 1) (.s (iA a0.N) ?_)
 refine .st (v := (bA (a0.N == 0))) (aBin_eql ..) ?_
 refine .bg (fun t (y : Bool) => ∃ j15 j16 j17 : A, t = [(bA y), j15, j16, j17]) ?_ ?_
 ·refine .biH (fun hk13 => ?_) (fun hk13 => ?_)
  ·refine .s (A.ptr 0 2) (.s (A.v (Value.string a0.S)) ?_)
   refine .st (v := (bA (strEq a0.S ((ByteArray.mk #[]))))) (aBin_eql_s ..) ?_
   exact .lg ⟨_, _, _, rfl⟩
  exact .lg ⟨_, _, _, rfl⟩
 rintro _ y14 ⟨j15, j16, j17, rfl⟩
 iterate 4 refine .uc ?_
 refine .s (A.agg [(bA false), (bA y2), (bA y8), (bA y14)]) (.s ((A.ptr 1 0), [Blk.box [(iA a0.Kind), (iA a0.N), (A.v (Value.string a0.S)), (A.imm (List.map c_S_Value a0.L) false)], Blk.box [(bA false), (bA false), (bA false), (bA false)]]) (.s [Blk.box [(iA a0.Kind), (iA a0.N), (A.v (Value.string a0.S)), (A.imm (List.map c_S_Value a0.L) false)], Blk.box [(bA false), (bA y2), (bA y8), (bA y14)]] (.s (A.ptr 0 0) (.s (iA a0.Kind) ?_))))
 refine .st (v := (bA (decide (a0.Kind < 1)))) (aBin_lss ..) ?_
 refine .bg (fun t (y : Bool) => ∃ j20 j21 j22 : A, t = [(bA y), j20, j21, j22]) ?_ ?_
 ·refine .biH (fun hk18 => ?_) (fun hk18 => ?_)
  ·exact .lg ⟨_, _, _, rfl⟩
  refine .s (A.ptr 0 0) (.s (iA a0.Kind) ?_)
  refine .st (v := (bA (decide (3 < a0.Kind)))) (aBin_gtr ..) ?_
  exact .lg ⟨_, _, _, rfl⟩
 rintro _ y19 ⟨j20, j21, j22, rfl⟩
 iterate 4 refine .uc ?_
 refine .bg (fun t (y : Bool) => ∃ j29 j30 j31 j32 j33 : A, t = [(bA y), j29, j30, j31, j32, j33]) ?_ ?_
 ·refine .biH (fun hk23 => ?_) (fun hk23 => ?_)
  ·exact .lg ⟨_, _, _, _, _, rfl⟩
  refine .s (A.ptr 0 0) (.s (iA a0.Kind) ?_)
  refine .sp (fun hb24 => ?_) (fun _ => ?_)
  ·refine .st (v := (A.ptr 1 0)) (by rw [of_decide_eq_true hb24]; kernel_rfl) ?_
   refine .s (bA false) (.s (bA true) ?_)
   exact .lg ⟨_, _, _, _, _, rfl⟩
  refine .sp (fun hb25 => ?_) (fun _ => ?_)
  ·refine .st (v := (A.ptr 1 1)) (by rw [of_decide_eq_true hb25]; kernel_rfl) ?_
   refine .s (bA y2) (.s (bA (!y2)) ?_)
   exact .lg ⟨_, _, _, _, _, rfl⟩
  refine .sp (fun hb26 => ?_) (fun _ => ?_)
  ·refine .st (v := (A.ptr 1 2)) (by rw [of_decide_eq_true hb26]; kernel_rfl) ?_
   refine .s (bA y8) (.s (bA (!y8)) ?_)
   exact .lg ⟨_, _, _, _, _, rfl⟩
  refine .sp (fun hb27 => ?_) (fun _ => ?_)
  ·refine .st (v := (A.ptr 1 3)) (by rw [of_decide_eq_true hb27]; kernel_rfl) ?_
   refine .s (bA y14) (.s (bA (!y14)) ?_)
   exact .lg ⟨_, _, _, _, _, rfl⟩
  exact .nn
 rintro _ y28 ⟨j29, j30, j31, j32, j33, rfl⟩
 iterate 6 refine .uc ?_
 refine .biHN (fun hk34 => ?_) (fun hk34 => ?_)
 ·exact .lf rfl rfl ⟨_, rfl, rfl⟩
 refine .s (A.ptr 0 0) (.s (iA a0.Kind) ?_)
 refine .st (v := (bA (decide (a0.Kind < 3)))) (aBin_lss ..) ?_
 refine .biHN (fun hk35 => ?_) (fun hk35 => ?_)
 ·exact .lf rfl rfl ⟨_, rfl, rfl⟩
 refine .s (A.ptr 0 3) (.s (A.imm (List.map c_S_Value a0.L) false) ?_)
 refine .st (v := (iA ((a0.L.length : Int)))) (len_imm (e := 24) (h1 := by kernel_rfl) ..) ?_
 refine .as (T28_28_0 C n  self hS false a0.L ((a0.L.length : Int)) a0 false y2 y8 y14 _ _ _ _ ?_ ?_ _ 0 0)
 ·intro y51 y52 y53 y54 y55 y56 j57 j58 j59
  refine .un rfl ?_
  exact .lf rfl rfl ⟨_, rfl, rfl⟩
 ·intro y60 j61 j62 j63 j64
  refine .un rfl ?_
  refine .cT (by kernel_rfl) ?_
  refine .st (v := (iA (wr .i64 (y60 + 1)))) (aBin_add ..) ?_
  exact .lf rfl rfl ⟨_, rfl, rfl⟩
def R28 : Nat -> S_Value -> Option (Int × Bool)
 | 0 => fun _ => none
 | q + 1 => fun a0 => F28 (R28 q) fuel0 a0
def G28 (a0 : S_Value) : Option (Int × Bool) := R28 fuel0 a0
def Orc28 (C : Nat -> List A -> Option A) : Prop := ∀ (a0 : S_Value), C 28 [(A.agg [(iA a0.Kind), (iA a0.N), (A.v (Value.string a0.S)), (A.imm (List.map c_S_Value a0.L) false)])] = (G28 a0).map fun y => (A.tup [(iA y.1), (bA y.2)])
def F16 (n : Nat) (a0 : S_Value) : Option Int :=
 (G28 a0).bind fun y1 => bif (!y1.2) then (some 1) else (bif (decide (16 < y1.1)) then (some 2) else (some 0))
theorem T16 (C : Nat -> List A -> Option A) (n : Nat) (h28 : Orc28 C) (a0 : S_Value) : J (fun (o : R) y => ∃ v, o.1 = .ret v /\ snapE o.2 v = (iA y)) (evCall1 (cx C) (ec C n 8) (ey C n 8) (n+8) 16 [(A.agg [(iA a0.Kind), (iA a0.N), (A.v (Value.string a0.S)), (A.imm (List.map c_S_Value a0.L) false)])] [] 0) some (F16 n a0) some := by
 refine .lp (e16 ..) ?_
 unfold F16
 refine .s ((A.ptr 0 0), [Blk.box [(iA a0.Kind), (iA a0.N), (A.v (Value.string a0.S)), (A.imm (List.map c_S_Value a0.L) false)]]) (.s (A.agg [(iA a0.Kind), (iA a0.N), (A.v (Value.string a0.S)), (A.imm (List.map c_S_Value a0.L) false)]) ?_)
 refine .bd (g := fun (y : (Int × Bool)) => (A.tup [(iA y.1), (bA y.2)])) (by show C 28 [snap _ (A.agg [(iA a0.Kind), (iA a0.N), (A.v (Value.string a0.S)), (A.imm (List.map c_S_Value a0.L) false)])] = _; simp only [sn0, snM]; exact h28 a0) fun y1 => ?_
 refine .s (iA y1.1) (.s (bA y1.2) (.s (bA (!y1.2)) ?_))
 refine .biHN (fun hk2 => ?_) (fun hk2 => ?_)
 ·exact .lf rfl rfl ⟨_, rfl, rfl⟩
 refine .st (v := (bA (decide (16 < y1.1)))) (aBin_gtr ..) ?_
 refine .biHN (fun hk3 => ?_) (fun hk3 => ?_)
 ·exact .lf rfl rfl ⟨_, rfl, rfl⟩
 exact .lf rfl rfl ⟨_, rfl, rfl⟩
def G16 (a0 : S_Value) : Option Int := F16 fuel0 a0
def Orc16 (C : Nat -> List A -> Option A) : Prop := ∀ (a0 : S_Value), C 16 [(A.agg [(iA a0.Kind), (iA a0.N), (A.v (Value.string a0.S)), (A.imm (List.map c_S_Value a0.L) false)])] = (G16 a0).map fun y => (iA y)
def F39 (n : Nat) (a0 : Int) : Option Int :=
 some (xorI .u64 (shlI .u64 (wr .u64 (a0)) 1) (wr .u64 (shrI .i64 a0 63)))
theorem T39 (C : Nat -> List A -> Option A) (n : Nat) (a0 : Int) : J (fun (o : R) y => ∃ v, o.1 = .ret v /\ snapE o.2 v = (A.v (.int .u64 y))) (evCall1 (cx C) (ec C n 8) (ey C n 8) (n+8) 39 [(iA a0)] [] 0) some (F39 n a0) some := by
 refine .lp (e39 ..) ?_
 unfold F39
 refine .st (v := (A.v (.int .u64 (wr .u64 (a0))))) (aConvert_int (hs := by kernel_rfl) (hd := by kernel_rfl) ..) ?_
 refine .st (v := (A.v (.int .u64 (shlI .u64 (wr .u64 (a0)) 1)))) (aBin_shl (hb := by decide) ..) ?_
 refine .st (v := (iA (shrI .i64 a0 63))) (aBin_shr (hb := by decide) ..) ?_
 refine .st (v := (A.v (.int .u64 (wr .u64 (shrI .i64 a0 63))))) (aConvert_int (hs := by kernel_rfl) (hd := by kernel_rfl) ..) ?_
 refine .st (v := (A.v (.int .u64 (xorI .u64 (shlI .u64 (wr .u64 (a0)) 1) (wr .u64 (shrI .i64 a0 63)))))) (aBin_bits_xor ..) ?_
 exact .lf rfl rfl ⟨_, rfl, rfl⟩
def G39 (a0 : Int) : Option Int := F39 fuel0 a0
def Orc39 (C : Nat -> List A -> Option A) : Prop := ∀ (a0 : Int), C 39 [(iA a0)] = (G39 a0).map fun y => (A.v (.int .u64 y))
def hk41w_1 : Blk := Blk.box [(A.v Value.nilFunc), (A.fn (Fn.func 37) [] []), (A.fn (Fn.func 40) [] []), (A.fn (Fn.func 41) [] [(A.ptr 2 0)])]
def hk41w_2 (v22 : S_Value) : Blk := Blk.box [(iA v22.Kind), (iA v22.N), (A.v (Value.string v22.S)), (A.imm (List.map c_S_Value v22.L) false)]
def hk41w_3 (v19 : S_Value) : Blk := Blk.box [(iA v19.Kind), (iA v19.N), (A.v (Value.string v19.S)), (A.imm (List.map c_S_Value v19.L) false)]
def hk41w_4 (v20 : S_Value) : Blk := Blk.box [(iA v20.Kind), (iA v20.N), (A.v (Value.string v20.S)), (A.imm (List.map c_S_Value v20.L) false)]
def hk41w_5 (y24 : S_Value) : Blk := Blk.box [(iA y24.Kind), (iA y24.N), (A.v (Value.string y24.S)), (A.imm (List.map c_S_Value y24.L) false)]
def hk41w_6 (a0 : S_Value) : Blk := Blk.box [(iA a0.Kind), (iA a0.N), (A.v (Value.string a0.S)), (A.imm (List.map c_S_Value a0.L) false)]
def hk41w_7 (a1 : S_Value) : Blk := Blk.box [(iA a1.Kind), (iA a1.N), (A.v (Value.string a1.S)), (A.imm (List.map c_S_Value a1.L) false)]
def HS41 (C : Nat -> List A -> Option A) (N : Nat) (self : S_Value -> S_Value -> (List UInt8) -> S_Value -> Option (List UInt8)) : Prop := ∀ (a0 : S_Value) (a1 : S_Value) (a2 : (List UInt8)) (a3 : S_Value) (X : Heap), J (fun (o : R) (y : (List UInt8)) => o = (Out.ret (A.sl 4 0 y.length false), [(hk41w_6 a0), hk41w_1, Blk.box [(A.ptr 1 0)], (hk41w_7 a1), Blk.row false 1 (List.map c8 y)] ++ X)) (evCall (cx C) N 41 [(A.sl 4 0 a2.length false), (A.agg [(iA a3.Kind), (iA a3.N), (A.v (Value.string a3.S)), (A.imm (List.map c_S_Value a3.L) false)]), (A.ptr 2 0)] ([(hk41w_6 a0), hk41w_1, Blk.box [(A.ptr 1 0)], (hk41w_7 a1), Blk.row false 1 (List.map c8 a2)] ++ X) 0) some (self a0 a1 a2 a3) some
def F41w_38_0 (self : S_Value -> S_Value -> (List UInt8) -> S_Value -> Option (List UInt8)) (n : Nat) (v3 : (List UInt8)) (v4 : S_Value) (v5 : S_Value) (v7 : S_Value) : Nat -> Int -> (List UInt8) -> Option (Int × (List UInt8))
 | 0, _, _ => none
 | m + 1, v2, v6 => bif (decide (128 <= v2)) then (bif (decide (0 <= (orI .u8 (wr .u8 (v2)) 128)) && decide ((orI .u8 (wr .u8 (v2)) 128) < 256)) then ((appI 1 v6 ([(UInt8.ofNat (Int.toNat (orI .u8 (wr .u8 (v2)) 128)))])).bind fun y9 => F41w_38_0 self n v3 v4 v5 v7 m (shrI .u64 v2 7) y9) else none) else (some ((v2, v6)))
theorem T41w_38_0 (C : Nat -> List A -> Option A) (n : Nat) (h39 : Orc39 C) (self : S_Value -> S_Value -> (List UInt8) -> S_Value -> Option (List UInt8)) (hS : HS41 C (n+8) self) (v3 : (List UInt8)) (v4 : S_Value) (v5 : S_Value) (v7 : S_Value) {ρ γ : Type} {φ : ρ -> γ -> Prop} {kL : R -> Option ρ} {K : (Int × (List UInt8)) -> Option γ} (kx kg : Nat -> St -> Option R) (kr : St -> Option R) (kp : A -> St -> Option R) (x0 : ∀ (o0 : Int) (o1 : (List UInt8)) (s4 : A), J φ (kx 0 (St.mk [(0, (A.sl 4 0 o1.length false)), (1, (A.v (.int .u64 o0))), (4, s4)] [Blk.box [(iA v4.Kind), (iA v4.N), (A.v (Value.string v4.S)), (A.imm (List.map c_S_Value v4.L) false)], hk41w_1, Blk.box [(A.ptr 1 0)], Blk.box [(iA v5.Kind), (iA v5.N), (A.v (Value.string v5.S)), (A.imm (List.map c_S_Value v5.L) false)], Blk.row false 1 (List.map c8 o1), Blk.box [(iA v7.Kind), (iA v7.N), (A.v (Value.string v7.S)), (A.imm (List.map c_S_Value v7.L) false)]])) kL (K (o0, o1)) some) :
  ∀ (m : Nat) (v2 : Int) (v6 : (List UInt8)), J φ (loopR (cx C) (ec C n 7) (ey C n 7) (n+7) 38 0 0 6 kx kg kr kp m (St.mk [(0, (A.sl 4 0 v6.length false)), (1, (A.v (.int .u64 v2))), (4, (A.imm (List.map c8 v3) true))] [Blk.box [(iA v4.Kind), (iA v4.N), (A.v (Value.string v4.S)), (A.imm (List.map c_S_Value v4.L) false)], hk41w_1, Blk.box [(A.ptr 1 0)], Blk.box [(iA v5.Kind), (iA v5.N), (A.v (Value.string v5.S)), (A.imm (List.map c_S_Value v5.L) false)], Blk.row false 1 (List.map c8 v6), Blk.box [(iA v7.Kind), (iA v7.N), (A.v (Value.string v7.S)), (A.imm (List.map c_S_Value v7.L) false)]])) kL (F41w_38_0 self n v3 v4 v5 v7 m v2 v6) K := by
 intro m
 induction m with
 | zero => intros; exact .nn
 | succ m ih =>
  intro v2 v6
  refine .lp (e38_0 ..) ?_
  unfold F41w_38_0
  refine .st (v := (bA (decide (128 <= v2)))) (aBin_geq ..) ?_
  refine .biHN (fun hk8 => ?_) (fun hk8 => ?_)
  ·refine .st (v := (uA (wr .u8 (v2)))) (aConvert_int (hs := by kernel_rfl) (hd := by kernel_rfl) ..) ?_
   refine .st (v := (uA (orI .u8 (wr .u8 (v2)) 128))) (aBin_bits_or ..) ?_
   refine .gd fun hg => ?_
   refine .st (v := (A.imm [[(uA (((UInt8.ofNat (Int.toNat (orI .u8 (wr .u8 (v2)) 128))).toNat : Int)))]] true)) (by rw [u8_back hg]; kernel_rfl) ?_
   refine .bd (g := fun (y : List UInt8) => ((A.sl 4 0 y.length false), [Blk.box [(iA v4.Kind), (iA v4.N), (A.v (Value.string v4.S)), (A.imm (List.map c_S_Value v4.L) false)], hk41w_1, Blk.box [(A.ptr 1 0)], Blk.box [(iA v5.Kind), (iA v5.N), (A.v (Value.string v5.S)), (A.imm (List.map c_S_Value v5.L) false)], Blk.row false 1 (List.map c8 y), Blk.box [(iA v7.Kind), (iA v7.N), (A.v (Value.string v7.S)), (A.imm (List.map c_S_Value v7.L) false)]])) (app_row (e := 5) (es := 1) (by_ := 1) (z := [(uA 0)]) (by kernel_rfl) (by kernel_rfl) (by kernel_rfl) (by kernel_rfl) rfl (by decide) (by decide) (by kernel_rfl) (f := c8) (fun _ => rfl) ce_c8 (l := v6) (l2 := [(UInt8.ofNat (Int.toNat (orI .u8 (wr .u8 (v2)) 128)))]) (b := 4) rfl (by decide) (els_imm (f := c8) ([(UInt8.ofNat (Int.toNat (orI .u8 (wr .u8 (v2)) 128)))] : List UInt8) _ _)) fun y9 => ?_
   refine .st (v := (A.v (.int .u64 (shrI .u64 v2 7)))) (aBin_shr (hb := by decide) ..) ?_
   refine .s [Blk.box [(iA v4.Kind), (iA v4.N), (A.v (Value.string v4.S)), (A.imm (List.map c_S_Value v4.L) false)], hk41w_1, Blk.box [(A.ptr 1 0)], Blk.box [(iA v5.Kind), (iA v5.N), (A.v (Value.string v5.S)), (A.imm (List.map c_S_Value v5.L) false)], Blk.row false 1 (List.map c8 y9), Blk.box [(iA v7.Kind), (iA v7.N), (A.v (Value.string v7.S)), (A.imm (List.map c_S_Value v7.L) false)]] ?_
   refine .cT (by kernel_rfl) ?_
   exact ih _ _
  exact .ex (x0 _ _ _)
def F41w_38_0a (self : S_Value -> S_Value -> (List UInt8) -> S_Value -> Option (List UInt8)) (n : Nat) (v30 : (List UInt8)) (v31 : S_Value) (v32 : S_Value) (v34 : S_Value) (v35 : S_Value) (v36 : S_Value) : Nat -> Int -> (List UInt8) -> Option (Int × (List UInt8))
 | 0, _, _ => none
 | m + 1, v29, v33 => bif (decide (128 <= v29)) then (bif (decide (0 <= (orI .u8 (wr .u8 (v29)) 128)) && decide ((orI .u8 (wr .u8 (v29)) 128) < 256)) then ((appI 1 v33 ([(UInt8.ofNat (Int.toNat (orI .u8 (wr .u8 (v29)) 128)))])).bind fun y38 => F41w_38_0a self n v30 v31 v32 v34 v35 v36 m (shrI .u64 v29 7) y38) else none) else (some ((v29, v33)))
theorem T41w_38_0a (C : Nat -> List A -> Option A) (n : Nat) (h39 : Orc39 C) (self : S_Value -> S_Value -> (List UInt8) -> S_Value -> Option (List UInt8)) (hS : HS41 C (n+8) self) (v30 : (List UInt8)) (v31 : S_Value) (v32 : S_Value) (v34 : S_Value) (v35 : S_Value) (v36 : S_Value) {ρ γ : Type} {φ : ρ -> γ -> Prop} {kL : R -> Option ρ} {K : (Int × (List UInt8)) -> Option γ} (kx kg : Nat -> St -> Option R) (kr : St -> Option R) (kp : A -> St -> Option R) (x0 : ∀ (o0 : Int) (o1 : (List UInt8)) (s4 : A), J φ (kx 0 (St.mk [(0, (A.sl 4 0 o1.length false)), (1, (A.v (.int .u64 o0))), (4, s4)] [Blk.box [(iA v31.Kind), (iA v31.N), (A.v (Value.string v31.S)), (A.imm (List.map c_S_Value v31.L) false)], hk41w_1, Blk.box [(A.ptr 1 0)], Blk.box [(iA v32.Kind), (iA v32.N), (A.v (Value.string v32.S)), (A.imm (List.map c_S_Value v32.L) false)], Blk.row false 1 (List.map c8 o1), Blk.box [(iA v34.Kind), (iA v34.N), (A.v (Value.string v34.S)), (A.imm (List.map c_S_Value v34.L) false)], Blk.box [(iA v35.Kind), (iA v35.N), (A.v (Value.string v35.S)), (A.imm (List.map c_S_Value v35.L) false)], Blk.box [(iA v36.Kind), (iA v36.N), (A.v (Value.string v36.S)), (A.imm (List.map c_S_Value v36.L) false)]])) kL (K (o0, o1)) some) :
  ∀ (m : Nat) (v29 : Int) (v33 : (List UInt8)), J φ (loopR (cx C) (evCall (cx C) (n+6)) (evCallY (cx C) (n+6)) (n+6) 38 0 0 8 kx kg kr kp m (St.mk [(0, (A.sl 4 0 v33.length false)), (1, (A.v (.int .u64 v29))), (4, (A.imm (List.map c8 v30) true))] [Blk.box [(iA v31.Kind), (iA v31.N), (A.v (Value.string v31.S)), (A.imm (List.map c_S_Value v31.L) false)], hk41w_1, Blk.box [(A.ptr 1 0)], Blk.box [(iA v32.Kind), (iA v32.N), (A.v (Value.string v32.S)), (A.imm (List.map c_S_Value v32.L) false)], Blk.row false 1 (List.map c8 v33), Blk.box [(iA v34.Kind), (iA v34.N), (A.v (Value.string v34.S)), (A.imm (List.map c_S_Value v34.L) false)], Blk.box [(iA v35.Kind), (iA v35.N), (A.v (Value.string v35.S)), (A.imm (List.map c_S_Value v35.L) false)], Blk.box [(iA v36.Kind), (iA v36.N), (A.v (Value.string v36.S)), (A.imm (List.map c_S_Value v36.L) false)]])) kL (F41w_38_0a self n v30 v31 v32 v34 v35 v36 m v29 v33) K := by
 intro m
 induction m with
 | zero => intros; exact .nn
 | succ m ih =>
  intro v29 v33
  refine .lp (e38_0 ..) ?_
  unfold F41w_38_0a
  refine .st (v := (bA (decide (128 <= v29)))) (aBin_geq ..) ?_
  refine .biHN (fun hk37 => ?_) (fun hk37 => ?_)
  ·refine .st (v := (uA (wr .u8 (v29)))) (aConvert_int (hs := by kernel_rfl) (hd := by kernel_rfl) ..) ?_
   refine .st (v := (uA (orI .u8 (wr .u8 (v29)) 128))) (aBin_bits_or ..) ?_
   refine .gd fun hg => ?_
   refine .st (v := (A.imm [[(uA (((UInt8.ofNat (Int.toNat (orI .u8 (wr .u8 (v29)) 128))).toNat : Int)))]] true)) (by rw [u8_back hg]; kernel_rfl) ?_
   refine .bd (g := fun (y : List UInt8) => ((A.sl 4 0 y.length false), [Blk.box [(iA v31.Kind), (iA v31.N), (A.v (Value.string v31.S)), (A.imm (List.map c_S_Value v31.L) false)], hk41w_1, Blk.box [(A.ptr 1 0)], Blk.box [(iA v32.Kind), (iA v32.N), (A.v (Value.string v32.S)), (A.imm (List.map c_S_Value v32.L) false)], Blk.row false 1 (List.map c8 y), Blk.box [(iA v34.Kind), (iA v34.N), (A.v (Value.string v34.S)), (A.imm (List.map c_S_Value v34.L) false)], Blk.box [(iA v35.Kind), (iA v35.N), (A.v (Value.string v35.S)), (A.imm (List.map c_S_Value v35.L) false)], Blk.box [(iA v36.Kind), (iA v36.N), (A.v (Value.string v36.S)), (A.imm (List.map c_S_Value v36.L) false)]])) (app_row (e := 5) (es := 1) (by_ := 1) (z := [(uA 0)]) (by kernel_rfl) (by kernel_rfl) (by kernel_rfl) (by kernel_rfl) rfl (by decide) (by decide) (by kernel_rfl) (f := c8) (fun _ => rfl) ce_c8 (l := v33) (l2 := [(UInt8.ofNat (Int.toNat (orI .u8 (wr .u8 (v29)) 128)))]) (b := 4) rfl (by decide) (els_imm (f := c8) ([(UInt8.ofNat (Int.toNat (orI .u8 (wr .u8 (v29)) 128)))] : List UInt8) _ _)) fun y38 => ?_
   refine .st (v := (A.v (.int .u64 (shrI .u64 v29 7)))) (aBin_shr (hb := by decide) ..) ?_
   refine .s [Blk.box [(iA v31.Kind), (iA v31.N), (A.v (Value.string v31.S)), (A.imm (List.map c_S_Value v31.L) false)], hk41w_1, Blk.box [(A.ptr 1 0)], Blk.box [(iA v32.Kind), (iA v32.N), (A.v (Value.string v32.S)), (A.imm (List.map c_S_Value v32.L) false)], Blk.row false 1 (List.map c8 y38), Blk.box [(iA v34.Kind), (iA v34.N), (A.v (Value.string v34.S)), (A.imm (List.map c_S_Value v34.L) false)], Blk.box [(iA v35.Kind), (iA v35.N), (A.v (Value.string v35.S)), (A.imm (List.map c_S_Value v35.L) false)], Blk.box [(iA v36.Kind), (iA v36.N), (A.v (Value.string v36.S)), (A.imm (List.map c_S_Value v36.L) false)]] ?_
   refine .cT (by kernel_rfl) ?_
   exact ih _ _
  exact .ex (x0 _ _ _)
def F41w_38_0b (self : S_Value -> S_Value -> (List UInt8) -> S_Value -> Option (List UInt8)) (n : Nat) (v47 : (List UInt8)) (v48 : S_Value) (v49 : S_Value) (v51 : S_Value) (v52 : S_Value) : Nat -> Int -> (List UInt8) -> Option (Int × (List UInt8))
 | 0, _, _ => none
 | m + 1, v46, v50 => bif (decide (128 <= v46)) then (bif (decide (0 <= (orI .u8 (wr .u8 (v46)) 128)) && decide ((orI .u8 (wr .u8 (v46)) 128) < 256)) then ((appI 1 v50 ([(UInt8.ofNat (Int.toNat (orI .u8 (wr .u8 (v46)) 128)))])).bind fun y54 => F41w_38_0b self n v47 v48 v49 v51 v52 m (shrI .u64 v46 7) y54) else none) else (some ((v46, v50)))
theorem T41w_38_0b (C : Nat -> List A -> Option A) (n : Nat) (h39 : Orc39 C) (self : S_Value -> S_Value -> (List UInt8) -> S_Value -> Option (List UInt8)) (hS : HS41 C (n+8) self) (v47 : (List UInt8)) (v48 : S_Value) (v49 : S_Value) (v51 : S_Value) (v52 : S_Value) {ρ γ : Type} {φ : ρ -> γ -> Prop} {kL : R -> Option ρ} {K : (Int × (List UInt8)) -> Option γ} (kx kg : Nat -> St -> Option R) (kr : St -> Option R) (kp : A -> St -> Option R) (x0 : ∀ (o0 : Int) (o1 : (List UInt8)) (s4 : A), J φ (kx 0 (St.mk [(0, (A.sl 4 0 o1.length false)), (1, (A.v (.int .u64 o0))), (4, s4)] [Blk.box [(iA v48.Kind), (iA v48.N), (A.v (Value.string v48.S)), (A.imm (List.map c_S_Value v48.L) false)], hk41w_1, Blk.box [(A.ptr 1 0)], Blk.box [(iA v49.Kind), (iA v49.N), (A.v (Value.string v49.S)), (A.imm (List.map c_S_Value v49.L) false)], Blk.row false 1 (List.map c8 o1), Blk.box [(iA v51.Kind), (iA v51.N), (A.v (Value.string v51.S)), (A.imm (List.map c_S_Value v51.L) false)], Blk.box [(iA v52.Kind), (iA v52.N), (A.v (Value.string v52.S)), (A.imm (List.map c_S_Value v52.L) false)], Blk.dead])) kL (K (o0, o1)) some) :
  ∀ (m : Nat) (v46 : Int) (v50 : (List UInt8)), J φ (loopR (cx C) (evCall (cx C) (n+6)) (evCallY (cx C) (n+6)) (n+6) 38 0 0 8 kx kg kr kp m (St.mk [(0, (A.sl 4 0 v50.length false)), (1, (A.v (.int .u64 v46))), (4, (A.imm (List.map c8 v47) true))] [Blk.box [(iA v48.Kind), (iA v48.N), (A.v (Value.string v48.S)), (A.imm (List.map c_S_Value v48.L) false)], hk41w_1, Blk.box [(A.ptr 1 0)], Blk.box [(iA v49.Kind), (iA v49.N), (A.v (Value.string v49.S)), (A.imm (List.map c_S_Value v49.L) false)], Blk.row false 1 (List.map c8 v50), Blk.box [(iA v51.Kind), (iA v51.N), (A.v (Value.string v51.S)), (A.imm (List.map c_S_Value v51.L) false)], Blk.box [(iA v52.Kind), (iA v52.N), (A.v (Value.string v52.S)), (A.imm (List.map c_S_Value v52.L) false)], Blk.dead])) kL (F41w_38_0b self n v47 v48 v49 v51 v52 m v46 v50) K := by
 intro m
 induction m with
 | zero => intros; exact .nn
 | succ m ih =>
  intro v46 v50
  refine .lp (e38_0 ..) ?_
  unfold F41w_38_0b
  refine .st (v := (bA (decide (128 <= v46)))) (aBin_geq ..) ?_
  refine .biHN (fun hk53 => ?_) (fun hk53 => ?_)
  ·refine .st (v := (uA (wr .u8 (v46)))) (aConvert_int (hs := by kernel_rfl) (hd := by kernel_rfl) ..) ?_
   refine .st (v := (uA (orI .u8 (wr .u8 (v46)) 128))) (aBin_bits_or ..) ?_
   refine .gd fun hg => ?_
   refine .st (v := (A.imm [[(uA (((UInt8.ofNat (Int.toNat (orI .u8 (wr .u8 (v46)) 128))).toNat : Int)))]] true)) (by rw [u8_back hg]; kernel_rfl) ?_
   refine .bd (g := fun (y : List UInt8) => ((A.sl 4 0 y.length false), [Blk.box [(iA v48.Kind), (iA v48.N), (A.v (Value.string v48.S)), (A.imm (List.map c_S_Value v48.L) false)], hk41w_1, Blk.box [(A.ptr 1 0)], Blk.box [(iA v49.Kind), (iA v49.N), (A.v (Value.string v49.S)), (A.imm (List.map c_S_Value v49.L) false)], Blk.row false 1 (List.map c8 y), Blk.box [(iA v51.Kind), (iA v51.N), (A.v (Value.string v51.S)), (A.imm (List.map c_S_Value v51.L) false)], Blk.box [(iA v52.Kind), (iA v52.N), (A.v (Value.string v52.S)), (A.imm (List.map c_S_Value v52.L) false)], Blk.dead])) (app_row (e := 5) (es := 1) (by_ := 1) (z := [(uA 0)]) (by kernel_rfl) (by kernel_rfl) (by kernel_rfl) (by kernel_rfl) rfl (by decide) (by decide) (by kernel_rfl) (f := c8) (fun _ => rfl) ce_c8 (l := v50) (l2 := [(UInt8.ofNat (Int.toNat (orI .u8 (wr .u8 (v46)) 128)))]) (b := 4) rfl (by decide) (els_imm (f := c8) ([(UInt8.ofNat (Int.toNat (orI .u8 (wr .u8 (v46)) 128)))] : List UInt8) _ _)) fun y54 => ?_
   refine .st (v := (A.v (.int .u64 (shrI .u64 v46 7)))) (aBin_shr (hb := by decide) ..) ?_
   refine .s [Blk.box [(iA v48.Kind), (iA v48.N), (A.v (Value.string v48.S)), (A.imm (List.map c_S_Value v48.L) false)], hk41w_1, Blk.box [(A.ptr 1 0)], Blk.box [(iA v49.Kind), (iA v49.N), (A.v (Value.string v49.S)), (A.imm (List.map c_S_Value v49.L) false)], Blk.row false 1 (List.map c8 y54), Blk.box [(iA v51.Kind), (iA v51.N), (A.v (Value.string v51.S)), (A.imm (List.map c_S_Value v51.L) false)], Blk.box [(iA v52.Kind), (iA v52.N), (A.v (Value.string v52.S)), (A.imm (List.map c_S_Value v52.L) false)], Blk.dead] ?_
   refine .cT (by kernel_rfl) ?_
   exact ih _ _
  exact .ex (x0 _ _ _)
def F41w_41_0 (self : S_Value -> S_Value -> (List UInt8) -> S_Value -> Option (List UInt8)) (n : Nat) (v15 : (List UInt8)) (v16 : (List S_Value)) (v17 : Int) (v19 : S_Value) (v20 : S_Value) (v22 : S_Value) : Nat -> Int -> (List UInt8) -> Option ((List UInt8))
 | 0, _, _ => none
 | m + 1, v18, v21 => bif (decide (v18 < v17)) then ((getI v16 v18).bind fun y24 => bif decide (y24.Kind = 0) then (none) else bif decide (y24.Kind = 1) then ((appI 1 v21 ([(1 : UInt8)])).bind fun y27 => (G39 y24.N).bind fun y28 => (F41w_38_0a self n ([]) v19 v20 v22 y24 y24 (n+6) y28 y27).bind fun o39 => match o39 with | (y40, y41) => bif (decide (0 <= (wr .u8 (y40))) && decide ((wr .u8 (y40)) < 256)) then ((appI 1 y41 ([(UInt8.ofNat (Int.toNat (wr .u8 (y40))))])).bind fun y43 => F41w_41_0 self n v15 v16 v17 v19 v20 v22 m (wr .i64 (v18 + 1)) y43) else none) else bif decide (y24.Kind = 2) then ((appI 1 v21 ([(2 : UInt8)])).bind fun y45 => (F41w_38_0b self n ([]) v19 v20 v22 y24 (n+6) (wr .u64 ((y24.S.size : Int))) y45).bind fun o55 => match o55 with | (y56, y57) => bif (decide (0 <= (wr .u8 (y56))) && decide ((wr .u8 (y56)) < 256)) then ((appI 1 y57 ([(UInt8.ofNat (Int.toNat (wr .u8 (y56))))])).bind fun y59 => (appI 1 y59 (bstrL y24.S)).bind fun y60 => F41w_41_0 self n v15 v16 v17 v19 v20 v22 m (wr .i64 (v18 + 1)) y60) else none) else bif decide (y24.Kind = 3) then ((self v19 v20 v21 y24).bind fun y62 => F41w_41_0 self n v15 v16 v17 v19 v20 v22 m (wr .i64 (v18 + 1)) y62) else none) else (some v21)
theorem T41w_41_0 (C : Nat -> List A -> Option A) (n : Nat) (h39 : Orc39 C) (self : S_Value -> S_Value -> (List UInt8) -> S_Value -> Option (List UInt8)) (hS : HS41 C (n+8) self) (v15 : (List UInt8)) (v16 : (List S_Value)) (v17 : Int) (v19 : S_Value) (v20 : S_Value) (v22 : S_Value) {ρ γ : Type} {φ : ρ -> γ -> Prop} {kL : R -> Option ρ} {K : ((List UInt8)) -> Option γ} (kx kg : Nat -> St -> Option R) (kr : St -> Option R) (kp : A -> St -> Option R) (x0 : ∀ (o0 : (List UInt8)) (s2 : A) (s5 : A) (s17 : A) (s18 : A) (s19 : A), J φ (kx 0 (St.mk [(0, (A.sl 4 0 o0.length false)), (2, s2), (5, s5), (17, s17), (18, s18), (19, s19)] [(hk41w_3 v19), hk41w_1, Blk.box [(A.ptr 1 0)], (hk41w_4 v20), Blk.row false 1 (List.map c8 o0), (hk41w_2 v22)])) kL (K o0) some) :
  ∀ (m : Nat) (v18 : Int) (v21 : (List UInt8)), J φ (loopR (cx C) (ec C n 8) (ey C n 8) (n+8) 41 0 0 6 kx kg kr kp m (St.mk [(0, (A.sl 4 0 v21.length false)), (2, (A.ptr 2 0)), (5, (A.imm (List.map c8 v15) true)), (17, (A.imm (List.map c_S_Value v16) false)), (18, (iA v17)), (19, (iA v18))] [(hk41w_3 v19), hk41w_1, Blk.box [(A.ptr 1 0)], (hk41w_4 v20), Blk.row false 1 (List.map c8 v21), (hk41w_2 v22)])) kL (F41w_41_0 self n v15 v16 v17 v19 v20 v22 m v18 v21) K := by
 intro m
 induction m with
 | zero => intros; exact .nn
 | succ m ih =>
  intro v18 v21
  refine .lp (e41_0 ..) ?_
  unfold F41w_41_0
  refine .st (v := (bA (decide (v18 < v17)))) (aBin_lss ..) ?_
  refine .biHN (fun hk23 => ?_) (fun hk23 => ?_)
  ·refine .bd (g := fun (y : S_Value) => (A.ip [(iA y.Kind), (iA y.N), (A.v (Value.string y.S)), (A.imm (List.map c_S_Value y.L) false)])) ((idx_imm (e := 24) (es := 4) (h1 := by kernel_rfl) (h2 := by kernel_rfl) (h3 := fun _ => rfl) ..).trans (ci_S_Value _)) fun y24 => ?_
   refine .s (A.agg [(iA y24.Kind), (iA y24.N), (A.v (Value.string y24.S)), (A.imm (List.map c_S_Value y24.L) false)]) (.s ((A.ptr 6 0), [(hk41w_3 v19), hk41w_1, Blk.box [(A.ptr 1 0)], (hk41w_4 v20), Blk.row false 1 (List.map c8 v21), (hk41w_2 v22), Blk.box [(iA 0), (iA 0), (A.v (Value.string ByteArray.empty)), (A.imm [] true)]]) (.s [(hk41w_3 v19), hk41w_1, Blk.box [(A.ptr 1 0)], (hk41w_4 v20), Blk.row false 1 (List.map c8 v21), (hk41w_2 v22), (hk41w_5 y24)] (.s (A.ptr 1 0) (.s (A.ptr 6 0) (.s (iA y24.Kind) (.s (A.ptr 1 0) ?_))))))
   refine .sp (fun hb25 => ?_) (fun _ => ?_)
   ·refine .st (v := (A.ptr 1 0)) (by rw [of_decide_eq_true hb25]; kernel_rfl) ?_
    refine .s (A.ptr 1 0) (.s (A.v Value.nilFunc) (.s (A.agg [(iA y24.Kind), (iA y24.N), (A.v (Value.string y24.S)), (A.imm (List.map c_S_Value y24.L) false)]) ?_))
    exact .nn
   refine .sp (fun hb26 => ?_) (fun _ => ?_)
   ·refine .st (v := (A.ptr 1 1)) (by rw [of_decide_eq_true hb26]; kernel_rfl) ?_
    refine .s (A.ptr 1 1) (.s (A.fn (Fn.func 37) [] []) (.s (A.agg [(iA y24.Kind), (iA y24.N), (A.v (Value.string y24.S)), (A.imm (List.map c_S_Value y24.L) false)]) ?_))
    refine .dC (by kernel_rfl) (by kernel_rfl) ?_
    refine .cl ((evCall_in lt_37).trans (e37 C (ec C n 7) (ey C n 7) (n+7) _ _ _ _)) ?_
    refine .s ((A.ptr 7 0), [(hk41w_3 v19), hk41w_1, Blk.box [(A.ptr 1 0)], (hk41w_4 v20), Blk.row false 1 (List.map c8 v21), (hk41w_2 v22), (hk41w_5 y24), (hk41w_5 y24)]) (.s (A.imm [[(uA 1)]] true) ?_)
    refine .bd (g := fun (y : List UInt8) => ((A.sl 4 0 y.length false), [(hk41w_3 v19), hk41w_1, Blk.box [(A.ptr 1 0)], (hk41w_4 v20), Blk.row false 1 (List.map c8 y), (hk41w_2 v22), (hk41w_5 y24), (hk41w_5 y24)])) (app_row (e := 5) (es := 1) (by_ := 1) (z := [(uA 0)]) (by kernel_rfl) (by kernel_rfl) (by kernel_rfl) (by kernel_rfl) rfl (by decide) (by decide) (by kernel_rfl) (f := c8) (fun _ => rfl) ce_c8 (l := v21) (l2 := [(1 : UInt8)]) (b := 4) rfl (by decide) (els_imm (f := c8) ([(1 : UInt8)] : List UInt8) _ _)) fun y27 => ?_
    refine .cT (by kernel_rfl) ?_
    refine .s (A.ptr 7 1) ?_
    refine .cT (by kernel_rfl) ?_
    refine .s (iA y24.N) ?_
    refine .bd (g := fun (y : Int) => (A.v (.int .u64 y))) (h39 y24.N) fun y28 => ?_
    refine .cl ((evCall_in lt_38).trans (e38 C (evCall (cx C) (n+6)) (evCallY (cx C) (n+6)) (n+6) _ _ _ _)) ?_
    refine .as (T41w_38_0a C n h39 self hS ([]) v19 v20 v22 y24 y24 _ _ _ _ ?_ _ y28 y27)
    ·intro y40 y41 j42
     refine .un rfl ?_
     refine .cT (by kernel_rfl) ?_
     refine .st (v := (uA (wr .u8 (y40)))) (aConvert_int (hs := by kernel_rfl) (hd := by kernel_rfl) ..) ?_
     refine .gd fun hg => ?_
     refine .st (v := (A.imm [[(uA (((UInt8.ofNat (Int.toNat (wr .u8 (y40)))).toNat : Int)))]] true)) (by rw [u8_back hg]; kernel_rfl) ?_
     refine .bd (g := fun (y : List UInt8) => ((A.sl 4 0 y.length false), [(hk41w_3 v19), hk41w_1, Blk.box [(A.ptr 1 0)], (hk41w_4 v20), Blk.row false 1 (List.map c8 y), (hk41w_2 v22), (hk41w_5 y24), (hk41w_5 y24)])) (app_row (e := 5) (es := 1) (by_ := 1) (z := [(uA 0)]) (by kernel_rfl) (by kernel_rfl) (by kernel_rfl) (by kernel_rfl) rfl (by decide) (by decide) (by kernel_rfl) (f := c8) (fun _ => rfl) ce_c8 (l := y41) (l2 := [(UInt8.ofNat (Int.toNat (wr .u8 (y40))))]) (b := 4) rfl (by decide) (els_imm (f := c8) ([(UInt8.ofNat (Int.toNat (wr .u8 (y40))))] : List UInt8) _ _)) fun y43 => ?_
     refine .cr ?_
     refine .ok ?_
     refine .cr ?_
     refine .ok ?_
     refine .st (v := (iA (wr .i64 (v18 + 1)))) (aBin_add ..) ?_
     refine .st (v := [(hk41w_3 v19), hk41w_1, Blk.box [(A.ptr 1 0)], (hk41w_4 v20), Blk.row false 1 (List.map c8 y43), (hk41w_2 v22)]) ((by kernel_rfl : _ = (bif ((((underss 6 (List.map c_S_Value v19.L)) && true)) && ((((underss 6 (List.map c_S_Value v20.L)) && true)) && ((underss 6 (List.map c8 y43)) && ((((underss 6 (List.map c_S_Value v22.L)) && true)) && true)))) then some [(hk41w_3 v19), hk41w_1, Blk.box [(A.ptr 1 0)], (hk41w_4 v20), Blk.row false 1 (List.map c8 y43), (hk41w_2 v22)] else none)).trans (by simp only [un0, unS])) ?_
     refine .cT ((by kernel_rfl : _ = (bif underss 6 (List.map c8 v15) then (bif underss 6 (List.map c_S_Value v16) then true else false) else false)).trans (by simp only [un0, unS])) ?_
     exact ih _ _
   refine .sp (fun hb44 => ?_) (fun _ => ?_)
   ·refine .st (v := (A.ptr 1 2)) (by rw [of_decide_eq_true hb44]; kernel_rfl) ?_
    refine .s (A.ptr 1 2) (.s (A.fn (Fn.func 40) [] []) (.s (A.agg [(iA y24.Kind), (iA y24.N), (A.v (Value.string y24.S)), (A.imm (List.map c_S_Value y24.L) false)]) ?_))
    refine .dC (by kernel_rfl) (by kernel_rfl) ?_
    refine .cl ((evCall_in lt_40).trans (e40 C (ec C n 7) (ey C n 7) (n+7) _ _ _ _)) ?_
    refine .s ((A.ptr 7 0), [(hk41w_3 v19), hk41w_1, Blk.box [(A.ptr 1 0)], (hk41w_4 v20), Blk.row false 1 (List.map c8 v21), (hk41w_2 v22), (hk41w_5 y24), (hk41w_5 y24)]) (.s ((A.ip [(iA y24.Kind), (iA y24.N), (A.v (Value.string y24.S)), (A.imm (List.map c_S_Value y24.L) false)]), [(hk41w_3 v19), hk41w_1, Blk.box [(A.ptr 1 0)], (hk41w_4 v20), Blk.row false 1 (List.map c8 v21), (hk41w_2 v22), (hk41w_5 y24), Blk.dead]) ?_)
    refine .cT (by kernel_rfl) ?_
    refine .s (A.imm [[(uA 2)]] true) (.s (A.ip [(A.v (Value.string y24.S)), (A.imm (List.map c_S_Value y24.L) false)]) (.s (A.v (Value.string y24.S)) (.s (iA ((y24.S.size : Int))) ?_)))
    refine .st (v := (A.v (.int .u64 (wr .u64 ((y24.S.size : Int)))))) (aConvert_int (hs := by kernel_rfl) (hd := by kernel_rfl) ..) ?_
    refine .s (A.ip [(A.v (Value.string y24.S)), (A.imm (List.map c_S_Value y24.L) false)]) (.s (A.v (Value.string y24.S)) ?_)
    refine .cT (by kernel_rfl) ?_
    refine .bd (g := fun (y : List UInt8) => ((A.sl 4 0 y.length false), [(hk41w_3 v19), hk41w_1, Blk.box [(A.ptr 1 0)], (hk41w_4 v20), Blk.row false 1 (List.map c8 y), (hk41w_2 v22), (hk41w_5 y24), Blk.dead])) (app_row (e := 5) (es := 1) (by_ := 1) (z := [(uA 0)]) (by kernel_rfl) (by kernel_rfl) (by kernel_rfl) (by kernel_rfl) rfl (by decide) (by decide) (by kernel_rfl) (f := c8) (fun _ => rfl) ce_c8 (l := v21) (l2 := [(2 : UInt8)]) (b := 4) rfl (by decide) (els_imm (f := c8) ([(2 : UInt8)] : List UInt8) _ _)) fun y45 => ?_
    refine .cT (by kernel_rfl) ?_
    refine .cl ((evCall_in lt_38).trans (e38 C (evCall (cx C) (n+6)) (evCallY (cx C) (n+6)) (n+6) _ _ _ _)) ?_
    refine .as (T41w_38_0b C n h39 self hS ([]) v19 v20 v22 y24 _ _ _ _ ?_ _ (wr .u64 ((y24.S.size : Int))) y45)
    ·intro y56 y57 j58
     refine .un rfl ?_
     refine .cT (by kernel_rfl) ?_
     refine .st (v := (uA (wr .u8 (y56)))) (aConvert_int (hs := by kernel_rfl) (hd := by kernel_rfl) ..) ?_
     refine .gd fun hg => ?_
     refine .st (v := (A.imm [[(uA (((UInt8.ofNat (Int.toNat (wr .u8 (y56)))).toNat : Int)))]] true)) (by rw [u8_back hg]; kernel_rfl) ?_
     refine .bd (g := fun (y : List UInt8) => ((A.sl 4 0 y.length false), [(hk41w_3 v19), hk41w_1, Blk.box [(A.ptr 1 0)], (hk41w_4 v20), Blk.row false 1 (List.map c8 y), (hk41w_2 v22), (hk41w_5 y24), Blk.dead])) (app_row (e := 5) (es := 1) (by_ := 1) (z := [(uA 0)]) (by kernel_rfl) (by kernel_rfl) (by kernel_rfl) (by kernel_rfl) rfl (by decide) (by decide) (by kernel_rfl) (f := c8) (fun _ => rfl) ce_c8 (l := y57) (l2 := [(UInt8.ofNat (Int.toNat (wr .u8 (y56))))]) (b := 4) rfl (by decide) (els_imm (f := c8) ([(UInt8.ofNat (Int.toNat (wr .u8 (y56))))] : List UInt8) _ _)) fun y59 => ?_
     refine .cr ?_
     refine .ok ?_
     refine .bd (g := fun (y : List UInt8) => ((A.sl 4 0 y.length false), [(hk41w_3 v19), hk41w_1, Blk.box [(A.ptr 1 0)], (hk41w_4 v20), Blk.row false 1 (List.map c8 y), (hk41w_2 v22), (hk41w_5 y24), Blk.dead])) (app_row (e := 5) (es := 1) (by_ := 1) (z := [(uA 0)]) (by kernel_rfl) (by kernel_rfl) (by kernel_rfl) (by kernel_rfl) rfl (by decide) (by decide) (by kernel_rfl) (f := c8) (fun _ => rfl) ce_c8 (l := y59) (l2 := bstrL y24.S) (b := 4) rfl (by decide) (els_str ..)) fun y60 => ?_
     refine .cr ?_
     refine .ok ?_
     refine .st (v := (iA (wr .i64 (v18 + 1)))) (aBin_add ..) ?_
     refine .st (v := [(hk41w_3 v19), hk41w_1, Blk.box [(A.ptr 1 0)], (hk41w_4 v20), Blk.row false 1 (List.map c8 y60), (hk41w_2 v22)]) ((by kernel_rfl : _ = (bif ((((underss 6 (List.map c_S_Value v19.L)) && true)) && ((((underss 6 (List.map c_S_Value v20.L)) && true)) && ((underss 6 (List.map c8 y60)) && ((((underss 6 (List.map c_S_Value v22.L)) && true)) && true)))) then some [(hk41w_3 v19), hk41w_1, Blk.box [(A.ptr 1 0)], (hk41w_4 v20), Blk.row false 1 (List.map c8 y60), (hk41w_2 v22)] else none)).trans (by simp only [un0, unS])) ?_
     refine .cT ((by kernel_rfl : _ = (bif underss 6 (List.map c8 v15) then (bif underss 6 (List.map c_S_Value v16) then true else false) else false)).trans (by simp only [un0, unS])) ?_
     exact ih _ _
   refine .sp (fun hb61 => ?_) (fun _ => ?_)
   ·refine .st (v := (A.ptr 1 3)) (by rw [of_decide_eq_true hb61]; kernel_rfl) ?_
    refine .s (A.ptr 1 3) (.s (A.fn (Fn.func 41) [] [(A.ptr 2 0)]) (.s (A.agg [(iA y24.Kind), (iA y24.N), (A.v (Value.string y24.S)), (A.imm (List.map c_S_Value y24.L) false)]) ?_))
    refine .dC (by kernel_rfl) (by kernel_rfl) ?_
    refine .bg (fun (t : R) (y : (List UInt8)) => t = (Out.ret (A.sl 4 0 y.length false), [(hk41w_3 v19), hk41w_1, Blk.box [(A.ptr 1 0)], (hk41w_4 v20), Blk.row false 1 (List.map c8 y), (hk41w_2 v22), (hk41w_5 y24)])) (hS v19 v20 v21 y24 [(hk41w_2 v22), (hk41w_5 y24)]) ?_
    rintro _ y62 rfl
    refine .ok ?_
    refine .st (v := (iA (wr .i64 (v18 + 1)))) (aBin_add ..) ?_
    refine .st (v := [(hk41w_3 v19), hk41w_1, Blk.box [(A.ptr 1 0)], (hk41w_4 v20), Blk.row false 1 (List.map c8 y62), (hk41w_2 v22)]) ((by kernel_rfl : _ = (bif ((((underss 6 (List.map c_S_Value v19.L)) && true)) && ((((underss 6 (List.map c_S_Value v20.L)) && true)) && ((underss 6 (List.map c8 y62)) && ((((underss 6 (List.map c_S_Value v22.L)) && true)) && true)))) then some [(hk41w_3 v19), hk41w_1, Blk.box [(A.ptr 1 0)], (hk41w_4 v20), Blk.row false 1 (List.map c8 y62), (hk41w_2 v22)] else none)).trans (by simp only [un0, unS])) ?_
    refine .cT ((by kernel_rfl : _ = (bif underss 6 (List.map c8 v15) then (bif underss 6 (List.map c_S_Value v16) then true else false) else false)).trans (by simp only [un0, unS])) ?_
    exact ih _ _
   exact .nn
  exact .ex (x0 _ _ _ _ _ _)
def F41w (self : S_Value -> S_Value -> (List UInt8) -> S_Value -> Option (List UInt8)) (n : Nat) (a0 : S_Value) (a1 : S_Value) (a2 : (List UInt8)) (a3 : S_Value) : Option (List UInt8) :=
 (appI 1 a2 ([(3 : UInt8)])).bind fun y1 => (F41w_38_0 self n ([]) a0 a1 a3 (n+7) (wr .u64 ((a3.L.length : Int))) y1).bind fun o10 => match o10 with | (y11, y12) => bif (decide (0 <= (wr .u8 (y11))) && decide ((wr .u8 (y11)) < 256)) then ((appI 1 y12 ([(UInt8.ofNat (Int.toNat (wr .u8 (y11))))])).bind fun y14 => (F41w_41_0 self n ([]) a3.L ((a3.L.length : Int)) a0 a1 a3 (n+8) 0 y14).bind fun o63 => match o63 with | y64 => some y64) else none
theorem T41w (C : Nat -> List A -> Option A) (n : Nat) (h39 : Orc39 C) (self : S_Value -> S_Value -> (List UInt8) -> S_Value -> Option (List UInt8)) (hS : HS41 C (n+8) self) (a0 : S_Value) (a1 : S_Value) (a2 : (List UInt8)) (a3 : S_Value) : J (fun (o : R) (y : (List UInt8)) => ∃ Z, o = (Out.ret (A.sl 4 0 y.length false), [(hk41w_6 a0), hk41w_1, Blk.box [(A.ptr 1 0)], (hk41w_7 a1), Blk.row false 1 (List.map c8 y)] ++ Z)) (evCall1 (cx C) (ec C n 8) (ey C n 8) (n+8) 41 [(A.sl 4 0 a2.length false), (A.agg [(iA a3.Kind), (iA a3.N), (A.v (Value.string a3.S)), (A.imm (List.map c_S_Value a3.L) false)]), (A.ptr 2 0)] [(hk41w_6 a0), hk41w_1, Blk.box [(A.ptr 1 0)], (hk41w_7 a1), Blk.row false 1 (List.map c8 a2)] 0) some (F41w self n a0 a1 a2 a3) some := by
 refine .lp (e41 ..) ?_
 unfold F41w
 refine .s ((A.ptr 5 0), [(hk41w_6 a0), hk41w_1, Blk.box [(A.ptr 1 0)], (hk41w_7 a1), Blk.row false 1 (List.map c8 a2), Blk.box [(iA a3.Kind), (iA a3.N), (A.v (Value.string a3.S)), (A.imm (List.map c_S_Value a3.L) false)]]) (.s (A.imm [[(uA 3)]] true) ?_)
 refine .bd (g := fun (y : List UInt8) => ((A.sl 4 0 y.length false), [(hk41w_6 a0), hk41w_1, Blk.box [(A.ptr 1 0)], (hk41w_7 a1), Blk.row false 1 (List.map c8 y), Blk.box [(iA a3.Kind), (iA a3.N), (A.v (Value.string a3.S)), (A.imm (List.map c_S_Value a3.L) false)]])) (app_row (e := 5) (es := 1) (by_ := 1) (z := [(uA 0)]) (by kernel_rfl) (by kernel_rfl) (by kernel_rfl) (by kernel_rfl) rfl (by decide) (by decide) (by kernel_rfl) (f := c8) (fun _ => rfl) ce_c8 (l := a2) (l2 := [(3 : UInt8)]) (b := 4) rfl (by decide) (els_imm (f := c8) ([(3 : UInt8)] : List UInt8) _ _)) fun y1 => ?_
 refine .cT (by kernel_rfl) ?_
 refine .s (A.ptr 5 3) ?_
 refine .cT (by kernel_rfl) ?_
 refine .s (A.imm (List.map c_S_Value a3.L) false) ?_
 refine .cT (by kernel_rfl) ?_
 refine .st (v := (iA ((a3.L.length : Int)))) (len_imm (e := 24) (h1 := by kernel_rfl) ..) ?_
 refine .cT (by kernel_rfl) ?_
 refine .st (v := (A.v (.int .u64 (wr .u64 ((a3.L.length : Int)))))) (aConvert_int (hs := by kernel_rfl) (hd := by kernel_rfl) ..) ?_
 refine .cl ((evCall_in lt_38).trans (e38 C (ec C n 7) (ey C n 7) (n+7) _ _ _ _)) ?_
 refine .as (T41w_38_0 C n h39 self hS ([]) a0 a1 a3 _ _ _ _ ?_ _ (wr .u64 ((a3.L.length : Int))) y1)
 ·intro y11 y12 j13
  refine .un rfl ?_
  refine .cT (by kernel_rfl) ?_
  refine .st (v := (uA (wr .u8 (y11)))) (aConvert_int (hs := by kernel_rfl) (hd := by kernel_rfl) ..) ?_
  refine .gd fun hg => ?_
  refine .st (v := (A.imm [[(uA (((UInt8.ofNat (Int.toNat (wr .u8 (y11)))).toNat : Int)))]] true)) (by rw [u8_back hg]; kernel_rfl) ?_
  refine .bd (g := fun (y : List UInt8) => ((A.sl 4 0 y.length false), [(hk41w_6 a0), hk41w_1, Blk.box [(A.ptr 1 0)], (hk41w_7 a1), Blk.row false 1 (List.map c8 y), Blk.box [(iA a3.Kind), (iA a3.N), (A.v (Value.string a3.S)), (A.imm (List.map c_S_Value a3.L) false)]])) (app_row (e := 5) (es := 1) (by_ := 1) (z := [(uA 0)]) (by kernel_rfl) (by kernel_rfl) (by kernel_rfl) (by kernel_rfl) rfl (by decide) (by decide) (by kernel_rfl) (f := c8) (fun _ => rfl) ce_c8 (l := y12) (l2 := [(UInt8.ofNat (Int.toNat (wr .u8 (y11))))]) (b := 4) rfl (by decide) (els_imm (f := c8) ([(UInt8.ofNat (Int.toNat (wr .u8 (y11))))] : List UInt8) _ _)) fun y14 => ?_
  refine .cr ?_
  refine .ok ?_
  refine .s (A.ptr 5 3) (.s (A.imm (List.map c_S_Value a3.L) false) ?_)
  refine .st (v := (iA ((a3.L.length : Int)))) (len_imm (e := 24) (h1 := by kernel_rfl) ..) ?_
  refine .as (T41w_41_0 C n h39 self hS ([]) a3.L ((a3.L.length : Int)) a0 a1 a3 _ _ _ _ ?_ _ 0 y14)
  ·intro y64 j65 j66 j67 j68 j69
   refine .un rfl ?_
   refine .cT (by kernel_rfl) ?_
   exact .lf rfl rfl ⟨[Blk.box [(iA a3.Kind), (iA a3.N), (A.v (Value.string a3.S)), (A.imm (List.map c_S_Value a3.L) false)]], rfl⟩
def W41 : Nat -> S_Value -> S_Value -> (List UInt8) -> S_Value -> Option (List UInt8)
 | 0 => fun _ _ _ _ => none
 | N + 1 => fun a0 a1 a2 a3 => bif Nat.ble 8 N then F41w (W41 N) (N - 8) a0 a1 a2 a3 else none
theorem HW41 (C : Nat -> List A -> Option A) (h39 : Orc39 C) : ∀ N, HS41 C N (W41 N)
 | 0 => fun _ _ _ _ X r h => by cases h
 | N + 1 => fun a0 a1 a2 a3 X => by
  show J _ _ _ (bif Nat.ble 8 N then F41w (W41 N) (N - 8) a0 a1 a2 a3 else none) _
  cases h : Nat.ble 8 N with
  | false => exact fun r h => by cases h
  | true =>
   obtain ⟨n, rfl⟩ : ∃ n, N = n + 8 := ⟨N - 8, by have := Nat.le_of_ble_eq_true h; omega⟩
   rw [Nat.add_sub_cancel]
   exact cut_J (m := 5) (by kernel_rfl) (by kernel_rfl) (by decide) rfl ((by kernel_rfl : _ = ((((underss 5 (List.map c_S_Value a3.L)) && true)) && true)).trans (by simp only [un0, unS])) ((by kernel_rfl : _ = ((((underss 5 (List.map c_S_Value a0.L)) && true)) && ((((underss 5 (List.map c_S_Value a1.L)) && true)) && ((underss 5 (List.map c8 a2)) && true)))).trans (by simp only [un0, unS])) (fun _ => rfl) (fun y => (by kernel_rfl)) (fun y => ((by kernel_rfl : _ = ((((underss 5 (List.map c_S_Value a0.L)) && true)) && ((((underss 5 (List.map c_S_Value a1.L)) && true)) && ((underss 5 (List.map c8 y)) && true)))).trans (by simp only [un0, unS]))) (T41w C n h39 (W41 (n + 8)) (HW41 C h39 (n + 8)) a0 a1 a2 a3)
def hk12_1 : Blk := Blk.box [(A.v Value.nilFunc), (A.fn (Fn.func 37) [] []), (A.fn (Fn.func 40) [] []), (A.fn (Fn.func 41) [] [(A.ptr 2 0)])]
def hk12_2 (a0 : S_Value) : Blk := Blk.box [(iA a0.Kind), (iA a0.N), (A.v (Value.string a0.S)), (A.imm (List.map c_S_Value a0.L) false)]
def hk12_5 (y55 : S_Value) : Blk := Blk.box [(iA y55.Kind), (iA y55.N), (A.v (Value.string y55.S)), (A.imm (List.map c_S_Value y55.L) false)]
def F12_38_0 (n : Nat) (v8 : (List UInt8)) (v9 : S_Value) (v10 : S_Value) : Nat -> Int -> (List UInt8) -> Option (Int × (List UInt8))
 | 0, _, _ => none
 | m + 1, v7, v11 => bif (decide (128 <= v7)) then (bif (decide (0 <= (orI .u8 (wr .u8 (v7)) 128)) && decide ((orI .u8 (wr .u8 (v7)) 128) < 256)) then ((appI 1 v11 ([(UInt8.ofNat (Int.toNat (orI .u8 (wr .u8 (v7)) 128)))])).bind fun y13 => F12_38_0 n v8 v9 v10 m (shrI .u64 v7 7) y13) else none) else (some ((v7, v11)))
theorem T12_38_0 (C : Nat -> List A -> Option A) (n : Nat) (h16 : Orc16 C) (h39 : Orc39 C) (v8 : (List UInt8)) (v9 : S_Value) (v10 : S_Value) {ρ γ : Type} {φ : ρ -> γ -> Prop} {kL : R -> Option ρ} {K : (Int × (List UInt8)) -> Option γ} (kx kg : Nat -> St -> Option R) (kr : St -> Option R) (kp : A -> St -> Option R) (x0 : ∀ (o0 : Int) (o1 : (List UInt8)) (s4 : A), J φ (kx 0 (St.mk [(0, (A.sl 4 0 o1.length false)), (1, (A.v (.int .u64 o0))), (4, s4)] [Blk.box [(iA v9.Kind), (iA v9.N), (A.v (Value.string v9.S)), (A.imm (List.map c_S_Value v9.L) false)], hk12_1, Blk.box [(A.ptr 1 0)], Blk.box [(iA v10.Kind), (iA v10.N), (A.v (Value.string v10.S)), (A.imm (List.map c_S_Value v10.L) false)], Blk.row false 1 (List.map c8 o1)])) kL (K (o0, o1)) some) :
  ∀ (m : Nat) (v7 : Int) (v11 : (List UInt8)), J φ (loopR (cx C) (evCall (cx C) (n+6)) (evCallY (cx C) (n+6)) (n+6) 38 0 0 5 kx kg kr kp m (St.mk [(0, (A.sl 4 0 v11.length false)), (1, (A.v (.int .u64 v7))), (4, (A.imm (List.map c8 v8) true))] [Blk.box [(iA v9.Kind), (iA v9.N), (A.v (Value.string v9.S)), (A.imm (List.map c_S_Value v9.L) false)], hk12_1, Blk.box [(A.ptr 1 0)], Blk.box [(iA v10.Kind), (iA v10.N), (A.v (Value.string v10.S)), (A.imm (List.map c_S_Value v10.L) false)], Blk.row false 1 (List.map c8 v11)])) kL (F12_38_0 n v8 v9 v10 m v7 v11) K := by
 intro m
 induction m with
 | zero => intros; exact .nn
 | succ m ih =>
  intro v7 v11
  refine .lp (e38_0 ..) ?_
  unfold F12_38_0
  refine .st (v := (bA (decide (128 <= v7)))) (aBin_geq ..) ?_
  refine .biHN (fun hk12 => ?_) (fun hk12 => ?_)
  ·refine .st (v := (uA (wr .u8 (v7)))) (aConvert_int (hs := by kernel_rfl) (hd := by kernel_rfl) ..) ?_
   refine .st (v := (uA (orI .u8 (wr .u8 (v7)) 128))) (aBin_bits_or ..) ?_
   refine .gd fun hg => ?_
   refine .st (v := (A.imm [[(uA (((UInt8.ofNat (Int.toNat (orI .u8 (wr .u8 (v7)) 128))).toNat : Int)))]] true)) (by rw [u8_back hg]; kernel_rfl) ?_
   refine .bd (g := fun (y : List UInt8) => ((A.sl 4 0 y.length false), [Blk.box [(iA v9.Kind), (iA v9.N), (A.v (Value.string v9.S)), (A.imm (List.map c_S_Value v9.L) false)], hk12_1, Blk.box [(A.ptr 1 0)], Blk.box [(iA v10.Kind), (iA v10.N), (A.v (Value.string v10.S)), (A.imm (List.map c_S_Value v10.L) false)], Blk.row false 1 (List.map c8 y)])) (app_row (e := 5) (es := 1) (by_ := 1) (z := [(uA 0)]) (by kernel_rfl) (by kernel_rfl) (by kernel_rfl) (by kernel_rfl) rfl (by decide) (by decide) (by kernel_rfl) (f := c8) (fun _ => rfl) ce_c8 (l := v11) (l2 := [(UInt8.ofNat (Int.toNat (orI .u8 (wr .u8 (v7)) 128)))]) (b := 4) rfl (by decide) (els_imm (f := c8) ([(UInt8.ofNat (Int.toNat (orI .u8 (wr .u8 (v7)) 128)))] : List UInt8) _ _)) fun y13 => ?_
   refine .st (v := (A.v (.int .u64 (shrI .u64 v7 7)))) (aBin_shr (hb := by decide) ..) ?_
   refine .s [Blk.box [(iA v9.Kind), (iA v9.N), (A.v (Value.string v9.S)), (A.imm (List.map c_S_Value v9.L) false)], hk12_1, Blk.box [(A.ptr 1 0)], Blk.box [(iA v10.Kind), (iA v10.N), (A.v (Value.string v10.S)), (A.imm (List.map c_S_Value v10.L) false)], Blk.row false 1 (List.map c8 y13)] ?_
   refine .cT (by kernel_rfl) ?_
   exact ih _ _
  exact .ex (x0 _ _ _)
def F12_38_0a (n : Nat) (v22 : (List UInt8)) (v23 : S_Value) : Nat -> Int -> (List UInt8) -> Option (Int × (List UInt8))
 | 0, _, _ => none
 | m + 1, v21, v24 => bif (decide (128 <= v21)) then (bif (decide (0 <= (orI .u8 (wr .u8 (v21)) 128)) && decide ((orI .u8 (wr .u8 (v21)) 128) < 256)) then ((appI 1 v24 ([(UInt8.ofNat (Int.toNat (orI .u8 (wr .u8 (v21)) 128)))])).bind fun y26 => F12_38_0a n v22 v23 m (shrI .u64 v21 7) y26) else none) else (some ((v21, v24)))
theorem T12_38_0a (C : Nat -> List A -> Option A) (n : Nat) (h16 : Orc16 C) (h39 : Orc39 C) (v22 : (List UInt8)) (v23 : S_Value) {ρ γ : Type} {φ : ρ -> γ -> Prop} {kL : R -> Option ρ} {K : (Int × (List UInt8)) -> Option γ} (kx kg : Nat -> St -> Option R) (kr : St -> Option R) (kp : A -> St -> Option R) (x0 : ∀ (o0 : Int) (o1 : (List UInt8)) (s4 : A), J φ (kx 0 (St.mk [(0, (A.sl 4 0 o1.length false)), (1, (A.v (.int .u64 o0))), (4, s4)] [Blk.box [(iA v23.Kind), (iA v23.N), (A.v (Value.string v23.S)), (A.imm (List.map c_S_Value v23.L) false)], hk12_1, Blk.box [(A.ptr 1 0)], Blk.dead, Blk.row false 1 (List.map c8 o1)])) kL (K (o0, o1)) some) :
  ∀ (m : Nat) (v21 : Int) (v24 : (List UInt8)), J φ (loopR (cx C) (evCall (cx C) (n+6)) (evCallY (cx C) (n+6)) (n+6) 38 0 0 5 kx kg kr kp m (St.mk [(0, (A.sl 4 0 v24.length false)), (1, (A.v (.int .u64 v21))), (4, (A.imm (List.map c8 v22) true))] [Blk.box [(iA v23.Kind), (iA v23.N), (A.v (Value.string v23.S)), (A.imm (List.map c_S_Value v23.L) false)], hk12_1, Blk.box [(A.ptr 1 0)], Blk.dead, Blk.row false 1 (List.map c8 v24)])) kL (F12_38_0a n v22 v23 m v21 v24) K := by
 intro m
 induction m with
 | zero => intros; exact .nn
 | succ m ih =>
  intro v21 v24
  refine .lp (e38_0 ..) ?_
  unfold F12_38_0a
  refine .st (v := (bA (decide (128 <= v21)))) (aBin_geq ..) ?_
  refine .biHN (fun hk25 => ?_) (fun hk25 => ?_)
  ·refine .st (v := (uA (wr .u8 (v21)))) (aConvert_int (hs := by kernel_rfl) (hd := by kernel_rfl) ..) ?_
   refine .st (v := (uA (orI .u8 (wr .u8 (v21)) 128))) (aBin_bits_or ..) ?_
   refine .gd fun hg => ?_
   refine .st (v := (A.imm [[(uA (((UInt8.ofNat (Int.toNat (orI .u8 (wr .u8 (v21)) 128))).toNat : Int)))]] true)) (by rw [u8_back hg]; kernel_rfl) ?_
   refine .bd (g := fun (y : List UInt8) => ((A.sl 4 0 y.length false), [Blk.box [(iA v23.Kind), (iA v23.N), (A.v (Value.string v23.S)), (A.imm (List.map c_S_Value v23.L) false)], hk12_1, Blk.box [(A.ptr 1 0)], Blk.dead, Blk.row false 1 (List.map c8 y)])) (app_row (e := 5) (es := 1) (by_ := 1) (z := [(uA 0)]) (by kernel_rfl) (by kernel_rfl) (by kernel_rfl) (by kernel_rfl) rfl (by decide) (by decide) (by kernel_rfl) (f := c8) (fun _ => rfl) ce_c8 (l := v24) (l2 := [(UInt8.ofNat (Int.toNat (orI .u8 (wr .u8 (v21)) 128)))]) (b := 4) rfl (by decide) (els_imm (f := c8) ([(UInt8.ofNat (Int.toNat (orI .u8 (wr .u8 (v21)) 128)))] : List UInt8) _ _)) fun y26 => ?_
   refine .st (v := (A.v (.int .u64 (shrI .u64 v21 7)))) (aBin_shr (hb := by decide) ..) ?_
   refine .s [Blk.box [(iA v23.Kind), (iA v23.N), (A.v (Value.string v23.S)), (A.imm (List.map c_S_Value v23.L) false)], hk12_1, Blk.box [(A.ptr 1 0)], Blk.dead, Blk.row false 1 (List.map c8 y26)] ?_
   refine .cT (by kernel_rfl) ?_
   exact ih _ _
  exact .ex (x0 _ _ _)
def F12_38_0c (n : Nat) (v61 : (List UInt8)) (v62 : S_Value) (v63 : S_Value) (v65 : S_Value) (v66 : S_Value) : Nat -> Int -> (List UInt8) -> Option (Int × (List UInt8))
 | 0, _, _ => none
 | m + 1, v60, v64 => bif (decide (128 <= v60)) then (bif (decide (0 <= (orI .u8 (wr .u8 (v60)) 128)) && decide ((orI .u8 (wr .u8 (v60)) 128) < 256)) then ((appI 1 v64 ([(UInt8.ofNat (Int.toNat (orI .u8 (wr .u8 (v60)) 128)))])).bind fun y68 => F12_38_0c n v61 v62 v63 v65 v66 m (shrI .u64 v60 7) y68) else none) else (some ((v60, v64)))
theorem T12_38_0c (C : Nat -> List A -> Option A) (n : Nat) (h16 : Orc16 C) (h39 : Orc39 C) (v61 : (List UInt8)) (v62 : S_Value) (v63 : S_Value) (v65 : S_Value) (v66 : S_Value) {ρ γ : Type} {φ : ρ -> γ -> Prop} {kL : R -> Option ρ} {K : (Int × (List UInt8)) -> Option γ} (kx kg : Nat -> St -> Option R) (kr : St -> Option R) (kp : A -> St -> Option R) (x0 : ∀ (o0 : Int) (o1 : (List UInt8)) (s4 : A), J φ (kx 0 (St.mk [(0, (A.sl 4 0 o1.length false)), (1, (A.v (.int .u64 o0))), (4, s4)] [Blk.box [(iA v62.Kind), (iA v62.N), (A.v (Value.string v62.S)), (A.imm (List.map c_S_Value v62.L) false)], hk12_1, Blk.box [(A.ptr 1 0)], Blk.box [(iA v63.Kind), (iA v63.N), (A.v (Value.string v63.S)), (A.imm (List.map c_S_Value v63.L) false)], Blk.row false 1 (List.map c8 o1), Blk.box [(iA v65.Kind), (iA v65.N), (A.v (Value.string v65.S)), (A.imm (List.map c_S_Value v65.L) false)], Blk.box [(iA v66.Kind), (iA v66.N), (A.v (Value.string v66.S)), (A.imm (List.map c_S_Value v66.L) false)]])) kL (K (o0, o1)) some) :
  ∀ (m : Nat) (v60 : Int) (v64 : (List UInt8)), J φ (loopR (cx C) (evCall (cx C) (n+5)) (evCallY (cx C) (n+5)) (n+5) 38 0 0 7 kx kg kr kp m (St.mk [(0, (A.sl 4 0 v64.length false)), (1, (A.v (.int .u64 v60))), (4, (A.imm (List.map c8 v61) true))] [Blk.box [(iA v62.Kind), (iA v62.N), (A.v (Value.string v62.S)), (A.imm (List.map c_S_Value v62.L) false)], hk12_1, Blk.box [(A.ptr 1 0)], Blk.box [(iA v63.Kind), (iA v63.N), (A.v (Value.string v63.S)), (A.imm (List.map c_S_Value v63.L) false)], Blk.row false 1 (List.map c8 v64), Blk.box [(iA v65.Kind), (iA v65.N), (A.v (Value.string v65.S)), (A.imm (List.map c_S_Value v65.L) false)], Blk.box [(iA v66.Kind), (iA v66.N), (A.v (Value.string v66.S)), (A.imm (List.map c_S_Value v66.L) false)]])) kL (F12_38_0c n v61 v62 v63 v65 v66 m v60 v64) K := by
 intro m
 induction m with
 | zero => intros; exact .nn
 | succ m ih =>
  intro v60 v64
  refine .lp (e38_0 ..) ?_
  unfold F12_38_0c
  refine .st (v := (bA (decide (128 <= v60)))) (aBin_geq ..) ?_
  refine .biHN (fun hk67 => ?_) (fun hk67 => ?_)
  ·refine .st (v := (uA (wr .u8 (v60)))) (aConvert_int (hs := by kernel_rfl) (hd := by kernel_rfl) ..) ?_
   refine .st (v := (uA (orI .u8 (wr .u8 (v60)) 128))) (aBin_bits_or ..) ?_
   refine .gd fun hg => ?_
   refine .st (v := (A.imm [[(uA (((UInt8.ofNat (Int.toNat (orI .u8 (wr .u8 (v60)) 128))).toNat : Int)))]] true)) (by rw [u8_back hg]; kernel_rfl) ?_
   refine .bd (g := fun (y : List UInt8) => ((A.sl 4 0 y.length false), [Blk.box [(iA v62.Kind), (iA v62.N), (A.v (Value.string v62.S)), (A.imm (List.map c_S_Value v62.L) false)], hk12_1, Blk.box [(A.ptr 1 0)], Blk.box [(iA v63.Kind), (iA v63.N), (A.v (Value.string v63.S)), (A.imm (List.map c_S_Value v63.L) false)], Blk.row false 1 (List.map c8 y), Blk.box [(iA v65.Kind), (iA v65.N), (A.v (Value.string v65.S)), (A.imm (List.map c_S_Value v65.L) false)], Blk.box [(iA v66.Kind), (iA v66.N), (A.v (Value.string v66.S)), (A.imm (List.map c_S_Value v66.L) false)]])) (app_row (e := 5) (es := 1) (by_ := 1) (z := [(uA 0)]) (by kernel_rfl) (by kernel_rfl) (by kernel_rfl) (by kernel_rfl) rfl (by decide) (by decide) (by kernel_rfl) (f := c8) (fun _ => rfl) ce_c8 (l := v64) (l2 := [(UInt8.ofNat (Int.toNat (orI .u8 (wr .u8 (v60)) 128)))]) (b := 4) rfl (by decide) (els_imm (f := c8) ([(UInt8.ofNat (Int.toNat (orI .u8 (wr .u8 (v60)) 128)))] : List UInt8) _ _)) fun y68 => ?_
   refine .st (v := (A.v (.int .u64 (shrI .u64 v60 7)))) (aBin_shr (hb := by decide) ..) ?_
   refine .s [Blk.box [(iA v62.Kind), (iA v62.N), (A.v (Value.string v62.S)), (A.imm (List.map c_S_Value v62.L) false)], hk12_1, Blk.box [(A.ptr 1 0)], Blk.box [(iA v63.Kind), (iA v63.N), (A.v (Value.string v63.S)), (A.imm (List.map c_S_Value v63.L) false)], Blk.row false 1 (List.map c8 y68), Blk.box [(iA v65.Kind), (iA v65.N), (A.v (Value.string v65.S)), (A.imm (List.map c_S_Value v65.L) false)], Blk.box [(iA v66.Kind), (iA v66.N), (A.v (Value.string v66.S)), (A.imm (List.map c_S_Value v66.L) false)]] ?_
   refine .cT (by kernel_rfl) ?_
   exact ih _ _
  exact .ex (x0 _ _ _)
def F12_38_0d (n : Nat) (v77 : (List UInt8)) (v78 : S_Value) (v79 : S_Value) (v81 : S_Value) : Nat -> Int -> (List UInt8) -> Option (Int × (List UInt8))
 | 0, _, _ => none
 | m + 1, v76, v80 => bif (decide (128 <= v76)) then (bif (decide (0 <= (orI .u8 (wr .u8 (v76)) 128)) && decide ((orI .u8 (wr .u8 (v76)) 128) < 256)) then ((appI 1 v80 ([(UInt8.ofNat (Int.toNat (orI .u8 (wr .u8 (v76)) 128)))])).bind fun y83 => F12_38_0d n v77 v78 v79 v81 m (shrI .u64 v76 7) y83) else none) else (some ((v76, v80)))
theorem T12_38_0d (C : Nat -> List A -> Option A) (n : Nat) (h16 : Orc16 C) (h39 : Orc39 C) (v77 : (List UInt8)) (v78 : S_Value) (v79 : S_Value) (v81 : S_Value) {ρ γ : Type} {φ : ρ -> γ -> Prop} {kL : R -> Option ρ} {K : (Int × (List UInt8)) -> Option γ} (kx kg : Nat -> St -> Option R) (kr : St -> Option R) (kp : A -> St -> Option R) (x0 : ∀ (o0 : Int) (o1 : (List UInt8)) (s4 : A), J φ (kx 0 (St.mk [(0, (A.sl 4 0 o1.length false)), (1, (A.v (.int .u64 o0))), (4, s4)] [Blk.box [(iA v78.Kind), (iA v78.N), (A.v (Value.string v78.S)), (A.imm (List.map c_S_Value v78.L) false)], hk12_1, Blk.box [(A.ptr 1 0)], Blk.box [(iA v79.Kind), (iA v79.N), (A.v (Value.string v79.S)), (A.imm (List.map c_S_Value v79.L) false)], Blk.row false 1 (List.map c8 o1), Blk.box [(iA v81.Kind), (iA v81.N), (A.v (Value.string v81.S)), (A.imm (List.map c_S_Value v81.L) false)], Blk.dead])) kL (K (o0, o1)) some) :
  ∀ (m : Nat) (v76 : Int) (v80 : (List UInt8)), J φ (loopR (cx C) (evCall (cx C) (n+5)) (evCallY (cx C) (n+5)) (n+5) 38 0 0 7 kx kg kr kp m (St.mk [(0, (A.sl 4 0 v80.length false)), (1, (A.v (.int .u64 v76))), (4, (A.imm (List.map c8 v77) true))] [Blk.box [(iA v78.Kind), (iA v78.N), (A.v (Value.string v78.S)), (A.imm (List.map c_S_Value v78.L) false)], hk12_1, Blk.box [(A.ptr 1 0)], Blk.box [(iA v79.Kind), (iA v79.N), (A.v (Value.string v79.S)), (A.imm (List.map c_S_Value v79.L) false)], Blk.row false 1 (List.map c8 v80), Blk.box [(iA v81.Kind), (iA v81.N), (A.v (Value.string v81.S)), (A.imm (List.map c_S_Value v81.L) false)], Blk.dead])) kL (F12_38_0d n v77 v78 v79 v81 m v76 v80) K := by
 intro m
 induction m with
 | zero => intros; exact .nn
 | succ m ih =>
  intro v76 v80
  refine .lp (e38_0 ..) ?_
  unfold F12_38_0d
  refine .st (v := (bA (decide (128 <= v76)))) (aBin_geq ..) ?_
  refine .biHN (fun hk82 => ?_) (fun hk82 => ?_)
  ·refine .st (v := (uA (wr .u8 (v76)))) (aConvert_int (hs := by kernel_rfl) (hd := by kernel_rfl) ..) ?_
   refine .st (v := (uA (orI .u8 (wr .u8 (v76)) 128))) (aBin_bits_or ..) ?_
   refine .gd fun hg => ?_
   refine .st (v := (A.imm [[(uA (((UInt8.ofNat (Int.toNat (orI .u8 (wr .u8 (v76)) 128))).toNat : Int)))]] true)) (by rw [u8_back hg]; kernel_rfl) ?_
   refine .bd (g := fun (y : List UInt8) => ((A.sl 4 0 y.length false), [Blk.box [(iA v78.Kind), (iA v78.N), (A.v (Value.string v78.S)), (A.imm (List.map c_S_Value v78.L) false)], hk12_1, Blk.box [(A.ptr 1 0)], Blk.box [(iA v79.Kind), (iA v79.N), (A.v (Value.string v79.S)), (A.imm (List.map c_S_Value v79.L) false)], Blk.row false 1 (List.map c8 y), Blk.box [(iA v81.Kind), (iA v81.N), (A.v (Value.string v81.S)), (A.imm (List.map c_S_Value v81.L) false)], Blk.dead])) (app_row (e := 5) (es := 1) (by_ := 1) (z := [(uA 0)]) (by kernel_rfl) (by kernel_rfl) (by kernel_rfl) (by kernel_rfl) rfl (by decide) (by decide) (by kernel_rfl) (f := c8) (fun _ => rfl) ce_c8 (l := v80) (l2 := [(UInt8.ofNat (Int.toNat (orI .u8 (wr .u8 (v76)) 128)))]) (b := 4) rfl (by decide) (els_imm (f := c8) ([(UInt8.ofNat (Int.toNat (orI .u8 (wr .u8 (v76)) 128)))] : List UInt8) _ _)) fun y83 => ?_
   refine .st (v := (A.v (.int .u64 (shrI .u64 v76 7)))) (aBin_shr (hb := by decide) ..) ?_
   refine .s [Blk.box [(iA v78.Kind), (iA v78.N), (A.v (Value.string v78.S)), (A.imm (List.map c_S_Value v78.L) false)], hk12_1, Blk.box [(A.ptr 1 0)], Blk.box [(iA v79.Kind), (iA v79.N), (A.v (Value.string v79.S)), (A.imm (List.map c_S_Value v79.L) false)], Blk.row false 1 (List.map c8 y83), Blk.box [(iA v81.Kind), (iA v81.N), (A.v (Value.string v81.S)), (A.imm (List.map c_S_Value v81.L) false)], Blk.dead] ?_
   refine .cT (by kernel_rfl) ?_
   exact ih _ _
  exact .ex (x0 _ _ _)
def F12_41_0 (n : Nat) (v47 : (List UInt8)) (v48 : (List S_Value)) (v49 : Int) (v51 : S_Value) (v52 : S_Value) : Nat -> Int -> (List UInt8) -> Option ((List UInt8))
 | 0, _, _ => none
 | m + 1, v50, v53 => bif (decide (v50 < v49)) then ((getI v48 v50).bind fun y55 => bif decide (y55.Kind = 0) then (none) else bif decide (y55.Kind = 1) then ((appI 1 v53 ([(1 : UInt8)])).bind fun y58 => (G39 y55.N).bind fun y59 => (F12_38_0c n ([]) v51 v52 y55 y55 (n+5) y59 y58).bind fun o69 => match o69 with | (y70, y71) => bif (decide (0 <= (wr .u8 (y70))) && decide ((wr .u8 (y70)) < 256)) then ((appI 1 y71 ([(UInt8.ofNat (Int.toNat (wr .u8 (y70))))])).bind fun y73 => F12_41_0 n v47 v48 v49 v51 v52 m (wr .i64 (v50 + 1)) y73) else none) else bif decide (y55.Kind = 2) then ((appI 1 v53 ([(2 : UInt8)])).bind fun y75 => (F12_38_0d n ([]) v51 v52 y55 (n+5) (wr .u64 ((y55.S.size : Int))) y75).bind fun o84 => match o84 with | (y85, y86) => bif (decide (0 <= (wr .u8 (y85))) && decide ((wr .u8 (y85)) < 256)) then ((appI 1 y86 ([(UInt8.ofNat (Int.toNat (wr .u8 (y85))))])).bind fun y88 => (appI 1 y88 (bstrL y55.S)).bind fun y89 => F12_41_0 n v47 v48 v49 v51 v52 m (wr .i64 (v50 + 1)) y89) else none) else bif decide (y55.Kind = 3) then ((W41 (n+7) v51 v52 v53 y55).bind fun y91 => F12_41_0 n v47 v48 v49 v51 v52 m (wr .i64 (v50 + 1)) y91) else none) else (some v53)
theorem T12_41_0 (C : Nat -> List A -> Option A) (n : Nat) (h16 : Orc16 C) (h39 : Orc39 C) (v47 : (List UInt8)) (v48 : (List S_Value)) (v49 : Int) (v51 : S_Value) (v52 : S_Value) {ρ γ : Type} {φ : ρ -> γ -> Prop} {kL : R -> Option ρ} {K : ((List UInt8)) -> Option γ} (kx kg : Nat -> St -> Option R) (kr : St -> Option R) (kp : A -> St -> Option R) (x0 : ∀ (o0 : (List UInt8)) (s2 : A) (s5 : A) (s17 : A) (s18 : A) (s19 : A), J φ (kx 0 (St.mk [(0, (A.sl 4 0 o0.length false)), (2, s2), (5, s5), (17, s17), (18, s18), (19, s19)] [(hk28_1 v51), hk12_1, Blk.box [(A.ptr 1 0)], (hk28_1 v52), Blk.row false 1 (List.map c8 o0)])) kL (K o0) some) :
  ∀ (m : Nat) (v50 : Int) (v53 : (List UInt8)), J φ (loopR (cx C) (ec C n 7) (ey C n 7) (n+7) 41 0 0 5 kx kg kr kp m (St.mk [(0, (A.sl 4 0 v53.length false)), (2, (A.ptr 2 0)), (5, (A.imm (List.map c8 v47) true)), (17, (A.imm (List.map c_S_Value v48) false)), (18, (iA v49)), (19, (iA v50))] [(hk28_1 v51), hk12_1, Blk.box [(A.ptr 1 0)], (hk28_1 v52), Blk.row false 1 (List.map c8 v53)])) kL (F12_41_0 n v47 v48 v49 v51 v52 m v50 v53) K := by
 intro m
 induction m with
 | zero => intros; exact .nn
 | succ m ih =>
  intro v50 v53
  refine .lp (e41_0 ..) ?_
  unfold F12_41_0
  refine .st (v := (bA (decide (v50 < v49)))) (aBin_lss ..) ?_
  refine .biHN (fun hk54 => ?_) (fun hk54 => ?_)
  ·refine .bd (g := fun (y : S_Value) => (A.ip [(iA y.Kind), (iA y.N), (A.v (Value.string y.S)), (A.imm (List.map c_S_Value y.L) false)])) ((idx_imm (e := 24) (es := 4) (h1 := by kernel_rfl) (h2 := by kernel_rfl) (h3 := fun _ => rfl) ..).trans (ci_S_Value _)) fun y55 => ?_
   refine .s (A.agg [(iA y55.Kind), (iA y55.N), (A.v (Value.string y55.S)), (A.imm (List.map c_S_Value y55.L) false)]) (.s ((A.ptr 5 0), [(hk28_1 v51), hk12_1, Blk.box [(A.ptr 1 0)], (hk28_1 v52), Blk.row false 1 (List.map c8 v53), Blk.box [(iA 0), (iA 0), (A.v (Value.string ByteArray.empty)), (A.imm [] true)]]) (.s [(hk28_1 v51), hk12_1, Blk.box [(A.ptr 1 0)], (hk28_1 v52), Blk.row false 1 (List.map c8 v53), (hk12_5 y55)] (.s (A.ptr 1 0) (.s (A.ptr 5 0) (.s (iA y55.Kind) (.s (A.ptr 1 0) ?_))))))
   refine .sp (fun hb56 => ?_) (fun _ => ?_)
   ·refine .st (v := (A.ptr 1 0)) (by rw [of_decide_eq_true hb56]; kernel_rfl) ?_
    refine .s (A.ptr 1 0) (.s (A.v Value.nilFunc) (.s (A.agg [(iA y55.Kind), (iA y55.N), (A.v (Value.string y55.S)), (A.imm (List.map c_S_Value y55.L) false)]) ?_))
    exact .nn
   refine .sp (fun hb57 => ?_) (fun _ => ?_)
   ·refine .st (v := (A.ptr 1 1)) (by rw [of_decide_eq_true hb57]; kernel_rfl) ?_
    refine .s (A.ptr 1 1) (.s (A.fn (Fn.func 37) [] []) (.s (A.agg [(iA y55.Kind), (iA y55.N), (A.v (Value.string y55.S)), (A.imm (List.map c_S_Value y55.L) false)]) ?_))
    refine .dC (by kernel_rfl) (by kernel_rfl) ?_
    refine .cl ((evCall_in lt_37).trans (e37 C (evCall (cx C) (n+6)) (evCallY (cx C) (n+6)) (n+6) _ _ _ _)) ?_
    refine .s ((A.ptr 6 0), [(hk28_1 v51), hk12_1, Blk.box [(A.ptr 1 0)], (hk28_1 v52), Blk.row false 1 (List.map c8 v53), (hk12_5 y55), (hk12_5 y55)]) (.s (A.imm [[(uA 1)]] true) ?_)
    refine .bd (g := fun (y : List UInt8) => ((A.sl 4 0 y.length false), [(hk28_1 v51), hk12_1, Blk.box [(A.ptr 1 0)], (hk28_1 v52), Blk.row false 1 (List.map c8 y), (hk12_5 y55), (hk12_5 y55)])) (app_row (e := 5) (es := 1) (by_ := 1) (z := [(uA 0)]) (by kernel_rfl) (by kernel_rfl) (by kernel_rfl) (by kernel_rfl) rfl (by decide) (by decide) (by kernel_rfl) (f := c8) (fun _ => rfl) ce_c8 (l := v53) (l2 := [(1 : UInt8)]) (b := 4) rfl (by decide) (els_imm (f := c8) ([(1 : UInt8)] : List UInt8) _ _)) fun y58 => ?_
    refine .cT (by kernel_rfl) ?_
    refine .s (A.ptr 6 1) ?_
    refine .cT (by kernel_rfl) ?_
    refine .s (iA y55.N) ?_
    refine .bd (g := fun (y : Int) => (A.v (.int .u64 y))) (h39 y55.N) fun y59 => ?_
    refine .cl ((evCall_in lt_38).trans (e38 C (evCall (cx C) (n+5)) (evCallY (cx C) (n+5)) (n+5) _ _ _ _)) ?_
    refine .as (T12_38_0c C n h16 h39 ([]) v51 v52 y55 y55 _ _ _ _ ?_ _ y59 y58)
    ·intro y70 y71 j72
     refine .un rfl ?_
     refine .cT (by kernel_rfl) ?_
     refine .st (v := (uA (wr .u8 (y70)))) (aConvert_int (hs := by kernel_rfl) (hd := by kernel_rfl) ..) ?_
     refine .gd fun hg => ?_
     refine .st (v := (A.imm [[(uA (((UInt8.ofNat (Int.toNat (wr .u8 (y70)))).toNat : Int)))]] true)) (by rw [u8_back hg]; kernel_rfl) ?_
     refine .bd (g := fun (y : List UInt8) => ((A.sl 4 0 y.length false), [(hk28_1 v51), hk12_1, Blk.box [(A.ptr 1 0)], (hk28_1 v52), Blk.row false 1 (List.map c8 y), (hk12_5 y55), (hk12_5 y55)])) (app_row (e := 5) (es := 1) (by_ := 1) (z := [(uA 0)]) (by kernel_rfl) (by kernel_rfl) (by kernel_rfl) (by kernel_rfl) rfl (by decide) (by decide) (by kernel_rfl) (f := c8) (fun _ => rfl) ce_c8 (l := y71) (l2 := [(UInt8.ofNat (Int.toNat (wr .u8 (y70))))]) (b := 4) rfl (by decide) (els_imm (f := c8) ([(UInt8.ofNat (Int.toNat (wr .u8 (y70))))] : List UInt8) _ _)) fun y73 => ?_
     refine .cr ?_
     refine .ok ?_
     refine .cr ?_
     refine .ok ?_
     refine .st (v := (iA (wr .i64 (v50 + 1)))) (aBin_add ..) ?_
     refine .st (v := [(hk28_1 v51), hk12_1, Blk.box [(A.ptr 1 0)], (hk28_1 v52), Blk.row false 1 (List.map c8 y73)]) ((by kernel_rfl : _ = (bif ((((underss 5 (List.map c_S_Value v51.L)) && true)) && ((((underss 5 (List.map c_S_Value v52.L)) && true)) && ((underss 5 (List.map c8 y73)) && true))) then some [(hk28_1 v51), hk12_1, Blk.box [(A.ptr 1 0)], (hk28_1 v52), Blk.row false 1 (List.map c8 y73)] else none)).trans (by simp only [un0, unS])) ?_
     refine .cT ((by kernel_rfl : _ = (bif underss 5 (List.map c8 v47) then (bif underss 5 (List.map c_S_Value v48) then true else false) else false)).trans (by simp only [un0, unS])) ?_
     exact ih _ _
   refine .sp (fun hb74 => ?_) (fun _ => ?_)
   ·refine .st (v := (A.ptr 1 2)) (by rw [of_decide_eq_true hb74]; kernel_rfl) ?_
    refine .s (A.ptr 1 2) (.s (A.fn (Fn.func 40) [] []) (.s (A.agg [(iA y55.Kind), (iA y55.N), (A.v (Value.string y55.S)), (A.imm (List.map c_S_Value y55.L) false)]) ?_))
    refine .dC (by kernel_rfl) (by kernel_rfl) ?_
    refine .cl ((evCall_in lt_40).trans (e40 C (evCall (cx C) (n+6)) (evCallY (cx C) (n+6)) (n+6) _ _ _ _)) ?_
    refine .s ((A.ptr 6 0), [(hk28_1 v51), hk12_1, Blk.box [(A.ptr 1 0)], (hk28_1 v52), Blk.row false 1 (List.map c8 v53), (hk12_5 y55), (hk12_5 y55)]) (.s ((A.ip [(iA y55.Kind), (iA y55.N), (A.v (Value.string y55.S)), (A.imm (List.map c_S_Value y55.L) false)]), [(hk28_1 v51), hk12_1, Blk.box [(A.ptr 1 0)], (hk28_1 v52), Blk.row false 1 (List.map c8 v53), (hk12_5 y55), Blk.dead]) ?_)
    refine .cT (by kernel_rfl) ?_
    refine .s (A.imm [[(uA 2)]] true) (.s (A.ip [(A.v (Value.string y55.S)), (A.imm (List.map c_S_Value y55.L) false)]) (.s (A.v (Value.string y55.S)) (.s (iA ((y55.S.size : Int))) ?_)))
    refine .st (v := (A.v (.int .u64 (wr .u64 ((y55.S.size : Int)))))) (aConvert_int (hs := by kernel_rfl) (hd := by kernel_rfl) ..) ?_
    refine .s (A.ip [(A.v (Value.string y55.S)), (A.imm (List.map c_S_Value y55.L) false)]) (.s (A.v (Value.string y55.S)) ?_)
    refine .cT (by kernel_rfl) ?_
    refine .bd (g := fun (y : List UInt8) => ((A.sl 4 0 y.length false), [(hk28_1 v51), hk12_1, Blk.box [(A.ptr 1 0)], (hk28_1 v52), Blk.row false 1 (List.map c8 y), (hk12_5 y55), Blk.dead])) (app_row (e := 5) (es := 1) (by_ := 1) (z := [(uA 0)]) (by kernel_rfl) (by kernel_rfl) (by kernel_rfl) (by kernel_rfl) rfl (by decide) (by decide) (by kernel_rfl) (f := c8) (fun _ => rfl) ce_c8 (l := v53) (l2 := [(2 : UInt8)]) (b := 4) rfl (by decide) (els_imm (f := c8) ([(2 : UInt8)] : List UInt8) _ _)) fun y75 => ?_
    refine .cT (by kernel_rfl) ?_
    refine .cl ((evCall_in lt_38).trans (e38 C (evCall (cx C) (n+5)) (evCallY (cx C) (n+5)) (n+5) _ _ _ _)) ?_
    refine .as (T12_38_0d C n h16 h39 ([]) v51 v52 y55 _ _ _ _ ?_ _ (wr .u64 ((y55.S.size : Int))) y75)
    ·intro y85 y86 j87
     refine .un rfl ?_
     refine .cT (by kernel_rfl) ?_
     refine .st (v := (uA (wr .u8 (y85)))) (aConvert_int (hs := by kernel_rfl) (hd := by kernel_rfl) ..) ?_
     refine .gd fun hg => ?_
     refine .st (v := (A.imm [[(uA (((UInt8.ofNat (Int.toNat (wr .u8 (y85)))).toNat : Int)))]] true)) (by rw [u8_back hg]; kernel_rfl) ?_
     refine .bd (g := fun (y : List UInt8) => ((A.sl 4 0 y.length false), [(hk28_1 v51), hk12_1, Blk.box [(A.ptr 1 0)], (hk28_1 v52), Blk.row false 1 (List.map c8 y), (hk12_5 y55), Blk.dead])) (app_row (e := 5) (es := 1) (by_ := 1) (z := [(uA 0)]) (by kernel_rfl) (by kernel_rfl) (by kernel_rfl) (by kernel_rfl) rfl (by decide) (by decide) (by kernel_rfl) (f := c8) (fun _ => rfl) ce_c8 (l := y86) (l2 := [(UInt8.ofNat (Int.toNat (wr .u8 (y85))))]) (b := 4) rfl (by decide) (els_imm (f := c8) ([(UInt8.ofNat (Int.toNat (wr .u8 (y85))))] : List UInt8) _ _)) fun y88 => ?_
     refine .cr ?_
     refine .ok ?_
     refine .bd (g := fun (y : List UInt8) => ((A.sl 4 0 y.length false), [(hk28_1 v51), hk12_1, Blk.box [(A.ptr 1 0)], (hk28_1 v52), Blk.row false 1 (List.map c8 y), (hk12_5 y55), Blk.dead])) (app_row (e := 5) (es := 1) (by_ := 1) (z := [(uA 0)]) (by kernel_rfl) (by kernel_rfl) (by kernel_rfl) (by kernel_rfl) rfl (by decide) (by decide) (by kernel_rfl) (f := c8) (fun _ => rfl) ce_c8 (l := y88) (l2 := bstrL y55.S) (b := 4) rfl (by decide) (els_str ..)) fun y89 => ?_
     refine .cr ?_
     refine .ok ?_
     refine .st (v := (iA (wr .i64 (v50 + 1)))) (aBin_add ..) ?_
     refine .st (v := [(hk28_1 v51), hk12_1, Blk.box [(A.ptr 1 0)], (hk28_1 v52), Blk.row false 1 (List.map c8 y89)]) ((by kernel_rfl : _ = (bif ((((underss 5 (List.map c_S_Value v51.L)) && true)) && ((((underss 5 (List.map c_S_Value v52.L)) && true)) && ((underss 5 (List.map c8 y89)) && true))) then some [(hk28_1 v51), hk12_1, Blk.box [(A.ptr 1 0)], (hk28_1 v52), Blk.row false 1 (List.map c8 y89)] else none)).trans (by simp only [un0, unS])) ?_
     refine .cT ((by kernel_rfl : _ = (bif underss 5 (List.map c8 v47) then (bif underss 5 (List.map c_S_Value v48) then true else false) else false)).trans (by simp only [un0, unS])) ?_
     exact ih _ _
   refine .sp (fun hb90 => ?_) (fun _ => ?_)
   ·refine .st (v := (A.ptr 1 3)) (by rw [of_decide_eq_true hb90]; kernel_rfl) ?_
    refine .s (A.ptr 1 3) (.s (A.fn (Fn.func 41) [] [(A.ptr 2 0)]) (.s (A.agg [(iA y55.Kind), (iA y55.N), (A.v (Value.string y55.S)), (A.imm (List.map c_S_Value y55.L) false)]) ?_))
    refine .dC (by kernel_rfl) (by kernel_rfl) ?_
    refine .bg (fun (t : R) (y : (List UInt8)) => t = (Out.ret (A.sl 4 0 y.length false), [(hk28_1 v51), hk12_1, Blk.box [(A.ptr 1 0)], (hk28_1 v52), Blk.row false 1 (List.map c8 y), (hk12_5 y55)])) (HW41 C h39 (n+7) v51 v52 v53 y55 [(hk12_5 y55)]) ?_
    rintro _ y91 rfl
    refine .ok ?_
    refine .st (v := (iA (wr .i64 (v50 + 1)))) (aBin_add ..) ?_
    refine .st (v := [(hk28_1 v51), hk12_1, Blk.box [(A.ptr 1 0)], (hk28_1 v52), Blk.row false 1 (List.map c8 y91)]) ((by kernel_rfl : _ = (bif ((((underss 5 (List.map c_S_Value v51.L)) && true)) && ((((underss 5 (List.map c_S_Value v52.L)) && true)) && ((underss 5 (List.map c8 y91)) && true))) then some [(hk28_1 v51), hk12_1, Blk.box [(A.ptr 1 0)], (hk28_1 v52), Blk.row false 1 (List.map c8 y91)] else none)).trans (by simp only [un0, unS])) ?_
    refine .cT ((by kernel_rfl : _ = (bif underss 5 (List.map c8 v47) then (bif underss 5 (List.map c_S_Value v48) then true else false) else false)).trans (by simp only [un0, unS])) ?_
    exact ih _ _
   exact .nn
  exact .ex (x0 _ _ _ _ _ _)
def F12 (n : Nat) (a0 : S_Value) : Option ((List UInt8) × Int) :=
 (G16 a0).bind fun y1 => bif (y1 != 0) then (some (([], y1))) else (bif decide (a0.Kind = 0) then (none) else bif decide (a0.Kind = 1) then ((appI 1 ([]) ([(1 : UInt8)])).bind fun y5 => (G39 a0.N).bind fun y6 => (F12_38_0 n ([]) a0 a0 (n+6) y6 y5).bind fun o14 => match o14 with | (y15, y16) => bif (decide (0 <= (wr .u8 (y15))) && decide ((wr .u8 (y15)) < 256)) then ((appI 1 y16 ([(UInt8.ofNat (Int.toNat (wr .u8 (y15))))])).bind fun y18 => some ((y18, 0))) else none) else bif decide (a0.Kind = 2) then ((appI 1 ([]) ([(2 : UInt8)])).bind fun y20 => (F12_38_0a n ([]) a0 (n+6) (wr .u64 ((a0.S.size : Int))) y20).bind fun o27 => match o27 with | (y28, y29) => bif (decide (0 <= (wr .u8 (y28))) && decide ((wr .u8 (y28)) < 256)) then ((appI 1 y29 ([(UInt8.ofNat (Int.toNat (wr .u8 (y28))))])).bind fun y31 => (appI 1 y31 (bstrL a0.S)).bind fun y32 => some ((y32, 0))) else none) else bif decide (a0.Kind = 3) then ((appI 1 ([]) ([(3 : UInt8)])).bind fun y34 => (F12_38_0 n ([]) a0 a0 (n+6) (wr .u64 ((a0.L.length : Int))) y34).bind fun o42 => match o42 with | (y43, y44) => bif (decide (0 <= (wr .u8 (y43))) && decide ((wr .u8 (y43)) < 256)) then ((appI 1 y44 ([(UInt8.ofNat (Int.toNat (wr .u8 (y43))))])).bind fun y46 => (F12_41_0 n ([]) a0.L ((a0.L.length : Int)) a0 a0 (n+7) 0 y46).bind fun o92 => match o92 with | y93 => some ((y93, 0))) else none) else none)
theorem T12 (C : Nat -> List A -> Option A) (n : Nat) (h16 : Orc16 C) (h39 : Orc39 C) (a0 : S_Value) : J (fun (o : R) y => ∃ v, o.1 = .ret v /\ snapE o.2 v = (A.tup [(A.imm (List.map c8 y.1) false), (iA y.2)])) (evCall1 (cx C) (ec C n 8) (ey C n 8) (n+8) 12 [(A.agg [(iA a0.Kind), (iA a0.N), (A.v (Value.string a0.S)), (A.imm (List.map c_S_Value a0.L) false)])] [] 0) some (F12 n a0) some := by
 refine .lp (e12 ..) ?_
 unfold F12
 refine .s ((A.ptr 0 0), [(hk12_2 a0)]) (.s (A.agg [(iA a0.Kind), (iA a0.N), (A.v (Value.string a0.S)), (A.imm (List.map c_S_Value a0.L) false)]) ?_)
 refine .bd (g := fun (y : Int) => (iA y)) (by show C 16 [snap _ (A.agg [(iA a0.Kind), (iA a0.N), (A.v (Value.string a0.S)), (A.imm (List.map c_S_Value a0.L) false)])] = _; simp only [sn0, snM]; exact h16 a0) fun y1 => ?_
 refine .st (v := (bA (y1 != 0))) (aBin_neq ..) ?_
 refine .biHN (fun hk2 => ?_) (fun hk2 => ?_)
 ·exact .lf rfl rfl ⟨_, rfl, by show snapE _ (A.tup [(A.imm [] true), (iA y1)]) = _; first | (simp only [sn0, snM, snapE]; done) | (simp only [sn0, snS, snapE]; first | done | rfl)⟩
 refine .s (A.ptr 0 0) (.s (iA a0.Kind) (.s (A.agg [(iA a0.Kind), (iA a0.N), (A.v (Value.string a0.S)), (A.imm (List.map c_S_Value a0.L) false)]) ?_))
 refine .cT (by kernel_rfl) ?_
 refine .cl ((evCall_in lt_26).trans (e26 C (ec C n 7) (ey C n 7) (n+7) _ _)) ?_
 refine .s (A.agg [(A.v Value.nilFunc), (A.v Value.nilFunc), (A.v Value.nilFunc), (A.v Value.nilFunc)]) (.s ((A.ptr 1 0), [(hk12_2 a0), Blk.box [(A.v Value.nilFunc), (A.v Value.nilFunc), (A.v Value.nilFunc), (A.v Value.nilFunc)]]) (.s ((A.ptr 2 0), [(hk12_2 a0), Blk.box [(A.v Value.nilFunc), (A.v Value.nilFunc), (A.v Value.nilFunc), (A.v Value.nilFunc)], Blk.box [(A.v (Value.pointer none))]]) (.s [(hk12_2 a0), Blk.box [(A.v Value.nilFunc), (A.v Value.nilFunc), (A.v Value.nilFunc), (A.v Value.nilFunc)], Blk.box [(A.ptr 1 0)]] (.s (A.ptr 1 0) (.s (A.ptr 1 0) (.s (A.ptr 1 1) (.s (A.ptr 1 1) (.s [(hk12_2 a0), Blk.box [(A.v Value.nilFunc), (A.fn (Fn.func 37) [] []), (A.v Value.nilFunc), (A.v Value.nilFunc)], Blk.box [(A.ptr 1 0)]] (.s (A.ptr 1 0) (.s (A.ptr 1 0) (.s (A.ptr 1 2) (.s (A.ptr 1 2) ?_))))))))))))
 refine .s [(hk12_2 a0), Blk.box [(A.v Value.nilFunc), (A.fn (Fn.func 37) [] []), (A.fn (Fn.func 40) [] []), (A.v Value.nilFunc)], Blk.box [(A.ptr 1 0)]] (.s (A.ptr 1 0) (.s (A.ptr 1 0) (.s (A.ptr 1 3) (.s (A.ptr 1 3) (.s [(hk12_2 a0), hk12_1, Blk.box [(A.ptr 1 0)]] (.s (A.ptr 1 0) ?_))))))
 refine .cr ?_
 refine .ok ?_
 refine .s (A.ptr 1 0) ?_
 refine .sp (fun hb3 => ?_) (fun _ => ?_)
 ·refine .st (v := (A.ptr 1 0)) (by rw [of_decide_eq_true hb3]; kernel_rfl) ?_
  refine .s (A.ptr 1 0) (.s (A.v Value.nilFunc) ?_)
  exact .nn
 refine .sp (fun hb4 => ?_) (fun _ => ?_)
 ·refine .st (v := (A.ptr 1 1)) (by rw [of_decide_eq_true hb4]; kernel_rfl) ?_
  refine .s (A.ptr 1 1) (.s (A.fn (Fn.func 37) [] []) ?_)
  refine .dC (by kernel_rfl) (by kernel_rfl) ?_
  refine .cl ((evCall_in lt_37).trans (e37 C (ec C n 7) (ey C n 7) (n+7) _ _ _ _)) ?_
  refine .s ((A.ptr 3 0), [(hk12_2 a0), hk12_1, Blk.box [(A.ptr 1 0)], (hk12_2 a0)]) (.s (A.imm [[(uA 1)]] true) ?_)
  refine .bd (g := fun (y : List UInt8) => ((A.sl 4 0 y.length false), [(hk12_2 a0), hk12_1, Blk.box [(A.ptr 1 0)], (hk12_2 a0), Blk.row false 1 (List.map c8 y)])) (app_imm (e := 5) (es := 1) (by_ := 1) (z := [(uA 0)]) (by kernel_rfl) (by kernel_rfl) (by kernel_rfl) (by kernel_rfl) rfl (by decide) (by decide) (by kernel_rfl) (f := c8) (fun _ => rfl) ce_c8 (l := []) (l2 := [(1 : UInt8)]) (els_imm (f := c8) ([(1 : UInt8)] : List UInt8) _ _)) fun y5 => ?_
  refine .cT (by kernel_rfl) ?_
  refine .s (A.ptr 3 1) ?_
  refine .cT (by kernel_rfl) ?_
  refine .s (iA a0.N) ?_
  refine .bd (g := fun (y : Int) => (A.v (.int .u64 y))) (h39 a0.N) fun y6 => ?_
  refine .cl ((evCall_in lt_38).trans (e38 C (evCall (cx C) (n+6)) (evCallY (cx C) (n+6)) (n+6) _ _ _ _)) ?_
  refine .as (T12_38_0 C n h16 h39 ([]) a0 a0 _ _ _ _ ?_ _ y6 y5)
  ·intro y15 y16 j17
   refine .un rfl ?_
   refine .cT (by kernel_rfl) ?_
   refine .st (v := (uA (wr .u8 (y15)))) (aConvert_int (hs := by kernel_rfl) (hd := by kernel_rfl) ..) ?_
   refine .gd fun hg => ?_
   refine .st (v := (A.imm [[(uA (((UInt8.ofNat (Int.toNat (wr .u8 (y15)))).toNat : Int)))]] true)) (by rw [u8_back hg]; kernel_rfl) ?_
   refine .bd (g := fun (y : List UInt8) => ((A.sl 4 0 y.length false), [(hk12_2 a0), hk12_1, Blk.box [(A.ptr 1 0)], (hk12_2 a0), Blk.row false 1 (List.map c8 y)])) (app_row (e := 5) (es := 1) (by_ := 1) (z := [(uA 0)]) (by kernel_rfl) (by kernel_rfl) (by kernel_rfl) (by kernel_rfl) rfl (by decide) (by decide) (by kernel_rfl) (f := c8) (fun _ => rfl) ce_c8 (l := y16) (l2 := [(UInt8.ofNat (Int.toNat (wr .u8 (y15))))]) (b := 4) rfl (by decide) (els_imm (f := c8) ([(UInt8.ofNat (Int.toNat (wr .u8 (y15))))] : List UInt8) _ _)) fun y18 => ?_
   refine .cr ?_
   refine .ok ?_
   refine .cr ?_
   refine .ok ?_
   exact .lf rfl rfl ⟨_, rfl, by show snapE [(hk12_2 a0), hk12_1, Blk.box [(A.ptr 1 0)], (hk12_2 a0), Blk.row false 1 (List.map c8 y18)] (A.tup [(A.sl 4 0 y18.length false), (iA 0)]) = _; first | (simp only [sn0, snM, snapE, snapGE_row (H := [(hk12_2 a0), hk12_1, Blk.box [(A.ptr 1 0)], (hk12_2 a0), Blk.row false 1 (List.map c8 y18)]) (b := 4) (es := 1) (wr := false) (l := y18) fl_c8 rfl]; done) | (simp only [sn0, snS, snapE, snapGE_row (H := [(hk12_2 a0), hk12_1, Blk.box [(A.ptr 1 0)], (hk12_2 a0), Blk.row false 1 (List.map c8 y18)]) (b := 4) (es := 1) (wr := false) (l := y18) fl_c8 rfl]; first | done | rfl)⟩
 refine .sp (fun hb19 => ?_) (fun _ => ?_)
 ·refine .st (v := (A.ptr 1 2)) (by rw [of_decide_eq_true hb19]; kernel_rfl) ?_
  refine .s (A.ptr 1 2) (.s (A.fn (Fn.func 40) [] []) ?_)
  refine .dC (by kernel_rfl) (by kernel_rfl) ?_
  refine .cl ((evCall_in lt_40).trans (e40 C (ec C n 7) (ey C n 7) (n+7) _ _ _ _)) ?_
  refine .s ((A.ptr 3 0), [(hk12_2 a0), hk12_1, Blk.box [(A.ptr 1 0)], (hk12_2 a0)]) (.s ((A.ip [(iA a0.Kind), (iA a0.N), (A.v (Value.string a0.S)), (A.imm (List.map c_S_Value a0.L) false)]), [(hk12_2 a0), hk12_1, Blk.box [(A.ptr 1 0)], Blk.dead]) ?_)
  refine .cT (by kernel_rfl) ?_
  refine .s (A.imm [[(uA 2)]] true) (.s (A.ip [(A.v (Value.string a0.S)), (A.imm (List.map c_S_Value a0.L) false)]) (.s (A.v (Value.string a0.S)) (.s (iA ((a0.S.size : Int))) ?_)))
  refine .st (v := (A.v (.int .u64 (wr .u64 ((a0.S.size : Int)))))) (aConvert_int (hs := by kernel_rfl) (hd := by kernel_rfl) ..) ?_
  refine .s (A.ip [(A.v (Value.string a0.S)), (A.imm (List.map c_S_Value a0.L) false)]) (.s (A.v (Value.string a0.S)) ?_)
  refine .cT (by kernel_rfl) ?_
  refine .bd (g := fun (y : List UInt8) => ((A.sl 4 0 y.length false), [(hk12_2 a0), hk12_1, Blk.box [(A.ptr 1 0)], Blk.dead, Blk.row false 1 (List.map c8 y)])) (app_imm (e := 5) (es := 1) (by_ := 1) (z := [(uA 0)]) (by kernel_rfl) (by kernel_rfl) (by kernel_rfl) (by kernel_rfl) rfl (by decide) (by decide) (by kernel_rfl) (f := c8) (fun _ => rfl) ce_c8 (l := []) (l2 := [(2 : UInt8)]) (els_imm (f := c8) ([(2 : UInt8)] : List UInt8) _ _)) fun y20 => ?_
  refine .cT (by kernel_rfl) ?_
  refine .cl ((evCall_in lt_38).trans (e38 C (evCall (cx C) (n+6)) (evCallY (cx C) (n+6)) (n+6) _ _ _ _)) ?_
  refine .as (T12_38_0a C n h16 h39 ([]) a0 _ _ _ _ ?_ _ (wr .u64 ((a0.S.size : Int))) y20)
  ·intro y28 y29 j30
   refine .un rfl ?_
   refine .cT (by kernel_rfl) ?_
   refine .st (v := (uA (wr .u8 (y28)))) (aConvert_int (hs := by kernel_rfl) (hd := by kernel_rfl) ..) ?_
   refine .gd fun hg => ?_
   refine .st (v := (A.imm [[(uA (((UInt8.ofNat (Int.toNat (wr .u8 (y28)))).toNat : Int)))]] true)) (by rw [u8_back hg]; kernel_rfl) ?_
   refine .bd (g := fun (y : List UInt8) => ((A.sl 4 0 y.length false), [(hk12_2 a0), hk12_1, Blk.box [(A.ptr 1 0)], Blk.dead, Blk.row false 1 (List.map c8 y)])) (app_row (e := 5) (es := 1) (by_ := 1) (z := [(uA 0)]) (by kernel_rfl) (by kernel_rfl) (by kernel_rfl) (by kernel_rfl) rfl (by decide) (by decide) (by kernel_rfl) (f := c8) (fun _ => rfl) ce_c8 (l := y29) (l2 := [(UInt8.ofNat (Int.toNat (wr .u8 (y28))))]) (b := 4) rfl (by decide) (els_imm (f := c8) ([(UInt8.ofNat (Int.toNat (wr .u8 (y28))))] : List UInt8) _ _)) fun y31 => ?_
   refine .cr ?_
   refine .ok ?_
   refine .bd (g := fun (y : List UInt8) => ((A.sl 4 0 y.length false), [(hk12_2 a0), hk12_1, Blk.box [(A.ptr 1 0)], Blk.dead, Blk.row false 1 (List.map c8 y)])) (app_row (e := 5) (es := 1) (by_ := 1) (z := [(uA 0)]) (by kernel_rfl) (by kernel_rfl) (by kernel_rfl) (by kernel_rfl) rfl (by decide) (by decide) (by kernel_rfl) (f := c8) (fun _ => rfl) ce_c8 (l := y31) (l2 := bstrL a0.S) (b := 4) rfl (by decide) (els_str ..)) fun y32 => ?_
   refine .cr ?_
   refine .ok ?_
   exact .lf rfl rfl ⟨_, rfl, by show snapE [(hk12_2 a0), hk12_1, Blk.box [(A.ptr 1 0)], Blk.dead, Blk.row false 1 (List.map c8 y32)] (A.tup [(A.sl 4 0 y32.length false), (iA 0)]) = _; first | (simp only [sn0, snM, snapE, snapGE_row (H := [(hk12_2 a0), hk12_1, Blk.box [(A.ptr 1 0)], Blk.dead, Blk.row false 1 (List.map c8 y32)]) (b := 4) (es := 1) (wr := false) (l := y32) fl_c8 rfl]; done) | (simp only [sn0, snS, snapE, snapGE_row (H := [(hk12_2 a0), hk12_1, Blk.box [(A.ptr 1 0)], Blk.dead, Blk.row false 1 (List.map c8 y32)]) (b := 4) (es := 1) (wr := false) (l := y32) fl_c8 rfl]; first | done | rfl)⟩
 refine .sp (fun hb33 => ?_) (fun _ => ?_)
 ·refine .st (v := (A.ptr 1 3)) (by rw [of_decide_eq_true hb33]; kernel_rfl) ?_
  refine .s (A.ptr 1 3) (.s (A.fn (Fn.func 41) [] [(A.ptr 2 0)]) ?_)
  refine .dC (by kernel_rfl) (by kernel_rfl) ?_
  refine .cl ((evCall_in lt_41).trans (e41 C (ec C n 7) (ey C n 7) (n+7) _ _ _ _ _)) ?_
  refine .s ((A.ptr 3 0), [(hk12_2 a0), hk12_1, Blk.box [(A.ptr 1 0)], (hk12_2 a0)]) (.s (A.imm [[(uA 3)]] true) ?_)
  refine .bd (g := fun (y : List UInt8) => ((A.sl 4 0 y.length false), [(hk12_2 a0), hk12_1, Blk.box [(A.ptr 1 0)], (hk12_2 a0), Blk.row false 1 (List.map c8 y)])) (app_imm (e := 5) (es := 1) (by_ := 1) (z := [(uA 0)]) (by kernel_rfl) (by kernel_rfl) (by kernel_rfl) (by kernel_rfl) rfl (by decide) (by decide) (by kernel_rfl) (f := c8) (fun _ => rfl) ce_c8 (l := []) (l2 := [(3 : UInt8)]) (els_imm (f := c8) ([(3 : UInt8)] : List UInt8) _ _)) fun y34 => ?_
  refine .cT (by kernel_rfl) ?_
  refine .s (A.ptr 3 3) ?_
  refine .cT (by kernel_rfl) ?_
  refine .s (A.imm (List.map c_S_Value a0.L) false) ?_
  refine .cT (by kernel_rfl) ?_
  refine .st (v := (iA ((a0.L.length : Int)))) (len_imm (e := 24) (h1 := by kernel_rfl) ..) ?_
  refine .cT (by kernel_rfl) ?_
  refine .st (v := (A.v (.int .u64 (wr .u64 ((a0.L.length : Int)))))) (aConvert_int (hs := by kernel_rfl) (hd := by kernel_rfl) ..) ?_
  refine .cl ((evCall_in lt_38).trans (e38 C (evCall (cx C) (n+6)) (evCallY (cx C) (n+6)) (n+6) _ _ _ _)) ?_
  refine .as (T12_38_0 C n h16 h39 ([]) a0 a0 _ _ _ _ ?_ _ (wr .u64 ((a0.L.length : Int))) y34)
  ·intro y43 y44 j45
   refine .un rfl ?_
   refine .cT (by kernel_rfl) ?_
   refine .st (v := (uA (wr .u8 (y43)))) (aConvert_int (hs := by kernel_rfl) (hd := by kernel_rfl) ..) ?_
   refine .gd fun hg => ?_
   refine .st (v := (A.imm [[(uA (((UInt8.ofNat (Int.toNat (wr .u8 (y43)))).toNat : Int)))]] true)) (by rw [u8_back hg]; kernel_rfl) ?_
   refine .bd (g := fun (y : List UInt8) => ((A.sl 4 0 y.length false), [(hk12_2 a0), hk12_1, Blk.box [(A.ptr 1 0)], (hk12_2 a0), Blk.row false 1 (List.map c8 y)])) (app_row (e := 5) (es := 1) (by_ := 1) (z := [(uA 0)]) (by kernel_rfl) (by kernel_rfl) (by kernel_rfl) (by kernel_rfl) rfl (by decide) (by decide) (by kernel_rfl) (f := c8) (fun _ => rfl) ce_c8 (l := y44) (l2 := [(UInt8.ofNat (Int.toNat (wr .u8 (y43))))]) (b := 4) rfl (by decide) (els_imm (f := c8) ([(UInt8.ofNat (Int.toNat (wr .u8 (y43))))] : List UInt8) _ _)) fun y46 => ?_
   refine .cr ?_
   refine .ok ?_
   refine .s (A.ptr 3 3) (.s (A.imm (List.map c_S_Value a0.L) false) ?_)
   refine .st (v := (iA ((a0.L.length : Int)))) (len_imm (e := 24) (h1 := by kernel_rfl) ..) ?_
   refine .as (T12_41_0 C n h16 h39 ([]) a0.L ((a0.L.length : Int)) a0 a0 _ _ _ _ ?_ _ 0 y46)
   ·intro y93 j94 j95 j96 j97 j98
    refine .un rfl ?_
    refine .cT (by kernel_rfl) ?_
    refine .cr ?_
    refine .ok ?_
    exact .lf rfl rfl ⟨_, rfl, by show snapE [(hk12_2 a0), hk12_1, Blk.box [(A.ptr 1 0)], (hk12_2 a0), Blk.row false 1 (List.map c8 y93)] (A.tup [(A.sl 4 0 y93.length false), (iA 0)]) = _; first | (simp only [sn0, snM, snapE, snapGE_row (H := [(hk12_2 a0), hk12_1, Blk.box [(A.ptr 1 0)], (hk12_2 a0), Blk.row false 1 (List.map c8 y93)]) (b := 4) (es := 1) (wr := false) (l := y93) fl_c8 rfl]; done) | (simp only [sn0, snS, snapE, snapGE_row (H := [(hk12_2 a0), hk12_1, Blk.box [(A.ptr 1 0)], (hk12_2 a0), Blk.row false 1 (List.map c8 y93)]) (b := 4) (es := 1) (wr := false) (l := y93) fl_c8 rfl]; first | done | rfl)⟩
 exact .nn
def G12 (a0 : S_Value) : Option ((List UInt8) × Int) := F12 fuel0 a0
def Orc12 (C : Nat -> List A -> Option A) : Prop := ∀ (a0 : S_Value), C 12 [(A.agg [(iA a0.Kind), (iA a0.N), (A.v (Value.string a0.S)), (A.imm (List.map c_S_Value a0.L) false)])] = (G12 a0).map fun y => (A.tup [(A.imm (List.map c8 y.1) false), (iA y.2)])
def F24 (n : Nat) (a0 : ByteArray) : Option S_Value :=
 some ((S_Value.mk 2 0 a0 ([])))
theorem T24 (C : Nat -> List A -> Option A) (n : Nat) (a0 : ByteArray) : J (fun (o : R) y => ∃ v, o.1 = .ret v /\ snapE o.2 v = (A.agg [(iA y.Kind), (iA y.N), (A.v (Value.string y.S)), (A.imm (List.map c_S_Value y.L) false)])) (evCall1 (cx C) (ec C n 8) (ey C n 8) (n+8) 24 [(A.v (Value.string a0))] [] 0) some (F24 n a0) some := by
 refine .lp (e24 ..) ?_
 unfold F24
 refine .s ((A.ptr 0 0), [Blk.box [(iA 0), (iA 0), (A.v (Value.string ByteArray.empty)), (A.imm [] true)]]) (.s (A.agg [(iA 2), (iA 0), (A.v (Value.string a0)), (A.imm [] true)]) (.s [Blk.box [(iA 2), (iA 0), (A.v (Value.string a0)), (A.imm [] true)]] (.s (A.agg [(iA 2), (iA 0), (A.v (Value.string a0)), (A.imm [] true)]) ?_)))
 exact .lf rfl rfl ⟨_, rfl, by show snapE _ (A.agg [(iA 2), (iA 0), (A.v (Value.string a0)), (A.imm [] true)]) = _; first | (simp only [sn0, snM, snapE]; done) | (simp only [sn0, snS, snapE]; first | done | rfl)⟩
def G24 (a0 : ByteArray) : Option S_Value := F24 fuel0 a0
def Orc24 (C : Nat -> List A -> Option A) : Prop := ∀ (a0 : ByteArray), C 24 [(A.v (Value.string a0))] = (G24 a0).map fun y => (A.agg [(iA y.Kind), (iA y.N), (A.v (Value.string y.S)), (A.imm (List.map c_S_Value y.L) false)])
def F22 (n : Nat) (a0 : (List S_Value)) : Option S_Value :=
 some ((S_Value.mk 3 0 ByteArray.empty a0))
theorem T22 (C : Nat -> List A -> Option A) (n : Nat) (a0 : (List S_Value)) : J (fun (o : R) y => ∃ v, o.1 = .ret v /\ snapE o.2 v = (A.agg [(iA y.Kind), (iA y.N), (A.v (Value.string y.S)), (A.imm (List.map c_S_Value y.L) false)])) (evCall1 (cx C) (ec C n 8) (ey C n 8) (n+8) 22 [(A.imm (List.map c_S_Value a0) false)] [] 0) some (F22 n a0) some := by
 refine .lp (e22 ..) ?_
 unfold F22
 refine .s ((A.ptr 0 0), [Blk.box [(iA 0), (iA 0), (A.v (Value.string ByteArray.empty)), (A.imm [] true)]]) (.s (A.agg [(iA 3), (iA 0), (A.v (Value.string ByteArray.empty)), (A.imm (List.map c_S_Value a0) false)]) (.s [Blk.box [(iA 3), (iA 0), (A.v (Value.string ByteArray.empty)), (A.imm (List.map c_S_Value a0) false)]] (.s (A.agg [(iA 3), (iA 0), (A.v (Value.string ByteArray.empty)), (A.imm (List.map c_S_Value a0) false)]) ?_)))
 exact .lf rfl rfl ⟨_, rfl, by show snapE _ (A.agg [(iA 3), (iA 0), (A.v (Value.string ByteArray.empty)), (A.imm (List.map c_S_Value a0) false)]) = _; first | (simp only [sn0, snM, snapE]; done) | (simp only [sn0, snS, snapE]; first | done | rfl)⟩
def G22 (a0 : (List S_Value)) : Option S_Value := F22 fuel0 a0
def Orc22 (C : Nat -> List A -> Option A) : Prop := ∀ (a0 : (List S_Value)), C 22 [(A.imm (List.map c_S_Value a0) false)] = (G22 a0).map fun y => (A.agg [(iA y.Kind), (iA y.N), (A.v (Value.string y.S)), (A.imm (List.map c_S_Value y.L) false)])
def F45 (n : Nat) (a0 : Int) : Option Int :=
 some (xorI .i64 (wr .i64 (shrI .u64 a0 1)) (wr .i64 (0 - (wr .i64 (andI .u64 a0 1)))))
theorem T45 (C : Nat -> List A -> Option A) (n : Nat) (a0 : Int) : J (fun (o : R) y => ∃ v, o.1 = .ret v /\ snapE o.2 v = (iA y)) (evCall1 (cx C) (ec C n 8) (ey C n 8) (n+8) 45 [(A.v (.int .u64 a0))] [] 0) some (F45 n a0) some := by
 refine .lp (e45 ..) ?_
 unfold F45
 refine .st (v := (A.v (.int .u64 (shrI .u64 a0 1)))) (aBin_shr (hb := by decide) ..) ?_
 refine .st (v := (iA (wr .i64 (shrI .u64 a0 1)))) (aConvert_int (hs := by kernel_rfl) (hd := by kernel_rfl) ..) ?_
 refine .st (v := (A.v (.int .u64 (andI .u64 a0 1)))) (aBin_bits_and ..) ?_
 refine .st (v := (iA (wr .i64 (andI .u64 a0 1)))) (aConvert_int (hs := by kernel_rfl) (hd := by kernel_rfl) ..) ?_
 refine .s (iA (wr .i64 (0 - (wr .i64 (andI .u64 a0 1))))) ?_
 refine .st (v := (iA (xorI .i64 (wr .i64 (shrI .u64 a0 1)) (wr .i64 (0 - (wr .i64 (andI .u64 a0 1))))))) (aBin_bits_xor ..) ?_
 exact .lf rfl rfl ⟨_, rfl, rfl⟩
def G45 (a0 : Int) : Option Int := F45 fuel0 a0
def Orc45 (C : Nat -> List A -> Option A) : Prop := ∀ (a0 : Int), C 45 [(A.v (.int .u64 a0))] = (G45 a0).map fun y => (iA y)
def hk32w_1 : Blk := Blk.box [(iA 0), (iA 0), (A.v (Value.string ByteArray.empty)), (A.imm [] true)]
def hk32w_2 (y4 : UInt8) : Blk := Blk.box [(iA (wr .i64 ((y4.toNat : Int)))), (iA 0), (A.v (Value.string ByteArray.empty)), (A.imm [] true)]
def HS32 (C : Nat -> List A -> Option A) (N : Nat) (self : (List UInt8) -> Int -> Option (Bool × S_Value × (List UInt8))) : Prop := ∀ (a2 : (List UInt8)) (a3 : Int) (X : Heap), J (fun (o : R) (y : (Bool × S_Value × (List UInt8))) => o = ((bif y.1 then Out.ret (A.agg [(iA y.2.1.Kind), (iA y.2.1.N), (A.v (Value.string y.2.1.S)), (A.imm (List.map c_S_Value y.2.1.L) false)]) else Out.pan (A.ifc 28 (iA 10))), [hk32w_1, Blk.box [(iA 0)], Blk.box [(A.imm (List.map c8 y.2.2) false)]] ++ X)) (evCall (cx C) N 32 [(A.ptr 2 0), (iA a3)] ([hk32w_1, Blk.box [(iA 0)], Blk.box [(A.imm (List.map c8 a2) false)]] ++ X) 0) some (self a2 a3) some
def F32w_46_0 (self : (List UInt8) -> Int -> Option (Bool × S_Value × (List UInt8))) (n : Nat) (v9 : Int) (v10 : Int) (v11 : ByteArray) : Nat -> Int -> Int -> (List UInt8) -> Option (((List UInt8)) ⊕ (Int × (List UInt8)))
 | 0, _, _, _ => none
 | m + 1, v6, v7, v8 => bif (!(decide (1 <= ((v8.length : Int))))) then (some ((Sum.inl v8))) else ((subI v8 0 1).bind fun y13 => (subI v8 1 ((v8.length : Int))).bind fun y14 => (getI y13 0).bind fun y15 => (bif (v7 == 0) then (some true) else (some (((y15.toNat : Int)) != 0))).bind fun y17 => (bif y17 then ((bif (decide (v7 < 9)) then (some true) else (some (decide (((y15.toNat : Int)) <= 1)))).bind fun y22 => some y22) else (some false)).bind fun y25 => bif (!y25) then (some ((Sum.inl y14))) else (bif decide (0 <= (wr .i64 (7 * v7))) then (bif (decide (((y15.toNat : Int)) < 128)) then (some ((Sum.inr ((orI .u64 v6 (shlI .u64 (wr .u64 (andI .u8 ((y15.toNat : Int)) 127)) (wr .i64 (7 * v7))), y14))))) else (F32w_46_0 self n v9 v10 v11 m (orI .u64 v6 (shlI .u64 (wr .u64 (andI .u8 ((y15.toNat : Int)) 127)) (wr .i64 (7 * v7)))) (wr .i64 (v7 + 1)) y14)) else none))
theorem T32w_46_0 (C : Nat -> List A -> Option A) (n : Nat) (h45 : Orc45 C) (self : (List UInt8) -> Int -> Option (Bool × S_Value × (List UInt8))) (hS : HS32 C (n+8) self) (v9 : Int) (v10 : Int) (v11 : ByteArray) {ρ γ : Type} {φ : ρ -> γ -> Prop} {kL : R -> Option ρ} {K : (((List UInt8)) ⊕ (Int × (List UInt8))) -> Option γ} (kx kg : Nat -> St -> Option R) (kr : St -> Option R) (kp : A -> St -> Option R) (x0 : ∀ (o0 : (List UInt8)) (s0 : A) (s2 : A) (s3 : A), J φ (kp (A.ifc 28 (iA 10)) (St.mk [(0, s0), (2, s2), (3, s3)] [hk32w_1, Blk.box [(iA 0)], Blk.box [(A.imm (List.map c8 o0) false)], Blk.box [(iA v9), (iA v10), (A.v (Value.string v11)), (A.imm [] true)]])) kL (K (Sum.inl o0)) some) (x1 : ∀ (o0 : Int) (o1 : (List UInt8)) (s0 : A) (s3 : A), J φ (kr (St.mk [(0, s0), (2, (A.v (.int .u64 o0))), (3, s3)] [hk32w_1, Blk.box [(iA 0)], Blk.box [(A.imm (List.map c8 o1) false)], Blk.box [(iA v9), (iA v10), (A.v (Value.string v11)), (A.imm [] true)]])) kL (K (Sum.inr ((o0, o1)))) some) :
  ∀ (m : Nat) (v6 : Int) (v7 : Int) (v8 : (List UInt8)), J φ (loopR (cx C) (ec C n 7) (ey C n 7) (n+7) 46 0 0 4 kx kg kr kp m (St.mk [(0, (A.ptr 2 0)), (2, (A.v (.int .u64 v6))), (3, (iA v7))] [hk32w_1, Blk.box [(iA 0)], Blk.box [(A.imm (List.map c8 v8) false)], Blk.box [(iA v9), (iA v10), (A.v (Value.string v11)), (A.imm [] true)]])) kL (F32w_46_0 self n v9 v10 v11 m v6 v7 v8) K := by
 intro m
 induction m with
 | zero => intros; exact .nn
 | succ m ih =>
  intro v6 v7 v8
  refine .lp (e46_0 ..) ?_
  unfold F32w_46_0
  refine .cl ((evCall_in lt_44).trans (e44 C (evCall (cx C) (n+6)) (evCallY (cx C) (n+6)) (n+6) _ _ _ _)) ?_
  refine .s (A.ptr 2 0) (.s (A.ptr 2 0) (.s (A.imm (List.map c8 v8) false) ?_))
  refine .st (v := (iA ((v8.length : Int)))) (len_imm (e := 5) (h1 := by kernel_rfl) ..) ?_
  refine .st (v := (bA (decide (1 <= ((v8.length : Int)))))) (aBin_leq ..) ?_
  refine .cl ((evCall_in lt_33).trans (e33 C (evCall (cx C) (n+5)) (evCallY (cx C) (n+5)) (n+5) _ _ _ _)) ?_
  refine .s (bA (!(decide (1 <= ((v8.length : Int)))))) ?_
  refine .biHN (fun hk12 => ?_) (fun hk12 => ?_)
  ·refine .s (A.ifc 28 (iA 10)) ?_
   refine .pk ?_
   refine .cr ?_
   refine .okP ?_
   refine .cr ?_
   refine .okP ?_
   exact .ex (x0 _ _ _ _)
  refine .cr ?_
  refine .ok ?_
  refine .s (A.ptr 2 0) (.s (A.ptr 2 0) (.s (A.imm (List.map c8 v8) false) ?_))
  refine .bd (g := fun (y : List UInt8) => (A.imm (List.map c8 y) true)) (cut_imm3 (e := 5) (es := 1) (f := c8) (l := v8) (a := 0) (b := 1) (by kernel_rfl) (by kernel_rfl) (fun _ => rfl) (.inl ⟨rfl, rfl⟩)) fun y13 => ?_
  refine .s (A.ptr 2 0) (.s (A.ptr 2 0) (.s (A.imm (List.map c8 v8) false) ?_))
  refine .bd (g := fun (y : List UInt8) => (A.imm (List.map c8 y) false)) (cut_imm (e := 5) (es := 1) (f := c8) (l := v8) (a := 1) (b := (v8.length : Int)) (by kernel_rfl) (by kernel_rfl) (fun _ => rfl) (.inr ⟨_, rfl⟩) (.inl ⟨rfl, rfl⟩)) fun y14 => ?_
  refine .s (A.ptr 2 0) (.s (A.ptr 2 0) (.s [hk32w_1, Blk.box [(iA 0)], Blk.box [(A.imm (List.map c8 y14) false)], Blk.box [(iA v9), (iA v10), (A.v (Value.string v11)), (A.imm [] true)]] ?_))
  refine .cr ?_
  refine .ok ?_
  refine .bd (g := fun (y : UInt8) => A.ip (c8 y)) (idx_imm (e := 5) (es := 1) (h1 := by kernel_rfl) (h2 := by kernel_rfl) (h3 := fun _ => rfl) ..) fun y15 => ?_
  refine .s (uA ((y15.toNat : Int))) ?_
  refine .st (v := (bA (v7 == 0))) (aBin_eql ..) ?_
  refine .bg (fun t (y : Bool) => ∃ j18 j19 : A, t = [(bA y), j18, j19]) ?_ ?_
  ·refine .biH (fun hk16 => ?_) (fun hk16 => ?_)
   ·exact .lg ⟨_, _, rfl⟩
   refine .st (v := (bA (((y15.toNat : Int)) != 0))) (aBin_neq ..) ?_
   exact .lg ⟨_, _, rfl⟩
  rintro _ y17 ⟨j18, j19, rfl⟩
  iterate 3 refine .uc ?_
  refine .bg (fun t (y : Bool) => ∃ j26 j27 j28 j29 j30 j31 : A, t = [(bA y), j26, j27, j28, j29, j30, j31]) ?_ ?_
  ·refine .biH (fun hk20 => ?_) (fun hk20 => ?_)
   ·refine .st (v := (bA (decide (v7 < 9)))) (aBin_lss ..) ?_
    refine .bg (fun t (y : Bool) => ∃ j23 j24 : A, t = [(bA y), j23, j24]) ?_ ?_
    ·refine .biH (fun hk21 => ?_) (fun hk21 => ?_)
     ·exact .lg ⟨_, _, rfl⟩
     refine .st (v := (bA (decide (((y15.toNat : Int)) <= 1)))) (aBin_leq ..) ?_
     exact .lg ⟨_, _, rfl⟩
    rintro _ y22 ⟨j23, j24, rfl⟩
    iterate 3 refine .uc ?_
    exact .lg ⟨_, _, _, _, _, _, rfl⟩
   exact .lg ⟨_, _, _, _, _, _, rfl⟩
  rintro _ y25 ⟨j26, j27, j28, j29, j30, j31, rfl⟩
  iterate 7 refine .uc ?_
  refine .cl ((evCall_in lt_33).trans (e33 C (evCall (cx C) (n+6)) (evCallY (cx C) (n+6)) (n+6) _ _ _ _)) ?_
  refine .s (bA (!y25)) ?_
  refine .biHN (fun hk32 => ?_) (fun hk32 => ?_)
  ·refine .s (A.ifc 28 (iA 10)) ?_
   refine .pk ?_
   refine .cr ?_
   refine .okP ?_
   exact .ex (x0 _ _ _ _)
  refine .cr ?_
  refine .ok ?_
  refine .st (v := (uA (andI .u8 ((y15.toNat : Int)) 127))) (aBin_bits_and ..) ?_
  refine .st (v := (A.v (.int .u64 (wr .u64 (andI .u8 ((y15.toNat : Int)) 127))))) (aConvert_int (hs := by kernel_rfl) (hd := by kernel_rfl) ..) ?_
  refine .st (v := (iA (wr .i64 (7 * v7)))) (aBin_mul ..) ?_
  refine .gd fun hg => ?_
  refine .st (v := (A.v (.int .u64 (shlI .u64 (wr .u64 (andI .u8 ((y15.toNat : Int)) 127)) (wr .i64 (7 * v7)))))) (aBin_shl (hb := of_decide_eq_true hg) ..) ?_
  refine .st (v := (A.v (.int .u64 (orI .u64 v6 (shlI .u64 (wr .u64 (andI .u8 ((y15.toNat : Int)) 127)) (wr .i64 (7 * v7))))))) (aBin_bits_or ..) ?_
  refine .st (v := (bA (decide (((y15.toNat : Int)) < 128)))) (aBin_lss ..) ?_
  refine .biHN (fun hk33 => ?_) (fun hk33 => ?_)
  ·exact .ex (x1 _ _ _ _)
  refine .st (v := (iA (wr .i64 (v7 + 1)))) (aBin_add ..) ?_
  refine .s [hk32w_1, Blk.box [(iA 0)], Blk.box [(A.imm (List.map c8 y14) false)], Blk.box [(iA v9), (iA v10), (A.v (Value.string v11)), (A.imm [] true)]] ?_
  refine .cT (by kernel_rfl) ?_
  exact ih _ _ _
def F32w_46_0a (self : (List UInt8) -> Int -> Option (Bool × S_Value × (List UInt8))) (n : Nat) (v48 : Int) (v49 : Int) (v50 : ByteArray) : Nat -> Int -> Int -> (List UInt8) -> Option (((List UInt8)) ⊕ (Int × (List UInt8)))
 | 0, _, _, _ => none
 | m + 1, v45, v46, v47 => bif (!(decide (1 <= ((v47.length : Int))))) then (some ((Sum.inl v47))) else ((subI v47 0 1).bind fun y52 => (subI v47 1 ((v47.length : Int))).bind fun y53 => (getI y52 0).bind fun y54 => (bif (v46 == 0) then (some true) else (some (((y54.toNat : Int)) != 0))).bind fun y56 => (bif y56 then ((bif (decide (v46 < 9)) then (some true) else (some (decide (((y54.toNat : Int)) <= 1)))).bind fun y61 => some y61) else (some false)).bind fun y64 => bif (!y64) then (some ((Sum.inl y53))) else (bif decide (0 <= (wr .i64 (7 * v46))) then (bif (decide (((y54.toNat : Int)) < 128)) then (some ((Sum.inr ((orI .u64 v45 (shlI .u64 (wr .u64 (andI .u8 ((y54.toNat : Int)) 127)) (wr .i64 (7 * v46))), y53))))) else (F32w_46_0a self n v48 v49 v50 m (orI .u64 v45 (shlI .u64 (wr .u64 (andI .u8 ((y54.toNat : Int)) 127)) (wr .i64 (7 * v46)))) (wr .i64 (v46 + 1)) y53)) else none))
theorem T32w_46_0a (C : Nat -> List A -> Option A) (n : Nat) (h45 : Orc45 C) (self : (List UInt8) -> Int -> Option (Bool × S_Value × (List UInt8))) (hS : HS32 C (n+8) self) (v48 : Int) (v49 : Int) (v50 : ByteArray) {ρ γ : Type} {φ : ρ -> γ -> Prop} {kL : R -> Option ρ} {K : (((List UInt8)) ⊕ (Int × (List UInt8))) -> Option γ} (kx kg : Nat -> St -> Option R) (kr : St -> Option R) (kp : A -> St -> Option R) (x0 : ∀ (o0 : (List UInt8)) (s0 : A) (s2 : A) (s3 : A), J φ (kp (A.ifc 28 (iA 10)) (St.mk [(0, s0), (2, s2), (3, s3)] [hk32w_1, Blk.box [(iA 0)], Blk.box [(A.imm (List.map c8 o0) false)], Blk.box [(iA v48), (iA v49), (A.v (Value.string v50)), (A.imm [] true)]])) kL (K (Sum.inl o0)) some) (x1 : ∀ (o0 : Int) (o1 : (List UInt8)) (s0 : A) (s3 : A), J φ (kr (St.mk [(0, s0), (2, (A.v (.int .u64 o0))), (3, s3)] [hk32w_1, Blk.box [(iA 0)], Blk.box [(A.imm (List.map c8 o1) false)], Blk.box [(iA v48), (iA v49), (A.v (Value.string v50)), (A.imm [] true)]])) kL (K (Sum.inr ((o0, o1)))) some) :
  ∀ (m : Nat) (v45 : Int) (v46 : Int) (v47 : (List UInt8)), J φ (loopR (cx C) (evCall (cx C) (n+6)) (evCallY (cx C) (n+6)) (n+6) 46 0 0 4 kx kg kr kp m (St.mk [(0, (A.ptr 2 0)), (2, (A.v (.int .u64 v45))), (3, (iA v46))] [hk32w_1, Blk.box [(iA 0)], Blk.box [(A.imm (List.map c8 v47) false)], Blk.box [(iA v48), (iA v49), (A.v (Value.string v50)), (A.imm [] true)]])) kL (F32w_46_0a self n v48 v49 v50 m v45 v46 v47) K := by
 intro m
 induction m with
 | zero => intros; exact .nn
 | succ m ih =>
  intro v45 v46 v47
  refine .lp (e46_0 ..) ?_
  unfold F32w_46_0a
  refine .cl ((evCall_in lt_44).trans (e44 C (evCall (cx C) (n+5)) (evCallY (cx C) (n+5)) (n+5) _ _ _ _)) ?_
  refine .s (A.ptr 2 0) (.s (A.ptr 2 0) (.s (A.imm (List.map c8 v47) false) ?_))
  refine .st (v := (iA ((v47.length : Int)))) (len_imm (e := 5) (h1 := by kernel_rfl) ..) ?_
  refine .st (v := (bA (decide (1 <= ((v47.length : Int)))))) (aBin_leq ..) ?_
  refine .cl ((evCall_in lt_33).trans (e33 C (evCall (cx C) (n+4)) (evCallY (cx C) (n+4)) (n+4) _ _ _ _)) ?_
  refine .s (bA (!(decide (1 <= ((v47.length : Int)))))) ?_
  refine .biHN (fun hk51 => ?_) (fun hk51 => ?_)
  ·refine .s (A.ifc 28 (iA 10)) ?_
   refine .pk ?_
   refine .cr ?_
   refine .okP ?_
   refine .cr ?_
   refine .okP ?_
   exact .ex (x0 _ _ _ _)
  refine .cr ?_
  refine .ok ?_
  refine .s (A.ptr 2 0) (.s (A.ptr 2 0) (.s (A.imm (List.map c8 v47) false) ?_))
  refine .bd (g := fun (y : List UInt8) => (A.imm (List.map c8 y) true)) (cut_imm3 (e := 5) (es := 1) (f := c8) (l := v47) (a := 0) (b := 1) (by kernel_rfl) (by kernel_rfl) (fun _ => rfl) (.inl ⟨rfl, rfl⟩)) fun y52 => ?_
  refine .s (A.ptr 2 0) (.s (A.ptr 2 0) (.s (A.imm (List.map c8 v47) false) ?_))
  refine .bd (g := fun (y : List UInt8) => (A.imm (List.map c8 y) false)) (cut_imm (e := 5) (es := 1) (f := c8) (l := v47) (a := 1) (b := (v47.length : Int)) (by kernel_rfl) (by kernel_rfl) (fun _ => rfl) (.inr ⟨_, rfl⟩) (.inl ⟨rfl, rfl⟩)) fun y53 => ?_
  refine .s (A.ptr 2 0) (.s (A.ptr 2 0) (.s [hk32w_1, Blk.box [(iA 0)], Blk.box [(A.imm (List.map c8 y53) false)], Blk.box [(iA v48), (iA v49), (A.v (Value.string v50)), (A.imm [] true)]] ?_))
  refine .cr ?_
  refine .ok ?_
  refine .bd (g := fun (y : UInt8) => A.ip (c8 y)) (idx_imm (e := 5) (es := 1) (h1 := by kernel_rfl) (h2 := by kernel_rfl) (h3 := fun _ => rfl) ..) fun y54 => ?_
  refine .s (uA ((y54.toNat : Int))) ?_
  refine .st (v := (bA (v46 == 0))) (aBin_eql ..) ?_
  refine .bg (fun t (y : Bool) => ∃ j57 j58 : A, t = [(bA y), j57, j58]) ?_ ?_
  ·refine .biH (fun hk55 => ?_) (fun hk55 => ?_)
   ·exact .lg ⟨_, _, rfl⟩
   refine .st (v := (bA (((y54.toNat : Int)) != 0))) (aBin_neq ..) ?_
   exact .lg ⟨_, _, rfl⟩
  rintro _ y56 ⟨j57, j58, rfl⟩
  iterate 3 refine .uc ?_
  refine .bg (fun t (y : Bool) => ∃ j65 j66 j67 j68 j69 j70 : A, t = [(bA y), j65, j66, j67, j68, j69, j70]) ?_ ?_
  ·refine .biH (fun hk59 => ?_) (fun hk59 => ?_)
   ·refine .st (v := (bA (decide (v46 < 9)))) (aBin_lss ..) ?_
    refine .bg (fun t (y : Bool) => ∃ j62 j63 : A, t = [(bA y), j62, j63]) ?_ ?_
    ·refine .biH (fun hk60 => ?_) (fun hk60 => ?_)
     ·exact .lg ⟨_, _, rfl⟩
     refine .st (v := (bA (decide (((y54.toNat : Int)) <= 1)))) (aBin_leq ..) ?_
     exact .lg ⟨_, _, rfl⟩
    rintro _ y61 ⟨j62, j63, rfl⟩
    iterate 3 refine .uc ?_
    exact .lg ⟨_, _, _, _, _, _, rfl⟩
   exact .lg ⟨_, _, _, _, _, _, rfl⟩
  rintro _ y64 ⟨j65, j66, j67, j68, j69, j70, rfl⟩
  iterate 7 refine .uc ?_
  refine .cl ((evCall_in lt_33).trans (e33 C (evCall (cx C) (n+5)) (evCallY (cx C) (n+5)) (n+5) _ _ _ _)) ?_
  refine .s (bA (!y64)) ?_
  refine .biHN (fun hk71 => ?_) (fun hk71 => ?_)
  ·refine .s (A.ifc 28 (iA 10)) ?_
   refine .pk ?_
   refine .cr ?_
   refine .okP ?_
   exact .ex (x0 _ _ _ _)
  refine .cr ?_
  refine .ok ?_
  refine .st (v := (uA (andI .u8 ((y54.toNat : Int)) 127))) (aBin_bits_and ..) ?_
  refine .st (v := (A.v (.int .u64 (wr .u64 (andI .u8 ((y54.toNat : Int)) 127))))) (aConvert_int (hs := by kernel_rfl) (hd := by kernel_rfl) ..) ?_
  refine .st (v := (iA (wr .i64 (7 * v46)))) (aBin_mul ..) ?_
  refine .gd fun hg => ?_
  refine .st (v := (A.v (.int .u64 (shlI .u64 (wr .u64 (andI .u8 ((y54.toNat : Int)) 127)) (wr .i64 (7 * v46)))))) (aBin_shl (hb := of_decide_eq_true hg) ..) ?_
  refine .st (v := (A.v (.int .u64 (orI .u64 v45 (shlI .u64 (wr .u64 (andI .u8 ((y54.toNat : Int)) 127)) (wr .i64 (7 * v46))))))) (aBin_bits_or ..) ?_
  refine .st (v := (bA (decide (((y54.toNat : Int)) < 128)))) (aBin_lss ..) ?_
  refine .biHN (fun hk72 => ?_) (fun hk72 => ?_)
  ·exact .ex (x1 _ _ _ _)
  refine .st (v := (iA (wr .i64 (v46 + 1)))) (aBin_add ..) ?_
  refine .s [hk32w_1, Blk.box [(iA 0)], Blk.box [(A.imm (List.map c8 y53) false)], Blk.box [(iA v48), (iA v49), (A.v (Value.string v50)), (A.imm [] true)]] ?_
  refine .cT (by kernel_rfl) ?_
  exact ih _ _ _
def F32w_46_0b (self : (List UInt8) -> Int -> Option (Bool × S_Value × (List UInt8))) (n : Nat) (v91 : Int) (v92 : Int) (v93 : ByteArray) : Nat -> Int -> Int -> (List UInt8) -> Option (((List UInt8)) ⊕ (Int × (List UInt8)))
 | 0, _, _, _ => none
 | m + 1, v88, v89, v90 => bif (!(decide (1 <= ((v90.length : Int))))) then (some ((Sum.inl v90))) else ((subI v90 0 1).bind fun y95 => (subI v90 1 ((v90.length : Int))).bind fun y96 => (getI y95 0).bind fun y97 => (bif (v89 == 0) then (some true) else (some (((y97.toNat : Int)) != 0))).bind fun y99 => (bif y99 then ((bif (decide (v89 < 9)) then (some true) else (some (decide (((y97.toNat : Int)) <= 1)))).bind fun y104 => some y104) else (some false)).bind fun y107 => bif (!y107) then (some ((Sum.inl y96))) else (bif decide (0 <= (wr .i64 (7 * v89))) then (bif (decide (((y97.toNat : Int)) < 128)) then (some ((Sum.inr ((orI .u64 v88 (shlI .u64 (wr .u64 (andI .u8 ((y97.toNat : Int)) 127)) (wr .i64 (7 * v89))), y96))))) else (F32w_46_0b self n v91 v92 v93 m (orI .u64 v88 (shlI .u64 (wr .u64 (andI .u8 ((y97.toNat : Int)) 127)) (wr .i64 (7 * v89)))) (wr .i64 (v89 + 1)) y96)) else none))
theorem T32w_46_0b (C : Nat -> List A -> Option A) (n : Nat) (h45 : Orc45 C) (self : (List UInt8) -> Int -> Option (Bool × S_Value × (List UInt8))) (hS : HS32 C (n+8) self) (v91 : Int) (v92 : Int) (v93 : ByteArray) {ρ γ : Type} {φ : ρ -> γ -> Prop} {kL : R -> Option ρ} {K : (((List UInt8)) ⊕ (Int × (List UInt8))) -> Option γ} (kx kg : Nat -> St -> Option R) (kr : St -> Option R) (kp : A -> St -> Option R) (x0 : ∀ (o0 : (List UInt8)) (s0 : A) (s2 : A) (s3 : A), J φ (kp (A.ifc 28 (iA 10)) (St.mk [(0, s0), (2, s2), (3, s3)] [hk32w_1, Blk.box [(iA 0)], Blk.box [(A.imm (List.map c8 o0) false)], Blk.box [(iA v91), (iA v92), (A.v (Value.string v93)), (A.imm [] true)]])) kL (K (Sum.inl o0)) some) (x1 : ∀ (o0 : Int) (o1 : (List UInt8)) (s0 : A) (s3 : A), J φ (kr (St.mk [(0, s0), (2, (A.v (.int .u64 o0))), (3, s3)] [hk32w_1, Blk.box [(iA 0)], Blk.box [(A.imm (List.map c8 o1) false)], Blk.box [(iA v91), (iA v92), (A.v (Value.string v93)), (A.imm [] true)]])) kL (K (Sum.inr ((o0, o1)))) some) :
  ∀ (m : Nat) (v88 : Int) (v89 : Int) (v90 : (List UInt8)), J φ (loopR (cx C) (evCall (cx C) (n+6)) (evCallY (cx C) (n+6)) (n+6) 46 0 0 4 kx kg kr kp m (St.mk [(0, (A.ptr 2 0)), (2, (A.v (.int .u64 v88))), (3, (iA v89))] [hk32w_1, Blk.box [(iA 0)], Blk.box [(A.imm (List.map c8 v90) false)], Blk.box [(iA v91), (iA v92), (A.v (Value.string v93)), (A.imm [] true)]])) kL (F32w_46_0b self n v91 v92 v93 m v88 v89 v90) K := by
 intro m
 induction m with
 | zero => intros; exact .nn
 | succ m ih =>
  intro v88 v89 v90
  refine .lp (e46_0 ..) ?_
  unfold F32w_46_0b
  refine .cl ((evCall_in lt_44).trans (e44 C (evCall (cx C) (n+5)) (evCallY (cx C) (n+5)) (n+5) _ _ _ _)) ?_
  refine .s (A.ptr 2 0) (.s (A.ptr 2 0) (.s (A.imm (List.map c8 v90) false) ?_))
  refine .st (v := (iA ((v90.length : Int)))) (len_imm (e := 5) (h1 := by kernel_rfl) ..) ?_
  refine .st (v := (bA (decide (1 <= ((v90.length : Int)))))) (aBin_leq ..) ?_
  refine .cl ((evCall_in lt_33).trans (e33 C (evCall (cx C) (n+4)) (evCallY (cx C) (n+4)) (n+4) _ _ _ _)) ?_
  refine .s (bA (!(decide (1 <= ((v90.length : Int)))))) ?_
  refine .biHN (fun hk94 => ?_) (fun hk94 => ?_)
  ·refine .s (A.ifc 28 (iA 10)) ?_
   refine .pk ?_
   refine .cr ?_
   refine .okP ?_
   refine .cr ?_
   refine .okP ?_
   exact .ex (x0 _ _ _ _)
  refine .cr ?_
  refine .ok ?_
  refine .s (A.ptr 2 0) (.s (A.ptr 2 0) (.s (A.imm (List.map c8 v90) false) ?_))
  refine .bd (g := fun (y : List UInt8) => (A.imm (List.map c8 y) true)) (cut_imm3 (e := 5) (es := 1) (f := c8) (l := v90) (a := 0) (b := 1) (by kernel_rfl) (by kernel_rfl) (fun _ => rfl) (.inl ⟨rfl, rfl⟩)) fun y95 => ?_
  refine .s (A.ptr 2 0) (.s (A.ptr 2 0) (.s (A.imm (List.map c8 v90) false) ?_))
  refine .bd (g := fun (y : List UInt8) => (A.imm (List.map c8 y) false)) (cut_imm (e := 5) (es := 1) (f := c8) (l := v90) (a := 1) (b := (v90.length : Int)) (by kernel_rfl) (by kernel_rfl) (fun _ => rfl) (.inr ⟨_, rfl⟩) (.inl ⟨rfl, rfl⟩)) fun y96 => ?_
  refine .s (A.ptr 2 0) (.s (A.ptr 2 0) (.s [hk32w_1, Blk.box [(iA 0)], Blk.box [(A.imm (List.map c8 y96) false)], Blk.box [(iA v91), (iA v92), (A.v (Value.string v93)), (A.imm [] true)]] ?_))
  refine .cr ?_
  refine .ok ?_
  refine .bd (g := fun (y : UInt8) => A.ip (c8 y)) (idx_imm (e := 5) (es := 1) (h1 := by kernel_rfl) (h2 := by kernel_rfl) (h3 := fun _ => rfl) ..) fun y97 => ?_
  refine .s (uA ((y97.toNat : Int))) ?_
  refine .st (v := (bA (v89 == 0))) (aBin_eql ..) ?_
  refine .bg (fun t (y : Bool) => ∃ j100 j101 : A, t = [(bA y), j100, j101]) ?_ ?_
  ·refine .biH (fun hk98 => ?_) (fun hk98 => ?_)
   ·exact .lg ⟨_, _, rfl⟩
   refine .st (v := (bA (((y97.toNat : Int)) != 0))) (aBin_neq ..) ?_
   exact .lg ⟨_, _, rfl⟩
  rintro _ y99 ⟨j100, j101, rfl⟩
  iterate 3 refine .uc ?_
  refine .bg (fun t (y : Bool) => ∃ j108 j109 j110 j111 j112 j113 : A, t = [(bA y), j108, j109, j110, j111, j112, j113]) ?_ ?_
  ·refine .biH (fun hk102 => ?_) (fun hk102 => ?_)
   ·refine .st (v := (bA (decide (v89 < 9)))) (aBin_lss ..) ?_
    refine .bg (fun t (y : Bool) => ∃ j105 j106 : A, t = [(bA y), j105, j106]) ?_ ?_
    ·refine .biH (fun hk103 => ?_) (fun hk103 => ?_)
     ·exact .lg ⟨_, _, rfl⟩
     refine .st (v := (bA (decide (((y97.toNat : Int)) <= 1)))) (aBin_leq ..) ?_
     exact .lg ⟨_, _, rfl⟩
    rintro _ y104 ⟨j105, j106, rfl⟩
    iterate 3 refine .uc ?_
    exact .lg ⟨_, _, _, _, _, _, rfl⟩
   exact .lg ⟨_, _, _, _, _, _, rfl⟩
  rintro _ y107 ⟨j108, j109, j110, j111, j112, j113, rfl⟩
  iterate 7 refine .uc ?_
  refine .cl ((evCall_in lt_33).trans (e33 C (evCall (cx C) (n+5)) (evCallY (cx C) (n+5)) (n+5) _ _ _ _)) ?_
  refine .s (bA (!y107)) ?_
  refine .biHN (fun hk114 => ?_) (fun hk114 => ?_)
  ·refine .s (A.ifc 28 (iA 10)) ?_
   refine .pk ?_
   refine .cr ?_
   refine .okP ?_
   exact .ex (x0 _ _ _ _)
  refine .cr ?_
  refine .ok ?_
  refine .st (v := (uA (andI .u8 ((y97.toNat : Int)) 127))) (aBin_bits_and ..) ?_
  refine .st (v := (A.v (.int .u64 (wr .u64 (andI .u8 ((y97.toNat : Int)) 127))))) (aConvert_int (hs := by kernel_rfl) (hd := by kernel_rfl) ..) ?_
  refine .st (v := (iA (wr .i64 (7 * v89)))) (aBin_mul ..) ?_
  refine .gd fun hg => ?_
  refine .st (v := (A.v (.int .u64 (shlI .u64 (wr .u64 (andI .u8 ((y97.toNat : Int)) 127)) (wr .i64 (7 * v89)))))) (aBin_shl (hb := of_decide_eq_true hg) ..) ?_
  refine .st (v := (A.v (.int .u64 (orI .u64 v88 (shlI .u64 (wr .u64 (andI .u8 ((y97.toNat : Int)) 127)) (wr .i64 (7 * v89))))))) (aBin_bits_or ..) ?_
  refine .st (v := (bA (decide (((y97.toNat : Int)) < 128)))) (aBin_lss ..) ?_
  refine .biHN (fun hk115 => ?_) (fun hk115 => ?_)
  ·exact .ex (x1 _ _ _ _)
  refine .st (v := (iA (wr .i64 (v89 + 1)))) (aBin_add ..) ?_
  refine .s [hk32w_1, Blk.box [(iA 0)], Blk.box [(A.imm (List.map c8 y96) false)], Blk.box [(iA v91), (iA v92), (A.v (Value.string v93)), (A.imm [] true)]] ?_
  refine .cT (by kernel_rfl) ?_
  exact ih _ _ _
def F32w_32_0 (self : (List UInt8) -> Int -> Option (Bool × S_Value × (List UInt8))) (n : Nat) (v126 : Int) (v127 : Int) (v130 : Int) (v131 : Int) (v132 : ByteArray) : Nat -> Int -> (List UInt8) -> (List S_Value) -> Option (((List UInt8) × (List S_Value)) ⊕ ((List UInt8) × (List S_Value)))
 | 0, _, _, _ => none
 | m + 1, v128, v129, v133 => bif (decide (v128 < v127)) then ((self v129 (wr .i64 (v126 + 1))).bind fun y135 => bif y135.1 then ((appI 56 v133 ([y135.2.1])).bind fun y136 => F32w_32_0 self n v126 v127 v130 v131 v132 m (wr .i64 (v128 + 1)) y135.2.2 y136) else (some ((Sum.inl ((y135.2.2, v133)))))) else (some ((Sum.inr ((v129, v133)))))
theorem T32w_32_0 (C : Nat -> List A -> Option A) (n : Nat) (h45 : Orc45 C) (self : (List UInt8) -> Int -> Option (Bool × S_Value × (List UInt8))) (hS : HS32 C (n+8) self) (v126 : Int) (v127 : Int) (v130 : Int) (v131 : Int) (v132 : ByteArray) {ρ γ : Type} {φ : ρ -> γ -> Prop} {kL : R -> Option ρ} {K : (((List UInt8) × (List S_Value)) ⊕ ((List UInt8) × (List S_Value))) -> Option γ} (kx kg : Nat -> St -> Option R) (kr : St -> Option R) (kp : A -> St -> Option R) (x0 : ∀ (o0 : (List UInt8)) (o1 : (List S_Value)) (s0 : A) (s1 : A) (s4 : A) (s36 : A) (s37 : A), J φ (kp (A.ifc 28 (iA 10)) (St.mk [(0, s0), (1, s1), (4, s4), (36, s36), (37, s37)] [hk32w_1, Blk.box [(iA 0)], Blk.box [(A.imm (List.map c8 o0) false)], Blk.box [(iA v130), (iA v131), (A.v (Value.string v132)), (A.sl 4 0 o1.length false)], Blk.row false 4 (List.map c_S_Value o1)])) kL (K (Sum.inl ((o0, o1)))) some) (x1 : ∀ (o0 : (List UInt8)) (o1 : (List S_Value)) (s0 : A) (s1 : A) (s36 : A) (s37 : A), J φ (kx 1 (St.mk [(0, s0), (1, s1), (4, (A.ptr 3 0)), (36, s36), (37, s37)] [hk32w_1, Blk.box [(iA 0)], Blk.box [(A.imm (List.map c8 o0) false)], Blk.box [(iA v130), (iA v131), (A.v (Value.string v132)), (A.sl 4 0 o1.length false)], Blk.row false 4 (List.map c_S_Value o1)])) kL (K (Sum.inr ((o0, o1)))) some) :
  ∀ (m : Nat) (v128 : Int) (v129 : (List UInt8)) (v133 : (List S_Value)), J φ (loopR (cx C) (ec C n 8) (ey C n 8) (n+8) 32 0 0 5 kx kg kr kp m (St.mk [(0, (A.ptr 2 0)), (1, (iA v126)), (4, (A.ptr 3 0)), (36, (iA v127)), (37, (iA v128))] [hk32w_1, Blk.box [(iA 0)], Blk.box [(A.imm (List.map c8 v129) false)], Blk.box [(iA v130), (iA v131), (A.v (Value.string v132)), (A.sl 4 0 v133.length false)], Blk.row false 4 (List.map c_S_Value v133)])) kL (F32w_32_0 self n v126 v127 v130 v131 v132 m v128 v129 v133) K := by
 intro m
 induction m with
 | zero => intros; exact .nn
 | succ m ih =>
  intro v128 v129 v133
  refine .lp (e32_0 ..) ?_
  unfold F32w_32_0
  refine .st (v := (bA (decide (v128 < v127)))) (aBin_lss ..) ?_
  refine .biHN (fun hk134 => ?_) (fun hk134 => ?_)
  ·refine .s (A.ptr 3 3) (.s (A.sl 4 0 v133.length false) ?_)
   refine .st (v := (iA (wr .i64 (v126 + 1)))) (aBin_add ..) ?_
   refine .cT (by kernel_rfl) ?_
   refine .bg (fun (t : Out × Heap) (y : (Bool × S_Value × (List UInt8))) => t = ((bif y.1 then Out.ret (A.agg [(iA y.2.1.Kind), (iA y.2.1.N), (A.v (Value.string y.2.1.S)), (A.imm (List.map c_S_Value y.2.1.L) false)]) else Out.pan (A.ifc 28 (iA 10))), [hk32w_1, Blk.box [(iA 0)], Blk.box [(A.imm (List.map c8 y.2.2) false)], Blk.box [(iA v130), (iA v131), (A.v (Value.string v132)), (A.sl 4 0 v133.length false)], Blk.row false 4 (List.map c_S_Value v133)])) (hS v129 (wr .i64 (v126 + 1)) [Blk.box [(iA v130), (iA v131), (A.v (Value.string v132)), (A.sl 4 0 v133.length false)], Blk.row false 4 (List.map c_S_Value v133)]) ?_
   rintro _ y135 rfl
   refine .ob ?_ ?_
   ·refine .ok ?_
    refine .s (A.imm [[(iA y135.2.1.Kind), (iA y135.2.1.N), (A.v (Value.string y135.2.1.S)), (A.imm (List.map c_S_Value y135.2.1.L) false)]] true) ?_
    refine .bd (g := fun (y : List S_Value) => ((A.sl 4 0 y.length false), [hk32w_1, Blk.box [(iA 0)], Blk.box [(A.imm (List.map c8 y135.2.2) false)], Blk.box [(iA v130), (iA v131), (A.v (Value.string v132)), (A.sl 4 0 v133.length false)], Blk.row false 4 (List.map c_S_Value y)])) (app_row (e := 24) (es := 4) (by_ := 56) (z := [(iA 0), (iA 0), (A.v (Value.string ByteArray.empty)), (A.imm [] true)]) (by kernel_rfl) (by kernel_rfl) (by kernel_rfl) (by kernel_rfl) rfl (by decide) (by decide) (by kernel_rfl) (f := c_S_Value) (fun _ => rfl) ce_S_Value (l := v133) (l2 := [y135.2.1]) (b := 4) rfl (by decide) (els_lit (f := c_S_Value) (l := ([y135.2.1] : List S_Value)) (by simp only [List.map_cons, List.map_nil, cq_S_Value]))) fun y136 => ?_
    refine .s (A.ptr 3 3) (.s [hk32w_1, Blk.box [(iA 0)], Blk.box [(A.imm (List.map c8 y135.2.2) false)], Blk.box [(iA v130), (iA v131), (A.v (Value.string v132)), (A.sl 4 0 y136.length false)], Blk.row false 4 (List.map c_S_Value y136)] ?_)
    refine .st (v := (iA (wr .i64 (v128 + 1)))) (aBin_add ..) ?_
    refine .s [hk32w_1, Blk.box [(iA 0)], Blk.box [(A.imm (List.map c8 y135.2.2) false)], Blk.box [(iA v130), (iA v131), (A.v (Value.string v132)), (A.sl 4 0 y136.length false)], Blk.row false 4 (List.map c_S_Value y136)] ?_
    refine .cT (by kernel_rfl) ?_
    exact ih _ _ _
   refine .okP ?_
   exact .ex (x0 _ _ _ _ _ _ _)
  exact .ex (x1 _ _ _ _ _ _)
def F32w (self : (List UInt8) -> Int -> Option (Bool × S_Value × (List UInt8))) (n : Nat) (a2 : (List UInt8)) (a3 : Int) : Option (Bool × S_Value × (List UInt8)) :=
 bif (!(decide (1 <= ((a2.length : Int))))) then (some ((false, (default : S_Value), a2))) else ((subI a2 0 1).bind fun y2 => (subI a2 1 ((a2.length : Int))).bind fun y3 => (getI y2 0).bind fun y4 => bif ((wr .i64 ((y4.toNat : Int))) == 1) then ((F32w_46_0 self n (wr .i64 ((y4.toNat : Int))) 0 ByteArray.empty (n+7) 0 0 y3).bind fun o34 => match o34 with | (Sum.inl y35) => some ((false, (default : S_Value), y35)) | (Sum.inr ((y39, y40))) => (G45 y39).bind fun y43 => some ((true, (S_Value.mk (wr .i64 ((y4.toNat : Int))) y43 ByteArray.empty ([])), y40))) else (bif ((wr .i64 ((y4.toNat : Int))) == 2) then ((F32w_46_0a self n (wr .i64 ((y4.toNat : Int))) 0 ByteArray.empty (n+6) 0 0 y3).bind fun o73 => match o73 with | (Sum.inl y74) => some ((false, (default : S_Value), y74)) | (Sum.inr ((y78, y79))) => bif (!(decide (y78 <= (wr .u64 ((y79.length : Int)))))) then (some ((false, (default : S_Value), y79))) else (bif (!(decide ((wr .i64 (y78)) <= ((y79.length : Int))))) then (some ((false, (default : S_Value), y79))) else ((subI y79 0 (wr .i64 (y78))).bind fun y84 => (subI y79 (wr .i64 (y78)) ((y79.length : Int))).bind fun y85 => some ((true, (S_Value.mk (wr .i64 ((y4.toNat : Int))) 0 (bstr y84) ([])), y85))))) else (bif ((wr .i64 ((y4.toNat : Int))) == 3) then (bif (!(decide (a3 < 16))) then (some ((false, (default : S_Value), y3))) else ((F32w_46_0b self n (wr .i64 ((y4.toNat : Int))) 0 ByteArray.empty (n+6) 0 0 y3).bind fun o116 => match o116 with | (Sum.inl y117) => some ((false, (default : S_Value), y117)) | (Sum.inr ((y121, y122))) => bif (!(decide (y121 <= (wr .u64 ((y122.length : Int)))))) then (some ((false, (default : S_Value), y122))) else ((F32w_32_0 self n a3 (wr .i64 (y121)) (wr .i64 ((y4.toNat : Int))) 0 ByteArray.empty (n+8) 0 y122 (([] : List S_Value))).bind fun o137 => match o137 with | (Sum.inl ((y138, y139))) => some ((false, (default : S_Value), y138)) | (Sum.inr ((y145, y146))) => some ((true, (S_Value.mk (wr .i64 ((y4.toNat : Int))) 0 ByteArray.empty y146), y145))))) else (some ((false, (default : S_Value), y3))))))
theorem T32w (C : Nat -> List A -> Option A) (n : Nat) (h45 : Orc45 C) (self : (List UInt8) -> Int -> Option (Bool × S_Value × (List UInt8))) (hS : HS32 C (n+8) self) (a2 : (List UInt8)) (a3 : Int) : J (fun (o : R) (y : (Bool × S_Value × (List UInt8))) => ∃ Z, o = ((bif y.1 then Out.ret (A.agg [(iA y.2.1.Kind), (iA y.2.1.N), (A.v (Value.string y.2.1.S)), (A.imm (List.map c_S_Value y.2.1.L) false)]) else Out.pan (A.ifc 28 (iA 10))), [hk32w_1, Blk.box [(iA 0)], Blk.box [(A.imm (List.map c8 y.2.2) false)]] ++ Z)) (evCall1 (cx C) (ec C n 8) (ey C n 8) (n+8) 32 [(A.ptr 2 0), (iA a3)] [hk32w_1, Blk.box [(iA 0)], Blk.box [(A.imm (List.map c8 a2) false)]] 0) some (F32w self n a2 a3) some := by
 refine .lp (e32 ..) ?_
 unfold F32w
 refine .s ((A.ptr 3 0), [hk32w_1, Blk.box [(iA 0)], Blk.box [(A.imm (List.map c8 a2) false)], hk32w_1]) ?_
 refine .cl ((evCall_in lt_44).trans (e44 C (ec C n 7) (ey C n 7) (n+7) _ _ _ _)) ?_
 refine .s (A.ptr 2 0) (.s (A.ptr 2 0) (.s (A.imm (List.map c8 a2) false) ?_))
 refine .st (v := (iA ((a2.length : Int)))) (len_imm (e := 5) (h1 := by kernel_rfl) ..) ?_
 refine .st (v := (bA (decide (1 <= ((a2.length : Int)))))) (aBin_leq ..) ?_
 refine .cl ((evCall_in lt_33).trans (e33 C (evCall (cx C) (n+6)) (evCallY (cx C) (n+6)) (n+6) _ _ _ _)) ?_
 refine .s (bA (!(decide (1 <= ((a2.length : Int)))))) ?_
 refine .biHN (fun hk1 => ?_) (fun hk1 => ?_)
 ·refine .s (A.ifc 28 (iA 10)) ?_
  refine .pk ?_
  refine .cr ?_
  refine .okP ?_
  refine .cr ?_
  refine .okP ?_
  exact .lf rfl rfl ⟨[hk32w_1], rfl⟩
 refine .cr ?_
 refine .ok ?_
 refine .s (A.ptr 2 0) (.s (A.ptr 2 0) (.s (A.imm (List.map c8 a2) false) ?_))
 refine .bd (g := fun (y : List UInt8) => (A.imm (List.map c8 y) true)) (cut_imm3 (e := 5) (es := 1) (f := c8) (l := a2) (a := 0) (b := 1) (by kernel_rfl) (by kernel_rfl) (fun _ => rfl) (.inl ⟨rfl, rfl⟩)) fun y2 => ?_
 refine .s (A.ptr 2 0) (.s (A.ptr 2 0) (.s (A.imm (List.map c8 a2) false) ?_))
 refine .bd (g := fun (y : List UInt8) => (A.imm (List.map c8 y) false)) (cut_imm (e := 5) (es := 1) (f := c8) (l := a2) (a := 1) (b := (a2.length : Int)) (by kernel_rfl) (by kernel_rfl) (fun _ => rfl) (.inr ⟨_, rfl⟩) (.inl ⟨rfl, rfl⟩)) fun y3 => ?_
 refine .s (A.ptr 2 0) (.s (A.ptr 2 0) (.s [hk32w_1, Blk.box [(iA 0)], Blk.box [(A.imm (List.map c8 y3) false)], hk32w_1] ?_))
 refine .cr ?_
 refine .ok ?_
 refine .bd (g := fun (y : UInt8) => A.ip (c8 y)) (idx_imm (e := 5) (es := 1) (h1 := by kernel_rfl) (h2 := by kernel_rfl) (h3 := fun _ => rfl) ..) fun y4 => ?_
 refine .s (uA ((y4.toNat : Int))) ?_
 refine .st (v := (iA (wr .i64 ((y4.toNat : Int))))) (aConvert_int (hs := by kernel_rfl) (hd := by kernel_rfl) ..) ?_
 refine .s (A.ptr 3 0) (.s [hk32w_1, Blk.box [(iA 0)], Blk.box [(A.imm (List.map c8 y3) false)], (hk32w_2 y4)] (.s (A.ptr 3 0) (.s (iA (wr .i64 ((y4.toNat : Int)))) ?_)))
 refine .st (v := (bA ((wr .i64 ((y4.toNat : Int))) == 1))) (aBin_eql ..) ?_
 refine .biHN (fun hk5 => ?_) (fun hk5 => ?_)
 ·refine .cl ((evCall_in lt_46).trans (e46 C (ec C n 7) (ey C n 7) (n+7) _ _ _)) ?_
  refine .as (T32w_46_0 C n h45 self hS (wr .i64 ((y4.toNat : Int))) 0 ByteArray.empty _ _ _ _ ?_ ?_ _ 0 0 y3)
  ·intro y35 j36 j37 j38
   refine .un rfl ?_
   refine .cr ?_
   refine .okP ?_
   exact .lf rfl rfl ⟨[(hk32w_2 y4)], rfl⟩
  ·intro y39 y40 j41 j42
   refine .un rfl ?_
   refine .cr ?_
   refine .ok ?_
   refine .bd (g := fun (y : Int) => (iA y)) (h45 y39) fun y43 => ?_
   refine .s (A.ptr 3 1) (.s [hk32w_1, Blk.box [(iA 0)], Blk.box [(A.imm (List.map c8 y40) false)], Blk.box [(iA (wr .i64 ((y4.toNat : Int)))), (iA y43), (A.v (Value.string ByteArray.empty)), (A.imm [] true)]] (.s (A.agg [(iA (wr .i64 ((y4.toNat : Int)))), (iA y43), (A.v (Value.string ByteArray.empty)), (A.imm [] true)]) (.s [hk32w_1, Blk.box [(iA 0)], Blk.box [(A.imm (List.map c8 y40) false)], Blk.box [(iA (wr .i64 ((y4.toNat : Int)))), (iA y43), (A.v (Value.string ByteArray.empty)), (A.imm [] true)]] (.s (A.agg [(iA (wr .i64 ((y4.toNat : Int)))), (iA y43), (A.v (Value.string ByteArray.empty)), (A.imm [] false)]) ?_))))
   exact .lf rfl rfl (actC_low (o := Out.ret (A.agg [(iA (wr .i64 ((y4.toNat : Int)))), (iA y43), (A.v (Value.string ByteArray.empty)), (A.imm [] false)])) (lo := 0) (off := 3) (b := 3) (p := 0) (H2 := [hk32w_1, Blk.box [(iA 0)], Blk.box [(A.imm (List.map c8 y40) false)]]) (X := [Blk.box [(iA (wr .i64 ((y4.toNat : Int)))), (iA y43), (A.v (Value.string ByteArray.empty)), (A.imm [] true)]]) (Nat.le_of_ble_eq_true rfl))
 refine .st (v := (bA ((wr .i64 ((y4.toNat : Int))) == 2))) (aBin_eql ..) ?_
 refine .biHN (fun hk44 => ?_) (fun hk44 => ?_)
 ·refine .cl ((evCall_in lt_47).trans (e47 C (ec C n 7) (ey C n 7) (n+7) _ _ _)) ?_
  refine .cl ((evCall_in lt_46).trans (e46 C (evCall (cx C) (n+6)) (evCallY (cx C) (n+6)) (n+6) _ _ _)) ?_
  refine .as (T32w_46_0a C n h45 self hS (wr .i64 ((y4.toNat : Int))) 0 ByteArray.empty _ _ _ _ ?_ ?_ _ 0 0 y3)
  ·intro y74 j75 j76 j77
   refine .un rfl ?_
   refine .cr ?_
   refine .okP ?_
   refine .cr ?_
   refine .okP ?_
   exact .lf rfl rfl ⟨[(hk32w_2 y4)], rfl⟩
  ·intro y78 y79 j80 j81
   refine .un rfl ?_
   refine .cr ?_
   refine .ok ?_
   refine .s (A.ptr 2 0) (.s (A.ptr 2 0) (.s (A.imm (List.map c8 y79) false) ?_))
   refine .st (v := (iA ((y79.length : Int)))) (len_imm (e := 5) (h1 := by kernel_rfl) ..) ?_
   refine .st (v := (A.v (.int .u64 (wr .u64 ((y79.length : Int)))))) (aConvert_int (hs := by kernel_rfl) (hd := by kernel_rfl) ..) ?_
   refine .st (v := (bA (decide (y78 <= (wr .u64 ((y79.length : Int))))))) (aBin_leq ..) ?_
   refine .cl ((evCall_in lt_33).trans (e33 C (evCall (cx C) (n+6)) (evCallY (cx C) (n+6)) (n+6) _ _ _ _)) ?_
   refine .s (bA (!(decide (y78 <= (wr .u64 ((y79.length : Int))))))) ?_
   refine .biHN (fun hk82 => ?_) (fun hk82 => ?_)
   ·refine .s (A.ifc 28 (iA 10)) ?_
    refine .pk ?_
    refine .cr ?_
    refine .okP ?_
    refine .cr ?_
    refine .okP ?_
    exact .lf rfl rfl ⟨[(hk32w_2 y4)], rfl⟩
   refine .cr ?_
   refine .ok ?_
   refine .st (v := (iA (wr .i64 (y78)))) (aConvert_int (hs := by kernel_rfl) (hd := by kernel_rfl) ..) ?_
   refine .cr ?_
   refine .ok ?_
   refine .cl ((evCall_in lt_44).trans (e44 C (ec C n 7) (ey C n 7) (n+7) _ _ _ _)) ?_
   refine .s (A.ptr 2 0) (.s (A.ptr 2 0) (.s (A.imm (List.map c8 y79) false) ?_))
   refine .st (v := (iA ((y79.length : Int)))) (len_imm (e := 5) (h1 := by kernel_rfl) ..) ?_
   refine .st (v := (bA (decide ((wr .i64 (y78)) <= ((y79.length : Int)))))) (aBin_leq ..) ?_
   refine .cl ((evCall_in lt_33).trans (e33 C (evCall (cx C) (n+6)) (evCallY (cx C) (n+6)) (n+6) _ _ _ _)) ?_
   refine .s (bA (!(decide ((wr .i64 (y78)) <= ((y79.length : Int)))))) ?_
   refine .biHN (fun hk83 => ?_) (fun hk83 => ?_)
   ·refine .s (A.ifc 28 (iA 10)) ?_
    refine .pk ?_
    refine .cr ?_
    refine .okP ?_
    refine .cr ?_
    refine .okP ?_
    exact .lf rfl rfl ⟨[(hk32w_2 y4)], rfl⟩
   refine .cr ?_
   refine .ok ?_
   refine .s (A.ptr 2 0) (.s (A.ptr 2 0) (.s (A.imm (List.map c8 y79) false) ?_))
   refine .bd (g := fun (y : List UInt8) => (A.imm (List.map c8 y) true)) (cut_imm3 (e := 5) (es := 1) (f := c8) (l := y79) (a := 0) (b := wr .i64 (y78)) (by kernel_rfl) (by kernel_rfl) (fun _ => rfl) (.inl ⟨rfl, rfl⟩)) fun y84 => ?_
   refine .s (A.ptr 2 0) (.s (A.ptr 2 0) (.s (A.imm (List.map c8 y79) false) ?_))
   refine .bd (g := fun (y : List UInt8) => (A.imm (List.map c8 y) false)) (cut_imm (e := 5) (es := 1) (f := c8) (l := y79) (a := wr .i64 (y78)) (b := (y79.length : Int)) (by kernel_rfl) (by kernel_rfl) (fun _ => rfl) (.inr ⟨_, rfl⟩) (.inl ⟨rfl, rfl⟩)) fun y85 => ?_
   refine .s (A.ptr 2 0) (.s (A.ptr 2 0) (.s [hk32w_1, Blk.box [(iA 0)], Blk.box [(A.imm (List.map c8 y85) false)], (hk32w_2 y4)] ?_))
   refine .cr ?_
   refine .ok ?_
   refine .st (v := (A.v (Value.string (bstr y84)))) (conv_bs (e := 5) (l := y84) (by kernel_rfl) (by kernel_rfl) (by kernel_rfl) (by kernel_rfl) (els_imm ..) rfl) ?_
   refine .s (A.ptr 3 2) (.s [hk32w_1, Blk.box [(iA 0)], Blk.box [(A.imm (List.map c8 y85) false)], Blk.box [(iA (wr .i64 ((y4.toNat : Int)))), (iA 0), (A.v (Value.string (bstr y84))), (A.imm [] true)]] (.s (A.agg [(iA (wr .i64 ((y4.toNat : Int)))), (iA 0), (A.v (Value.string (bstr y84))), (A.imm [] true)]) (.s [hk32w_1, Blk.box [(iA 0)], Blk.box [(A.imm (List.map c8 y85) false)], Blk.box [(iA (wr .i64 ((y4.toNat : Int)))), (iA 0), (A.v (Value.string (bstr y84))), (A.imm [] true)]] (.s (A.agg [(iA (wr .i64 ((y4.toNat : Int)))), (iA 0), (A.v (Value.string (bstr y84))), (A.imm [] false)]) ?_))))
   exact .lf rfl rfl (actC_low (o := Out.ret (A.agg [(iA (wr .i64 ((y4.toNat : Int)))), (iA 0), (A.v (Value.string (bstr y84))), (A.imm [] false)])) (lo := 0) (off := 3) (b := 3) (p := 0) (H2 := [hk32w_1, Blk.box [(iA 0)], Blk.box [(A.imm (List.map c8 y85) false)]]) (X := [Blk.box [(iA (wr .i64 ((y4.toNat : Int)))), (iA 0), (A.v (Value.string (bstr y84))), (A.imm [] true)]]) (Nat.le_of_ble_eq_true rfl))
 refine .st (v := (bA ((wr .i64 ((y4.toNat : Int))) == 3))) (aBin_eql ..) ?_
 refine .biHN (fun hk86 => ?_) (fun hk86 => ?_)
 ·refine .st (v := (bA (decide (a3 < 16)))) (aBin_lss ..) ?_
  refine .cl ((evCall_in lt_33).trans (e33 C (ec C n 7) (ey C n 7) (n+7) _ _ _ _)) ?_
  refine .s (bA (!(decide (a3 < 16)))) ?_
  refine .biHN (fun hk87 => ?_) (fun hk87 => ?_)
  ·refine .s (A.ifc 28 (iA 10)) ?_
   refine .pk ?_
   refine .cr ?_
   refine .okP ?_
   exact .lf rfl rfl ⟨[(hk32w_2 y4)], rfl⟩
  refine .cr ?_
  refine .ok ?_
  refine .cl ((evCall_in lt_47).trans (e47 C (ec C n 7) (ey C n 7) (n+7) _ _ _)) ?_
  refine .cl ((evCall_in lt_46).trans (e46 C (evCall (cx C) (n+6)) (evCallY (cx C) (n+6)) (n+6) _ _ _)) ?_
  refine .as (T32w_46_0b C n h45 self hS (wr .i64 ((y4.toNat : Int))) 0 ByteArray.empty _ _ _ _ ?_ ?_ _ 0 0 y3)
  ·intro y117 j118 j119 j120
   refine .un rfl ?_
   refine .cr ?_
   refine .okP ?_
   refine .cr ?_
   refine .okP ?_
   exact .lf rfl rfl ⟨[(hk32w_2 y4)], rfl⟩
  ·intro y121 y122 j123 j124
   refine .un rfl ?_
   refine .cr ?_
   refine .ok ?_
   refine .s (A.ptr 2 0) (.s (A.ptr 2 0) (.s (A.imm (List.map c8 y122) false) ?_))
   refine .st (v := (iA ((y122.length : Int)))) (len_imm (e := 5) (h1 := by kernel_rfl) ..) ?_
   refine .st (v := (A.v (.int .u64 (wr .u64 ((y122.length : Int)))))) (aConvert_int (hs := by kernel_rfl) (hd := by kernel_rfl) ..) ?_
   refine .st (v := (bA (decide (y121 <= (wr .u64 ((y122.length : Int))))))) (aBin_leq ..) ?_
   refine .cl ((evCall_in lt_33).trans (e33 C (evCall (cx C) (n+6)) (evCallY (cx C) (n+6)) (n+6) _ _ _ _)) ?_
   refine .s (bA (!(decide (y121 <= (wr .u64 ((y122.length : Int))))))) ?_
   refine .biHN (fun hk125 => ?_) (fun hk125 => ?_)
   ·refine .s (A.ifc 28 (iA 10)) ?_
    refine .pk ?_
    refine .cr ?_
    refine .okP ?_
    refine .cr ?_
    refine .okP ?_
    exact .lf rfl rfl ⟨[(hk32w_2 y4)], rfl⟩
   refine .cr ?_
   refine .ok ?_
   refine .st (v := (iA (wr .i64 (y121)))) (aConvert_int (hs := by kernel_rfl) (hd := by kernel_rfl) ..) ?_
   refine .cr ?_
   refine .ok ?_
   refine .as (T32w_32_0 C n h45 self hS a3 (wr .i64 (y121)) (wr .i64 ((y4.toNat : Int))) 0 ByteArray.empty _ _ _ _ ?_ ?_ _ 0 y122 (([] : List S_Value)))
   ·intro y138 y139 j140 j141 j142 j143 j144
    refine .un rfl ?_
    exact .lf rfl rfl ⟨[Blk.box [(iA (wr .i64 ((y4.toNat : Int)))), (iA 0), (A.v (Value.string ByteArray.empty)), (A.sl 4 0 y139.length false)], Blk.row false 4 (List.map c_S_Value y139)], rfl⟩
   ·intro y145 y146 j147 j148 j149 j150
    refine .un rfl ?_
    refine .cT (by kernel_rfl) ?_
    refine .s (A.agg [(iA (wr .i64 ((y4.toNat : Int)))), (iA 0), (A.v (Value.string ByteArray.empty)), (A.sl 4 0 y146.length false)]) (.s [hk32w_1, Blk.box [(iA 0)], Blk.box [(A.imm (List.map c8 y145) false)], Blk.box [(iA (wr .i64 ((y4.toNat : Int)))), (iA 0), (A.v (Value.string ByteArray.empty)), (A.sl 4 0 y146.length false)], Blk.row false 4 (List.map c_S_Value y146)] ?_)
    refine .st (v := (A.agg [(iA (wr .i64 ((y4.toNat : Int)))), (iA 0), (A.v (Value.string ByteArray.empty)), (A.imm (List.map c_S_Value y146) false)])) ((congrArg (fun z => aLoad prog 24 (A.ptr 3 0) z) (actC_row (H := [hk32w_1, Blk.box [(iA 0)], Blk.box [(A.imm (List.map c8 y145) false)], Blk.box [(iA (wr .i64 ((y4.toNat : Int)))), (iA 0), (A.v (Value.string ByteArray.empty)), (A.sl 4 0 y146.length false)], Blk.row false 4 (List.map c_S_Value y146)]) (lo := 0) (off := 3) (b := 3) (o := 0) (b' := 4) (es := 4) (l := y146) fl_S_Value rfl rfl rfl (Nat.le_of_ble_eq_true rfl))).trans (by kernel_rfl)) ?_
    exact .lf rfl rfl (actC_low (o := Out.ret (A.agg [(iA (wr .i64 ((y4.toNat : Int)))), (iA 0), (A.v (Value.string ByteArray.empty)), (A.imm (List.map c_S_Value y146) false)])) (lo := 0) (off := 3) (b := 3) (p := 0) (H2 := [hk32w_1, Blk.box [(iA 0)], Blk.box [(A.imm (List.map c8 y145) false)]]) (X := [Blk.box [(iA (wr .i64 ((y4.toNat : Int)))), (iA 0), (A.v (Value.string ByteArray.empty)), (A.sl 4 0 y146.length false)], Blk.row false 4 (List.map c_S_Value y146)]) (Nat.le_of_ble_eq_true rfl))
 refine .cl ((evCall_in lt_33).trans (e33 C (ec C n 7) (ey C n 7) (n+7) _ _ _ _)) ?_
 refine .s (bA true) ?_
 refine .bTN ?_
 refine .s (A.ifc 28 (iA 10)) ?_
 refine .pk ?_
 refine .cr ?_
 refine .okP ?_
 exact .lf rfl rfl ⟨[(hk32w_2 y4)], rfl⟩
def W32 : Nat -> (List UInt8) -> Int -> Option (Bool × S_Value × (List UInt8))
 | 0 => fun _ _ => none
 | N + 1 => fun a2 a3 => bif Nat.ble 8 N then F32w (W32 N) (N - 8) a2 a3 else none
theorem HW32 (C : Nat -> List A -> Option A) (h45 : Orc45 C) : ∀ N, HS32 C N (W32 N)
 | 0 => fun _ _ X r h => by cases h
 | N + 1 => fun a2 a3 X => by
  show J _ _ _ (bif Nat.ble 8 N then F32w (W32 N) (N - 8) a2 a3 else none) _
  cases h : Nat.ble 8 N with
  | false => exact fun r h => by cases h
  | true =>
   obtain ⟨n, rfl⟩ : ∃ n, N = n + 8 := ⟨N - 8, by have := Nat.le_of_ble_eq_true h; omega⟩
   rw [Nat.add_sub_cancel]
   exact cut_J (m := 3) (by kernel_rfl) (by kernel_rfl) (by decide) rfl (by kernel_rfl) ((by kernel_rfl : _ = ((((underss 3 (List.map c8 a2)) && true)) && true)).trans (by simp only [un0, unS])) (fun _ => rfl) (fun y => (by show outUnder 3 (bif y.1 then Out.ret (A.agg [(iA y.2.1.Kind), (iA y.2.1.N), (A.v (Value.string y.2.1.S)), (A.imm (List.map c_S_Value y.2.1.L) false)]) else Out.pan (A.ifc 28 (iA 10))) = true; cases y.1 with | true => exact ((by kernel_rfl : _ = ((underss 3 (List.map c_S_Value y.2.1.L)) && true)).trans (by simp only [un0, unS])) | false => rfl)) (fun y => ((by kernel_rfl : _ = ((((underss 3 (List.map c8 y.2.2)) && true)) && true)).trans (by simp only [un0, unS]))) (T32w C n h45 (W32 (n + 8)) (HW32 C h45 (n + 8)) a2 a3)
def hk18_1 : Blk := Blk.box [(iA 0), (iA 0), (A.v (Value.string ByteArray.empty)), (A.imm [] true)]
def F18 (n : Nat) (a0 : (List UInt8)) : Option (S_Value × Int) :=
 (W32 (n+8) a0 0).bind fun y1 => bif y1.1 then (bif (!(((y1.2.2.length : Int)) == 0)) then (some (((S_Value.mk 0 0 ByteArray.empty ([])), 10))) else (some ((y1.2.1, 0)))) else (some (((S_Value.mk 0 0 ByteArray.empty ([])), 10)))
theorem T18 (C : Nat -> List A -> Option A) (n : Nat) (h45 : Orc45 C) (a0 : (List UInt8)) : J (fun (o : R) y => ∃ v, o.1 = .ret v /\ snapE o.2 v = (A.tup [(A.agg [(iA y.1.Kind), (iA y.1.N), (A.v (Value.string y.1.S)), (A.imm (List.map c_S_Value y.1.L) false)]), (iA y.2)])) (evCall1 (cx C) (ec C n 8) (ey C n 8) (n+8) 18 [(A.imm (List.map c8 a0) false)] [] 0) some (F18 n a0) some := by
 refine .lp (e18 ..) ?_
 unfold F18
 refine .s ((A.ptr 0 0), [hk18_1]) (.s ((A.ptr 1 0), [hk18_1, Blk.box [(iA 0)]]) (.s (A.agg [(A.imm (List.map c8 a0) false)]) (.s ((A.ptr 2 0), [hk18_1, Blk.box [(iA 0)], Blk.box [(A.imm (List.map c8 a0) false)]]) ?_)))
 refine .bg (fun (t : Out × Heap) (y : (Bool × S_Value × (List UInt8))) => t = ((bif y.1 then Out.ret (A.agg [(iA y.2.1.Kind), (iA y.2.1.N), (A.v (Value.string y.2.1.S)), (A.imm (List.map c_S_Value y.2.1.L) false)]) else Out.pan (A.ifc 28 (iA 10))), [hk18_1, Blk.box [(iA 0)], Blk.box [(A.imm (List.map c8 y.2.2) false)]])) (HW32 C h45 (n+8) a0 0 []) ?_
 rintro _ y1 rfl
 refine .ob ?_ ?_
 ·refine .ok ?_
  refine .s [Blk.box [(iA y1.2.1.Kind), (iA y1.2.1.N), (A.v (Value.string y1.2.1.S)), (A.imm (List.map c_S_Value y1.2.1.L) false)], Blk.box [(iA 0)], Blk.box [(A.imm (List.map c8 y1.2.2) false)]] (.s (A.ptr 2 0) (.s (A.ptr 2 0) (.s (A.imm (List.map c8 y1.2.2) false) ?_)))
  refine .st (v := (iA ((y1.2.2.length : Int)))) (len_imm (e := 5) (h1 := by kernel_rfl) ..) ?_
  refine .st (v := (bA (((y1.2.2.length : Int)) == 0))) (aBin_eql ..) ?_
  refine .cl ((evCall_in lt_33).trans (e33 C (ec C n 7) (ey C n 7) (n+7) _ _ _ _)) ?_
  refine .s (bA (!(((y1.2.2.length : Int)) == 0))) ?_
  refine .biHN (fun hk2 => ?_) (fun hk2 => ?_)
  ·refine .s (A.ifc 28 (iA 10)) ?_
   refine .pk ?_
   refine .cr ?_
   refine .okP ?_
   refine .s (bA true) ?_
   refine .bTN ?_
   refine .s (A.agg [(iA 0), (iA 0), (A.v (Value.string ByteArray.empty)), (A.imm [] true)]) (.s (iA 10) (.s [hk18_1, Blk.box [(iA 0)], Blk.box [(A.imm (List.map c8 y1.2.2) false)]] (.s [hk18_1, Blk.box [(iA 10)], Blk.box [(A.imm (List.map c8 y1.2.2) false)]] (.s (A.agg [(iA 0), (iA 0), (A.v (Value.string ByteArray.empty)), (A.imm [] true)]) (.s (iA 10) ?_)))))
   exact .lf rfl rfl ⟨_, rfl, by show snapE _ (A.tup [(A.agg [(iA 0), (iA 0), (A.v (Value.string ByteArray.empty)), (A.imm [] true)]), (iA 10)]) = _; first | (simp only [sn0, snM, snapE]; done) | (simp only [sn0, snS, snapE]; first | done | rfl)⟩
  refine .cr ?_
  refine .ok ?_
  refine .s (A.agg [(iA y1.2.1.Kind), (iA y1.2.1.N), (A.v (Value.string y1.2.1.S)), (A.imm (List.map c_S_Value y1.2.1.L) false)]) (.s [Blk.box [(iA y1.2.1.Kind), (iA y1.2.1.N), (A.v (Value.string y1.2.1.S)), (A.imm (List.map c_S_Value y1.2.1.L) false)], Blk.box [(iA 0)], Blk.box [(A.imm (List.map c8 y1.2.2) false)]] (.s [Blk.box [(iA y1.2.1.Kind), (iA y1.2.1.N), (A.v (Value.string y1.2.1.S)), (A.imm (List.map c_S_Value y1.2.1.L) false)], Blk.box [(iA 0)], Blk.box [(A.imm (List.map c8 y1.2.2) false)]] (.s (bA false) ?_)))
  refine .bFN ?_
  refine .s (A.agg [(iA y1.2.1.Kind), (iA y1.2.1.N), (A.v (Value.string y1.2.1.S)), (A.imm (List.map c_S_Value y1.2.1.L) false)]) (.s (iA 0) ?_)
  exact .lf rfl rfl ⟨_, rfl, by show snapE _ (A.tup [(A.agg [(iA y1.2.1.Kind), (iA y1.2.1.N), (A.v (Value.string y1.2.1.S)), (A.imm (List.map c_S_Value y1.2.1.L) false)]), (iA 0)]) = _; first | (simp only [sn0, snM, snapE]; done) | (simp only [sn0, snS, snapE]; first | done | rfl)⟩
 refine .okP ?_
 refine .s (bA true) ?_
 refine .bTN ?_
 refine .s (A.agg [(iA 0), (iA 0), (A.v (Value.string ByteArray.empty)), (A.imm [] true)]) (.s (iA 10) (.s [hk18_1, Blk.box [(iA 0)], Blk.box [(A.imm (List.map c8 y1.2.2) false)]] (.s [hk18_1, Blk.box [(iA 10)], Blk.box [(A.imm (List.map c8 y1.2.2) false)]] (.s (A.agg [(iA 0), (iA 0), (A.v (Value.string ByteArray.empty)), (A.imm [] true)]) (.s (iA 10) ?_)))))
 exact .lf rfl rfl ⟨_, rfl, by show snapE _ (A.tup [(A.agg [(iA 0), (iA 0), (A.v (Value.string ByteArray.empty)), (A.imm [] true)]), (iA 10)]) = _; first | (simp only [sn0, snM, snapE]; done) | (simp only [sn0, snS, snapE]; first | done | rfl)⟩
def G18 (a0 : (List UInt8)) : Option (S_Value × Int) := F18 fuel0 a0
def Orc18 (C : Nat -> List A -> Option A) : Prop := ∀ (a0 : (List UInt8)), C 18 [(A.imm (List.map c8 a0) false)] = (G18 a0).map fun y => (A.tup [(A.agg [(iA y.1.Kind), (iA y.1.N), (A.v (Value.string y.1.S)), (A.imm (List.map c_S_Value y.1.L) false)]), (iA y.2)])
def F14 (n : Nat) (a0 : S_Value) : Option (Int × Int) :=
 (G12 a0).bind fun y1 => some (((y1.1.length : Int), y1.2))
theorem T14 (C : Nat -> List A -> Option A) (n : Nat) (h12 : Orc12 C) (a0 : S_Value) : J (fun (o : R) y => ∃ v, o.1 = .ret v /\ snapE o.2 v = (A.tup [(iA y.1), (iA y.2)])) (evCall1 (cx C) (ec C n 8) (ey C n 8) (n+8) 14 [(A.agg [(iA a0.Kind), (iA a0.N), (A.v (Value.string a0.S)), (A.imm (List.map c_S_Value a0.L) false)])] [] 0) some (F14 n a0) some := by
 refine .lp (e14 ..) ?_
 unfold F14
 refine .s ((A.ptr 0 0), [Blk.box [(iA a0.Kind), (iA a0.N), (A.v (Value.string a0.S)), (A.imm (List.map c_S_Value a0.L) false)]]) (.s (A.agg [(iA a0.Kind), (iA a0.N), (A.v (Value.string a0.S)), (A.imm (List.map c_S_Value a0.L) false)]) ?_)
 refine .bd (g := fun (y : ((List UInt8) × Int)) => (A.tup [(A.imm (List.map c8 y.1) false), (iA y.2)])) (by show C 12 [snap _ (A.agg [(iA a0.Kind), (iA a0.N), (A.v (Value.string a0.S)), (A.imm (List.map c_S_Value a0.L) false)])] = _; simp only [sn0, snM]; exact h12 a0) fun y1 => ?_
 refine .s (A.imm (List.map c8 y1.1) false) (.s (iA y1.2) ?_)
 refine .st (v := (iA ((y1.1.length : Int)))) (len_imm (e := 5) (h1 := by kernel_rfl) ..) ?_
 exact .lf rfl rfl ⟨_, rfl, rfl⟩
def G14 (a0 : S_Value) : Option (Int × Int) := F14 fuel0 a0
def Orc14 (C : Nat -> List A -> Option A) : Prop := ∀ (a0 : S_Value), C 14 [(A.agg [(iA a0.Kind), (iA a0.N), (A.v (Value.string a0.S)), (A.imm (List.map c_S_Value a0.L) false)])] = (G14 a0).map fun y => (A.tup [(iA y.1), (iA y.2)])
def OrcS21 (C : Nat -> List A -> Option A) (self : S_Value -> S_Value -> Option Bool) : Prop := ∀ (a0 : S_Value) (a1 : S_Value), C 21 [(A.agg [(iA a0.Kind), (iA a0.N), (A.v (Value.string a0.S)), (A.imm (List.map c_S_Value a0.L) false)]), (A.agg [(iA a1.Kind), (iA a1.N), (A.v (Value.string a1.S)), (A.imm (List.map c_S_Value a1.L) false)])] = (self a0 a1).map fun y => (bA y)
def F21_35_0 (self : S_Value -> S_Value -> Option Bool) (n : Nat) (v23 : (List S_Value)) (v24 : Bool) (v25 : (List S_Value)) (v26 : Int) (v28 : S_Value) (v29 : S_Value) : Nat -> Int -> Option ((Bool × Int × Int × ByteArray × (List S_Value) × Int × Int × ByteArray × (List S_Value)) ⊕ (Unit))
 | 0, _ => none
 | m + 1, v27 => bif (decide (v27 < v26)) then ((getI v25 v27).bind fun y31 => (getI v23 v27).bind fun y32 => (self y31 y32).bind fun y33 => bif (!y33) then (some ((Sum.inl ((false, y31.Kind, y31.N, y31.S, y31.L, y32.Kind, y32.N, y32.S, y32.L))))) else (F21_35_0 self n v23 v24 v25 v26 v28 v29 m (wr .i64 (v27 + 1)))) else (some ((Sum.inr (()))))
theorem T21_35_0 (C : Nat -> List A -> Option A) (n : Nat) (self : S_Value -> S_Value -> Option Bool) (hS : OrcS21 C self) (v23 : (List S_Value)) (v24 : Bool) (v25 : (List S_Value)) (v26 : Int) (v28 : S_Value) (v29 : S_Value) {ρ γ : Type} {φ : ρ -> γ -> Prop} {kL : R -> Option ρ} {K : ((Bool × Int × Int × ByteArray × (List S_Value) × Int × Int × ByteArray × (List S_Value)) ⊕ (Unit)) -> Option γ} (kx kg : Nat -> St -> Option R) (kr : St -> Option R) (kp : A -> St -> Option R) (x0 : ∀ (o0 : Bool) (o1 : Int) (o2 : Int) (o3 : ByteArray) (o4 : (List S_Value)) (o5 : Int) (o6 : Int) (o7 : ByteArray) (o8 : (List S_Value)) (s1 : A) (s2 : A) (s15 : A) (s16 : A) (s17 : A), J φ (kr (St.mk [(1, s1), (2, s2), (6, (bA o0)), (15, s15), (16, s16), (17, s17)] [(hk28_1 v28), (hk28_1 v29), Blk.box [(iA o1), (iA o2), (A.v (Value.string o3)), (A.imm (List.map c_S_Value o4) false)], Blk.box [(iA o5), (iA o6), (A.v (Value.string o7)), (A.imm (List.map c_S_Value o8) false)]])) kL (K (Sum.inl ((o0, o1, o2, o3, o4, o5, o6, o7, o8)))) some) (x1 : ∀ (s1 : A) (s2 : A) (s6 : A) (s15 : A) (s16 : A) (s17 : A), J φ (kx 0 (St.mk [(1, s1), (2, s2), (6, s6), (15, s15), (16, s16), (17, s17)] [(hk28_1 v28), (hk28_1 v29)])) kL (K (Sum.inr (()))) some) :
  ∀ (m : Nat) (v27 : Int), J φ (loopR (cx C) (ec C n 7) (ey C n 7) (n+7) 35 0 0 2 kx kg kr kp m (St.mk [(1, (A.imm (List.map c_S_Value v23) false)), (2, (A.fn (Fn.func 21) [] [])), (6, (bA v24)), (15, (A.imm (List.map c_S_Value v25) false)), (16, (iA v26)), (17, (iA v27))] [(hk28_1 v28), (hk28_1 v29)])) kL (F21_35_0 self n v23 v24 v25 v26 v28 v29 m v27) K := by
 intro m
 induction m with
 | zero => intros; exact .nn
 | succ m ih =>
  intro v27
  refine .lp (e35_0 ..) ?_
  unfold F21_35_0
  refine .st (v := (bA (decide (v27 < v26)))) (aBin_lss ..) ?_
  refine .biHN (fun hk30 => ?_) (fun hk30 => ?_)
  ·refine .bd (g := fun (y : S_Value) => (A.ip [(iA y.Kind), (iA y.N), (A.v (Value.string y.S)), (A.imm (List.map c_S_Value y.L) false)])) ((idx_imm (e := 24) (es := 4) (h1 := by kernel_rfl) (h2 := by kernel_rfl) (h3 := fun _ => rfl) ..).trans (ci_S_Value _)) fun y31 => ?_
   refine .s (A.agg [(iA y31.Kind), (iA y31.N), (A.v (Value.string y31.S)), (A.imm (List.map c_S_Value y31.L) false)]) (.s ((A.ptr 2 0), [(hk28_1 v28), (hk28_1 v29), Blk.box [(iA 0), (iA 0), (A.v (Value.string ByteArray.empty)), (A.imm [] true)]]) (.s [(hk28_1 v28), (hk28_1 v29), Blk.box [(iA y31.Kind), (iA y31.N), (A.v (Value.string y31.S)), (A.imm (List.map c_S_Value y31.L) false)]] ?_))
   refine .bd (g := fun (y : S_Value) => (A.ip [(iA y.Kind), (iA y.N), (A.v (Value.string y.S)), (A.imm (List.map c_S_Value y.L) false)])) ((idx_imm (e := 24) (es := 4) (h1 := by kernel_rfl) (h2 := by kernel_rfl) (h3 := fun _ => rfl) ..).trans (ci_S_Value _)) fun y32 => ?_
   refine .s (A.agg [(iA y32.Kind), (iA y32.N), (A.v (Value.string y32.S)), (A.imm (List.map c_S_Value y32.L) false)]) (.s ((A.ptr 3 0), [(hk28_1 v28), (hk28_1 v29), Blk.box [(iA y31.Kind), (iA y31.N), (A.v (Value.string y31.S)), (A.imm (List.map c_S_Value y31.L) false)], Blk.box [(iA 0), (iA 0), (A.v (Value.string ByteArray.empty)), (A.imm [] true)]]) (.s [(hk28_1 v28), (hk28_1 v29), Blk.box [(iA y31.Kind), (iA y31.N), (A.v (Value.string y31.S)), (A.imm (List.map c_S_Value y31.L) false)], Blk.box [(iA y32.Kind), (iA y32.N), (A.v (Value.string y32.S)), (A.imm (List.map c_S_Value y32.L) false)]] (.s (A.agg [(iA y31.Kind), (iA y31.N), (A.v (Value.string y31.S)), (A.imm (List.map c_S_Value y31.L) false)]) (.s (A.agg [(iA y32.Kind), (iA y32.N), (A.v (Value.string y32.S)), (A.imm (List.map c_S_Value y32.L) false)]) ?_))))
   refine .dO (by kernel_rfl) (by kernel_rfl) ?_
   refine .bd (g := fun (y : Bool) => (bA y)) (by simp only [List.nil_append, List.cons_append, List.append_nil, sn0, snM]; exact hS y31 y32) fun y33 => ?_
   refine .s (bA (!y33)) ?_
   refine .biHN (fun hk34 => ?_) (fun hk34 => ?_)
   ·exact .ex (x0 _ _ _ _ _ _ _ _ _ _ _ _ _ _)
   refine .st (v := (iA (wr .i64 (v27 + 1)))) (aBin_add ..) ?_
   refine .st (v := [(hk28_1 v28), (hk28_1 v29)]) ((by kernel_rfl : _ = (bif ((((underss 2 (List.map c_S_Value v28.L)) && true)) && ((((underss 2 (List.map c_S_Value v29.L)) && true)) && true)) then some [(hk28_1 v28), (hk28_1 v29)] else none)).trans (by simp only [un0, unS])) ?_
   refine .cT ((by kernel_rfl : _ = (bif underss 2 (List.map c_S_Value v23) then (bif underss 2 (List.map c_S_Value v25) then true else false) else false)).trans (by simp only [un0, unS])) ?_
   exact ih _
  exact .ex (x1 _ _ _ _ _ _)
def F21 (self : S_Value -> S_Value -> Option Bool) (n : Nat) (a0 : S_Value) (a1 : S_Value) : Option Bool :=
 (bif (a0.Kind == a1.Kind) then (some (a0.N == a1.N)) else (some false)).bind fun y2 => (bif y2 then (some (strEq a0.S a1.S)) else (some false)).bind fun y9 => bif y9 then ((some a0.L).bind fun y18 => (some (())).bind fun y19 => (some a1.L).bind fun y20 => bif (((y18.length : Int)) != ((y20.length : Int))) then ((some false).bind fun y22 => some y22) else ((F21_35_0 self n y20 false y18 ((y18.length : Int)) a0 a1 (n+7) 0).bind fun o35 => match o35 with | (Sum.inl ((y36, y37, y38, y39, y40, y41, y42, y43, y44))) => (some y36).bind fun y50 => some y50 | (Sum.inr _) => (some true).bind fun y57 => some y57)) else ((some (())).bind fun y58 => (some (())).bind fun y59 => (some (())).bind fun y60 => (some false).bind fun y61 => some y61)
theorem T21 (C : Nat -> List A -> Option A) (n : Nat) (self : S_Value -> S_Value -> Option Bool) (hS : OrcS21 C self) (a0 : S_Value) (a1 : S_Value) : J (fun (o : R) y => ∃ v, o.1 = .ret v /\ snapE o.2 v = (bA y)) (evCall1 (cx C) (ec C n 8) (ey C n 8) (n+8) 21 [(A.agg [(iA a0.Kind), (iA a0.N), (A.v (Value.string a0.S)), (A.imm (List.map c_S_Value a0.L) false)]), (A.agg [(iA a1.Kind), (iA a1.N), (A.v (Value.string a1.S)), (A.imm (List.map c_S_Value a1.L) false)])] [] 0) some (F21 self n a0 a1) some := by
 refine .lp (e21 ..) ?_
 unfold F21
 refine .s ((A.ptr 0 0), [Blk.box [(iA a0.Kind), (iA a0.N), (A.v (Value.string a0.S)), (A.imm (List.map c_S_Value a0.L) false)]]) (.s ((A.ptr 1 0), [Blk.box [(iA a0.Kind), (iA a0.N), (A.v (Value.string a0.S)), (A.imm (List.map c_S_Value a0.L) false)], Blk.box [(iA a1.Kind), (iA a1.N), (A.v (Value.string a1.S)), (A.imm (List.map c_S_Value a1.L) false)]]) (.s (A.ptr 0 0) (.s (iA a0.Kind) (.s (A.ptr 1 0) (.s (iA a1.Kind) ?_)))))
 refine .st (v := (bA (a0.Kind == a1.Kind))) (aBin_eql ..) ?_
 refine .bg (fun t (y : Bool) => ∃ j3 j4 j5 j6 j7 : A, t = [(bA y), j3, j4, j5, j6, j7]) ?_ ?_
 ·refine .biH (fun hk1 => ?_) (fun hk1 => ?_)
  ·refine .s (A.ptr 0 1) (.s (iA a0.N) (.s (A.ptr 1 1) (.s (iA a1.N) ?_)))
   refine .st (v := (bA (a0.N == a1.N))) (aBin_eql ..) ?_
   exact .lg ⟨_, _, _, _, _, rfl⟩
  exact .lg ⟨_, _, _, _, _, rfl⟩
 rintro _ y2 ⟨j3, j4, j5, j6, j7, rfl⟩
 iterate 6 refine .uc ?_
 refine .bg (fun t (y : Bool) => ∃ j10 j11 j12 j13 j14 : A, t = [(bA y), j10, j11, j12, j13, j14]) ?_ ?_
 ·refine .biH (fun hk8 => ?_) (fun hk8 => ?_)
  ·refine .s (A.ptr 0 2) (.s (A.v (Value.string a0.S)) (.s (A.ptr 1 2) (.s (A.v (Value.string a1.S)) ?_)))
   refine .st (v := (bA (strEq a0.S a1.S))) (aBin_eql_s ..) ?_
   exact .lg ⟨_, _, _, _, _, rfl⟩
  exact .lg ⟨_, _, _, _, _, rfl⟩
 rintro _ y9 ⟨j10, j11, j12, j13, j14, rfl⟩
 iterate 6 refine .uc ?_
 refine .gst (fun hc17 => ?_) (fun hc17 => ?_)
 ·refine .bb ?_
  refine .s (A.ptr 0 3) ?_
  refine .cr ?_
  refine .bg (fun t (y : (List S_Value)) =>  t = (A.imm (List.map c_S_Value y) false)) ?_ ?_
  ·refine .lp (gIf_knownTT hc17) ?_
   refine .s (A.imm (List.map c_S_Value a0.L) false) ?_
   exact .lg rfl
  rintro _ y18 rfl
  refine .bg (fun t (y : Unit) =>  t = (A.ptr 1 3)) ?_ ?_
  ·refine .lp (gIf_knownTT hc17) ?_
   refine .s (A.ptr 1 3) ?_
   exact .lg rfl
  rintro _ y19 rfl
  refine .bg (fun t (y : (List S_Value)) =>  t = (A.imm (List.map c_S_Value y) false)) ?_ ?_
  ·refine .lp (gIf_knownTT hc17) ?_
   refine .s (A.imm (List.map c_S_Value a1.L) false) ?_
   exact .lg rfl
  rintro _ y20 rfl
  refine .lp (gIf_knownTT hc17) ?_
  refine .cl ((evCall_in lt_35).trans (e35 C (ec C n 7) (ey C n 7) (n+7) _ _ _ _ _)) ?_
  refine .st (v := (iA ((y18.length : Int)))) (len_imm (e := 24) (h1 := by kernel_rfl) ..) ?_
  refine .st (v := (iA ((y20.length : Int)))) (len_imm (e := 24) (h1 := by kernel_rfl) ..) ?_
  refine .st (v := (bA (((y18.length : Int)) != ((y20.length : Int))))) (aBin_neq ..) ?_
  refine .biHN (fun hk21 => ?_) (fun hk21 => ?_)
  ·refine .cr ?_
   refine .ok ?_
   refine .bg (fun t (y : Bool) =>  t = (bA y)) ?_ ?_
   ·refine .bKT hc17 ?_
    exact .lg rfl
   rintro _ y22 rfl
   exact .lf rfl rfl ⟨_, rfl, rfl⟩
  refine .st (v := (iA ((y18.length : Int)))) (len_imm (e := 24) (h1 := by kernel_rfl) ..) ?_
  refine .as (T21_35_0 C n  self hS y20 false y18 ((y18.length : Int)) a0 a1 _ _ _ _ ?_ ?_ _ 0)
  ·intro y36 y37 y38 y39 y40 y41 y42 y43 y44 j45 j46 j47 j48 j49
   refine .un rfl ?_
   refine .cr ?_
   refine .ok ?_
   refine .bg (fun t (y : Bool) =>  t = (bA y)) ?_ ?_
   ·refine .bKT hc17 ?_
    exact .lg rfl
   rintro _ y50 rfl
   exact .lf rfl rfl ⟨_, rfl, rfl⟩
  ·intro j51 j52 j53 j54 j55 j56
   refine .un rfl ?_
   refine .cT (by kernel_rfl) ?_
   refine .cr ?_
   refine .ok ?_
   refine .bg (fun t (y : Bool) =>  t = (bA y)) ?_ ?_
   ·refine .bKT hc17 ?_
    exact .lg rfl
   rintro _ y57 rfl
   exact .lf rfl rfl ⟨_, rfl, rfl⟩
 refine .bb ?_
 refine .cr ?_
 refine .bg (fun t (y : Unit) =>  t = (A.v undef)) ?_ ?_
 ·refine .lp (gIf_knownTF hc17) ?_
  exact .lg rfl
 rintro _ y58 rfl
 refine .bg (fun t (y : Unit) =>  t = (A.v undef)) ?_ ?_
 ·refine .lp (gIf_knownTF hc17) ?_
  exact .lg rfl
 rintro _ y59 rfl
 refine .bg (fun t (y : Unit) =>  t = (A.v undef)) ?_ ?_
 ·refine .lp (gIf_knownTF hc17) ?_
  exact .lg rfl
 rintro _ y60 rfl
 refine .lp (gIf_knownTF hc17) ?_
 refine .bg (fun t (y : Bool) =>  t = (bA y)) ?_ ?_
 ·refine .bKF hc17 ?_
  exact .lg rfl
 rintro _ y61 rfl
 exact .lf rfl rfl ⟨_, rfl, rfl⟩
def R21 : Nat -> S_Value -> S_Value -> Option Bool
 | 0 => fun _ _ => none
 | q + 1 => fun a0 a1 => F21 (R21 q) fuel0 a0 a1
def G21 (a0 : S_Value) (a1 : S_Value) : Option Bool := R21 fuel0 a0 a1
def Orc21 (C : Nat -> List A -> Option A) : Prop := ∀ (a0 : S_Value) (a1 : S_Value), C 21 [(A.agg [(iA a0.Kind), (iA a0.N), (A.v (Value.string a0.S)), (A.imm (List.map c_S_Value a0.L) false)]), (A.agg [(iA a1.Kind), (iA a1.N), (A.v (Value.string a1.S)), (A.imm (List.map c_S_Value a1.L) false)])] = (G21 a0 a1).map fun y => (bA y)
def F10_10_0 (n : Nat) (v51 : Bool) (v52 : (List ByteArray)) (v53 : Int) (v55 : S_Value) (v56 : S_Value) : Nat -> Int -> Option ((Bool × Int × Int × ByteArray × (List S_Value)) ⊕ (Unit))
 | 0, _ => none
 | m + 1, v54 => bif (decide (v54 < v53)) then ((getI v52 v54).bind fun y58 => (G18 (bstrL y58)).bind fun y59 => bif (y59.2 != 10) then (some ((Sum.inl ((false, y59.1.Kind, y59.1.N, y59.1.S, y59.1.L))))) else (F10_10_0 n v51 v52 v53 v55 v56 m (wr .i64 (v54 + 1)))) else (some ((Sum.inr (()))))
theorem T10_10_0 (C : Nat -> List A -> Option A) (n : Nat) (h12 : Orc12 C) (h14 : Orc14 C) (h16 : Orc16 C) (h18 : Orc18 C) (h21 : Orc21 C) (h22 : Orc22 C) (h23 : Orc23 C) (h24 : Orc24 C) (v51 : Bool) (v52 : (List ByteArray)) (v53 : Int) (v55 : S_Value) (v56 : S_Value) {ρ γ : Type} {φ : ρ -> γ -> Prop} {kL : R -> Option ρ} {K : ((Bool × Int × Int × ByteArray × (List S_Value)) ⊕ (Unit)) -> Option γ} (kx kg : Nat -> St -> Option R) (kr : St -> Option R) (kp : A -> St -> Option R) (x0 : ∀ (o0 : Bool) (o1 : Int) (o2 : Int) (o3 : ByteArray) (o4 : (List S_Value)) (s77 : A) (s78 : A) (s79 : A), J φ (kr (St.mk [(0, (bA o0)), (77, s77), (78, s78), (79, s79)] [(hk28_1 v55), (hk28_1 v56), Blk.box [(iA o1), (iA o2), (A.v (Value.string o3)), (A.imm (List.map c_S_Value o4) false)]])) kL (K (Sum.inl ((o0, o1, o2, o3, o4)))) some) (x1 : ∀ (s0 : A) (s77 : A) (s78 : A) (s79 : A), J φ (kx 0 (St.mk [(0, s0), (77, s77), (78, s78), (79, s79)] [(hk28_1 v55), (hk28_1 v56)])) kL (K (Sum.inr (()))) some) :
  ∀ (m : Nat) (v54 : Int), J φ (loopR (cx C) (ec C n 8) (ey C n 8) (n+8) 10 0 0 2 kx kg kr kp m (St.mk [(0, (bA v51)), (77, (A.imm (List.map cS v52) true)), (78, (iA v53)), (79, (iA v54))] [(hk28_1 v55), (hk28_1 v56)])) kL (F10_10_0 n v51 v52 v53 v55 v56 m v54) K := by
 intro m
 induction m with
 | zero => intros; exact .nn
 | succ m ih =>
  intro v54
  refine .lp (e10_0 ..) ?_
  unfold F10_10_0
  refine .st (v := (bA (decide (v54 < v53)))) (aBin_lss ..) ?_
  refine .biHN (fun hk57 => ?_) (fun hk57 => ?_)
  ·refine .bd (g := fun (y : ByteArray) => A.ip (cS y)) (idx_imm (e := 9) (es := 1) (h1 := by kernel_rfl) (h2 := by kernel_rfl) (h3 := fun _ => rfl) ..) fun y58 => ?_
   refine .s (A.v (Value.string y58)) ?_
   refine .st (v := (A.imm (List.map c8 (bstrL y58)) false)) (conv_sb (e := 5) (by kernel_rfl) (by kernel_rfl) (by kernel_rfl)) ?_
   refine .bd (g := fun (y : (S_Value × Int)) => (A.tup [(A.agg [(iA y.1.Kind), (iA y.1.N), (A.v (Value.string y.1.S)), (A.imm (List.map c_S_Value y.1.L) false)]), (iA y.2)])) (by show C 18 [snap _ (A.imm (List.map c8 (bstrL y58)) false)] = _; simp only [sn0, snM]; exact h18 (bstrL y58)) fun y59 => ?_
   refine .s (A.agg [(iA y59.1.Kind), (iA y59.1.N), (A.v (Value.string y59.1.S)), (A.imm (List.map c_S_Value y59.1.L) false)]) (.s (iA y59.2) (.s ((A.ptr 2 0), [(hk28_1 v55), (hk28_1 v56), Blk.box [(iA 0), (iA 0), (A.v (Value.string ByteArray.empty)), (A.imm [] true)]]) (.s [(hk28_1 v55), (hk28_1 v56), Blk.box [(iA y59.1.Kind), (iA y59.1.N), (A.v (Value.string y59.1.S)), (A.imm (List.map c_S_Value y59.1.L) false)]] ?_)))
   refine .st (v := (bA (y59.2 != 10))) (aBin_neq ..) ?_
   refine .biHN (fun hk60 => ?_) (fun hk60 => ?_)
   ·exact .ex (x0 _ _ _ _ _ _ _ _)
   refine .st (v := (iA (wr .i64 (v54 + 1)))) (aBin_add ..) ?_
   refine .st (v := [(hk28_1 v55), (hk28_1 v56)]) ((by kernel_rfl : _ = (bif ((((underss 2 (List.map c_S_Value v55.L)) && true)) && ((((underss 2 (List.map c_S_Value v56.L)) && true)) && true)) then some [(hk28_1 v55), (hk28_1 v56)] else none)).trans (by simp only [un0, unS])) ?_
   refine .cT ((by kernel_rfl : _ = (bif underss 2 (List.map cS v52) then true else false)).trans (by simp only [un0, unS])) ?_
   exact ih _
  exact .ex (x1 _ _ _ _)
def F10 (n : Nat)  : Option Bool :=
 (G23 (-3)).bind fun y1 => (G12 y1).bind fun y2 => (G23 100).bind fun y3 => (G24 ((ByteArray.mk #[97, 98]))).bind fun y4 => (G22 ([y3, y4])).bind fun y5 => (G12 y5).bind fun y6 => (G18 y6.1).bind fun y7 => (G14 y5).bind fun y8 => (bif (y2.2 != 0) then (some true) else (some (!strEq (bstr y2.1) ((ByteArray.mk #[1, 5]))))).bind fun y10 => (bif y10 then (some true) else (some (y6.2 != 0))).bind fun y15 => (bif y15 then (some true) else (some (!strEq (bstr y6.1) ((ByteArray.mk #[3, 2, 1, 200, 1, 2, 2, 97, 98]))))).bind fun y19 => (bif y19 then (some true) else (some (y7.2 != 0))).bind fun y24 => (bif y24 then (some true) else ((G21 y5 y7.1).bind fun y28 => some (!y28))).bind fun y29 => (bif y29 then (some true) else (some (y8.1 != 9))).bind fun y35 => (bif y35 then (some true) else (some (y8.2 != 0))).bind fun y39 => (bif y39 then (some true) else ((G24 ((ByteArray.mk #[]))).bind fun y43 => (G22 ([])).bind fun y44 => (G21 y43 y44).bind fun y45 => some y45)).bind fun y46 => bif y46 then (some false) else ((F10_10_0 n false ([(ByteArray.mk #[]), (ByteArray.mk #[1, 128, 0]), (ByteArray.mk #[1, 5, 0]), (ByteArray.mk #[2, 3, 97])]) 4 y5 y7.1 (n+8) 0).bind fun o61 => match o61 with | (Sum.inl ((y62, y63, y64, y65, y66))) => some y62 | (Sum.inr _) => (G16 ((S_Value.mk 0 0 ByteArray.empty ([])))).bind fun y74 => some (y74 == 1))
theorem T10 (C : Nat -> List A -> Option A) (n : Nat) (h12 : Orc12 C) (h14 : Orc14 C) (h16 : Orc16 C) (h18 : Orc18 C) (h21 : Orc21 C) (h22 : Orc22 C) (h23 : Orc23 C) (h24 : Orc24 C) : J (fun (o : R) y => ∃ v, o.1 = .ret v /\ snapE o.2 v = (bA y)) (evCall1 (cx C) (ec C n 8) (ey C n 8) (n+8) 10 [] [] 0) some (F10 n ) some := by
 refine .lp (e10 ..) ?_
 unfold F10
 refine .bd (g := fun (y : S_Value) => (A.agg [(iA y.Kind), (iA y.N), (A.v (Value.string y.S)), (A.imm (List.map c_S_Value y.L) false)])) (h23 (-3)) fun y1 => ?_
 refine .bd (g := fun (y : ((List UInt8) × Int)) => (A.tup [(A.imm (List.map c8 y.1) false), (iA y.2)])) (by show C 12 [snap _ (A.agg [(iA y1.Kind), (iA y1.N), (A.v (Value.string y1.S)), (A.imm (List.map c_S_Value y1.L) false)])] = _; simp only [sn0, snM]; exact h12 y1) fun y2 => ?_
 refine .s (A.imm (List.map c8 y2.1) false) (.s (iA y2.2) ?_)
 refine .bd (g := fun (y : S_Value) => (A.agg [(iA y.Kind), (iA y.N), (A.v (Value.string y.S)), (A.imm (List.map c_S_Value y.L) false)])) (h23 100) fun y3 => ?_
 refine .bd (g := fun (y : S_Value) => (A.agg [(iA y.Kind), (iA y.N), (A.v (Value.string y.S)), (A.imm (List.map c_S_Value y.L) false)])) (h24 ((ByteArray.mk #[97, 98]))) fun y4 => ?_
 refine .s (A.imm [[(iA y3.Kind), (iA y3.N), (A.v (Value.string y3.S)), (A.imm (List.map c_S_Value y3.L) false)], [(iA y4.Kind), (iA y4.N), (A.v (Value.string y4.S)), (A.imm (List.map c_S_Value y4.L) false)]] true) ?_
 refine .bd (g := fun (y : S_Value) => (A.agg [(iA y.Kind), (iA y.N), (A.v (Value.string y.S)), (A.imm (List.map c_S_Value y.L) false)])) (by show C 22 [snap _ (A.imm [[(iA y3.Kind), (iA y3.N), (A.v (Value.string y3.S)), (A.imm (List.map c_S_Value y3.L) false)], [(iA y4.Kind), (iA y4.N), (A.v (Value.string y4.S)), (A.imm (List.map c_S_Value y4.L) false)]] true)] = _; simp only [sn0, snM]; have q := h22 ([y3, y4]); simp only [List.map_cons, List.map_nil, cq_S_Value] at q; exact q) fun y5 => ?_
 refine .s ((A.ptr 0 0), [Blk.box [(iA 0), (iA 0), (A.v (Value.string ByteArray.empty)), (A.imm [] true)]]) (.s [Blk.box [(iA y5.Kind), (iA y5.N), (A.v (Value.string y5.S)), (A.imm (List.map c_S_Value y5.L) false)]] (.s (A.agg [(iA y5.Kind), (iA y5.N), (A.v (Value.string y5.S)), (A.imm (List.map c_S_Value y5.L) false)]) ?_))
 refine .bd (g := fun (y : ((List UInt8) × Int)) => (A.tup [(A.imm (List.map c8 y.1) false), (iA y.2)])) (by show C 12 [snap _ (A.agg [(iA y5.Kind), (iA y5.N), (A.v (Value.string y5.S)), (A.imm (List.map c_S_Value y5.L) false)])] = _; simp only [sn0, snM]; exact h12 y5) fun y6 => ?_
 refine .s (A.imm (List.map c8 y6.1) false) (.s (iA y6.2) ?_)
 refine .bd (g := fun (y : (S_Value × Int)) => (A.tup [(A.agg [(iA y.1.Kind), (iA y.1.N), (A.v (Value.string y.1.S)), (A.imm (List.map c_S_Value y.1.L) false)]), (iA y.2)])) (by show C 18 [snap _ (A.imm (List.map c8 y6.1) false)] = _; simp only [sn0, snM]; exact h18 y6.1) fun y7 => ?_
 refine .s (A.agg [(iA y7.1.Kind), (iA y7.1.N), (A.v (Value.string y7.1.S)), (A.imm (List.map c_S_Value y7.1.L) false)]) (.s (iA y7.2) (.s ((A.ptr 1 0), [Blk.box [(iA y5.Kind), (iA y5.N), (A.v (Value.string y5.S)), (A.imm (List.map c_S_Value y5.L) false)], Blk.box [(iA 0), (iA 0), (A.v (Value.string ByteArray.empty)), (A.imm [] true)]]) (.s [Blk.box [(iA y5.Kind), (iA y5.N), (A.v (Value.string y5.S)), (A.imm (List.map c_S_Value y5.L) false)], Blk.box [(iA y7.1.Kind), (iA y7.1.N), (A.v (Value.string y7.1.S)), (A.imm (List.map c_S_Value y7.1.L) false)]] (.s (A.agg [(iA y5.Kind), (iA y5.N), (A.v (Value.string y5.S)), (A.imm (List.map c_S_Value y5.L) false)]) ?_))))
 refine .bd (g := fun (y : (Int × Int)) => (A.tup [(iA y.1), (iA y.2)])) (by show C 14 [snap _ (A.agg [(iA y5.Kind), (iA y5.N), (A.v (Value.string y5.S)), (A.imm (List.map c_S_Value y5.L) false)])] = _; simp only [sn0, snM]; exact h14 y5) fun y8 => ?_
 refine .s (iA y8.1) (.s (iA y8.2) ?_)
 refine .st (v := (bA (y2.2 != 0))) (aBin_neq ..) ?_
 refine .bg (fun t (y : Bool) => ∃ j11 j12 j13 : A, t = [(bA y), j11, j12, j13]) ?_ ?_
 ·refine .biH (fun hk9 => ?_) (fun hk9 => ?_)
  ·exact .lg ⟨_, _, _, rfl⟩
  refine .st (v := (A.v (Value.string (bstr y2.1)))) (conv_bs (e := 5) (l := y2.1) (by kernel_rfl) (by kernel_rfl) (by kernel_rfl) (by kernel_rfl) (els_imm ..) rfl) ?_
  refine .st (v := (bA (!strEq (bstr y2.1) ((ByteArray.mk #[1, 5]))))) (aBin_neq_s ..) ?_
  exact .lg ⟨_, _, _, rfl⟩
 rintro _ y10 ⟨j11, j12, j13, rfl⟩
 iterate 4 refine .uc ?_
 refine .bg (fun t (y : Bool) => ∃ j16 j17 : A, t = [(bA y), j16, j17]) ?_ ?_
 ·refine .biH (fun hk14 => ?_) (fun hk14 => ?_)
  ·exact .lg ⟨_, _, rfl⟩
  refine .st (v := (bA (y6.2 != 0))) (aBin_neq ..) ?_
  exact .lg ⟨_, _, rfl⟩
 rintro _ y15 ⟨j16, j17, rfl⟩
 iterate 3 refine .uc ?_
 refine .bg (fun t (y : Bool) => ∃ j20 j21 j22 : A, t = [(bA y), j20, j21, j22]) ?_ ?_
 ·refine .biH (fun hk18 => ?_) (fun hk18 => ?_)
  ·exact .lg ⟨_, _, _, rfl⟩
  refine .st (v := (A.v (Value.string (bstr y6.1)))) (conv_bs (e := 5) (l := y6.1) (by kernel_rfl) (by kernel_rfl) (by kernel_rfl) (by kernel_rfl) (els_imm ..) rfl) ?_
  refine .st (v := (bA (!strEq (bstr y6.1) ((ByteArray.mk #[3, 2, 1, 200, 1, 2, 2, 97, 98]))))) (aBin_neq_s ..) ?_
  exact .lg ⟨_, _, _, rfl⟩
 rintro _ y19 ⟨j20, j21, j22, rfl⟩
 iterate 4 refine .uc ?_
 refine .bg (fun t (y : Bool) => ∃ j25 j26 : A, t = [(bA y), j25, j26]) ?_ ?_
 ·refine .biH (fun hk23 => ?_) (fun hk23 => ?_)
  ·exact .lg ⟨_, _, rfl⟩
  refine .st (v := (bA (y7.2 != 0))) (aBin_neq ..) ?_
  exact .lg ⟨_, _, rfl⟩
 rintro _ y24 ⟨j25, j26, rfl⟩
 iterate 3 refine .uc ?_
 refine .bg (fun t (y : Bool) => ∃ j30 j31 j32 j33 : A, t = [(bA y), j30, j31, j32, j33]) ?_ ?_
 ·refine .biH (fun hk27 => ?_) (fun hk27 => ?_)
  ·exact .lg ⟨_, _, _, _, rfl⟩
  refine .s (A.agg [(iA y5.Kind), (iA y5.N), (A.v (Value.string y5.S)), (A.imm (List.map c_S_Value y5.L) false)]) (.s (A.agg [(iA y7.1.Kind), (iA y7.1.N), (A.v (Value.string y7.1.S)), (A.imm (List.map c_S_Value y7.1.L) false)]) ?_)
  refine .bd (g := fun (y : Bool) => (bA y)) (by show C 21 [snap _ (A.agg [(iA y5.Kind), (iA y5.N), (A.v (Value.string y5.S)), (A.imm (List.map c_S_Value y5.L) false)]), snap _ (A.agg [(iA y7.1.Kind), (iA y7.1.N), (A.v (Value.string y7.1.S)), (A.imm (List.map c_S_Value y7.1.L) false)])] = _; simp only [sn0, snM]; exact h21 y5 y7.1) fun y28 => ?_
  refine .s (bA (!y28)) ?_
  exact .lg ⟨_, _, _, _, rfl⟩
 rintro _ y29 ⟨j30, j31, j32, j33, rfl⟩
 iterate 5 refine .uc ?_
 refine .bg (fun t (y : Bool) => ∃ j36 j37 : A, t = [(bA y), j36, j37]) ?_ ?_
 ·refine .biH (fun hk34 => ?_) (fun hk34 => ?_)
  ·exact .lg ⟨_, _, rfl⟩
  refine .st (v := (bA (y8.1 != 9))) (aBin_neq ..) ?_
  exact .lg ⟨_, _, rfl⟩
 rintro _ y35 ⟨j36, j37, rfl⟩
 iterate 3 refine .uc ?_
 refine .bg (fun t (y : Bool) => ∃ j40 j41 : A, t = [(bA y), j40, j41]) ?_ ?_
 ·refine .biH (fun hk38 => ?_) (fun hk38 => ?_)
  ·exact .lg ⟨_, _, rfl⟩
  refine .st (v := (bA (y8.2 != 0))) (aBin_neq ..) ?_
  exact .lg ⟨_, _, rfl⟩
 rintro _ y39 ⟨j40, j41, rfl⟩
 iterate 3 refine .uc ?_
 refine .bg (fun t (y : Bool) => ∃ j47 j48 j49 : A, t = [(bA y), j47, j48, j49]) ?_ ?_
 ·refine .biH (fun hk42 => ?_) (fun hk42 => ?_)
  ·exact .lg ⟨_, _, _, rfl⟩
  refine .bd (g := fun (y : S_Value) => (A.agg [(iA y.Kind), (iA y.N), (A.v (Value.string y.S)), (A.imm (List.map c_S_Value y.L) false)])) (h24 ((ByteArray.mk #[]))) fun y43 => ?_
  refine .bd (g := fun (y : S_Value) => (A.agg [(iA y.Kind), (iA y.N), (A.v (Value.string y.S)), (A.imm (List.map c_S_Value y.L) false)])) (by show C 22 [snap _ (A.imm [] true)] = _; simp only [sn0, snM]; exact h22 ([])) fun y44 => ?_
  refine .bd (g := fun (y : Bool) => (bA y)) (by show C 21 [snap _ (A.agg [(iA y43.Kind), (iA y43.N), (A.v (Value.string y43.S)), (A.imm (List.map c_S_Value y43.L) false)]), snap _ (A.agg [(iA y44.Kind), (iA y44.N), (A.v (Value.string y44.S)), (A.imm (List.map c_S_Value y44.L) false)])] = _; simp only [sn0, snM]; exact h21 y43 y44) fun y45 => ?_
  exact .lg ⟨_, _, _, rfl⟩
 rintro _ y46 ⟨j47, j48, j49, rfl⟩
 iterate 4 refine .uc ?_
 refine .biHN (fun hk50 => ?_) (fun hk50 => ?_)
 ·exact .lf rfl rfl ⟨_, rfl, rfl⟩
 refine .s (A.imm [[(A.v (Value.string ((ByteArray.mk #[]))))], [(A.v (Value.string ((ByteArray.mk #[1, 128, 0]))))], [(A.v (Value.string ((ByteArray.mk #[1, 5, 0]))))], [(A.v (Value.string ((ByteArray.mk #[2, 3, 97]))))]] true) (.s (iA 4) ?_)
 refine .as (T10_10_0 C n h12 h14 h16 h18 h21 h22 h23 h24 false ([(ByteArray.mk #[]), (ByteArray.mk #[1, 128, 0]), (ByteArray.mk #[1, 5, 0]), (ByteArray.mk #[2, 3, 97])]) 4 y5 y7.1 _ _ _ _ ?_ ?_ _ 0)
 ·intro y62 y63 y64 y65 y66 j67 j68 j69
  refine .un rfl ?_
  exact .lf rfl rfl ⟨_, rfl, rfl⟩
 ·intro j70 j71 j72 j73
  refine .un rfl ?_
  refine .cT (by kernel_rfl) ?_
  refine .s (A.agg [(iA 0), (iA 0), (A.v (Value.string ByteArray.empty)), (A.imm [] true)]) ?_
  refine .bd (g := fun (y : Int) => (iA y)) (by show C 16 [snap _ (A.agg [(iA 0), (iA 0), (A.v (Value.string ByteArray.empty)), (A.imm [] true)])] = _; simp only [sn0, snM]; exact h16 ((S_Value.mk 0 0 ByteArray.empty ([])))) fun y74 => ?_
  refine .st (v := (bA (y74 == 1))) (aBin_eql ..) ?_
  exact .lf rfl rfl ⟨_, rfl, rfl⟩
def G10  : Option Bool := F10 fuel0
def Orc10 (C : Nat -> List A -> Option A) : Prop := ∀ (_ : Unit), C 10 [] = (G10 ).map fun y => (bA y)
def OrcS36 (C : Nat -> List A -> Option A) (self : S_Value -> Int -> Option Int) : Prop := ∀ (a0 : S_Value) (a1 : Int), C 36 [(A.agg [(iA a0.Kind), (iA a0.N), (A.v (Value.string a0.S)), (A.imm (List.map c_S_Value a0.L) false)]), (iA a1)] = (self a0 a1).map fun y => (iA y)
def F36_36_0 (self : S_Value -> Int -> Option Int) (n : Nat) (v8 : Int) (v9 : Int) (v12 : S_Value) : Nat -> Int -> Int -> Option (Int)
 | 0, _, _ => none
 | m + 1, v10, v11 => (bif (decide (v11 < ((v12.L.length : Int)))) then (some (decide (v10 <= 1000))) else (some false)).bind fun y14 => bif y14 then ((getI v12.L v11).bind fun y18 => (self y18 (wr .i64 (v8 - 1))).bind fun y19 => F36_36_0 self n v8 v9 v12 m (wr .i64 (v10 + y19)) (wr .i64 (v11 + 1))) else (some v10)
theorem T36_36_0 (C : Nat -> List A -> Option A) (n : Nat) (self : S_Value -> Int -> Option Int) (hS : OrcS36 C self) (v8 : Int) (v9 : Int) (v12 : S_Value) {ρ γ : Type} {φ : ρ -> γ -> Prop} {kL : R -> Option ρ} {K : (Int) -> Option γ} (kx kg : Nat -> St -> Option R) (kr : St -> Option R) (kp : A -> St -> Option R) (x0 : ∀ (o0 : Int) (s1 : A) (s2 : A) (s4 : A) (s6 : A), J φ (kx 0 (St.mk [(1, s1), (2, s2), (4, s4), (5, (iA o0)), (6, s6)] [Blk.box [(iA v12.Kind), (iA v12.N), (A.v (Value.string v12.S)), (A.imm (List.map c_S_Value v12.L) false)]])) kL (K o0) some) :
  ∀ (m : Nat) (v10 : Int) (v11 : Int), J φ (loopR (cx C) (ec C n 8) (ey C n 8) (n+8) 36 0 0 1 kx kg kr kp m (St.mk [(1, (iA v8)), (2, (A.ptr 0 0)), (4, (iA v9)), (5, (iA v10)), (6, (iA v11))] [Blk.box [(iA v12.Kind), (iA v12.N), (A.v (Value.string v12.S)), (A.imm (List.map c_S_Value v12.L) false)]])) kL (F36_36_0 self n v8 v9 v12 m v10 v11) K := by
 intro m
 induction m with
 | zero => intros; exact .nn
 | succ m ih =>
  intro v10 v11
  refine .lp (e36_0 ..) ?_
  unfold F36_36_0
  refine .s (A.ptr 0 3) (.s (A.imm (List.map c_S_Value v12.L) false) ?_)
  refine .st (v := (iA ((v12.L.length : Int)))) (len_imm (e := 24) (h1 := by kernel_rfl) ..) ?_
  refine .st (v := (bA (decide (v11 < ((v12.L.length : Int)))))) (aBin_lss ..) ?_
  refine .bg (fun t (y : Bool) => ∃ j15 j16 : A, t = [(bA y), j15, j16]) ?_ ?_
  ·refine .biH (fun hk13 => ?_) (fun hk13 => ?_)
   ·refine .st (v := (bA (decide (v10 <= 1000)))) (aBin_leq ..) ?_
    exact .lg ⟨_, _, rfl⟩
   exact .lg ⟨_, _, rfl⟩
  rintro _ y14 ⟨j15, j16, rfl⟩
  iterate 3 refine .uc ?_
  refine .biHN (fun hk17 => ?_) (fun hk17 => ?_)
  ·refine .s (A.ptr 0 3) (.s (A.imm (List.map c_S_Value v12.L) false) ?_)
   refine .bd (g := fun (y : S_Value) => (A.ip [(iA y.Kind), (iA y.N), (A.v (Value.string y.S)), (A.imm (List.map c_S_Value y.L) false)])) ((idx_imm (e := 24) (es := 4) (h1 := by kernel_rfl) (h2 := by kernel_rfl) (h3 := fun _ => rfl) ..).trans (ci_S_Value _)) fun y18 => ?_
   refine .s (A.agg [(iA y18.Kind), (iA y18.N), (A.v (Value.string y18.S)), (A.imm (List.map c_S_Value y18.L) false)]) ?_
   refine .st (v := (iA (wr .i64 (v8 - 1)))) (aBin_sub ..) ?_
   refine .bd (g := fun (y : Int) => (iA y)) (by show C 36 [snap _ (A.agg [(iA y18.Kind), (iA y18.N), (A.v (Value.string y18.S)), (A.imm (List.map c_S_Value y18.L) false)]), snap _ (iA (wr .i64 (v8 - 1)))] = _; simp only [sn0, snM]; exact hS y18 (wr .i64 (v8 - 1))) fun y19 => ?_
   refine .st (v := (iA (wr .i64 (v10 + y19)))) (aBin_add ..) ?_
   refine .st (v := (iA (wr .i64 (v11 + 1)))) (aBin_add ..) ?_
   refine .s [Blk.box [(iA v12.Kind), (iA v12.N), (A.v (Value.string v12.S)), (A.imm (List.map c_S_Value v12.L) false)]] ?_
   refine .cT (by kernel_rfl) ?_
   exact ih _ _
  exact .ex (x0 _ _ _ _ _)
def F36 (self : S_Value -> Int -> Option Int) (n : Nat) (a0 : S_Value) (a1 : Int) : Option Int :=
 (bif (decide (a1 < 0)) then (some true) else (some (decide (150 < ((a0.L.length : Int)))))).bind fun y2 => bif y2 then (some 1000) else ((F36_36_0 self n a1 0 a0 (n+8) (wr .i64 (1 + (wr .i64 (Int.tdiv ((a0.S.size : Int)) 200)))) 0).bind fun o20 => match o20 with | y21 => some y21)
theorem T36 (C : Nat -> List A -> Option A) (n : Nat) (self : S_Value -> Int -> Option Int) (hS : OrcS36 C self) (a0 : S_Value) (a1 : Int) : J (fun (o : R) y => ∃ v, o.1 = .ret v /\ snapE o.2 v = (iA y)) (evCall1 (cx C) (ec C n 8) (ey C n 8) (n+8) 36 [(A.agg [(iA a0.Kind), (iA a0.N), (A.v (Value.string a0.S)), (A.imm (List.map c_S_Value a0.L) false)]), (iA a1)] [] 0) some (F36 self n a0 a1) some := by
 refine .lp (e36 ..) ?_
 unfold F36
 refine .s ((A.ptr 0 0), [Blk.box [(iA a0.Kind), (iA a0.N), (A.v (Value.string a0.S)), (A.imm (List.map c_S_Value a0.L) false)]]) (.s (A.ptr 0 2) (.s (A.v (Value.string a0.S)) (.s (iA ((a0.S.size : Int))) ?_)))
 refine .st (v := (iA (wr .i64 (Int.tdiv ((a0.S.size : Int)) 200)))) (aBin_quo (hb := by decide) ..) ?_
 refine .st (v := (iA (wr .i64 (1 + (wr .i64 (Int.tdiv ((a0.S.size : Int)) 200)))))) (aBin_add ..) ?_
 refine .st (v := (bA (decide (a1 < 0)))) (aBin_lss ..) ?_
 refine .bg (fun t (y : Bool) => ∃ j3 j4 j5 j6 : A, t = [(bA y), j3, j4, j5, j6]) ?_ ?_
 ·refine .biH (fun hk1 => ?_) (fun hk1 => ?_)
  ·exact .lg ⟨_, _, _, _, rfl⟩
  refine .s (A.ptr 0 3) (.s (A.imm (List.map c_S_Value a0.L) false) ?_)
  refine .st (v := (iA ((a0.L.length : Int)))) (len_imm (e := 24) (h1 := by kernel_rfl) ..) ?_
  refine .st (v := (bA (decide (150 < ((a0.L.length : Int)))))) (aBin_gtr ..) ?_
  exact .lg ⟨_, _, _, _, rfl⟩
 rintro _ y2 ⟨j3, j4, j5, j6, rfl⟩
 iterate 5 refine .uc ?_
 refine .biHN (fun hk7 => ?_) (fun hk7 => ?_)
 ·exact .lf rfl rfl ⟨_, rfl, rfl⟩
 refine .as (T36_36_0 C n  self hS a1 0 a0 _ _ _ _ ?_ _ (wr .i64 (1 + (wr .i64 (Int.tdiv ((a0.S.size : Int)) 200)))) 0)
 ·intro y21 j22 j23 j24 j25
  refine .un rfl ?_
  refine .cT (by kernel_rfl) ?_
  exact .lf rfl rfl ⟨_, rfl, rfl⟩
def R36 : Nat -> S_Value -> Int -> Option Int
 | 0 => fun _ _ => none
 | q + 1 => fun a0 a1 => F36 (R36 q) fuel0 a0 a1
def G36 (a0 : S_Value) (a1 : Int) : Option Int := R36 fuel0 a0 a1
def Orc36 (C : Nat -> List A -> Option A) : Prop := ∀ (a0 : S_Value) (a1 : Int), C 36 [(A.agg [(iA a0.Kind), (iA a0.N), (A.v (Value.string a0.S)), (A.imm (List.map c_S_Value a0.L) false)]), (iA a1)] = (G36 a0 a1).map fun y => (iA y)
def F25 (n : Nat) (a0 : S_Value) (a1 : Int) : Option Bool :=
 (G36 a0 a1).bind fun y1 => some (decide (y1 <= 200))
theorem T25 (C : Nat -> List A -> Option A) (n : Nat) (h36 : Orc36 C) (a0 : S_Value) (a1 : Int) : J (fun (o : R) y => ∃ v, o.1 = .ret v /\ snapE o.2 v = (bA y)) (evCall1 (cx C) (ec C n 8) (ey C n 8) (n+8) 25 [(A.agg [(iA a0.Kind), (iA a0.N), (A.v (Value.string a0.S)), (A.imm (List.map c_S_Value a0.L) false)]), (iA a1)] [] 0) some (F25 n a0 a1) some := by
 refine .lp (e25 ..) ?_
 unfold F25
 refine .s ((A.ptr 0 0), [Blk.box [(iA a0.Kind), (iA a0.N), (A.v (Value.string a0.S)), (A.imm (List.map c_S_Value a0.L) false)]]) (.s (A.agg [(iA a0.Kind), (iA a0.N), (A.v (Value.string a0.S)), (A.imm (List.map c_S_Value a0.L) false)]) ?_)
 refine .bd (g := fun (y : Int) => (iA y)) (by show C 36 [snap _ (A.agg [(iA a0.Kind), (iA a0.N), (A.v (Value.string a0.S)), (A.imm (List.map c_S_Value a0.L) false)]), snap _ (iA a1)] = _; simp only [sn0, snM]; exact h36 a0 a1) fun y1 => ?_
 refine .st (v := (bA (decide (y1 <= 200)))) (aBin_leq ..) ?_
 exact .lf rfl rfl ⟨_, rfl, rfl⟩
def G25 (a0 : S_Value) (a1 : Int) : Option Bool := F25 fuel0 a0 a1
def Orc25 (C : Nat -> List A -> Option A) : Prop := ∀ (a0 : S_Value) (a1 : Int), C 25 [(A.agg [(iA a0.Kind), (iA a0.N), (A.v (Value.string a0.S)), (A.imm (List.map c_S_Value a0.L) false)]), (iA a1)] = (G25 a0 a1).map fun y => (bA y)
def F11_11_0 (n : Nat) (v1 : Bool) (v2 : (List S_Value)) (v3 : Int) : Nat -> Int -> Option ((Bool × Int × Int × ByteArray × (List S_Value)) ⊕ (Unit))
 | 0, _ => none
 | m + 1, v4 => bif (decide (v4 < v3)) then ((getI v2 v4).bind fun y6 => (G25 y6 20).bind fun y7 => bif (!y7) then (some ((Sum.inl ((false, y6.Kind, y6.N, y6.S, y6.L))))) else (F11_11_0 n v1 v2 v3 m (wr .i64 (v4 + 1)))) else (some ((Sum.inr (()))))
theorem T11_11_0 (C : Nat -> List A -> Option A) (n : Nat) (h25 : Orc25 C) (v1 : Bool) (v2 : (List S_Value)) (v3 : Int) {ρ γ : Type} {φ : ρ -> γ -> Prop} {kL : R -> Option ρ} {K : ((Bool × Int × Int × ByteArray × (List S_Value)) ⊕ (Unit)) -> Option γ} (kx kg : Nat -> St -> Option R) (kr : St -> Option R) (kp : A -> St -> Option R) (x0 : ∀ (o0 : Bool) (o1 : Int) (o2 : Int) (o3 : ByteArray) (o4 : (List S_Value)) (s5 : A) (s6 : A) (s7 : A), J φ (kr (St.mk [(2, (bA o0)), (5, s5), (6, s6), (7, s7)] [Blk.box [(iA o1), (iA o2), (A.v (Value.string o3)), (A.imm (List.map c_S_Value o4) false)]])) kL (K (Sum.inl ((o0, o1, o2, o3, o4)))) some) (x1 : ∀ (s2 : A) (s5 : A) (s6 : A) (s7 : A), J φ (kx 0 (St.mk [(2, s2), (5, s5), (6, s6), (7, s7)] [])) kL (K (Sum.inr (()))) some) :
  ∀ (m : Nat) (v4 : Int), J φ (loopR (cx C) (ec C n 8) (ey C n 8) (n+8) 11 0 0 0 kx kg kr kp m (St.mk [(2, (bA v1)), (5, (A.imm (List.map c_S_Value v2) false)), (6, (iA v3)), (7, (iA v4))] [])) kL (F11_11_0 n v1 v2 v3 m v4) K := by
 intro m
 induction m with
 | zero => intros; exact .nn
 | succ m ih =>
  intro v4
  refine .lp (e11_0 ..) ?_
  unfold F11_11_0
  refine .st (v := (bA (decide (v4 < v3)))) (aBin_lss ..) ?_
  refine .biHN (fun hk5 => ?_) (fun hk5 => ?_)
  ·refine .bd (g := fun (y : S_Value) => (A.ip [(iA y.Kind), (iA y.N), (A.v (Value.string y.S)), (A.imm (List.map c_S_Value y.L) false)])) ((idx_imm (e := 24) (es := 4) (h1 := by kernel_rfl) (h2 := by kernel_rfl) (h3 := fun _ => rfl) ..).trans (ci_S_Value _)) fun y6 => ?_
   refine .s (A.agg [(iA y6.Kind), (iA y6.N), (A.v (Value.string y6.S)), (A.imm (List.map c_S_Value y6.L) false)]) (.s ((A.ptr 0 0), [Blk.box [(iA 0), (iA 0), (A.v (Value.string ByteArray.empty)), (A.imm [] true)]]) (.s [Blk.box [(iA y6.Kind), (iA y6.N), (A.v (Value.string y6.S)), (A.imm (List.map c_S_Value y6.L) false)]] (.s (A.agg [(iA y6.Kind), (iA y6.N), (A.v (Value.string y6.S)), (A.imm (List.map c_S_Value y6.L) false)]) ?_)))
   refine .bd (g := fun (y : Bool) => (bA y)) (by show C 25 [snap _ (A.agg [(iA y6.Kind), (iA y6.N), (A.v (Value.string y6.S)), (A.imm (List.map c_S_Value y6.L) false)]), snap _ (iA 20)] = _; simp only [sn0, snM]; exact h25 y6 20) fun y7 => ?_
   refine .s (bA (!y7)) ?_
   refine .biHN (fun hk8 => ?_) (fun hk8 => ?_)
   ·exact .ex (x0 _ _ _ _ _ _ _ _)
   refine .st (v := (iA (wr .i64 (v4 + 1)))) (aBin_add ..) ?_
   refine .s [] ?_
   refine .cT ((by kernel_rfl : _ = (bif underss 0 (List.map c_S_Value v2) then true else false)).trans (by simp only [un0, unS])) ?_
   exact ih _
  exact .ex (x1 _ _ _ _)
def F11 (n : Nat) (a0 : (List S_Value)) : Option Bool :=
 (F11_11_0 n false a0 ((a0.length : Int)) (n+8) 0).bind fun o9 => match o9 with | (Sum.inl ((y10, y11, y12, y13, y14))) => some y10 | (Sum.inr _) => some true
theorem T11 (C : Nat -> List A -> Option A) (n : Nat) (h25 : Orc25 C) (a0 : (List S_Value)) : J (fun (o : R) y => ∃ v, o.1 = .ret v /\ snapE o.2 v = (bA y)) (evCall1 (cx C) (ec C n 8) (ey C n 8) (n+8) 11 [(A.imm (List.map c_S_Value a0) false)] [] 0) some (F11 n a0) some := by
 refine .lp (e11 ..) ?_
 unfold F11
 refine .st (v := (iA ((a0.length : Int)))) (len_imm (e := 24) (h1 := by kernel_rfl) ..) ?_
 refine .as (T11_11_0 C n h25 false a0 ((a0.length : Int)) _ _ _ _ ?_ ?_ _ 0)
 ·intro y10 y11 y12 y13 y14 j15 j16 j17
  refine .un rfl ?_
  exact .lf rfl rfl ⟨_, rfl, rfl⟩
 ·intro j18 j19 j20 j21
  refine .un rfl ?_
  refine .cT (by kernel_rfl) ?_
  exact .lf rfl rfl ⟨_, rfl, rfl⟩
def G11 (a0 : (List S_Value)) : Option Bool := F11 fuel0 a0
def Orc11 (C : Nat -> List A -> Option A) : Prop := ∀ (a0 : (List S_Value)), C 11 [(A.imm (List.map c_S_Value a0) false)] = (G11 a0).map fun y => (bA y)
end Go.Proofs.Ytmjaehondldaaaa
