/-
 What is proved of the functions, put together: by a tool.
-/
import Derived.Test.YtmjaehondldaaaaT
namespace Go.Proofs.Ytmjaehondldaaaa
open Go.Proofs.Try (prog)
set_option linter.unusedVariables false
set_option linter.unusedSimpArgs false
set_option maxHeartbeats 4000000
set_option maxRecDepth 100000
theorem in_S_Value : Inj c_S_Value := fun x y h => by
 unfold c_S_Value at h
 simp only [List.cons.injEq, A.v.injEq, Value.int.injEq, Value.bool.injEq, Value.string.injEq, and_true, true_and] at h
 have h3 := ia_S_Value x y (by simp [h])
 obtain ⟨xKind, xN, xS, lx⟩ := x; obtain ⟨yKind, yN, yS, ly⟩ := y
 simp_all
noncomputable def C0 : Nat -> List A -> Option A := fun _ _ => none
def AllOK (C : Nat -> List A -> Option A) : Prop := ∀ (k : Nat) (args : List A) (r : A), C k args = some r -> CallOK prog (cx C0).glob k args r
theorem orc0 : AllOK C0 := fun k args r h => (by cases h)
theorem orc_upd {C : Nat -> List A -> Option A} {k : Nat} {c : List A -> Option A} (h : AllOK C) (hc : ∀ args r, c args = some r -> CallOK prog (cx C0).glob k args r) : AllOK (upd C k c) := fun j args r hr => by
 simp only [upd] at hr
 rw [bcond] at hr
 split at hr
 ·rename_i hj
  rw [Nat.eq_of_beq_eq_true hj]; exact hc args r hr
 ·exact h j args r hr
def x23 (x : Int) : List A := [(iA x)]
theorem ix23 : Inj x23 := fun x y h => by
 simp only [x23, in0] at h
 exact h
noncomputable def o23 (args : List A) : Option A := orcOf x23 (fun x => (G23 x).map fun y => (A.agg [(iA y.Kind), (iA y.N), (A.v (Value.string y.S)), (A.imm (List.map c_S_Value y.L) false)])) args
theorem ok23 (args : List A) (r : A) (h : o23 args = some r) : CallOK prog (cx C0).glob 23 args r := by
 obtain ⟨x, y, rfl, hy, rfl⟩ := orcOf_map h
 exact ok_J (f := fun (y : S_Value) => (A.agg [(iA y.Kind), (iA y.N), (A.v (Value.string y.S)), (A.imm (List.map c_S_Value y.L) false)])) (cx := cx C0) (fun k args r _ h => orc0 k args r h) (by kernel_rfl) (T23 C0 fuel0  x) hy
noncomputable def C1 : Nat -> List A -> Option A := upd C0 23 o23
theorem orc_C1 : AllOK C1 := orc_upd orc0 ok23
def x28 (x : S_Value) : List A := [(A.agg [(iA x.Kind), (iA x.N), (A.v (Value.string x.S)), (A.imm (List.map c_S_Value x.L) false)])]
theorem ix28 : Inj x28 := fun x y h => by
 simp only [x28, in0, map_inj (in_S_Value)] at h
 obtain ⟨xa0Kind, xa0N, xa0S, xa0L⟩ := x
 obtain ⟨ya0Kind, ya0N, ya0S, ya0L⟩ := y
 simp_all
noncomputable def o28 (args : List A) : Option A := orcOf x28 (fun x => (G28 x).map fun y => (A.tup [(iA y.1), (bA y.2)])) args
noncomputable def o28s (q : Nat) (args : List A) : Option A := orcOf x28 (fun x => (R28 q x).map fun y => (A.tup [(iA y.1), (bA y.2)])) args
noncomputable def C1s28 (q : Nat) : Nat -> List A -> Option A := upd C1 28 (o28s q)
theorem s28 (q : Nat) : OrcS28 (C1s28 q) (R28 q) := fun a0 => (by kernel_rfl : _ = o28s q (x28 a0)).trans (orcOf_eq _ ix28 a0)
theorem okq28 : ∀ (q : Nat) (args : List A) (r : A) (h : o28s q args = some r), CallOK prog (cx C0).glob 28 args r
 | 0, args, r, h => by
  obtain ⟨x, y, rfl, hy, rfl⟩ := orcOf_map h
  cases hy
 | q + 1, args, r, h => by
  obtain ⟨x, y, rfl, hy, rfl⟩ := orcOf_map h
  exact ok_J (f := fun (y : (Int × Bool)) => (A.tup [(iA y.1), (bA y.2)])) (cx := cx (C1s28 q)) (fun k args r _ h => orc_upd orc_C1 (okq28 q) k args r h) (by kernel_rfl) (T28 (C1s28 q) fuel0  (R28 q) (s28 q) x) hy
theorem ok28 (args : List A) (r : A) (h : o28 args = some r) : CallOK prog (cx C0).glob 28 args r := okq28 fuel0 args r h
noncomputable def C2 : Nat -> List A -> Option A := upd C1 28 o28
theorem orc_C2 : AllOK C2 := orc_upd orc_C1 ok28
def x16 (x : S_Value) : List A := [(A.agg [(iA x.Kind), (iA x.N), (A.v (Value.string x.S)), (A.imm (List.map c_S_Value x.L) false)])]
theorem ix16 : Inj x16 := fun x y h => by
 simp only [x16, in0, map_inj (in_S_Value)] at h
 obtain ⟨xa0Kind, xa0N, xa0S, xa0L⟩ := x
 obtain ⟨ya0Kind, ya0N, ya0S, ya0L⟩ := y
 simp_all
noncomputable def o16 (args : List A) : Option A := orcOf x16 (fun x => (G16 x).map fun y => (iA y)) args
theorem r28_C2 : Orc28 C2 := fun a0 => (by kernel_rfl : _ = o28 (x28 a0)).trans (orcOf_eq _ ix28 a0)
theorem ok16 (args : List A) (r : A) (h : o16 args = some r) : CallOK prog (cx C0).glob 16 args r := by
 obtain ⟨x, y, rfl, hy, rfl⟩ := orcOf_map h
 exact ok_J (f := fun (y : Int) => (iA y)) (cx := cx C2) (fun k args r _ h => orc_C2 k args r h) (by kernel_rfl) (T16 C2 fuel0 (r28_C2) x) hy
noncomputable def C3 : Nat -> List A -> Option A := upd C2 16 o16
theorem orc_C3 : AllOK C3 := orc_upd orc_C2 ok16
def x39 (x : Int) : List A := [(iA x)]
theorem ix39 : Inj x39 := fun x y h => by
 simp only [x39, in0] at h
 exact h
noncomputable def o39 (args : List A) : Option A := orcOf x39 (fun x => (G39 x).map fun y => (A.v (.int .u64 y))) args
theorem ok39 (args : List A) (r : A) (h : o39 args = some r) : CallOK prog (cx C0).glob 39 args r := by
 obtain ⟨x, y, rfl, hy, rfl⟩ := orcOf_map h
 exact ok_J (f := fun (y : Int) => (A.v (.int .u64 y))) (cx := cx C3) (fun k args r _ h => orc_C3 k args r h) (by kernel_rfl) (T39 C3 fuel0  x) hy
noncomputable def C4 : Nat -> List A -> Option A := upd C3 39 o39
theorem orc_C4 : AllOK C4 := orc_upd orc_C3 ok39
def x12 (x : S_Value) : List A := [(A.agg [(iA x.Kind), (iA x.N), (A.v (Value.string x.S)), (A.imm (List.map c_S_Value x.L) false)])]
theorem ix12 : Inj x12 := fun x y h => by
 simp only [x12, in0, map_inj (in_S_Value)] at h
 obtain ⟨xa0Kind, xa0N, xa0S, xa0L⟩ := x
 obtain ⟨ya0Kind, ya0N, ya0S, ya0L⟩ := y
 simp_all
noncomputable def o12 (args : List A) : Option A := orcOf x12 (fun x => (G12 x).map fun y => (A.tup [(A.imm (List.map c8 y.1) false), (iA y.2)])) args
theorem r16_C4 : Orc16 C4 := fun a0 => (by kernel_rfl : _ = o16 (x16 a0)).trans (orcOf_eq _ ix16 a0)
theorem r39_C4 : Orc39 C4 := fun a0 => (by kernel_rfl : _ = o39 (x39 a0)).trans (orcOf_eq _ ix39 a0)
theorem ok12 (args : List A) (r : A) (h : o12 args = some r) : CallOK prog (cx C0).glob 12 args r := by
 obtain ⟨x, y, rfl, hy, rfl⟩ := orcOf_map h
 exact ok_J (f := fun (y : ((List UInt8) × Int)) => (A.tup [(A.imm (List.map c8 y.1) false), (iA y.2)])) (cx := cx C4) (fun k args r _ h => orc_C4 k args r h) (by kernel_rfl) (T12 C4 fuel0 (r16_C4) (r39_C4) x) hy
noncomputable def C5 : Nat -> List A -> Option A := upd C4 12 o12
theorem orc_C5 : AllOK C5 := orc_upd orc_C4 ok12
def x24 (x : ByteArray) : List A := [(A.v (Value.string x))]
theorem ix24 : Inj x24 := fun x y h => by
 simp only [x24, in0] at h
 exact h
noncomputable def o24 (args : List A) : Option A := orcOf x24 (fun x => (G24 x).map fun y => (A.agg [(iA y.Kind), (iA y.N), (A.v (Value.string y.S)), (A.imm (List.map c_S_Value y.L) false)])) args
theorem ok24 (args : List A) (r : A) (h : o24 args = some r) : CallOK prog (cx C0).glob 24 args r := by
 obtain ⟨x, y, rfl, hy, rfl⟩ := orcOf_map h
 exact ok_J (f := fun (y : S_Value) => (A.agg [(iA y.Kind), (iA y.N), (A.v (Value.string y.S)), (A.imm (List.map c_S_Value y.L) false)])) (cx := cx C5) (fun k args r _ h => orc_C5 k args r h) (by kernel_rfl) (T24 C5 fuel0  x) hy
noncomputable def C6 : Nat -> List A -> Option A := upd C5 24 o24
theorem orc_C6 : AllOK C6 := orc_upd orc_C5 ok24
def x22 (x : (List S_Value)) : List A := [(A.imm (List.map c_S_Value x) false)]
theorem ix22 : Inj x22 := fun x y h => by
 simp only [x22, in0, map_inj (in_S_Value)] at h
 exact h
noncomputable def o22 (args : List A) : Option A := orcOf x22 (fun x => (G22 x).map fun y => (A.agg [(iA y.Kind), (iA y.N), (A.v (Value.string y.S)), (A.imm (List.map c_S_Value y.L) false)])) args
theorem ok22 (args : List A) (r : A) (h : o22 args = some r) : CallOK prog (cx C0).glob 22 args r := by
 obtain ⟨x, y, rfl, hy, rfl⟩ := orcOf_map h
 exact ok_J (f := fun (y : S_Value) => (A.agg [(iA y.Kind), (iA y.N), (A.v (Value.string y.S)), (A.imm (List.map c_S_Value y.L) false)])) (cx := cx C6) (fun k args r _ h => orc_C6 k args r h) (by kernel_rfl) (T22 C6 fuel0  x) hy
noncomputable def C7 : Nat -> List A -> Option A := upd C6 22 o22
theorem orc_C7 : AllOK C7 := orc_upd orc_C6 ok22
def x45 (x : Int) : List A := [(A.v (.int .u64 x))]
theorem ix45 : Inj x45 := fun x y h => by
 simp only [x45, in0] at h
 exact h
noncomputable def o45 (args : List A) : Option A := orcOf x45 (fun x => (G45 x).map fun y => (iA y)) args
theorem ok45 (args : List A) (r : A) (h : o45 args = some r) : CallOK prog (cx C0).glob 45 args r := by
 obtain ⟨x, y, rfl, hy, rfl⟩ := orcOf_map h
 exact ok_J (f := fun (y : Int) => (iA y)) (cx := cx C7) (fun k args r _ h => orc_C7 k args r h) (by kernel_rfl) (T45 C7 fuel0  x) hy
noncomputable def C8 : Nat -> List A -> Option A := upd C7 45 o45
theorem orc_C8 : AllOK C8 := orc_upd orc_C7 ok45
def x18 (x : (List UInt8)) : List A := [(A.imm (List.map c8 x) false)]
theorem ix18 : Inj x18 := fun x y h => by
 simp only [x18, in0, map_inj (in_c8)] at h
 exact h
noncomputable def o18 (args : List A) : Option A := orcOf x18 (fun x => (G18 x).map fun y => (A.tup [(A.agg [(iA y.1.Kind), (iA y.1.N), (A.v (Value.string y.1.S)), (A.imm (List.map c_S_Value y.1.L) false)]), (iA y.2)])) args
theorem r45_C8 : Orc45 C8 := fun a0 => (by kernel_rfl : _ = o45 (x45 a0)).trans (orcOf_eq _ ix45 a0)
theorem ok18 (args : List A) (r : A) (h : o18 args = some r) : CallOK prog (cx C0).glob 18 args r := by
 obtain ⟨x, y, rfl, hy, rfl⟩ := orcOf_map h
 exact ok_J (f := fun (y : (S_Value × Int)) => (A.tup [(A.agg [(iA y.1.Kind), (iA y.1.N), (A.v (Value.string y.1.S)), (A.imm (List.map c_S_Value y.1.L) false)]), (iA y.2)])) (cx := cx C8) (fun k args r _ h => orc_C8 k args r h) (by kernel_rfl) (T18 C8 fuel0 (r45_C8) x) hy
noncomputable def C9 : Nat -> List A -> Option A := upd C8 18 o18
theorem orc_C9 : AllOK C9 := orc_upd orc_C8 ok18
def x14 (x : S_Value) : List A := [(A.agg [(iA x.Kind), (iA x.N), (A.v (Value.string x.S)), (A.imm (List.map c_S_Value x.L) false)])]
theorem ix14 : Inj x14 := fun x y h => by
 simp only [x14, in0, map_inj (in_S_Value)] at h
 obtain ⟨xa0Kind, xa0N, xa0S, xa0L⟩ := x
 obtain ⟨ya0Kind, ya0N, ya0S, ya0L⟩ := y
 simp_all
noncomputable def o14 (args : List A) : Option A := orcOf x14 (fun x => (G14 x).map fun y => (A.tup [(iA y.1), (iA y.2)])) args
theorem r12_C9 : Orc12 C9 := fun a0 => (by kernel_rfl : _ = o12 (x12 a0)).trans (orcOf_eq _ ix12 a0)
theorem ok14 (args : List A) (r : A) (h : o14 args = some r) : CallOK prog (cx C0).glob 14 args r := by
 obtain ⟨x, y, rfl, hy, rfl⟩ := orcOf_map h
 exact ok_J (f := fun (y : (Int × Int)) => (A.tup [(iA y.1), (iA y.2)])) (cx := cx C9) (fun k args r _ h => orc_C9 k args r h) (by kernel_rfl) (T14 C9 fuel0 (r12_C9) x) hy
noncomputable def C10 : Nat -> List A -> Option A := upd C9 14 o14
theorem orc_C10 : AllOK C10 := orc_upd orc_C9 ok14
def x21 (x : S_Value × S_Value) : List A := [(A.agg [(iA x.1.Kind), (iA x.1.N), (A.v (Value.string x.1.S)), (A.imm (List.map c_S_Value x.1.L) false)]), (A.agg [(iA x.2.Kind), (iA x.2.N), (A.v (Value.string x.2.S)), (A.imm (List.map c_S_Value x.2.L) false)])]
theorem ix21 : Inj x21 := fun x y h => by
 simp only [x21, in0, map_inj (in_S_Value)] at h
 obtain ⟨⟨xa0Kind, xa0N, xa0S, xa0L⟩, ⟨xa1Kind, xa1N, xa1S, xa1L⟩⟩ := x
 obtain ⟨⟨ya0Kind, ya0N, ya0S, ya0L⟩, ⟨ya1Kind, ya1N, ya1S, ya1L⟩⟩ := y
 simp_all
noncomputable def o21 (args : List A) : Option A := orcOf x21 (fun x => (G21 x.1 x.2).map fun y => (bA y)) args
noncomputable def o21s (q : Nat) (args : List A) : Option A := orcOf x21 (fun x => (R21 q x.1 x.2).map fun y => (bA y)) args
noncomputable def C10s21 (q : Nat) : Nat -> List A -> Option A := upd C10 21 (o21s q)
theorem s21 (q : Nat) : OrcS21 (C10s21 q) (R21 q) := fun a0 a1 => (by kernel_rfl : _ = o21s q (x21 (a0, a1))).trans (orcOf_eq _ ix21 (a0, a1))
theorem okq21 : ∀ (q : Nat) (args : List A) (r : A) (h : o21s q args = some r), CallOK prog (cx C0).glob 21 args r
 | 0, args, r, h => by
  obtain ⟨x, y, rfl, hy, rfl⟩ := orcOf_map h
  cases hy
 | q + 1, args, r, h => by
  obtain ⟨x, y, rfl, hy, rfl⟩ := orcOf_map h
  exact ok_J (f := fun (y : Bool) => (bA y)) (cx := cx (C10s21 q)) (fun k args r _ h => orc_upd orc_C10 (okq21 q) k args r h) (by kernel_rfl) (T21 (C10s21 q) fuel0  (R21 q) (s21 q) x.1 x.2) hy
theorem ok21 (args : List A) (r : A) (h : o21 args = some r) : CallOK prog (cx C0).glob 21 args r := okq21 fuel0 args r h
noncomputable def C11 : Nat -> List A -> Option A := upd C10 21 o21
theorem orc_C11 : AllOK C11 := orc_upd orc_C10 ok21
def x10 (x : Unit) : List A := []
theorem ix10 : Inj x10 := fun _ _ _ => rfl
noncomputable def o10 (args : List A) : Option A := orcOf x10 (fun x => (G10 ).map fun y => (bA y)) args
theorem r12_C11 : Orc12 C11 := fun a0 => (by kernel_rfl : _ = o12 (x12 a0)).trans (orcOf_eq _ ix12 a0)
theorem r14_C11 : Orc14 C11 := fun a0 => (by kernel_rfl : _ = o14 (x14 a0)).trans (orcOf_eq _ ix14 a0)
theorem r16_C11 : Orc16 C11 := fun a0 => (by kernel_rfl : _ = o16 (x16 a0)).trans (orcOf_eq _ ix16 a0)
theorem r18_C11 : Orc18 C11 := fun a0 => (by kernel_rfl : _ = o18 (x18 a0)).trans (orcOf_eq _ ix18 a0)
theorem r21_C11 : Orc21 C11 := fun a0 a1 => (by kernel_rfl : _ = o21 (x21 (a0, a1))).trans (orcOf_eq _ ix21 (a0, a1))
theorem r22_C11 : Orc22 C11 := fun a0 => (by kernel_rfl : _ = o22 (x22 a0)).trans (orcOf_eq _ ix22 a0)
theorem r23_C11 : Orc23 C11 := fun a0 => (by kernel_rfl : _ = o23 (x23 a0)).trans (orcOf_eq _ ix23 a0)
theorem r24_C11 : Orc24 C11 := fun a0 => (by kernel_rfl : _ = o24 (x24 a0)).trans (orcOf_eq _ ix24 a0)
theorem ok10 (args : List A) (r : A) (h : o10 args = some r) : CallOK prog (cx C0).glob 10 args r := by
 obtain ⟨x, y, rfl, hy, rfl⟩ := orcOf_map h
 exact ok_J (f := fun (y : Bool) => (bA y)) (cx := cx C11) (fun k args r _ h => orc_C11 k args r h) (by kernel_rfl) (T10 C11 fuel0 (r12_C11) (r14_C11) (r16_C11) (r18_C11) (r21_C11) (r22_C11) (r23_C11) (r24_C11) ) hy
noncomputable def C12 : Nat -> List A -> Option A := upd C11 10 o10
theorem orc_C12 : AllOK C12 := orc_upd orc_C11 ok10
def x36 (x : S_Value × Int) : List A := [(A.agg [(iA x.1.Kind), (iA x.1.N), (A.v (Value.string x.1.S)), (A.imm (List.map c_S_Value x.1.L) false)]), (iA x.2)]
theorem ix36 : Inj x36 := fun x y h => by
 simp only [x36, in0, map_inj (in_S_Value)] at h
 obtain ⟨⟨xa0Kind, xa0N, xa0S, xa0L⟩, xa1⟩ := x
 obtain ⟨⟨ya0Kind, ya0N, ya0S, ya0L⟩, ya1⟩ := y
 simp_all
noncomputable def o36 (args : List A) : Option A := orcOf x36 (fun x => (G36 x.1 x.2).map fun y => (iA y)) args
noncomputable def o36s (q : Nat) (args : List A) : Option A := orcOf x36 (fun x => (R36 q x.1 x.2).map fun y => (iA y)) args
noncomputable def C12s36 (q : Nat) : Nat -> List A -> Option A := upd C12 36 (o36s q)
theorem s36 (q : Nat) : OrcS36 (C12s36 q) (R36 q) := fun a0 a1 => (by kernel_rfl : _ = o36s q (x36 (a0, a1))).trans (orcOf_eq _ ix36 (a0, a1))
theorem okq36 : ∀ (q : Nat) (args : List A) (r : A) (h : o36s q args = some r), CallOK prog (cx C0).glob 36 args r
 | 0, args, r, h => by
  obtain ⟨x, y, rfl, hy, rfl⟩ := orcOf_map h
  cases hy
 | q + 1, args, r, h => by
  obtain ⟨x, y, rfl, hy, rfl⟩ := orcOf_map h
  exact ok_J (f := fun (y : Int) => (iA y)) (cx := cx (C12s36 q)) (fun k args r _ h => orc_upd orc_C12 (okq36 q) k args r h) (by kernel_rfl) (T36 (C12s36 q) fuel0  (R36 q) (s36 q) x.1 x.2) hy
theorem ok36 (args : List A) (r : A) (h : o36 args = some r) : CallOK prog (cx C0).glob 36 args r := okq36 fuel0 args r h
noncomputable def C13 : Nat -> List A -> Option A := upd C12 36 o36
theorem orc_C13 : AllOK C13 := orc_upd orc_C12 ok36
def x25 (x : S_Value × Int) : List A := [(A.agg [(iA x.1.Kind), (iA x.1.N), (A.v (Value.string x.1.S)), (A.imm (List.map c_S_Value x.1.L) false)]), (iA x.2)]
theorem ix25 : Inj x25 := fun x y h => by
 simp only [x25, in0, map_inj (in_S_Value)] at h
 obtain ⟨⟨xa0Kind, xa0N, xa0S, xa0L⟩, xa1⟩ := x
 obtain ⟨⟨ya0Kind, ya0N, ya0S, ya0L⟩, ya1⟩ := y
 simp_all
noncomputable def o25 (args : List A) : Option A := orcOf x25 (fun x => (G25 x.1 x.2).map fun y => (bA y)) args
theorem r36_C13 : Orc36 C13 := fun a0 a1 => (by kernel_rfl : _ = o36 (x36 (a0, a1))).trans (orcOf_eq _ ix36 (a0, a1))
theorem ok25 (args : List A) (r : A) (h : o25 args = some r) : CallOK prog (cx C0).glob 25 args r := by
 obtain ⟨x, y, rfl, hy, rfl⟩ := orcOf_map h
 exact ok_J (f := fun (y : Bool) => (bA y)) (cx := cx C13) (fun k args r _ h => orc_C13 k args r h) (by kernel_rfl) (T25 C13 fuel0 (r36_C13) x.1 x.2) hy
noncomputable def C14 : Nat -> List A -> Option A := upd C13 25 o25
theorem orc_C14 : AllOK C14 := orc_upd orc_C13 ok25
def x11 (x : (List S_Value)) : List A := [(A.imm (List.map c_S_Value x) false)]
theorem ix11 : Inj x11 := fun x y h => by
 simp only [x11, in0, map_inj (in_S_Value)] at h
 exact h
noncomputable def o11 (args : List A) : Option A := orcOf x11 (fun x => (G11 x).map fun y => (bA y)) args
theorem r25_C14 : Orc25 C14 := fun a0 a1 => (by kernel_rfl : _ = o25 (x25 (a0, a1))).trans (orcOf_eq _ ix25 (a0, a1))
theorem ok11 (args : List A) (r : A) (h : o11 args = some r) : CallOK prog (cx C0).glob 11 args r := by
 obtain ⟨x, y, rfl, hy, rfl⟩ := orcOf_map h
 exact ok_J (f := fun (y : Bool) => (bA y)) (cx := cx C14) (fun k args r _ h => orc_C14 k args r h) (by kernel_rfl) (T11 C14 fuel0 (r25_C14) x) hy
noncomputable def C15 : Nat -> List A -> Option A := upd C14 11 o11
theorem orc_C15 : AllOK C15 := orc_upd orc_C14 ok11
def x8 (x : (List S_Value)) : List A := [(A.imm (List.map c_S_Value x) false)]
theorem ix8 : Inj x8 := fun x y h => by
 simp only [x8, in0, map_inj (in_S_Value)] at h
 exact h
noncomputable def o8 (args : List A) : Option A := orcOf x8 (fun x => (G8 x).map fun y => (bA y)) args
theorem r10_C15 : Orc10 C15 := fun _ => (by kernel_rfl : _ = o10 (x10 ())).trans (orcOf_eq _ ix10 ())
theorem r11_C15 : Orc11 C15 := fun a0 => (by kernel_rfl : _ = o11 (x11 a0)).trans (orcOf_eq _ ix11 a0)
theorem r12_C15 : Orc12 C15 := fun a0 => (by kernel_rfl : _ = o12 (x12 a0)).trans (orcOf_eq _ ix12 a0)
theorem r14_C15 : Orc14 C15 := fun a0 => (by kernel_rfl : _ = o14 (x14 a0)).trans (orcOf_eq _ ix14 a0)
theorem r22_C15 : Orc22 C15 := fun a0 => (by kernel_rfl : _ = o22 (x22 a0)).trans (orcOf_eq _ ix22 a0)
theorem r23_C15 : Orc23 C15 := fun a0 => (by kernel_rfl : _ = o23 (x23 a0)).trans (orcOf_eq _ ix23 a0)
theorem ok8 (args : List A) (r : A) (h : o8 args = some r) : CallOK prog (cx C0).glob 8 args r := by
 obtain ⟨x, y, rfl, hy, rfl⟩ := orcOf_map h
 exact ok_J (f := fun (y : Bool) => (bA y)) (cx := cx C15) (fun k args r _ h => orc_C15 k args r h) (by kernel_rfl) (T8 C15 fuel0 (r10_C15) (r11_C15) (r12_C15) (r14_C15) (r22_C15) (r23_C15) x) hy
end Go.Proofs.Ytmjaehondldaaaa
