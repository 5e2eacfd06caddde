/-
 Layer 4, in plain Lean: DiskHistory.
-/
import Derived.Test.YthoomfjliekbdaaP6
namespace Go.Proofs.Ythoomfjliekbdaa
set_option linter.unusedVariables false
set_option linter.unusedSimpArgs false
set_option maxRecDepth 100000
set_option maxHeartbeats 4000000
abbrev Q4 := Int × Int × Int × Int
def at4 (q : Q4) : Nat -> Int
 | 0 => q.1
 | 1 => q.2.1
 | 2 => q.2.2.1
 | _ => q.2.2.2
def set4 (q : Q4) (k : Int) (x : Int) : Q4 := if k = 0 then (x, q.2) else if k = 1 then (q.1, x, q.2.2) else if k = 2 then (q.1, q.2.1, x, q.2.2.2) else (q.1, q.2.1, q.2.2.1, x)
theorem at_set {q : Q4} {k : Int} {x : Int} (h0 : 0 <= k) (h4 : k < 4) {j : Nat} (hj : j < 4) : at4 (set4 q k x) j = if k = (j : Int) then x else at4 q j := by
 rcases (show k = 0 ∨ k = 1 ∨ k = 2 ∨ k = 3 by omega) with rfl | rfl | rfl | rfl <;> rcases (show j = 0 ∨ j = 1 ∨ j = 2 ∨ j = 3 by omega) with rfl | rfl | rfl | rfl <;> rfl
def sec (b : List UInt8) (f s : Int) : Prop := b.length = 128 /\ (∃ x, b[0]? = some x /\ (x.toNat : Int) = f) /\ (∃ x, b[64]? = some x /\ (x.toNat : Int) = s) /\ b[1]? = some 0 /\ b[127]? = some 0
theorem dbl_all : ∀ c : Fin 256, (match G27 (c.val : Int) with
  | some l => l.length == 128 && (l[0]? == some (UInt8.ofNat c.val)) && (l[64]? == some (UInt8.ofNat c.val)) && (l[1]? == some 0) && (l[127]? == some 0)
  | none => false) = true := by decide +kernel
theorem g27 {c : Int} (h : InU8 c) : ∃ l, G27 c = some l /\ sec l c c := by
 obtain ⟨h0, h1⟩ := h
 have h := dbl_all ⟨c.toNat, by omega⟩
 rw [show ((c.toNat : Nat) : Int) = c by omega] at h
 cases hg : G27 c with
 | none => rw [hg] at h; cases h
 | some l =>
  rw [hg] at h
  simp only [Bool.and_eq_true, beq_iff_eq] at h
  obtain ⟨⟨⟨⟨a1, a2⟩, a3⟩, a4⟩, a5⟩ := h
  have e : ((UInt8.ofNat c.toNat).toNat : Int) = c := by simp; omega
  exact ⟨l, rfl, a1, ⟨_, a2, e⟩, ⟨_, a3, e⟩, a4, a5⟩
theorem sec_torn {a b : List UInt8} {f s f' s' : Int} (ha : sec a f s) (hb : sec b f' s') : sec (a.take 64 ++ b.drop 64) f s' := by
 obtain ⟨a1, ⟨x, a2, a3⟩, a4, a5, a6⟩ := ha
 obtain ⟨b1, b2, ⟨y, b3, b4⟩, b5, b6⟩ := hb
 have hl : (a.take 64).length = 64 := by rw [List.length_take]; omega
 refine ⟨by rw [List.length_append, hl, List.length_drop]; omega, ⟨x, ?_, a3⟩, ⟨y, ?_, b4⟩, ?_, ?_⟩
 ·rw [List.getElem?_append_left (by omega), List.getElem?_take]; exact a2
 ·rw [List.getElem?_append_right (by omega), hl, List.getElem?_drop]; exact b3
 ·rw [List.getElem?_append_left (by omega), List.getElem?_take]; exact a5
 ·rw [List.getElem?_append_right (by omega), hl, List.getElem?_drop]; exact b6
theorem pad_sec {b : List UInt8} {f s : Int} (h : sec b f s) : pad b = b := by
 unfold pad
 rw [h.1]
 simp
theorem g28 {d : S_Disk} (hd : fits d) (hr : runs d = true) (h4 : d.Sectors.length = 4) {p q : Q4} (h : ∀ k : Nat, k < 4 -> sec (lastW d.Pending (k : Int) (d.Sectors[k]?.getD [])) (at4 p k) (at4 q k)) : G28 d p q = some true := by
 have rd : ∀ k : Nat, k < 4 -> G21 d (k : Int) = some (lastW d.Pending (k : Int) (d.Sectors[k]?.getD []), 0) := fun k hk => by
  rw [g21 d _ hd]
  unfold readR
  have : has d (k : Int) = true := by unfold has; simp; omega
  rw [hr, this]
  rfl
 have gi : ∀ (b : List UInt8) (f s : Int), sec b f s -> (∃ x, getI b 0 = some x /\ (x.toNat : Int) = f) /\ (∃ y, getI b 64 = some y /\ (y.toNat : Int) = s) /\ getI b 1 = some 0 /\ getI b 127 = some 0 /\ b.length = 128 := fun b f s hb => by
  obtain ⟨a1, ⟨x, a2, a3⟩, ⟨y, a4, a5⟩, a6, a7⟩ := hb
  refine ⟨⟨x, (getI_nat b 0).trans a2, a3⟩, ⟨y, (getI_nat b 64).trans a4, a5⟩, (getI_nat b 1).trans a6, (getI_nat b 127).trans a7, a1⟩
 have s0 : ∀ m, F28_28_0 fuel0 false d p.1 p.2.1 p.2.2.1 p.2.2.2 q.1 q.2.1 q.2.2.1 q.2.2.2 (m + 1) 0 = F28_28_0 fuel0 false d p.1 p.2.1 p.2.2.1 p.2.2.2 q.1 q.2.1 q.2.2.1 q.2.2.2 m 1 := by
  intro m
  have h2 := rd 0 (by omega)
  rw [show ((0 : Nat) : Int) = 0 from rfl] at h2
  have h1 := h 0 (by omega)
  rw [show ((0 : Nat) : Int) = 0 from rfl] at h1
  generalize lastW d.Pending 0 (d.Sectors[0]?.getD []) = b at h1 h2
  obtain ⟨⟨x, a2, a3⟩, ⟨y, a4, a5⟩, a6, a7, a1⟩ := gi _ _ _ h1
  rw [F28_28_0, show decide ((0 : Int) < 4) = true from rfl, h2]
  simp only [cond_true, cond_false, Option.bind_some, a1, a2, a4, a6, a7, show ((0 : Int) != 0) = false from rfl, show (((128 : Nat) : Int) != 128) = false from rfl, show decide ((0 : Int) = 0) = true from rfl, show (x.toNat : Int) = p.1 from a3, show (y.toNat : Int) = q.1 from a5, bne_self_eq_false, show (((0 : UInt8).toNat : Int) != 0) = false from rfl, wr64 (n := 0 + 1) (by omega) (by omega)]
  rfl
 have s1 : ∀ m, F28_28_0 fuel0 false d p.1 p.2.1 p.2.2.1 p.2.2.2 q.1 q.2.1 q.2.2.1 q.2.2.2 (m + 1) 1 = F28_28_0 fuel0 false d p.1 p.2.1 p.2.2.1 p.2.2.2 q.1 q.2.1 q.2.2.1 q.2.2.2 m 2 := by
  intro m
  have h2 := rd 1 (by omega)
  rw [show ((1 : Nat) : Int) = 1 from rfl] at h2
  have h1 := h 1 (by omega)
  rw [show ((1 : Nat) : Int) = 1 from rfl] at h1
  generalize lastW d.Pending 1 (d.Sectors[1]?.getD []) = b at h1 h2
  obtain ⟨⟨x, a2, a3⟩, ⟨y, a4, a5⟩, a6, a7, a1⟩ := gi _ _ _ h1
  rw [F28_28_0, show decide ((1 : Int) < 4) = true from rfl, h2]
  simp only [cond_true, cond_false, Option.bind_some, a1, a2, a4, a6, a7, show ((0 : Int) != 0) = false from rfl, show (((128 : Nat) : Int) != 128) = false from rfl, show decide ((1 : Int) = 0) = false from rfl, show decide ((1 : Int) = 1) = true from rfl, show (x.toNat : Int) = p.2.1 from a3, show (y.toNat : Int) = q.2.1 from a5, bne_self_eq_false, show (((0 : UInt8).toNat : Int) != 0) = false from rfl, wr64 (n := 1 + 1) (by omega) (by omega)]
  rfl
 have s2 : ∀ m, F28_28_0 fuel0 false d p.1 p.2.1 p.2.2.1 p.2.2.2 q.1 q.2.1 q.2.2.1 q.2.2.2 (m + 1) 2 = F28_28_0 fuel0 false d p.1 p.2.1 p.2.2.1 p.2.2.2 q.1 q.2.1 q.2.2.1 q.2.2.2 m 3 := by
  intro m
  have h2 := rd 2 (by omega)
  rw [show ((2 : Nat) : Int) = 2 from rfl] at h2
  have h1 := h 2 (by omega)
  rw [show ((2 : Nat) : Int) = 2 from rfl] at h1
  generalize lastW d.Pending 2 (d.Sectors[2]?.getD []) = b at h1 h2
  obtain ⟨⟨x, a2, a3⟩, ⟨y, a4, a5⟩, a6, a7, a1⟩ := gi _ _ _ h1
  rw [F28_28_0, show decide ((2 : Int) < 4) = true from rfl, h2]
  simp only [cond_true, cond_false, Option.bind_some, a1, a2, a4, a6, a7, show ((0 : Int) != 0) = false from rfl, show (((128 : Nat) : Int) != 128) = false from rfl, show decide ((2 : Int) = 0) = false from rfl, show decide ((2 : Int) = 1) = false from rfl, show decide ((2 : Int) = 2) = true from rfl, show (x.toNat : Int) = p.2.2.1 from a3, show (y.toNat : Int) = q.2.2.1 from a5, bne_self_eq_false, show (((0 : UInt8).toNat : Int) != 0) = false from rfl, wr64 (n := 2 + 1) (by omega) (by omega)]
  rfl
 have s3 : ∀ m, F28_28_0 fuel0 false d p.1 p.2.1 p.2.2.1 p.2.2.2 q.1 q.2.1 q.2.2.1 q.2.2.2 (m + 1) 3 = F28_28_0 fuel0 false d p.1 p.2.1 p.2.2.1 p.2.2.2 q.1 q.2.1 q.2.2.1 q.2.2.2 m 4 := by
  intro m
  have h2 := rd 3 (by omega)
  rw [show ((3 : Nat) : Int) = 3 from rfl] at h2
  have h1 := h 3 (by omega)
  rw [show ((3 : Nat) : Int) = 3 from rfl] at h1
  generalize lastW d.Pending 3 (d.Sectors[3]?.getD []) = b at h1 h2
  obtain ⟨⟨x, a2, a3⟩, ⟨y, a4, a5⟩, a6, a7, a1⟩ := gi _ _ _ h1
  rw [F28_28_0, show decide ((3 : Int) < 4) = true from rfl, h2]
  simp only [cond_true, cond_false, Option.bind_some, a1, a2, a4, a6, a7, show ((0 : Int) != 0) = false from rfl, show (((128 : Nat) : Int) != 128) = false from rfl, show decide ((3 : Int) = 0) = false from rfl, show decide ((3 : Int) = 1) = false from rfl, show decide ((3 : Int) = 2) = false from rfl, show decide ((3 : Int) = 3) = true from rfl, show (x.toNat : Int) = p.2.2.2 from a3, show (y.toNat : Int) = q.2.2.2 from a5, bne_self_eq_false, show (((0 : UInt8).toNat : Int) != 0) = false from rfl, wr64 (n := 3 + 1) (by omega) (by omega)]
  rfl
 unfold G28 F28
 rw [show fuel0 + 8 = fuel0 + 3 + 1 + 1 + 1 + 1 + 1 from rfl, s0, s1, s2, s3]
 rfl
end Go.Proofs.Ythoomfjliekbdaa
