/-
 Layer 53, in plain Lean: what a right replica's leases and calls are like.
-/
import Derived.Test.YtdmgdjnadbakfaaM1
namespace Go.Proofs.Ytdmgdjnadbakfaa
set_option linter.unusedVariables false
set_option linter.unusedSimpArgs false
set_option maxRecDepth 100000
set_option maxHeartbeats 4000000
def incL (L : List S_Lease) : Prop := ∀ k x, L[k]? = some x -> folB (L.take k) x = true
def rcalls (self : Int) (L : List S_Lease) (C : List S_Call) : Prop := (∀ c ∈ C, mineB self L c.Bar = true /\ inn c.Program 1 8 = true) /\ C.Pairwise (fun a b => a.Bar < b.Bar)
theorem incL_nil : incL [] := fun k x h => by simp at h
theorem rcalls_nil (self : Int) (L : List S_Lease) : rcalls self L [] := ⟨fun c h => absurd h List.not_mem_nil, .nil⟩
theorem incL_add {L : List S_Lease} {l : S_Lease} (h : incL L) (hl : folB L l = true) : incL (L ++ [l]) := fun k x hx => by
 by_cases hk : k < L.length
 ·rw [List.getElem?_append_left hk] at hx
  rw [List.take_append_of_le_length (by omega)]
  exact h k x hx
 ·rw [List.getElem?_append_right (by omega)] at hx
  have hk2 : k - L.length = 0 := by
   by_cases h0 : k - L.length = 0
   ·exact h0
   ·rw [List.getElem?_eq_none (by simp; omega)] at hx; cases hx
  rw [hk2] at hx
  have e : k = L.length := by omega
  subst e
  cases hx
  rw [List.take_append_of_le_length (Nat.le_refl _), List.take_length]
  exact hl
theorem find_app {L : List S_Lease} {p : S_Lease -> Bool} {x : S_Lease} (h : L.find? p = some x) (R : List S_Lease) : (L ++ R).find? p = some x := by rw [List.find?_append, h]; rfl
theorem mineB_app {self bar : Int} {L : List S_Lease} (h : mineB self L bar = true) (R : List S_Lease) : mineB self (L ++ R) bar = true := by
 unfold mineB at h ⊢
 rw [Bool.and_eq_true] at h ⊢
 refine ⟨h.1, ?_⟩
 cases hf : L.find? (fun l => decide (bar < l.Until)) with
 | none => rw [hf] at h; cases h.2
 | some x => rw [find_app hf]; rw [hf] at h; exact h.2
theorem rcalls_addL {self : Int} {L : List S_Lease} {C : List S_Call} (h : rcalls self L C) (R : List S_Lease) : rcalls self (L ++ R) C := ⟨fun c hc => ⟨mineB_app (h.1 c hc).1 R, (h.1 c hc).2⟩, h.2⟩
theorem last_max {C : List S_Call} (h : C.Pairwise (fun a b => a.Bar < b.Bar)) {d : S_Call} (hd : C.getLast? = some d) : ∀ c ∈ C, c.Bar <= d.Bar := by
 intro c hc
 obtain ⟨ys, hy⟩ : ∃ ys, C = ys ++ [d] := by
  rw [List.getLast?_eq_some_iff] at hd; exact hd
 subst hy
 rw [List.pairwise_append] at h
 rcases List.mem_append.1 hc with h1 | h1
 ·have := h.2.2 c h1 d (List.mem_singleton.2 rfl); omega
 ·rw [List.mem_singleton.1 h1]; exact Int.le_refl _
theorem rcalls_addC {self : Int} {L : List S_Lease} {C : List S_Call} {c : S_Call} (h : rcalls self L C) (hc : mayB self L C c = true) : rcalls self L (C ++ [c]) := by
 unfold mayB at hc
 rw [Bool.and_eq_true, Bool.and_eq_true] at hc
 refine ⟨fun x hx => ?_, ?_⟩
 ·rcases List.mem_append.1 hx with h1 | h1
  ·exact h.1 x h1
  ·rw [List.mem_singleton.1 h1]; exact ⟨hc.1.1, hc.2⟩
 ·rw [List.pairwise_append]
  refine ⟨h.2, List.pairwise_singleton _ _, fun a ha b hb => ?_⟩
  rw [List.mem_singleton.1 hb]
  cases hl : C.getLast? with
  | none => rw [List.getLast?_eq_none_iff] at hl; rw [hl] at ha; exact absurd ha List.not_mem_nil
  | some d =>
   have h1 := last_max h.2 hl a ha
   have h2 := hc.1.2
   rw [hl] at h2
   have h3 := of_decide_eq_true h2
   omega
theorem goW_inv : ∀ (o : List Bool) (ls : List S_Lease) (cs : List S_Call) (s : S_Replica), goW s ls cs o = true -> o.length = ls.length + cs.length -> incL s.Leases -> rcalls s.Self s.Leases s.Calls -> incL (s.Leases ++ ls) /\ rcalls s.Self (s.Leases ++ ls) (s.Calls ++ cs)
 | [], ls, cs, s, h, hl, h1, h2 => by
  have e1 : ls = [] := List.length_eq_zero_iff.1 (by simp at hl; omega)
  have e2 : cs = [] := List.length_eq_zero_iff.1 (by simp at hl; omega)
  subst e1; subst e2
  rw [List.append_nil, List.append_nil]
  exact ⟨h1, h2⟩
 | true :: o, [], cs, s, h, hl, h1, h2 => by rw [goW_t0] at h; cases h
 | true :: o, l :: ls, cs, s, h, hl, h1, h2 => by
  rw [goW_t, Bool.and_eq_true] at h
  have := goW_inv o ls cs (addL s l) h.2 (by simp at hl ⊢; omega) (incL_add h1 h.1) (rcalls_addL h2 [l])
  simpa [addL] using this
 | false :: o, ls, [], s, h, hl, h1, h2 => by rw [goW_f0] at h; cases h
 | false :: o, ls, c :: cs, s, h, hl, h1, h2 => by
  rw [goW_f, Bool.and_eq_true] at h
  have := goW_inv o ls cs (addC s c) h.2 (by simp at hl ⊢; omega) h1 (rcalls_addC h2 h.1)
  simpa [addC] using this
theorem chkB_inv {r : S_Replica} (h : chkB r = true) : inn r.Self 0 1 = true /\ incL r.Leases /\ rcalls r.Self r.Leases r.Calls /\ r.Order.length = r.Leases.length + r.Calls.length /\ r.Leases.length <= 256 /\ r.Order.head? = some true := by
 unfold chkB at h
 simp only [Bool.and_eq_true, beq_iff_eq, decide_eq_true_eq] at h
 obtain ⟨⟨⟨⟨⟨h1, h2⟩, h3⟩, h4⟩, h5⟩, h6⟩ := h
 obtain ⟨h7, h8⟩ := goW_inv r.Order r.Leases r.Calls _ h5 h3 incL_nil (rcalls_nil _ _)
 simp only [List.nil_append] at h7 h8
 exact ⟨h1, h7, h8, h3, h4, h6⟩
theorem self01 {n : Int} (h : inn n 0 1 = true) : n = 0 ∨ n = 1 := by
 unfold inn at h
 simp only [Bool.and_eq_true, decide_eq_true_eq] at h
 omega
theorem folB_inv {L : List S_Lease} {l : S_Lease} (h : folB L l = true) : l.No = (L.length : Int) /\ (l.Holder = 0 ∨ l.Holder = 1) /\ lend L < l.Until /\ l.Until <= 4096 := by
 unfold folB at h
 simp only [Bool.and_eq_true, beq_iff_eq, decide_eq_true_eq] at h
 obtain ⟨⟨⟨h1, h2⟩, h3⟩, h4⟩ := h
 exact ⟨h1, self01 h2, h3, h4⟩
theorem snoc_ind {T : Type} {P : List T -> Prop} (h0 : P []) (h1 : ∀ l x, P l -> P (l ++ [x])) (l : List T) : P l := by
 have : ∀ l : List T, P l.reverse := fun l => by
  induction l with
  | nil => exact h0
  | cons x l ih => rw [List.reverse_cons]; exact h1 _ _ ih
 have := this l.reverse
 rwa [List.reverse_reverse] at this
theorem lend_snoc (L : List S_Lease) (l : S_Lease) : lend (L ++ [l]) = l.Until := by unfold lend; rw [List.getLast?_append]; rfl
theorem incL_pre {L R : List S_Lease} (h : incL (L ++ R)) : incL L := fun k x hx => by
 have hk := (List.getElem?_eq_some_iff.1 hx).1
 have := h k x (by rw [List.getElem?_append_left hk]; exact hx)
 rwa [List.take_append_of_le_length (by omega)] at this
theorem incL_snoc {L : List S_Lease} {l : S_Lease} (h : incL (L ++ [l])) : folB L l = true := by
 have := h L.length l (by simp)
 rwa [List.take_append_of_le_length (Nat.le_refl _), List.take_length] at this
theorem lend_pos : ∀ {L : List S_Lease}, incL L -> 0 <= lend L /\ ∀ x ∈ L, 0 < x.Until /\ x.Until <= lend L := by
 intro L
 refine snoc_ind (P := fun L => incL L -> 0 <= lend L /\ ∀ x ∈ L, 0 < x.Until /\ x.Until <= lend L) ?_ ?_ L
 ·intro _; exact ⟨Int.le_refl _, fun x h => absurd h List.not_mem_nil⟩
 ·intro L l ih h
  obtain ⟨i1, i2⟩ := ih (incL_pre h)
  have h2 := folB_inv (incL_snoc h)
  rw [lend_snoc]
  refine ⟨by omega, fun x hx => ?_⟩
  rcases List.mem_append.1 hx with h3 | h3
  ·have := i2 x h3; omega
  ·rw [List.mem_singleton.1 h3]; omega
end Go.Proofs.Ytdmgdjnadbakfaa
