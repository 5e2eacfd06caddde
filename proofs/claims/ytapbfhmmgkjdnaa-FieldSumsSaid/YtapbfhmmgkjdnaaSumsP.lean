/-
  Plain facts for FieldSums: sums and multiples of polynomials; two slices that grow side by side.
-/
import Derived.Test.YtapbfhmmgkjdnaaLOrder
namespace Go.Proofs.Ytapbfhmmgkjdnaa
open Go.RowKit
theorem gI_zero (x : Int) (l : List Int) : gI (x :: l) 0 = x := rfl
theorem gI_succ (x : Int) (l : List Int) (i : Nat) : gI (x :: l) (i + 1) = gI l i := rfl
theorem gI_nil (i : Nat) : gI [] i = 0 := rfl
theorem ev_zero : ∀ (l : List Int) (t : Int), (∀ i, md (gI l i) = 0) → md (ev l t) = 0
  | [], t, _ => rfl
  | x :: l, t, h => by
    have h0 := h 0
    have h1 := ev_zero l t (fun i => h (i + 1))
    rw [gI_zero] at h0
    show md (x + t * ev l t) = 0
    have h2 : md (t * ev l t) = 0 := by rw [← md_mul_r, h1, Int.mul_zero]; rfl
    rw [← md_add, h0, ← md_add_r, h2]; rfl
theorem ev_congr : ∀ (l m : List Int) (t : Int), (∀ i, md (gI l i) = md (gI m i)) → md (ev l t) = md (ev m t)
  | [], m, t, h => (ev_zero m t (fun i => (h i).symm)).symm
  | x :: l, [], t, h => ev_zero (x :: l) t h
  | x :: l, y :: m, t, h => by
    have h0 := h 0
    have h1 := ev_congr l m t (fun i => h (i + 1))
    rw [gI_zero, gI_zero] at h0
    show md (x + t * ev l t) = md (y + t * ev m t)
    exact md_congr_add h0 (md_congr_mul rfl h1)
theorem gI_addl : ∀ (a b : List Int) (i : Nat), gI (addl a b) i = gI a i + gI b i
  | [], b, i => by rw [gI_nil, Int.zero_add]; rfl
  | x :: a, [], i => by rw [gI_nil, Int.add_zero]; rfl
  | x :: a, y :: b, 0 => rfl
  | x :: a, y :: b, i + 1 => by rw [gI_succ, gI_succ]; exact gI_addl a b i
theorem gI_scale (k : Int) : ∀ (a : List Int) (i : Nat), gI (scale k a) i = k * gI a i
  | [], i => by rw [gI_nil, Int.mul_zero]; rfl
  | x :: a, 0 => rfl
  | x :: a, i + 1 => by rw [gI_succ]; exact gI_scale k a i
def sumAt (a b : List Int) (i : Nat) : Int := if i < b.length then ad (gI a i) (gI b i) else gI a i
def sumL (a b : List Int) (k : Nat) : List Int := (List.range k).map (sumAt a b)
def timL (n : Int) (a : List Int) (k : Nat) : List Int := (a.take k).map (mu n)
theorem gI_out (a : List Int) (i : Nat) (h : a.length ≤ i) : gI a i = 0 := by unfold gI; simp [h]
theorem gI_sumL (a b : List Int) (i : Nat) : md (gI (sumL a b (max a.length b.length)) i) = md (gI (addl a b) i) := by
  rw [gI_addl]
  by_cases h : i < max a.length b.length
  · have e : gI (sumL a b (max a.length b.length)) i = sumAt a b i := by unfold gI sumL; simp [h]
    rw [e]
    unfold sumAt
    split
    · rw [ad_eq, md_md]
    · rw [gI_out b i (by omega), Int.add_zero]
  · rw [gI_out _ i (by unfold sumL; simp; omega), gI_out a i (by omega), gI_out b i (by omega)]; rfl
theorem sumL_ev (a b : List Int) (t : Int) : md (ev (sumL a b (max a.length b.length)) t) = ad (md (ev a t)) (md (ev b t)) := by
  rw [ev_congr _ (addl a b) t (gI_sumL a b), addl_ev, ad_eq, md_add, md_add_r]
theorem timL_ev (n : Int) (a : List Int) (k : Nat) (hk : a.length ≤ k) (t : Int) : md (ev (timL n a k) t) = mu n (md (ev a t)) := by
  have e : timL n a k = a.map (mu n) := by unfold timL; rw [List.take_of_length_le hk]
  rw [e, mu_eq, md_mul_r, ← scale_ev]
  refine ev_congr _ _ t fun i => ?_
  rw [gI_scale]
  by_cases h : i < a.length
  · have : gI (a.map (mu n)) i = mu n (gI a i) := by unfold gI; simp [h]
    rw [this, mu_eq, md_md]
  · rw [gI_out _ i (by simp; omega), gI_out a i (by omega), Int.mul_zero]
theorem sumL_succ (a b : List Int) (k : Nat) : sumL a b (k + 1) = sumL a b k ++ [sumAt a b k] := by unfold sumL; rw [List.range_succ, List.map_append]; rfl
theorem sumL_length (a b : List Int) (k : Nat) : (sumL a b k).length = k := by unfold sumL; simp
theorem timL_length (n : Int) (a : List Int) (k : Nat) : (timL n a k).length ≤ k := by unfold timL; simp; omega
theorem timL_succ (n : Int) (a : List Int) (k : Nat) (h : k < a.length) : timL n a (k + 1) = timL n a k ++ [mu n (gI a k)] := by
  unfold timL
  rw [List.take_succ_eq_append_getElem h, List.map_append, List.map_cons, List.map_nil]
  unfold gI; simp [h]
theorem timL_stay (n : Int) (a : List Int) (k : Nat) (h : a.length ≤ k) : timL n a (k + 1) = timL n a k := by
  unfold timL; rw [List.take_of_length_le h, List.take_of_length_le (by omega)]
theorem gI_range {B : Nat} {w : World} {v : Value} {l : List Int} (h : SliceOf lInt B w v l) (k : Nat) : -9223372036854775808 ≤ gI l k ∧ gI l k ≤ 9223372036854775807 := by
  by_cases hk : k < l.length
  · obtain ⟨a, cap, _, _, _, h3⟩ := h
    obtain ⟨b, off, _, _, h4⟩ := h3 (by omega)
    obtain ⟨vs, h5, _⟩ := h4 k hk
    have e : gI l k = l[k] := by unfold gI; simp [hk]
    rw [e]
    exact h5.2
  · rw [gI_out l k (by omega)]; exact ⟨by omega, by omega⟩
theorem intInfo : ElemInfo Try.prog 29 3 1 8 := elemInfo (z := .int .i64 0) Try.underlying29 (by kernel_rfl) rfl (by omega)
/-- Two slices that the call has built, in blocks of their own. -/
def Two {α β : Type} (L : Lay α) (M : Lay β) (e f : TypeId) (base : Nat) (w : World) (v u : Value) (s : List α) (t : List β) : Prop :=
  Grows L e base 0 w v s ∧ Grows M f base 0 w u t ∧ (v.ownBlock = none ∨ v.ownBlock ≠ u.ownBlock)
section
variable {α β : Type} {L : Lay α} {M : Lay β} {e f : TypeId} {base : Nat} {w w' : World} {v u : Value} {s : List α} {t : List β}
theorem Two.below (h : Two L M e f base w v u s t) (hb : Below w.heap.size w w') : Two L M e f base w' v u s t := ⟨h.1.kept hb (Nat.zero_le _), h.2.1.kept hb (Nat.zero_le _), h.2.2⟩
theorem Two.right {u' : Value} {t' : List β} (h : Two L M e f base w v u s t) (hg : Grows M f base 0 w' u' t') (hgb : w.grownBy w' u.ownBlock) (hat : u'.ownBlock = u.ownBlock ∨ u'.ownBlock = some w.heap.size) : Two L M e f base w' v u' s t' := by
  refine ⟨h.1.other hgb (Nat.zero_le _) (fun _ _ => Nat.zero_le _) h.2.2, hg, ?_⟩
  rcases h.2.2 with h1 | h1
  · exact .inl h1
  · rcases hat with h2 | h2
    · exact .inr (by rw [h2]; exact h1)
    · refine .inr fun h3 => ?_
      have := (h.1.lt w.heap.size (by rw [h3, h2])).2
      omega
theorem Two.left {v' : Value} {s' : List α} (h : Two L M e f base w v u s t) (hg : Grows L e base 0 w' v' s') (hgb : w.grownBy w' v.ownBlock) (hat : v'.ownBlock = v.ownBlock ∨ v'.ownBlock = some w.heap.size) : Two L M e f base w' v' u s' t := by
  refine ⟨hg, h.2.1.other hgb (Nat.zero_le _) (fun _ _ => Nat.zero_le _) ?_, ?_⟩
  · by_cases hu : u.ownBlock = none
    · exact .inl hu
    · refine .inr fun h3 => ?_
      rcases h.2.2 with h1 | h1
      · exact hu (h3.trans h1)
      · exact h1 h3.symm
  · rcases hat with h2 | h2
    · rw [h2]; exact h.2.2
    · refine .inr fun h3 => ?_
      have := (h.2.1.lt w.heap.size (by rw [← h3, h2])).2
      omega
end
end Go.Proofs.Ytapbfhmmgkjdnaa
