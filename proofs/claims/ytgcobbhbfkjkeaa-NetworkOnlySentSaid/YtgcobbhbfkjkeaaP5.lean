/-
  Layer 6, in plain Lean: what is cut after a cut; the laws on cuts and moves.
-/
import Derived.Test.YtgcobbhbfkjkeaaP4
namespace Go.Proofs.Ytgcobbhbfkjkeaa
set_option linter.unusedVariables false
set_option linter.unusedSimpArgs false
set_option maxRecDepth 100000
theorem any_if (c : Bool) (p : Int × Int) (f : Int × Int → Bool) : (if c = true then [p] else []).any f = (c && f p) := by cases c <;> simp
theorem isCut_row (K : Int → Int → Bool) (x : Int) (p : Int × Int) : ∀ d, d ≤ 24 → isCut (rowK K x d) p = (p.1 == x && decide (24 - (d : Int) ≤ p.2) && decide (p.2 < 24) && K x p.2)
  | 0, _ => by
    simp only [rowK, isCut, List.any_nil]
    rw [Eq.comm, Bool.and_eq_false_iff]
    left
    rw [Bool.eq_false_iff]
    simp only [ne_eq, Bool.and_eq_true, decide_eq_true_eq, beq_iff_eq]
    omega
  | d + 1, hd => by
    have ih := isCut_row K x p d (by omega)
    unfold isCut at ih
    unfold rowK isCut
    rw [List.any_append, ih, any_if]
    rw [Bool.eq_iff_iff]
    simp only [Bool.or_eq_true, Bool.and_eq_true, decide_eq_true_eq, beq_iff_eq]
    constructor
    · rintro (⟨h1, h2, h3⟩ | ⟨⟨⟨h1, h2⟩, h3⟩, h4⟩)
      · refine ⟨⟨⟨h2, by omega⟩, by omega⟩, ?_⟩; rw [h3]; exact h1
      · exact ⟨⟨⟨h1, by omega⟩, h3⟩, h4⟩
    · rintro ⟨⟨⟨h1, h2⟩, h3⟩, h4⟩
      by_cases e : p.2 = 24 - ((d + 1 : Nat) : Int)
      · left; refine ⟨?_, h1, e⟩; rw [← e]; exact h4
      · right; exact ⟨⟨⟨h1, by omega⟩, h3⟩, h4⟩
theorem isCut_all (K : Int → Int → Bool) (p : Int × Int) : ∀ d, d ≤ 24 → isCut (allK K d) p = (decide (24 - (d : Int) ≤ p.1) && decide (p.1 < p.2) && decide (p.2 < 24) && K p.1 p.2)
  | 0, _ => by
    simp only [allK, isCut, List.any_nil]
    rw [Eq.comm, Bool.and_eq_false_iff]
    left
    rw [Bool.eq_false_iff]
    simp only [ne_eq, Bool.and_eq_true, decide_eq_true_eq, beq_iff_eq]
    omega
  | d + 1, hd => by
    have ih := isCut_all K p d (by omega)
    have hr := isCut_row K (24 - ((d + 1 : Nat) : Int)) p d (by omega)
    unfold isCut at ih hr
    unfold allK isCut
    rw [List.any_append, ih, hr]
    rw [Bool.eq_iff_iff]
    simp only [Bool.or_eq_true, Bool.and_eq_true, decide_eq_true_eq, beq_iff_eq]
    constructor
    · rintro (⟨⟨⟨h1, h2⟩, h3⟩, h4⟩ | ⟨⟨⟨h1, h2⟩, h3⟩, h4⟩)
      · refine ⟨⟨⟨by omega, by omega⟩, h3⟩, ?_⟩; rw [h1]; exact h4
      · exact ⟨⟨⟨by omega, h2⟩, h3⟩, h4⟩
    · rintro ⟨⟨⟨h1, h2⟩, h3⟩, h4⟩
      by_cases e : p.1 = 24 - ((d + 1 : Nat) : Int)
      · left; refine ⟨⟨⟨e, by omega⟩, h3⟩, ?_⟩; rw [← e]; exact h4
      · right; exact ⟨⟨⟨by omega, h2⟩, h3⟩, h4⟩
theorem isCut_full (K : Int → Int → Bool) {p : Int × Int} (h : okL p = true) : isCut (allK K 24) p = K p.1 p.2 := by
  unfold okL at h
  simp only [Bool.and_eq_true, decide_eq_true_eq] at h
  rw [isCut_all K p 24 (Nat.le_refl _), decide_eq_true (by omega), decide_eq_true (by omega), decide_eq_true (by omega)]
  simp
/-- In order, and after a pair that is less. -/
theorem okAp_app : ∀ (l l2 : List (Int × Int)) (o : Option (Int × Int)), okAp o l = true → (∀ o', (l = [] → o' = o) → (∀ q, l.getLast? = some q → o' = some q) → okAp o' l2 = true) → okAp o (l ++ l2) = true
  | [], l2, o, _, h2 => h2 o (fun _ => rfl) (fun q hq => by cases hq)
  | p :: l, l2, o, h1, h2 => by
    unfold okAp at h1
    rw [List.cons_append]
    unfold okAp
    simp only [Bool.and_eq_true] at h1 ⊢
    refine ⟨h1.1, okAp_app l l2 (some p) h1.2 fun o' ha hb => h2 o' (fun e => by cases e) fun q hq => ?_⟩
    cases l with
    | nil => rw [ha rfl]; simpa using hq
    | cons p' l' => exact hb q (by simpa [List.getLast?_cons_cons] using hq)
theorem rowK_mem {K : Int → Int → Bool} {x : Int} : ∀ {d : Nat} {p : Int × Int}, p ∈ rowK K x d → p.1 = x ∧ 24 - (d : Int) ≤ p.2 ∧ p.2 < 24
  | 0, p, h => by cases h
  | d + 1, p, h => by
    unfold rowK at h
    rcases List.mem_append.1 h with h | h
    · split at h
      · obtain rfl : p = _ := by simpa using h
        exact ⟨rfl, by simp, by simp; omega⟩
      · cases h
    · have := rowK_mem h
      exact ⟨this.1, by omega, this.2.2⟩
theorem okAp_row (K : Int → Int → Bool) (x : Int) (hx : 0 ≤ x) : ∀ (d : Nat) (o : Option (Int × Int)), d ≤ 24 → x < 24 - (d : Int) → (∀ q, o = some q → q.1 < x ∨ (q.1 = x ∧ q.2 < 24 - (d : Int))) → okAp o (rowK K x d) = true
  | 0, o, _, _, _ => rfl
  | d + 1, o, hd, hxd, ho => by
    unfold rowK
    split
    · show okAp o ((x, 24 - ((d + 1 : Nat) : Int)) :: rowK K x d) = true
      unfold okAp
      simp only [Bool.and_eq_true]
      refine ⟨⟨?_, ?_⟩, okAp_row K x hx d _ (by omega) (by omega) (fun q hq => ?_)⟩
      · unfold okL; simp only [Bool.and_eq_true, decide_eq_true_eq]; omega
      · cases o with
        | none => rfl
        | some q =>
          have := ho q rfl
          unfold lexlt
          simp only [Bool.or_eq_true, Bool.and_eq_true, decide_eq_true_eq, beq_iff_eq]
          omega
      · cases hq; right; exact ⟨rfl, by omega⟩
    · rw [List.nil_append]
      exact okAp_row K x hx d o (by omega) (by omega) (fun q hq => by have := ho q hq; omega)
theorem okAp_allK (K : Int → Int → Bool) : ∀ (d : Nat) (o : Option (Int × Int)), d ≤ 24 → (∀ q, o = some q → q.1 < 24 - (d : Int)) → okAp o (allK K d) = true
  | 0, o, _, _ => rfl
  | d + 1, o, hd, ho => by
    unfold allK
    refine okAp_app _ _ _ (okAp_row K _ (by omega) d o (by omega) (by omega) (fun q hq => .inl (ho q hq))) fun o' ha hb => okAp_allK K d o' (by omega) fun q hq => ?_
    subst hq
    cases hl : (rowK K (24 - ((d + 1 : Nat) : Int)) d).getLast? with
    | none =>
      have := ho q (ha (List.getLast?_eq_none_iff.1 hl)).symm
      omega
    | some p =>
      have := hb p hl
      cases this
      have := rowK_mem (List.mem_of_getLast? hl)
      omega
theorem okN_cut {x : S_Net} (h : okN x = true) (K : Int → Int → Bool) : okN (S_Net.mk x.Queue (allK K 24)) = true := by
  rw [okN_iff] at h ⊢
  exact ⟨h.1, h.2.1, okAp_allK K 24 none (by omega) (fun q hq => by cases hq)⟩
theorem rowK_congr {K K' : Int → Int → Bool} {x : Int} : ∀ d : Nat, d ≤ 24 → (∀ y : Int, 24 - (d : Int) ≤ y → y < 24 → K x y = K' x y) → rowK K x d = rowK K' x d
  | 0, _, _ => rfl
  | d + 1, hd, h => by
    unfold rowK
    rw [h _ (Int.le_refl _) (by omega), rowK_congr d (by omega) (fun y h1 h2 => h y (by omega) h2)]
theorem allK_congr {K K' : Int → Int → Bool} : ∀ d : Nat, d ≤ 24 → (∀ x y : Int, 24 - (d : Int) ≤ x → x < y → y < 24 → K x y = K' x y) → allK K d = allK K' d
  | 0, _, _ => rfl
  | d + 1, hd, h => by
    unfold allK
    rw [rowK_congr d (by omega) (fun y h1 h2 => h _ y (Int.le_refl _) (by omega) h2), allK_congr d (by omega) (fun x y h1 h2 h3 => h x y (by omega) h2 h3)]
theorem all_same {K K' : Int → Int → Bool} (h : ∀ x y : Int, okL (x, y) = true → K x y = K' x y) : allK K 24 = allK K' 24 :=
  allK_congr 24 (Nat.le_refl _) fun x y h1 h2 h3 => h x y (by unfold okL; simp only [Bool.and_eq_true, decide_eq_true_eq]; omega)
theorem rowK_one {K K' : Int → Int → Bool} {x b : Int} (h1 : K x b = true) (h2 : K' x b = false) (h3 : ∀ y, y ≠ b → K x y = K' x y) : ∀ d : Nat, d ≤ 24 → (rowK K x d).length = (rowK K' x d).length + if 24 - (d : Int) ≤ b ∧ b < 24 then 1 else 0
  | 0, _ => by simp only [rowK, List.length_nil]; rw [if_neg (by omega)]
  | d + 1, hd => by
    have ih := rowK_one h1 h2 h3 d (by omega)
    unfold rowK
    rw [List.length_append, List.length_append, ih]
    by_cases e : 24 - ((d + 1 : Nat) : Int) = b
    · rw [e, h1, h2, if_neg (show ¬ (24 - (d : Int) ≤ b ∧ b < 24) by omega), if_pos (show b ≤ b ∧ b < 24 by omega)]
      simp; omega
    · rw [h3 _ e]
      by_cases hb : 24 - (d : Int) ≤ b ∧ b < 24
      · rw [if_pos hb, if_pos (show 24 - ((d + 1 : Nat) : Int) ≤ b ∧ b < 24 by omega)]; omega
      · rw [if_neg hb, if_neg (show ¬ (24 - ((d + 1 : Nat) : Int) ≤ b ∧ b < 24) by omega)]; omega
theorem allK_one {K K' : Int → Int → Bool} {a b : Int} (hab : a < b) (hb : b < 24) (h1 : K a b = true) (h2 : K' a b = false) (h3 : ∀ x y, (x ≠ a ∨ y ≠ b) → K x y = K' x y) : ∀ d : Nat, d ≤ 24 → (allK K d).length = (allK K' d).length + if 24 - (d : Int) ≤ a then 1 else 0
  | 0, _ => by simp only [allK, List.length_nil]; rw [if_neg (by omega)]
  | d + 1, hd => by
    have ih := allK_one hab hb h1 h2 h3 d (by omega)
    unfold allK
    rw [List.length_append, List.length_append, ih]
    by_cases e : 24 - ((d + 1 : Nat) : Int) = a
    · rw [e, rowK_one (K := K) (K' := K') (b := b) (x := a) h1 h2 (fun y hy => h3 _ _ (.inr hy)) d (by omega), if_pos (by omega), if_neg (by omega), if_pos (by omega)]
      omega
    · rw [rowK_congr d (by omega) (fun y _ _ => h3 _ _ (.inl e))]
      by_cases ha : 24 - (d : Int) ≤ a
      · rw [if_pos ha, if_pos (by omega)]; omega
      · rw [if_neg ha, if_neg (by omega)]; omega
theorem link_comm (a b : Int) : link a b = link b a := by
  unfold link
  have h1 : (if b < a then b else a) = (if a < b then a else b) := by split <;> split <;> omega
  have h2 : (if a < b then b else a) = (if b < a then a else b) := by split <;> split <;> omega
  rw [h1, h2]
theorem link_eq {a b c d : Int} (h : link a b = link c d) : (a = c ∧ b = d) ∨ (a = d ∧ b = c) := by
  unfold link at h
  simp only [Prod.mk.injEq] at h
  obtain ⟨h1, h2⟩ := h
  split at h1 <;> split at h1 <;> split at h2 <;> split at h2 <;> omega
/-- Are packets equal? -/
def sameP (p q : S_Packet) : Bool := p.From == q.From && (p.To == q.To && strEq (bstr p.Data) (bstr q.Data))
theorem g19 (p q : S_Packet) : G19 p q = some (sameP p q) := by
  unfold G19 F19 sameP
  cases p.From == q.From with
  | false => rfl
  | true => cases p.To == q.To with
    | false => rfl
    | true => rfl
theorem sameP_refl (p : S_Packet) : sameP p p = true := by simp [sameP, strEq_refl]
theorem delR_cut {x : S_Net} (h : okN x = true) {k : Nat} (hk : k < x.Queue.length) : delR x (k : Int) = (if isCut x.Apart (link x.Queue[k].From x.Queue[k].To) = true then zeroP else x.Queue[k], without x k, 0) := by
  unfold delR
  rw [atR_at h hk]
  simp
theorem cutR_ok {x : S_Net} {a b : Int} (hx : okN x = true) (hl : okL (link a b) = true) (on : Bool) : cutR x a b on = (S_Net.mk x.Queue (allK (keepL x.Apart (link a b) on) 24), 0) := by
  unfold cutR
  rw [if_pos hx, if_pos hl]
theorem allK_small (K : Int → Int → Bool) : (allK K 24).length ≤ 576 := allK_len K 24
theorem pick_u64 {a : Int} {l : Nat} (h0 : 0 < l) (hl : l ≤ 40) (ha : 0 ≤ a) : ∃ k : Nat, k < l ∧ wr .i64 (Int.tmod a (l : Int)) = (k : Int) := by
  have hm0 : 0 ≤ Int.tmod a (l : Int) := Int.tmod_nonneg _ ha
  have hm1 : Int.tmod a (l : Int) < l := Int.tmod_lt_of_pos _ (by omega)
  refine ⟨(Int.tmod a (l : Int)).toNat, by omega, ?_⟩
  rw [wr64 (by omega) (by omega)]; omega
theorem strEq_sym (a b : ByteArray) : strEq a b = strEq b a := by
  unfold strEq
  exact BEq.comm
end Go.Proofs.Ytgcobbhbfkjkeaa
