/-
  Layer 6, in plain Lean: what is cut after a cut; the laws on cuts and moves.
-/
import Derived.Test.YtgcobbhbfkjkeaaP4
namespace Go.Proofs.Ytgcobbhbfkjkeaa
set_option linter.unusedVariables false
set_option linter.unusedSimpArgs false
set_option maxRecDepth 100000
theorem any_if (c : Bool) (p : Int × Int) (f : Int × Int → Bool) : (if c = true then [p] else []).any f = (c && f p) := by cases c <;> simp
theorem isCut_row (K : Int → Int → Bool) (x : Int) (p : Int × Int) : ∀ d, d ≤ 24 → isCut (rowK K x d) p = (p.1 == x && decide (24 - (d : Int) ≤ p.2) && decide (p.2 < 24) && K x p.2)
  | 0, _ => by
    simp only [rowK, isCut, List.any_nil]
    rw [Eq.comm, Bool.and_eq_false_iff]
    left
    rw [Bool.eq_false_iff]
    simp only [ne_eq, Bool.and_eq_true, decide_eq_true_eq, beq_iff_eq]
    omega
  | d + 1, hd => by
    have ih := isCut_row K x p d (by omega)
    unfold isCut at ih
    unfold rowK isCut
    rw [List.any_append, ih, any_if]
    rw [Bool.eq_iff_iff]
    simp only [Bool.or_eq_true, Bool.and_eq_true, decide_eq_true_eq, beq_iff_eq]
    constructor
    · rintro (⟨h1, h2, h3⟩ | ⟨⟨⟨h1, h2⟩, h3⟩, h4⟩)
      · refine ⟨⟨⟨h2, by omega⟩, by omega⟩, ?_⟩; rw [h3]; exact h1
      · exact ⟨⟨⟨h1, by omega⟩, h3⟩, h4⟩
    · rintro ⟨⟨⟨h1, h2⟩, h3⟩, h4⟩
      by_cases e : p.2 = 24 - ((d + 1 : Nat) : Int)
      · left; refine ⟨?_, h1, e⟩; rw [← e]; exact h4
      · right; exact ⟨⟨⟨h1, by omega⟩, h3⟩, h4⟩
theorem isCut_all (K : Int → Int → Bool) (p : Int × Int) : ∀ d, d ≤ 24 → isCut (allK K d) p = (decide (24 - (d : Int) ≤ p.1) && decide (p.1 < p.2) && decide (p.2 < 24) && K p.1 p.2)
  | 0, _ => by
    simp only [allK, isCut, List.any_nil]
    rw [Eq.comm, Bool.and_eq_false_iff]
    left
    rw [Bool.eq_false_iff]
    simp only [ne_eq, Bool.and_eq_true, decide_eq_true_eq, beq_iff_eq]
    omega
  | d + 1, hd => by
    have ih := isCut_all K p d (by omega)
    have hr := isCut_row K (24 - ((d + 1 : Nat) : Int)) p d (by omega)
    unfold isCut at ih hr
    unfold allK isCut
    rw [List.any_append, ih, hr]
    rw [Bool.eq_iff_iff]
    simp only [Bool.or_eq_true, Bool.and_eq_true, decide_eq_true_eq, beq_iff_eq]
    constructor
    · rintro (⟨⟨⟨h1, h2⟩, h3⟩, h4⟩ | ⟨⟨⟨h1, h2⟩, h3⟩, h4⟩)
      · refine ⟨⟨⟨by omega, by omega⟩, h3⟩, ?_⟩; rw [h1]; exact h4
      · exact ⟨⟨⟨by omega, h2⟩, h3⟩, h4⟩
    · rintro ⟨⟨⟨h1, h2⟩, h3⟩, h4⟩
      by_cases e : p.1 = 24 - ((d + 1 : Nat) : Int)
      · left; refine ⟨⟨⟨e, by omega⟩, h3⟩, ?_⟩; rw [← e]; exact h4
      · right; exact ⟨⟨⟨by omega, h2⟩, h3⟩, h4⟩
theorem isCut_full (K : Int → Int → Bool) {p : Int × Int} (h : okL p = true) : isCut (allK K 24) p = K p.1 p.2 := by
  unfold okL at h
  simp only [Bool.and_eq_true, decide_eq_true_eq] at h
  rw [isCut_all K p 24 (Nat.le_refl _), decide_eq_true (by omega), decide_eq_true (by omega), decide_eq_true (by omega)]
  simp
/-- In order, and after a pair that is less. -/
theorem okAp_app : ∀ (l l2 : List (Int × Int)) (o : Option (Int × Int)), okAp o l = true → (∀ o', (l = [] → o' = o) → (∀ q, l.getLast? = some q → o' = some q) → okAp o' l2 = true) → okAp o (l ++ l2) = true
  | [], l2, o, _, h2 => h2 o (fun _ => rfl) (fun q hq => by cases hq)
  | p :: l, l2, o, h1, h2 => by
    unfold okAp at h1
    rw [List.cons_append]
    unfold okAp
    simp only [Bool.and_eq_true] at h1 ⊢
    refine ⟨h1.1, okAp_app l l2 (some p) h1.2 fun o' ha hb => h2 o' (fun e => by cases e) fun q hq => ?_⟩
    cases l with
    | nil => rw [ha rfl]; simpa using hq
    | cons p' l' => exact hb q (by simpa [List.getLast?_cons_cons] using hq)
theorem rowK_mem {K : Int → Int → Bool} {x : Int} : ∀ {d : Nat} {p : Int × Int}, p ∈ rowK K x d → p.1 = x ∧ 24 - (d : Int) ≤ p.2 ∧ p.2 < 24
  | 0, p, h => by cases h
  | d + 1, p, h => by
    unfold rowK at h
    rcases List.mem_append.1 h with h | h
    · split at h
      · obtain rfl : p = _ := by simpa using h
        exact ⟨rfl, by simp, by simp; omega⟩
      · cases h
    · have := rowK_mem h
      exact ⟨this.1, by omega, this.2.2⟩
theorem okAp_row (K : Int → Int → Bool) (x : Int) (hx : 0 ≤ x) : ∀ (d : Nat) (o : Option (Int × Int)), d ≤ 24 → x < 24 - (d : Int) → (∀ q, o = some q → q.1 < x ∨ (q.1 = x ∧ q.2 < 24 - (d : Int))) → okAp o (rowK K x d) = true
  | 0, o, _, _, _ => rfl
  | d + 1, o, hd, hxd, ho => by
    unfold rowK
    split
    · show okAp o ((x, 24 - ((d + 1 : Nat) : Int)) :: rowK K x d) = true
      unfold okAp
      simp only [Bool.and_eq_true]
      refine ⟨⟨?_, ?_⟩, okAp_row K x hx d _ (by omega) (by omega) (fun q hq => ?_)⟩
      · unfold okL; simp only [Bool.and_eq_true, decide_eq_true_eq]; omega
      · cases o with
        | none => rfl
        | some q =>
          have := ho q rfl
          unfold lexlt
          simp only [Bool.or_eq_true, Bool.and_eq_true, decide_eq_true_eq, beq_iff_eq]
          omega
      · cases hq; right; exact ⟨rfl, by omega⟩
    · rw [List.nil_append]
      exact okAp_row K x hx d o (by omega) (by omega) (fun q hq => by have := ho q hq; omega)
theorem okAp_allK (K : Int → Int → Bool) : ∀ (d : Nat) (o : Option (Int × Int)), d ≤ 24 → (∀ q, o = some q → q.1 < 24 - (d : Int)) → okAp o (allK K d) = true
  | 0, o, _, _ => rfl
  | d + 1, o, hd, ho => by
    unfold allK
    refine okAp_app _ _ _ (okAp_row K _ (by omega) d o (by omega) (by omega) (fun q hq => .inl (ho q hq))) fun o' ha hb => okAp_allK K d o' (by omega) fun q hq => ?_
    subst hq
    cases hl : (rowK K (24 - ((d + 1 : Nat) : Int)) d).getLast? with
    | none =>
      have := ho q (ha (List.getLast?_eq_none_iff.1 hl)).symm
      omega
    | some p =>
      have := hb p hl
      cases this
      have := rowK_mem (List.mem_of_getLast? hl)
      omega
theorem okN_cut {x : S_Net} (h : okN x = true) (K : Int → Int → Bool) : okN (S_Net.mk x.Queue (allK K 24)) = true := by
  rw [okN_iff] at h ⊢
  exact ⟨h.1, h.2.1, okAp_allK K 24 none (by omega) (fun q hq => by cases hq)⟩
theorem rowK_congr {K K' : Int → Int → Bool} {x : Int} : ∀ d : Nat, d ≤ 24 → (∀ y : Int, 24 - (d : Int) ≤ y → y < 24 → K x y = K' x y) → rowK K x d = rowK K' x d
  | 0, _, _ => rfl
  | d + 1, hd, h => by
    unfold rowK
    rw [h _ (Int.le_refl _) (by omega), rowK_congr d (by omega) (fun y h1 h2 => h y (by omega) h2)]
theorem allK_congr {K K' : Int → Int → Bool} : ∀ d : Nat, d ≤ 24 → (∀ x y : Int, 24 - (d : Int) ≤ x → x < y → y < 24 → K x y = K' x y) → allK K d = allK K' d
  | 0, _, _ => rfl
  | d + 1, hd, h => by
    unfold allK
    rw [rowK_congr d (by omega) (fun y h1 h2 => h _ y (Int.le_refl _) (by omega) h2), allK_congr d (by omega) (fun x y h1 h2 h3 => h x y (by omega) h2 h3)]
theorem all_same {K K' : Int → Int → Bool} (h : ∀ x y : Int, okL (x, y) = true → K x y = K' x y) : allK K 24 = allK K' 24 :=
  allK_congr 24 (Nat.le_refl _) fun x y h1 h2 h3 => h x y (by unfold okL; simp only [Bool.and_eq_true, decide_eq_true_eq]; omega)
theorem rowK_one {K K' : Int → Int → Bool} {x b : Int} (h1 : K x b = true) (h2 : K' x b = false) (h3 : ∀ y, y ≠ b → K x y = K' x y) : ∀ d : Nat, d ≤ 24 → (rowK K x d).length = (rowK K' x d).length + if 24 - (d : Int) ≤ b ∧ b < 24 then 1 else 0
  | 0, _ => by simp only [rowK, List.length_nil]; rw [if_neg (by omega)]
  | d + 1, hd => by
    have ih := rowK_one h1 h2 h3 d (by omega)
    unfold rowK
    rw [List.length_append, List.length_append, ih]
    by_cases e : 24 - ((d + 1 : Nat) : Int) = b
    · rw [e, h1, h2, if_neg (show ¬ (24 - (d : Int) ≤ b ∧ b < 24) by omega), if_pos (show b ≤ b ∧ b < 24 by omega)]
      simp; omega
    · rw [h3 _ e]
      by_cases hb : 24 - (d : Int) ≤ b ∧ b < 24
      · rw [if_pos hb, if_pos (show 24 - ((d + 1 : Nat) : Int) ≤ b ∧ b < 24 by omega)]; omega
      · rw [if_neg hb, if_neg (show ¬ (24 - ((d + 1 : Nat) : Int) ≤ b ∧ b < 24) by omega)]; omega
theorem allK_one {K K' : Int → Int → Bool} {a b : Int} (hab : a < b) (hb : b < 24) (h1 : K a b = true) (h2 : K' a b = false) (h3 : ∀ x y, (x ≠ a ∨ y ≠ b) → K x y = K' x y) : ∀ d : Nat, d ≤ 24 → (allK K d).length = (allK K' d).length + if 24 - (d : Int) ≤ a then 1 else 0
  | 0, _ => by simp only [allK, List.length_nil]; rw [if_neg (by omega)]
  | d + 1, hd => by
    have ih := allK_one hab hb h1 h2 h3 d (by omega)
    unfold allK
    rw [List.length_append, List.length_append, ih]
    by_cases e : 24 - ((d + 1 : Nat) : Int) = a
    · rw [e, rowK_one (K := K) (K' := K') (b := b) (x := a) h1 h2 (fun y hy => h3 _ _ (.inr hy)) d (by omega), if_pos (by omega), if_neg (by omega), if_pos (by omega)]
      omega
    · rw [rowK_congr d (by omega) (fun y _ _ => h3 _ _ (.inl e))]
      by_cases ha : 24 - (d : Int) ≤ a
      · rw [if_pos ha, if_pos (by omega)]; omega
      · rw [if_neg ha, if_neg (by omega)]; omega
theorem link_comm (a b : Int) : link a b = link b a := by
  unfold link
  have h1 : (if b < a then b else a) = (if a < b then a else b) := by split <;> split <;> omega
  have h2 : (if a < b then b else a) = (if b < a then a else b) := by split <;> split <;> omega
  rw [h1, h2]
theorem link_eq {a b c d : Int} (h : link a b = link c d) : (a = c ∧ b = d) ∨ (a = d ∧ b = c) := by
  unfold link at h
  simp only [Prod.mk.injEq] at h
  obtain ⟨h1, h2⟩ := h
  split at h1 <;> split at h1 <;> split at h2 <;> split at h2 <;> omega
/-- Are packets equal? -/
def sameP (p q : S_Packet) : Bool := p.From == q.From && (p.To == q.To && strEq (bstr p.Data) (bstr q.Data))
theorem g19 (p q : S_Packet) : G19 p q = some (sameP p q) := by
  unfold G19 F19 sameP
  cases p.From == q.From with
  | false => rfl
  | true => cases p.To == q.To with
    | false => rfl
    | true => rfl
theorem sameP_refl (p : S_Packet) : sameP p p = true := by simp [sameP, strEq_refl]
theorem delR_cut {x : S_Net} (h : okN x = true) {k : Nat} (hk : k < x.Queue.length) : delR x (k : Int) = (if isCut x.Apart (link x.Queue[k].From x.Queue[k].To) = true then zeroP else x.Queue[k], without x k, 0) := by
  unfold delR
  rw [atR_at h hk]
  simp
theorem few {x : S_Net} (h : G10 x = some true) : x.Queue.length ≤ 40 ∧ x.Apart.length ≤ 40 := by
  rw [g10] at h
  simpa using h
theorem cutR_ok {x : S_Net} {a b : Int} (hx : okN x = true) (hl : okL (link a b) = true) (on : Bool) : cutR x a b on = (S_Net.mk x.Queue (allK (keepL x.Apart (link a b) on) 24), 0) := by
  unfold cutR
  rw [if_pos hx, if_pos hl]
theorem allK_small (K : Int → Int → Bool) : (allK K 24).length ≤ 576 := allK_len K 24
theorem pick_u64 {a : Int} {l : Nat} (h0 : 0 < l) (hl : l ≤ 40) (ha : 0 ≤ a) : ∃ k : Nat, k < l ∧ wr .i64 (Int.tmod a (l : Int)) = (k : Int) := by
  have hm0 : 0 ≤ Int.tmod a (l : Int) := Int.tmod_nonneg _ ha
  have hm1 : Int.tmod a (l : Int) < l := Int.tmod_lt_of_pos _ (by omega)
  refine ⟨(Int.tmod a (l : Int)).toNat, by omega, ?_⟩
  rw [wr64 (by omega) (by omega)]; omega
theorem strEq_sym (a b : ByteArray) : strEq a b = strEq b a := by
  unfold strEq
  exact BEq.comm
theorem pure5 : Pure5 := by
  intro x a b at_ hx ha hb hat
  unfold G5 F5
  rw [sane9, Option.bind_some, g10]
  by_cases hf : x.Queue.length ≤ 40 ∧ x.Apart.length ≤ 40
  · obtain ⟨f1, f2⟩ := hf
    have hA : x.Apart.length ≤ fuel0 := Nat.le_trans f2 (by decide)
    rw [decide_eq_true f1, decide_eq_true f2, g13 x hA]
    cases hok : okN x with
    | false => simp
    | true =>
      cases hl : okL (link a b) with
      | false =>
        have : cutR x a b true = (zeroN, 1) := by unfold cutR; rw [if_pos hok, if_neg (by rw [hl]; simp)]
        simp [g20 x _ _ _ hA, this]
      | true =>
        have hl' : okL (link b a) = true := by rw [link_comm]; exact hl
        -- the three links
        obtain ⟨Q, Ap⟩ := x
        have hA : (S_Net.mk Q Ap).Apart.length ≤ fuel0 := hA
        have f1 : Q.length ≤ 40 := f1
        have e1 := cutR_ok hok hl true
        have e2 := cutR_ok hok hl' true
        have e5 := cutR_ok hok hl false
        simp only at e1 e2 e5
        rw [link_comm b a] at e2
        generalize hX : allK (keepL Ap (link a b) true) 24 = X at e1 e2
        generalize hM : allK (keepL Ap (link a b) false) 24 = M at e5
        have hXs : X.length ≤ 576 := by rw [← hX]; exact allK_small _
        have hMs : M.length ≤ 576 := by rw [← hM]; exact allK_small _
        have hAX : (S_Net.mk Q X).Apart.length ≤ fuel0 := by show X.length ≤ fuel0; rw [fu]; omega
        have hAM : (S_Net.mk Q M).Apart.length ≤ fuel0 := by show M.length ≤ fuel0; rw [fu]; omega
        have okX : okN (S_Net.mk Q X) = true := by rw [← hX]; exact okN_cut (x := S_Net.mk Q Ap) hok _
        have okM : okN (S_Net.mk Q M) = true := by rw [← hM]; exact okN_cut (x := S_Net.mk Q Ap) hok _
        have cX : ∀ p, okL p = true → isCut X p = keepL Ap (link a b) true p.1 p.2 := fun p hp => by rw [← hX]; exact isCut_full _ hp
        have cM : ∀ p, okL p = true → isCut M p = keepL Ap (link a b) false p.1 p.2 := fun p hp => by rw [← hM]; exact isCut_full _ hp
        have e3 := cutR_ok okX hl true
        have e4 := cutR_ok okX hl' false
        simp only at e3 e4
        rw [link_comm b a] at e4
        have hX2 : allK (keepL X (link a b) true) 24 = X := by
          rw [← hX]
          refine all_same fun u v huv => ?_
          show (bif _ then _ else _) = _
          rw [hX, cX (u, v) huv]
          unfold keepL
          cases (u == (link a b).1 && v == (link a b).2) <;> rfl
        have hM2 : allK (keepL X (link a b) false) 24 = M := by
          rw [← hM]
          refine all_same fun u v huv => ?_
          show (bif _ then _ else _) = _
          rw [cX (u, v) huv]
          unfold keepL
          cases (u == (link a b).1 && v == (link a b).2) <;> rfl
        rw [hX2] at e3
        rw [hM2] at e4
        have hlen : X.length = M.length + 1 := by
          have hl2 := hl
          unfold okL at hl2
          simp only [Bool.and_eq_true, decide_eq_true_eq] at hl2
          have := allK_one (K := keepL Ap (link a b) true) (K' := keepL Ap (link a b) false) (a := (link a b).1) (b := (link a b).2) hl2.1.2 hl2.2 (by simp [keepL]) (by simp [keepL]) (fun u v huv => by
            have : (u == (link a b).1 && v == (link a b).2) = false := by
              rw [Bool.and_eq_false_iff, beq_eq_false_iff_ne, beq_eq_false_iff_ne]; exact huv
            unfold keepL
            rw [this]; rfl) 24 (Nat.le_refl _)
          rw [if_pos (by omega), hX, hM] at this
          exact this
        have r1 : G15 (S_Net.mk Q X) (S_Net.mk Q X) = some true := g15r _ (by show Q.length ≤ fuel0; rw [fu]; omega) hAX
        have r2 : G15 (S_Net.mk Q M) (S_Net.mk Q M) = some true := g15r _ (by show Q.length ≤ fuel0; rw [fu]; omega) hAM
        have hw1 : wr .i64 ((M.length : Int) + 1) = (X.length : Int) := by rw [wr64 (by omega) (by omega)]; omega
        cases hq : Q with
        | nil => 
          subst hq
          simp [g20 _ _ _ _ hA, g20 _ _ _ _ hAX, e1, e2, e3, e4, e5, r1, r2, hw1]
        | cons p0 r0 =>
          rw [← hq]
          have hlen0 : 0 < Q.length := by rw [hq]; simp
          have hne : ((Q.length : Int) == 0) = false := by rw [beq_eq_false_iff_ne]; omega
          have hwr : wr .u64 (Q.length : Int) = Q.length := wrU64 (by omega) (by omega)
          have hd : decide ((Q.length : Int) ≠ 0) = true := decide_eq_true (by omega)
          obtain ⟨k, hk1, hk2⟩ := pick_u64 hlen0 f1 hat.1
          have hp : okP Q[k] = true := ((okN_iff _).1 hok).2.1 _ (List.getElem_mem hk1)
          have d1 := delR_cut okX (k := k) hk1
          have d2 := delR_cut okM (k := k) hk1
          simp only at d1 d2
          have hpl : okL (link Q[k].From Q[k].To) = true := by
            unfold okP at hp; rw [Bool.and_eq_true] at hp; exact hp.1
          rw [cX _ hpl] at d1
          rw [cM _ hpl] at d2
          have z0 : sameP zeroP zeroP = true := sameP_refl _
          have key : ∀ (p q : S_Packet), delR (S_Net.mk Q X) (k : Int) = (p, without (S_Net.mk Q X) k, 0) → delR (S_Net.mk Q M) (k : Int) = (q, without (S_Net.mk Q M) k, 0) →
              let bt := (q.From == a && q.To == b) || (q.From == b && q.To == a)
              (sameP p zeroP == (bt || sameP q zeroP)) && (bt || sameP p q) = true := by
            intro p q hp1 hq1
            rw [d1] at hp1; rw [d2] at hq1
            simp only [Prod.mk.injEq, and_true] at hp1 hq1
            subst hp1; subst hq1
            simp only
            by_cases hlk : link Q[k].From Q[k].To = link a b
            · have hk0 : ∀ on, keepL Ap (link a b) on (link Q[k].From Q[k].To).1 (link Q[k].From Q[k].To).2 = on := fun on => by
                rw [hlk]; simp [keepL]
              rw [hk0, hk0, if_pos rfl, if_neg (by simp)]
              have hbt : ((Q[k].From == a && Q[k].To == b) || (Q[k].From == b && Q[k].To == a)) = true := by
                rcases link_eq hlk with ⟨h1, h2⟩ | ⟨h1, h2⟩
                · simp [h1, h2]
                · simp [h1, h2]
              rw [hbt, z0]; rfl
            · have hk0 : ∀ on, keepL Ap (link a b) on (link Q[k].From Q[k].To).1 (link Q[k].From Q[k].To).2 = isCut Ap (link Q[k].From Q[k].To) := fun on => by
                unfold keepL
                rw [show ((link Q[k].From Q[k].To).1 == (link a b).1 && (link Q[k].From Q[k].To).2 == (link a b).2) = false from by
                  rw [Bool.and_eq_false_iff, beq_eq_false_iff_ne, beq_eq_false_iff_ne]
                  by_cases h1 : (link Q[k].From Q[k].To).1 = (link a b).1
                  · right; intro h2; exact hlk (Prod.ext h1 h2)
                  · left; exact h1]
                rfl
              rw [hk0, hk0]
              generalize hpq : (if isCut Ap (link Q[k].From Q[k].To) = true then zeroP else Q[k]) = p
              have hbt : ((p.From == a && p.To == b) || (p.From == b && p.To == a)) = false := by
                rw [Bool.eq_false_iff]
                intro hh
                simp only [Bool.or_eq_true, Bool.and_eq_true, beq_iff_eq] at hh
                have hpl2 : link p.From p.To = link a b := by
                  rcases hh with ⟨h1, h2⟩ | ⟨h1, h2⟩
                  · rw [h1, h2]
                  · rw [h1, h2, link_comm]
                rw [← hpq] at hpl2
                split at hpl2
                · rw [← hpl2] at hl; exact absurd hl (by decide)
                · exact hlk hpl2
              rw [hbt, sameP_refl]
              simp
          have := key _ _ d1 d2
          simp only at this
          generalize hpp : (if keepL Ap (link a b) true (link Q[k].From Q[k].To).1 (link Q[k].From Q[k].To).2 = true then zeroP else Q[k]) = p at d1 this
          generalize hqq : (if keepL Ap (link a b) false (link Q[k].From Q[k].To).1 (link Q[k].From Q[k].To).2 = true then zeroP else Q[k]) = q at d2 this
          have gz : S_Packet.mk 0 0 [] = zeroP := rfl
          simp only [g20 _ _ _ _ hA, g20 _ _ _ _ hAX, e1, e2, e3, e4, e5, r1, r2, hw1, hne, hwr, hd, hk2, g18 _ _ hAX, g18 _ _ hAM, d1, d2, g19, gz, Option.bind_some, Bool.not_true, cond_false, cond_true, Bool.and_self, if_true, bne_self_eq_false, beq_self_eq_true, Bool.not_false, or_some, and_some]
          revert this
          generalize (q.From == a) = b1
          generalize (q.To == b) = b2
          generalize (q.From == b) = b3
          generalize (q.To == a) = b4
          generalize sameP p zeroP = b5
          generalize sameP q zeroP = b6
          generalize sameP p q = b7
          revert b1 b2 b3 b4 b5 b6 b7
          decide
  · have : (decide (x.Queue.length ≤ 40) && decide (x.Apart.length ≤ 40)) = false := by
      rw [Bool.eq_false_iff]; simpa using hf
    rw [this]; simp
end Go.Proofs.Ytgcobbhbfkjkeaa
