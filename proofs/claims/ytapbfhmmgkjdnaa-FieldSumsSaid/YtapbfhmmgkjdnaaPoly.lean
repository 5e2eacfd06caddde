/-
  Plain algebra: polynomials modulo the prime of layer 9, their roots, and the polynomial through some points. No program in sight.
-/
import Derived.Test.YtapbfhmmgkjdnaaPrime
namespace Go.Proofs.Ytapbfhmmgkjdnaa
/-- The value of a polynomial. -/
def ev : List Int → Int → Int
  | [], _ => 0
  | c :: cs, t => c + t * ev cs t
theorem ev_snoc (cs : List Int) (c t : Int) : ev (cs ++ [c]) t = ev cs t + t ^ cs.length * c := by
  induction cs with
  | nil => show c + t * 0 = 0 + t ^ 0 * c; rw [Int.pow_zero]; omega
  | cons d cs ih =>
    show d + t * ev (cs ++ [c]) t = d + t * ev cs t + t ^ (cs.length + 1) * c
    rw [ih, Int.mul_add, Int.pow_succ, Int.mul_comm (t ^ cs.length) t, Int.mul_assoc]
    omega
def addl : List Int → List Int → List Int
  | [], b => b
  | a, [] => a
  | x :: a, y :: b => (x + y) :: addl a b
theorem addl_length : ∀ a b, (addl a b).length = max a.length b.length
  | [], b => by simp [addl]
  | x :: a, [] => by simp [addl]
  | x :: a, y :: b => by simp [addl, addl_length a b]
theorem addl_ev : ∀ a b t, ev (addl a b) t = ev a t + ev b t
  | [], b, t => by simp [addl, ev]
  | x :: a, [], t => by simp [addl, ev]
  | x :: a, y :: b, t => by
    show x + y + t * ev (addl a b) t = x + t * ev a t + (y + t * ev b t)
    rw [addl_ev a b t, Int.mul_add]; omega
def scale (k : Int) (a : List Int) : List Int := a.map (k * ·)
theorem scale_length (k : Int) (a : List Int) : (scale k a).length = a.length := List.length_map _
theorem scale_ev (k : Int) : ∀ a t, ev (scale k a) t = k * ev a t
  | [], t => by simp [scale, ev]
  | x :: a, t => by
    show k * x + t * ev (scale k a) t = k * (x + t * ev a t)
    rw [scale_ev k a t, Int.mul_add, Int.mul_left_comm]
/-- Division by 't - r'. -/
def quot (r : Int) : List Int → List Int
  | [] => []
  | _ :: cs => addl cs (scale r (quot r cs))
theorem quot_length (r : Int) : ∀ cs, (quot r cs).length = cs.length - 1
  | [] => rfl
  | c :: cs => by
    show (addl cs (scale r (quot r cs))).length = _
    rw [addl_length, scale_length, quot_length r cs]
    simp
theorem quot_ev (r : Int) : ∀ cs t, ev cs t - ev cs r = (t - r) * ev (quot r cs) t
  | [], t => by simp [ev, quot]
  | c :: cs, t => by
    have ih := quot_ev r cs t
    show c + t * ev cs t - (c + r * ev cs r) = (t - r) * ev (addl cs (scale r (quot r cs))) t
    rw [addl_ev, scale_ev, Int.mul_add, Int.mul_left_comm (t - r) r, ← ih, Int.sub_mul, Int.mul_sub]
    omega
/-- Different modulo Q. -/
def Diff (xs : List Int) : Prop := xs.Pairwise fun a b => md a ≠ md b
theorem md_sub_ne {a b : Int} (h : md a ≠ md b) : md (a - b) ≠ 0 := by unfold md at *; omega
theorem md_congr_sub {a b c d : Int} (h : md a = md b) (k : md c = md d) : md (a - c) = md (b - d) := by unfold md at *; omega
theorem md_congr_add {a b c d : Int} (h : md a = md b) (k : md c = md d) : md (a + c) = md (b + d) := by unfold md at *; omega
theorem md_congr_mul {a b c d : Int} (h : md a = md b) (k : md c = md d) : md (a * c) = md (b * d) := by
  rw [← md_mul, ← md_mul_r, h, k, md_mul, md_mul_r]
theorem md_eq_of_sub {a b : Int} (h : md (a - b) = 0) : md a = md b := by unfold md at *; omega
/-- A polynomial with more roots than its degree is 0. -/
theorem roots : ∀ (n : Nat) (cs : List Int), cs.length ≤ n → ∀ xs : List Int, xs.length = n → Diff xs → (∀ x ∈ xs, md (ev cs x) = 0) → ∀ t, md (ev cs t) = 0
  | 0, cs, h, _, _, _, _, t => by
    obtain rfl : cs = [] := List.length_eq_zero_iff.1 (by omega)
    rfl
  | n + 1, cs, h, xs, hx, hd, hz, t => by
    match xs, hx with
    | r :: xs, hx =>
      have hr := hz r (by simp)
      obtain ⟨hd1, hd2⟩ := List.pairwise_cons.1 hd
      have key : ∀ x, md (ev cs x) = md ((x - r) * ev (quot r cs) x) := fun x => by
        have := quot_ev r cs x
        rw [← this]; unfold md at *; omega
      have hq := roots n (quot r cs) (by rw [quot_length]; omega) xs (by simpa using hx) hd2 (fun x hxm => by
        have h1 := hz x (by simp [hxm])
        rw [key x] at h1
        rcases euclid _ _ h1 with h2 | h2
        · exact absurd h2 (md_sub_ne (Ne.symm (hd1 x hxm)))
        · exact h2) t
      rw [key t, ← md_mul_r, hq, Int.mul_zero]; rfl

/-- A function that is, modulo Q, a polynomial with at most n coefficients. -/
def Deg (n : Nat) (f : Int → Int) : Prop := ∃ cs : List Int, cs.length ≤ n ∧ ∀ t, md (f t) = md (ev cs t)
theorem Deg.mono {m n : Nat} {f : Int → Int} (h : Deg m f) (hm : m ≤ n) : Deg n f := let ⟨cs, h1, h2⟩ := h; ⟨cs, by omega, h2⟩
theorem Deg.zero (n : Nat) : Deg n fun _ => 0 := ⟨[], by simp, fun _ => rfl⟩
theorem Deg.one : Deg 1 fun _ => 1 := ⟨[1], by simp, fun t => by simp [ev]⟩
theorem Deg.add {n : Nat} {f g : Int → Int} (h : Deg n f) (k : Deg n g) : Deg n fun t => f t + g t := by
  obtain ⟨a, ha, h⟩ := h
  obtain ⟨b, hb, k⟩ := k
  exact ⟨addl a b, by rw [addl_length]; omega, fun t => by rw [addl_ev]; exact md_congr_add (h t) (k t)⟩
theorem Deg.scale {n : Nat} {f : Int → Int} (h : Deg n f) (c : Int) : Deg n fun t => c * f t := by
  obtain ⟨a, ha, h⟩ := h
  exact ⟨Proofs.Ytapbfhmmgkjdnaa.scale c a, by rw [scale_length]; exact ha, fun t => by rw [scale_ev]; exact md_congr_mul rfl (h t)⟩
theorem Deg.lin {n : Nat} {f : Int → Int} (h : Deg n f) (x : Int) : Deg (n + 1) fun t => (t - x) * f t := by
  obtain ⟨a, ha, h⟩ := h
  refine ⟨addl (0 :: a) (Proofs.Ytapbfhmmgkjdnaa.scale (-x) a), by rw [addl_length, scale_length]; simp; omega, fun t => ?_⟩
  rw [addl_ev, scale_ev]
  show _ = md (0 + t * ev a t + -x * ev a t)
  rw [show (0 + t * ev a t + -x * ev a t) = (t - x) * ev a t by rw [Int.sub_mul, Int.neg_mul]; omega]
  exact md_congr_mul rfl (h t)
theorem Deg.unique {n : Nat} {f g : Int → Int} (h : Deg n f) (k : Deg n g) (xs : List Int) (hx : n ≤ xs.length) (hd : Diff xs) (hz : ∀ x ∈ xs, md (f x) = md (g x)) (t : Int) : md (f t) = md (g t) := by
  obtain ⟨a, ha, h⟩ := h
  obtain ⟨b, hb, k⟩ := k
  have h1 : ∀ t, ev (addl a (Proofs.Ytapbfhmmgkjdnaa.scale (-1) b)) t = ev a t - ev b t := fun t => by rw [addl_ev, scale_ev]; omega
  have := roots xs.length (addl a (Proofs.Ytapbfhmmgkjdnaa.scale (-1) b)) (by rw [addl_length, scale_length]; omega) xs rfl hd (fun x hx => by
    have h2 := hz x hx
    rw [h1]
    rw [h, k] at h2
    unfold md at *; omega) t
  rw [h1] at this
  rw [h, k]
  exact md_eq_of_sub this

/-! ### The polynomial through points -/
def lprod : List Int → Int
  | [] => 1
  | x :: xs => x * lprod xs
theorem lprod_snoc (xs : List Int) (x : Int) : lprod (xs ++ [x]) = lprod xs * x := by
  induction xs with
  | nil => simp [lprod]
  | cons y ys ih => show y * lprod (ys ++ [x]) = y * lprod ys * x; rw [ih, Int.mul_assoc]
theorem lprod_deg (xs : List Int) : Deg (xs.length + 1) fun t => lprod (xs.map fun x => t - x) := by
  induction xs with
  | nil => exact Deg.one
  | cons x xs ih => exact ih.lin x
theorem lprod_zero (xs : List Int) (h : ∃ x ∈ xs, md x = 0) : md (lprod xs) = 0 := by
  induction xs with
  | nil => simp at h
  | cons y ys ih =>
    show md (y * lprod ys) = 0
    by_cases hy : md y = 0
    · rw [← md_mul, hy, Int.zero_mul]; rfl
    · have : md (lprod ys) = 0 := ih (by simpa [hy] using h)
      rw [← md_mul_r, this, Int.mul_zero]; rfl
theorem lprod_ne (xs : List Int) (h : ∀ x ∈ xs, md x ≠ 0) : md (lprod xs) ≠ 0 := by
  induction xs with
  | nil => decide
  | cons y ys ih =>
    intro h0
    rcases euclid _ _ h0 with h1 | h1
    · exact h y (by simp) h1
    · exact ih (fun x hx => h x (by simp [hx])) h1
theorem getD_at {α : Type} (l : List α) (i : Nat) (d : α) (h : i < l.length) : l.getD i d = l[i] := by
  rw [List.getD_eq_getElem?_getD, List.getElem?_eq_getElem h]; rfl
def pX (l : List (Int × Int)) (i : Nat) : Int := (l.getD i (0, 0)).1
def pY (l : List (Int × Int)) (i : Nat) : Int := (l.getD i (0, 0)).2
/-- The X of the first n points, but for one. -/
def othK (l : List (Int × Int)) (i : Nat) : Nat → List Int
  | 0 => []
  | k + 1 => if k = i then othK l i k else othK l i k ++ [pX l k]
def oth (l : List (Int × Int)) (i : Nat) : List Int := othK l i l.length
theorem othK_length (l : List (Int × Int)) (i : Nat) : ∀ k, (othK l i k).length = if i < k then k - 1 else k
  | 0 => by simp [othK]
  | k + 1 => by
    have ih := othK_length l i k
    unfold othK
    split
    · rename_i h; subst h; rw [ih, if_neg (by omega), if_pos (by omega)]; omega
    · rw [List.length_append, ih]
      by_cases h : i < k
      · rw [if_pos h, if_pos (by omega)]; simp; omega
      · rw [if_neg h, if_neg (by omega)]; simp
theorem othK_mem (l : List (Int × Int)) (i j : Nat) (h : i ≠ j) : ∀ k, j < k → pX l j ∈ othK l i k
  | k + 1, hk => by
    unfold othK
    by_cases e : j = k
    · subst e; rw [if_neg (Ne.symm h)]; simp
    · have := othK_mem l i j h k (by omega)
      split
      · exact this
      · exact List.mem_append_left _ this
theorem othK_of_mem (l : List (Int × Int)) (i : Nat) (x : Int) : ∀ k, x ∈ othK l i k → ∃ j, j < k ∧ j ≠ i ∧ x = pX l j
  | 0, h => by cases h
  | k + 1, h => by
    unfold othK at h
    split at h
    · obtain ⟨j, a, b, c⟩ := othK_of_mem l i x k h
      exact ⟨j, by omega, b, c⟩
    · rename_i hk
      rcases List.mem_append.1 h with h | h
      · obtain ⟨j, a, b, c⟩ := othK_of_mem l i x k h
        exact ⟨j, by omega, b, c⟩
      · exact ⟨k, by omega, hk, by simpa using h⟩
def below (l : List (Int × Int)) (i : Nat) : Int := lprod ((oth l i).map fun x => pX l i - x)
def term (l : List (Int × Int)) (i : Nat) (t : Int) : Int := pY l i * lprod ((oth l i).map fun x => t - x) * inv (below l i)
/-- The sum of the first n parts. -/
def parts (l : List (Int × Int)) (t : Int) : Nat → Int
  | 0 => 0
  | n + 1 => parts l t n + term l n t
def lag (l : List (Int × Int)) (t : Int) : Int := md (parts l t l.length)
theorem oth_length (l : List (Int × Int)) (i : Nat) (h : i < l.length) : (oth l i).length + 1 = l.length := by
  unfold oth; rw [othK_length, if_pos h]; omega
theorem term_deg (l : List (Int × Int)) (i : Nat) (h : i < l.length) : Deg l.length (term l i) := by
  have h1 := ((lprod_deg (oth l i)).scale (pY l i * inv (below l i)))
  rw [oth_length l i h] at h1
  obtain ⟨cs, a, b⟩ := h1
  exact ⟨cs, a, fun t => by rw [← b t]; show md (pY l i * _ * _) = _; rw [Int.mul_right_comm]⟩
theorem parts_deg (l : List (Int × Int)) : ∀ n, n ≤ l.length → Deg l.length fun t => parts l t n
  | 0, _ => Deg.zero _
  | n + 1, h => (parts_deg l n (by omega)).add (term_deg l n (by omega))
theorem lag_deg (l : List (Int × Int)) : Deg l.length (lag l) := by
  obtain ⟨cs, a, b⟩ := parts_deg l l.length (Nat.le_refl _)
  exact ⟨cs, a, fun t => by show md (md _) = _; rw [md_md]; exact b t⟩
theorem diff_ne (l : List (Int × Int)) (hd : Diff (l.map (·.1))) (i j : Nat) (hi : i < l.length) (hj : j < l.length) (h : i ≠ j) : md (pX l i) ≠ md (pX l j) := by
  unfold pX
  rw [getD_at _ _ _ hi, getD_at _ _ _ hj]
  have := List.pairwise_iff_getElem.1 hd
  rcases Nat.lt_or_gt_of_ne h with h1 | h1
  · have h2 := this i j (by rw [List.length_map]; exact hi) (by rw [List.length_map]; exact hj) h1
    rwa [List.getElem_map, List.getElem_map] at h2
  · have h2 := this j i (by rw [List.length_map]; exact hj) (by rw [List.length_map]; exact hi) h1
    rw [List.getElem_map, List.getElem_map] at h2
    exact h2.symm
theorem mem_oth (l : List (Int × Int)) (i j : Nat) (hj : j < l.length) (h : i ≠ j) : pX l j ∈ oth l i := othK_mem l i j h _ hj
theorem of_mem_oth (l : List (Int × Int)) (i : Nat) (x : Int) (h : x ∈ oth l i) : ∃ j, j < l.length ∧ j ≠ i ∧ x = pX l j := othK_of_mem l i x _ h
theorem below_ne (l : List (Int × Int)) (hd : Diff (l.map (·.1))) (i : Nat) (hi : i < l.length) : md (below l i) ≠ 0 := by
  refine lprod_ne _ fun y hy => ?_
  obtain ⟨x, hx, rfl⟩ := List.mem_map.1 hy
  obtain ⟨j, hj, hne, rfl⟩ := of_mem_oth l i x hx
  exact md_sub_ne (diff_ne l hd i j hi hj (Ne.symm hne))
theorem term_other (l : List (Int × Int)) (i j : Nat) (hj : j < l.length) (h : i ≠ j) : md (term l i (pX l j)) = 0 := by
  unfold term
  have : md (lprod ((oth l i).map fun x => pX l j - x)) = 0 := lprod_zero _ ⟨0, List.mem_map.2 ⟨pX l j, mem_oth l i j hj h, by omega⟩, rfl⟩
  rw [Int.mul_right_comm, ← md_mul_r, this, Int.mul_zero]; rfl
theorem term_self (l : List (Int × Int)) (hd : Diff (l.map (·.1))) (i : Nat) (hi : i < l.length) : md (term l i (pX l i)) = md (pY l i) := by
  show md (pY l i * below l i * inv (below l i)) = _
  rw [Int.mul_assoc, ← md_mul_r, inv_mul _ (below_ne l hd i hi), Int.mul_one]
theorem parts_at (l : List (Int × Int)) (hd : Diff (l.map (·.1))) (j : Nat) (hj : j < l.length) : ∀ n, n ≤ l.length → md (parts l (pX l j) n) = if j < n then md (pY l j) else 0
  | 0, _ => rfl
  | n + 1, h => by
    have ih := parts_at l hd j hj n (by omega)
    show md (parts l (pX l j) n + term l n (pX l j)) = _
    by_cases e : n = j
    · subst e
      have := term_self l hd n hj
      rw [if_neg (by omega)] at ih
      rw [if_pos (by omega)]
      unfold md at *; omega
    · have := term_other l n j hj e
      by_cases h2 : j < n
      · rw [if_pos h2] at ih; rw [if_pos (by omega)]; unfold md at *; omega
      · rw [if_neg h2] at ih; rw [if_neg (by omega)]; unfold md at *; omega
/-- At the X of a point it is its Y. -/
theorem lag_at (l : List (Int × Int)) (hd : Diff (l.map (·.1))) (j : Nat) (hj : j < l.length) : lag l (pX l j) = md (pY l j) := by
  unfold lag; rw [parts_at l hd j hj _ (Nat.le_refl _), if_pos hj]
theorem lag_range (l : List (Int × Int)) (t : Int) : 0 ≤ lag l t ∧ lag l t ≤ 1073741788 := md_range _
theorem lag_unique (l : List (Int × Int)) (hd : Diff (l.map (·.1))) (f : Int → Int) (hf : Deg l.length f) (h : ∀ j, j < l.length → md (f (pX l j)) = md (pY l j)) (t : Int) : lag l t = md (f t) := by
  have := (lag_deg l).unique hf (l.map (·.1)) (by simp) hd (fun x hx => by
    obtain ⟨p, hp, rfl⟩ := List.mem_map.1 hx
    obtain ⟨j, hj, rfl⟩ := List.mem_iff_getElem.1 hp
    have h1 : l[j].1 = pX l j := by unfold pX; rw [getD_at _ _ _ hj]
    rw [h1, lag_at l hd j hj, h j hj, md_md]) t
  unfold lag at *; rw [md_md] at this; exact this

/-! ### What the loops compute -/
theorem ad_neg_md (a x : Int) : md (ad a (-md x)) = md (a - x) := by rw [ad_eq]; unfold md; omega
/-- The numerator, one factor more. -/
theorem above_step (y t x : Int) (zs : List Int) (A : Int) (h : A = md (y * lprod (zs.map fun x => t - x))) : mu A (ad t (-md x)) = md (y * lprod ((zs ++ [x]).map fun x => t - x)) := by
  rw [mu_eq, h, md_mul, ← md_mul_r, ad_neg_md, md_mul_r, List.map_append, List.map_cons, List.map_nil, lprod_snoc, Int.mul_assoc]
theorem below_step (c x : Int) (zs : List Int) (B : Int) (h : B = md (lprod (zs.map fun x => c - x))) : mu B (ad c (-md x)) = md (lprod ((zs ++ [x]).map fun x => c - x)) := by
  rw [mu_eq, h, md_mul, ← md_mul_r, ad_neg_md, md_mul_r, List.map_append, List.map_cons, List.map_nil, lprod_snoc]
/-- The reference's part, one factor more. -/
theorem part_step (y t c x : Int) (zs : List Int) (A : Int) (h : A = md (y * lprod (zs.map fun x => t - x) * inv (lprod (zs.map fun x => c - x)))) :
    mu A (mu (ad t (-md x)) (inv (ad c (-md x)))) = md (y * lprod ((zs ++ [x]).map fun x => t - x) * inv (lprod ((zs ++ [x]).map fun x => c - x))) := by
  rw [List.map_append, List.map_cons, List.map_nil, lprod_snoc, List.map_append, List.map_cons, List.map_nil, lprod_snoc, ← inv_mul_inv]
  have e1 : md (mu (ad t (-md x)) (inv (ad c (-md x)))) = md ((t - x) * inv (c - x)) := by
    rw [mu_eq, md_md]
    refine md_congr_mul (ad_neg_md t x) ?_
    rw [← inv_md (ad c (-md x)), ad_neg_md, inv_md]
  rw [mu_eq, h, md_mul, ← md_mul_r, e1, md_mul_r]
  rw [← md_mul_r (y * (lprod (zs.map fun x => t - x) * (t - x)))]
  rw [md_md, md_mul_r]
  congr 1
  simp only [Int.mul_assoc, Int.mul_left_comm, Int.mul_comm]
theorem lag_term (l : List (Int × Int)) (t : Int) (n : Nat) (y : Int) (h : y = md (parts l t n)) (v : Int) (hv : md v = md (term l n t)) : ad y v = md (parts l t (n + 1)) := by
  rw [ad_eq, h, md_add]; exact md_congr_add rfl hv
theorem inv_one : inv 1 = 1 := by
  show md (1 ^ _) = 1
  rw [Int.one_pow]; rfl
end Go.Proofs.Ytapbfhmmgkjdnaa
