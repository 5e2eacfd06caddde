/-
  Layer 9: At.
-/
import Derived.Test.YtapbfhmmgkjdnaaW3
import Derived.Test.YtapbfhmmgkjdnaaRGB
import Derived.Maps.OwnIn
import Derived.Maps.OwnSet
namespace Go.Proofs.Ytapbfhmmgkjdnaa
open Go.RowKit Go.Shelf Go.Maps
attribute [local go_sem] Oper.semAt_some
/-! ### The set of the X -/
theorem addKey_len : ∀ (xs acc : List Lit), (xs.foldl Maps.addKey acc).length ≤ acc.length + xs.length
  | [], acc => by simp
  | x :: xs, acc => by
    have h := addKey_len xs (Maps.addKey acc x)
    have h2 : (Maps.addKey acc x).length ≤ acc.length + 1 := by unfold Maps.addKey; split <;> simp
    rw [List.foldl_cons, List.length_cons]
    omega
def keyL (p : Int × Int) : Lit := .int .i64 (md p.1)
theorem keyL_same (a b : Int × Int) : (keyL a).sameKey (keyL b) = true ↔ md a.1 = md b.1 := by
  constructor
  · intro h
    have := WideAt.sameKey_eq h
    unfold keyL at this
    injection this
  · intro h
    unfold keyL
    rw [h]
    simp [Lit.sameKey]
theorem addKey_all : ∀ (xs : List (Int × Int)) (acc : List Lit), (xs.map (·.1)).Pairwise (fun a b => md a ≠ md b) → (∀ x ∈ xs, acc.any (fun y => y.sameKey (keyL x)) = false) → ((xs.map keyL).foldl Maps.addKey acc).length = acc.length + xs.length
  | [], acc, _, _ => by simp
  | x :: xs, acc, h, h2 => by
    rw [List.map_cons] at h
    obtain ⟨h3, h4⟩ := List.pairwise_cons.1 h
    have e : Maps.addKey acc (keyL x) = acc ++ [keyL x] := by unfold Maps.addKey; rw [if_neg (by rw [h2 x (by simp)]; simp)]
    rw [List.map_cons, List.foldl_cons, e, addKey_all xs _ h4 (fun y hy => by
      rw [List.any_append, h2 y (by simp [hy])]
      simp only [Bool.false_or, List.any_cons, List.any_nil, Bool.or_false]
      have := h3 y.1 (by simp; exact ⟨y.2, hy⟩)
      cases hs : (keyL x).sameKey (keyL y) with
      | false => rfl
      | true => exact absurd ((keyL_same x y).1 hs) this)]
    simp; omega
theorem addKey_dup : ∀ (xs : List (Int × Int)) (acc : List Lit), (¬ (xs.map (·.1)).Pairwise (fun a b => md a ≠ md b) ∨ ∃ x ∈ xs, acc.any (fun y => y.sameKey (keyL x)) = true) → ((xs.map keyL).foldl Maps.addKey acc).length < acc.length + xs.length
  | [], acc, h => by rcases h with h | ⟨x, hx, _⟩; exact absurd List.Pairwise.nil h; cases hx
  | x :: xs, acc, h => by
    rw [List.map_cons, List.foldl_cons, List.length_cons]
    cases hs : acc.any (fun y => y.sameKey (keyL x)) with
    | true =>
      have e : Maps.addKey acc (keyL x) = acc := by unfold Maps.addKey; rw [if_pos hs]
      rw [e]
      have := addKey_len (xs.map keyL) acc
      rw [List.length_map] at this
      omega
    | false =>
      have e : Maps.addKey acc (keyL x) = acc ++ [keyL x] := by unfold Maps.addKey; rw [if_neg (by rw [hs]; simp)]
      rw [e]
      have := addKey_dup xs (acc ++ [keyL x]) (by
        rcases h with h | ⟨y, hy, h⟩
        · rw [List.map_cons, List.pairwise_cons, Classical.not_and_iff_not_or_not] at h
          rcases h with h | h
          · right
            simp only [Classical.not_forall] at h
            obtain ⟨y, hy, h⟩ := h
            obtain ⟨p, hp, rfl⟩ := List.mem_map.1 hy
            refine ⟨p, hp, ?_⟩
            rw [List.any_append]
            simp only [List.any_cons, List.any_nil, Bool.or_false, Bool.or_eq_true]
            right; exact (keyL_same x p).2 (Classical.not_not.1 h)
          · exact .inl h
        · rcases List.mem_cons.1 hy with rfl | hy
          · rw [hs] at h; cases h
          · exact .inr ⟨y, hy, by rw [List.any_append, h]; rfl⟩)
      simp at this
      omega
/-- The set has as many elements as there are points just where the X are different. -/
theorem set_size {H : Type} (l : List (Int × Int)) : Maps.size (Maps.setOf (.lit (.bool true) : DataW H) (l.map keyL)) ≤ l.length ∧ (Maps.size (Maps.setOf (.lit (.bool true) : DataW H) (l.map keyL)) < l.length ↔ difB l = false) := by
  have hk : ∀ x ∈ l.map keyL, WideAt.IsKeyLit x := fun x hx => by
    obtain ⟨p, _, rfl⟩ := List.mem_map.1 hx
    trivial
  rw [Maps.size_setOf _ _ hk]
  have h1 := addKey_len (l.map keyL) []
  rw [List.length_map] at h1
  refine ⟨by simpa using h1, ?_⟩
  constructor
  · intro h
    refine decide_eq_false fun hp => ?_
    have := addKey_all l [] hp (fun x _ => rfl)
    simp at this; omega
  · intro h
    have := addKey_dup l [] (.inl (of_decide_eq_false h))
    simpa using this

theorem at_limit (a : Option Addr) (len cap : Nat) (t : Int) (w : World) (hm : len ≤ 9223372036854775807) (hlen : 64 < len) :
    Calls Try.prog 19 #[.slice a len cap, .int .i64 t] w fun e w' => e = .returned (.tuple #[.int .i64 0, .int .i64 2]) ∧ Below w.heap.size w w' := by
  refine (callsIn_wide (n := 9)).1 ?_
  refine callsIn_of_wp Try.func19 rfl trivial ?_ rfl
  simp only [Try.ntmps19, List.size_toArray, List.length_cons, List.length_nil, Nat.reduceAdd, Nat.reduceSub, Array.replicate_succ, Array.replicate_zero, List.push_toArray, List.append_toArray, List.nil_append, List.cons_append]
  gi_wp2
  go_ret2
  exact ⟨rfl, (Below.refl _ _).alloc (Nat.le_refl _) _⟩

theorem others_any (a : Option Addr) (len cap : Nat) (i : Int) (w : World) :
    Calls Try.prog 27 #[.slice a len cap, .int .i64 i] w fun e w' => e = .returned (.func (.func 28) #[] #[.pointer (some ⟨w.heap.size, 0, none⟩), .pointer (some ⟨w.heap.size + 1, 0, none⟩)]) ∧ (w.alloc (.cells #[.slice a len cap] 30)).alloc (.cells #[.int .i64 i] 3) = w' := by
  go_enter Try.func27, Try.ntmps27
  go_wp2
  go_ret
  exact ⟨rfl, rfl⟩
/-- The X of the points that have come. -/
def comeX (l : List (Int × Int)) (i k : Nat) : List Int := ((l.eraseIdx i).take k).map (·.1)
def aboveK (l : List (Int × Int)) (t : Int) (i k : Nat) : Int := md (pY l i * lprod ((comeX l i k).map fun x => t - x))
def belowK (l : List (Int × Int)) (i k : Nat) : Int := md (lprod ((comeX l i k).map fun x => pX l i - x))
theorem comeX_succ (l : List (Int × Int)) (i k : Nat) (h : k < (l.eraseIdx i).length) : comeX l i (k + 1) = comeX l i k ++ [pX (l.eraseIdx i) k] := by
  unfold comeX pX
  rw [List.take_succ_eq_append_getElem h, List.map_append, getD_at _ _ _ h]; rfl
theorem aboveK_succ (l : List (Int × Int)) (t : Int) (i k : Nat) (h : k < (l.eraseIdx i).length) : mu (aboveK l t i k) (ad t (-md (pX (l.eraseIdx i) k))) = aboveK l t i (k + 1) := by
  unfold aboveK; rw [comeX_succ l i k h]; exact above_step _ _ _ _ _ rfl
theorem belowK_succ (l : List (Int × Int)) (i k : Nat) (h : k < (l.eraseIdx i).length) : mu (belowK l i k) (ad (pX l i) (-md (pX (l.eraseIdx i) k))) = belowK l i (k + 1) := by
  unfold belowK; rw [comeX_succ l i k h]; exact below_step _ _ _ _ rfl
theorem othK_eq (l : List (Int × Int)) (i : Nat) : ∀ k, k ≤ l.length → othK l i k = ((l.take k).eraseIdx i).map (·.1)
  | 0, _ => by simp [othK]
  | k + 1, h => by
    have ih := othK_eq l i k (by omega)
    unfold othK
    rw [List.take_succ_eq_append_getElem (by omega)]
    have hl : (l.take k).length = k := by rw [List.length_take]; omega
    split
    · rename_i e; subst e
      rw [ih, List.eraseIdx_append_of_length_le (by omega), hl, Nat.sub_self, List.eraseIdx_of_length_le (by omega)]
      simp
    · by_cases hik : i < k
      · rw [List.eraseIdx_append_of_lt_length (by omega), List.map_append, ih]
        unfold pX; rw [getD_at _ _ _ (show k < l.length by omega)]; rfl
      · rw [ih, List.eraseIdx_of_length_le (by omega), List.eraseIdx_of_length_le (by simp; omega), List.map_append]
        unfold pX; rw [getD_at _ _ _ (show k < l.length by omega)]; rfl
theorem comeX_all (l : List (Int × Int)) (i : Nat) : comeX l i (l.eraseIdx i).length = oth l i := by
  unfold comeX oth; rw [othK_eq l i _ (Nat.le_refl _), List.take_length, List.take_length]
theorem above_range (l : List (Int × Int)) (t : Int) (i k : Nat) : 0 ≤ aboveK l t i k ∧ aboveK l t i k ≤ 1073741788 := md_range _
theorem below_range (l : List (Int × Int)) (i k : Nat) : 0 ≤ belowK l i k ∧ belowK l i k ≤ 1073741788 := md_range _
theorem at_term (l : List (Int × Int)) (t : Int) (i : Nat) (y : Int) (h : y = md (parts l t i)) : ad y (mu (aboveK l t i (l.eraseIdx i).length) (inv (belowK l i (l.eraseIdx i).length))) = md (parts l t (i + 1)) := by
  refine lag_term l t i y h _ ?_
  unfold aboveK belowK
  rw [comeX_all, mu_eq, md_md, md_mul, inv_md]; rfl
theorem at_below (l : List (Int × Int)) (hd : difB l = true) (i : Nat) (hi : i < l.length) : md (belowK l i (l.eraseIdx i).length) ≠ 0 := by
  unfold belowK; rw [md_md, comeX_all]; exact below_ne l (dif_of l hd) i hi
/-- A slice of two numbers. -/
def IsPair (w : World) (v : Value) (x y : Int) : Prop := ∃ b, v = .slice (some ⟨b, 0, none⟩) 2 2 ∧ w.heap[b]? = some (.cells #[.int .i64 x, .int .i64 y] 3 (0, 0))
theorem IsPair.kept {w w' : World} {v : Value} {x y : Int} (h : IsPair w v x y) (hb : Below w.heap.size w w') : IsPair w' v x y := by
  obtain ⟨b, e, h1⟩ := h
  exact ⟨b, e, (hb.block b (Array.getElem?_eq_some_iff.1 h1).1).trans h1⟩
theorem sum_pair {v : Value} {x y : Int} {w : World} (h : IsPair w v x y) : Calls Try.prog 26 #[v] w fun e w' => e = .returned (.int .i64 (ad x y)) ∧ w = w' := by
  obtain ⟨b, rfl, h1⟩ := h
  exact sum_two x y ⟨b, 0, none⟩ 2 w (by simp [World.cell?, h1]) (by simp [World.cell?, h1]) rfl

end Go.Proofs.Ytapbfhmmgkjdnaa
