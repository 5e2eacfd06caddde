/-
 Layer 53, in plain Lean: the check of a replica.
-/
import Derived.Test.YtdmgdjnadbakfaaM0
namespace Go.Proofs.Ytdmgdjnadbakfaa
set_option linter.unusedVariables false
set_option linter.unusedSimpArgs false
set_option maxRecDepth 100000
set_option maxHeartbeats 4000000
theorem goW_t (s : S_Replica) (l : S_Lease) (ls : List S_Lease) (cs : List S_Call) (o : List Bool) : goW s (l :: ls) cs (true :: o) = (folB s.Leases l && goW (addL s l) ls cs o) := by rw [goW]
theorem goW_f (s : S_Replica) (c : S_Call) (ls : List S_Lease) (cs : List S_Call) (o : List Bool) : goW s ls (c :: cs) (false :: o) = (mayB s.Self s.Leases s.Calls c && goW (addC s c) ls cs o) := by cases ls <;> rw [goW]
theorem goW_t0 (s : S_Replica) (cs : List S_Call) (o : List Bool) : goW s [] cs (true :: o) = false := by rw [goW]
theorem goW_f0 (s : S_Replica) (ls : List S_Lease) (o : List Bool) : goW s ls [] (false :: o) = false := by cases ls <;> rw [goW]
theorem goW_nil (s : S_Replica) (ls : List S_Lease) (cs : List S_Call) : goW s ls cs [] = true := by cases ls <;> cases cs <;> rw [goW]
theorem loop20 (n : Nat) (O : List Bool) (r0 a0 : S_Replica) (z : Int) (hO : O.length <= 1000000) : ∀ (o : List Bool) (i m : Nat) (ls : List S_Lease) (cs : List S_Call) (s : S_Replica), O.drop i = o -> i + o.length = O.length -> o.length < m ->
  s.Leases.length <= i -> s.Calls.length <= i -> s.Order.length <= i -> ∃ x, F20_55_0 n O (O.length : Int) r0 z a0 m ls cs (i : Int) s.Self s.Leases s.Calls s.Order (i : Int) = some x ∧
   match goW s ls cs o with
   | true => ∃ t, x = .inr (.inr t) /\ t.2.2.2.2 = (O.length : Int)
   | false => (∃ t, x = .inl t /\ t.1 = 530) ∨ ∃ t, x = .inr (.inl t) /\ t.2.2.2.2.1 ≠ (O.length : Int)
 | o, i, 0, _, _, _, _, _, h, _, _, _ => absurd h (Nat.not_lt_zero _)
 | [], i, m + 1, ls, cs, s, hd, hi, h, _, _, _ => by
  rw [goW_nil]
  unfold F20_55_0
  rw [decide_eq_false (by simp at hi; omega)]
  refine ⟨_, rfl, _, rfl, ?_⟩
  simp at hi
  show (i : Int) = _
  rw [hi]
 | true :: o, i, m + 1, ls, cs, s, hd, hi, h, h1, h2, h3 => by
  have hx : O[i]? = some true := by rw [<- List.head?_drop, hd]; rfl
  have hd' : O.drop (i + 1) = o := by rw [<- List.drop_drop, hd]; rfl
  simp only [List.length_cons] at hi h
  unfold F20_55_0
  rw [decide_eq_true (by omega), getI_nat, hx]
  simp only [cond_true, Option.bind_some]
  cases ls with
  | nil =>
   rw [goW_t0]
   simp only [List.length_nil, Int.natCast_zero, Int.lt_irrefl, decide_false, cond_false, Bool.not_true, Option.bind_some]
   exact ⟨_, rfl, .inr ⟨_, rfl, by show (i : Int) ≠ _; omega⟩⟩
  | cons l ls =>
   rw [goW_t, show decide ((0 : Int) < ((l :: ls).length : Int)) = true from decide_eq_true (by simp)]
   simp only [cond_true]
   rw [show getI (l :: ls) 0 = some l from rfl, qtail]
   simp only [Option.bind_some, g50 (S_Replica.mk s.Self s.Leases s.Calls s.Order) l (show s.Leases.length <= 10000000 by omega)]
   cases hf : folB s.Leases l with
   | false =>
    exact ⟨_, rfl, .inl ⟨_, rfl, rfl⟩⟩
   | true =>
    simp only [Bool.not_true, cond_false, Option.bind_some, cond_true, Bool.true_and]
    rw [show S_Replica.mk s.Self s.Leases s.Calls s.Order = s from rfl, g33L s l _ (by omega) (by omega)]
    simp only [Option.bind_some]
    rw [qwr i (by omega)]
    exact loop20 n O r0 a0 z hO o (i + 1) m ls cs (addL s l) hd' (by omega) (by omega) (by simp [addL]; omega) (by simp [addL]; omega) (by simp [addL]; omega)
 | false :: o, i, m + 1, ls, cs, s, hd, hi, h, h1, h2, h3 => by
  have hx : O[i]? = some false := by rw [<- List.head?_drop, hd]; rfl
  have hd' : O.drop (i + 1) = o := by rw [<- List.drop_drop, hd]; rfl
  simp only [List.length_cons] at hi h
  unfold F20_55_0
  rw [decide_eq_true (by omega), getI_nat, hx]
  simp only [cond_true, cond_false, Option.bind_some, Bool.not_false]
  cases cs with
  | nil =>
   rw [goW_f0]
   simp only [List.length_nil, Int.natCast_zero, Int.lt_irrefl, decide_false, cond_false, Option.bind_some]
   exact ⟨_, rfl, .inr ⟨_, rfl, by show (i : Int) ≠ _; omega⟩⟩
  | cons c cs =>
   rw [goW_f, show decide ((0 : Int) < ((c :: cs).length : Int)) = true from decide_eq_true (by simp)]
   simp only [cond_true]
   rw [show getI (c :: cs) 0 = some c from rfl, qtail]
   simp only [Option.bind_some, g51 (S_Replica.mk s.Self s.Leases s.Calls s.Order) c (show s.Leases.length <= 10000000 by omega) (show s.Calls.length <= 10000000 by omega)]
   cases hf : mayB s.Self s.Leases s.Calls c with
   | false =>
    exact ⟨_, rfl, .inl ⟨_, rfl, rfl⟩⟩
   | true =>
    simp only [Bool.not_true, cond_false, Option.bind_some, cond_true, Bool.true_and]
    rw [show S_Replica.mk s.Self s.Leases s.Calls s.Order = s from rfl, g33C s _ c (by omega) (by omega)]
    simp only [Option.bind_some]
    rw [qwr i (by omega)]
    exact loop20 n O r0 a0 z hO o (i + 1) m ls cs (addC s c) hd' (by omega) (by omega) (by simp [addC]; omega) (by simp [addC]; omega) (by simp [addC]; omega)
def chkB (r : S_Replica) : Bool := inn r.Self 0 1 && (r.Order.length != 0) && (r.Order.length == r.Leases.length + r.Calls.length) && decide (r.Leases.length <= 256) && goW (.mk r.Self [] [] []) r.Leases r.Calls r.Order && (r.Order.head? == some true)
theorem g20 (r : S_Replica) (hL : r.Leases.length <= 1000000) (hC : r.Calls.length <= 1000000) (hO : r.Order.length <= 1000000) : G20 r = some (if chkB r = true then 0 else 530) := by
 unfold G20 F20 chkB
 rw [g47]
 cases h1 : inn r.Self 0 1 with
 | false => rfl
 | true =>
 simp only [Bool.not_true, cond_false, Option.bind_some, Bool.true_and]
 cases h2 : (r.Order.length != 0) with
 | false =>
  have : r.Order.length = 0 := by simpa using h2
  rw [this]; rfl
 | true =>
 have h2' : r.Order.length ≠ 0 := by simpa using h2
 rw [show ((r.Order.length : Int) == 0) = false from by simp; intro h; rw [h] at h2'; simp at h2']
 simp only [cond_false, Option.bind_some, Bool.true_and]
 rw [wr64 (by omega) (by omega)]
 cases h3 : (r.Order.length == r.Leases.length + r.Calls.length) with
 | false =>
  rw [show ((r.Order.length : Int) != (r.Leases.length : Int) + (r.Calls.length : Int)) = true from by simp at h3 ⊢; omega]
  rfl
 | true =>
 rw [show ((r.Order.length : Int) != (r.Leases.length : Int) + (r.Calls.length : Int)) = false from by simp at h3 ⊢; omega]
 simp only [cond_false, Option.bind_some, Bool.true_and]
 by_cases h4 : r.Leases.length <= 256
 ·rw [decide_eq_false (show ¬ (256 : Int) < (r.Leases.length : Int) by omega), decide_eq_true h4]
  simp only [cond_false, Option.bind_some, Bool.true_and]
  obtain ⟨x, hx, hm⟩ := loop20 fuel0 r.Order r r 0 hO r.Order 0 (fuel0 + 7) r.Leases r.Calls (.mk r.Self [] [] []) rfl (by omega) (by rw [show fuel0 = 1208925819614629174706176 from rfl]; omega) (by simp) (by simp) (by simp)
  rw [show ((0 : Nat) : Int) = 0 from rfl] at hx
  rw [hx]
  simp only [Option.bind_some]
  have hg : getI r.Order 0 = r.Order.head? := by rw [List.head?_eq_getElem?]; rfl
  cases hw : goW (.mk r.Self [] [] []) r.Leases r.Calls r.Order with
  | true =>
   rw [hw] at hm
   obtain ⟨⟨a, b, c, d, e⟩, rfl, he⟩ := hm
   simp only [] at he
   subst he
   simp only [bne_self_eq_false, cond_false, Bool.true_and]
   rw [hg]
   cases hh : r.Order.head? with
   | none => rw [List.head?_eq_none_iff] at hh; rw [hh] at h2'; simp at h2'
   | some b => cases b <;> rfl
  | false =>
   rw [hw] at hm
   rcases hm with ⟨⟨y120, y121, y122, y123, y124, y125, y126, y127, y128, y129, y130, y131, y132, y133, y134, y135, y136, y137⟩, rfl, he⟩ | ⟨⟨y144, y145, y146, y147, y148, y149, y150, y151, y152, y153, y154⟩, rfl, he⟩
   ·simp only [] at he
    subst he; rfl
   ·simp only [] at he
    show (Option.bind (bif (y148 != (r.Order.length : Int)) then _ else _) _) = _
    rw [show (y148 != (r.Order.length : Int)) = true from by simpa using he]
    rfl
 ·rw [decide_eq_true (show (256 : Int) < (r.Leases.length : Int) by omega), decide_eq_false h4]
  rfl
end Go.Proofs.Ytdmgdjnadbakfaa
