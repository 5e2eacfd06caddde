/-
 Layer 53, in plain Lean: what a replica is, and how its check walks through it.
-/
import Derived.Test.YtdmgdjnadbakfaaL
import Derived.Test.YtdmgdjnadbakfaaPure
import Derived.KernelRfl
namespace Go.Proofs.Ytdmgdjnadbakfaa
set_option linter.unusedVariables false
set_option linter.unusedSimpArgs false
set_option maxRecDepth 100000
set_option maxHeartbeats 4000000
theorem qlim : limit = 140737488355328 := by kernel_rfl
theorem qapp {T : Type} (b : Nat) (l l2 : List T) (hb : b <= 1000) (h : l.length + l2.length <= 10000000) : appI b l l2 = some (l ++ l2) := by
 have h1 : (l.length + l2.length) * b <= 10000000 * 1000 := Nat.mul_le_mul h hb
 unfold appI; rw [decide_eq_true (by rw [qlim]; omega)]; rfl
theorem qsub {T : Type} (l : List T) : subI l 0 (l.length : Int) = some l := by
 unfold subI
 rw [show (decide ((0 : Int) <= 0) && decide ((0 : Int) <= (l.length : Int)) && decide ((l.length : Int) <= l.length)) = true from by simp]
 simp
theorem qtail {T : Type} (x : T) (l : List T) : subI (x :: l) 1 ((x :: l).length : Int) = some l := by
 unfold subI
 rw [show (decide ((0 : Int) <= 1) && decide ((1 : Int) <= ((x :: l).length : Int)) && decide (((x :: l).length : Int) <= (x :: l).length)) = true from by simp; omega]
 simp
theorem qwr (n : Nat) (h : n <= 10000000) : wr .i64 ((n : Int) + 1) = ((n + 1 : Nat) : Int) := by rw [wr64 (by omega) (by omega)]; omega
theorem qlast {T : Type} (l : List T) (h : l.length <= 10000000) (hp : 0 < l.length) : getI l (wr .i64 ((l.length : Int) - 1)) = l.getLast? := by
 rw [wr64 (by omega) (by omega), show ((l.length : Int) - 1) = ((l.length - 1 : Nat) : Int) from by omega, getI_nat, List.getLast?_eq_getElem?]
def inn (n lo hi : Int) : Bool := decide (lo <= n) && decide (n <= hi)
theorem g47 (a b c : Int) : G47 a b c = some (inn a b c) := by
 unfold G47 F47 inn
 cases decide (b <= a) <;> rfl
def lend (l : List S_Lease) : Int := match l.getLast? with | some x => x.Until | none => 0
theorem g74 (r : S_Replica) (h : r.Leases.length <= 10000000) : G74 r = some (lend r.Leases) := by
 unfold G74 F74 lend
 by_cases hp : 0 < r.Leases.length
 ·rw [decide_eq_true (by omega), qlast _ h hp]
  cases hx : r.Leases.getLast? with
  | some x => rfl
  | none => rw [List.getLast?_eq_none_iff] at hx; rw [hx] at hp; simp at hp
 ·have : r.Leases = [] := List.length_eq_zero_iff.1 (by omega)
  rw [this]; rfl
def folB (ls : List S_Lease) (l : S_Lease) : Bool := (l.No == (ls.length : Int)) && inn l.Holder 0 1 && decide (lend ls < l.Until) && decide (l.Until <= 4096)
theorem g50 (r : S_Replica) (l : S_Lease) (h : r.Leases.length <= 10000000) : G50 r l = some (folB r.Leases l) := by
 unfold G50 F50 folB
 rw [g47, g74 r h]
 generalize (l.No == (r.Leases.length : Int)) = a
 generalize inn l.Holder 0 1 = b
 show (Option.bind (bif a then some b else some false) _) = _
 cases a <;> cases b <;> try rfl
 simp only [cond_true, Option.bind_some, Bool.true_and]
 cases decide (lend r.Leases < l.Until) <;> rfl
def mineB (self : Int) (ls : List S_Lease) (bar : Int) : Bool := decide (0 <= bar) && match ls.find? (fun l => decide (bar < l.Until)) with | some l => l.Holder == self | none => false
theorem loop75 (n : Nat) (L : List S_Lease) (z : Int) (r : S_Replica) (bar : Int) (hL : L.length <= 10000000) : ∀ (l : List S_Lease) (i m : Nat), L.drop i = l -> i + l.length = L.length -> l.length < m ->
  (∃ (j : Nat) (x : S_Lease), F75_89_0 n L z (L.length : Int) r bar m (i : Int) = some (.inl ((j : Int), x.No, x.Holder, x.Until)) /\ L[j]? = some x /\ l.find? (fun l => decide (bar < l.Until)) = some x) ∨
  (F75_89_0 n L z (L.length : Int) r bar m (i : Int) = some (.inr ()) /\ l.find? (fun l => decide (bar < l.Until)) = none)
 | l, i, 0, _, _, h => absurd h (Nat.not_lt_zero _)
 | [], i, m + 1, hd, hi, h => by
  right
  refine ⟨?_, rfl⟩
  unfold F75_89_0
  rw [decide_eq_false (by simp at hi; omega)]; rfl
 | x :: l, i, m + 1, hd, hi, h => by
  have hx : L[i]? = some x := by rw [<- List.head?_drop, hd]; rfl
  have hd' : L.drop (i + 1) = l := by rw [<- List.drop_drop, hd]; rfl
  simp only [List.length_cons] at hi h
  unfold F75_89_0
  rw [decide_eq_true (by omega), getI_nat, hx]
  show (_ ∨ _)
  simp only [cond_true, Option.bind_some, List.find?_cons]
  cases hb : decide (bar < x.Until) with
  | true => left; exact ⟨i, x, rfl, hx, rfl⟩
  | false =>
   simp only [cond_false]
   rw [qwr i (by omega)]
   exact loop75 n L z r bar hL l (i + 1) m hd' (by omega) (by omega)
theorem g75 (r : S_Replica) (bar : Int) (h : r.Leases.length <= 10000000) : G75 r bar = some (mineB r.Self r.Leases bar) := by
 unfold G75 F75 mineB
 rcases loop75 fuel0 r.Leases 0 r bar h r.Leases 0 (fuel0 + 7) rfl (by omega) (by rw [show fuel0 = 1208925819614629174706176 from rfl]; omega) with ⟨j, x, h1, h2, h3⟩ | ⟨h1, h3⟩
 ·rw [show ((0 : Nat) : Int) = 0 from rfl] at h1
  rw [h1, h3]
  show (Option.bind (bif decide (0 <= bar) then some (decide (0 <= (j : Int))) else some false) _) = _
  rw [decide_eq_true (show (0 : Int) <= j by omega)]
  cases decide (0 <= bar) with
  | false => rfl
  | true =>
   show (Option.bind (getI r.Leases (j : Int)) _) = _
   rw [getI_nat, h2]; rfl
 ·rw [show ((0 : Nat) : Int) = 0 from rfl] at h1
  rw [h1, h3]
  cases decide (0 <= bar) <;> rfl
def mayB (self : Int) (ls : List S_Lease) (cs : List S_Call) (c : S_Call) : Bool := mineB self ls c.Bar && (match cs.getLast? with | some d => decide (d.Bar < c.Bar) | none => true) && inn c.Program 1 8
theorem g51 (r : S_Replica) (c : S_Call) (h : r.Leases.length <= 10000000) (h2 : r.Calls.length <= 10000000) : G51 r c = some (mayB r.Self r.Leases r.Calls c) := by
 unfold G51 F51 mayB
 rw [g75 r _ h, g47]
 generalize mineB r.Self r.Leases c.Bar = a
 generalize inn c.Program 1 8 = b
 cases a with
 | false => rfl
 | true =>
  by_cases hp : 0 < r.Calls.length
  ·rw [show (((r.Calls.length : Int)) == 0) = false from by simp; intro hn; rw [hn] at hp; simp at hp, qlast _ h2 hp]
   cases hx : r.Calls.getLast? with
   | some x =>
    simp only [cond_true, cond_false, Option.bind_some, Bool.true_and]
    cases decide (x.Bar < c.Bar) <;> rfl
   | none => rw [List.getLast?_eq_none_iff] at hx; rw [hx] at hp; simp at hp
  ·have : r.Calls = [] := List.length_eq_zero_iff.1 (by omega)
   rw [this]; rfl
def addL (r : S_Replica) (l : S_Lease) : S_Replica := .mk r.Self (r.Leases ++ [l]) r.Calls (r.Order ++ [true])
def addC (r : S_Replica) (c : S_Call) : S_Replica := .mk r.Self r.Leases (r.Calls ++ [c]) (r.Order ++ [false])
theorem g33L (r : S_Replica) (l : S_Lease) (c : S_Call) (h : r.Leases.length < 10000000) (h2 : r.Order.length < 10000000) : G33 r (.mk true l c) = some (addL r l) := by
 unfold G33 F33
 simp only [cond_true, qsub, Option.bind_some]
 rw [qapp _ _ _ (by omega) (by simp; omega)]
 simp only [Option.bind_some, qsub]
 rw [qapp _ _ _ (by omega) (by simp; omega)]
 rfl
theorem g33C (r : S_Replica) (l : S_Lease) (c : S_Call) (h : r.Calls.length < 10000000) (h2 : r.Order.length < 10000000) : G33 r (.mk false l c) = some (addC r c) := by
 unfold G33 F33
 simp only [cond_false, qsub, Option.bind_some]
 rw [qapp _ _ _ (by omega) (by simp; omega)]
 simp only [Option.bind_some, qsub]
 rw [qapp _ _ _ (by omega) (by simp; omega)]
 rfl
def goW (s : S_Replica) : List S_Lease -> List S_Call -> List Bool -> Bool
 | _, _, [] => true
 | l :: ls, cs, true :: o => folB s.Leases l && goW (addL s l) ls cs o
 | [], _, true :: _ => false
 | ls, c :: cs, false :: o => mayB s.Self s.Leases s.Calls c && goW (addC s c) ls cs o
 | _, [], false :: _ => false
end Go.Proofs.Ytdmgdjnadbakfaa
