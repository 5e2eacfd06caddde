/-
 Layer 53, in plain Lean: calls are in leases that the desk holds.
-/
import Derived.Test.YtdmgdjnadbakfaaM2
namespace Go.Proofs.Ytdmgdjnadbakfaa
set_option linter.unusedVariables false
set_option linter.unusedSimpArgs false
set_option maxRecDepth 100000
set_option maxHeartbeats 4000000
def zeroR : S_Replica := .mk 0 [] [] []
theorem g24 (r : S_Replica) (bar p : Int) (hL : r.Leases.length <= 1000000) (hC : r.Calls.length <= 1000000) (hO : r.Order.length <= 1000000) :
  G24 r bar p = some (if chkB r = true /\ mayB r.Self r.Leases r.Calls (.mk bar p) = true then (addC r (.mk bar p), 0) else (zeroR, 530)) := by
 unfold G24 F24
 rw [g20 r hL hC hO]
 cases h1 : chkB r with
 | false => rfl
 | true =>
  simp only [if_true, Option.bind_some]
  rw [show ((0 : Int) == 0) = true from rfl]
  simp only [cond_true]
  rw [g51 r _ (by omega) (by omega)]
  cases h2 : mayB r.Self r.Leases r.Calls (.mk bar p) with
  | false => rfl
  | true =>
   simp only [Option.bind_some, Bool.not_true, cond_false]
   rw [g33C r _ _ (by omega) (by omega)]
   rfl
theorem g14z : G14 zeroR zeroR = some true := by kernel_rfl
theorem sane7 : G7 = some true := by kernel_rfl
def fewR (r : S_Replica) : Bool := decide (r.Leases.length <= 300) && decide (r.Calls.length <= 60) && decide (r.Order.length <= 360)
theorem g8 (r : S_Replica) : G8 r = some (fewR r) := by
 unfold G8 F8 fewR
 rw [show decide ((r.Leases.length : Int) <= 300) = decide (r.Leases.length <= 300) from by rw [decide_eq_decide]; omega,
  show decide ((r.Calls.length : Int) <= 60) = decide (r.Calls.length <= 60) from by rw [decide_eq_decide]; omega,
  show decide ((r.Order.length : Int) <= 360) = decide (r.Order.length <= 360) from by rw [decide_eq_decide]; omega]
 cases decide (r.Leases.length <= 300) <;> cases decide (r.Calls.length <= 60) <;> rfl
theorem fewR_le {r : S_Replica} (h : fewR r = true) : r.Leases.length <= 300 /\ r.Calls.length <= 60 /\ r.Order.length <= 360 := by
 unfold fewR at h
 simp only [Bool.and_eq_true, decide_eq_true_eq] at h
 omega
def holdB (L : List S_Lease) (bar : Int) : Int := if 0 <= bar then (match L.find? (fun l => decide (bar < l.Until)) with | some l => l.Holder | none => -1) else -1
theorem hold_mine {self bar : Int} {L : List S_Lease} (hs : self = 0 ∨ self = 1) : mineB self L bar = true ↔ holdB L bar = self := by
 unfold mineB holdB
 by_cases h : 0 <= bar
 ·rw [decide_eq_true h, if_pos h]
  cases L.find? (fun l => decide (bar < l.Until)) with
  | none => simp; omega
  | some x => simp
 ·rw [decide_eq_false h, if_neg h]
  simp; omega
theorem loopH (L : List S_Lease) (hL : L.length <= 1000000) (hU : ∀ x ∈ L, 0 < x.Until) (bar : Int) (G : Nat -> Int -> Int -> Option ((Int × Int × Int × Int) ⊕ Unit))
  (hG : ∀ m v w, G (m + 1) v w = bif (decide (w < (L.length : Int))) then (Option.bind (getI L w) fun y30 => Option.bind (bif (decide (v <= bar)) then (some (decide (bar < y30.Until))) else (some false)) fun y32 => bif y32 then (some ((Sum.inl ((y30.Holder, y30.No, y30.Holder, y30.Until))))) else (G m y30.Until (wr .i64 (w + 1)))) else (some ((Sum.inr (()))))) :
  ∀ (l : List S_Lease) (i m : Nat) (f : Int), L.drop i = l -> i + l.length = L.length -> l.length < m -> (0 <= bar -> f <= bar) -> 0 <= f ->
   (∃ x, G m f (i : Int) = some (.inl (x.Holder, x.No, x.Holder, x.Until)) /\ 0 <= bar /\ l.find? (fun l => decide (bar < l.Until)) = some x) ∨ (G m f (i : Int) = some (.inr ()) /\ (bar < 0 ∨ l.find? (fun l => decide (bar < l.Until)) = none))
 | l, i, 0, _, _, _, h, _, _ => absurd h (Nat.not_lt_zero _)
 | [], i, m + 1, f, hd, hi, h, _, _ => by
  right
  rw [hG, decide_eq_false (by simp at hi; omega)]
  exact ⟨rfl, .inr rfl⟩
 | x :: l, i, m + 1, f, hd, hi, h, hf, hf0 => by
  have hx : L[i]? = some x := by rw [<- List.head?_drop, hd]; rfl
  have hd' : L.drop (i + 1) = l := by rw [<- List.drop_drop, hd]; rfl
  have hu := hU x (List.mem_of_getElem? hx)
  simp only [List.length_cons] at hi h
  rw [hG, decide_eq_true (by omega), getI_nat, hx]
  simp only [cond_true, Option.bind_some, List.find?_cons]
  rw [qwr i (by omega)]
  by_cases h0 : 0 <= bar
  ·rw [decide_eq_true (hf h0)]
   cases hb : decide (bar < x.Until) with
   | true => left; exact ⟨x, rfl, h0, rfl⟩
   | false =>
    have := of_decide_eq_false hb
    simp only [cond_true, cond_false, Option.bind_some]
    exact loopH L hL hU bar G hG l (i + 1) m x.Until hd' (by omega) (by omega) (fun _ => by omega) (by omega)
  ·rw [decide_eq_false (show ¬ f <= bar by omega)]
   simp only [cond_false, Option.bind_some]
   rcases loopH L hL hU bar G hG l (i + 1) m x.Until hd' (by omega) (by omega) (fun h => absurd h h0) (by omega) with ⟨y, _, h1, _⟩ | ⟨h1, _⟩
   ·exact absurd h1 h0
   ·right; exact ⟨h1, .inl (by omega)⟩
theorem loop6 (n : Nat) (hn : 2000000 <= n) (bar : Int) (r : S_Replica) (hc : chkB r = true) (hC : r.Calls.length <= 1000000) : ∀ (l : List S_Call) (i m : Nat) (f : Int), r.Calls.drop i = l -> i + l.length = r.Calls.length -> l.length < m -> (∀ c ∈ l, f < c.Bar) -> l.Pairwise (fun a b => a.Bar < b.Bar) ->
  F6_6_0 n bar false r.Calls (r.Calls.length : Int) r m f (i : Int) = some (.inr (match l.getLast? with | some c => c.Bar | none => f))
 | l, i, 0, _, _, _, h, _, _ => absurd h (Nat.not_lt_zero _)
 | [], i, m + 1, f, hd, hi, h, _, _ => by
  unfold F6_6_0
  rw [decide_eq_false (by simp at hi; omega)]; rfl
 | c :: l, i, m + 1, f, hd, hi, h, hf, hp => by
  obtain ⟨hs, hl, hcs, hlen, h256, hh⟩ := chkB_inv hc
  have hx : r.Calls[i]? = some c := by rw [<- List.head?_drop, hd]; rfl
  have hd' : r.Calls.drop (i + 1) = l := by rw [<- List.drop_drop, hd]; rfl
  simp only [List.length_cons] at hi h
  have hm := (hcs.1 c (List.mem_of_getElem? hx)).1
  have hh2 := (hold_mine (self01 hs)).1 hm
  unfold F6_6_0
  rw [decide_eq_true (by omega), getI_nat, hx]
  simp only [cond_true, Option.bind_some]
  have hlast : (match (c :: l).getLast? with | some d => d.Bar | none => f) = (match l.getLast? with | some d => d.Bar | none => c.Bar) := by
   cases l with
   | nil => rfl
   | cons y l => rw [List.getLast?_cons_cons]; cases hq : (y :: l).getLast? with | none => rw [List.getLast?_eq_none_iff] at hq; cases hq | some z => rfl
  have hfc := hf c (List.mem_cons_self ..)
  have hrec := loop6 n hn bar r hc hC l (i + 1) m c.Bar hd' (by omega) (by omega) (fun d hd => List.rel_of_pairwise_cons hp hd) (List.Pairwise.of_cons hp)
  rcases loopH r.Leases (by omega) (fun x hx => ((lend_pos hl).2 x hx).1) c.Bar (F6_23_0 n c.Bar 0 r.Leases ((r.Leases.length : Int)) r c.Bar c.Program) (fun m v w => by rw [F6_23_0]) r.Leases 0 (n + 7) 0 rfl (by omega) (by omega) (fun h => h) (by omega) with ⟨x, h1, h2, h3⟩ | ⟨h1, h2⟩
  ·rw [show ((0 : Nat) : Int) = 0 from rfl] at h1
   rw [h1]
   have e : x.Holder = r.Self := by unfold holdB at hh2; rw [if_pos h2, h3] at hh2; exact hh2
   show (bif (x.Holder != r.Self) then _ else _) = _
   rw [e, bne_self_eq_false]
   show (bif decide (c.Bar <= f) then _ else _) = _
   rw [decide_eq_false (show ¬ c.Bar <= f by omega), qwr i (by omega), hlast]
   exact hrec
  ·exfalso
   unfold mineB at hm
   rw [Bool.and_eq_true] at hm
   have hb := of_decide_eq_true hm.1
   rcases h2 with h2 | h2
   ·omega
   ·rw [h2] at hm; exact absurd hm.2 Bool.false_ne_true
theorem pure6 : Pure6 := by
 intro r bar hr hbar
 unfold G6 F6
 rw [sane7]
 simp only [Bool.not_true, cond_false, Option.bind_some]
 rw [g8]
 cases hfw : fewR r with
 | false => rfl
 | true =>
 obtain ⟨b1, b2, b3⟩ := fewR_le hfw
 simp only [Bool.not_true, cond_false, Option.bind_some]
 rw [g20 r (by omega) (by omega) (by omega)]
 cases hc : chkB r with
 | false => rfl
 | true =>
 obtain ⟨hs, hl, hcs, hlen, h256, hh⟩ := chkB_inv hc
 have hU : ∀ x ∈ r.Leases, 0 < x.Until := fun x hx => ((lend_pos hl).2 x hx).1
 have hs1 := self01 hs
 have hbig : (2000000 : Nat) <= fuel0 := by rw [show fuel0 = 1208925819614629174706176 from rfl]; omega
 simp only [if_true, Option.bind_some]
 rw [show ((0 : Int) != 0) = false from rfl]
 simp only [cond_false]
 have hf1 : ∀ c ∈ r.Calls, (-1 : Int) < c.Bar := fun c h => by
  have hm := (hcs.1 c h).1
  unfold mineB at hm
  rw [Bool.and_eq_true] at hm
  have := of_decide_eq_true hm.1
  omega
 have e6 := loop6 fuel0 hbig bar r hc (by omega) r.Calls 0 (fuel0 + 8) (-1) rfl (by omega) (by omega) hf1 hcs.2
 rw [show ((0 : Nat) : Int) = 0 from rfl] at e6
 rw [e6]
 generalize hlast : (match r.Calls.getLast? with | some c => c.Bar | none => (-1 : Int)) = last
 simp only [Option.bind_some]
 rw [g24 r bar 1 (by omega) (by omega) (by omega)]
 simp only [Option.bind_some]
 have hmay : mayB r.Self r.Leases r.Calls (.mk bar 1) = (mineB r.Self r.Leases bar && !decide (bar <= last)) := by
  unfold mayB
  rw [show inn 1 1 8 = true from rfl, Bool.and_true]
  cases hm : mineB r.Self r.Leases bar with
  | false => rfl
  | true =>
   cases hg : r.Calls.getLast? with
   | none =>
    rw [hg] at hlast
    unfold mineB at hm
    rw [Bool.and_eq_true] at hm
    have := of_decide_eq_true hm.1
    rw [<- hlast, decide_eq_false (show ¬ bar <= -1 by omega)]
    rfl
   | some d =>
    rw [hg] at hlast
    rw [<- hlast]
    show (decide (d.Bar < bar)) = !decide (bar <= d.Bar)
    by_cases h : d.Bar < bar
    ·rw [decide_eq_true h, decide_eq_false (by omega)]; rfl
    ·rw [decide_eq_false h, decide_eq_true (by omega)]; rfl
 have bad : ∀ y : S_Replica × Int, mayB r.Self r.Leases r.Calls (.mk bar 1) = false -> (if chkB r = true /\ mayB r.Self r.Leases r.Calls (.mk bar 1) = true then (addC r (.mk bar 1), (0 : Int)) else (zeroR, 530)) = (zeroR, 530) := fun y h => by rw [h]; simp
 have good : mayB r.Self r.Leases r.Calls (.mk bar 1) = true -> (if chkB r = true /\ mayB r.Self r.Leases r.Calls (.mk bar 1) = true then (addC r (.mk bar 1), (0 : Int)) else (zeroR, 530)) = (addC r (.mk bar 1), 0) := fun h => by rw [h, hc]; simp
 have fin : ((addC r (.mk bar 1)).Calls.length : Int) = wr .i64 ((r.Calls.length : Int) + 1) := by rw [wr64 (by omega) (by omega)]; simp [addC]
 have fin2 : getI (addC r (.mk bar 1)).Calls ((r.Calls.length : Int)) = some (.mk bar 1) := by rw [getI_nat]; simp [addC]
 rcases loopH r.Leases (by omega) hU bar (F6_23_0a fuel0 bar 0 r.Leases ((r.Leases.length : Int)) r (if chkB r = true /\ mayB r.Self r.Leases r.Calls (.mk bar 1) = true then (addC r (.mk bar 1), (0 : Int)) else (zeroR, 530)).1) (fun m v w => by rw [F6_23_0a]) r.Leases 0 (fuel0 + 7) 0 rfl (by omega) (by omega) (fun h => h) (by omega) with ⟨x, h1, h2, h3⟩ | ⟨h1, h2⟩
 ·rw [show ((0 : Nat) : Int) = 0 from rfl] at h1
  rw [h1]
  have e : mineB r.Self r.Leases bar = (x.Holder == r.Self) := by unfold mineB; rw [decide_eq_true h2, h3]; rfl
  rw [e] at hmay
  simp only [Option.bind_some]
  cases hq : (x.Holder == r.Self) with
  | false =>
   rw [hq] at hmay
   rw [show (x.Holder != r.Self) = true from by rw [bne, hq]; rfl, bad (zeroR, 0) hmay]
   simp only [cond_true]
   rw [show ((530 : Int) == 530) = true from rfl]
   simp only [cond_true]
   rw [show (S_Replica.mk 0 [] [] []) = zeroR from rfl, g14z]; rfl
  | true =>
   rw [hq] at hmay
   rw [show (x.Holder != r.Self) = false from by rw [bne, hq]; rfl]
   simp only [cond_false, Option.bind_some]
   cases hb : decide (bar <= last) with
   | true =>
    rw [hb] at hmay
    rw [bad (zeroR, 0) hmay]
    simp only [cond_true]
    rw [show ((530 : Int) == 530) = true from rfl]
    simp only [cond_true]
    rw [show (S_Replica.mk 0 [] [] []) = zeroR from rfl, g14z]; rfl
   | false =>
    rw [hb] at hmay
    rw [good hmay]
    simp only [cond_false]
    rw [fin2, show (((addC r (.mk bar 1)).Calls.length : Int) == wr .i64 ((r.Calls.length : Int) + 1)) = true from by rw [fin]; exact beq_self_eq_true _]
    simp
 ·rw [show ((0 : Nat) : Int) = 0 from rfl] at h1
  rw [h1]
  have e : mineB r.Self r.Leases bar = false := by
   unfold mineB
   rcases h2 with h2 | h2
   ·rw [decide_eq_false (show ¬ 0 <= bar by omega)]; rfl
   ·rw [h2, Bool.and_false]
  rw [e] at hmay
  simp only [Option.bind_some]
  rw [show ((-1 : Int) != r.Self) = true from by rcases hs1 with h | h <;> rw [h] <;> rfl, bad (zeroR, 0) hmay]
  simp only [cond_true]
  rw [show ((530 : Int) == 530) = true from rfl]
  simp only [cond_true]
  rw [show (S_Replica.mk 0 [] [] []) = zeroR from rfl, g14z]; rfl
end Go.Proofs.Ytdmgdjnadbakfaa
