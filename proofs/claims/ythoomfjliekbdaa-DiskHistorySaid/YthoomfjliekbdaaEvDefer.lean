/-
 Functions that defer a closure: what the machine does when they leave.
-/
import Derived.Test.YthoomfjliekbdaaEvRange
import Derived.LoopNIn
import Derived.RecoverIn
namespace Go.Proofs.Ythoomfjliekbdaa
open Go.RowKit
variable {F : Fence} {n : Nat} {P : Program}
theorem leaves_over {fn : Func} {tmps : Array Value} {R : Ending -> World -> Prop} {B : Nat} {ds : List Deferred} : ∀ (ms : List Deferred) (u : FrameMode) (W : World), u ≠ .run -> Marks B W ms ->
  (∀ W', CalmFrom B W W' -> (∀ (k : Nat) (o : Loop), W.heap[k]? = some (.loop o) -> W'.heap[k]? = some (.loop o)) -> LeavesInM F n P fn tmps R ds u W') -> LeavesInM F n P fn tmps R (ms ++ ds) u W := by
 intro ms u
 induction ms with
 | nil => intro W _ _ h; exact h W (CalmFrom.refl _ _) (fun _ _ h => h)
 | cons d ms ih =>
  rintro W hu ⟨rs, e, h2, h3⟩ h
  match rs, e, h2, h3 with
  | r :: rs, e, h2, h3 =>
   cases e
   obtain ⟨hB, hr⟩ := h3 r (by simp)
   refine ⟨hu, .inl ⟨r, _, rfl, run_takeDeferred hr, ih _ hu ⟨rs, rfl, (List.nodup_cons.1 h2).2, fun q hq => ⟨(h3 q (by simp [hq])).1, ?_⟩⟩ fun W' hc hl => ?_⟩⟩
   ·have hne : q ≠ r := fun e => (List.nodup_cons.1 h2).1 (e ▸ hq)
    exact (World.putObj_heap_other hne).trans (h3 q (by simp [hq])).2
   ·exact h W' ((CalmFrom.putObj _ hB hr rfl).trans hc) (fun k o hk => hl k o ((World.putObj_heap_other (fun e => by subst e; rw [hr] at hk; cases hk)).trans hk))
theorem Oper.wpIn_mono2 {o : Oper} {a : Act} {w : World} {K K' : Act -> World -> Prop} {Q Q' : Exit -> Act -> World -> Prop} (hK : ∀ a w, K a w -> K' a w) (hQ : ∀ e a w, e ≠ .normal -> Q e a w -> Q' e a w) (h : o.wpIn F n P a w K Q) : o.wpIn F n P a w K' Q' := by
 unfold Oper.wpIn at *
 refine ⟨h.1, ?_⟩
 have hh := h.2
 have lo : LetsOut Q -> LetsOut Q' := fun ⟨a, w, h⟩ => ⟨a, w, hQ _ _ _ (by simp) h⟩
 generalize (o.semAt F.round a.eval).run P w = r at *
 cases r with
 | ok x w' =>
  cases x <;> simp only [Oper.uponIn] at hh ⊢ <;> first
   | exact hK _ _ hh
   | exact ⟨hh.1, CallsIn.mono hh.2 (fun e w'' he => by cases e <;> first | exact hK _ _ he | exact hQ _ _ _ (by simp) he | exact lo he)⟩
   | exact ⟨hh.1, RowsIn.mono hh.2 (fun _ _ he => hK _ _ he)⟩
   | exact ⟨hh.1, RoundIn.mono hh.2 (fun e w'' he => by cases e <;> first | exact hK _ _ he | exact hQ _ _ _ (by simp) he | exact lo he)⟩
   | exact hh.elim
 | halt x w' => cases x <;> simp only [Oper.uponIn] at hh ⊢ <;> first | exact hQ _ _ _ (by simp) hh | exact hh.elim
theorem wpListIn_app {ops : Array Oper} {Q Q' : Exit -> Act -> World -> Prop} {os' : List Oper} (hQ : ∀ e a w, e ≠ .normal -> Q e a w -> Q' e a w) (hn : ∀ a w, Q .normal a w -> wpListIn F n P ops Q' os' a w) : ∀ (os : List Oper) (a : Act) (w : World), wpListIn F n P ops Q os a w -> wpListIn F n P ops Q' (os ++ os') a w
 | [], a, w, h => hn a w h
 | o :: os, a, w, h => by
  rw [List.cons_append]
  unfold wpListIn at h ⊢
  split
  ·rename_i hw; rw [if_pos hw] at h; exact Oper.wpIn_mono2 (wpListIn_app hQ hn os) hQ h
  ·rename_i hw; rw [if_neg hw] at h; exact ⟨h.1, wpListIn_app hQ hn os _ _ h.2⟩
theorem recDst_spec {o : Oper} {d : Nat} (h : recDst o = some d) : o.dst = some d /\ o.guard = none /\ ∀ (ev : Operand -> Value) (w : World), (execOp ev o).run P w = .ok .recover w := by
 unfold recDst at h
 split at h
 ·rename_i c ho
  split at h
  ·rename_i hcal hargs
   cases hg : noGd o with
   | false => rw [hg] at h; cases h
   | true =>
    rw [hg] at h
    refine ⟨h, by unfold noGd at hg; split at hg <;> simp_all, fun ev w => ?_⟩
    unfold execOp
    rw [ho]
    simp [resolve, hcal, invoke, builtin]
  ·cases h
 ·cases h
theorem wpSIn_region_rec {Q : Exit -> Act -> List Frame -> World -> Prop} {a : Act} {cs cs' : List Frame} {w : World} {id d : Nat} {ops : Array Oper} {o : Oper} {os : List Oper} {v : Value} (hl : ops.toList = o :: os) (hd : recDst o = some d) (hFa : ∀ f, F.fn f) (hro : F.round = none)
  (hrec : recoverD cs = some (v, cs') ∨ (recoverD cs = none /\ cs' = cs /\ v = .nilIface)) (h : wpListIn F n P ops (fun e a' w' => Q e a' cs' w') os (a.put (some d) v) w) : (Code.region id ops false).wpSIn F n P Q a cs w := by
 obtain ⟨hdst, hgd, hrun⟩ := recDst_spec (P := P) hd
 have ho : ops[0]? = some o := by rw [<- Array.getElem?_toList, hl]; rfl
 have hlen : cs'.length = cs.length := by
  rcases hrec with h1 | ⟨_, rfl, _⟩
  ·exact recoverD_length h1
  ·rfl
 intro b k hb hr hFb hroom
 have hw : Region.wanted o (yielded ops a.tmps) = true := by simp [Region.wanted, hgd]
 have hsz : List.range ops.size = 0 :: List.range' 1 os.length := by
  rw [<- Array.length_toList, hl, List.length_cons, List.range_eq_range', List.range'_succ]
 have h' : wpOpsIn F n P ops (fun e a' w' => Q e a' cs' w') (List.range' 1 os.length) (a.put (some d) v) w := by
  rw [wpOpsIn_eq_wpListIn os 1 (fun j => by rw [<- Array.getElem?_toList, hl, Nat.add_comm 1 j, List.getElem?_cons_succ])]
  exact h
 obtain ⟨e, a', w', q, harr⟩ := wp_opsIn _ _ _ h' b k cs' (hr.trans hro.symm) hFb (hlen ▸ hroom)
 have i0 : (lone (b.atR a (.code (.region id ops false) :: k)) cs w).fenced P F := fenced_calm hFb hroom rfl
 have i1 : (lone (b.atR a (.inRegion ops (0 :: List.range' 1 os.length) :: k)) cs w).fenced P F := fenced_oper hFb hroom ho (fun f _ => hFa f)
 refine ⟨e, a', cs', w', hlen, q, .of_steps (.head i0 (hsz ▸ stepR_region) (.one i1 (step_lone_go ?_))) harr⟩
 have hg := stepGR_op (P := P) (b := b) (k := k) (cs := cs) (w := w) (rest := List.range' 1 os.length) ho hw
 rw [hr, Oper.semAt_none] at hg
 have hfin : ∀ v, (b.atR a (.inRegion ops (0 :: List.range' 1 os.length) :: k)).finish v = b.atR (a.put o.dst v) (.inRegion ops (List.range' 1 os.length) :: k) := by
  intro v; rw [Frame.finish_atR, ho]; rfl
 have hk : (b.atR a (.inRegion ops (0 :: List.range' 1 os.length) :: k)).kind = .deferred := hb
 have htr := tryRecover_deferred hk cs
 rw [hg, <- hdst, <- hfin]
 simp only [Frame.atR, hr] at htr ⊢
 rcases hrec with h1 | ⟨h1, rfl, rfl⟩
 ·simp [stepG.apply, hrun, htr, h1]
 ·simp [stepG.apply, hrun, htr, h1]
end Go.Proofs.Ythoomfjliekbdaa
