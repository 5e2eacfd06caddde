/-
 Types that hold lists of themselves: how arguments that came in are read, by the size of the data.
-/
import Derived.Test.YtmjaehondldaaaaEvLaw
namespace Go.Proofs.Ytmjaehondldaaaa
set_option linter.unusedVariables false
set_option linter.unusedSimpArgs false
open Go.RowKit Go.ChangeShapes Go.WideShapes Go.ChangeAt Go.Deep
def ReadsM (m : Nat) (P : Program) (t : TypeId) (T : List A -> Prop) : Prop :=
 ∀ {H : Type} (enc : TypeId × Value -> H) (w : World) (held : Bool) (fuel : Nat) (cs : List Value) (x : DataW H × List MemPlace), SizeOf.sizeOf x.1 < m -> DataW.trod enc P w 0 (fun _ => true) held fuel t cs = some x -> ∃ as, T as /\ VRs [] (G0 fun _ _ => True) w as cs
def RdM (m : Nat) (P : Program) (t : TypeId) {T : Type} (c : T -> List A) (ok : T -> Prop) : Prop := ReadsM m P t fun as => ∃ x, as = c x /\ ok x
theorem RdT.m {P : Program} {t : TypeId} {T : Type} {c : T -> List A} {ok : T -> Prop} {m : Nat} (h : RdT P t c ok) : RdM m P t c ok := fun enc w held fuel cs x _ h0 => h enc w held fuel cs x h0
theorem RdM.of {m : Nat} {P : Program} {t : TypeId} {T : Type} {c : T -> List A} {ok : T -> Prop} {S : List A -> Prop} (h : ReadsM m P t S) (hs : ∀ as, S as -> ∃ x, as = c x /\ ok x) : RdM m P t c ok := fun enc w held fuel cs x hx h0 => by
 obtain ⟨as, h1, h2⟩ := h enc w held fuel cs x hx h0
 exact ⟨as, hs as h1, h2⟩
theorem RdT.ofM {P : Program} {t : TypeId} {T : Type} {c : T -> List A} {ok : T -> Prop} (h : ∀ m, RdM m P t c ok) : RdT P t c ok := fun enc w held fuel cs x h0 => h (SizeOf.sizeOf x.1 + 1) enc w held fuel cs x (Nat.lt_succ_self _) h0
def ReadsAllM (m : Nat) (P : Program) : List Field -> List (List A -> Prop) -> Prop
 | [], [] => True
 | f :: fs, T :: Ts => ReadsM m P f.type T /\ ReadsAllM m P fs Ts
 | _, _ => False
theorem reads_fieldsM {m : Nat} {P : Program} {H : Type} (enc : TypeId × Value -> H) (w : World) (held : Bool) (cs : List Value) {N : Nat} (hN : cs.length = N) : ∀ (fs : List Field) (Ts : List (List A -> Prop)) (o : Nat), lays P N fs o = true -> ReadsAllM m P fs Ts ->
  (∀ (i : Nat) f, fs[i]? = some f -> ∃ n x, SizeOf.sizeOf x.1 < m /\ DataW.trod enc P w 0 (fun _ => true) held n f.type ((cs.drop f.offset).take (P.cellsOf f.type)) = some x) -> ∃ as, TAll Ts as /\ VRs [] (G0 fun _ _ => True) w as (cs.drop o)
 | [], [], o, hl, _, _ => by
  rw [lays] at hl
  have : o = N := Nat.eq_of_beq_eq_true hl
  refine ⟨[], rfl, ?_⟩
  rw [VRs, List.drop_eq_nil_iff.2 (by omega)]
 | f :: fs, T :: Ts, o, hl, hr, hx => by
  rw [lays, Bool.and_eq_true] at hl
  obtain ⟨hl1, hl⟩ := hl
  have ho : f.offset = o := Nat.eq_of_beq_eq_true hl1
  obtain ⟨n, x, hxm, h0⟩ := hx 0 f rfl
  obtain ⟨a, ha, hv⟩ := hr.1 enc w held n _ x hxm h0
  obtain ⟨b, hb, hvb⟩ := reads_fieldsM enc w held cs hN fs Ts (o + P.cellsOf f.type) hl hr.2 fun i f' hf' => hx (i + 1) f' (by simpa using hf')
  refine ⟨a ++ b, ⟨a, b, rfl, ha, hb⟩, ?_⟩
  have e : cs.drop o = (cs.drop o).take (P.cellsOf f.type) ++ cs.drop (o + P.cellsOf f.type) := by
   rw [<- List.drop_drop]; exact (List.take_append_drop _ _).symm
  rw [e, <- ho]
  rw [<- ho] at hvb
  exact VRs_append hv hvb
 | [], _ :: _, _, _, hr, _ => hr.elim
 | _ :: _, [], _, _, hr, _ => hr.elim
theorem readsM_struct {m : Nat} {P : Program} {t : TypeId} {fs : Array Field} {Ts : List (List A -> Prop)} (ht : P.underlying t = some (.struct fs)) (hl : lays P (P.cellsOf t) fs.toList 0 = true) (hr : ReadsAllM m P fs.toList Ts) : ReadsM (m + 1) P t (TAll Ts) := by
 intro H enc w held fuel cs x hsz h
 obtain ⟨xs, n, _, rfl, hlen, hxs, hf⟩ := DataW.trod_struct ht h
 obtain ⟨as, h1, h2⟩ := reads_fieldsM enc w held cs hlen fs.toList Ts 0 hl hr fun i f hi => by
  have hi' : i < xs.length := by
   have := (List.getElem?_eq_some_iff.1 hi).1
   simp at this; omega
  refine ⟨n, xs[i], ?_, by rw [hf i f (by simpa using hi)]; exact List.getElem?_eq_getElem hi'⟩
  have h1 : xs[i].1 ∈ xs.map (·.1) := List.mem_map.2 ⟨_, List.getElem_mem hi', rfl⟩
  have h2 := List.sizeOf_lt_of_mem h1
  have h3 : SizeOf.sizeOf (DataW.agg (xs.map (·.1))) = 1 + SizeOf.sizeOf (xs.map (·.1)) := by simp
  have h4 : SizeOf.sizeOf (DataW.agg (xs.map (·.1))) < m + 1 := hsz
  omega
 exact ⟨as, h1, by simpa using h2⟩
section
variable {P : Program} {t e : TypeId} {T : Type} {c : T -> List A} {ok : T -> Prop}
theorem rdM_slice {m0 es : Nat} (ht : P.underlying t = some (.slice e)) (hk : P.cellsOf e = es) (hpos : 0 < es) (hlen : ∀ x, (c x).length = es) (hL : RdM m0 P e c ok) : RdM m0 P t (cL c) (fun l => l.length <= maxL /\ ∀ z ∈ l, ok z) := by
 intro H enc w held fuel cs x hsz h
 rcases open_slice ht h with ⟨rfl, _⟩ | ⟨a, len, cap, m, n, D, Pl, rfl, _, hle, hcap, hm, hxd, hel⟩
 ·refine ⟨_, ⟨[], rfl, Nat.zero_le _, fun z hz => (by cases hz)⟩, ?_⟩
  rw [cL, VRs]
  refine ⟨_, [], rfl, ?_, by rw [VRs]⟩
  rw [VR]
  exact ⟨none, 0, [], es, rfl, Nat.le_refl _, fun h => (by cases h), fun d hd => (by cases hd), fun h => absurd h (Nat.lt_irrefl 0), by rw [List.map_nil, VRss]⟩
 ·simp only [if_true] at hm
  have each : ∀ i, i < len -> ∃ y : T, ok y /\ ∃ vs, VRs [] (G0 fun _ _ => True) w (c y) vs /\ vs.length = es /\ ∀ j, j < es -> w.cell? (a.add (i * es + j)) = vs[j]? := fun i hi => by
   obtain ⟨cs', h1, h2⟩ := hel i (by omega)
   obtain ⟨as, ⟨y, rfl, hok⟩, hv⟩ := hL enc w held n cs' _ (by
    have h3 : D i ∈ (List.range len).map D := List.mem_map.2 ⟨i, List.mem_range.2 hi, rfl⟩
    have h4 := List.sizeOf_lt_of_mem h3
    rw [hxd] at hsz
    simp only [DataW.slice.sizeOf_spec] at hsz
    show SizeOf.sizeOf (D i) < m0
    omega) h2
   obtain ⟨_, hl, hc⟩ := World.cells?_some h1
   have hvl := hv.length
   rw [hlen] at hvl
   refine ⟨y, hok, cs', hv, hvl, fun j hj => ?_⟩
   have := hc j (by omega)
   rw [hk, add_add] at this
   exact this
  obtain ⟨l, ds, hl, hdl, hall⟩ : ∃ (l : List T) (ds : List (List Value)), l.length = len /\ ds.length = len /\ ∀ i y d, l[i]? = some y -> ds[i]? = some d -> ok y /\ VRs [] (G0 fun _ _ => True) w (c y) d /\ d.length = es /\ ∀ j, j < es -> w.cell? (a.add (i * es + j)) = d[j]? := by
   clear hel hm hle hcap hxd hsz h
   induction len with
   | zero => exact ⟨[], [], rfl, rfl, fun i y d h => by simp at h⟩
   | succ len ih =>
    obtain ⟨l, ds, hl, hdl, hall⟩ := ih (fun i hi => each i (by omega))
    obtain ⟨y, hok, d, hd⟩ := each len (by omega)
    refine ⟨l ++ [y], ds ++ [d], by simp [hl], by simp [hdl], fun i y' d' hy' hd' => ?_⟩
    by_cases e : i < len
    ·rw [List.getElem?_append_left (by omega)] at hy' hd'
     exact hall i y' d' hy' hd'
    ·have hi : i < (l ++ [y]).length := (List.getElem?_eq_some_iff.1 hy').1
     have e2 : i = len := by simp at hi; omega
     subst e2
     rw [List.getElem?_append_right (by omega)] at hy' hd'
     simp [hl, hdl] at hy' hd'
     subst hy'; subst hd'
     exact ⟨hok, hd⟩
  have hds : ∀ d ∈ ds, d.length = es := fun d hd => by
   obtain ⟨i, hi, rfl⟩ := List.getElem_of_mem hd
   exact (hall i l[i] ds[i] (List.getElem?_eq_getElem (by omega)) (List.getElem?_eq_getElem hi)).2.2.1
  have hcapL : cap <= maxL := hcap
  refine ⟨_, ⟨l, rfl, by omega, fun z hz => ?_⟩, ?_⟩
  ·obtain ⟨i, hi, rfl⟩ := List.getElem_of_mem hz
   exact (hall i l[i] ds[i] (List.getElem?_eq_getElem hi) (List.getElem?_eq_getElem (by omega))).1
  ·rw [cL, VRs]
   refine ⟨_, [], rfl, ?_, by rw [VRs]⟩
   rw [VR]
   refine ⟨some a, cap, ds, es, by simp [hl], by simp [hl]; exact hle, fun h => (by cases h), hds, fun hp => ?_, ?_⟩
   ·have hp : 0 < len := by simpa [hl] using hp
    obtain ⟨ab, ao, asp⟩ := a
    obtain ⟨_, _, h0l, h0⟩ := hall 0 l[0] ds[0] (List.getElem?_eq_getElem (by omega)) (List.getElem?_eq_getElem (by omega))
    have h4 := h0 0 hpos
    rw [List.getElem?_eq_getElem (by omega)] at h4
    have hsp : asp = none := by simpa [Addr.add] using World.cell?_spot h4
    subst hsp
    refine ⟨ab, ao, rfl, fun j v hj => ⟨?_, stab_all _ _⟩⟩
    have hjl : j < ds.flatten.length := (List.getElem?_eq_some_iff.1 hj).1
    rw [flat_length hds] at hjl
    have hi : j / es < len := by
     rw [Nat.div_lt_iff_lt_mul hpos]; rw [hdl] at hjl; exact hjl
    obtain ⟨_, _, hil, hi2⟩ := hall (j / es) l[j / es] ds[j / es] (List.getElem?_eq_getElem (by omega)) (List.getElem?_eq_getElem (by omega))
    have h5 := hi2 (j % es) (Nat.mod_lt _ hpos)
    have e1 : j / es * es + j % es = j := by rw [Nat.mul_comm]; exact Nat.div_add_mod j es
    have h6 := flat_get hds (List.getElem?_eq_getElem (show j / es < ds.length by omega)) (j % es) (Nat.mod_lt _ hpos)
    rw [e1] at h5 h6
    rw [add_plain] at h5
    rw [h5, <- h6]
    exact hj
   ·refine VRss_iff.2 ⟨by simp [hl, hdl], fun i y d hy hd => ?_⟩
    rw [List.getElem?_map] at hy
    cases hx : l[i]? with
    | none => rw [hx] at hy; cases hy
    | some z =>
     rw [hx] at hy; cases hy
     exact (hall i z d hx hd).2.1
end
end Go.Proofs.Ytmjaehondldaaaa
