/-
 As EvLaw, what came in being bounded by its bulk: the statements' second form.
-/
import Derived.Test.YtobjniabioaefaaEvLaw
import Derived.Test.YtobjniabioaefaaRows
import Derived.JoinedCond
namespace Go.Proofs.Ytobjniabioaefaa
set_option linter.unusedVariables false
set_option linter.unusedSimpArgs false
open Go.RowKit Go.ChangeShapes Go.WideShapes Go.ChangeAt Go.Deep
def ReadsB (P : Program) (t : TypeId) (T : List A -> Nat -> Prop) : Prop :=
 ∀ {H : Type} (enc : TypeId × Value -> H) (w : World) (held : Bool) (fuel : Nat) (cs : List Value) (x : DataW H × List MemPlace), DataW.trod enc P w 0 (fun _ => true) held fuel t cs = some x -> ∃ aa n, T aa n /\ n <= Rows.uptoBulk x.1 /\ VRs [] (G0 fun _ _ => True) w aa cs
def RdW (P : Program) (t : TypeId) {T : Type} (c : T -> List A) (ok : T -> Prop) (wt : T -> Nat) : Prop := ReadsB P t fun aa n => ∃ x, aa = c x /\ ok x /\ n = wt x
def wtL {T : Type} (wt : T -> Nat) (l : List T) : Nat := (l.map wt).sum + 1
def wt1 {T : Type} (_ : T) : Nat := 1
theorem bulk_sum {T H : Type} (wt : T -> Nat) : ∀ (l : List T) (D : Nat -> DataW H), (∀ (i : Nat) (hi : i < l.length), wt l[i] <= Rows.uptoBulk (D i)) -> (l.map wt).sum <= Rows.uptoBulkAll ((List.range l.length).map D)
 | [], D, _ => Nat.zero_le _
 | x :: l, D, h => by
  rw [List.length_cons, List.range_succ_eq_map, List.map_cons, List.map_cons, List.sum_cons, List.map_map]
  have h0 := h 0 (by simp)
  have ih := bulk_sum wt l (fun i => D (i + 1)) fun i hi => h (i + 1) (by simp; omega)
  show _ <= Rows.uptoBulk (D 0) + Rows.uptoBulkAll ((List.range l.length).map (D ∘ Nat.succ))
  have e : (List.range l.length).map (D ∘ Nat.succ) = (List.range l.length).map (fun i => D (i + 1)) := rfl
  rw [e]
  simp only [List.getElem_cons_zero] at h0
  omega
section
variable {P : Program} {t e : TypeId} {T : Type} {c : T -> List A} {ok : T -> Prop} {wt : T -> Nat}
theorem rw_c8 (ht : P.underlying t = some (.int .u8)) : RdW P t c8 (fun _ => True) wt1 := fun enc w held fuel cs x h => by
 obtain ⟨n, rfl, rfl, hw⟩ := DataW.trod_int ht h
 obtain ⟨h1, h2⟩ := bounds_u8 hw
 refine ⟨c8 (UInt8.ofNat n.toNat), _, ⟨_, rfl, trivial, rfl⟩, Nat.le_refl _, ?_⟩
 have : ((UInt8.ofNat n.toNat).toNat : Int) = n := by
  rw [UInt8.toNat_ofNat']
  omega
 unfold c8
 rw [this]
 exact VRs_one _
theorem rw_slice {es : Nat} (ht : P.underlying t = some (.slice e)) (hk : P.cellsOf e = es) (hpos : 0 < es) (hlen : ∀ x, (c x).length = es) (hL : RdW P e c ok wt) : RdW P t (cL c) (fun l => l.length <= maxL /\ ∀ z ∈ l, ok z) (wtL wt) := by
 intro H enc w held fuel cs x h
 rcases open_slice ht h with ⟨rfl, hx0⟩ | ⟨a, len, cap, m, n, D, Pl, rfl, _, hle, hcap, hm, hxd, hel⟩
 ·refine ⟨_, 1, ⟨[], rfl, ⟨Nat.zero_le _, fun z hz => (by cases hz)⟩, rfl⟩, by rw [hx0]; exact Nat.le_refl _, ?_⟩
  rw [cL, VRs]
  refine ⟨_, [], rfl, ?_, by rw [VRs]⟩
  rw [VR]
  exact ⟨none, 0, [], es, rfl, Nat.le_refl _, fun h => (by cases h), fun d hd => (by cases hd), fun h => absurd h (Nat.lt_irrefl 0), by rw [List.map_nil, VRss]⟩
 ·simp only [if_true] at hm
  have each : ∀ i, i < len -> ∃ y : T, (ok y /\ wt y <= Rows.uptoBulk (D i)) /\ ∃ vs, VRs [] (G0 fun _ _ => True) w (c y) vs /\ vs.length = es /\ ∀ j, j < es -> w.cell? (a.add (i * es + j)) = vs[j]? := fun i hi => by
   obtain ⟨cs', h1, h2⟩ := hel i (by omega)
   obtain ⟨aa, nn, ⟨y, rfl, hok, rfl⟩, hwt, hv⟩ := hL enc w held n cs' _ h2
   obtain ⟨_, hl, hc⟩ := World.cells?_some h1
   have hvl := hv.length
   rw [hlen] at hvl
   refine ⟨y, ⟨hok, hwt⟩, cs', hv, hvl, fun j hj => ?_⟩
   have := hc j (by omega)
   rw [hk, add_add] at this
   exact this
  obtain ⟨l, ds, hl, hdl, hall⟩ : ∃ (l : List T) (ds : List (List Value)), l.length = len /\ ds.length = len /\ ∀ i y d, l[i]? = some y -> ds[i]? = some d -> (ok y /\ wt y <= Rows.uptoBulk (D i)) /\ VRs [] (G0 fun _ _ => True) w (c y) d /\ d.length = es /\ ∀ j, j < es -> w.cell? (a.add (i * es + j)) = d[j]? := by
   clear hel hm hle hcap hxd h
   induction len with
   | zero => exact ⟨[], [], rfl, rfl, fun i y d h => by simp at h⟩
   | succ len ih =>
    obtain ⟨l, ds, hl, hdl, hall⟩ := ih (fun i hi => each i (by omega))
    obtain ⟨y, hok, d, hd⟩ := each len (by omega)
    refine ⟨l ++ [y], ds ++ [d], by simp [hl], by simp [hdl], fun i y' d' hy' hd' => ?_⟩
    by_cases e : i < len
    ·rw [List.getElem?_append_left (by omega)] at hy' hd'
     exact hall i y' d' hy' hd'
    ·have hi : i < (l ++ [y]).length := (List.getElem?_eq_some_iff.1 hy').1
     have e2 : i = len := by simp at hi; omega
     subst e2
     rw [List.getElem?_append_right (by omega)] at hy' hd'
     simp [hl, hdl] at hy' hd'
     subst hy'; subst hd'
     exact ⟨hok, hd⟩
  have hds : ∀ d ∈ ds, d.length = es := fun d hd => by
   obtain ⟨i, hi, rfl⟩ := List.getElem_of_mem hd
   exact (hall i l[i] ds[i] (List.getElem?_eq_getElem (by omega)) (List.getElem?_eq_getElem hi)).2.2.1
  have hcapL : cap <= maxL := hcap
  refine ⟨_, _, ⟨l, rfl, ⟨by omega, fun z hz => ?_⟩, rfl⟩, ?_, ?_⟩
  ·obtain ⟨i, hi, rfl⟩ := List.getElem_of_mem hz
   exact (hall i l[i] ds[i] (List.getElem?_eq_getElem hi) (List.getElem?_eq_getElem (by omega))).1.1
  ·rw [hxd]
   have hs := bulk_sum wt l D fun i hi => (hall i l[i] ds[i] (List.getElem?_eq_getElem hi) (List.getElem?_eq_getElem (by omega))).1.2
   rw [hl] at hs
   unfold wtL
   show _ <= Rows.uptoBulkAll _ + Rows.uptoBulkAll _ + 1
   omega
  ·rw [cL, VRs]
   refine ⟨_, [], rfl, ?_, by rw [VRs]⟩
   rw [VR]
   refine ⟨some a, cap, ds, es, by simp [hl], by simp [hl]; exact hle, fun h => (by cases h), hds, fun hp => ?_, ?_⟩
   ·have hp : 0 < len := by simpa [hl] using hp
    obtain ⟨ab, ao, asp⟩ := a
    obtain ⟨_, _, h0l, h0⟩ := hall 0 l[0] ds[0] (List.getElem?_eq_getElem (by omega)) (List.getElem?_eq_getElem (by omega))
    have h4 := h0 0 hpos
    rw [List.getElem?_eq_getElem (by omega)] at h4
    have hsp : asp = none := by simpa [Addr.add] using World.cell?_spot h4
    subst hsp
    refine ⟨ab, ao, rfl, fun j v hj => ⟨?_, stab_all _ _⟩⟩
    have hjl : j < ds.flatten.length := (List.getElem?_eq_some_iff.1 hj).1
    rw [flat_length hds] at hjl
    have hi : j / es < len := by
     rw [Nat.div_lt_iff_lt_mul hpos]; rw [hdl] at hjl; exact hjl
    obtain ⟨_, _, hil, hi2⟩ := hall (j / es) l[j / es] ds[j / es] (List.getElem?_eq_getElem (by omega)) (List.getElem?_eq_getElem (by omega))
    have h5 := hi2 (j % es) (Nat.mod_lt _ hpos)
    have e1 : j / es * es + j % es = j := by rw [Nat.mul_comm]; exact Nat.div_add_mod j es
    have h6 := flat_get hds (List.getElem?_eq_getElem (show j / es < ds.length by omega)) (j % es) (Nat.mod_lt _ hpos)
    rw [e1] at h5 h6
    rw [add_plain] at h5
    rw [h5, <- h6]
    exact hj
   ·refine VRss_iff.2 ⟨by simp [hl, hdl], fun i y d hy hd => ?_⟩
    rw [List.getElem?_map] at hy
    cases hx : l[i]? with
    | none => rw [hx] at hy; cases hy
    | some z =>
     rw [hx] at hy; cases hy
     exact (hall i z d hx hd).2.1
theorem rw_slice0 (h : RdW P t (cL c) (fun l => l.length <= maxL /\ ∀ z ∈ l, ok z) (wtL wt)) : RdW P t (cL c) (fun l => l.length <= maxL) (wtL wt) := fun enc w held fuel cs x h0 => by
 obtain ⟨aa, n, ⟨y, h1, h2, h3⟩, h4⟩ := h enc w held fuel cs x h0
 exact ⟨aa, n, ⟨y, h1, h2.1, h3⟩, h4⟩
theorem RdW.of {T : Type} {c : T -> List A} {ok : T -> Prop} {wt : T -> Nat} {S : List A -> Nat -> Prop} (h : ReadsB P t S) (hs : ∀ aa n, S aa n -> ∃ x, aa = c x /\ ok x /\ n = wt x) : RdW P t c ok wt := fun enc w held fuel cs x h0 => by
 obtain ⟨aa, n, h1, h2⟩ := h enc w held fuel cs x h0
 exact ⟨aa, n, hs aa n h1, h2⟩
end
def GivenU {H : Type} (enc : TypeId × Value -> H) (P : Program) (W : World) (base : Nat) (ts : Array TypeId) (args : Array Value) : Prop :=
 args.size = ts.size /\ ∀ (j : Nat) t v, ts[j]? = some t -> args[j]? = some v -> Value.okWide P W .any base t v /\ ∃ d p, DataW.Trod enc P W 0 (fun _ => true) true t v d p /\ Rows.uptoBulk d <= 1048576
theorem trodAll_getU {H : Type} {enc : TypeId × Value -> H} {P : Program} {W : World} {base : Nat} {sp : Nat -> Bool} {held : Bool} :
  ∀ (ts : List TypeId) (vs : List Value) (ds : List (DataW H)) (ps : List MemPlace), DataW.TrodAll enc P W base sp held ts vs ds ps ->
   ∀ (j : Nat) (t : TypeId) (v : Value), ts[j]? = some t -> vs[j]? = some v -> ∃ d p, DataW.Trod enc P W base sp held t v d p /\ Rows.uptoBulk d <= Rows.uptoBulkAll ds
 | t :: ts, v :: vs, d :: ds, ps, h, j, t', v', hj, hv => by
  obtain ⟨p, q, h1, h2, _⟩ := h
  cases j with
  | zero => cases hj; cases hv; exact ⟨d, p, h1, by show _ <= Rows.uptoBulk d + Rows.uptoBulkAll ds; omega⟩
  | succ j =>
   obtain ⟨d', p', e1, e2⟩ := trodAll_getU ts vs ds q h2 j t' v' hj hv
   exact ⟨d', p', e1, by show _ <= Rows.uptoBulk d + Rows.uptoBulkAll ds; omega⟩
 | [], [], [], _, _, _, _, _, hj, _ => by simp at hj
 | [], _ :: _, _, _, h, _, _, _, _, _ => h.elim
 | [], [], _ :: _, _, h, _, _, _, _, _ => h.elim
 | _ :: _, [], _, _, h, _, _, _, _, _ => h.elim
 | _ :: _, _ :: _, [], _, h, _, _, _, _, _ => h.elim
theorem law_contractU {H : Type} {enc : TypeId × Value -> H} {P : Program} {f : Nat} {fn : Func} {s : ChangeSpec} {tb : TypeId} (hv : s.vars = []) (hres : fn.resultTypes = #[tb]) (htb : P.underlying tb = some .bool)
  (hl : laidOutB P = true) (hread : fn.params.toList.all (fun t => P.readableRec t && decide (t < P.types.size)) = true)
  (hs : ∀ ds : List (DataW H), ds.length = fn.params.size -> s.fn H ds = { results := [.lit (.bool true)], args := ds })
  (W : World) (base : Nat) (args : Array Value) (ds gs : List (DataW H)) (before : List MemPlace)
  (hval : ∀ (j : Nat) t v, fn.params[j]? = some t -> args[j]? = some v -> Value.okWide P W .any base t v)
  (hW : DataW.Whole enc P fn.params.toList s.vars false W args.toList ds gs before) (hk : Rows.uptoSmall H (ds ++ gs) = true)
  (walk : GivenU enc P W base fn.params args -> Calls P f args W fun e W' => e = .returned (.bool true) /\ Below W.heap.size W W') :
  Calls P f args W fun e W' => ∃ v, e = .returned v /\ s.post enc P fn false true false false W args v W' := by
 refine law_contract hv hres htb hl hread hs W base args ds gs before hval hW fun _ => walk ?_
 obtain ⟨p, q, hA, hV, rfl, hfz, hnd⟩ := hW
 rw [hv] at hV
 obtain ⟨rfl, rfl⟩ := trodVars_none hV
 have hlen := trodAll_length _ _ _ _ hA
 rw [List.append_nil] at hk
 have hk' : Rows.uptoBulkAll ds <= 1048576 := of_decide_eq_true hk
 refine ⟨by simpa using hlen.1, fun j t v hj hv => ⟨hval j t v hj hv, ?_⟩⟩
 obtain ⟨d, p, e1, e2⟩ := trodAll_getU _ _ _ _ hA j t v (by simpa using hj) (by simpa using hv)
 exact ⟨d, p, e1, by omega⟩
section
variable {H : Type} {enc : TypeId × Value -> H} {P : Program} {W : World} {base : Nat} {ts : Array TypeId} {args : Array Value} {e : TypeId} {T : Type} {c : T -> List A} {ok : T -> Prop} {wt : T -> Nat}
theorem GivenU.low (h : GivenU enc P W base ts args) : Given enc P W base ts args := ⟨h.1, fun j t v hj hv => let ⟨a, d, p, b, _⟩ := h.2 j t v hj hv; ⟨a, d, p, b⟩⟩
theorem gw_slice {l : List T -> Prop} {wl : List T -> Nat} (h : GivenU enc P W base ts args) (j : Nat) {t : TypeId} {v : Value} (hj : ts[j]? = some t) (hv : args[j]? = some v) (ht : P.underlying t = some (.slice e)) (hT : RdW P t (cL c) l wl) :
  ∃ x, (l x /\ wl x <= 1048576) /\ VR [] (G0 fun _ _ => True) W (.imm (x.map c) false) v := by
 obtain ⟨okw, d, p, ⟨fuel, htr⟩, hb⟩ := h.2 j t v hj hv
 obtain ⟨a0, len, cap, rfl⟩ := okWide_slice ht okw
 obtain ⟨aa, n, ⟨x, rfl, hx, rfl⟩, h2, hvr⟩ := hT enc W _ _ _ _ htr
 rw [cL, VRs] at hvr
 obtain ⟨d0, ds, e0, h1, h3⟩ := hvr
 simp [Value.cells] at e0
 obtain ⟨rfl, _⟩ := e0
 exact ⟨x, ⟨hx, Nat.le_trans h2 hb⟩, h1⟩
end
end Go.Proofs.Ytobjniabioaefaa
