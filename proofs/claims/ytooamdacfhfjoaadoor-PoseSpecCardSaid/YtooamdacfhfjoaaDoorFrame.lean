/-
  The frame of a law's proof: from a walk ('the call returns true and leaves what was there as it was') to the given row. And how arguments that came in are read as plain data.
-/
import Derived.Test.YtooamdacfhfjoaaDoorLay
import Derived.ProofKit
import Derived.OpenShut
import Derived.ChangeOld
import Derived.Carry
namespace Go.Proofs.YtooamdacfhfjoaaDoor
open Go.RowKit Go.ChangeShapes Go.WideShapes Go.ChangeAt Go.Deep

theorem trodAll_below {H : Type} {enc : TypeId × Value → H} {P : Program} (hl : laidOutB P = true) {W W' : World} (hb : Below W.heap.size W W') :
    ∀ (ts : List TypeId) (vs : List Value) (ds : List (DataW H)) (ps : List MemPlace), ts.all (fun t => P.readableRec t && decide (t < P.types.size)) = true →
      DataW.TrodAll enc P W 0 (fun _ => true) true ts vs ds ps → DataW.TrodAll enc P W' 0 (fun b => decide (b < W.heap.size)) true ts vs ds ps
  | [], [], [], ps, _, h => h
  | t :: ts, v :: vs, d :: ds, ps, hr, h => by
    obtain ⟨p, q, h1, h2, rfl⟩ := h
    simp only [List.all_cons, Bool.and_eq_true, decide_eq_true_eq] at hr
    have lt : ∀ x ∈ p, x.block < W.heap.size := by obtain ⟨m, hm⟩ := h1; exact DataW.trod_lt m _ _ _ hm
    exact ⟨p, q, Below.trod hl hr.1.1 hr.1.2 h1 hb lt, trodAll_below hl hb ts vs ds q hr.2 h2, rfl⟩
  | [], _ :: _, _, _, _, h => h.elim
  | [], [], _ :: _, _, _, h => h.elim
  | _ :: _, [], _, _, _, h => h.elim
  | _ :: _, _ :: _, [], _, _, h => h.elim
theorem trodAll_length {H : Type} {enc : TypeId × Value → H} {P : Program} {W : World} {base : Nat} {sp : Nat → Bool} {held : Bool} :
    ∀ (ts : List TypeId) (vs : List Value) (ds : List (DataW H)) (ps : List MemPlace), DataW.TrodAll enc P W base sp held ts vs ds ps → vs.length = ts.length ∧ ds.length = ts.length
  | [], [], [], _, _ => ⟨rfl, rfl⟩
  | t :: ts, v :: vs, d :: ds, ps, h => by
    obtain ⟨p, q, _, h2, _⟩ := h
    have := trodAll_length ts vs ds q h2
    simp [this.1, this.2]
  | [], _ :: _, _, _, h => h.elim
  | [], [], _ :: _, _, h => h.elim
  | _ :: _, [], _, _, h => h.elim
  | _ :: _, _ :: _, [], _, h => h.elim
theorem trodAll_get {H : Type} {enc : TypeId × Value → H} {P : Program} {W : World} {base : Nat} {sp : Nat → Bool} {held : Bool} :
    ∀ (ts : List TypeId) (vs : List Value) (ds : List (DataW H)) (ps : List MemPlace), DataW.TrodAll enc P W base sp held ts vs ds ps →
      ∀ (j : Nat) (t : TypeId) (v : Value), ts[j]? = some t → vs[j]? = some v → ∃ d p, DataW.Trod enc P W base sp held t v d p
  | t :: ts, v :: vs, d :: ds, ps, h, j, t', v', hj, hv => by
    obtain ⟨p, q, h1, h2, _⟩ := h
    cases j with
    | zero => cases hj; cases hv; exact ⟨d, p, h1⟩
    | succ j => exact trodAll_get ts vs ds q h2 j t' v' hj hv
  | [], [], [], _, _, _, _, _, hj, _ => by simp at hj
  | [], _ :: _, _, _, h, _, _, _, _, _ => h.elim
  | [], [], _ :: _, _, h, _, _, _, _, _ => h.elim
  | _ :: _, [], _, _, h, _, _, _, _, _ => h.elim
  | _ :: _, _ :: _, [], _, h, _, _, _, _, _ => h.elim
/-- What a law's walk is told of its arguments: their number; each is of its type's make, and reads as data. -/
def Given {H : Type} (enc : TypeId × Value → H) (P : Program) (W : World) (base : Nat) (ts : Array TypeId) (args : Array Value) : Prop :=
  args.size = ts.size ∧ ∀ (j : Nat) t v, ts[j]? = some t → args[j]? = some v → Value.okWide P W .any base t v ∧ ∃ d p, DataW.Trod enc P W 0 (fun _ => true) true t v d p
theorem law_contract {H : Type} {enc : TypeId × Value → H} {P : Program} {f : Nat} {fn : Func} {s : ChangeSpec} {tb : TypeId} (hv : s.vars = []) (hres : fn.resultTypes = #[tb]) (htb : P.underlying tb = some .bool)
    (hl : laidOutB P = true) (hread : fn.params.toList.all (fun t => P.readableRec t && decide (t < P.types.size)) = true)
    (hs : ∀ ds : List (DataW H), ds.length = fn.params.size → s.fn H ds = { results := [.lit (.bool true)], args := ds })
    (W : World) (base : Nat) (args : Array Value) (ds gs : List (DataW H)) (before : List MemPlace)
    (hval : ∀ (j : Nat) t v, fn.params[j]? = some t → args[j]? = some v → Value.okWide P W .any base t v)
    (hW : DataW.Whole enc P fn.params.toList s.vars false W args.toList ds gs before)
    (walk : Given enc P W base fn.params args → Calls P f args W fun e W' => e = .returned (.bool true) ∧ Below W.heap.size W W') :
    Calls P f args W fun e W' => ∃ v, e = .returned v ∧ s.post enc P fn false true false false W args v W' := by
  have hW' := hW
  obtain ⟨p, q, hA, hV, rfl, hfz, hnd⟩ := hW
  rw [hv] at hV
  obtain ⟨rfl, rfl⟩ := trodVars_none hV
  have hlen := trodAll_length _ _ _ _ hA
  refine (walk ⟨by simpa using hlen.1, fun j t v hj hv => ⟨hval j t v hj hv, ?_⟩⟩).mono fun e W' ⟨he, bel⟩ => ?_
  · exact trodAll_get _ _ _ _ hA j t v (by simpa using hj) (by simpa using hv)
  · subst he
    have e1 : s.fn H (ds ++ []) = { results := [.lit (.bool true)], args := ds } := by rw [List.append_nil]; exact hs ds (by simpa using hlen.2)
    refine ⟨_, rfl, ds, [], _, [], p, [], hW', ?_, ?_, ?_, bel.frame _, fun h => by cases h⟩
    · rw [e1, hres]
      exact trodAll_mk1 (shut_bool htb _)
    · rw [e1]
      exact trodAll_below hl bel _ _ _ _ hread hA
    · rw [e1, hv]; exact rfl

/-! ### Reading arguments -/
/-- Cells of type t that can be read, read by L. -/
def Reads {α : Type} (P : Program) (L : Lay α) (t : TypeId) : Prop :=
  ∀ {H : Type} (enc : TypeId × Value → H) (w : World) (held : Bool) (fuel : Nat) (cs : List Value) (x : DataW H × List MemPlace), DataW.trod enc P w 0 (fun _ => true) held fuel t cs = some x → ∃ a, L.rd w.heap.size w cs a
theorem reads_int {P : Program} {t : TypeId} (ht : P.underlying t = some (.int .i64)) : Reads P lInt t := by
  intro H enc w held fuel cs x h
  obtain ⟨n, rfl, _, hw⟩ := DataW.trod_int ht h
  exact ⟨n, rfl, (bounds_i64 hw).1, (bounds_i64 hw).2⟩
theorem reads_u8 {P : Program} {t : TypeId} (ht : P.underlying t = some (.int .u8)) : Reads P lU8 t := by
  intro H enc w held fuel cs x h
  obtain ⟨n, rfl, _, hw⟩ := DataW.trod_int ht h
  exact ⟨n, rfl, (bounds_u8 hw).1, (bounds_u8 hw).2⟩
theorem reads_slice {α : Type} {P : Program} {L : Lay α} {t e : TypeId} (ht : P.underlying t = some (.slice e)) (hk : P.cellsOf e = L.k) (hpos : 0 < L.k) (hL : Reads P L e) : Reads P (lSlice L) t := by
  intro H enc w held fuel cs x h
  rcases open_slice ht h with ⟨rfl, _⟩ | ⟨a, len, cap, m, n, D, Pl, rfl, _, hlen, hcap, hm, hxd, hel⟩
  · exact ⟨[], _, rfl, SliceOf.nil _ _ _⟩
  · simp only [if_true] at hm
    have each : ∀ i, i < len → ∃ y : α, ∃ vs, L.rd w.heap.size w vs y ∧ vs.length = L.k ∧ ∀ j, j < L.k → w.cell? (a.add (i * L.k + j)) = vs[j]? := fun i hi => by
      obtain ⟨cs', h1, h2⟩ := hel i (by omega)
      obtain ⟨y, hy⟩ := hL enc w held n cs' _ h2
      obtain ⟨_, hl, hc⟩ := World.cells?_some h1
      refine ⟨y, cs', hy, L.len hy, fun j hj => ?_⟩
      have := hc j (by omega)
      rw [hk, add_add] at this
      exact this
    obtain ⟨l, hl, hall⟩ : ∃ l : List α, l.length = len ∧ ∀ i (h : i < l.length), ∃ vs, L.rd w.heap.size w vs l[i] ∧ vs.length = L.k ∧ ∀ j, j < L.k → w.cell? (a.add (i * L.k + j)) = vs[j]? := by
      clear hel hm hlen hcap hxd h
      induction len with
      | zero => exact ⟨[], rfl, fun i h => by simp at h⟩
      | succ len ih =>
        obtain ⟨l, hl, hall⟩ := ih (fun i hi => each i (by omega))
        obtain ⟨y, hy⟩ := each len (by omega)
        refine ⟨l ++ [y], by simp [hl], fun i hi => ?_⟩
        by_cases e : i < l.length
        · rw [List.getElem_append_left e]; exact hall i e
        · have e2 : i = l.length := by simp at hi; omega
          subst e2
          rw [List.getElem_append_right (Nat.le_refl _)]
          simpa [hl] using hy
    subst hl
    refine ⟨l, _, rfl, some a, cap, rfl, hlen, hcap, fun hp => ?_⟩
    obtain ⟨ab, ao, asp⟩ := a
    obtain ⟨vs, h1, h2, h3⟩ := hall 0 hp
    have h4 := h3 0 hpos
    have hv0 : vs[0]? = some (vs[0]'(by omega)) := List.getElem?_eq_getElem _
    rw [hv0] at h4
    have hsp : asp = none := by simpa [Addr.add] using World.cell?_spot h4
    subst hsp
    refine ⟨ab, ao, rfl, ?_, fun i hi => ?_⟩
    · have := World.block_lt_of_cell? w _ h4
      simpa [Addr.add] using this
    · obtain ⟨us, g1, g2, g3⟩ := hall i hi
      refine ⟨us, g1, fun j hj => ?_⟩
      have := g3 j hj
      rw [add_plain] at this
      rw [← this, Nat.add_assoc]
/-- A value that is no struct and no array: its one cell. -/
theorem value_one {P : Program} {w : World} {base : Nat} {t : TypeId} {v c : Value} (h : Value.okWide P w .any base t v) (hn : ∀ cs, v ≠ .agg cs) (hc : v.cells.toList = [c]) : v = c := by
  cases v with
  | agg cs => exact absurd rfl (hn cs)
  | _ => simp [Value.cells] at hc; exact hc
theorem given_int {H : Type} {enc : TypeId × Value → H} {P : Program} {W : World} {base : Nat} {ts : Array TypeId} {args : Array Value} (h : Given enc P W base ts args) (j : Nat) {t : TypeId} {v : Value} (hj : ts[j]? = some t) (hv : args[j]? = some v) (ht : P.underlying t = some (.int .i64)) :
    ∃ n : Int, v = .int .i64 n ∧ -9223372036854775808 ≤ n ∧ n ≤ 9223372036854775807 := by
  obtain ⟨ok, d, p, htr⟩ := h.2 j t v hj hv
  obtain ⟨n, rfl, rfl, rfl, hw⟩ := open_int ht ok htr
  exact ⟨n, rfl, (bounds_i64 hw).1, (bounds_i64 hw).2⟩
theorem given_u8 {H : Type} {enc : TypeId × Value → H} {P : Program} {W : World} {base : Nat} {ts : Array TypeId} {args : Array Value} (h : Given enc P W base ts args) (j : Nat) {t : TypeId} {v : Value} (hj : ts[j]? = some t) (hv : args[j]? = some v) (ht : P.underlying t = some (.int .u8)) :
    ∃ n : Int, v = .int .u8 n ∧ 0 ≤ n ∧ n ≤ 255 := by
  obtain ⟨ok, d, p, htr⟩ := h.2 j t v hj hv
  obtain ⟨n, rfl, rfl, rfl, hw⟩ := open_int ht ok htr
  exact ⟨n, rfl, (bounds_u8 hw).1, (bounds_u8 hw).2⟩
theorem given_slice {α : Type} {L : Lay α} {e : TypeId} {H : Type} {enc : TypeId × Value → H} {P : Program} {W : World} {base : Nat} {ts : Array TypeId} {args : Array Value} (h : Given enc P W base ts args) (j : Nat) {t : TypeId} {v : Value} (hj : ts[j]? = some t) (hv : args[j]? = some v)
    (ht : P.underlying t = some (.slice e)) (hk : P.cellsOf e = L.k) (hpos : 0 < L.k) (hL : Reads P L e) : ∃ l : List α, SliceOf L W.heap.size W v l := by
  obtain ⟨ok, d, p, fuel, htr⟩ := h.2 j t v hj hv
  obtain ⟨a0, len, cap, rfl⟩ := okWide_slice ht ok
  obtain ⟨l, u, e, hs⟩ := reads_slice ht hk hpos hL enc W _ _ _ _ htr
  simp [Value.cells] at e
  subst e
  exact ⟨l, hs⟩
theorem args_one {args : Array Value} (h : args.size = 1) : ∃ a, args = #[a] := by
  match args, h with | ⟨[a]⟩, _ => exact ⟨a, rfl⟩
theorem args_two {args : Array Value} (h : args.size = 2) : ∃ a b, args = #[a, b] := by
  match args, h with | ⟨[a, b]⟩, _ => exact ⟨a, b, rfl⟩
theorem args_three {args : Array Value} (h : args.size = 3) : ∃ a b c, args = #[a, b, c] := by
  match args, h with | ⟨[a, b, c]⟩, _ => exact ⟨a, b, c, rfl⟩
theorem args_four {args : Array Value} (h : args.size = 4) : ∃ a b c d, args = #[a, b, c, d] := by
  match args, h with | ⟨[a, b, c, d]⟩, _ => exact ⟨a, b, c, d, rfl⟩
theorem args_five {args : Array Value} (h : args.size = 5) : ∃ a b c d e, args = #[a, b, c, d, e] := by
  match args, h with | ⟨[a, b, c, d, e]⟩, _ => exact ⟨a, b, c, d, e, rfl⟩
end Go.Proofs.YtooamdacfhfjoaaDoor
