/-
  From what the interpreter answers to a law's statement: how arguments that came in are read as the interpreter's data.
-/
import Derived.Test.YtooamdacfhfjoaaDoorEvTyped
import Derived.Test.YtooamdacfhfjoaaDoorFrame
namespace Go.Proofs.YtooamdacfhfjoaaDoor
set_option linter.unusedVariables false
set_option linter.unusedSimpArgs false
open Go.RowKit Go.ChangeShapes Go.WideShapes Go.ChangeAt Go.Deep
theorem stab_all (k o : Nat) : Stab [] (G0 fun _ _ => True) k o := ⟨trivial, fun b hb => by cases hb⟩
def ReadsA (P : Program) (t : TypeId) (T : List A → Prop) : Prop :=
  ∀ {H : Type} (enc : TypeId × Value → H) (w : World) (held : Bool) (fuel : Nat) (cs : List Value) (x : DataW H × List MemPlace), DataW.trod enc P w 0 (fun _ => true) held fuel t cs = some x → ∃ as, T as ∧ VRs [] (G0 fun _ _ => True) w as cs
def TInt (as : List A) : Prop := ∃ n : Int, as = [.v (.int .i64 n)] ∧ -9223372036854775808 ≤ n ∧ n ≤ 9223372036854775807
theorem VRs_one {H : Heap} {g : Gh} {w : World} (x : Value) : VRs H g w [.v x] [x] := by rw [VRs]; exact ⟨x, [], rfl, by rw [VR], by rw [VRs]⟩
theorem readsA_int {P : Program} {t : TypeId} (ht : P.underlying t = some (.int .i64)) : ReadsA P t TInt := by
  intro H enc w held fuel cs x h
  obtain ⟨n, rfl, _, hw⟩ := DataW.trod_int ht h
  exact ⟨_, ⟨n, rfl, (bounds_i64 hw).1, (bounds_i64 hw).2⟩, VRs_one _⟩
theorem VRs_cons {H : Heap} {g : Gh} {w : World} {a : A} {as : List A} {c : Value} {cs : List Value} (h : VR H g w a c) (k : VRs H g w as cs) : VRs H g w (a :: as) (c :: cs) := by rw [VRs]; exact ⟨c, cs, rfl, h, k⟩
def TAll : List (List A → Prop) → List A → Prop
  | [], as => as = []
  | T :: Ts, as => ∃ a b, as = a ++ b ∧ T a ∧ TAll Ts b
def lays (P : Program) (N : Nat) : List Field → Nat → Bool
  | [], o => Nat.beq o N
  | f :: fs, o => Nat.beq f.offset o && lays P N fs (o + P.cellsOf f.type)
def ReadsAll (P : Program) : List Field → List (List A → Prop) → Prop
  | [], [] => True
  | f :: fs, T :: Ts => ReadsA P f.type T ∧ ReadsAll P fs Ts
  | _, _ => False
theorem VRs_append {H : Heap} {g : Gh} {w : World} : ∀ {a : List A} {c : List Value} {b : List A} {d : List Value}, VRs H g w a c → VRs H g w b d → VRs H g w (a ++ b) (c ++ d)
  | [], c, b, d, h, k => by rw [VRs] at h; subst h; exact k
  | x :: a, c, b, d, h, k => by
    rw [VRs] at h
    obtain ⟨y, c', rfl, h1, h2⟩ := h
    rw [List.cons_append, List.cons_append, VRs]
    exact ⟨y, _, rfl, h1, VRs_append h2 k⟩
theorem reads_fields {P : Program} {H : Type} (enc : TypeId × Value → H) (w : World) (held : Bool) (cs : List Value) {N : Nat} (hN : cs.length = N) : ∀ (fs : List Field) (Ts : List (List A → Prop)) (o : Nat), lays P N fs o = true → ReadsAll P fs Ts →
    (∀ (i : Nat) f, fs[i]? = some f → ∃ n x, DataW.trod enc P w 0 (fun _ => true) held n f.type ((cs.drop f.offset).take (P.cellsOf f.type)) = some x) → ∃ as, TAll Ts as ∧ VRs [] (G0 fun _ _ => True) w as (cs.drop o)
  | [], [], o, hl, _, _ => by
    rw [lays] at hl
    have : o = N := Nat.eq_of_beq_eq_true hl
    refine ⟨[], rfl, ?_⟩
    rw [VRs, List.drop_eq_nil_iff.2 (by omega)]
  | f :: fs, T :: Ts, o, hl, hr, hx => by
    rw [lays, Bool.and_eq_true] at hl
    obtain ⟨hl1, hl⟩ := hl
    have ho : f.offset = o := Nat.eq_of_beq_eq_true hl1
    obtain ⟨n, x, h0⟩ := hx 0 f rfl
    obtain ⟨a, ha, hv⟩ := hr.1 enc w held n _ x h0
    obtain ⟨b, hb, hvb⟩ := reads_fields enc w held cs hN fs Ts (o + P.cellsOf f.type) hl hr.2 fun i f' hf' => hx (i + 1) f' (by simpa using hf')
    refine ⟨a ++ b, ⟨a, b, rfl, ha, hb⟩, ?_⟩
    have e : cs.drop o = (cs.drop o).take (P.cellsOf f.type) ++ cs.drop (o + P.cellsOf f.type) := by
      rw [← List.drop_drop]; exact (List.take_append_drop _ _).symm
    rw [e, ← ho]
    rw [← ho] at hvb
    exact VRs_append hv hvb
  | [], _ :: _, _, _, hr, _ => hr.elim
  | _ :: _, [], _, _, hr, _ => hr.elim
theorem readsA_struct {P : Program} {t : TypeId} {fs : Array Field} {Ts : List (List A → Prop)} (ht : P.underlying t = some (.struct fs)) (hl : lays P (P.cellsOf t) fs.toList 0 = true) (hr : ReadsAll P fs.toList Ts) : ReadsA P t (TAll Ts) := by
  intro H enc w held fuel cs x h
  obtain ⟨xs, n, _, rfl, hlen, hxs, hf⟩ := DataW.trod_struct ht h
  obtain ⟨as, h1, h2⟩ := reads_fields enc w held cs hlen fs.toList Ts 0 hl hr fun i f hi => by
    have hi' : i < xs.length := by
      have := (List.getElem?_eq_some_iff.1 hi).1
      simp at this; omega
    exact ⟨n, xs[i], by rw [hf i f (by simpa using hi)]; exact List.getElem?_eq_getElem hi'⟩
  exact ⟨as, h1, by simpa using h2⟩
theorem givenA_struct {H : Type} {enc : TypeId × Value → H} {P : Program} {W : World} {base : Nat} {ts : Array TypeId} {args : Array Value} (h : Given enc P W base ts args) (j : Nat) {t : TypeId} {v : Value} (hj : ts[j]? = some t) (hv : args[j]? = some v) {fs : Array Field} (ht : P.underlying t = some (.struct fs)) {T : List A → Prop} (hT : ReadsA P t T) :
    ∃ as, T as ∧ VR [] (G0 fun _ _ => True) W (.agg as) v := by
  obtain ⟨ok, d, p, fuel, htr⟩ := h.2 j t v hj hv
  unfold Value.okWide at ok
  rw [ht] at ok
  obtain ⟨cs, rfl, _, _⟩ := ok
  obtain ⟨as, h1, h2⟩ := hT enc W _ _ _ _ htr
  refine ⟨as, h1, ?_⟩
  rw [VR]
  exact ⟨cs, rfl, h2⟩
def RdT (P : Program) (t : TypeId) {T : Type} (c : T → List A) (ok : T → Prop) : Prop := ReadsA P t fun as => ∃ x, as = c x ∧ ok x
def In64 (n : Int) : Prop := -9223372036854775808 ≤ n ∧ n ≤ 9223372036854775807
theorem rd_int {P : Program} {t : TypeId} (ht : P.underlying t = some (.int .i64)) : RdT P t (cI .i64) In64 := fun enc w held fuel cs x h => by
  obtain ⟨as, ⟨n, rfl, h1⟩, h2⟩ := readsA_int ht enc w held fuel cs x h
  exact ⟨_, ⟨n, rfl, h1⟩, h2⟩
theorem RdT.of {P : Program} {t : TypeId} {T : Type} {c : T → List A} {ok : T → Prop} {S : List A → Prop} (h : ReadsA P t S) (hs : ∀ as, S as → ∃ x, as = c x ∧ ok x) : RdT P t c ok := fun enc w held fuel cs x h0 => by
  obtain ⟨as, h1, h2⟩ := h enc w held fuel cs x h0
  exact ⟨as, hs as h1, h2⟩
theorem gv_struct {H : Type} {enc : TypeId × Value → H} {P : Program} {W : World} {base : Nat} {ts : Array TypeId} {args : Array Value} (h : Given enc P W base ts args) (j : Nat) {t : TypeId} {v : Value} (hj : ts[j]? = some t) (hv : args[j]? = some v) {fs : Array Field} (ht : P.underlying t = some (.struct fs)) {T : Type} {c : T → List A} {ok : T → Prop} (hT : RdT P t c ok) :
    ∃ x, ok x ∧ VR [] (G0 fun _ _ => True) W (.agg (c x)) v := by
  obtain ⟨as, ⟨x, rfl, h1⟩, h2⟩ := givenA_struct h j hj hv ht hT
  exact ⟨x, h1, h2⟩
def maxL : Nat := 9223372036854775807
section
variable {P : Program} {t e : TypeId} {T : Type} {c : T → List A} {ok : T → Prop}
theorem rd_str (ht : P.underlying t = some .string) : RdT P t cS (fun s => s.size ≤ maxL) := fun enc w held fuel cs x h => by
  obtain ⟨s, rfl, _, hs⟩ := DataW.trod_string ht h
  exact ⟨_, ⟨s, rfl, hs⟩, VRs_one _⟩
theorem readsA_array {n : Nat} {T : List A → Prop} (ht : P.underlying t = some (.array n e)) (hk : P.cellsOf t = n * P.cellsOf e) (hr : ReadsA P e T) : ReadsA P t (TAll (List.replicate n T)) := by
  intro H enc w held fuel cs x h
  obtain ⟨xs, m, _, rfl, hlen, hxs, hf⟩ := DataW.trod_array ht h
  rw [hk] at hlen
  have go : ∀ q, q ≤ n → ∃ as, TAll (List.replicate q T) as ∧ VRs [] (G0 fun _ _ => True) w as (cs.drop ((n - q) * P.cellsOf e)) := by
    intro q
    induction q with
    | zero => intro _; exact ⟨[], rfl, by rw [VRs, List.drop_eq_nil_iff.2 (by simp [hlen])]⟩
    | succ q ih =>
      intro hq
      obtain ⟨bs, h1, h2⟩ := ih (by omega)
      have hi : n - (q + 1) < xs.length := by omega
      have := hf (n - (q + 1)) (by omega)
      rw [List.getElem?_eq_getElem hi] at this
      obtain ⟨as, ha, hv⟩ := hr enc w held m _ _ this
      refine ⟨as ++ bs, ⟨as, bs, rfl, ha, h1⟩, ?_⟩
      have e1 : (n - q) * P.cellsOf e = (n - (q + 1)) * P.cellsOf e + P.cellsOf e := by
        rw [show n - q = n - (q + 1) + 1 by omega, Nat.add_mul, Nat.one_mul]
      have e2 : cs.drop ((n - (q + 1)) * P.cellsOf e) = (cs.drop ((n - (q + 1)) * P.cellsOf e)).take (P.cellsOf e) ++ cs.drop ((n - q) * P.cellsOf e) := by
        rw [e1, ← List.drop_drop]; exact (List.take_append_drop _ _).symm
      rw [e2]
      exact VRs_append hv h2
  obtain ⟨as, h1, h2⟩ := go n (Nat.le_refl _)
  exact ⟨as, h1, by simpa using h2⟩
variable {H : Type} {enc : TypeId × Value → H} {W : World} {base : Nat} {ts : Array TypeId} {args : Array Value}
end
theorem law_ev {P : Program} {glob : Nat → Option (List Value)} {k : Nat} {as : List A} {args : Array Value} {W : World} (h : CallOK P glob k as (.v (.bool true))) (hg : ∀ (G : Nat) (vs : List Value), glob G = some vs → ∀ (j : Nat) (v : Value), vs[j]? = some v → W.cell? ⟨G, j, none⟩ = some v)
    (hv : VRs [] (G0 fun _ _ => True) W as args.toList) : Calls P k args W fun e W' => e = .returned (.bool true) ∧ Below W.heap.size W W' := by
  refine (h (fun _ _ => True) W args.toList (fun _ _ _ => trivial) (fun G vs hG j v hj => ⟨by rw [Nat.zero_add]; exact hg G vs hG j v hj, stab_all _ _⟩) hv).mono ?_
  rintro e W' ⟨c, rfl, hb, hc⟩
  rw [VR] at hc
  subst hc
  exact ⟨rfl, hb⟩
def LitReads {H : Type} (P : Program) (t : TypeId) (d : DataW H) (vs : List Value) : Prop :=
  ∀ (enc : TypeId × Value → H) (w : World) (sp : Nat → Bool) (held : Bool) (fuel : Nat) (cs : List Value) (p : List MemPlace), DataW.trod enc P w 0 sp held fuel t cs = some (d, p) → cs = vs
theorem litReads_int {H : Type} {P : Program} {t : TypeId} {k : IntKind} {n : Int} (ht : P.underlying t = some (.int k)) : LitReads (H := H) P t (.lit (.int k n)) [.int k n] := by
  intro enc w sp held fuel cs p h
  obtain ⟨m, rfl, hx, _⟩ := DataW.trod_int ht h
  cases hx
  rfl
theorem pieces {k : Nat} {cs : List Value} : ∀ (vss : List (List Value)) (o : Nat), (∀ (i : Nat) vs, vss[i]? = some vs → (cs.drop ((o + i) * k)).take k = vs) → cs.length = (o + vss.length) * k → cs.drop (o * k) = vss.flatten
  | [], o, _, hl => List.drop_eq_nil_iff.2 (Nat.le_of_eq (by simpa using hl))
  | vs :: vss, o, h, hl => by
    have h0 := h 0 vs rfl
    have ih := pieces vss (o + 1) (fun i us hi => by rw [Nat.add_assoc, Nat.add_comm 1 i]; exact h (i + 1) us (by simpa using hi)) (by rw [hl, List.length_cons, Nat.add_assoc, Nat.add_comm 1])
    rw [List.flatten_cons, ← ih, ← h0, Nat.add_zero, Nat.add_mul, Nat.one_mul, ← List.drop_drop]
    exact (List.take_append_drop _ _).symm
theorem litReads_array {H : Type} {P : Program} {t e : TypeId} {n : Nat} {ds : List (DataW H)} {vss : List (List Value)} (ht : P.underlying t = some (.array n e)) (hk : P.cellsOf t = n * P.cellsOf e) (hn : vss.length = n)
    (h : ∀ (i : Nat) d vs, ds[i]? = some d → vss[i]? = some vs → LitReads P e d vs) : LitReads P t (.agg ds) vss.flatten := by
  intro enc w sp held fuel cs p hx
  obtain ⟨xs, m, _, hxx, hlen, hxl, hel⟩ := DataW.trod_array ht hx
  cases hxx
  have := pieces (k := P.cellsOf e) (cs := cs) vss 0 (fun i vs hi => by
    have hin : i < n := by rw [← hn]; exact (List.getElem?_eq_some_iff.1 hi).1
    have hi' : i < xs.length := by omega
    have := hel i hin
    rw [List.getElem?_eq_getElem hi'] at this
    rw [Nat.zero_add]
    exact h i xs[i].1 vs (by simp [hi']) hi enc w sp held m _ xs[i].2 this) (by rw [hlen, hk, Nat.zero_add, hn])
  simpa using this
end Go.Proofs.YtooamdacfhfjoaaDoor
