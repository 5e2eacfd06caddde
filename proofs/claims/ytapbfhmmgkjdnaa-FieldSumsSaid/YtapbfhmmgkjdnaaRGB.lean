/-
  The rule for drawn regions, where every operation but the last few leaves all that was there as it was; and helpers for its steps.
-/
import Derived.Test.YtapbfhmmgkjdnaaRG
import Derived.WalkKit
import Derived.NoCompiler
namespace Go.Proofs.Ytapbfhmmgkjdnaa
open Go.RowKit
/-- The operands' values, by their slots. -/
def evL : List (Nat × Value) → Operand → Value
  | _, .const v => v
  | _, .global g => .pointer (some ⟨g, 0, none⟩)
  | _, .func f => .func (.func f) #[] #[]
  | [], .tmp _ => undef
  | (k, v) :: L, .tmp t => if t = k then v else evL L (.tmp t)
@[go_sem] theorem evL_const (L : List (Nat × Value)) (v : Value) : evL L (.const v) = v := by cases L <;> rfl
@[go_sem] theorem evL_global (L : List (Nat × Value)) (g : Nat) : evL L (.global g) = .pointer (some ⟨g, 0, none⟩) := by cases L <;> rfl
@[go_sem] theorem evL_func (L : List (Nat × Value)) (f : FuncId) : evL L (.func f) = .func (.func f) #[] #[] := by cases L <;> rfl
@[go_sem] theorem evL_tmp (L : List (Nat × Value)) (k t : Nat) (v : Value) : evL ((k, v) :: L) (.tmp t) = if t = k then v else evL L (.tmp t) := rfl
theorem evL_mem : ∀ (L : List (Nat × Value)) (t : Nat), (L.map (·.1)).contains t = true → ∃ v, (t, v) ∈ L ∧ evL L (.tmp t) = v
  | [], t, h => by simp at h
  | (k, v) :: L, t, h => by
    by_cases e : t = k
    · subst e; exact ⟨v, by simp, if_pos rfl⟩
    · obtain ⟨u, h1, h2⟩ := evL_mem L t (by simpa [e] using h)
      exact ⟨u, by simp [h1], by rw [evL_tmp, if_neg e]; exact h2⟩
theorem allNil {α : Type} {p : α → Prop} : ∀ x ∈ ([] : List α), p x := fun _ h => by cases h
theorem allCons {α : Type} {p : α → Prop} {y : α} {l : List α} (h : p y) (hs : ∀ x ∈ l, p x) : ∀ x ∈ y :: l, p x := fun x hx => by
  rcases List.mem_cons.1 hx with rfl | hx
  · exact h
  · exact hs x hx
def looks (ops : Array Oper) (i : Nat) : List Nat := ((ops[i]?).map (·.looksAt ops)).getD []
/-- Operation i looks at slot t, which operation j, already come, has written. -/
def rdy (ops : Array Oper) (i t j : Nat) : Bool := (looks ops i).contains t && dstOf ops j == some t && bef ops i j
/-- Operation i looks at slot t, which holds what it held at the start. -/
def old (ops : Array Oper) (i t : Nat) : Bool := (looks ops i).contains t && (List.range ops.size).all fun j => dstOf ops j != some t || !bef ops i j
variable {F : Fence} {n : Nat} {P : Program} {ops : Array Oper} {Q : Exit → Act → World → Prop}
theorem opv {o : Oper} {i : Nat} (ho : ops[i]? = some o) {a : Act} {w : World} {R : Value → World → Prop} (L : List (Nat × Value)) (hL : (looks ops i).all (fun t => (L.map (·.1)).contains t) = true) (hp : plainOp o = true) (hv : ∀ p ∈ L, slot a p.1 = p.2)
    (h : OpV F n P o (evL L) w R) : OpV F n P o a.eval w R := by
  have e : execOp a.eval o = execOp (evL L) o := by
    refine execOp_congr o (fun cs b hc => by unfold plainOp at hp; rw [hc] at hp; cases hp) fun x hx => ?_
    cases x with
    | const v => rw [evL_const]; rfl
    | global g => rw [evL_global]; rfl
    | func f => rw [evL_func]; rfl
    | tmp t =>
      have hm : t ∈ looks ops i := by
        unfold looks; rw [ho]
        exact List.mem_append_left _ (List.mem_filterMap.2 ⟨.tmp t, by simpa using hx, rfl⟩)
      have := List.all_eq_true.1 hL t hm
      obtain ⟨v, h1, h2⟩ := evL_mem L t this
      rw [h2]
      exact hv _ h1
  unfold OpV at *
  rw [e]
  exact h
theorem region_rgB {id : Nat} {a0 : Act} {w0 : World} (hWF : WideF F) (hm : P.follows .mixedOrders = true) (N m : Nat) (hN : a0.tmps.size = N) (chk : rgOk ops N = true) (chkt : tailOk ops m = true)
    (V : Nat → Value → World → Prop) (hV : ∀ i v w w', V i v w → Below w.heap.size w w' → V i v w')
    (hstep : ∀ i o, i < m → ops[i]? = some o → ∀ (a : Act) (w : World), Below w0.heap.size w0 w → (∀ t j, rdy ops i t j = true → V j (slot a t) w) → (∀ t, old ops i t = true → slot a t = slot a0 t) → a.tmps.size = N →
      if Region.wanted o (yielded ops a.tmps) = true then OpV F n P o a.eval w (fun v w' => V i v w' ∧ Below w.heap.size w w') else V i undef w)
    (hend : ∀ (a : Act) (w : World), Below w0.heap.size w0 w → a.defers = a0.defers → a.tmps.size = N → (∀ i t, i < m → dstOf ops i = some t → V i (slot a t) w) → (∀ t, (∀ i, i < m → dstOf ops i ≠ some t) → slot a t = slot a0 t) →
      (∀ i o, i < m → ops[i]? = some o → o.dst = none → ∃ v, V i v w) → wpListIn F n P ops Q (ops.toList.drop m) a w) :
    (Code.region id ops true).wpIn F n P Q a0 w0 := by
  refine region_rg hWF hm N m hN chk chkt (Below w0.heap.size w0) (fun w w' => Below w.heap.size w w') V hV ((Below.refl _ _).drew) ?_ hend
  intro i o him ho a w hB h1 h2 hsz
  have lk : looks ops i = o.looksAt ops := by unfold looks; rw [ho]; rfl
  have := hstep i o him ho a w hB (fun t j h => by
    simp only [rdy, Bool.and_eq_true, beq_iff_eq] at h
    exact h1 t (by rw [← lk]; simpa using h.1.1) j h.1.2 h.2) (fun t h => by
    simp only [old, Bool.and_eq_true] at h
    refine h2 t (by rw [← lk]; simpa using h.1) fun j hj => ?_
    have hjs : j < ops.size := by
      unfold dstOf at hj
      cases hx : ops[j]? with
      | none => rw [hx] at hj; cases hj
      | some _ => exact (Array.getElem?_eq_some_iff.1 hx).1
    have := List.all_eq_true.1 h.2 j (List.mem_range.2 hjs)
    rw [hj] at this
    simpa using this) hsz
  split
  · rename_i hw
    rw [if_pos hw] at this
    exact this.mono fun v w' ⟨hv, hb⟩ => ⟨hv, hB.trans (hb.mono hB.size), hb⟩
  · rename_i hw
    rw [if_neg hw] at this
    exact ⟨this, hB, Below.refl _ _⟩
theorem puts_size : ∀ (ds : List Nat) (g : Nat → Value) (b : Act), (ds.foldl (fun b d => b.put (some d) (g d)) b).tmps.size = b.tmps.size
  | [], _, _ => rfl
  | d :: ds, g, b => by rw [List.foldl_cons, puts_size ds g]; simp [Act.put]
theorem puts_defers : ∀ (ds : List Nat) (g : Nat → Value) (b : Act), (ds.foldl (fun b d => b.put (some d) (g d)) b).defers = b.defers
  | [], _, _ => rfl
  | d :: ds, g, b => by rw [List.foldl_cons, puts_defers ds g]; rfl
theorem puts_slot (g : Nat → Value) : ∀ (ds : List Nat) (b : Act) (t : Nat), t < b.tmps.size → slot (ds.foldl (fun b d => b.put (some d) (g d)) b) t = if t ∈ ds then g t else slot b t
  | [], _, _, _ => by simp
  | d :: ds, b, t, ht => by
    have hs : (b.put (some d) (g d)).tmps.size = b.tmps.size := by simp [Act.put]
    rw [List.foldl_cons, puts_slot g ds _ t (by rw [hs]; exact ht)]
    by_cases h1 : t ∈ ds
    · simp [h1]
    · rw [if_neg h1]
      by_cases h2 : t = d
      · subst h2
        rw [slot_put_same ht]; simp
      · rw [slot_put_other (by intro h; injection h with h; exact h2 h.symm), if_neg (by simp [h1, h2])]
theorem act_ext {a b : Act} (hs : a.tmps.size = b.tmps.size) (hd : a.defers = b.defers) (h : ∀ t, t < b.tmps.size → slot a t = slot b t) : a = b := by
  obtain ⟨ts, ds⟩ := a
  obtain ⟨us, es⟩ := b
  have hd : ds = es := hd
  subst hd
  congr 1
  refine Array.ext hs fun i h1 h2 => ?_
  simpa [slot, h1, h2] using h i h2
/-- The rule, its end told of the first frame with what the operations have put there. -/
theorem region_rgC {id : Nat} {a0 : Act} {w0 : World} (hWF : WideF F) (hm : P.follows .mixedOrders = true) (N m : Nat) (ds : List Nat) (hN : a0.tmps.size = N) (chk : rgOk ops N = true) (chkt : tailOk ops m = true)
    (chkd : ((List.range m).all fun i => match dstOf ops i with | none => true | some t => ds.contains t) = true)
    (V : Nat → Value → World → Prop) (hV : ∀ i v w w', V i v w → Below w.heap.size w w' → V i v w')
    (hstep : ∀ i o, i < m → ops[i]? = some o → ∀ (a : Act) (w : World), Below w0.heap.size w0 w → (∀ t j, rdy ops i t j = true → V j (slot a t) w) → (∀ t, old ops i t = true → slot a t = slot a0 t) → a.tmps.size = N →
      if Region.wanted o (yielded ops a.tmps) = true then OpV F n P o a.eval w (fun v w' => V i v w' ∧ Below w.heap.size w w') else V i undef w)
    (hend : ∀ (g : Nat → Value) (w : World), Below w0.heap.size w0 w → (∀ i t, i < m → dstOf ops i = some t → V i (g t) w) →
      (∀ i o, i < m → ops[i]? = some o → o.dst = none → ∃ v, V i v w) → wpListIn F n P ops Q (ops.toList.drop m) (ds.foldl (fun b d => b.put (some d) (g d)) a0) w) :
    (Code.region id ops true).wpIn F n P Q a0 w0 := by
  refine region_rgB hWF hm N m hN chk chkt V hV hstep fun a w hB hdf hsz hv hno hn => ?_
  have e : a = ds.foldl (fun b d => b.put (some d) (slot a d)) a0 := by
    refine act_ext (by rw [puts_size, hsz, hN]) (by rw [puts_defers, hdf]) fun t ht => ?_
    rw [puts_size] at ht
    rw [puts_slot _ _ _ _ ht]
    split
    · rfl
    · rename_i h
      refine hno t fun i hi hd => h ?_
      have := List.all_eq_true.1 chkd i (List.mem_range.2 hi)
      rw [hd] at this
      simpa using this
  have := hend (slot a) w hB hv hn
  rw [← e] at this
  exact this
/-- A frame, written out. -/
theorem act_eta {a : Act} {N : Nat} (h : a.tmps.size = N) : a = { tmps := ((List.range N).map (slot a)).toArray, defers := a.defers } := by
  obtain ⟨ts, ds⟩ := a
  congr 1
  refine Array.ext (by simp; exact h) fun i h1 h2 => ?_
  simp [slot, h1]
end Go.Proofs.Ytapbfhmmgkjdnaa
