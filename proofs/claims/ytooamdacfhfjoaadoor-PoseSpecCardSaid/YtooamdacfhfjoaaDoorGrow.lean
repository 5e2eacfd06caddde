/-
  A slice that the call itself has built, by 'append': its elements read by a reader of laid values; what an append makes of it, as one run, and as a law for both walks.
-/
import Derived.Maps.AppendAt
import Derived.OwnWalkIn
import Derived.OwnWalk
import Derived.Test.YtooamdacfhfjoaaDoorLay
namespace Go.Proofs.YtooamdacfhfjoaaDoor
open Go.RowKit
/-- The slice value v, of the elements l, in a block of the call's own (from 'base' on). -/
def Grows {α : Type} (L : Lay α) (e : TypeId) (base B : Nat) (w : World) (v : Value) (l : List α) : Prop :=
  ∃ xs, w.ownsRow base e L.k v l.length xs ∧ ∀ i (h : i < l.length), ∃ vs, L.rd B w vs l[i] ∧ ∀ j, j < L.k → xs[i * L.k + j]? = vs[j]?
/-- A slice type's facts. -/
def ElemInfo (P : Program) (t e : TypeId) (k bytes : Nat) : Prop :=
  ∃ i z, P.underlying t = some (.slice e) ∧ P.info? e = some i ∧ i.zero = some z ∧ i.size = k ∧ i.bytes = bytes ∧ z.cells.size = k ∧ 0 < k
theorem elemInfo {P : Program} {t e : TypeId} {k bytes : Nat} {z : Value} (h : P.underlying t = some (.slice e)) (hi : (P.info? e).map (fun i => (i.zero, i.size, i.bytes)) = some (some z, k, bytes)) (hz : z.cells.size = k) (hk : 0 < k) : ElemInfo P t e k bytes :=
  let ⟨i, h1, h2, h3, h4⟩ := info_parts hi
  ⟨i, z, h, h1, h2, h3, h4, hz, hk⟩
variable {α : Type} {L : Lay α} {e : TypeId} {base B : Nat} {w : World} {v : Value} {l : List α}
theorem Grows.nil (L : Lay α) (e : TypeId) (base B : Nat) (w : World) : Grows L e base B w (.slice none 0 0) [] :=
  ⟨[], World.ownsRow_nil w base e L.k, fun i h => by simp at h⟩
theorem Grows.made (L : Lay α) (e : TypeId) (base B : Nat) (w : World) (cur : Array Value) (cap : Nat) (hb : base ≤ w.heap.size) (hm : cap ≤ maxLen) (hs : cur.size = cap * L.k) :
    Grows L e base B (w.alloc (.cells cur e)) (.slice (some ⟨w.heap.size, 0, none⟩) 0 cap) [] :=
  ⟨[], World.ownsRow_made w cur cap hb hm hs, fun i h => by simp at h⟩
theorem Grows.kept {w' : World} (h : Grows L e base B w v l) (hb : Below w.heap.size w w') (hB : B ≤ w.heap.size) : Grows L e base B w' v l := by
  obtain ⟨xs, h1, h2⟩ := h
  refine ⟨xs, h1.kept (row := none) ⟨hb.os, hb.tape, hb.output, hb.size, fun k hk _ => hb.block k hk⟩ (by cases v.ownBlock <;> simp), fun i hi => ?_⟩
  obtain ⟨vs, h3, h4⟩ := h2 i hi
  exact ⟨vs, L.stab (Keeps.of_below hb hB) h3, h4⟩
theorem Grows.other {w' : World} {row : Option Nat} (h : Grows L e base B w v l) (hg : w.grownBy w' row) (hB : B ≤ w.heap.size) (hr : ∀ k, row = some k → B ≤ k) (hne : v.ownBlock = none ∨ v.ownBlock ≠ row) : Grows L e base B w' v l := by
  obtain ⟨xs, h1, h2⟩ := h
  refine ⟨xs, h1.kept hg hne, fun i hi => ?_⟩
  obtain ⟨vs, h3, h4⟩ := h2 i hi
  exact ⟨vs, L.stab (Keeps.of_below ((Below.refl _ _).grown hg hB hr) (Nat.le_refl _)) h3, h4⟩
theorem Grows.alloc (h : Grows L e base B w v l) (hB : B ≤ w.heap.size) (o : Obj) : Grows L e base B (w.alloc o) v l :=
  h.kept ((Below.refl _ _).alloc (Nat.le_refl _) _) hB
theorem Grows.drew (h : Grows L e base B w v l) (hB : B ≤ w.heap.size) : Grows L e base B w.drew v l :=
  h.kept (Below.refl _ _).drew hB
theorem Grows.lt (h : Grows L e base B w v l) : ∀ k, v.ownBlock = some k → base ≤ k ∧ k < w.heap.size := let ⟨_, h1, _⟩ := h; h1.lt
theorem addr_add (b off j : Nat) : (⟨b, off, none⟩ : Addr).add j = ⟨b, off + j, none⟩ := by unfold Addr.add; split <;> simp_all
theorem Grows.slice (h : Grows L e base B w v l) {B' : Nat} (hB : B ≤ B') (hw : w.heap.size ≤ B') : SliceOf L B' w v l := by
  obtain ⟨xs, h1, h2⟩ := h
  have hlt := h1.lt
  have hcs := fun g hg => h1.cells (g := g) hg
  obtain ⟨hl, h3⟩ := h1
  rcases h3 with ⟨rfl, hn⟩ | ⟨g, cap, cur, rfl, hb, hg, hc, hm, hs, ht⟩
  · obtain rfl : l = [] := List.eq_nil_of_length_eq_zero hn
    exact SliceOf.nil _ _ _
  · refine ⟨_, cap, rfl, hc, hm, fun _ => ⟨g, 0, rfl, Nat.lt_of_lt_of_le (hlt g rfl).2 hw, fun i hi => ?_⟩⟩
    obtain ⟨vs, h4, h5⟩ := h2 i hi
    refine ⟨vs, L.mono hB h4, fun j hj => ?_⟩
    have hlv : j < vs.length := by rw [L.len h4]; exact hj
    rw [← h5 j hj]
    have h6 := h5 j hj
    rw [List.getElem?_eq_getElem hlv] at h6
    have := hcs g rfl _ _ h6
    rw [addr_add, Nat.zero_add] at this
    rw [Nat.zero_add, this, h6]
/-- One element, laid in a block of its own. -/
theorem slice_one {vs : List Value} {x : α} (hr : L.rd B w vs x) (e : TypeId) (o : Obj) (ho : o = .cells vs.toArray e) (hB : B ≤ w.heap.size) : SliceOf L (w.heap.size + 1) (w.alloc o) (.slice (some ⟨w.heap.size, 0, none⟩) 1 1) [x] := by
  subst ho
  refine ⟨_, 1, rfl, Nat.le_refl _, by unfold maxLen; decide, fun _ => ⟨w.heap.size, 0, rfl, Nat.lt_succ_self _, fun i hi => ?_⟩⟩
  obtain rfl : i = 0 := by simp at hi; exact hi
  refine ⟨vs, L.mono (Nat.le_succ_of_le hB) (L.stab (Keeps.alloc _ _ _) hr), fun j hj => ?_⟩
  have hlv : j < vs.length := by rw [L.len hr]; exact hj
  rw [cell_of_row (w.alloc (.cells vs.toArray e)) w.heap.size _ vs.toArray e (0, 0) (heap_alloc_new w _)]
  simp
/-- The cells of a slice, as one list. -/
theorem SliceOf.cells {B' : Nat} {x : Value} {ys : List α} (hone : ∀ vs y, L.rd B' w vs y → ∀ u ∈ vs, u.oneCell' = true) (hk : 0 < L.k) (hx : SliceOf L B' w x ys) (hp : 0 < ys.length) :
    ∃ (ad : Addr) (c : Nat) (news : List Value), x = .slice (some ad) ys.length c ∧ news.length = ys.length * L.k ∧ (∀ j u, news[j]? = some u → w.cell? (ad.add j) = some u) ∧ (∀ u ∈ news, u.oneCell' = true) ∧
      ∀ i (h : i < ys.length), ∃ vs, L.rd B' w vs ys[i] ∧ ∀ j, j < L.k → news[i * L.k + j]? = vs[j]? := by
  obtain ⟨a, cap, rfl, hc, hm, h3⟩ := hx
  obtain ⟨b, off, rfl, hb, h4⟩ := h3 hp
  have key : ∀ t, t < ys.length * L.k → ∃ u, w.cell? ⟨b, off + t, none⟩ = some u ∧ u.oneCell' = true := fun t ht => by
    have hi : t / L.k < ys.length := Nat.div_lt_of_lt_mul (by rw [Nat.mul_comm]; exact ht)
    have hj := Nat.mod_lt t hk
    obtain ⟨vs, h5, h6⟩ := h4 _ hi
    have hlv : t % L.k < vs.length := by rw [L.len h5]; exact hj
    have h7 := h6 _ hj
    rw [List.getElem?_eq_getElem hlv] at h7
    have e1 : off + t / L.k * L.k + t % L.k = off + t := by have := Nat.div_add_mod t L.k; rw [Nat.mul_comm] at this; omega
    rw [e1] at h7
    exact ⟨_, h7, hone _ _ h5 _ (List.getElem_mem _)⟩
  have at_ : ∀ j, j < ys.length * L.k → ((List.range (ys.length * L.k)).map fun t => (w.cell? ⟨b, off + t, none⟩).getD undef)[j]? = w.cell? ⟨b, off + j, none⟩ := fun j hj => by
    obtain ⟨u, h5, _⟩ := key j hj
    rw [List.getElem?_map, List.getElem?_range hj, Option.map_some, h5]
    rfl
  refine ⟨_, cap, (List.range (ys.length * L.k)).map fun t => (w.cell? ⟨b, off + t, none⟩).getD undef, rfl, by simp, fun j u hu => ?_, fun u hu => ?_, fun i hi => ?_⟩
  · have hj : j < ys.length * L.k := by have := (List.getElem?_eq_some_iff.1 hu).1; simpa using this
    rw [at_ j hj] at hu
    rw [addr_add]; exact hu
  · obtain ⟨t, ht, rfl⟩ := List.mem_map.1 hu
    obtain ⟨u, h5, h6⟩ := key t (List.mem_range.1 ht)
    rw [h5]; exact h6
  · obtain ⟨vs, h5, h6⟩ := h4 i hi
    refine ⟨vs, h5, fun j hj => ?_⟩
    have : i * L.k + j < ys.length * L.k := by
      have := Nat.mul_le_mul_right L.k (show i + 1 ≤ ys.length from hi)
      rw [Nat.add_mul] at this; omega
    rw [at_ _ this, ← h6 j hj, Nat.add_assoc]
theorem run_none {P : Program} (base : Nat) (t ty e : TypeId) (i : TypeInfo) (size : Nat) (ht : P.underlying t = some (.slice e)) (hi : P.info? e = some i)
    (v : Value) (n : Nat) (xs : List Value) (c : Nat) (hown : w.ownsRow base e size v n xs) :
    (Builtin.append_ #[t, t] ty #[v, .slice none 0 c]).run P w = .ok v w := by
  rcases hown.2 with ⟨rfl, rfl⟩ | ⟨g, cap, cur, rfl, _, _, hnc, _⟩
  · simp [Builtin.append_, run_underlying ht, sizeOf, typeInfo, hi, Builtin.lenOf, Builtin.firstCells]
  · simp [Builtin.append_, run_underlying ht, sizeOf, typeInfo, hi, Builtin.lenOf, Builtin.firstCells, hnc, storeCells]
theorem run_grow {P : Program} {t ty : TypeId} {bytes B' : Nat} {x : Value} {ys : List α} (E : ElemInfo P t e L.k bytes) (hone : ∀ B w vs y, L.rd B w vs y → ∀ u ∈ vs, u.oneCell' = true)
    (hg : Grows L e base B w v l) (hx : SliceOf L B' w x ys) (hrd : ∀ vs y, L.rd B' w vs y → L.rd B w vs y) (hB : B ≤ base) (hbase : base ≤ w.heap.size)
    (hlen : (l.length + ys.length) * bytes ≤ 140737488355328) (hmax : l.length + ys.length ≤ maxLen) :
    ∃ v' w', (Builtin.append_ #[t, t] ty #[v, x]).run P w = .ok v' w' ∧ Grows L e base B w' v' (l ++ ys) ∧ w.grownBy w' v.ownBlock ∧ (v'.ownBlock = v.ownBlock ∨ v'.ownBlock = some w.heap.size) := by
  obtain ⟨i, z, h1, h2, h3, h4, h5, h6, h7⟩ := E
  have hlt := hg.lt
  obtain ⟨xs, g1, g2⟩ := hg
  have fin : ∀ {v' : Value} {w' : World} {m : Nat} {news : List Value}, m = ys.length → w'.ownsRow base e L.k v' (l.length + m) (xs ++ news) → w.grownBy w' v.ownBlock → (∀ i (h : i < ys.length), ∃ vs, L.rd B' w vs ys[i] ∧ ∀ j, j < L.k → news[i * L.k + j]? = vs[j]?) → Grows L e base B w' v' (l ++ ys) := by
    intro v' w' m news hm k1 k2 k3
    subst hm
    have hst : ∀ vs y, L.rd B w vs y → L.rd B w' vs y := fun vs y h => L.stab (Keeps.of_below ((Below.refl _ _).grown k2 (Nat.le_trans hB hbase) (fun k hk => Nat.le_trans hB (hlt k hk).1)) (Nat.le_refl _)) h
    refine ⟨xs ++ news, by rw [List.length_append]; exact k1, fun i hi => ?_⟩
    have hxl := g1.1
    by_cases hil : i < l.length
    · obtain ⟨vs, m1, m2⟩ := g2 i hil
      refine ⟨vs, by rw [List.getElem_append_left hil]; exact hst _ _ m1, fun j hj => ?_⟩
      have : i * L.k + j < xs.length := by
        have := Nat.mul_le_mul_right L.k (show i + 1 ≤ l.length from hil)
        rw [Nat.add_mul] at this; omega
      rw [List.getElem?_append_left this]
      exact m2 j hj
    · have hi2 : i - l.length < ys.length := by rw [List.length_append] at hi; omega
      obtain ⟨vs, m1, m2⟩ := k3 _ hi2
      refine ⟨vs, by rw [List.getElem_append_right (by omega)]; exact hst _ _ (hrd _ _ m1), fun j hj => ?_⟩
      have e1 : i * L.k = l.length * L.k + (i - l.length) * L.k := by rw [← Nat.add_mul]; congr 1; omega
      rw [List.getElem?_append_right (by omega), ← m2 j hj]
      congr 1; omega
  by_cases hp : 0 < ys.length
  · obtain ⟨ad, c, news, rfl, n1, n2, n3, n4⟩ := hx.cells (fun vs y => hone _ _ vs y) h7 hp
    obtain ⟨v', w', r1, r2, r3, _, r5⟩ := run_append_own_at (P := P) w base t ty e i z L.k bytes h1 h2 h3 h4 h5 h6 h7 v l.length xs g1 ad ys.length c news n1 n2 n3 hmax hlen hbase
    exact ⟨v', w', r1, fin rfl r2 r3 n4, r3, r5⟩
  · obtain rfl : ys = [] := List.eq_nil_of_length_eq_zero (by omega)
    obtain ⟨ao, c, rfl, _, _, _⟩ := hx
    rcases ao with _ | ad
    · refine ⟨v, w, run_none base t ty e i L.k h1 h2 v l.length xs c g1, ?_, ⟨rfl, rfl, rfl, Nat.le_refl _, fun _ _ _ => rfl⟩, .inl rfl⟩
      rw [List.append_nil]
      exact ⟨xs, g1, g2⟩
    · obtain ⟨v', w', r1, r2, r3, _, r5⟩ := run_append_own_at (P := P) w base t ty e i z L.k bytes h1 h2 h3 h4 h5 h6 h7 v l.length xs g1 ad 0 c [] (by simp) (fun j u hu => by simp at hu) (fun u hu => by simp at hu) hmax hlen hbase
      exact ⟨v', w', r1, fin rfl r2 r3 (fun i hi => by simp at hi), r3, r5⟩
theorem wpList_grow {P : Program} {ops : Array Oper} {rest : List Oper} {o : Oper} {a : Act} {Q : Exit → Act → World → Prop} (hgd : o.guard = none) (s x : Operand) (t : TypeId)
    (ho : o.op = .call { callee := .builtin .append, args := #[s, x], argTypes := #[t, t] }) {xv : Value} {bytes B' : Nat} {ys : List α} (hs : a.eval s = v) (hxv : a.eval x = xv)
    (E : ElemInfo P t e L.k bytes) (hone : ∀ B w vs y, L.rd B w vs y → ∀ u ∈ vs, u.oneCell' = true)
    (hg : Grows L e base B w v l) (hx : SliceOf L B' w xv ys) (hrd : ∀ vs y, L.rd B' w vs y → L.rd B w vs y) (hB : B ≤ base) (hbase : base ≤ w.heap.size)
    (hlen : (l.length + ys.length) * bytes ≤ 140737488355328) (hmax : l.length + ys.length ≤ maxLen)
    (h : ∀ v' w', Grows L e base B w' v' (l ++ ys) → w.grownBy w' v.ownBlock → (v'.ownBlock = v.ownBlock ∨ v'.ownBlock = some w.heap.size) → wpList P ops Q rest (a.put o.dst v') w') : wpList P ops Q (o :: rest) a w := by
  refine wpList_plain hgd fun K hK => ?_
  obtain ⟨v', w', hr, h2, h3, h4⟩ := run_grow (P := P) (ty := o.type) E hone hg hx hrd hB hbase hlen hmax
  unfold Oper.wp execOp
  simp only [ho, resolve, invoke, builtin, Sem.run_bind, Sem.run_pure, Result.andThen_ok, List.map_toArray, List.map_cons, List.map_nil, hs, hxv, hr]
  exact hK _ _ (h v' w' h2 h3 h4)
theorem wpListIn_grow {F : Fence} {n : Nat} {P : Program} {ops : Array Oper} {rest : List Oper} {o : Oper} {a : Act} {Q : Exit → Act → World → Prop} (hgd : o.guard = none) (s x : Operand) (t : TypeId)
    (ho : o.op = .call { callee := .builtin .append, args := #[s, x], argTypes := #[t, t] }) {xv : Value} {bytes B' : Nat} {ys : List α} (hs : a.eval s = v) (hxv : a.eval x = xv)
    (E : ElemInfo P t e L.k bytes) (hone : ∀ B w vs y, L.rd B w vs y → ∀ u ∈ vs, u.oneCell' = true)
    (hg : Grows L e base B w v l) (hx : SliceOf L B' w xv ys) (hrd : ∀ vs y, L.rd B' w vs y → L.rd B w vs y) (hB : B ≤ base) (hbase : base ≤ w.heap.size)
    (hlen : (l.length + ys.length) * bytes ≤ 140737488355328) (hmax : l.length + ys.length ≤ maxLen)
    (h : ∀ v' w', Grows L e base B w' v' (l ++ ys) → w.grownBy w' v.ownBlock → (v'.ownBlock = v.ownBlock ∨ v'.ownBlock = some w.heap.size) → wpListIn F n P ops Q rest (a.put o.dst v') w') : wpListIn F n P ops Q (o :: rest) a w := by
  refine wpListIn_plain hgd fun K hK => ?_
  obtain ⟨v', w', hr, h2, h3, h4⟩ := run_grow (P := P) (ty := o.type) E hone hg hx hrd hB hbase hlen hmax
  unfold Oper.wpIn
  refine ⟨by simp [Oper.about, ho, resolve, Target.leads, Sem.run_pure], ?_⟩
  rw [Oper.semAt_plain F _ _ (by rw [ho]; intro c hc'; cases hc')]
  simp [execOp, ho, resolve, invoke, builtin, hs, hxv, hr, Result.andThen]
  exact hK _ _ (h v' w' h2 h3 h4)
theorem one_int : ∀ (B : Nat) (w : World) (vs : List Value) (y : Int), lInt.rd B w vs y → ∀ u ∈ vs, u.oneCell' = true := fun B w vs y h u hu => by
  have h : vs = [.int .i64 y] ∧ _ := h
  rw [h.1] at hu; simp at hu; subst hu; rfl
theorem one_bool : ∀ (B : Nat) (w : World) (vs : List Value) (y : Bool), lBool.rd B w vs y → ∀ u ∈ vs, u.oneCell' = true := fun B w vs y h u hu => by
  have h : vs = [.bool y] := h
  rw [h] at hu; simp at hu; subst hu; rfl
theorem one_u8 : ∀ (B : Nat) (w : World) (vs : List Value) (y : Int), lU8.rd B w vs y → ∀ u ∈ vs, u.oneCell' = true := fun B w vs y h u hu => by
  have h : vs = [.int .u8 y] ∧ _ := h
  rw [h.1] at hu; simp at hu; subst hu; rfl
theorem one_slice {α : Type} (L : Lay α) : ∀ (B : Nat) (w : World) (vs : List Value) (y : List α), (lSlice L).rd B w vs y → ∀ u ∈ vs, u.oneCell' = true := fun B w vs y h u hu => by
  obtain ⟨v, rfl, a, cap, rfl, _⟩ := h
  simp at hu; subst hu; rfl
end Go.Proofs.YtooamdacfhfjoaaDoor
