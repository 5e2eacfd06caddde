/-
  More on slices that the call itself has built: an append that must make a new block; parts of slices; an append inside a region that draws its order.
-/
import Derived.Test.YtapbfhmmgkjdnaaGrow
import Derived.Test.YtapbfhmmgkjdnaaRGB
namespace Go.Proofs.Ytapbfhmmgkjdnaa
open Go.RowKit
theorem opV_append {F : Fence} {n : Nat} {P : Program} {o : Oper} {ev : Operand → Value} {w : World} {R : Value → World → Prop} (s x : Operand) (t : TypeId)
    (ho : o.op = .call { callee := .builtin .append, args := #[s, x], argTypes := #[t, t] }) {v xv v' : Value} {w' : World} (hs : ev s = v) (hx : ev x = xv)
    (hr : (Builtin.append_ #[t, t] o.type #[v, xv]).run P w = .ok v' w') (h : R v' w') : OpV F n P o ev w R := by
  unfold OpV
  simp [execOp, ho, resolve, invoke, builtin, hs, hx, hr, Result.andThen]
  exact h
variable {α : Type} {L : Lay α} {e : TypeId} {base B : Nat} {w : World} {v : Value} {l : List α}
/-- An append for which there is no room: what was there stays, all of it. -/
theorem run_grow_new {P : Program} {t ty : TypeId} {bytes B' g c : Nat} {x : Value} {ys : List α} (E : ElemInfo P t e L.k bytes) (hone : ∀ B w vs y, L.rd B w vs y → ∀ u ∈ vs, u.oneCell' = true)
    (hv : v = .slice (some ⟨g, 0, none⟩) l.length c) (hc : c < l.length + ys.length)
    (hg : Grows L e base B w v l) (hx : SliceOf L B' w x ys) (hrd : ∀ vs y, L.rd B' w vs y → L.rd B w vs y) (hB : B ≤ base) (hbase : base ≤ w.heap.size)
    (hlen : (l.length + ys.length) * bytes ≤ 140737488355328) (hmax : l.length + ys.length ≤ maxLen) (hp : 0 < ys.length) :
    ∃ v' w', (Builtin.append_ #[t, t] ty #[v, x]).run P w = .ok v' w' ∧ Grows L e base B w' v' (l ++ ys) ∧ Below w.heap.size w w' ∧ v'.ownBlock = some w.heap.size := by
  obtain ⟨i, z, h1, h2, h3, h4, h5, h6, h7⟩ := E
  obtain ⟨ad, cx, news, rfl, n1, n2, n3, n4⟩ := hx.cells (fun vs y => hone _ _ vs y) h7 hp
  obtain ⟨v', w', r1, r2, r3, r4⟩ := run_grow (P := P) (ty := ty) ⟨i, z, h1, h2, h3, h4, h5, h6, h7⟩ hone hg hx hrd hB hbase hlen hmax
  subst hv
  have hmax' : l.length + ys.length ≤ 9223372036854775807 := by unfold maxLen at hmax; omega
  obtain ⟨xs, g1, g2⟩ := hg
  have holds : ∀ j u, xs[j]? = some u → w.cell? ((⟨g, 0, none⟩ : Addr).add j) = some u := g1.cells (g := g) rfl
  have hr := run_append_grow (P := P) w t ty e i z h1 h2 h3 ⟨g, 0, none⟩ l.length c xs (by rw [h4]; exact g1.1) holds ad ys.length cx news (by rw [h4]; exact n1) n2 hc (by omega) (growslice_fits (by omega) (by rw [h5]; exact hlen))
  rw [hr] at r1
  injection r1 with e1 e2
  subst e1 e2
  exact ⟨_, _, hr, r2, (Below.refl _ _).drew.alloc (Nat.le_refl _) _, rfl⟩
theorem SliceOf.dropped {a : Option Addr} {b off len cap k : Nat} (h : SliceOf L B w (.slice a len cap) l) (ha : a = some ⟨b, off, none⟩) (hk : k ≤ l.length) : SliceOf L B w (.slice (some ⟨b, off + k * L.k, none⟩) (l.length - k) (cap - k)) (l.drop k) := by
  obtain ⟨a', cap', e', h1, h2, h3⟩ := h
  injection e' with e1 e2 e3
  subst e1 e2 e3
  refine ⟨_, _, by rw [List.length_drop], by rw [List.length_drop]; omega, by omega, fun hp => ?_⟩
  obtain ⟨b', off', e4, hb, h4⟩ := h3 (by rw [List.length_drop] at hp; omega)
  rw [ha] at e4
  injection e4 with e4
  injection e4 with e5 e6
  subst e5 e6
  refine ⟨b, off + k * L.k, rfl, hb, fun i hi => ?_⟩
  rw [List.length_drop] at hi
  obtain ⟨vs, h5, h6⟩ := h4 (k + i) (by omega)
  refine ⟨vs, by rw [List.getElem_drop]; exact h5, fun j hj => ?_⟩
  rw [← h6 j hj]
  congr 2
  rw [Nat.add_mul]; omega
theorem SliceOf.taken {a : Option Addr} {len cap k : Nat} (h : SliceOf L B w (.slice a len cap) l) (hk : k ≤ l.length) : SliceOf L B w (.slice a k cap) (l.take k) := by
  obtain ⟨a', cap', e', h1, h2, h3⟩ := h
  injection e' with e1 e2 e3
  subst e1 e2 e3
  have hl : (l.take k).length = k := by rw [List.length_take]; omega
  refine ⟨_, _, by rw [hl], by rw [hl]; omega, h2, fun hp => ?_⟩
  obtain ⟨b', off', e4, hb, h4⟩ := h3 (by rw [hl] at hp; omega)
  refine ⟨b', off', e4, hb, fun i hi => ?_⟩
  rw [hl] at hi
  rw [List.getElem_take]
  exact h4 i (by omega)
end Go.Proofs.Ytapbfhmmgkjdnaa
