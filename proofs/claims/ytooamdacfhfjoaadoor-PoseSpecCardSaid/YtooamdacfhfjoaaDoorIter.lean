/-
  A range over a function: a contract for iterators ('Iter') and one law for the statement, within an outermost frame and within a round.
  The iterator is told of the rounds what they keep ('Kp', its own choice); the caller's invariant I speaks of data (cells, maps) and of blocks below the loop's start.
-/
import Derived.RangeFuncNested
import Derived.RangeFuncCalls
import Derived.RangeFuncLeaves
import Derived.Test.YtooamdacfhfjoaaDoorLay
namespace Go.Proofs.YtooamdacfhfjoaaDoor
open Go.RowKit
/-- Data stay as they are, and whatever lies below B; new blocks may come; other blocks may turn. -/
structure CalmFrom (B : Nat) (W W' : World) : Prop where
  os : W'.os = W.os
  tape : W'.tape = W.tape
  output : W'.output = W.output
  size : W.heap.size ≤ W'.heap.size
  low : ∀ (k : Nat), k < B → k < W.heap.size → W'.heap[k]? = W.heap[k]?
  data : ∀ (k : Nat) (o : Obj), W.heap[k]? = some o → isData o = true → W'.heap[k]? = some o
theorem CalmFrom.refl (B : Nat) (W : World) : CalmFrom B W W := ⟨rfl, rfl, rfl, Nat.le_refl _, fun _ _ _ => rfl, fun _ _ h _ => h⟩
theorem CalmFrom.trans {B : Nat} {X Y Z : World} (h : CalmFrom B X Y) (k : CalmFrom B Y Z) : CalmFrom B X Z :=
  ⟨k.os.trans h.os, k.tape.trans h.tape, k.output.trans h.output, Nat.le_trans h.size k.size, fun i hi hs => (k.low i hi (Nat.lt_of_lt_of_le hs h.size)).trans (h.low i hi hs), fun i o hi ho => k.data i o (h.data i o hi ho) ho⟩
theorem CalmFrom.mono {B B' : Nat} {W W' : World} (h : CalmFrom B W W') (hB : B' ≤ B) : CalmFrom B' W W' := ⟨h.os, h.tape, h.output, h.size, fun k hk => h.low k (Nat.lt_of_lt_of_le hk hB), h.data⟩
theorem CalmFrom.alloc (B : Nat) (W : World) (o : Obj) : CalmFrom B W (W.alloc o) :=
  ⟨rfl, rfl, rfl, by simp, fun k _ hs => Below.heap_alloc W o k hs, fun k _ hk _ => (Below.heap_alloc W o k (Array.getElem?_eq_some_iff.1 hk).1).trans hk⟩
theorem CalmFrom.putObj {B : Nat} {W : World} {l : Nat} {o : Obj} (o' : Obj) (hB : B ≤ l) (hl : W.heap[l]? = some o) (ho : isData o = false) : CalmFrom B W (W.putObj l o') :=
  ⟨rfl, rfl, rfl, by simp, fun k hk _ => World.putObj_heap_other (by omega), fun k _ hk hd => by
    by_cases e : k = l
    · subst e; rw [hl] at hk; cases hk; rw [ho] at hd; cases hd
    · exact (World.putObj_heap_other e).trans hk⟩
/-- All that was there stays: nothing but new blocks and draws. -/
theorem CalmFrom.of_below {B : Nat} {W W' : World} (h : Below W.heap.size W W') : CalmFrom B W W' :=
  ⟨h.os, h.tape, h.output, h.size, fun k _ hs => h.block k hs, fun k _ hk _ => (h.block k (Array.getElem?_eq_some_iff.1 hk).1).trans hk⟩
theorem CalmFrom.drew (B : Nat) (W : World) : CalmFrom B W W.drew := ⟨rfl, rfl, rfl, Nat.le_refl _, fun _ _ _ => rfl, fun _ _ h _ => h⟩
/-- A statement on the world that such steps leave true. -/
def Calm (B : Nat) (I : World → Prop) : Prop := ∀ W W', I W → CalmFrom B W W' → I W'
theorem Calm.and {B : Nat} {I J : World → Prop} (h : Calm B I) (k : Calm B J) : Calm B fun W => I W ∧ J W := fun W W' hs hc => ⟨h W W' hs.1 hc, k W W' hs.2 hc⟩
theorem Calm.pure (B : Nat) (p : Prop) : Calm B fun _ => p := fun _ _ h _ => h
theorem Calm.ex {α : Type} {B : Nat} {I : α → World → Prop} (h : ∀ x, Calm B (I x)) : Calm B fun W => ∃ x, I x W := fun W W' ⟨x, hx⟩ hc => ⟨x, h x W W' hx hc⟩
theorem Calm.block {B : Nat} (b : Nat) (o : Obj) (hd : isData o = true) : Calm B fun W => W.heap[b]? = some o := fun _ _ h hc => hc.data b o h hd
theorem Calm.cell {B : Nat} (a : Addr) (v : Value) : Calm B fun W => W.cell? a = some v := fun W W' h hc => by
  have h1 : W.cell? a = some v := h
  obtain ⟨o, ho, hc1⟩ := cells_of_cell h1
  have h2 := hc.data _ _ ho (by cases o <;> first | rfl | (cases hc1))
  show W'.cell? a = some v
  rw [← h1]
  exact World.cell?_of_block (h2.trans ho.symm)
theorem Calm.below {B n₀ : Nat} {w : World} (hn : n₀ ≤ w.heap.size) (hB : n₀ ≤ B) : Calm B fun W => Below n₀ w W := fun W W' h hc =>
  h.trans ⟨hc.os, hc.tape, hc.output, hc.size, fun k hk => hc.low k (by omega) (by have := h.size; omega)⟩
theorem CalmFrom.keeps {B n : Nat} {W W' : World} (h : CalmFrom B W W') : Keeps n W W' := fun k o _ hk ho => h.data k o hk ho
theorem Calm.slice {α : Type} (L : Lay α) {B : Nat} (n : Nat) (v : Value) (l : List α) : Calm B fun W => SliceOf L n W v l := fun _ _ h hc => h.stab hc.keeps
/-- What a round's body keeps: whatever is no data and lies at or beyond B. -/
structure KeepRec (B : Nat) (W W' : World) : Prop where
  size : W.heap.size ≤ W'.heap.size
  same : ∀ (k : Nat) (o : Obj), B ≤ k → W.heap[k]? = some o → isData o = false → W'.heap[k]? = some o
theorem KeepRec.refl (B : Nat) (W : World) : KeepRec B W W := ⟨Nat.le_refl _, fun _ _ _ h _ => h⟩
theorem KeepRec.trans {B : Nat} {X Y Z : World} (h : KeepRec B X Y) (k : KeepRec B Y Z) : KeepRec B X Z := ⟨Nat.le_trans h.size k.size, fun i o hB hi ho => k.same i o hB (h.same i o hB hi ho) ho⟩
theorem KeepRec.mono {B B' : Nat} {W W' : World} (h : KeepRec B W W') (hB : B ≤ B') : KeepRec B' W W' := ⟨h.size, fun k o hk => h.same k o (Nat.le_trans hB hk)⟩
theorem KeepRec.of_below {B : Nat} {W W' : World} (h : Below W.heap.size W W') : KeepRec B W W' := ⟨h.size, fun k _ _ hk _ => (h.block k (Array.getElem?_eq_some_iff.1 hk).1).trans hk⟩
theorem KeepRec.alloc (B : Nat) (W : World) (o : Obj) : KeepRec B W (W.alloc o) := ⟨by simp, fun k _ _ hk _ => (Below.heap_alloc W o k (Array.getElem?_eq_some_iff.1 hk).1).trans hk⟩
theorem KeepRec.drew (B : Nat) (W : World) : KeepRec B W W.drew := ⟨Nat.le_refl _, fun _ _ _ h _ => h⟩
theorem KeepRec.setCell (B : Nat) (W : World) (a : Addr) (v : Value) : KeepRec B W (W.setCell a v) :=
  ⟨by simp [World.setCell], fun k o _ hk ho => by
    by_cases e : k = a.block
    · subst e
      obtain ⟨hlt, hk'⟩ := Array.getElem?_eq_some_iff.1 hk
      show (W.heap.modify a.block _)[a.block]? = some o
      rw [Array.getElem?_eq_getElem (by rw [Array.size_modify]; exact hlt), Array.getElem_modify_self, hk']
      cases o <;> first | rfl | (cases ho)
    · exact (Below.heap_setCell W a v k e).trans hk⟩
theorem KeepRec.grown {B : Nat} {W W' : World} {row : Option Nat} (hg : W.grownBy W' row) (hrow : ∀ j, row = some j → j < B ∨ ∃ o, W.heap[j]? = some o ∧ isData o = true) : KeepRec B W W' :=
  ⟨hg.size, fun k o hB hk ho => (hg.block k (Array.getElem?_eq_some_iff.1 hk).1 (fun e => by
    rcases hrow k e.symm with h | ⟨o', h1, h2⟩
    · omega
    · rw [hk] at h1; cases h1; rw [ho] at h2; cases h2)).trans hk⟩
/-- A fence that bars nothing. -/
def WideF (F : Fence) : Prop := F.depth = none ∧ ∀ f, F.fn f
theorem wideF_wide : WideF Fence.wide := ⟨rfl, fun _ => trivial⟩
theorem WideF.inRound {F : Fence} (h : WideF F) (l : Nat) : WideF (F.inRound l) := h
/-- The iterator 'gf', a closure that has captured lb, yields the values encs of xs, one after the other, as long as it is told to go on. -/
def Iter {α : Type} (P : Program) (gf : Nat) (lb : Array Value) (encs : α → Array Value) (xs : List α) (Kp : World → World → Prop) (w0 : World) : Prop :=
  ∀ (F : Fence) (n l : Nat) (J : Nat → World → Prop) (Jx : World → Prop) (W : World), WideF F → F.round = none → Below w0.heap.size w0 W → (∀ k, Calm W.heap.size (J k)) → Calm W.heap.size Jx →
    (∀ k (hk : k < xs.length) W1, J k W1 → YieldAt F (n - 1) P l (encs xs[k]) W1 fun e W' => (e = .returned (.bool true) ∧ J (k + 1) W' ∧ Kp W1 W') ∨ (e = .returned (.bool false) ∧ Jx W')) →
    J 0 W → CallsIn F n P gf (#[.func (.yield l) #[] #[]] ++ lb) W fun e W' => (∃ v, e = .returned v) ∧ (J xs.length W' ∨ Jx W')
/-- How the body of a round may be left. -/
def roundLeft (B : Nat) (Kp : World → World → Prop) (I : World → Prop) (Ix : Code → World → Prop) (W : World) : Exit → Act → World → Prop
  | .normal, _, W' => KeepRec B W W' ∧ Kp W W' ∧ I W'
  | .ret, _, W' => KeepRec B W W' ∧ Ix .ret W'
  | .exit id, _, W' => KeepRec B W W' ∧ Ix (.exit id) W'
  | .goto t, _, W' => KeepRec B W W' ∧ Ix (.goto t) W'
  | .panic _, _, _ => False
  | .outgrown, _, _ => False
theorem Keeps.putObj (B : Nat) {X : World} {l : Nat} {o : Obj} (o' : Obj) (hl : X.heap[l]? = some o) (ho : isData o = false) : Keeps B X (X.putObj l o') := fun k o'' _ hk hd => by
  by_cases e : k = l
  · subst e; rw [hl] at hk; cases hk; rw [ho] at hd; cases hd
  · exact (World.putObj_heap_other e).trans hk
theorem KeepsOn.putObj (T : Nat → Prop) {X : World} {l : Nat} {o : Obj} (o' : Obj) (hl : X.heap[l]? = some o) (ho : isData o = false) : KeepsOn T X (X.putObj l o') := fun k o'' _ hk hd => by
  by_cases e : k = l
  · subst e; rw [hl] at hk; cases hk; rw [ho] at hd; cases hd
  · exact (World.putObj_heap_other e).trans hk
variable {F : Fence} {n : Nat} {P : Program}
/-- One round: the record l, ready, becomes busy, and ready or done again. -/
theorem round_law {l D : Nat} {fn : FuncId} {ts : Array Value} {ps : Array Tmp} {assign body : Code} (hF : F.fn fn) {B : Nat} (hBl : B ≤ l) (hBD : B ≤ D) (hlD : D ≠ l) {Kp : World → World → Prop} {I1 : World → Prop} {Ix : Code → World → Prop}
    (hI1 : Calm B I1) (hIx : ∀ c, Calm B (Ix c)) (hKt : ∀ X Y Z, Kp X Y → Kp Y Z → Kp X Z) (hKb : ∀ (X : World) (o o' : Obj), X.heap[l]? = some o → isData o = false → Kp X (X.putObj l o'))
    {rec : LoopState → Option Code → Loop} (hrec : rec = fun st pe => { state := st, pending := pe, fn := fn, tmps := ts, params := ps, assign := assign, body := body, defers := D }) {args : Array Value} (hargs : args.size = ps.size)
    (A1 : Act → World → Prop) (hA1 : ∀ a, Calm B (A1 a)) {W : World} (hW : W.heap[l]? = some (.loop (rec .ready none))) (hWD : ∃ o, W.heap[D]? = some o ∧ isData o = false)
    (hassign : assign.wpIn (F.inRound l) n P (Exit.then (fun a W1 => A1 a W1 ∧ KeepRec B W W1 ∧ Kp W W1) (fun _ _ _ => False)) { tmps := (ps.zip args).foldl (fun t (p, v) => t.setIfInBounds p v) ts, defers := [] } W)
    (hbody : ∀ a W1, A1 a W1 → body.wpIn (F.inRound l) n P (roundLeft B Kp I1 Ix W1) a W1) :
    YieldAt F n P l args W fun e W' =>
      (e = .returned (.bool true) ∧ (I1 W' ∧ W'.heap[l]? = some (.loop (rec .ready none)) ∧ W'.heap[D]? = W.heap[D]?) ∧ Kp W W') ∨
      (e = .returned (.bool false) ∧ ∃ c, Ix c W' ∧ W'.heap[l]? = some (.loop (rec .done (some c))) ∧ W'.heap[D]? = W.heap[D]?) := by
  obtain ⟨oD, hoD, hdD⟩ := hWD
  have hy := run_yield (P := P) (args := args) hW (by rw [hrec]; exact hargs)
  rw [hrec] at hy
  refine ⟨fn, _, assign, body, hy, roundIn_of_wpIn hF (wpIn_mono hassign ?_)⟩
  intro e a W1 he
  cases e with
  | normal =>
    obtain ⟨ha, hk, hp⟩ := he
    have hl1 := hk.same l _ hBl hW rfl
    have hD1 := hk.same D oD hBD hoD hdD
    refine ⟨_, run_beginRound hl1 (by rw [hrec]), ?_⟩
    obtain ⟨W1b, hWb⟩ : ∃ X, W1.putObj l (.loop { rec .ready none with state := .busy }) = X := ⟨_, rfl⟩
    have hlt : l < W1.heap.size := (Array.getElem?_eq_some_iff.1 hl1).1
    have hlb : W1b.heap[l]? = some (.loop { rec .ready none with state := .busy }) := by rw [← hWb]; exact World.putObj_heap_same hlt
    have hDb : W1b.heap[D]? = some oD := by rw [← hWb]; exact (World.putObj_heap_other hlD).trans hD1
    have hcb : CalmFrom B W1 W1b := by rw [← hWb]; exact CalmFrom.putObj _ hBl hl1 rfl
    have hpb : Kp W W1b := hKt _ _ _ hp (by rw [← hWb]; exact hKb _ _ _ hl1 rfl)
    rw [hWb]
    refine wpIn_mono (hbody a W1b (hA1 a _ _ ha hcb)) ?_
    have fin : ∀ (jump : Option Code) (W3 : World), KeepRec B W1b W3 →
        (Instr.endRound l jump).run P W3 = .ok (.bool jump.isNone) (W3.putObj l (.loop (rec (if jump.isNone then .ready else .done) jump))) ∧
        W3.heap[l]? = some (.loop { rec .ready none with state := .busy }) ∧
        (W3.putObj l (.loop (rec (if jump.isNone then .ready else .done) jump))).heap[l]? = some (.loop (rec (if jump.isNone then .ready else .done) jump)) ∧
        (W3.putObj l (.loop (rec (if jump.isNone then .ready else .done) jump))).heap[D]? = W.heap[D]? := fun jump W3 hk3 => by
      have hl3 := hk3.same _ _ hBl hlb rfl
      have hD3 := hk3.same _ _ hBD hDb hdD
      have := run_endRound (P := P) jump hl3
      rw [hrec] at this ⊢
      exact ⟨this, by rw [hrec] at hl3; exact hl3, World.putObj_heap_same (Array.getElem?_eq_some_iff.1 hl3).1, (World.putObj_heap_other hlD).trans (hD3.trans hoD.symm)⟩
    rintro e a3 W3 hx
    cases e with
    | normal =>
      obtain ⟨hk3, hkp3, hi3⟩ := hx
      obtain ⟨hr, hl3, hl4, hD4⟩ := fin none W3 hk3
      exact ⟨_, _, hr, .inl ⟨rfl, ⟨hI1 _ _ hi3 (CalmFrom.putObj _ hBl hl3 rfl), hl4, hD4⟩, hKt _ _ _ (hKt _ _ _ hpb hkp3) (hKb _ _ _ hl3 rfl)⟩⟩
    | ret =>
      obtain ⟨hk3, hi3⟩ := hx
      obtain ⟨hr, hl3, hl4, hD4⟩ := fin (some .ret) W3 hk3
      exact ⟨_, _, hr, .inr ⟨rfl, .ret, hIx _ _ _ hi3 (CalmFrom.putObj _ hBl hl3 rfl), hl4, hD4⟩⟩
    | exit id =>
      obtain ⟨hk3, hi3⟩ := hx
      obtain ⟨hr, hl3, hl4, hD4⟩ := fin (some (.exit id)) W3 hk3
      exact ⟨_, _, hr, .inr ⟨rfl, .exit id, hIx _ _ _ hi3 (CalmFrom.putObj _ hBl hl3 rfl), hl4, hD4⟩⟩
    | goto t =>
      obtain ⟨hk3, hi3⟩ := hx
      obtain ⟨hr, hl3, hl4, hD4⟩ := fin (some (.goto t)) W3 hk3
      exact ⟨_, _, hr, .inr ⟨rfl, .goto t, hIx _ _ _ hi3 (CalmFrom.putObj _ hBl hl3 rfl), hl4, hD4⟩⟩
    | panic ch => exact hx.elim
    | outgrown => exact hx.elim
  | ret => exact he.elim
  | exit id => exact he.elim
  | goto t => exact he.elim
  | panic ch => exact he.elim
  | outgrown => exact he.elim

/-- **The statement, in a frame that is no round.** -/
theorem range_law {α : Type} {g : Operand} {ps : Array Tmp} {assign body : Code} {Q : Exit → Act → World → Prop} {a : Act} {w : World} (hWF : WideF F) (hro : F.round = none)
    {gf : Nat} {lb : Array Value} (hg : a.eval g = .func (.func gf) #[] lb) (eg : ∀ args w, (callFunc gf args).run P w = .ok (.enter gf args) w)
    {encs : α → Array Value} {xs : List α} {Kp : World → World → Prop} {w0 : World} (hit : Iter P gf lb encs xs Kp w0) (hb0 : Below w0.heap.size w0 w) (hps : ∀ x, (encs x).size = ps.size)
    (hKt : ∀ X Y Z, Kp X Y → Kp Y Z → Kp X Z) (hKb : ∀ (X : World) (l : Nat) (o o' : Obj), w.heap.size ≤ l → X.heap[l]? = some o → isData o = false → Kp X (X.putObj l o'))
    (I : Nat → World → Prop) (Ix : Code → World → Prop) (hI : ∀ k, Calm w.heap.size (I k)) (hIx : ∀ c, Calm w.heap.size (Ix c)) (h0 : I 0 w)
    (A1 : Nat → Act → World → Prop) (hA1 : ∀ k a, Calm w.heap.size (A1 k a))
    (hassign : ∀ (l k : Nat) (hk : k < xs.length) (W : World), I k W → assign.wpIn (F.inRound l) (n - 1 - 1) P (Exit.then (fun a W1 => A1 k a W1 ∧ KeepRec w.heap.size W W1 ∧ Kp W W1) (fun _ _ _ => False)) { tmps := (ps.zip (encs xs[k])).foldl (fun t (p, v) => t.setIfInBounds p v) a.tmps, defers := [] } W)
    (hbody : ∀ (l k : Nat) (_ : k < xs.length) a1 W1, A1 k a1 W1 → body.wpIn (F.inRound l) (n - 1 - 1) P (roundLeft w.heap.size Kp (I (k + 1)) Ix W1) a1 W1)
    (hdone : ∀ (D : Nat) (W : World), w.heap.size ≤ D → I xs.length W → W.heap[D]? = some (.deferred (some [])) → KeepRec w.heap.size w W → Q .normal { a with defers := { target := .collected D, args := #[] } :: a.defers } W)
    (hstop : ∀ (D : Nat) (c : Code) (W : World), w.heap.size ≤ D → Ix c W → W.heap[D]? = some (.deferred (some [])) → KeepRec w.heap.size w W → c.wpIn F n P Q { a with defers := { target := .collected D, args := #[] } :: a.defers } W) :
    (Code.rangeFunc g ps assign body).wpIn F n P Q a w := by
  refine wpIn_rangeFunc ?_
  intro fn hfn
  rw [hro]
  obtain ⟨rec, hrec⟩ : ∃ rec : LoopState → Option Code → Loop, rec = fun st pe => { state := st, pending := pe, fn := fn, tmps := a.tmps, params := ps, assign := assign, body := body, defers := w.heap.size } := ⟨_, rfl⟩
  obtain ⟨W1, hW1⟩ : ∃ W1, (w.alloc (.deferred (some []))).alloc (.loop (rec .ready none)) = W1 := ⟨_, rfl⟩
  have hL1 : W1.heap[w.heap.size + 1]? = some (.loop (rec .ready none)) := by
    rw [← hW1]; have := World.alloc_heap_new (w.alloc (.deferred (some []))) (.loop (rec .ready none)); rwa [World.size_alloc] at this
  have hK1 : W1.heap[w.heap.size]? = some (.deferred (some [])) := by
    rw [← hW1]; exact (Below.heap_alloc _ _ _ (by simp)).trans (World.alloc_heap_new w _)
  have hs1 : W1.heap.size = w.heap.size + 2 := by rw [← hW1]; simp
  have hc1 : CalmFrom w.heap.size w W1 := by rw [← hW1]; exact (CalmFrom.alloc _ _ _).trans (CalmFrom.alloc _ _ _)
  have hb1 : Below w0.heap.size w0 W1 := by
    rw [← hW1]; exact hb0.trans ((((Below.refl _ w).alloc (Nat.le_refl _) _).alloc (by simp) _).mono hb0.size)
  refine ⟨w.heap.size + 1, [{ target := .collected w.heap.size, args := #[] }], W1, { target := .fn (.func gf) lb, args := #[.func (.yield (w.heap.size + 1)) #[] #[]] }, W1, gf,
    #[.func (.yield (w.heap.size + 1)) #[] #[]] ++ lb, W1, ?_, ?_, ?_, ?_, fun h => (by rw [hWF.1] at h; cases h), ?_⟩
  · rw [← hW1, hrec]; exact run_enterLoop_outer _ _ _ _ _
  · simp only [resolve, hg]
    simp [go_sem]
  · intro f' _; exact hWF.2 f'
  · simp [invoke, go_sem, eg]
  · have book : ∀ {A B : World} {o : Obj} (k : Nat), k < W1.heap.size → A.heap[k]? = some o → CalmFrom W1.heap.size A B → B.heap[k]? = some o :=
      fun k hk h hc => (hc.low k hk (Array.getElem?_eq_some_iff.1 h).1).trans h
    refine (hit F (n - 1) (w.heap.size + 1)
      (fun k W => (I k W ∧ KeepRec w.heap.size w W) ∧ W.heap[w.heap.size + 1]? = some (.loop (rec .ready none)) ∧ W.heap[w.heap.size]? = some (.deferred (some [])))
      (fun W => ∃ c, (Ix c W ∧ KeepRec w.heap.size w W) ∧ W.heap[w.heap.size + 1]? = some (.loop (rec .done (some c))) ∧ W.heap[w.heap.size]? = some (.deferred (some [])))
      W1 hWF hro hb1
      (fun k A B hs hc => ⟨⟨hI k _ _ hs.1.1 (hc.mono (by omega)), Nat.le_trans hs.1.2.size hc.size, fun i _ hi ho _ => absurd (Array.getElem?_eq_some_iff.1 ho).1 (by omega)⟩, book _ (by omega) hs.2.1 hc, book _ (by omega) hs.2.2 hc⟩)
      (fun A B hs hc => by
        obtain ⟨c, ⟨h1, h1'⟩, h2, h3⟩ := hs
        exact ⟨c, ⟨hIx c _ _ h1 (hc.mono (by omega)), Nat.le_trans h1'.size hc.size, fun i _ hi ho _ => absurd (Array.getElem?_eq_some_iff.1 ho).1 (by omega)⟩, book _ (by omega) h2 hc, book _ (by omega) h3 hc⟩)
      ?_ ⟨⟨hI 0 _ _ h0 hc1, hc1.size, fun i _ hi ho _ => absurd (Array.getElem?_eq_some_iff.1 ho).1 (by omega)⟩, hL1, hK1⟩).mono ?_
    · rintro k hk W ⟨⟨hi, hkr⟩, hl, hd⟩
      have hlt : w.heap.size + 1 < W.heap.size := (Array.getElem?_eq_some_iff.1 hl).1
      obtain ⟨fn', tm', as', bo', hy, hR⟩ := round_law (F := F) (n := n - 1 - 1) (P := P) (l := w.heap.size + 1) (D := w.heap.size) hfn (B := w.heap.size) (by omega) (Nat.le_refl _) (by omega) (hI (k + 1)) hIx hKt (fun X o o' h h' => hKb X _ o o' (by omega) h h') hrec (hps xs[k]) (A1 k) (hA1 k) hl ⟨_, hd, rfl⟩ (hassign _ k hk W hi) (hbody _ k hk)
      refine ⟨fn', tm', as', bo', hy, hR.mono ?_⟩
      rintro e W' (⟨rfl, ⟨h1, h2, h3⟩, h4⟩ | ⟨rfl, c, h1, h2, h3⟩)
      · have : w.heap.size + 1 < W'.heap.size := (Array.getElem?_eq_some_iff.1 h2).1
        exact .inl ⟨rfl, ⟨⟨h1, by omega, fun i _ hi ho _ => absurd (Array.getElem?_eq_some_iff.1 ho).1 (by omega)⟩, h2, h3.trans hd⟩, h4⟩
      · have : w.heap.size + 1 < W'.heap.size := (Array.getElem?_eq_some_iff.1 h2).1
        exact .inr ⟨rfl, c, ⟨h1, by omega, fun i _ hi ho _ => absurd (Array.getElem?_eq_some_iff.1 ho).1 (by omega)⟩, h2, h3.trans hd⟩
    · rintro e W2 ⟨⟨v, rfl⟩, (⟨⟨hi, hkr⟩, hl, hd⟩ | ⟨c, ⟨hi, hkr⟩, hl, hd⟩)⟩
      · exact ⟨none, _, by have := run_endLoop (P := P) hl (by rw [hrec]; simp); rw [hrec] at this; exact this, hdone _ _ (Nat.le_refl _) (hI _ _ _ hi (CalmFrom.putObj _ (by omega) hl rfl)) ((World.putObj_heap_other (by omega)).trans hd) ⟨by simpa using hkr.size, fun i _ hi ho _ => absurd (Array.getElem?_eq_some_iff.1 ho).1 (by omega)⟩⟩
      · exact ⟨some c, _, by have := run_endLoop (P := P) hl (by rw [hrec]; simp); rw [hrec] at this; exact this, hstop _ c _ (Nat.le_refl _) (hIx c _ _ hi (CalmFrom.putObj _ (by omega) hl rfl)) ((World.putObj_heap_other (by omega)).trans hd) ⟨by simpa using hkr.size, fun i _ hi ho _ => absurd (Array.getElem?_eq_some_iff.1 ho).1 (by omega)⟩⟩
/-- Blocks that hold a range's deferred calls: none was deferred. -/
def Marks (B : Nat) (W : World) (ds : List Deferred) : Prop := ∃ rs : List Nat, ds = rs.map (fun r => { target := .collected r, args := #[] }) ∧ rs.Nodup ∧ ∀ r ∈ rs, B ≤ r ∧ W.heap[r]? = some (.deferred (some []))
theorem Marks.nil (B : Nat) (W : World) : Marks B W [] := ⟨[], rfl, List.nodup_nil, fun _ h => by cases h⟩
theorem Marks.cons {B D : Nat} {W : World} {ds : List Deferred} (h : Marks B W ds) (hD : B ≤ D) (hW : W.heap[D]? = some (.deferred (some []))) (hn : ∀ r, (⟨.collected r, #[]⟩ : Deferred) ∈ ds → r ≠ D) : Marks B W ({ target := .collected D, args := #[] } :: ds) := by
  obtain ⟨rs, rfl, h2, h3⟩ := h
  refine ⟨D :: rs, rfl, List.nodup_cons.2 ⟨fun hm => hn D (List.mem_map.2 ⟨D, hm, rfl⟩) rfl, h2⟩, fun r hr => ?_⟩
  rcases List.mem_cons.1 hr with rfl | hr
  · exact ⟨hD, hW⟩
  · exact h3 r hr
theorem Marks.lt {B : Nat} {W : World} {ds : List Deferred} (h : Marks B W ds) {r : Nat} (hr : (⟨.collected r, #[]⟩ : Deferred) ∈ ds) : r < W.heap.size := by
  obtain ⟨rs, rfl, h2, h3⟩ := h
  obtain ⟨q, hq, e⟩ := List.mem_map.1 hr
  cases e
  exact (Array.getElem?_eq_some_iff.1 (h3 _ hq).2).1
theorem Marks.kept {B C : Nat} {W W' : World} {ds : List Deferred} (h : Marks B W ds) (hk : KeepRec C W W') (hC : C ≤ B) : Marks B W' ds := by
  obtain ⟨rs, e, h2, h3⟩ := h
  exact ⟨rs, e, h2, fun r hr => ⟨(h3 r hr).1, hk.same r _ (Nat.le_trans hC (h3 r hr).1) (h3 r hr).2 rfl⟩⟩
theorem Marks.below {B C : Nat} {W W' : World} {ds : List Deferred} (h : Marks B W ds) (hk : Below C W W') (hC : W.heap.size ≤ C) : Marks B W' ds := by
  obtain ⟨rs, e, h2, h3⟩ := h
  refine ⟨rs, e, h2, fun r hr => ⟨(h3 r hr).1, (hk.block r ?_).trans (h3 r hr).2⟩⟩
  have := (Array.getElem?_eq_some_iff.1 (h3 r hr).2).1
  omega
/-- The function is left: its marks are taken up, one after the other. -/
theorem leaves_marks {F : Fence} {n : Nat} {P : Program} {fn : Func} {tmps : Array Value} {R : Ending → World → Prop} {B : Nat} : ∀ (ds : List Deferred) (W : World), Marks B W ds →
    (∀ W', Below B W W' → CalmFrom B W W' → (∀ (k : Nat) (o : Loop), W.heap[k]? = some (.loop o) → W'.heap[k]? = some (.loop o)) → ∃ v, (results fn tmps).run P W' = .ok v W' ∧ R (.returned v) W') → LeavesInM F n P fn tmps R ds .returning W := by
  intro ds
  induction ds with
  | nil =>
    intro W _ h
    exact h W (Below.refl _ _) (CalmFrom.refl _ _) (fun _ _ h => h)
  | cons d ds ih =>
    rintro W ⟨rs, e, h2, h3⟩ h
    match rs, e, h2, h3 with
    | r :: rs, e, h2, h3 =>
      cases e
      obtain ⟨hB, hr⟩ := h3 r (by simp)
      refine ⟨by simp, .inl ⟨r, _, rfl, run_takeDeferred hr, ih _ ⟨rs, rfl, (List.nodup_cons.1 h2).2, fun q hq => ⟨(h3 q (by simp [hq])).1, ?_⟩⟩ fun W' hb hc hl => ?_⟩⟩
      · have hne : q ≠ r := fun e => (List.nodup_cons.1 h2).1 (e ▸ hq)
        exact (World.putObj_heap_other hne).trans (h3 q (by simp [hq])).2
      · have hc1 : CalmFrom B W (W.putObj r (.deferred none)) := CalmFrom.putObj _ hB hr rfl
        exact h W' (((Below.refl B W).grown (grownBy_putObj' W r _) (by have := (Array.getElem?_eq_some_iff.1 hr).1; omega) (fun k e => by cases e; exact hB)).trans hb) (hc1.trans hc) (fun k o hk => hl k o ((World.putObj_heap_other (fun e => by subst e; rw [hr] at hk; cases hk)).trans hk))
end Go.Proofs.YtooamdacfhfjoaaDoor
