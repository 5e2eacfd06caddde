/-
  **The interpreter is sound**: what it answers of a call, the model's call answers.
-/
import Derived.Test.YtmhnhokhlkppeaaDoorEvAct
import Derived.LoopNIn
namespace Go.Proofs.YtmhnhokhlkppeaaDoor
open Go.RowKit
variable {H H' : Heap} {g g' : Gh} {w0 w w' : World} {cx : Cx} {s : St} {a : Act} {F : Fence} {n : Nat} {N lo : Nat} {H0 : Heap} {gs : Gh} {ws : World}
/-- How the interpreter leaves, and the model. -/
def ER (s : St) (g : Gh) (w : World) : E → Exit → Prop
  | .normal, .normal => True
  | .exit i, .exit j => i = j
  | .goto i, .goto j => i = j
  | .ret, .ret => True
  | .pan x, .panic ch => ∃ c, ch = [{ v := c, recovered := false }] ∧ VR s.H g w x c
  | _, _ => False
theorem look_keep (fr : List (Nat × A)) (keep : List Nat) (t : Nat) : look (keep.map fun t => (t, look fr t)) t = look fr t ∨ look (keep.map fun t => (t, look fr t)) t = .any := by
  induction keep with
  | nil => exact .inr rfl
  | cons u ks ih =>
    rw [List.map_cons, look_put]
    split
    · rename_i e; rw [e]; exact .inl rfl
    · exact ih
theorem look_in (fr : List (Nat × A)) (keep : List Nat) (t : Nat) (ht : look (keep.map fun t => (t, look fr t)) t ≠ .any) : t ∈ keep := by
  induction keep with
  | nil => exact absurd rfl ht
  | cons u ks ih =>
    rw [List.map_cons, look_put] at ht
    split at ht
    · rename_i e; subst e; simp
    · exact List.mem_cons_of_mem _ (ih ht)
theorem Good.rekeep (hg : Good cx N lo H0 gs ws w0 s g a w) {keep : List Nat} : Good cx N lo H0 gs ws w0 (rekeep keep s) g a w :=
  ⟨⟨hg.sr.rel, fun t => by
    show VR s.H g w (look (keep.map fun t => (t, look s.fr t)) t) _
    rcases look_keep s.fr keep t with h | h
    · rw [h]; exact hg.sr.fr t
    · rw [h, VR]; trivial, hg.sr.gl⟩, hg.ext, hg.len, hg.low, hg.siz, hg.dfr, hg.st⟩
theorem Good.normZ (hg : Good cx N lo H0 gs ws w0 s g a w) {keep : List Nat} {L : Nat} (hL : H0.length ≤ L) (hLs : L ≤ s.H.length) {k : St → Option R} {r : R} (h : norm0 keep L s k = some r) : ∃ s' g', k s' = some r ∧ Good cx N lo H0 gs ws w0 s' g' a w ∧ s'.H.length = L := by
  unfold norm0 at h
  obtain ⟨H', h1, h⟩ := bnd h
  obtain ⟨h2, h⟩ := csome h
  have look_keep := look_keep s.fr keep
  have look_in := look_in s.fr keep
  unfold trim at h1
  rw [bcond] at h1
  split at h1
  · rename_i hl
    have hl : s.H.length = L := by simpa using hl
    cases h1
    refine ⟨_, g, h, ⟨⟨hg.sr.rel, fun t => ?_, hg.sr.gl⟩, hg.ext, hg.len, hg.low, hg.siz, hg.dfr, hg.st⟩, hl⟩
    rcases look_keep t with h | h
    · rw [h]; exact hg.sr.fr t
    · rw [h, VR]; trivial
  · rename_i hl
    obtain ⟨hall, h1⟩ := csome h1
    cases h1
    have hl : ¬ s.H.length = L := by simpa using hl
    have hk : keep.all (fun t => A.under L (look s.fr t)) = true := by
      have hb : Nat.beq s.H.length L = false := by
        cases hb : Nat.beq s.H.length L with
        | true => exact absurd (Nat.eq_of_beq_eq_true hb) hl
        | false => rfl
      rw [hb] at h2
      exact keepsUnder_all _ _ _ h2
    have hu : ∀ (b : Nat) B, b < L → s.H[b]? = some B → B.under L = true := fun b B hb hB => by
      refine List.all_eq_true.1 hall B (List.mem_of_getElem? (i := b) ?_)
      rw [List.getElem?_take, if_pos hb]; exact hB
    obtain ⟨r1, ag⟩ := hg.sr.rel.cut hLs hu
    refine ⟨_, g.cut L, h, ⟨⟨r1, fun t => ?_, fun G vs hG => (hg.sr.gl G vs hG).to ag⟩, hg.ext.cut hL, by rw [List.length_take]; omega, fun b hb hb' => by rw [List.getElem?_take, if_pos (by omega)]; exact hg.low b hb hb', hg.siz, hg.dfr, hg.st⟩, by rw [List.length_take]; omega⟩
    rcases look_keep t with h | h
    · rw [h]
      by_cases hany : look s.fr t = .any
      · rw [hany, VR]; trivial
      · have htk := look_in t (by rw [h]; exact hany)
        exact VR.to ag _ _ (List.all_eq_true.1 hk t htk) (hg.sr.fr t)
    · rw [h, VR]; trivial
theorem frzs_len (lo : Nat) : ∀ (ps : List (Nat × Nat × Nat)) {s : St} {g : Gh}, Good cx N lo H0 gs ws w0 s g a w → ∃ g', Good cx N lo H0 gs ws w0 (actAll lo (frzs ps) s) g' a w ∧ (actAll lo (frzs ps) s).H.length = s.H.length
  | [], s, g, h => ⟨g, h, rfl⟩
  | p :: ps, s, g, h => by
    unfold frzs
    split
    · rename_i he
      obtain ⟨g', h1, _, h2⟩ := h.act1 p
      obtain ⟨g'', h3, h4⟩ := frzs_len lo ps h1
      exact ⟨g'', h3, h4.trans (h2 he)⟩
    · exact frzs_len lo ps h
theorem Good.norm (hg : Good cx N lo H0 gs ws w0 s g a w) {keep : List Nat} {acts : List (Nat × Nat × Nat)} {L : Nat} (hL : H0.length ≤ L) (hLs : L ≤ s.H.length) {k : St → Option R} {r : R} (h : normK lo keep acts L s k = some r) : ∃ s' g', k s' = some r ∧ Good cx N lo H0 gs ws w0 s' g' a w ∧ s'.H.length = L := by
  obtain ⟨g', h1, h2⟩ := frzs_len lo acts hg
  exact h1.normZ hL (by omega) h
theorem evF_sound {call : CallT} (hcall : CallSound cx call) (horc : OrcOK cx) (hF : WideA F) (hmx : cx.P.follows .mixedOrders = true) {nf f : Nat} {r : R} : ∀ (c : Code) (H0 : Heap) (gs : Gh) (ws : World) (k : E → St → Option R) (Q : Exit → Act → World → Prop) (s : St) (g : Gh) (a : Act) (w : World), Good cx N lo H0 gs ws w0 s g a w → evF cx call nf f lo N c s k = some r →
    (∀ e e' s' g' a' w', Good cx N lo H0 gs ws w0 s' g' a' w' → ER s' g' w' e e' → k e s' = some r → Q e' a' w') → c.wpIn F n cx.P Q a w
  | .skip, H0, gs, ws, k, Q, s, g, a, w, hg, h, hk => wpIn_skip (hk .normal .normal _ _ _ _ hg trivial h)
  | .label l, H0, gs, ws, k, Q, s, g, a, w, hg, h, hk => wpIn_label (hk .normal .normal _ _ _ _ hg trivial h)
  | .region id ops draw, H0, gs, ws, k, Q, s, g, a, w, hg, h, hk => by
    rw [evF] at h
    replace h := csome h
    obtain ⟨hd, h⟩ := h
    have hd' : ∀ o ∈ ops.toList, ∀ d, o.dst = some d → d < N := fun o ho d hod => by
      have := List.all_eq_true.1 hd o ho
      rw [hod] at this; simpa using this
    cases draw with
    | false =>
      exact wpIn_region_list (evOps_sound (f := f) (ops := ops) hcall horc hF (fun s' g' a' w' hg' h' => hk .normal .normal _ _ _ _ hg' trivial h') (fun x s' g' a' w' c hg' hv h' => hk (.pan x) (.panic _) _ _ _ _ hg' ⟨c, rfl, hv⟩ h') _ s g a w hd' hg (evOpsG_eq _ _ _ h))
    | true =>
      simp only [cond_true] at h
      replace h := csome h
      obtain ⟨chk, h⟩ := h
      replace h := bnd h
      obtain ⟨m, hm, h⟩ := h
      have hmt : tailOk ops m = true := by
        unfold tailAt at hm
        exact List.find?_some hm
      exact evDraw_sound (f := f) (m := m) hcall horc hF hmx chk hmt hg hd' (evPre_mono (fun s h => evOpsG_eq _ _ _ h) (evPreG_eq _ _ _ h)) (fun s' g' a' w' hg' h' => hk .normal .normal _ _ _ _ hg' trivial h') (fun x s' g' a' w' c hg' hv h' => hk (.pan x) (.panic _) _ _ _ _ hg' ⟨c, rfl, hv⟩ h')
  | .seq x y, H0, gs, ws, k, Q, s, g, a, w, hg, h, hk => by
    rw [evF] at h
    refine wpIn_seq (evF_sound hcall horc hF hmx x H0 gs ws _ _ s g a w hg h fun e e' s' g' a' w' hg' he h' => ?_)
    cases e with
    | normal => cases e' <;> first
        | exact evF_sound hcall horc hF hmx y H0 gs ws k Q s' g' a' w' hg' h' hk
        | exact he.elim
    | exit i => cases e' <;> first
        | exact hk _ _ _ _ _ _ hg' he h'
        | exact he.elim
    | goto i => cases e' <;> first
        | exact hk _ _ _ _ _ _ hg' he h'
        | exact he.elim
    | ret => cases e' <;> first
        | exact hk _ _ _ _ _ _ hg' he h'
        | exact he.elim
    | pan x => cases e' <;> first
        | exact hk _ _ _ _ _ _ hg' he h'
        | exact he.elim
  | .cond c x y, H0, gs, ws, k, Q, s, g, a, w, hg, h, hk => by
    rw [evF] at h
    obtain ⟨b, hb, h⟩ := bIf_spec h
    have hv := opd_VR (x := c) (fun t _ => hg.sr.fr t) hg.sr.gl
    rw [hb, VR] at hv
    refine wpIn_cond hv ?_
    cases b
    · exact evF_sound hcall horc hF hmx y H0 gs ws k Q s g a w hg h hk
    · exact evF_sound hcall horc hF hmx x H0 gs ws k Q s g a w hg h hk
  | .block id c, H0, gs, ws, k, Q, s, g, a, w, hg, h, hk => by
    rw [evF] at h
    refine wpIn_block (evF_sound hcall horc hF hmx c H0 gs ws _ _ s g a w hg h fun e e' s' g' a' w' hg' he h' => ?_)
    cases e with
    | exit i => cases e' with
      | exit j =>
        obtain rfl : i = j := he
        simp only [Exit.inBlock]
        simp only [bcond] at h'
        split at h'
        · rename_i hij
          rw [if_pos (by simpa using hij)]
          exact hk .normal .normal _ _ _ _ hg' trivial h'
        · rename_i hij
          rw [if_neg (by simpa using hij)]
          exact hk (.exit i) (.exit i) _ _ _ _ hg' rfl h'
      | _ => exact he.elim
    | normal => cases e' <;> first
        | exact hk _ .normal _ _ _ _ hg' he h'
        | exact he.elim
    | goto i => cases e' <;> first
        | exact hk _ (.goto _) _ _ _ _ hg' he h'
        | exact he.elim
    | ret => cases e' <;> first
        | exact hk _ .ret _ _ _ _ hg' he h'
        | exact he.elim
    | pan x => cases e' <;> first
        | exact hk _ (.panic _) _ _ _ _ hg' he h'
        | exact he.elim
  | .loop c, H0, gs, ws, k, Q, s, g, a, w, hg, h, hk => by
    rw [evF] at h
    unfold startL at h
    obtain ⟨g0, hg0, hl0⟩ := hg.rekeep (keep := cx.keep f (firstReg c)) |>.acts (cx.acts f (firstReg c))
    have rounds : ∀ (m : Nat) (s' : St) (g' : Gh) (a' : Act) (w' : World), Good cx N lo H0 gs ws w0 s' g' a' w' → (actAll lo (cx.acts f (firstReg c)) (rekeep (cx.keep f (firstReg c)) s)).H.length ≤ s'.H.length → iter lo (cx.keep f (firstReg c)) (cx.acts f (firstReg c)) (actAll lo (cx.acts f (firstReg c)) (rekeep (cx.keep f (firstReg c)) s)).H.length (fun s k => evF cx call nf f lo N c s k) (fun i s => k (.exit i) s) (fun l s => k (.goto l) s) (fun s => k .ret s) (fun a s => k (.pan a) s) m s' = some r → Code.roundsIn F n cx.P c Q m a' w' := by
      intro m
      induction m with
      | zero => intro s' g' a' w' _ _ h; cases h
      | succ m ih =>
        intro s1 g1 a' w' hg1 hl h
        rw [iter] at h
        rw [roundsIn_succ]
        refine evF_sound hcall horc hF hmx c s1.H g1 w' _ _ s1 g1 a' w' ⟨hg1.sr, Ext.refl hg1.sr.rel, Nat.le_refl _, fun _ _ _ => rfl, hg1.siz, hg1.dfr, rfl⟩ h fun e e' s2 g2 a2 w2 hg2 he h2 => ?_
        have hg3 : Good cx N lo H0 gs ws w0 s2 g2 a2 w2 := ⟨hg2.sr, hg1.ext.trans hg2.ext, Nat.le_trans hg1.len hg2.len, fun b hb hb' => (hg2.low b hb (Nat.lt_of_lt_of_le hb' hg1.len)).trans (hg1.low b hb hb'), hg2.siz, hg2.dfr, hg2.st.trans hg1.st⟩
        have hlen2 : (actAll lo (cx.acts f (firstReg c)) (rekeep (cx.keep f (firstReg c)) s)).H.length ≤ s2.H.length := by have := hg2.len; omega
        have hg4 : Good cx N lo H0 gs ws w0 (rekeep (cx.keep f (firstReg c)) s2) g2 a2 w2 := hg3.rekeep
        cases e with
        | normal => cases e' <;> first
            | (obtain ⟨s3, g3, h3, hg5, hl5⟩ := hg3.norm hg0.len hlen2 h2
               exact ih s3 g3 a2 w2 hg5 (by omega) h3)
            | exact he.elim
        | exit i => cases e' <;> first
            | exact hk (.exit i) (.exit _) _ _ _ _ hg4 he h2
            | exact he.elim
        | goto i => cases e' <;> first
            | exact hk (.goto i) (.goto _) _ _ _ _ hg4 he h2
            | exact he.elim
        | ret => cases e' <;> first
            | exact hk .ret .ret _ _ _ _ hg4 he h2
            | exact he.elim
        | pan x => cases e' <;> first
            | exact hk (.pan x) (.panic _) _ _ _ _ hg4 he h2
            | exact he.elim
    exact wpIn_loop_rounds nf (rounds nf (rekeep (cx.keep f (firstReg c)) (actAll lo (cx.acts f (firstReg c)) (rekeep (cx.keep f (firstReg c)) s))) g0 a w hg0.rekeep (Nat.le_refl _) h)
  | .exit id, H0, gs, ws, k, Q, s, g, a, w, hg, h, hk => wpIn_exit (hk (.exit id) (.exit id) _ _ _ _ hg rfl h)
  | .goto l, H0, gs, ws, k, Q, s, g, a, w, hg, h, hk => wpIn_goto (hk (.goto l) (.goto l) _ _ _ _ hg rfl h)
  | .ret, H0, gs, ws, k, Q, s, g, a, w, hg, h, hk => wpIn_ret (hk .ret .ret _ _ _ _ hg trivial h)
  | .rangeFunc .., H0, gs, ws, k, Q, s, g, a, w, hg, h, hk => by cases h
  | .scope _, H0, gs, ws, k, Q, s, g, a, w, hg, h, hk => by cases h
  | .refuse _, H0, gs, ws, k, Q, s, g, a, w, hg, h, hk => by cases h
theorem look_frame (args : List A) (t : Nat) : look (frame args) t = (args[t]?).getD .any := by
  have gen : ∀ (args : List A) (i t : Nat), look ((args.zipIdx i).map fun p => (p.2, p.1)) t = if i ≤ t then (args[t - i]?).getD .any else .any := by
    intro args
    induction args with
    | nil => intro i t; simp [look]
    | cons x r ih =>
      intro i t
      rw [List.zipIdx_cons, List.map_cons, look_put, ih]
      by_cases e : i = t
      · subst e; simp
      · rw [if_neg e]
        by_cases hlt : i < t
        · rw [if_pos (by omega), if_pos (by omega)]
          rw [show t - i = (t - (i + 1)) + 1 by omega, List.getElem?_cons_succ]
        · rw [if_neg (by omega), if_neg (by omega)]
  have := gen args 0 t
  simpa [frame] using this
theorem loadAt_asAddr {P : Program} {t : TypeId} {c d : Value} (h : (Instr.loadAt t c).run P w = .ok d w) : (do loadVar t (← asAddr c) : Sem Value).run P w = .ok d w := by
  unfold Instr.loadAt at h
  cases c with
  | pointer p => cases p with
    | some p => simpa [Instr.sureAddr, asAddr] using h
    | none => simp [Instr.sureAddr, stuck, Sem.run, Result.andThen] at h
  | _ => simp [Instr.sureAddr, stuck, Sem.run, Result.andThen] at h
def mRes (tmps : Array Value) : ResultVar → Sem Value
  | .tmp t => pure (tmps.getD t undef)
  | .cell a t => do loadVar t (← asAddr (tmps.getD a undef))
theorem evRes1_sound (hs : SR cx s g w0 a w) {r : ResultVar} {x : A} (h : evRes1 cx s r = some x) : ∃ c, (mRes a.tmps r).run cx.P w = .ok c w ∧ VR s.H g w x c := by
  cases r with
  | tmp t => cases h; exact ⟨_, rfl, hs.fr t⟩
  | cell b t =>
    obtain ⟨d, h1, h2⟩ := aLoad_sound hs.rel h (hs.fr b)
    exact ⟨d, loadAt_asAddr h1, h2⟩
theorem evResL_sound (hs : SR cx s g w0 a w) : ∀ {rs : List ResultVar} {xs : List A}, evResL cx s rs = some xs → ∃ cs : List Value, (rs.mapM (mRes a.tmps)).run cx.P w = .ok cs w ∧ VRs s.H g w xs cs ∧ cs.length = rs.length
  | [], xs, h => by simp only [evResL, Option.some.injEq] at h; subst h; exact ⟨[], by simp, by rw [VRs], rfl⟩
  | r :: rs, xs, h => by
    rw [evResL] at h
    obtain ⟨y, hy, h⟩ := bnd h
    obtain ⟨ys, hys, h⟩ := bnd h
    cases h
    obtain ⟨c, h1, h2⟩ := evRes1_sound hs hy
    obtain ⟨cs, h3, h4, h5⟩ := evResL_sound hs hys
    refine ⟨c :: cs, ?_, by rw [VRs]; exact ⟨c, cs, rfl, h2, h4⟩, by simp [h5]⟩
    rw [List.mapM_cons, Sem.run_bind, h1]
    simp only [Result.andThen_ok, Sem.run_bind, h3, Sem.run_pure]
theorem results_eq (fn : Func) (tmps : Array Value) : results fn tmps = (do let vs ← fn.results.mapM (mRes tmps); pure (if h : vs.size = 1 then vs[0] else .tuple vs)) := by
  unfold results
  congr 1
theorem evRes_sound (hs : SR cx s g w0 a w) {fn : Func} {x : A} (h : evRes cx fn s = some x) : ∃ c, (results fn a.tmps).run cx.P w = .ok c w ∧ VR s.H g w x c := by
  rw [results_eq, Array.mapM_eq_mapM_toList]
  unfold evRes at h
  split at h
  · rename_i r hr
    obtain ⟨c, h1, h2⟩ := evRes1_sound hs h
    refine ⟨c, ?_, h2⟩
    rw [hr]
    simp [h1]
  · rename_i hne
    obtain ⟨xs, hxs, h⟩ := bnd h
    cases h
    obtain ⟨cs, h1, h2, h3⟩ := evResL_sound hs hxs
    refine ⟨.tuple cs.toArray, ?_, by rw [VR]; exact ⟨_, rfl, by simpa using h2⟩⟩
    have hn1 : cs.length ≠ 1 := fun h1' => by
      obtain ⟨r, hr⟩ := List.length_eq_one_iff.1 (show fn.results.toList.length = 1 by omega)
      exact hne r hr
    simp [h1, hn1]
theorem evCall_sound (horc : OrcOK cx) (hmx : cx.P.follows .mixedOrders = true) : ∀ n, CallSound cx (evCall cx n)
  | 0 => fun k args H lo r h => by cases h
  | n + 1 => by
    intro f args H lo r h F d g w0 w cargs hF hro hr hgl hv
    have hcall := evCall_sound horc hmx n
    rw [evCall, evCall1] at h
    obtain ⟨fn, hfn, h⟩ := bnd h
    obtain ⟨c, hc, h⟩ := bnd h
    obtain ⟨hle, h⟩ := csome h
    have hle := of_decide_eq_true hle
    have hl := hv.length
    refine callsIn_of_wp hfn hc (hF.2.1 f) ?_ hro
    have hsz : (cargs.toArray ++ Array.replicate (fn.ntmps - cargs.toArray.size) undef).size = fn.ntmps := by simp; omega
    have hfr : ∀ t, VR H g w (look (frame args) t) ((cargs.toArray ++ Array.replicate (fn.ntmps - cargs.toArray.size) undef).getD t undef) := fun t => by
      rw [look_frame, Array.getD_eq_getD_getElem?]
      cases ha : args[t]? with
      | none => rw [Option.getD_none, VR]; trivial
      | some x =>
        obtain ⟨d, hd, hvd⟩ := hv.get ha
        rw [Array.getElem?_append_left (by simpa using (List.getElem?_eq_some_iff.1 hd).1)]
        simp [hd]
        exact hvd
    refine evF_sound (cx := cx) (N := fn.ntmps) (lo := lo) (w0 := w0) (nf := n) (f := f) hcall horc hF hmx c H g w _ _ ⟨frame args, H⟩ g _ w ⟨⟨hr, hfr, hgl⟩, Ext.refl hr, Nat.le_refl _, fun _ _ _ => rfl, hsz, rfl, rfl⟩ h fun e e' s' g' a' w' hg' he h' => ?_
    have ret : ∀ (x : A), evRes cx fn s' = some x → r = (.ret x, s'.H) → a'.defers = [] ∧ ∃ v, (results fn a'.tmps).run cx.P w' = .ok v w' ∧ ∃ g'', Rel r.2 g'' w0 w' ∧ Ext H g w r.2 g'' w' ∧ H.length ≤ r.2.length ∧ (∀ b, b < lo → b < H.length → r.2[b]? = H[b]?) ∧ g''.S = g.S ∧ VR r.2 g'' w' x v := fun x hx hrx => by
      obtain ⟨v, h1, h2⟩ := evRes_sound hg'.sr hx
      subst hrx
      exact ⟨hg'.dfr, v, h1, g', hg'.sr.rel, hg'.ext, hg'.len, hg'.low, hg'.st, h2⟩
    cases e with
    | normal => cases e' <;> first
        | (obtain ⟨x, hx, hrx⟩ := bnd ((evResR_eq cx fn s').symm.trans h')
           cases hrx
           obtain ⟨q1, v, q2, g'', q3⟩ := ret x hx rfl
           exact ⟨q1, v, q2, g'', q3⟩)
        | exact he.elim
    | ret => cases e' <;> first
        | (obtain ⟨x, hx, hrx⟩ := bnd ((evResR_eq cx fn s').symm.trans h')
           cases hrx
           obtain ⟨q1, v, q2, g'', q3⟩ := ret x hx rfl
           exact ⟨q1, v, q2, g'', q3⟩)
        | exact he.elim
    | pan x => cases e' <;> first
        | (obtain ⟨c', rfl, hvr⟩ := he
           cases h'
           exact ⟨hg'.dfr, g', hg'.sr.rel, hg'.ext, hg'.len, hg'.low, hg'.st, c', rfl, hvr⟩)
        | exact he.elim
    | exit i => cases h'
    | goto i => cases h'
/-- **What the interpreter answers of a function, called with nothing of the caller's own, is promised of it.** -/
theorem callOK_of_ev (horc : OrcOK cx) (hmx : cx.P.follows .mixedOrders = true) {n k : Nat} {args : List A} {x : A} {H' : Heap} (h : evCall cx n k args [] 0 = some (.ret x, H')) : CallOK cx.P cx.glob k args (snap H' x) := by
  intro S w cargs hS hgl hv
  have hr : Rel [] (G0 S) w w := ⟨Below.refl _ _, fun b k h => (by cases h), fun b c k h => (by cases h), hS, fun b B h => (by simp at h)⟩
  have hc := evCall_sound horc hmx n k args [] 0 _ h Fence.wide 0 (G0 S) w w cargs wideA_wide rfl hr hgl hv
  refine (callsIn_wide.1 hc).mono ?_
  rintro e w' ⟨g', e1, e2, _, _, e5, e6⟩
  cases e with
  | returned c =>
    refine ⟨c, rfl, e1.below, ?_⟩
    exact VR.ext (H := []) (g := G0 (Stab H' g')) ⟨fun k o v hs hc => ⟨hc, by have := hs.1.1; rw [e5] at this; exact this, fun b hb => (by cases hb)⟩, fun b B hB => (by simp at hB)⟩ _ _ (snap_VR e1 x c e6)
  | panicked _ => exact e6.elim
  | outgrown => exact e6.elim
#print axioms callOK_of_ev
end Go.Proofs.YtmhnhokhlkppeaaDoor
