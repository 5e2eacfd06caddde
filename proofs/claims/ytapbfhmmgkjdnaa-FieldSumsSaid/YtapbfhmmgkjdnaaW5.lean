/-
  Layer 9: At, where there are at most 64 points.
-/
import Derived.Test.YtapbfhmmgkjdnaaW4
namespace Go.Proofs.Ytapbfhmmgkjdnaa
open Go.RowKit Go.Shelf Go.Maps
attribute [local go_sem] Oper.semAt_some
/-- What lies in memory while the iterator runs: the boxes of this round of At's loop. -/
def AtI (l : List (Int × Int)) (t : Int) (i bp : Nat) (w : World) (n3 : Nat) (rs : List Nat) (k : Nat) (W : World) : Prop :=
  (W.heap[bp]? = some (.cells #[.int .i64 (pX l i), .int .i64 (pY l i)] 38 (0, 0)) ∧ Boxed W (bp + 1) 3 (.int .i64 (aboveK l t i k)) ∧ Boxed W (bp + 1 + 1) 3 (.int .i64 (belowK l i k)) ∧ Boxed W w.heap.size 3 (.int .i64 t)) ∧
  Below w.heap.size w W ∧ (∀ r ∈ rs, W.heap[r]? = some (.deferred (some []))) ∧ n3 ≤ W.heap.size
theorem atI_calm {l : List (Int × Int)} {t : Int} {i bp : Nat} {w : World} {n3 : Nat} {rs : List Nat} (k : Nat) (hn : w.heap.size ≤ n3) (hr : ∀ r ∈ rs, r < n3) : Calm n3 (AtI l t i bp w n3 rs k) := by
  rintro W W' ⟨⟨h1, h2, h3, h4⟩, h5, h6, h7⟩ hc
  refine ⟨⟨hc.data _ _ h1 rfl, hc.data _ _ h2 rfl, hc.data _ _ h3 rfl, hc.data _ _ h4 rfl⟩, Calm.below (Nat.le_refl _) hn W W' h5 hc, fun r hm => ?_, Nat.le_trans h7 hc.size⟩
  exact (hc.low r (hr r hm) (by have := hr r hm; omega)).trans (h6 r hm)
theorem atI_below {l : List (Int × Int)} {t : Int} {i bp : Nat} {w : World} {n3 : Nat} {rs : List Nat} {k : Nat} {W W' : World} (h : AtI l t i bp w n3 rs k W) (hn : w.heap.size ≤ n3) (hb : Below W.heap.size W W') : AtI l t i bp w n3 rs k W' := by
  obtain ⟨⟨h1, h2, h3, h4⟩, h5, h6, h7⟩ := h
  have lt : ∀ b o, W.heap[b]? = some o → W'.heap[b]? = some o := fun b o e => (hb.block b (Array.getElem?_eq_some_iff.1 e).1).trans e
  exact ⟨⟨lt _ _ h1, lt _ _ h2, lt _ _ h3, lt _ _ h4⟩, h5.trans (hb.mono (by omega)), fun r hm => lt _ _ (h6 r hm), Nat.le_trans h7 hb.size⟩
/-- The round's own box of the point that has come. -/
def AtQ (l : List (Int × Int)) (i n3 k bq : Nat) (W : World) : Prop := n3 ≤ bq ∧ W.heap[bq]? = some (.cells #[.int .i64 (pX (l.eraseIdx i) k), .int .i64 (pY (l.eraseIdx i) k)] 38 (0, 0))

set_option maxHeartbeats 4000000 in
theorem at_rest (l : List (Int × Int)) (v : Value) (t : Int) (w : World) (h : SliceOf lPt w.heap.size w v l) (hlen : l.length ≤ 64) :
    Calls Try.prog 19 #[v, .int .i64 t] w fun e w' => e = .returned (.tuple #[.int .i64 (atV l t).1, .int .i64 (atV l t).2]) ∧ Below w.heap.size w w' := by
  have hsl := h
  obtain ⟨a, cap, rfl, hm, hx⟩ := h.pts
  clear h
  have hmm := @run_makeMap Try.prog
  have hd : decide (64 < (l.length : Int)) = false := by rw [decide_eq_false_iff_not]; omega
  refine (callsIn_wide (n := 9)).1 ?_
  refine callsIn_of_wp_marks Try.func19 rfl trivial ?_ rfl
  simp only [Try.ntmps19, List.size_toArray, List.length_cons, List.length_nil, Nat.reduceAdd, Nat.reduceSub, Array.replicate_succ, Array.replicate_zero, List.push_toArray, List.append_toArray, List.nil_append, List.cons_append]
  gi_wp2
  gi_loopw [22] (fun j wr => ∃ p : Nat, p ≤ l.length ∧ j = .int .i64 p ∧ wr.ownsMap (H := Unit) Try.prog 3 (plainElem Try.prog 4) (w.heap.size + 1) p (Maps.setOf (.lit (.bool true)) ((l.take p).map keyL)) ∧
      Boxed wr w.heap.size 3 (.int .i64 t) ∧ Below w.heap.size w wr) (fun j _ => l.length - (intOf j).toNat)
  case atStart =>
    refine ⟨0, by omega, rfl, ?_, (Boxed.new _ _ _).alloc _, ((Below.refl _ _).alloc (Nat.le_refl _) _).alloc (by simp) _⟩
    have := World.ownsMap_made (H := Unit) (w.alloc (.cells #[.int .i64 t] 3)) Try.prog 3 (plainElem Try.prog 4)
    rw [World.size_alloc] at this
    exact this
  case round =>
    obtain ⟨p, hp, rfl, hown, hbt, hB⟩ := hrel
    by_cases hlt : p < l.length
    · obtain ⟨b, off, rfl, hb, hc⟩ := hx (by omega)
      have hcx := (hB.cell (p := ⟨b, off + p * 2, none⟩) hb).trans (hc p hlt).1
      have hcy := (hB.cell (p := ⟨b, off + p * 2 + 1, none⟩) hb).trans (hc p hlt).2
      have hr := md_range (pX l p)
      have hwf : (Lit.int .i64 (md (pX l p))).wf = true := WalkArith.wf_i64 (by omega)
      have H1 := Lib.hid (Maps.keyOf_int_mk Try.underlying3 hwf)
      have H2 := Lib.hid hx
      have H3 := Lib.hid hc
      have HB := Lib.hid hbt
      clear hx hc hwf hbt
      gi_wp2_with (first | (refine ⟨trivial, ?_⟩; gi_at_call 12; refine (callsIn_wide.2 (mod_any _ _)).mono ?_; rintro e w' ⟨rfl, rfl⟩) | (gi_at_mapUpdate; refine wpListIn_mapUpdate_own _ rfl _ _ _ 43 rfl 3 4 (Maps.int_keyed Try.underlying3) Try.underlying43 _ (w.heap.size + 1) p _ rfl (hown.alloc _) (by unfold maxLen; omega) _ _ _ rfl rfl H1.out _ [] (plainElem_bool Try.underlying4 true) ?_; intro w1 hown1 hgrow1))
      go_roundw
      case rel =>
        refine ⟨p + 1, by omega, by go_num, ?_, (HB.out.alloc _).kept hgrow1 (by simp), (hB.alloc hB.size _).grown hgrow1 (by have := hB.size; simp; omega) (fun k e => by cases e; omega)⟩
        rw [List.take_succ_eq_append_getElem hlt, List.map_append, List.map_cons, List.map_nil, Maps.setOf_snoc]
        have e : keyL l[p] = .int .i64 (md (pX l p)) := by unfold keyL pX; rw [getD_at _ _ _ hlt]
        rw [e]; exact hown1
      case measure => simp [intOf]; omega
    · obtain rfl : p = l.length := by omega
      rw [List.take_length] at hown
      have hln := hown.len Try.underlying43
      obtain ⟨hs1, hs2⟩ := set_size (H := Unit) l
      generalize Maps.size (Maps.setOf (.lit (.bool true) : DataW Unit) (l.map keyL)) = sz at hln hs1 hs2
      clear hown
      have HX := Lib.hid hx
      clear hx
      by_cases hlt2 : sz < l.length
      · have hdif := hs2.1 hlt2
        have HA : Hid (atV l t = (0, 90)) := Lib.hid (by unfold atV; rw [if_neg (by omega), hdif]; rfl)
        clear hs2 hdif
        gi_wp2
        refine leaves_marks (B := w.heap.size) [] _ (Marks.nil _ _) fun W' hb hc => ⟨_, results_tmp2 rfl _ _ _, ?_, hB.trans hb⟩
        rw [HA.out]
        rfl
      · have hdif : difB l = true := by
          cases h : difB l with
          | true => rfl
          | false => exact absurd (hs2.2 h) hlt2
        have HA : Hid (atV l t = (lag l t, 0)) := Lib.hid (by unfold atV; rw [if_neg (by omega), if_pos hdif])
        clear hs2
        gi_wp2
        refine wpIn_loop (fun a' w' => ∃ (i : Nat) (ds : List Deferred), i ≤ l.length ∧ (Marks w.heap.size w' ds ∧ Boxed w' w.heap.size 3 (.int .i64 t) ∧ Below w.heap.size w w') ∧
          a' = { tmps := #[.slice a l.length cap, .int .i64 t, slot a' 2, .pointer (some ⟨w.heap.size, 0, none⟩), .int .i64 (md (parts l t i)), .int .i64 0, slot a' 6, slot a' 7, slot a' 8, slot a' 9, slot a' 10, slot a' 11, slot a' 12, slot a' 13, slot a' 14, slot a' 15, slot a' 16, slot a' 17, slot a' 18, slot a' 19, slot a' 20, slot a' 21, slot a' 22, slot a' 23, slot a' 24, slot a' 25, slot a' 26, slot a' 27, slot a' 28, slot a' 29, slot a' 30, slot a' 31, slot a' 32, slot a' 33, slot a' 34, slot a' 35, .slice a l.length cap, .int .i64 l.length, .int .i64 i, slot a' 39, slot a' 40, slot a' 41, slot a' 42, slot a' 43, slot a' 44, slot a' 45, slot a' 46, slot a' 47, slot a' 48, slot a' 49, slot a' 50, slot a' 51, slot a' 52, slot a' 53, slot a' 54, slot a' 55, slot a' 56, slot a' 57, slot a' 58, slot a' 59, slot a' 60, slot a' 61, slot a' 62, slot a' 63, slot a' 64, slot a' 65, slot a' 66, slot a' 67, slot a' 68, slot a' 69, slot a' 70, slot a' 71, slot a' 72, slot a' 73, slot a' 74, slot a' 75, slot a' 76, slot a' 77, slot a' 78, slot a' 79, slot a' 80, slot a' 81], defers := ds })
          (fun a' _ => l.length - (intOf (slot a' 38)).toNat) ?start2 ?round2
        case start2 => exact ⟨0, [], by omega, ⟨Marks.nil _ _, hbt, hB⟩, rfl⟩
        case round2 =>
          rintro a' wr2 ⟨i, ds, hi, ⟨hM, hbt2, hB2⟩, ha⟩
          have H38 : Hid (slot a' 38 = .int .i64 i) := (congrArg (fun a => slot a 38) ha).trans rfl
          generalize slot a' = f at ha H38
          subst ha
          by_cases hlt3 : i < l.length
          · obtain ⟨b, off, rfl, hb, hc⟩ := HX.out (by omega)
            have hcx := (hB2.cell (p := ⟨b, off + i * 2, none⟩) hb).trans (hc i hlt3).1
            have hcy := (hB2.cell (p := ⟨b, off + i * 2 + 1, none⟩) hb).trans (hc i hlt3).2
            clear hc
            have hry := md_range (pY l i)
            have HB2 := Lib.hid hbt2
            clear hbt2 hbt
            gi_wp2_with (first | (refine ⟨trivial, ?_⟩; gi_at_call 12; refine (callsIn_wide.2 (mod_any _ _)).mono ?_; rintro e w' ⟨rfl, rfl⟩) | (refine ⟨trivial, ?_⟩; gi_at_call 27; refine (callsIn_wide.2 (others_any _ _ _ _ _)).mono ?_; rintro e w' ⟨rfl, rfl⟩))
            generalize hw3 : World.alloc _ _ = w3
            have hB23 : Below wr2.heap.size wr2 w3 := by rw [← hw3]; exact ((((((Below.refl _ _).alloc (Nat.le_refl _) _).alloc (by simp) _).alloc (by simp; omega) _).alloc (by simp; omega) _).alloc (by simp; omega) _)
            have hsz3 : w3.heap.size = wr2.heap.size + 5 := by rw [← hw3]; simp
            have hp3 : w3.heap[wr2.heap.size]? = some (.cells #[.int .i64 (pX l i), .int .i64 (pY l i)] 38 (0, 0)) := by rw [← hw3]; exact blk_old (blk_old (blk_old (blk_old (blk_new rfl) _) _) _) _
            have ha3 : w3.heap[wr2.heap.size + 1]? = some (.cells #[.int .i64 (md (pY l i))] 3 (0, 0)) := by rw [← hw3]; exact blk_old (blk_old (blk_old (blk_new (by simp)) _) _) _
            have hb3 : w3.heap[wr2.heap.size + 1 + 1]? = some (.cells #[.int .i64 1] 3 (0, 0)) := by rw [← hw3]; exact blk_old (blk_old (blk_new (by simp)) _) _
            have hl3 : Boxed w3 (wr2.heap.size + 1 + 1 + 1) 30 (.slice (some ⟨b, off, none⟩) l.length cap) := by rw [← hw3]; exact blk_old (blk_new (by simp)) _
            have hi3 : Boxed w3 (wr2.heap.size + 1 + 1 + 1 + 1) 3 (.int .i64 i) := by rw [← hw3]; exact blk_new (by simp)
            have ht3 : Boxed w3 w.heap.size 3 (.int .i64 t) := (hB23.block _ HB2.out.lt).trans HB2.out
            have ea : md (pY l i) = aboveK l t i 0 := by unfold aboveK comeX; simp [lprod]
            have eb : (1 : Int) = belowK l i 0 := by unfold belowK comeX; simp [lprod, md]
            rw [ea] at ha3
            rw [eb] at hb3
            clear ea eb hw3
            have hM3 := hM.below hB23 (Nat.le_refl _)
            have hB3 : Below w.heap.size w w3 := hB2.trans (hB23.mono hB2.size)
            obtain ⟨rs, rfl, hnd, hrs⟩ := hM3
            have hsw := hB2.size
            refine range_law (P := Try.prog) wideF_wide rfl (gf := 28) (lb := #[.pointer (some ⟨wr2.heap.size + 1 + 1 + 1, 0, none⟩), .pointer (some ⟨wr2.heap.size + 1 + 1 + 1 + 1, 0, none⟩)]) rfl (enters_of Try.func28 (by kernel_rfl) rfl)
              (others_iter l (.slice (some ⟨b, off, none⟩) l.length cap) i (wr2.heap.size + 1 + 1 + 1) (wr2.heap.size + 1 + 1 + 1 + 1) w.heap.size w3 hlt3 (fun k => k < w.heap.size ∨ k = wr2.heap.size + 1 + 1 + 1 ∨ k = wr2.heap.size + 1 + 1 + 1 + 1) (fun k hk => .inl hk) (hsl.stab (Keeps.of_below hB3 (Nat.le_refl _))) (.inr (.inl rfl)) (.inr (.inr rfl)) hB3.size hl3.cell hi3.cell)
              (Below.refl _ _) (fun _ => rfl) (fun X Y Z h h' => KeepsOn.trans h h') (fun X k o o' _ h h' => KeepsOn.putObj _ o' h h')
              (AtI l t i wr2.heap.size w w3.heap.size rs) (fun _ _ => False) (fun k => atI_calm k hB3.size (fun r hr => (Array.getElem?_eq_some_iff.1 (hrs r hr).2).1)) (fun _ => fun _ _ h _ => h.elim) ⟨⟨hp3, ha3, hb3, ht3⟩, hB3, fun r hr => (hrs r hr).2, Nat.le_refl _⟩
              (fun k a W => (∃ bq, a = { tmps := #[slot a 0, slot a 1, slot a 2, .pointer (some ⟨w.heap.size, 0, none⟩), slot a 4, slot a 5, slot a 6, slot a 7, slot a 8, slot a 9, .pointer (some ⟨wr2.heap.size, 0, none⟩), .pointer (some ⟨wr2.heap.size + 1, 0, none⟩), .pointer (some ⟨wr2.heap.size + 1 + 1, 0, none⟩), .pointer (some ⟨bq, 0, none⟩), slot a 14, slot a 15, slot a 16, slot a 17, slot a 18, slot a 19, slot a 20, slot a 21, slot a 22, slot a 23, slot a 24, slot a 25, slot a 26, slot a 27, slot a 28, slot a 29, slot a 30, slot a 31, slot a 32, slot a 33, slot a 34, slot a 35, slot a 36, slot a 37, slot a 38, slot a 39, slot a 40, slot a 41, slot a 42, slot a 43, slot a 44, slot a 45, slot a 46, slot a 47, slot a 48, slot a 49, slot a 50, slot a 51, slot a 52, slot a 53, slot a 54, slot a 55, slot a 56, slot a 57, slot a 58, slot a 59, slot a 60, slot a 61, slot a 62, slot a 63, slot a 64, slot a 65, slot a 66, slot a 67, slot a 68, slot a 69, slot a 70, slot a 71, slot a 72, slot a 73, slot a 74, slot a 75, slot a 76, slot a 77, slot a 78, slot a 79, slot a 80, slot a 81], defers := [] } ∧ AtQ l i w3.heap.size k bq W) ∧ AtI l t i wr2.heap.size w w3.heap.size rs k W) ?hA ?assign ?body ?done ?stop
            case hA =>
              rintro k a' X Y ⟨⟨bq, e, hq1, hq2⟩, hI⟩ hc
              exact ⟨⟨bq, e, hq1, hc.data _ _ hq2 rfl⟩, atI_calm k hB3.size (fun r hr => (Array.getElem?_eq_some_iff.1 (hrs r hr).2).1) _ _ hI hc⟩
            case assign =>
              rintro l0 k hk W hI
              have e : (l.eraseIdx i)[k] = (pX (l.eraseIdx i) k, pY (l.eraseIdx i) k) := by unfold pX pY; rw [getD_at _ _ _ hk]
              rw [e]
              unfold encPt
              gi_wp2
              refine ⟨⟨⟨W.heap.size, rfl, hI.2.2.2, blk_new rfl⟩, ?_⟩, KeepRec.alloc _ _ _, KeepsOn.alloc _ _ _⟩
              exact atI_below hI hB3.size ((Below.refl _ _).alloc (Nat.le_refl _) _)
            case body =>
              rintro l0 k hk a1 W1 ⟨⟨bq, ha1, hq⟩, hI⟩
              generalize slot a1 = g at ha1
              subst ha1
              gi_wp2
              have hrx := md_range (pX (l.eraseIdx i) k)
              refine region_rgB (WideF.inRound wideF_wide l0) (by kernel_rfl) 82 19 (by rfl) (by kernel_rfl) (by kernel_rfl) (fun i_ v W => match i_ with | 0 => v = .int .i64 (aboveK l t i k) | 1 => v = .int .i64 (t) | 2 => v = .pointer (some ⟨bq, 0, none⟩) | 3 => v = .int .i64 (pX (l.eraseIdx i) k) | 4 => v = .int .i64 (md (pX (l.eraseIdx i) k)) | 5 => v = .int .i64 (-md (pX (l.eraseIdx i) k)) | 6 => IsPair W v (t) (-md (pX (l.eraseIdx i) k)) | 7 => v = .int .i64 (ad t (-md (pX (l.eraseIdx i) k))) | 8 => v = .int .i64 (mu (aboveK l t i k) (ad t (-md (pX (l.eraseIdx i) k)))) | 9 => v = .int .i64 (belowK l i k) | 10 => v = .pointer (some ⟨wr2.heap.size, 0, none⟩) | 11 => v = .int .i64 (pX l i) | 12 => v = .pointer (some ⟨bq, 0, none⟩) | 13 => v = .int .i64 (pX (l.eraseIdx i) k) | 14 => v = .int .i64 (md (pX (l.eraseIdx i) k)) | 15 => v = .int .i64 (-md (pX (l.eraseIdx i) k)) | 16 => IsPair W v (pX l i) (-md (pX (l.eraseIdx i) k)) | 17 => v = .int .i64 (ad (pX l i) (-md (pX (l.eraseIdx i) k))) | 18 => v = .int .i64 (mu (belowK l i k) (ad (pX l i) (-md (pX (l.eraseIdx i) k)))) | _ => True) ?hV ?hstep ?hend
              case hV =>
                intro i' v W W' h hb
                match i', h with
                | 6, h => exact IsPair.kept h hb
                | 16, h => exact IsPair.kept h hb
                | 0, h => exact h
                | 1, h => exact h
                | 2, h => exact h
                | 3, h => exact h
                | 4, h => exact h
                | 5, h => exact h
                | 7, h => exact h
                | 8, h => exact h
                | 9, h => exact h
                | 10, h => exact h
                | 11, h => exact h
                | 12, h => exact h
                | 13, h => exact h
                | 14, h => exact h
                | 15, h => exact h
                | 17, h => exact h
                | 18, h => exact h
                | _ + 19, h => exact h
              case hstep =>
                intro i' o him ho a W hB h1 h2 _
                have hIW := atI_below hI hB3.size hB
                have c1 := hIW.1.2.1.cell
                have c2 := hIW.1.2.2.1.cell
                have c3 := hIW.1.2.2.2.cell
                have c4 : W.cell? ⟨wr2.heap.size, 0, none⟩ = some (.int .i64 (pX l i)) := by simp [World.cell?, hIW.1.1]
                have c5 : W.cell? ⟨bq, 0, none⟩ = some (.int .i64 (pX (l.eraseIdx i) k)) := by simp [World.cell?, (hB.block bq (Array.getElem?_eq_some_iff.1 hq.2).1).trans hq.2]
                match i', him, ho with
                | 0, _, ho =>
                  have hi := ho
                  simp only [List.getElem?_toArray, List.getElem?_cons_zero, Option.some.injEq] at ho
                  subst ho
                  rw [if_pos (by rfl)]
                  refine opv hi [(11, .pointer (some ⟨wr2.heap.size + 1, 0, none⟩))] (by kernel_rfl) rfl (allCons ((h2 11 (by kernel_rfl)).trans rfl) allNil) ?_
                  unfold OpV
                  go_simp; first | exact ⟨rfl, Below.refl _ _⟩ | exact Below.refl _ _
                | 1, _, ho =>
                  have hi := ho
                  simp only [List.getElem?_toArray, List.getElem?_cons_zero, List.getElem?_cons_succ, Option.some.injEq] at ho
                  subst ho
                  rw [if_pos (by rfl)]
                  refine opv hi [(3, .pointer (some ⟨w.heap.size, 0, none⟩))] (by kernel_rfl) rfl (allCons ((h2 3 (by kernel_rfl)).trans rfl) allNil) ?_
                  unfold OpV
                  go_simp; first | exact ⟨rfl, Below.refl _ _⟩ | exact Below.refl _ _
                | 2, _, ho =>
                  have hi := ho
                  simp only [List.getElem?_toArray, List.getElem?_cons_zero, List.getElem?_cons_succ, Option.some.injEq] at ho
                  subst ho
                  rw [if_pos (by rfl)]
                  refine opv hi [(13, .pointer (some ⟨bq, 0, none⟩))] (by kernel_rfl) rfl (allCons ((h2 13 (by kernel_rfl)).trans rfl) allNil) ?_
                  unfold OpV
                  go_simp; first | exact ⟨rfl, Below.refl _ _⟩ | exact Below.refl _ _
                | 3, _, ho =>
                  have hi := ho
                  simp only [List.getElem?_toArray, List.getElem?_cons_zero, List.getElem?_cons_succ, Option.some.injEq] at ho
                  subst ho
                  rw [if_pos (by rfl)]
                  refine opv hi [(52, .pointer (some ⟨bq, 0, none⟩))] (by kernel_rfl) rfl (allCons (h1 52 2 (by kernel_rfl)) allNil) ?_
                  unfold OpV
                  go_simp; first | exact ⟨rfl, Below.refl _ _⟩ | exact Below.refl _ _
                | 4, _, ho =>
                  have hi := ho
                  simp only [List.getElem?_toArray, List.getElem?_cons_zero, List.getElem?_cons_succ, Option.some.injEq] at ho
                  subst ho
                  rw [if_pos (by rfl)]
                  refine opv hi [(53, .int .i64 (pX (l.eraseIdx i) k))] (by kernel_rfl) rfl (allCons (h1 53 3 (by kernel_rfl)) allNil) ?_
                  unfold OpV
                  go_simp; refine (CallsIn.inRound l0 (callsIn_wide.2 (mod_any _ _))).mono ?_; rintro e w' ⟨rfl, rfl⟩; first | exact ⟨rfl, Below.refl _ _⟩ | exact Below.refl _ _
                | 5, _, ho =>
                  have hi := ho
                  simp only [List.getElem?_toArray, List.getElem?_cons_zero, List.getElem?_cons_succ, Option.some.injEq] at ho
                  subst ho
                  rw [if_pos (by rfl)]
                  refine opv hi [(54, .int .i64 (md (pX (l.eraseIdx i) k)))] (by kernel_rfl) rfl (allCons (h1 54 4 (by kernel_rfl)) allNil) ?_
                  unfold OpV
                  go_simp; exact ⟨IntWalk.i64_in _ (by omega), Below.refl _ _⟩
                | 6, _, ho =>
                  have hi := ho
                  simp only [List.getElem?_toArray, List.getElem?_cons_zero, List.getElem?_cons_succ, Option.some.injEq] at ho
                  subst ho
                  rw [if_pos (by rfl)]
                  refine opv hi [(51, .int .i64 (t)), (55, .int .i64 (-md (pX (l.eraseIdx i) k)))] (by kernel_rfl) rfl (allCons (h1 51 1 (by kernel_rfl)) (allCons (h1 55 5 (by kernel_rfl)) allNil)) ?_
                  unfold OpV
                  go_simp; exact ⟨⟨_, rfl, blk_new rfl⟩, (Below.refl _ _).alloc (Nat.le_refl _) _⟩
                | 7, _, ho =>
                  have hi := ho
                  simp only [List.getElem?_toArray, List.getElem?_cons_zero, List.getElem?_cons_succ, Option.some.injEq] at ho
                  subst ho
                  obtain ⟨pb, e56, hpb⟩ := h1 56 6 (by kernel_rfl)
                  rw [if_pos (by rfl)]
                  refine opv hi [(56, .slice (some ⟨pb, 0, none⟩) 2 2)] (by kernel_rfl) rfl (allCons e56 allNil) ?_
                  unfold OpV
                  go_simp; refine (CallsIn.inRound l0 (callsIn_wide.2 (sum_pair ⟨pb, rfl, hpb⟩))).mono ?_; rintro e w' ⟨rfl, rfl⟩; first | exact ⟨rfl, Below.refl _ _⟩ | exact Below.refl _ _
                | 8, _, ho =>
                  have hi := ho
                  simp only [List.getElem?_toArray, List.getElem?_cons_zero, List.getElem?_cons_succ, Option.some.injEq] at ho
                  subst ho
                  rw [if_pos (by rfl)]
                  refine opv hi [(50, .int .i64 (aboveK l t i k)), (57, .int .i64 (ad t (-md (pX (l.eraseIdx i) k))))] (by kernel_rfl) rfl (allCons (h1 50 0 (by kernel_rfl)) (allCons (h1 57 7 (by kernel_rfl)) allNil)) ?_
                  unfold OpV
                  go_simp; refine (CallsIn.inRound l0 (callsIn_wide.2 (mul_any _ _ _))).mono ?_; rintro e w' ⟨rfl, rfl⟩; first | exact ⟨rfl, Below.refl _ _⟩ | exact Below.refl _ _
                | 9, _, ho =>
                  have hi := ho
                  simp only [List.getElem?_toArray, List.getElem?_cons_zero, List.getElem?_cons_succ, Option.some.injEq] at ho
                  subst ho
                  rw [if_pos (by rfl)]
                  refine opv hi [(12, .pointer (some ⟨wr2.heap.size + 1 + 1, 0, none⟩))] (by kernel_rfl) rfl (allCons ((h2 12 (by kernel_rfl)).trans rfl) allNil) ?_
                  unfold OpV
                  go_simp; first | exact ⟨rfl, Below.refl _ _⟩ | exact Below.refl _ _
                | 10, _, ho =>
                  have hi := ho
                  simp only [List.getElem?_toArray, List.getElem?_cons_zero, List.getElem?_cons_succ, Option.some.injEq] at ho
                  subst ho
                  rw [if_pos (by rfl)]
                  refine opv hi [(10, .pointer (some ⟨wr2.heap.size, 0, none⟩))] (by kernel_rfl) rfl (allCons ((h2 10 (by kernel_rfl)).trans rfl) allNil) ?_
                  unfold OpV
                  go_simp; first | exact ⟨rfl, Below.refl _ _⟩ | exact Below.refl _ _
                | 11, _, ho =>
                  have hi := ho
                  simp only [List.getElem?_toArray, List.getElem?_cons_zero, List.getElem?_cons_succ, Option.some.injEq] at ho
                  subst ho
                  rw [if_pos (by rfl)]
                  refine opv hi [(60, .pointer (some ⟨wr2.heap.size, 0, none⟩))] (by kernel_rfl) rfl (allCons (h1 60 10 (by kernel_rfl)) allNil) ?_
                  unfold OpV
                  go_simp; first | exact ⟨rfl, Below.refl _ _⟩ | exact Below.refl _ _
                | 12, _, ho =>
                  have hi := ho
                  simp only [List.getElem?_toArray, List.getElem?_cons_zero, List.getElem?_cons_succ, Option.some.injEq] at ho
                  subst ho
                  rw [if_pos (by rfl)]
                  refine opv hi [(13, .pointer (some ⟨bq, 0, none⟩))] (by kernel_rfl) rfl (allCons ((h2 13 (by kernel_rfl)).trans rfl) allNil) ?_
                  unfold OpV
                  go_simp; first | exact ⟨rfl, Below.refl _ _⟩ | exact Below.refl _ _
                | 13, _, ho =>
                  have hi := ho
                  simp only [List.getElem?_toArray, List.getElem?_cons_zero, List.getElem?_cons_succ, Option.some.injEq] at ho
                  subst ho
                  rw [if_pos (by rfl)]
                  refine opv hi [(62, .pointer (some ⟨bq, 0, none⟩))] (by kernel_rfl) rfl (allCons (h1 62 12 (by kernel_rfl)) allNil) ?_
                  unfold OpV
                  go_simp; first | exact ⟨rfl, Below.refl _ _⟩ | exact Below.refl _ _
                | 14, _, ho =>
                  have hi := ho
                  simp only [List.getElem?_toArray, List.getElem?_cons_zero, List.getElem?_cons_succ, Option.some.injEq] at ho
                  subst ho
                  rw [if_pos (by rfl)]
                  refine opv hi [(63, .int .i64 (pX (l.eraseIdx i) k))] (by kernel_rfl) rfl (allCons (h1 63 13 (by kernel_rfl)) allNil) ?_
                  unfold OpV
                  go_simp; refine (CallsIn.inRound l0 (callsIn_wide.2 (mod_any _ _))).mono ?_; rintro e w' ⟨rfl, rfl⟩; first | exact ⟨rfl, Below.refl _ _⟩ | exact Below.refl _ _
                | 15, _, ho =>
                  have hi := ho
                  simp only [List.getElem?_toArray, List.getElem?_cons_zero, List.getElem?_cons_succ, Option.some.injEq] at ho
                  subst ho
                  rw [if_pos (by rfl)]
                  refine opv hi [(64, .int .i64 (md (pX (l.eraseIdx i) k)))] (by kernel_rfl) rfl (allCons (h1 64 14 (by kernel_rfl)) allNil) ?_
                  unfold OpV
                  go_simp; exact ⟨IntWalk.i64_in _ (by omega), Below.refl _ _⟩
                | 16, _, ho =>
                  have hi := ho
                  simp only [List.getElem?_toArray, List.getElem?_cons_zero, List.getElem?_cons_succ, Option.some.injEq] at ho
                  subst ho
                  rw [if_pos (by rfl)]
                  refine opv hi [(61, .int .i64 (pX l i)), (65, .int .i64 (-md (pX (l.eraseIdx i) k)))] (by kernel_rfl) rfl (allCons (h1 61 11 (by kernel_rfl)) (allCons (h1 65 15 (by kernel_rfl)) allNil)) ?_
                  unfold OpV
                  go_simp; exact ⟨⟨_, rfl, blk_new rfl⟩, (Below.refl _ _).alloc (Nat.le_refl _) _⟩
                | 17, _, ho =>
                  have hi := ho
                  simp only [List.getElem?_toArray, List.getElem?_cons_zero, List.getElem?_cons_succ, Option.some.injEq] at ho
                  subst ho
                  obtain ⟨pb, e66, hpb⟩ := h1 66 16 (by kernel_rfl)
                  rw [if_pos (by rfl)]
                  refine opv hi [(66, .slice (some ⟨pb, 0, none⟩) 2 2)] (by kernel_rfl) rfl (allCons e66 allNil) ?_
                  unfold OpV
                  go_simp; refine (CallsIn.inRound l0 (callsIn_wide.2 (sum_pair ⟨pb, rfl, hpb⟩))).mono ?_; rintro e w' ⟨rfl, rfl⟩; first | exact ⟨rfl, Below.refl _ _⟩ | exact Below.refl _ _
                | 18, _, ho =>
                  have hi := ho
                  simp only [List.getElem?_toArray, List.getElem?_cons_zero, List.getElem?_cons_succ, Option.some.injEq] at ho
                  subst ho
                  rw [if_pos (by rfl)]
                  refine opv hi [(59, .int .i64 (belowK l i k)), (67, .int .i64 (ad (pX l i) (-md (pX (l.eraseIdx i) k))))] (by kernel_rfl) rfl (allCons (h1 59 9 (by kernel_rfl)) (allCons (h1 67 17 (by kernel_rfl)) allNil)) ?_
                  unfold OpV
                  go_simp; refine (CallsIn.inRound l0 (callsIn_wide.2 (mul_any _ _ _))).mono ?_; rintro e w' ⟨rfl, rfl⟩; first | exact ⟨rfl, Below.refl _ _⟩ | exact Below.refl _ _
                | _ + 19, h, _ => exact absurd h (by omega)
              case hend =>
                intro a W hB hdf hsz hv hno _
                have e11 : slot a 11 = .pointer (some ⟨wr2.heap.size + 1, 0, none⟩) := (hno 11 (by decide)).trans rfl
                have e12 : slot a 12 = .pointer (some ⟨wr2.heap.size + 1 + 1, 0, none⟩) := (hno 12 (by decide)).trans rfl
                have e58 : slot a 58 = .int .i64 (mu (aboveK l t i k) (ad t (-md (pX (l.eraseIdx i) k)))) := hv 8 58 (by omega) rfl
                have e68 : slot a 68 = .int .i64 (mu (belowK l i k) (ad (pX l i) (-md (pX (l.eraseIdx i) k)))) := hv 18 68 (by omega) rfl
                have ea := act_eta hsz
                rw [hdf, show (List.range 82).map (slot a) = [slot a 0, slot a 1, slot a 2, slot a 3, slot a 4, slot a 5, slot a 6, slot a 7, slot a 8, slot a 9, slot a 10, slot a 11, slot a 12, slot a 13, slot a 14, slot a 15, slot a 16, slot a 17, slot a 18, slot a 19, slot a 20, slot a 21, slot a 22, slot a 23, slot a 24, slot a 25, slot a 26, slot a 27, slot a 28, slot a 29, slot a 30, slot a 31, slot a 32, slot a 33, slot a 34, slot a 35, slot a 36, slot a 37, slot a 38, slot a 39, slot a 40, slot a 41, slot a 42, slot a 43, slot a 44, slot a 45, slot a 46, slot a 47, slot a 48, slot a 49, slot a 50, slot a 51, slot a 52, slot a 53, slot a 54, slot a 55, slot a 56, slot a 57, slot a 58, slot a 59, slot a 60, slot a 61, slot a 62, slot a 63, slot a 64, slot a 65, slot a 66, slot a 67, slot a 68, slot a 69, slot a 70, slot a 71, slot a 72, slot a 73, slot a 74, slot a 75, slot a 76, slot a 77, slot a 78, slot a 79, slot a 80, slot a 81] from rfl, e11, e12, e58, e68] at ea
                clear e11 e12 e58 e68 hno hv hdf hsz
                generalize slot a = g2 at ea
                subst ea
                have hIW := atI_below hI hB3.size hB
                have c1 := hIW.1.2.1.cell
                have c2 := hIW.1.2.2.1.cell
                have f1 := hIW.1.2.1.frozen
                have f2 := hIW.1.2.2.1.frozen
                change wpListIn _ _ _ _ _ [_, _] _ _
                gi_wp2
                obtain ⟨⟨g1, g2', g3, g4⟩, g5, g6, g7⟩ := hIW
                have hs1 := hB3.size
                have k1 : ∀ r ∈ rs, r ≠ wr2.heap.size + 1 ∧ r ≠ wr2.heap.size + 1 + 1 := fun r hr => by
                  have h1 := g6 r hr
                  constructor
                  · rintro rfl; rw [show W.heap[_]? = _ from g2'] at h1; cases h1
                  · rintro rfl; rw [show W.heap[_]? = _ from g3] at h1; cases h1
                refine ⟨((KeepRec.of_below hB).trans (KeepRec.setCell _ _ _ _)).trans (KeepRec.setCell _ _ _ _), ((KeepsOn.of_below hB).trans (KeepsOn.setCell _ (by simp; omega))).trans (KeepsOn.setCell _ (by simp; omega)), ⟨?_, ?_, ?_, ?_⟩, ?_, ?_, ?_⟩
                · exact blk_set (blk_set g1 _ _ (by simp)) _ _ (by simp; omega)
                · exact blk_set (by rw [← aboveK_succ l t i k hk]; exact Boxed.set _ g2') _ _ (by simp)
                · rw [← belowK_succ l i k hk]; exact Boxed.set (t := 3) (v := .int .i64 (belowK l i k)) _ (blk_set g3 _ _ (by simp))
                · exact blk_set (blk_set g4 _ _ (by simp; omega)) _ _ (by simp; omega)
                · exact (g5.setCell (by simp; omega) _).setCell (by simp; omega) _
                · intro r hr
                  exact blk_set (blk_set (g6 r hr) _ _ (k1 r hr).1) _ _ (k1 r hr).2
                · simpa [World.setCell] using g7
            case done =>
              rintro D W hD hI hK hKR
              have HI := Lib.hid hI
              have h2 := hI.1.2.1.cell
              have h3 := hI.1.2.2.1.cell
              have HM := Lib.hid hK
              have HZ := Lib.hid (at_below l hdif i hlt3)
              have HT := Lib.hid (at_term l t i _ rfl)
              clear hI hK hKR hcx hcy hp3 ha3 hb3 hl3 hi3 ht3
              gi_wp2_with (first | (refine ⟨trivial, ?_⟩; gi_at_call 10; refine (callsIn_wide.2 (inverse_yes _ _ HZ.out)).mono ?_; rintro e w' ⟨rfl, rfl⟩) | (refine ⟨trivial, ?_⟩; gi_at_call 16; refine (callsIn_wide.2 (mul_any _ _ _)).mono ?_; rintro e w' ⟨rfl, rfl⟩) | (refine ⟨trivial, ?_⟩; gi_at_call 26; refine (callsIn_wide.2 (sum_two (md (parts l t i)) (mu (aboveK l t i (l.eraseIdx i).length) (inv (belowK l i (l.eraseIdx i).length))) _ _ _ (by simp) (by simp) rfl)).mono ?_; rintro e w' ⟨rfl, rfl⟩))
              refine ⟨⟨i + 1, _, by omega, ⟨?_, ?_, ?_⟩, by rw [← HT.out]; rfl⟩, ?_⟩
              · obtain ⟨g0, g5, g6, g7⟩ := HI.out
                refine ⟨D :: rs, rfl, List.nodup_cons.2 ⟨fun hm => ?_, hnd⟩, fun r hr => ?_⟩
                · have := (Array.getElem?_eq_some_iff.1 (hrs D hm).2).1
                  omega
                · rcases List.mem_cons.1 hr with rfl | hr
                  · exact ⟨by have := hB3.size; omega, blk_old HM.out _⟩
                  · exact ⟨(hrs r hr).1, blk_old (g6 r hr) _⟩
              · exact HI.out.1.2.2.2.alloc _
              · exact HI.out.2.1.alloc HI.out.2.1.size _
              · rw [H38.out]
                show l.length - ((i : Int) + 1).toNat < l.length - (i : Int).toNat
                omega
            case stop => exact fun D c W _ h => h.elim
          · obtain rfl : i = l.length := by omega
            gi_wp2
            refine leaves_marks ds _ hM fun W' hb hc => ⟨_, results_tmp2 rfl _ _ _, ?_, hB2.trans hb⟩
            rw [HA.out]
            rfl
theorem at_any (l : List (Int × Int)) (v : Value) (t : Int) (w : World) (h : SliceOf lPt w.heap.size w v l) :
    Calls Try.prog 19 #[v, .int .i64 t] w fun e w' => e = .returned (.tuple #[.int .i64 (atV l t).1, .int .i64 (atV l t).2]) ∧ Below w.heap.size w w' := by
  by_cases h1 : 64 < l.length
  · have e : atV l t = (0, 2) := if_pos h1
    rw [e]
    obtain ⟨a, cap, rfl, hm, _⟩ := h.pts
    exact at_limit a l.length cap t w hm h1
  · exact at_rest l v t w h (by omega)
end Go.Proofs.Ytapbfhmmgkjdnaa
