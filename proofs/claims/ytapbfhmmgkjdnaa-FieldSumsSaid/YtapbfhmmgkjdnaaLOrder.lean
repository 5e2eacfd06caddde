/-
  The given statement FieldOrder: points in another order, and a further one. No condition beyond the row's own.
-/
import Derived.Test.YtapbfhmmgkjdnaaLThrough
import Derived.Test.YtapbfhmmgkjdnaaGrowB
namespace Go.Proofs.Ytapbfhmmgkjdnaa
open Go.RowKit
theorem atV_ok (l : List (Int × Int)) (hlen : l.length ≤ 64) (hd : difB l = true) (t : Int) : atV l t = (lag l t, 0) := by
  unfold atV
  rw [if_neg (by omega), if_pos hd]
theorem dif_perm {l m : List (Int × Int)} (h : l.Perm m) (hd : difB l = true) : difB m = true := by
  unfold difB at *
  rw [decide_eq_true_eq] at *
  exact (h.map (·.1)).pairwise hd (fun {a b} h h' => h h'.symm)
theorem turned_perm (l : List (Int × Int)) (k : Nat) : l.Perm (l.drop k ++ l.take k) := by
  conv => lhs; rw [← List.take_append_drop k l]
  exact List.perm_append_comm
theorem atV_turned (l : List (Int × Int)) (k : Nat) (_hk : k ≤ l.length) (hlen : l.length ≤ 64) (hd : difB l = true) (t : Int) : atV (l.drop k ++ l.take k) t = (lag l t, 0) := by
  have hp := turned_perm l k
  have hd' := dif_perm hp hd
  rw [atV_ok _ (by rw [← hp.length_eq]; exact hlen) hd', lag_unique _ (dif_of _ hd') (lag l) (by rw [← hp.length_eq]; exact lag_deg l) (fun j hj => ?_) t, md_id (lag_range l t).1 (lag_range l t).2]
  have hm : (l.drop k ++ l.take k)[j] ∈ l := hp.mem_iff.2 (List.getElem_mem hj)
  obtain ⟨i, hi, e⟩ := List.getElem_of_mem hm
  have ex : pX (l.drop k ++ l.take k) j = pX l i := by unfold pX; rw [getD_at _ _ _ hj, getD_at _ _ _ hi, e]
  have ey : pY (l.drop k ++ l.take k) j = pY l i := by unfold pY; rw [getD_at _ _ _ hj, getD_at _ _ _ hi, e]
  rw [ex, ey, lag_at l (dif_of l hd) i hi, md_md]
theorem lag_more (l : List (Int × Int)) (x : Int) (hd : difB l = true) (hd' : difB (l ++ [(x, lag l x)]) = true) (t : Int) : lag (l ++ [(x, lag l x)]) t = lag l t := by
  rw [lag_unique _ (dif_of _ hd') (lag l) ((lag_deg l).mono (by rw [List.length_append]; omega)) (fun j hj => ?_) t, md_id (lag_range l t).1 (lag_range l t).2]
  have hj' : j < l.length + 1 := by rw [List.length_append] at hj; exact hj
  by_cases hjl : j < l.length
  · have ex : pX (l ++ [(x, lag l x)]) j = pX l j := by unfold pX; rw [getD_at _ _ _ hj, getD_at _ _ _ hjl, List.getElem_append_left hjl]
    have ey : pY (l ++ [(x, lag l x)]) j = pY l j := by unfold pY; rw [getD_at _ _ _ hj, getD_at _ _ _ hjl, List.getElem_append_left hjl]
    rw [ex, ey, lag_at l (dif_of l hd) j hjl, md_md]
  · obtain rfl : j = l.length := by omega
    have ex : pX (l ++ [(x, lag l x)]) l.length = x := by unfold pX; rw [getD_at _ _ _ hj]; simp
    have ey : pY (l ++ [(x, lag l x)]) l.length = lag l x := by unfold pY; rw [getD_at _ _ _ hj]; simp
    rw [ex, ey]
theorem atV_more (l : List (Int × Int)) (x : Int) (hlen : l.length < 64) (hd : difB l = true) (m : Bool) (hm : difB (l ++ [(x, lag l x)]) = m) (t : Int) : atV (l ++ [(x, lag l x)]) t = (if m then lag l t else 0, if m then 0 else 90) := by
  unfold atV
  rw [if_neg (by rw [List.length_append]; simp; omega), hm]
  cases m
  · rfl
  · rw [if_pos rfl, lag_more l x hd hm]; rfl
set_option maxRecDepth 100000 in
set_option maxHeartbeats 4000000 in
theorem fieldOrder_main (l : List (Int × Int)) (u x t : Int) (v0 : Value) (w : World) (h0 : SliceOf lPt w.heap.size w v0 l) (hu : 0 ≤ u ∧ u ≤ 255) (hlen : l.length < 64) (hpos : 0 < l.length) (hdif : difB l = true) (hbx : -9223372036854775808 ≤ x ∧ x ≤ 9223372036854775807) (m : Bool) (hm : Hid (difB (l ++ [(x, lag l x)]) = m)) :
    Calls Try.prog 7 #[v0, .int .u8 u, .int .i64 x, .int .i64 t] w fun e w' => e = .returned (.bool true) ∧ Below w.heap.size w w' := by
  have HS0 := Lib.hid h0
  obtain ⟨a0, cap0, rfl, hm0, hx0⟩ := h0.pts
  obtain ⟨b, off, rfl, hb, hx⟩ := hx0 hpos
  have HX := Lib.hid hx
  clear h0 hx0 hx
  obtain ⟨k, hk, hkl⟩ : ∃ k : Nat, u.tmod (l.length : Int) = k ∧ k < l.length := ⟨(u % l.length).toNat, by rw [Int.tmod_eq_emod_of_nonneg hu.1]; have := Int.emod_nonneg u (show (l.length : Int) ≠ 0 by omega); omega, by have := Int.emod_lt_of_pos u (show (0 : Int) < l.length by omega); have := Int.emod_nonneg u (show (l.length : Int) ≠ 0 by omega); omega⟩
  have hd1 : decide (64 ≤ (l.length : Int)) = false := by rw [decide_eq_false_iff_not]; omega
  have hcap : l.length ≤ cap0 := by obtain ⟨_, _, e, h, _⟩ := HS0.out; injection e with e1 e2 e3; omega
  go_enter Try.func7, Try.ntmps7
  go_wp2_with fail
  refine (sane_any _).mono ?_
  rintro e w1 ⟨rfl, hb1⟩
  go_wp2_with fail
  refine (different_any l _ _ (HS0.out.go hb1 (Nat.le_refl _) hb1.size)).mono ?_
  rintro e w2 ⟨rfl, hq2⟩
  have hb2 := hb1.trans (hq2.below _)
  clear hb1 hq2
  rw [hdif]
  go_wp2_with fail
  refine wpIn_wide.1 (region_rgC (n := 0) wideF_wide (by kernel_rfl) 112 8 [40, 41, 42, 43, 44, 45, 46, 47] (by rfl) (by kernel_rfl) (by kernel_rfl) (by kernel_rfl) (fun i_ v W => match i_ with | 0 => Grows lPt 38 w.heap.size 0 W v [] ∧ ∃ g, v = .slice (some ⟨g, 0, none⟩) 0 0 | 1 => v = .slice (some ⟨b, off, none⟩) l.length cap0 | 2 => v = .int .i64 k | 3 => v = .slice (some ⟨b, off + k * 2, none⟩) (l.length - k) (cap0 - k) | 4 => Grows lPt 38 w.heap.size 0 W v (l.drop k) | 5 => v = .slice (some ⟨b, off, none⟩) l.length cap0 | 6 => v = .int .i64 k | 7 => v = .slice (some ⟨b, off, none⟩) k cap0 | _ => True) ?hV ?hstep ?hend)
  case hV =>
    intro i' v W W' h hb
    match i', h with
    | 0, h => exact ⟨h.1.kept hb (Nat.zero_le _), h.2⟩
    | 1, h => exact h
    | 2, h => exact h
    | 3, h => exact h
    | 4, h => exact Grows.kept h hb (Nat.zero_le _)
    | 5, h => exact h
    | 6, h => exact h
    | 7, h => exact h
    | _ + 8, h => exact h
  case hstep =>
    intro i' o him ho a W hBW h1 h2 _
    have hqW : w.heap.size ≤ W.heap.size := Nat.le_trans hb2.size hBW.size
    have hkc : k ≤ cap0 := by omega
    have hkl' : k ≤ l.length := by omega
    match i', him, ho with
    | 0, _, ho =>
      have hi := ho
      simp only [List.getElem?_toArray, List.getElem?_cons_zero, Option.some.injEq] at ho
      subst ho
      rw [if_pos (by rfl)]
      refine opv hi [] (by kernel_rfl) rfl allNil ?_
      unfold OpV
      go_simp; exact ⟨Grows.made (L := lPt) _ _ _ _ #[] 0 hqW (by unfold maxLen; omega) rfl, (Below.refl _ _).alloc (Nat.le_refl _) _⟩
    | 1, _, ho =>
      have hi := ho
      simp only [List.getElem?_toArray, List.getElem?_cons_zero, List.getElem?_cons_succ, Option.some.injEq] at ho
      subst ho
      rw [if_pos (by rfl)]
      refine opv hi [(0, .slice (some ⟨b, off, none⟩) l.length cap0)] (by kernel_rfl) rfl (allCons ((h2 0 (by kernel_rfl)).trans rfl) allNil) ?_
      unfold OpV
      go_simp; first | exact ⟨rfl, Below.refl _ _⟩ | exact Below.refl _ _
    | 2, _, ho =>
      have hi := ho
      simp only [List.getElem?_toArray, List.getElem?_cons_zero, List.getElem?_cons_succ, Option.some.injEq] at ho
      subst ho
      rw [if_pos (by rfl)]
      refine opv hi [(9, .int .i64 k)] (by kernel_rfl) rfl (allCons ((h2 9 (by kernel_rfl)).trans rfl) allNil) ?_
      unfold OpV
      go_simp; first | exact ⟨rfl, Below.refl _ _⟩ | exact Below.refl _ _
    | 3, _, ho =>
      have hi := ho
      simp only [List.getElem?_toArray, List.getElem?_cons_zero, List.getElem?_cons_succ, Option.some.injEq] at ho
      subst ho
      rw [if_pos (by rfl)]
      refine opv hi [(41, .slice (some ⟨b, off, none⟩) l.length cap0), (42, .int .i64 k)] (by kernel_rfl) rfl (allCons (h1 41 1 (by kernel_rfl)) (allCons (h1 42 2 (by kernel_rfl)) allNil)) ?_
      unfold OpV
      go_simp; exact ⟨by intro h; omega, Below.refl _ _⟩
    | 4, _, ho =>
      have hi := ho
      simp only [List.getElem?_toArray, List.getElem?_cons_zero, List.getElem?_cons_succ, Option.some.injEq] at ho
      subst ho
      obtain ⟨hg_, g_, e40⟩ := h1 40 0 (by kernel_rfl)
      rw [if_pos (by rfl)]
      refine opv hi [(40, .slice (some ⟨g_, 0, none⟩) 0 0), (43, .slice (some ⟨b, off + k * 2, none⟩) (l.length - k) (cap0 - k))] (by kernel_rfl) rfl (allCons e40 (allCons (h1 43 3 (by kernel_rfl)) allNil)) ?_
      unfold OpV
      rw [e40] at hg_; obtain ⟨v', w', r1, r2, r3, r4⟩ := run_grow_new (P := Try.prog) (ty := 30) ptInfo one_pt rfl (by rw [List.length_drop]; simp; omega) hg_ ((HS0.out.stab (Keeps.of_below (hb2.trans (hBW.mono hb2.size)) (Nat.le_refl _))).dropped rfl (Nat.le_of_lt hkl)) (fun _ _ h => h) (Nat.zero_le _) hqW (by rw [List.length_drop]; simp; omega) (by rw [List.length_drop]; unfold maxLen; simp; omega) (by rw [List.length_drop]; omega); exact opV_append (.tmp 40) (.tmp 43) _ rfl rfl rfl r1 ⟨r2, r3⟩
    | 5, _, ho =>
      have hi := ho
      simp only [List.getElem?_toArray, List.getElem?_cons_zero, List.getElem?_cons_succ, Option.some.injEq] at ho
      subst ho
      rw [if_pos (by rfl)]
      refine opv hi [(0, .slice (some ⟨b, off, none⟩) l.length cap0)] (by kernel_rfl) rfl (allCons ((h2 0 (by kernel_rfl)).trans rfl) allNil) ?_
      unfold OpV
      go_simp; first | exact ⟨rfl, Below.refl _ _⟩ | exact Below.refl _ _
    | 6, _, ho =>
      have hi := ho
      simp only [List.getElem?_toArray, List.getElem?_cons_zero, List.getElem?_cons_succ, Option.some.injEq] at ho
      subst ho
      rw [if_pos (by rfl)]
      refine opv hi [(9, .int .i64 k)] (by kernel_rfl) rfl (allCons ((h2 9 (by kernel_rfl)).trans rfl) allNil) ?_
      unfold OpV
      go_simp; first | exact ⟨rfl, Below.refl _ _⟩ | exact Below.refl _ _
    | 7, _, ho =>
      have hi := ho
      simp only [List.getElem?_toArray, List.getElem?_cons_zero, List.getElem?_cons_succ, Option.some.injEq] at ho
      subst ho
      rw [if_pos (by rfl)]
      refine opv hi [(45, .slice (some ⟨b, off, none⟩) l.length cap0), (46, .int .i64 k)] (by kernel_rfl) rfl (allCons (h1 45 5 (by kernel_rfl)) (allCons (h1 46 6 (by kernel_rfl)) allNil)) ?_
      unfold OpV
      go_simp; first | exact ⟨rfl, Below.refl _ _⟩ | exact Below.refl _ _
    | _ + 8, h, _ => exact absurd h (by omega)
  case hend =>
    intro g W hBW hv _
    have e40 := hv 0 40 (by omega) rfl
    have e41 : g 41 = .slice (some ⟨b, off, none⟩) l.length cap0 := hv 1 41 (by omega) rfl
    have e42 : g 42 = .int .i64 k := hv 2 42 (by omega) rfl
    have e43 : g 43 = .slice (some ⟨b, off + k * 2, none⟩) (l.length - k) (cap0 - k) := hv 3 43 (by omega) rfl
    have e44 := hv 4 44 (by omega) rfl
    have e45 : g 45 = .slice (some ⟨b, off, none⟩) l.length cap0 := hv 5 45 (by omega) rfl
    have e46 : g 46 = .int .i64 k := hv 6 46 (by omega) rfl
    have e47 : g 47 = .slice (some ⟨b, off, none⟩) k cap0 := hv 7 47 (by omega) rfl
    have e44 : Grows lPt 38 w.heap.size 0 W (g 44) (l.drop k) := e44
    have HG := Lib.hid e44
    simp only [List.foldl_cons, List.foldl_nil, e47, Act.put, List.setIfInBounds_toArray, List.set_cons_succ, List.set_cons_zero]
    clear e40 e41 e42 e43 e44 e45 e46 e47 hv
    have hB3 : Below w.heap.size w W := hb2.trans (hBW.mono hb2.size)
    have hkl' : k ≤ l.length := by omega
    change wpListIn _ _ _ _ _ [_, _] _ _
    generalize g = g' at *
    refine wpListIn_grow rfl (.tmp 44) (.tmp 47) 30 rfl rfl rfl ptInfo one_pt HG.out ((HS0.out.stab (Keeps.of_below hB3 (Nat.le_refl _))).taken hkl') (fun _ _ h => h) (Nat.zero_le _) hB3.size ?_ ?_ ?_
    · rw [List.length_drop, List.length_take]; omega
    · rw [List.length_drop, List.length_take]; unfold maxLen; omega
    intro v' w1 hg1 hgb _
    have hB4 : Below w.heap.size w w1 := hB3.grown hgb hB3.size (fun r hr => (HG.out.lt r hr).1)
    have H1 := Lib.hid hg1
    clear hg1 hgb
    gi_wp2
    have hs1 := H1.out.slice (Nat.zero_le _) (Nat.le_refl _)
    obtain ⟨ao, capo, hv', _, _⟩ := hs1.pts
    rw [← (turned_perm l k).length_eq] at hv'
    subst hv'
    have HR := Lib.hid hs1
    clear hs1 H1
    go_wp2_with fail
    refine (lw_at l _ t _ _ _ (HS0.out.go hB4 (Nat.le_refl _) hB4.size) (atV_ok l (by omega) hdif t)).mono ?_
    rintro e w3 ⟨rfl, hb3⟩
    have hB5 := hB4.trans (hb3.mono hB4.size)
    go_wp2_with fail
    refine (lw_at _ _ t _ _ _ (HR.out.go hb3 (Nat.le_refl _) hb3.size) (atV_turned l k (by omega) (by omega) hdif t)).mono ?_
    rintro e w4 ⟨rfl, hb4⟩
    have hB6 := hB5.trans (hb4.mono hB5.size)
    clear hb3 hb4
    go_wp2_with fail
    refine (lw_at l _ x _ _ _ (HS0.out.go hB6 (Nat.le_refl _) hB6.size) (atV_ok l (by omega) hdif x)).mono ?_
    rintro e w5 ⟨rfl, hb5⟩
    have hB7 := hB6.trans (hb5.mono hB6.size)
    clear hb5
    have hB8 := hB7.alloc hB7.size (.cells #[] 38)
    have HA1 := Lib.hid (Grows.made (L := lPt) 38 w.heap.size 0 w5 #[] 0 hB7.size (by unfold maxLen; omega) rfl)
    have HA2 := Lib.hid (HS0.out.stab (Keeps.of_below hB8 (Nat.le_refl _)))
    have HL := Lib.hid (lag_range l x)
    go_wp2_with (first | (at_builtin; refine wpList_grow rfl (.tmp 78) (.tmp 79) 30 rfl rfl rfl ptInfo one_pt HA1.out HA2.out (fun _ _ h => h) (Nat.zero_le _) hB8.size (by simp; omega) (by unfold maxLen; simp; omega) ?_; intro v1 w6 hg1 hgb1 _; have hB9 := hB8.grown hgb1 hB8.size (fun r hr => (HA1.out.lt r hr).1); have HG1 := Lib.hid hg1; clear hg1 hgb1; rw [List.nil_append] at HG1; have HB1 := Lib.hid (HG1.out.alloc (Nat.zero_le _) (.cells #[.int .i64 x, .int .i64 (lag l x)] 38)); have HB2 := Lib.hid (slice_one (L := lPt) (w := w6) (x := (x, lag l x)) (B := 0) ⟨rfl, hbx, by have := HL.out; exact ⟨by omega, by omega⟩⟩ 38 _ rfl (Nat.zero_le _)); have hB10 := hB9.alloc hB9.size (.cells #[.int .i64 x, .int .i64 (lag l x)] 38)) | (at_builtin; refine wpList_grow (v := v1) (l := l) (ys := [(x, lag l x)]) (B := 0) (B' := w6.heap.size + 1) rfl (.tmp 80) (.tmp 84) 30 rfl rfl rfl ptInfo one_pt HB1.out HB2.out (fun _ _ h => h) (Nat.zero_le _) hB10.size (by simp; omega) (by unfold maxLen; simp; omega) ?_; intro v2 w7 hg2 hgb2 _; have hB11 := hB10.grown hgb2 hB10.size (fun r hr => (HB1.out.lt r hr).1); have HG2 := Lib.hid hg2; clear hg2 hgb2))
    have hs2 := HG2.out.slice (Nat.zero_le _) (Nat.le_refl _)
    obtain ⟨am, capm, hvm, _, _⟩ := hs2.pts
    rw [List.length_append] at hvm
    subst hvm
    have HM := Lib.hid hs2
    clear hs2 HG2
    cases m
    · go_wp2_with fail
      refine (lw_at _ _ t _ (0) 90 HM.out (atV_more l x (by omega) hdif _ hm.out t)).mono ?_
      rintro e w8 ⟨rfl, hb8⟩
      have hB12 := hB11.trans (hb8.mono hB11.size)
      go_wp2_with fail
      refine (different_any (l ++ [(x, lag l x)]) _ _ (HM.out.go hb8 (Nat.le_refl _) hb8.size)).mono ?_
      rintro e w9 ⟨rfl, hq9⟩
      have hB13 := hB12.trans (hq9.below _)
      clear hq9 hb8
      rw [hm.out]
      go_wp2_with fail
      go_ret
      exact ⟨rfl, hB13⟩
    · go_wp2_with fail
      refine (lw_at _ _ t _ (lag l t) 0 HM.out (atV_more l x (by omega) hdif _ hm.out t)).mono ?_
      rintro e w8 ⟨rfl, hb8⟩
      have hB12 := hB11.trans (hb8.mono hB11.size)
      go_wp2_with fail
      refine (different_any (l ++ [(x, lag l x)]) _ _ (HM.out.go hb8 (Nat.le_refl _) hb8.size)).mono ?_
      rintro e w9 ⟨rfl, hq9⟩
      have hB13 := hB12.trans (hq9.below _)
      clear hq9 hb8
      rw [hm.out]
      go_wp2_with fail
      go_ret
      exact ⟨rfl, hB13⟩
set_option maxRecDepth 100000 in
set_option maxHeartbeats 4000000 in
theorem fieldOrder_walk (l : List (Int × Int)) (u x t : Int) (v0 : Value) (w : World) (h0 : SliceOf lPt w.heap.size w v0 l) (hu : 0 ≤ u ∧ u ≤ 255) (hbx : -9223372036854775808 ≤ x ∧ x ≤ 9223372036854775807) :
    Calls Try.prog 7 #[v0, .int .u8 u, .int .i64 x, .int .i64 t] w fun e w' => e = .returned (.bool true) ∧ Below w.heap.size w w' := by
  by_cases c1 : 64 ≤ l.length
  · obtain ⟨a0, cap0, rfl, hm0, _⟩ := h0.pts
    clear h0
    go_enter Try.func7, Try.ntmps7
    go_wp2_with fail
    refine (sane_any _).mono ?_
    rintro e w1 ⟨rfl, hb1⟩
    go_wp2_with fail
    go_ret
    exact ⟨rfl, hb1⟩
  · by_cases c2 : difB l = true
    · by_cases c3 : 0 < l.length
      · exact fieldOrder_main l u x t v0 w h0 hu (by omega) c3 c2 hbx _ (Lib.hid rfl)
      · have HS0 := Lib.hid h0
        obtain ⟨a0, cap0, rfl, hm0, _⟩ := h0.pts
        have hz : (l.length : Int) = 0 := by omega
        clear h0
        go_enter Try.func7, Try.ntmps7
        go_wp2_with fail
        refine (sane_any _).mono ?_
        rintro e w1 ⟨rfl, hb1⟩
        go_wp2_with fail
        refine (different_any l _ _ (HS0.out.go hb1 (Nat.le_refl _) hb1.size)).mono ?_
        rintro e w2 ⟨rfl, hq2⟩
        rw [c2]
        go_wp2_with fail
        go_ret
        exact ⟨rfl, hb1.trans (hq2.below _)⟩
    · have c2 : difB l = false := by simpa using c2
      have HS0 := Lib.hid h0
      obtain ⟨a0, cap0, rfl, hm0, _⟩ := h0.pts
      clear h0
      go_enter Try.func7, Try.ntmps7
      go_wp2_with fail
      refine (sane_any _).mono ?_
      rintro e w1 ⟨rfl, hb1⟩
      go_wp2_with fail
      refine (different_any l _ _ (HS0.out.go hb1 (Nat.le_refl _) hb1.size)).mono ?_
      rintro e w2 ⟨rfl, hq2⟩
      rw [c2]
      go_wp2_with fail
      go_ret
      exact ⟨rfl, hb1.trans (hq2.below _)⟩

set_option maxRecDepth 100000 in
theorem fieldOrder_lifted (os : Os) (started : os.Started) (H : Type) (enc : TypeId × Value → H) :
    ReturnsInHanded {} Try.checked os 7 .any (Rows.fieldOrderSpec.pre6 enc Try.prog Try.f7 Rows.fieldOrderRow.domain false) (Rows.fieldOrderSpec.post enc Try.prog Try.f7 false true false false) := by
  refine returnsInHanded_of_change (C := Try.checked) own started (by kernel_rfl) Try.func7
    (ChangeSpec.witness6 (enc := enc) (C := Try.checked) false ⟨#[], #[.slice none 0 0, .int .u8 0, .int .i64 0, .int .i64 0], []⟩ 8 (by kernel_rfl) (by kernel_rfl) (by kernel_rfl) (by kernel_rfl)) ?_
  intro W base args ds gs before hval hW _ _
  refine law_contract rfl rfl Try.underlying4 laidOut (by kernel_rfl) (fun ds h => ?_) W base args ds gs before hval hW (fun hg => ?_)
  · match ds, h with
    | [d0, d1, d2, d3], _ => rfl
  · obtain ⟨v0, v1, v2, v3, rfl⟩ := args_four hg.1
    obtain ⟨a0, h0⟩ := given_slice (L := lPt) hg 0 rfl rfl Try.underlying30 (by kernel_rfl) (by decide) (readsPt)
    obtain ⟨a1, rfl, b1⟩ := given_u8 hg 1 rfl rfl Try.underlying5
    obtain ⟨a2, rfl, b2⟩ := given_int hg 2 rfl rfl Try.underlying3
    obtain ⟨a3, rfl, b3⟩ := given_int hg 3 rfl rfl Try.underlying3
    exact fieldOrder_walk a0 a1 a2 a3 v0 W h0 b1 b2
/-- THE STATEMENT. -/
theorem fieldOrder_holds : Rows.FieldOrderSaid :=
  OpenClaim.holds_of_wide 7 Try.f7 rfl rfl rfl rfl rfl rfl rfl ⟨rfl, rfl, rfl, rfl, rfl⟩ rfl rfl rfl rfl rfl (by kernel_rfl) Try.func7 (by kernel_rfl)
    (of_decide_eq_true (by kernel_rfl)) (by unfold Func.isWrapper; first | (rw [if_pos (by decide +kernel)]; kernel_rfl) | (rw [if_neg (by decide +kernel)]; exact ⟨rfl, rfl⟩))
    (fun os started H enc _ => fieldOrder_lifted os started H enc)
#print axioms fieldOrder_holds
end Go.Proofs.Ytapbfhmmgkjdnaa
