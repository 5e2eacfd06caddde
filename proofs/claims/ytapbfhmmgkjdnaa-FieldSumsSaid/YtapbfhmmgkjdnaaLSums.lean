/-
  The given statement FieldSums: values of sums are sums of values, values of multiples are multiples. No condition beyond the row's own.
-/
import Derived.Test.YtapbfhmmgkjdnaaSumsP
namespace Go.Proofs.Ytapbfhmmgkjdnaa
open Go.RowKit
theorem lw_value (l : List Int) (v : Value) (t : Int) (w : World) (s : Int) (h : SliceOf lInt w.heap.size w v l) (e : md (ev l t) = s) : Calls Try.prog 21 #[v, .int .i64 t] w fun e w' => e = .returned (.int .i64 s) ∧ Below w.heap.size w w' := e ▸ value_any l v t w h
set_option maxRecDepth 100000 in
set_option maxHeartbeats 4000000 in
theorem fieldSums_main (a b : List Int) (n t : Int) (v0 v1 : Value) (w : World) (h0 : SliceOf lInt w.heap.size w v0 a) (h1 : SliceOf lInt w.heap.size w v1 b) (hla : a.length ≤ 100) (hlb : b.length ≤ 100) :
    Calls Try.prog 8 #[v0, v1, .int .i64 n, .int .i64 t] w fun e w' => e = .returned (.bool true) ∧ Below w.heap.size w w' := by
  have HS0 := Lib.hid h0
  have HS1 := Lib.hid h1
  obtain ⟨a0, cap0, rfl, hm0, hx0⟩ := h0.ints
  obtain ⟨a1, cap1, rfl, hm1, hx1⟩ := h1.ints
  have HX0 := Lib.hid hx0
  have HX1 := Lib.hid hx1
  clear h0 h1 hx0 hx1
  have hd1 : decide (100 < (a.length : Int)) = false := by rw [decide_eq_false_iff_not]; omega
  have hd2 : decide (100 < (b.length : Int)) = false := by rw [decide_eq_false_iff_not]; omega
  go_enter Try.func8, Try.ntmps8
  go_wp2_with fail
  refine (sane_any _).mono ?_
  rintro e w1 ⟨rfl, hb1⟩
  go_wp2_with fail
  · go_loopw [9, 10, 28] (fun s v j wr => ∃ k : Nat, k ≤ b.length ∧ j = .int .i64 k ∧ Two lInt lInt 3 3 w.heap.size wr s v (sumL a b k) (timL n a k) ∧ Below w.heap.size w wr) (fun _ _ j _ => b.length - (intOf j).toNat)
    case atStart => exact ⟨0, Nat.zero_le _, rfl, ⟨Grows.nil _ _ _ _ _, Grows.nil _ _ _ _ _, .inl rfl⟩, hb1⟩
    case round =>
      obtain ⟨k, hk, rfl, htw, hB⟩ := hrel
      have HTW := Lib.hid htw
      clear htw
      by_cases hlt : k < b.length
      · by_cases ka : k < a.length
        · by_cases kb : k < b.length
          · obtain ⟨b0, o0, rfl, hb0, hc0⟩ := HX0.out (by omega)
            have hca := (hB.cell (p := ⟨b0, o0 + k, none⟩) hb0).trans (hc0 k ka)
            obtain ⟨b1, o1, rfl, hb1', hc1⟩ := HX1.out (by omega)
            have HC1 := Lib.hid (hc1 k kb)
            have hl3 : ((sumL a b k).length + [sumAt a b k].length) * 8 ≤ 140737488355328 := by rw [sumL_length]; simp only [List.length_cons, List.length_nil]; omega
            have hl4 : (sumL a b k).length + [sumAt a b k].length ≤ maxLen := by rw [sumL_length]; unfold maxLen; simp only [List.length_cons, List.length_nil]; omega
            have es : sumAt a b k = ad (gI a k) (gI b k) := if_pos kb
            have HES := Lib.hid es
            have HR : Hid (-9223372036854775808 ≤ ad (gI a k) (gI b k) ∧ ad (gI a k) (gI b k) ≤ 9223372036854775807) := by have := md_range (gI a k + gI b k); rw [ad_eq]; exact ⟨by omega, by omega⟩
            clear es hc0 hc1
            have hBa := hB.alloc hB.size (.cells #[.int .i64 (mu n (gI a k))] 3)
            have HTW1 := Lib.hid (HTW.out.below ((Below.refl _ _).alloc (Nat.le_refl _) (.cells #[.int .i64 (mu n (gI a k))] 3)))
            have HT1 := Lib.hid HTW1.out.2.1
            have hmr := md_range (n * gI a k)
            have HT2 := Lib.hid (slice_one (L := lInt) (w := wr) (x := mu n (gI a k)) (B := 0) (vs := [.int .i64 (mu n (gI a k))]) ⟨rfl, by rw [mu_eq]; exact ⟨by omega, by omega⟩⟩ 3 _ rfl (Nat.zero_le _))
            have hl1 : ((timL n a k).length + [mu n (gI a k)].length) * 8 ≤ 140737488355328 := by have := timL_length n a k; simp only [List.length_cons, List.length_nil]; omega
            have hl2 : (timL n a k).length + [mu n (gI a k)].length ≤ maxLen := by have := timL_length n a k; unfold maxLen; simp only [List.length_cons, List.length_nil]; omega
            clear hmr
            go_wp2_with (first | (go_at_call 16; refine (mul_any _ _ _).mono ?_; rintro e w' ⟨rfl, rfl⟩) | (at_builtin; refine wpList_grow (v := u10) (l := timL n a k) (ys := [mu n (gI a k)]) (B := 0) (B' := wr.heap.size + 1) rfl (.tmp 39) (.tmp 46) 29 rfl rfl rfl intInfo one_int HT1.out HT2.out (fun _ _ h => h) (Nat.zero_le _) hBa.size hl1 hl2 ?_; intro v10 w2 hg hgb hat; have HTW2 := Lib.hid (HTW1.out.right hg hgb hat); have hB2 := hBa.grown hgb hBa.size (fun r hr => (HT1.out.lt r hr).1); clear hg hgb hat; have hcb2 := (hB2.cell (p := ⟨b1, o1 + k, none⟩) hb1').trans HC1.out) | (go_at_call 14; refine (add_any _ _ _).mono ?_; rintro e w3 ⟨rfl, hb3⟩; have hB3 := hB2.trans (hb3.mono hB2.size); have HTW3 := Lib.hid (HTW2.out.below hb3); clear hb3; have hBs := hB3.alloc hB3.size (.cells #[.int .i64 (ad (gI a k) (gI b k))] 3); have HTW4 := Lib.hid (HTW3.out.below ((Below.refl _ _).alloc (Nat.le_refl _) (.cells #[.int .i64 (ad (gI a k) (gI b k))] 3))); have HG4 := Lib.hid HTW4.out.1; have HS4 := Lib.hid (slice_one (L := lInt) (w := w3) (x := sumAt a b k) (B := 0) (vs := [.int .i64 (ad (gI a k) (gI b k))]) (by rw [HES.out]; exact ⟨rfl, HR.out⟩) 3 _ rfl (Nat.zero_le _))) | (at_builtin; refine wpList_grow (v := u9) (l := sumL a b k) (ys := [sumAt a b k]) (B := 0) (B' := w3.heap.size + 1) rfl (.tmp 58) (.tmp 60) 29 rfl rfl rfl intInfo one_int HG4.out HS4.out (fun _ _ h => h) (Nat.zero_le _) hBs.size hl3 hl4 ?_; intro v9 w5 hg hgb hat; have HTW5 := Lib.hid (HTW4.out.left hg hgb hat); have hB5 := hBs.grown hgb hBs.size (fun r hr => (HG4.out.lt r hr).1); clear hg hgb hat))
            go_roundw
            case rel =>
              refine ⟨k + 1, by omega, by go_num, ?_, hB5⟩
              rw [sumL_succ, timL_succ n a k ka]
              exact HTW5.out
            case measure => simp [intOf]; omega
          · exact absurd hlt kb
        · have kb : k < b.length := by omega
          obtain ⟨b1, o1, rfl, hb1', hc1⟩ := HX1.out (by omega)
          have HC1 := Lib.hid (hc1 k kb)
          have hl3 : ((sumL a b k).length + [sumAt a b k].length) * 8 ≤ 140737488355328 := by rw [sumL_length]; simp only [List.length_cons, List.length_nil]; omega
          have hl4 : (sumL a b k).length + [sumAt a b k].length ≤ maxLen := by rw [sumL_length]; unfold maxLen; simp only [List.length_cons, List.length_nil]; omega
          have es : sumAt a b k = ad 0 (gI b k) := (if_pos kb).trans (by rw [gI_out a k (by omega)])
          have HES := Lib.hid es
          have HR : Hid (-9223372036854775808 ≤ ad 0 (gI b k) ∧ ad 0 (gI b k) ≤ 9223372036854775807) := by have := md_range (0 + gI b k); rw [ad_eq]; exact ⟨by omega, by omega⟩
          have hcb2 := (hB.cell (p := ⟨b1, o1 + k, none⟩) hb1').trans HC1.out
          clear es hc1
          go_wp2_with (first | (go_at_call 14; refine (add_any _ _ _).mono ?_; rintro e w3 ⟨rfl, hb3⟩; have hB3 := hB.trans (hb3.mono hB.size); have HTW3 := Lib.hid (HTW.out.below hb3); clear hb3; have hBs := hB3.alloc hB3.size (.cells #[.int .i64 (ad 0 (gI b k))] 3); have HTW4 := Lib.hid (HTW3.out.below ((Below.refl _ _).alloc (Nat.le_refl _) (.cells #[.int .i64 (ad 0 (gI b k))] 3))); have HG4 := Lib.hid HTW4.out.1; have HS4 := Lib.hid (slice_one (L := lInt) (w := w3) (x := sumAt a b k) (B := 0) (vs := [.int .i64 (ad 0 (gI b k))]) (by rw [HES.out]; exact ⟨rfl, HR.out⟩) 3 _ rfl (Nat.zero_le _))) | (at_builtin; refine wpList_grow (v := u9) (l := sumL a b k) (ys := [sumAt a b k]) (B := 0) (B' := w3.heap.size + 1) rfl (.tmp 58) (.tmp 60) 29 rfl rfl rfl intInfo one_int HG4.out HS4.out (fun _ _ h => h) (Nat.zero_le _) hBs.size hl3 hl4 ?_; intro v9 w5 hg hgb hat; have HTW5 := Lib.hid (HTW4.out.left hg hgb hat); have hB5 := hBs.grown hgb hBs.size (fun r hr => (HG4.out.lt r hr).1); clear hg hgb hat))
          go_roundw
          case rel =>
            refine ⟨k + 1, by omega, by go_num, ?_, hB5⟩
            rw [sumL_succ, timL_stay n a k (by omega)]
            exact HTW5.out
          case measure => simp [intOf]; omega
      · obtain rfl : k = b.length := by omega
        have hsv := HTW.out.1.slice (Nat.zero_le _) (Nat.le_refl wr.heap.size)
        have htv := HTW.out.2.1.slice (Nat.zero_le _) (Nat.le_refl wr.heap.size)
        obtain ⟨as_, cs_, hv9, _, _⟩ := hsv.ints
        obtain ⟨at_, ct_, hv10, _, _⟩ := htv.ints
        subst hv9 hv10
        have HV9 := Lib.hid hsv
        have HV10 := Lib.hid htv
        clear hsv htv HTW
        have HE1 : Hid (md (ev (sumL a b (b.length)) t) = ad (md (ev a t)) (md (ev b t))) := Lib.hid (by have := sumL_ev a b t; rwa [show max a.length b.length = b.length from Nat.max_eq_right (by omega)] at this)
        have HE2 : Hid (mu n (md (ev a t)) = md (ev (timL n a (b.length)) t)) := Lib.hid (timL_ev n a _ (by omega) t).symm
        go_wp2_with fail
        refine (lw_value _ _ t _ _ HV9.out HE1.out).mono ?_
        rintro e w3 ⟨rfl, hb3⟩
        have hB3 := hB.trans (hb3.mono hB.size)
        go_wp2_with fail
        refine (value_any a _ t _ (HS0.out.go hB3 (Nat.le_refl _) hB3.size)).mono ?_
        rintro e w4 ⟨rfl, hb4⟩
        have hB4 := hB3.trans (hb4.mono hB3.size)
        go_wp2_with fail
        refine (value_any b _ t _ (HS1.out.go hB4 (Nat.le_refl _) hB4.size)).mono ?_
        rintro e w5 ⟨rfl, hb5⟩
        have hB5 := hB4.trans (hb5.mono hB4.size)
        go_wp2_with fail
        refine (add_any _ _ _).mono ?_
        rintro e w6 ⟨rfl, hb6⟩
        have hB6 := hB5.trans (hb6.mono hB5.size)
        have h36 : Below wr.heap.size wr w6 := ((hb3.trans (hb4.mono hb3.size)).trans (hb5.mono (hb3.trans (hb4.mono hb3.size)).size)).trans (hb6.mono ((hb3.trans (hb4.mono hb3.size)).trans (hb5.mono (hb3.trans (hb4.mono hb3.size)).size)).size)
        go_wp2_with fail
        refine (value_any (timL n a (b.length)) _ t _ (HV10.out.go h36 (Nat.le_refl _) h36.size)).mono ?_
        rintro e w7 ⟨rfl, hb7⟩
        have hB7 := hB6.trans (hb7.mono hB6.size)
        go_wp2_with fail
        refine (value_any a _ t _ (HS0.out.go hB7 (Nat.le_refl _) hB7.size)).mono ?_
        rintro e w8 ⟨rfl, hb8⟩
        have hB8 := hB7.trans (hb8.mono hB7.size)
        go_wp2_with fail
        refine (lw_mul _ _ _ HE2.out _).mono ?_
        rintro e w' ⟨rfl, rfl⟩
        go_wp2_with fail
        go_ret
        exact ⟨rfl, hB8⟩
  · go_loopw [9, 10, 28] (fun s v j wr => ∃ k : Nat, k ≤ a.length ∧ j = .int .i64 k ∧ Two lInt lInt 3 3 w.heap.size wr s v (sumL a b k) (timL n a k) ∧ Below w.heap.size w wr) (fun _ _ j _ => a.length - (intOf j).toNat)
    case atStart => exact ⟨0, Nat.zero_le _, rfl, ⟨Grows.nil _ _ _ _ _, Grows.nil _ _ _ _ _, .inl rfl⟩, hb1⟩
    case round =>
      obtain ⟨k, hk, rfl, htw, hB⟩ := hrel
      have HTW := Lib.hid htw
      clear htw
      by_cases hlt : k < a.length
      · by_cases ka : k < a.length
        · by_cases kb : k < b.length
          · obtain ⟨b0, o0, rfl, hb0, hc0⟩ := HX0.out (by omega)
            have hca := (hB.cell (p := ⟨b0, o0 + k, none⟩) hb0).trans (hc0 k ka)
            obtain ⟨b1, o1, rfl, hb1', hc1⟩ := HX1.out (by omega)
            have HC1 := Lib.hid (hc1 k kb)
            have hl3 : ((sumL a b k).length + [sumAt a b k].length) * 8 ≤ 140737488355328 := by rw [sumL_length]; simp only [List.length_cons, List.length_nil]; omega
            have hl4 : (sumL a b k).length + [sumAt a b k].length ≤ maxLen := by rw [sumL_length]; unfold maxLen; simp only [List.length_cons, List.length_nil]; omega
            have es : sumAt a b k = ad (gI a k) (gI b k) := if_pos kb
            have HES := Lib.hid es
            have HR : Hid (-9223372036854775808 ≤ ad (gI a k) (gI b k) ∧ ad (gI a k) (gI b k) ≤ 9223372036854775807) := by have := md_range (gI a k + gI b k); rw [ad_eq]; exact ⟨by omega, by omega⟩
            clear es hc0 hc1
            have hBa := hB.alloc hB.size (.cells #[.int .i64 (mu n (gI a k))] 3)
            have HTW1 := Lib.hid (HTW.out.below ((Below.refl _ _).alloc (Nat.le_refl _) (.cells #[.int .i64 (mu n (gI a k))] 3)))
            have HT1 := Lib.hid HTW1.out.2.1
            have hmr := md_range (n * gI a k)
            have HT2 := Lib.hid (slice_one (L := lInt) (w := wr) (x := mu n (gI a k)) (B := 0) (vs := [.int .i64 (mu n (gI a k))]) ⟨rfl, by rw [mu_eq]; exact ⟨by omega, by omega⟩⟩ 3 _ rfl (Nat.zero_le _))
            have hl1 : ((timL n a k).length + [mu n (gI a k)].length) * 8 ≤ 140737488355328 := by have := timL_length n a k; simp only [List.length_cons, List.length_nil]; omega
            have hl2 : (timL n a k).length + [mu n (gI a k)].length ≤ maxLen := by have := timL_length n a k; unfold maxLen; simp only [List.length_cons, List.length_nil]; omega
            clear hmr
            go_wp2_with (first | (go_at_call 16; refine (mul_any _ _ _).mono ?_; rintro e w' ⟨rfl, rfl⟩) | (at_builtin; refine wpList_grow (v := u10) (l := timL n a k) (ys := [mu n (gI a k)]) (B := 0) (B' := wr.heap.size + 1) rfl (.tmp 39) (.tmp 46) 29 rfl rfl rfl intInfo one_int HT1.out HT2.out (fun _ _ h => h) (Nat.zero_le _) hBa.size hl1 hl2 ?_; intro v10 w2 hg hgb hat; have HTW2 := Lib.hid (HTW1.out.right hg hgb hat); have hB2 := hBa.grown hgb hBa.size (fun r hr => (HT1.out.lt r hr).1); clear hg hgb hat; have hcb2 := (hB2.cell (p := ⟨b1, o1 + k, none⟩) hb1').trans HC1.out) | (go_at_call 14; refine (add_any _ _ _).mono ?_; rintro e w3 ⟨rfl, hb3⟩; have hB3 := hB2.trans (hb3.mono hB2.size); have HTW3 := Lib.hid (HTW2.out.below hb3); clear hb3; have hBs := hB3.alloc hB3.size (.cells #[.int .i64 (ad (gI a k) (gI b k))] 3); have HTW4 := Lib.hid (HTW3.out.below ((Below.refl _ _).alloc (Nat.le_refl _) (.cells #[.int .i64 (ad (gI a k) (gI b k))] 3))); have HG4 := Lib.hid HTW4.out.1; have HS4 := Lib.hid (slice_one (L := lInt) (w := w3) (x := sumAt a b k) (B := 0) (vs := [.int .i64 (ad (gI a k) (gI b k))]) (by rw [HES.out]; exact ⟨rfl, HR.out⟩) 3 _ rfl (Nat.zero_le _))) | (at_builtin; refine wpList_grow (v := u9) (l := sumL a b k) (ys := [sumAt a b k]) (B := 0) (B' := w3.heap.size + 1) rfl (.tmp 58) (.tmp 60) 29 rfl rfl rfl intInfo one_int HG4.out HS4.out (fun _ _ h => h) (Nat.zero_le _) hBs.size hl3 hl4 ?_; intro v9 w5 hg hgb hat; have HTW5 := Lib.hid (HTW4.out.left hg hgb hat); have hB5 := hBs.grown hgb hBs.size (fun r hr => (HG4.out.lt r hr).1); clear hg hgb hat))
            go_roundw
            case rel =>
              refine ⟨k + 1, by omega, by go_num, ?_, hB5⟩
              rw [sumL_succ, timL_succ n a k ka]
              exact HTW5.out
            case measure => simp [intOf]; omega
          · obtain ⟨b0, o0, rfl, hb0, hc0⟩ := HX0.out (by omega)
            have hca := (hB.cell (p := ⟨b0, o0 + k, none⟩) hb0).trans (hc0 k ka)
            have hl3 : ((sumL a b k).length + [sumAt a b k].length) * 8 ≤ 140737488355328 := by rw [sumL_length]; simp only [List.length_cons, List.length_nil]; omega
            have hl4 : (sumL a b k).length + [sumAt a b k].length ≤ maxLen := by rw [sumL_length]; unfold maxLen; simp only [List.length_cons, List.length_nil]; omega
            have es : sumAt a b k = gI a k := if_neg kb
            have HES := Lib.hid es
            have HR : Hid (-9223372036854775808 ≤ gI a k ∧ gI a k ≤ 9223372036854775807) := gI_range HS0.out k
            clear es hc0
            have hBa := hB.alloc hB.size (.cells #[.int .i64 (mu n (gI a k))] 3)
            have HTW1 := Lib.hid (HTW.out.below ((Below.refl _ _).alloc (Nat.le_refl _) (.cells #[.int .i64 (mu n (gI a k))] 3)))
            have HT1 := Lib.hid HTW1.out.2.1
            have hmr := md_range (n * gI a k)
            have HT2 := Lib.hid (slice_one (L := lInt) (w := wr) (x := mu n (gI a k)) (B := 0) (vs := [.int .i64 (mu n (gI a k))]) ⟨rfl, by rw [mu_eq]; exact ⟨by omega, by omega⟩⟩ 3 _ rfl (Nat.zero_le _))
            have hl1 : ((timL n a k).length + [mu n (gI a k)].length) * 8 ≤ 140737488355328 := by have := timL_length n a k; simp only [List.length_cons, List.length_nil]; omega
            have hl2 : (timL n a k).length + [mu n (gI a k)].length ≤ maxLen := by have := timL_length n a k; unfold maxLen; simp only [List.length_cons, List.length_nil]; omega
            clear hmr
            go_wp2_with (first | (go_at_call 16; refine (mul_any _ _ _).mono ?_; rintro e w' ⟨rfl, rfl⟩) | (at_builtin; refine wpList_grow (v := u10) (l := timL n a k) (ys := [mu n (gI a k)]) (B := 0) (B' := wr.heap.size + 1) rfl (.tmp 39) (.tmp 46) 29 rfl rfl rfl intInfo one_int HT1.out HT2.out (fun _ _ h => h) (Nat.zero_le _) hBa.size hl1 hl2 ?_; intro v10 w2 hg hgb hat; have HTW2 := Lib.hid (HTW1.out.right hg hgb hat); have hB2 := hBa.grown hgb hBa.size (fun r hr => (HT1.out.lt r hr).1); clear hg hgb hat; have hBs := hB2.alloc hB2.size (.cells #[.int .i64 (gI a k)] 3); have HTW4 := Lib.hid (HTW2.out.below ((Below.refl _ _).alloc (Nat.le_refl _) (.cells #[.int .i64 (gI a k)] 3))); have HG4 := Lib.hid HTW4.out.1; have HS4 := Lib.hid (slice_one (L := lInt) (w := w2) (x := sumAt a b k) (B := 0) (vs := [.int .i64 (gI a k)]) (by rw [HES.out]; exact ⟨rfl, HR.out⟩) 3 _ rfl (Nat.zero_le _))) | (at_builtin; refine wpList_grow (v := u9) (l := sumL a b k) (ys := [sumAt a b k]) (B := 0) (B' := w2.heap.size + 1) rfl (.tmp 58) (.tmp 60) 29 rfl rfl rfl intInfo one_int HG4.out HS4.out (fun _ _ h => h) (Nat.zero_le _) hBs.size hl3 hl4 ?_; intro v9 w5 hg hgb hat; have HTW5 := Lib.hid (HTW4.out.left hg hgb hat); have hB5 := hBs.grown hgb hBs.size (fun r hr => (HG4.out.lt r hr).1); clear hg hgb hat))
            go_roundw
            case rel =>
              refine ⟨k + 1, by omega, by go_num, ?_, hB5⟩
              rw [sumL_succ, timL_succ n a k ka]
              exact HTW5.out
            case measure => simp [intOf]; omega
        · exact absurd hlt ka
      · obtain rfl : k = a.length := by omega
        have hsv := HTW.out.1.slice (Nat.zero_le _) (Nat.le_refl wr.heap.size)
        have htv := HTW.out.2.1.slice (Nat.zero_le _) (Nat.le_refl wr.heap.size)
        obtain ⟨as_, cs_, hv9, _, _⟩ := hsv.ints
        obtain ⟨at_, ct_, hv10, _, _⟩ := htv.ints
        subst hv9 hv10
        have HV9 := Lib.hid hsv
        have HV10 := Lib.hid htv
        clear hsv htv HTW
        have HE1 : Hid (md (ev (sumL a b (a.length)) t) = ad (md (ev a t)) (md (ev b t))) := Lib.hid (by have := sumL_ev a b t; rwa [show max a.length b.length = a.length from Nat.max_eq_left (by omega)] at this)
        have HE2 : Hid (mu n (md (ev a t)) = md (ev (timL n a (a.length)) t)) := Lib.hid (timL_ev n a _ (by omega) t).symm
        go_wp2_with fail
        refine (lw_value _ _ t _ _ HV9.out HE1.out).mono ?_
        rintro e w3 ⟨rfl, hb3⟩
        have hB3 := hB.trans (hb3.mono hB.size)
        go_wp2_with fail
        refine (value_any a _ t _ (HS0.out.go hB3 (Nat.le_refl _) hB3.size)).mono ?_
        rintro e w4 ⟨rfl, hb4⟩
        have hB4 := hB3.trans (hb4.mono hB3.size)
        go_wp2_with fail
        refine (value_any b _ t _ (HS1.out.go hB4 (Nat.le_refl _) hB4.size)).mono ?_
        rintro e w5 ⟨rfl, hb5⟩
        have hB5 := hB4.trans (hb5.mono hB4.size)
        go_wp2_with fail
        refine (add_any _ _ _).mono ?_
        rintro e w6 ⟨rfl, hb6⟩
        have hB6 := hB5.trans (hb6.mono hB5.size)
        have h36 : Below wr.heap.size wr w6 := ((hb3.trans (hb4.mono hb3.size)).trans (hb5.mono (hb3.trans (hb4.mono hb3.size)).size)).trans (hb6.mono ((hb3.trans (hb4.mono hb3.size)).trans (hb5.mono (hb3.trans (hb4.mono hb3.size)).size)).size)
        go_wp2_with fail
        refine (value_any (timL n a (a.length)) _ t _ (HV10.out.go h36 (Nat.le_refl _) h36.size)).mono ?_
        rintro e w7 ⟨rfl, hb7⟩
        have hB7 := hB6.trans (hb7.mono hB6.size)
        go_wp2_with fail
        refine (value_any a _ t _ (HS0.out.go hB7 (Nat.le_refl _) hB7.size)).mono ?_
        rintro e w8 ⟨rfl, hb8⟩
        have hB8 := hB7.trans (hb8.mono hB7.size)
        go_wp2_with fail
        refine (lw_mul _ _ _ HE2.out _).mono ?_
        rintro e w' ⟨rfl, rfl⟩
        go_wp2_with fail
        go_ret
        exact ⟨rfl, hB8⟩
set_option maxRecDepth 100000 in
set_option maxHeartbeats 4000000 in
theorem fieldSums_walk (a b : List Int) (n t : Int) (v0 v1 : Value) (w : World) (h0 : SliceOf lInt w.heap.size w v0 a) (h1 : SliceOf lInt w.heap.size w v1 b) :
    Calls Try.prog 8 #[v0, v1, .int .i64 n, .int .i64 t] w fun e w' => e = .returned (.bool true) ∧ Below w.heap.size w w' := by
  by_cases c : a.length ≤ 100 ∧ b.length ≤ 100
  · exact fieldSums_main a b n t v0 v1 w h0 h1 c.1 c.2
  · obtain ⟨a0, cap0, rfl, hm0, _⟩ := h0.ints
    obtain ⟨a1, cap1, rfl, hm1, _⟩ := h1.ints
    clear h0 h1
    by_cases c1 : 100 < a.length
    · clear c
      go_enter Try.func8, Try.ntmps8
      go_wp2_with fail
      refine (sane_any _).mono ?_
      rintro e w1 ⟨rfl, hb1⟩
      go_wp2_with fail
      go_ret
      exact ⟨rfl, hb1⟩
    · have c2 : 100 < b.length := Nat.lt_of_not_le (fun h => c ⟨Nat.le_of_not_lt c1, h⟩)
      clear c
      go_enter Try.func8, Try.ntmps8
      go_wp2_with fail
      refine (sane_any _).mono ?_
      rintro e w1 ⟨rfl, hb1⟩
      go_wp2_with fail
      go_ret
      exact ⟨rfl, hb1⟩

set_option maxRecDepth 100000 in
theorem fieldSums_lifted (os : Os) (started : os.Started) (H : Type) (enc : TypeId × Value → H) :
    ReturnsInHanded {} Try.checked os 8 .any (Rows.fieldSumsSpec.pre6 enc Try.prog Try.f8 Rows.fieldSumsRow.domain false) (Rows.fieldSumsSpec.post enc Try.prog Try.f8 false true false false) := by
  refine returnsInHanded_of_change (C := Try.checked) own started (by kernel_rfl) Try.func8
    (ChangeSpec.witness6 (enc := enc) (C := Try.checked) false ⟨#[], #[.slice none 0 0, .slice none 0 0, .int .i64 0, .int .i64 0], []⟩ 8 (by kernel_rfl) (by kernel_rfl) (by kernel_rfl) (by kernel_rfl)) ?_
  intro W base args ds gs before hval hW _ _
  refine law_contract rfl rfl Try.underlying4 laidOut (by kernel_rfl) (fun ds h => ?_) W base args ds gs before hval hW (fun hg => ?_)
  · match ds, h with
    | [d0, d1, d2, d3], _ => rfl
  · obtain ⟨v0, v1, v2, v3, rfl⟩ := args_four hg.1
    obtain ⟨a0, h0⟩ := given_slice (L := lInt) hg 0 rfl rfl Try.underlying29 (by kernel_rfl) (by decide) (readsInt)
    obtain ⟨a1, h1⟩ := given_slice (L := lInt) hg 1 rfl rfl Try.underlying29 (by kernel_rfl) (by decide) (readsInt)
    obtain ⟨a2, rfl, b2⟩ := given_int hg 2 rfl rfl Try.underlying3
    obtain ⟨a3, rfl, b3⟩ := given_int hg 3 rfl rfl Try.underlying3
    exact fieldSums_walk a0 a1 a2 a3 v0 v1 W h0 h1
/-- THE STATEMENT. -/
theorem fieldSums_holds : Rows.FieldSumsSaid :=
  OpenClaim.holds_of_wide 8 Try.f8 rfl rfl rfl rfl rfl rfl rfl ⟨rfl, rfl, rfl, rfl, rfl⟩ rfl rfl rfl rfl rfl (by kernel_rfl) Try.func8 (by kernel_rfl)
    (of_decide_eq_true (by kernel_rfl)) (by unfold Func.isWrapper; first | (rw [if_pos (by decide +kernel)]; kernel_rfl) | (rw [if_neg (by decide +kernel)]; exact ⟨rfl, rfl⟩))
    (fun os started H enc _ => fieldSums_lifted os started H enc)
#print axioms fieldSums_holds
end Go.Proofs.Ytapbfhmmgkjdnaa

