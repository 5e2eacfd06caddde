/-
  The given statement FieldThrough: a polynomial is determined by its values. No condition beyond the row's own.
-/
import Derived.Test.YtapbfhmmgkjdnaaLLaws
import Derived.Test.YtapbfhmmgkjdnaaRGB
import Derived.Test.YtapbfhmmgkjdnaaGrow
namespace Go.Proofs.Ytapbfhmmgkjdnaa
open Go.RowKit
def thr (p : List Int) (q : Int × Int) : Int × Int := (q.1, md (ev p q.1))
theorem thr_dif (p : List Int) (l : List (Int × Int)) : difB (l.map (thr p)) = difB l := by
  unfold difB; rw [List.map_map]; rfl
theorem thr_at (p : List Int) (l : List (Int × Int)) (hlen : l.length ≤ 64) (hd : difB l = true) (hp : p.length ≤ l.length) (t : Int) : atV (l.map (thr p)) t = (md (ev p t), 0) := by
  have hd' := (thr_dif p l).trans hd
  unfold atV
  rw [if_neg (by rw [List.length_map]; omega), if_pos hd', lag_unique _ (dif_of _ hd') (ev p) ⟨p, by rw [List.length_map]; exact hp, fun _ => rfl⟩ (fun j hj => ?_) t]
  have hj' : j < l.length := by rw [List.length_map] at hj; exact hj
  unfold pX pY
  rw [getD_at _ _ _ hj, List.getElem_map]
  unfold thr
  rw [md_md]
theorem atV_self (l : List (Int × Int)) (hlen : l.length ≤ 64) (hd : difB l = true) (k : Nat) (hk : k < l.length) : atV l (pX l k) = (md (pY l k), 0) := by
  unfold atV
  rw [if_neg (by omega), if_pos hd, lag_at l (dif_of l hd) k hk]
theorem pX_range {B : Nat} {w : World} {v : Value} {l : List (Int × Int)} (h : SliceOf lPt B w v l) (k : Nat) (hk : k < l.length) : -9223372036854775808 ≤ pX l k ∧ pX l k ≤ 9223372036854775807 := by
  obtain ⟨a, cap, _, _, _, h3⟩ := h
  obtain ⟨b, off, _, _, h4⟩ := h3 (by omega)
  obtain ⟨vs, h5, _⟩ := h4 k hk
  unfold pX
  rw [getD_at _ _ _ hk]
  exact h5.2.1
theorem one_pt : ∀ (B : Nat) (w : World) (vs : List Value) (y : Int × Int), lPt.rd B w vs y → ∀ u ∈ vs, u.oneCell' = true := fun B w vs y h u hu => by
  have h : vs = [.int .i64 y.1, .int .i64 y.2] ∧ _ := h
  rw [h.1] at hu
  rcases List.mem_cons.1 hu with rfl | hu
  · rfl
  · simp at hu; subst hu; rfl
theorem ptInfo : ElemInfo Try.prog 30 38 2 16 := elemInfo Try.underlying30 infoPt rfl (by omega)
theorem lw_at (l : List (Int × Int)) (v : Value) (t : Int) (w : World) (a b : Int) (h : SliceOf lPt w.heap.size w v l) (e : atV l t = (a, b)) :
    Calls Try.prog 19 #[v, .int .i64 t] w fun e w' => e = .returned (.tuple #[.int .i64 a, .int .i64 b]) ∧ Below w.heap.size w w' := by
  have := at_any l v t w h
  rw [e] at this
  exact this
set_option maxRecDepth 100000 in
set_option maxHeartbeats 4000000 in
theorem fieldThrough_main (l : List (Int × Int)) (p : List Int) (t : Int) (v0 v1 : Value) (w : World) (h0 : SliceOf lPt w.heap.size w v0 l) (h1 : SliceOf lInt w.heap.size w v1 p) (hlen : l.length ≤ 64) (hdif : difB l = true) (hpl : p.length ≤ l.length) :
    Calls Try.prog 6 #[v0, v1, .int .i64 t] w fun e w' => e = .returned (.bool true) ∧ Below w.heap.size w w' := by
  have HS0 := Lib.hid h0
  have HS1 := Lib.hid h1
  obtain ⟨a0, cap0, rfl, hm0, hx0⟩ := h0.pts
  obtain ⟨a1, cap1, rfl, hm1, hx1⟩ := h1.ints
  have HX0 := Lib.hid hx0
  clear h0 h1 hx0 hx1
  have hd1 : decide (64 < (l.length : Int)) = false := by rw [decide_eq_false_iff_not]; omega
  have hd2 : decide (l.length < p.length) = false := by rw [decide_eq_false_iff_not]; omega
  go_enter Try.func6, Try.ntmps6
  go_wp2_with fail
  refine (sane_any _).mono ?_
  rintro e w1 ⟨rfl, hb1⟩
  go_wp2_with fail
  refine (different_any l _ _ (HS0.out.go hb1 (Nat.le_refl _) hb1.size)).mono ?_
  rintro e w2 ⟨rfl, hq2⟩
  have hb2 := hb1.trans (hq2.below _)
  clear hb1 hq2
  rw [hdif]
  go_wp2_with fail
  go_loopw [7, 33] (fun v j wr => ∃ k : Nat, k ≤ l.length ∧ j = .int .i64 k ∧ Grows lPt 38 w.heap.size 0 wr v ((l.take k).map (thr p)) ∧ Below w.heap.size w wr) (fun _ j _ => l.length - (intOf j).toNat)
  case atStart => exact ⟨0, Nat.zero_le _, rfl, Grows.nil _ _ _ _ _, hb2⟩
  case round =>
    obtain ⟨k, hk, rfl, hgr, hB⟩ := hrel
    have HG := Lib.hid hgr
    clear hgr
    by_cases hlt : k < l.length
    · obtain ⟨b, off, rfl, hb, hc⟩ := HX0.out (by omega)
      have hcx := (hB.cell (p := ⟨b, off + k * 2, none⟩) hb).trans (hc k hlt).1
      have hcy := (hB.cell (p := ⟨b, off + k * 2 + 1, none⟩) hb).trans (hc k hlt).2
      have HC := Lib.hid hc
      clear hc
      go_wp2_with fail
      refine (lw_at l _ (pX l k) _ _ _ (HS0.out.go (hB.alloc hB.size _) (Nat.le_refl _) (hB.alloc hB.size _).size) (atV_self l hlen hdif k hlt)).mono ?_
      rintro e w3 ⟨rfl, hb3⟩
      have hcq : w3.cell? ⟨wr.heap.size, 1, none⟩ = some (.int .i64 (pY l k)) := (hb3.cell (by simp)).trans (by simp)
      have hcp : w3.cell? ⟨wr.heap.size, 0, none⟩ = some (.int .i64 (pX l k)) := (hb3.cell (by simp)).trans (by simp)
      go_wp2_with fail
      refine (mod_any _ _).mono ?_
      rintro e w' ⟨rfl, rfl⟩
      go_wp2_with fail
      have hq3 : w3.heap[wr.heap.size]? = some (.cells #[.int .i64 (pX l k), .int .i64 (pY l k)] 38) := (hb3.block wr.heap.size (by simp)).trans (blk_new rfl)
      have hB4 : Below w.heap.size w w3 := (hB.alloc hB.size _).trans (hb3.mono (hB.alloc hB.size _).size)
      have q4 := hB4.size
      have HR1 : Hid (-9223372036854775808 ≤ pX l k ∧ pX l k ≤ 9223372036854775807) := pX_range HS0.out k hlt
      have HR2 : Hid (-9223372036854775808 ≤ md (ev p (pX l k)) ∧ md (ev p (pX l k)) ≤ 9223372036854775807) := by have := md_range (ev p (pX l k)); exact ⟨by omega, by omega⟩
      refine wpIn_wide.1 (region_rgC (n := 0) wideF_wide (by kernel_rfl) 83 9 [53, 54, 55, 56, 57, 58, 59, 60, 61] (by rfl) (by kernel_rfl) (by kernel_rfl) (by kernel_rfl) (fun i_ v W => match i_ with | 0 => v = u7 | 1 => v = .pointer (some ⟨wr.heap.size, 0, none⟩) | 2 => v = .int .i64 (pX l k) | 3 => v = .slice a1 p.length cap1 | 4 => v = .pointer (some ⟨wr.heap.size, 0, none⟩) | 5 => v = .int .i64 (pX l k) | 6 => v = .int .i64 (md (ev p (pX l k))) | 7 => v = .agg #[.int .i64 (pX l k), .int .i64 (md (ev p (pX l k)))] | 8 => SliceOf lPt W.heap.size W v [thr p (pX l k, pY l k)] | _ => True) ?hV ?hstep ?hend)
      case hV =>
        intro i' v W W' h hb
        match i', h with
        | 0, h => exact h
        | 1, h => exact h
        | 2, h => exact h
        | 3, h => exact h
        | 4, h => exact h
        | 5, h => exact h
        | 6, h => exact h
        | 7, h => exact h
        | 8, h => exact h.go hb (Nat.le_refl _) hb.size
        | _ + 9, h => exact h
      case hstep =>
        intro i' o him ho a W hBW h1 h2 _
        have c1 : W.cell? ⟨wr.heap.size, 0, none⟩ = some (.int .i64 (pX l k)) := (hBW.cell (Array.getElem?_eq_some_iff.1 hq3).1).trans hcp
        match i', him, ho with
        | 0, _, ho =>
          have hi := ho
          simp only [List.getElem?_toArray, List.getElem?_cons_zero, Option.some.injEq] at ho
          subst ho
          rw [if_pos (by rfl)]
          refine opv hi [(7, u7)] (by kernel_rfl) rfl (allCons ((h2 7 (by kernel_rfl)).trans rfl) allNil) ?_
          unfold OpV
          go_simp; first | exact ⟨rfl, Below.refl _ _⟩ | exact Below.refl _ _
        | 1, _, ho =>
          have hi := ho
          simp only [List.getElem?_toArray, List.getElem?_cons_zero, List.getElem?_cons_succ, Option.some.injEq] at ho
          subst ho
          rw [if_pos (by rfl)]
          refine opv hi [(9, .pointer (some ⟨wr.heap.size, 0, none⟩))] (by kernel_rfl) rfl (allCons ((h2 9 (by kernel_rfl)).trans rfl) allNil) ?_
          unfold OpV
          go_simp; first | exact ⟨rfl, Below.refl _ _⟩ | exact Below.refl _ _
        | 2, _, ho =>
          have hi := ho
          simp only [List.getElem?_toArray, List.getElem?_cons_zero, List.getElem?_cons_succ, Option.some.injEq] at ho
          subst ho
          rw [if_pos (by rfl)]
          refine opv hi [(54, .pointer (some ⟨wr.heap.size, 0, none⟩))] (by kernel_rfl) rfl (allCons (h1 54 1 (by kernel_rfl)) allNil) ?_
          unfold OpV
          go_simp; first | exact ⟨rfl, Below.refl _ _⟩ | exact Below.refl _ _
        | 3, _, ho =>
          have hi := ho
          simp only [List.getElem?_toArray, List.getElem?_cons_zero, List.getElem?_cons_succ, Option.some.injEq] at ho
          subst ho
          rw [if_pos (by rfl)]
          refine opv hi [(1, .slice a1 p.length cap1)] (by kernel_rfl) rfl (allCons ((h2 1 (by kernel_rfl)).trans rfl) allNil) ?_
          unfold OpV
          go_simp; first | exact ⟨rfl, Below.refl _ _⟩ | exact Below.refl _ _
        | 4, _, ho =>
          have hi := ho
          simp only [List.getElem?_toArray, List.getElem?_cons_zero, List.getElem?_cons_succ, Option.some.injEq] at ho
          subst ho
          rw [if_pos (by rfl)]
          refine opv hi [(9, .pointer (some ⟨wr.heap.size, 0, none⟩))] (by kernel_rfl) rfl (allCons ((h2 9 (by kernel_rfl)).trans rfl) allNil) ?_
          unfold OpV
          go_simp; first | exact ⟨rfl, Below.refl _ _⟩ | exact Below.refl _ _
        | 5, _, ho =>
          have hi := ho
          simp only [List.getElem?_toArray, List.getElem?_cons_zero, List.getElem?_cons_succ, Option.some.injEq] at ho
          subst ho
          rw [if_pos (by rfl)]
          refine opv hi [(57, .pointer (some ⟨wr.heap.size, 0, none⟩))] (by kernel_rfl) rfl (allCons (h1 57 4 (by kernel_rfl)) allNil) ?_
          unfold OpV
          go_simp; first | exact ⟨rfl, Below.refl _ _⟩ | exact Below.refl _ _
        | 6, _, ho =>
          have hi := ho
          simp only [List.getElem?_toArray, List.getElem?_cons_zero, List.getElem?_cons_succ, Option.some.injEq] at ho
          subst ho
          rw [if_pos (by rfl)]
          refine opv hi [(56, .slice a1 p.length cap1), (58, .int .i64 (pX l k))] (by kernel_rfl) rfl (allCons (h1 56 3 (by kernel_rfl)) (allCons (h1 58 5 (by kernel_rfl)) allNil)) ?_
          unfold OpV
          go_simp; refine (callsIn_wide.2 (value_any p _ (pX l k) _ (HS1.out.go (hB4.trans (hBW.mono q4)) (Nat.le_refl _) (hB4.trans (hBW.mono q4)).size))).mono ?_; rintro e w' ⟨rfl, hb'⟩; exact ⟨rfl, hb'⟩
        | 7, _, ho =>
          have hi := ho
          simp only [List.getElem?_toArray, List.getElem?_cons_zero, List.getElem?_cons_succ, Option.some.injEq] at ho
          subst ho
          rw [if_pos (by rfl)]
          refine opv hi [(55, .int .i64 (pX l k)), (59, .int .i64 (md (ev p (pX l k))))] (by kernel_rfl) rfl (allCons (h1 55 2 (by kernel_rfl)) (allCons (h1 59 6 (by kernel_rfl)) allNil)) ?_
          unfold OpV
          go_simp; first | exact ⟨rfl, Below.refl _ _⟩ | exact Below.refl _ _
        | 8, _, ho =>
          have hi := ho
          simp only [List.getElem?_toArray, List.getElem?_cons_zero, List.getElem?_cons_succ, Option.some.injEq] at ho
          subst ho
          rw [if_pos (by rfl)]
          refine opv hi [(60, .agg #[.int .i64 (pX l k), .int .i64 (md (ev p (pX l k)))])] (by kernel_rfl) rfl (allCons (h1 60 7 (by kernel_rfl)) allNil) ?_
          unfold OpV
          go_simp; exact ⟨slice_one (L := lPt) (x := thr p (pX l k, pY l k)) (B := 0) ⟨rfl, HR1.out, HR2.out⟩ _ _ rfl (Nat.zero_le _), (Below.refl _ _).alloc (Nat.le_refl _) _⟩
        | _ + 9, h, _ => exact absurd h (by omega)
      case hend =>
        intro g W hBW hv _
        have e53 : g 53 = u7 := hv 0 53 (by omega) rfl
        have e54 : g 54 = .pointer (some ⟨wr.heap.size, 0, none⟩) := hv 1 54 (by omega) rfl
        have e55 : g 55 = .int .i64 (pX l k) := hv 2 55 (by omega) rfl
        have e56 : g 56 = .slice a1 p.length cap1 := hv 3 56 (by omega) rfl
        have e57 : g 57 = .pointer (some ⟨wr.heap.size, 0, none⟩) := hv 4 57 (by omega) rfl
        have e58 : g 58 = .int .i64 (pX l k) := hv 5 58 (by omega) rfl
        have e59 : g 59 = .int .i64 (md (ev p (pX l k))) := hv 6 59 (by omega) rfl
        have e60 : g 60 = .agg #[.int .i64 (pX l k), .int .i64 (md (ev p (pX l k)))] := hv 7 60 (by omega) rfl
        have e61 := hv 8 61 (by omega) rfl
        have e61 : SliceOf lPt W.heap.size W (g 61) [thr p (pX l k, pY l k)] := e61
        have H61 := Lib.hid e61
        simp only [List.foldl_cons, List.foldl_nil, e53, Act.put, List.setIfInBounds_toArray, List.set_cons_succ, List.set_cons_zero]
        clear e54 e55 e56 e57 e58 e59 e60 e61 hv
        have hB5 : Below w.heap.size w W := hB4.trans (hBW.mono q4)
        have HGW := Lib.hid ((((HG.out.alloc (Nat.zero_le _) _).kept hb3 (Nat.zero_le _)).kept hBW (Nat.zero_le _)))
        change wpListIn _ _ _ _ _ [_, _] _ _
        generalize g = g' at *
        refine wpListIn_grow rfl (.tmp 53) (.tmp 61) 30 rfl rfl rfl ptInfo one_pt HGW.out H61.out (fun _ _ h => h) (Nat.zero_le _) hB5.size ?_ ?_ ?_
        · rw [List.length_map, List.length_take]; simp; omega
        · rw [List.length_map, List.length_take]; unfold maxLen; simp; omega
        intro v' w1 hg1 hgb _
        have hB6 : Below w.heap.size w w1 := hB5.grown hgb hB5.size (fun r hr => (HGW.out.lt r hr).1)
        have H1 := Lib.hid hg1
        have H2 := Lib.hid hB6
        clear hg1 hgb hB6
        gi_wp2
        go_wp2
        go_roundw
        case rel =>
          refine ⟨k + 1, by omega, by go_num, ?_, H2.out⟩
          have e : (l.take (k + 1)).map (thr p) = (l.take k).map (thr p) ++ [thr p (pX l k, pY l k)] := by
            rw [List.take_succ_eq_append_getElem hlt, List.map_append, List.map_cons, List.map_nil]
            congr 2
            unfold pX pY
            rw [getD_at _ _ _ hlt]
          rw [e]
          exact H1.out
        case measure => simp [intOf]; omega
    · obtain rfl : k = l.length := by omega
      rw [List.take_length] at HG
      have hs := HG.out.slice (Nat.zero_le _) (Nat.le_refl wr.heap.size)
      have HV := Lib.hid (HG.out.lt)
      obtain ⟨ao, capo, rfl, hmo, _⟩ := hs.pts
      have HO := Lib.hid hs
      clear hs
      rw [List.length_map] at *
      go_wp2_with fail
      refine (lw_at (l.map (thr p)) _ t _ _ _ HO.out (thr_at p l hlen hdif hpl t)).mono ?_
      rintro e w3 ⟨rfl, hb3⟩
      have hB3 := hB.trans (hb3.mono hB.size)
      go_wp2_with fail
      refine (in_any _ (md_range _) _).mono ?_
      rintro e w' ⟨rfl, rfl⟩
      go_wp2_with fail
      refine (value_any p _ t _ (HS1.out.go hB3 (Nat.le_refl _) hB3.size)).mono ?_
      rintro e w4 ⟨rfl, hb4⟩
      go_wp2_with fail
      go_ret
      exact ⟨rfl, hB3.trans (hb4.mono hB3.size)⟩
set_option maxRecDepth 100000 in
set_option maxHeartbeats 4000000 in
theorem fieldThrough_walk (l : List (Int × Int)) (p : List Int) (t : Int) (v0 v1 : Value) (w : World) (h0 : SliceOf lPt w.heap.size w v0 l) (h1 : SliceOf lInt w.heap.size w v1 p) :
    Calls Try.prog 6 #[v0, v1, .int .i64 t] w fun e w' => e = .returned (.bool true) ∧ Below w.heap.size w w' := by
  by_cases c1 : 64 < l.length
  · obtain ⟨a0, cap0, rfl, hm0, _⟩ := h0.pts
    obtain ⟨a1, cap1, rfl, hm1, _⟩ := h1.ints
    clear h0 h1
    go_enter Try.func6, Try.ntmps6
    go_wp2_with fail
    refine (sane_any _).mono ?_
    rintro e w1 ⟨rfl, hb1⟩
    go_wp2_with fail
    go_ret
    exact ⟨rfl, hb1⟩
  · by_cases c2 : difB l = true
    · by_cases c3 : p.length ≤ l.length
      · exact fieldThrough_main l p t v0 v1 w h0 h1 (by omega) c2 c3
      · have HS0 := Lib.hid h0
        obtain ⟨a0, cap0, rfl, hm0, _⟩ := h0.pts
        obtain ⟨a1, cap1, rfl, hm1, _⟩ := h1.ints
        clear h0 h1
        go_enter Try.func6, Try.ntmps6
        go_wp2_with fail
        refine (sane_any _).mono ?_
        rintro e w1 ⟨rfl, hb1⟩
        go_wp2_with fail
        refine (different_any l _ _ (HS0.out.go hb1 (Nat.le_refl _) hb1.size)).mono ?_
        rintro e w2 ⟨rfl, hq2⟩
        rw [c2]
        go_wp2_with fail
        go_ret
        exact ⟨rfl, hb1.trans (hq2.below _)⟩
    · have c2 : difB l = false := by simpa using c2
      have HS0 := Lib.hid h0
      obtain ⟨a0, cap0, rfl, hm0, _⟩ := h0.pts
      obtain ⟨a1, cap1, rfl, hm1, _⟩ := h1.ints
      clear h0 h1
      go_enter Try.func6, Try.ntmps6
      go_wp2_with fail
      refine (sane_any _).mono ?_
      rintro e w1 ⟨rfl, hb1⟩
      go_wp2_with fail
      refine (different_any l _ _ (HS0.out.go hb1 (Nat.le_refl _) hb1.size)).mono ?_
      rintro e w2 ⟨rfl, hq2⟩
      rw [c2]
      go_wp2_with fail
      go_ret
      exact ⟨rfl, hb1.trans (hq2.below _)⟩

set_option maxRecDepth 100000 in
theorem fieldThrough_lifted (os : Os) (started : os.Started) (H : Type) (enc : TypeId × Value → H) :
    ReturnsInHanded {} Try.checked os 6 .any (Rows.fieldThroughSpec.pre6 enc Try.prog Try.f6 Rows.fieldThroughRow.domain false) (Rows.fieldThroughSpec.post enc Try.prog Try.f6 false true false false) := by
  refine returnsInHanded_of_change (C := Try.checked) own started (by kernel_rfl) Try.func6
    (ChangeSpec.witness6 (enc := enc) (C := Try.checked) false ⟨#[], #[.slice none 0 0, .slice none 0 0, .int .i64 0], []⟩ 8 (by kernel_rfl) (by kernel_rfl) (by kernel_rfl) (by kernel_rfl)) ?_
  intro W base args ds gs before hval hW _ _
  refine law_contract rfl rfl Try.underlying4 laidOut (by kernel_rfl) (fun ds h => ?_) W base args ds gs before hval hW (fun hg => ?_)
  · match ds, h with
    | [d0, d1, d2], _ => rfl
  · obtain ⟨v0, v1, v2, rfl⟩ := args_three hg.1
    obtain ⟨a0, h0⟩ := given_slice (L := lPt) hg 0 rfl rfl Try.underlying30 (by kernel_rfl) (by decide) (readsPt)
    obtain ⟨a1, h1⟩ := given_slice (L := lInt) hg 1 rfl rfl Try.underlying29 (by kernel_rfl) (by decide) (readsInt)
    obtain ⟨a2, rfl, b2⟩ := given_int hg 2 rfl rfl Try.underlying3
    exact fieldThrough_walk a0 a1 a2 v0 v1 W h0 h1
/-- THE STATEMENT. -/
theorem fieldThrough_holds : Rows.FieldThroughSaid :=
  OpenClaim.holds_of_wide 6 Try.f6 rfl rfl rfl rfl rfl rfl rfl ⟨rfl, rfl, rfl, rfl, rfl⟩ rfl rfl rfl rfl rfl (by kernel_rfl) Try.func6 (by kernel_rfl)
    (of_decide_eq_true (by kernel_rfl)) (by unfold Func.isWrapper; first | (rw [if_pos (by decide +kernel)]; kernel_rfl) | (rw [if_neg (by decide +kernel)]; exact ⟨rfl, rfl⟩))
    (fun os started H enc _ => fieldThrough_lifted os started H enc)
#print axioms fieldThrough_holds
end Go.Proofs.Ytapbfhmmgkjdnaa
