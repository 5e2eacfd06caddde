/-
  The walks of layer 9 over slices: Value, Different, others, At, and the reference's.
-/
import Derived.Test.YtapbfhmmgkjdnaaW1
import Derived.Test.YtapbfhmmgkjdnaaPoly
import Derived.Test.YtapbfhmmgkjdnaaLay
import Derived.Test.YtapbfhmmgkjdnaaQuiet
namespace Go.Proofs.Ytapbfhmmgkjdnaa
open Go.RowKit
def lPt : Lay (Int × Int) := { k := 2, rd := fun _ _ cs p => cs = [.int .i64 p.1, .int .i64 p.2] ∧ (-9223372036854775808 ≤ p.1 ∧ p.1 ≤ 9223372036854775807) ∧ -9223372036854775808 ≤ p.2 ∧ p.2 ≤ 9223372036854775807, len := fun h => by rw [h.1]; rfl, mono := fun _ h => h, stab := fun _ h => h }
def gI (l : List Int) (i : Nat) : Int := l.getD i 0
theorem SliceOf.ints {B : Nat} {w : World} {v : Value} {l : List Int} (h : SliceOf lInt B w v l) : ∃ a cap, v = .slice a l.length cap ∧ l.length ≤ 9223372036854775807 ∧ (0 < l.length → ∃ b off, a = some ⟨b, off, none⟩ ∧ b < B ∧ ∀ i, i < l.length → w.cell? ⟨b, off + i, none⟩ = some (.int .i64 (gI l i))) := by
  have hb := h.lenBound
  obtain ⟨a, cap, e, h1, h2, h3⟩ := h
  refine ⟨a, cap, e, by unfold maxLen at hb; omega, fun hp => ?_⟩
  obtain ⟨b, off, e', h4, h5⟩ := h3 hp
  exact ⟨b, off, e', h4, fun i hi => by unfold gI; rw [getD_at _ _ _ hi]; exact (h5 i hi).int.1⟩
theorem SliceOf.pts {B : Nat} {w : World} {v : Value} {l : List (Int × Int)} (h : SliceOf lPt B w v l) : ∃ a cap, v = .slice a l.length cap ∧ l.length ≤ 9223372036854775807 ∧ (0 < l.length → ∃ b off, a = some ⟨b, off, none⟩ ∧ b < B ∧ ∀ i, i < l.length → w.cell? ⟨b, off + i * 2, none⟩ = some (.int .i64 (pX l i)) ∧ w.cell? ⟨b, off + i * 2 + 1, none⟩ = some (.int .i64 (pY l i))) := by
  have hb := h.lenBound
  obtain ⟨a, cap, e, h1, h2, h3⟩ := h
  refine ⟨a, cap, e, by unfold maxLen at hb; omega, fun hp => ?_⟩
  obtain ⟨b, off, e', h4, h5⟩ := h3 hp
  refine ⟨b, off, e', h4, fun i hi => ?_⟩
  obtain ⟨vs, ⟨rfl, _⟩, hv⟩ := h5 i hi
  unfold pX pY
  rw [getD_at _ _ _ hi]
  exact ⟨by simpa [lPt] using hv 0 (by decide), by simpa [lPt] using hv 1 (by decide)⟩
theorem ev_take (l : List Int) (k : Nat) (h : k < l.length) (t : Int) : ev (l.take (k + 1)) t = ev (l.take k) t + t ^ k * gI l k := by
  rw [List.take_succ_eq_append_getElem h, ev_snoc, List.length_take, Nat.min_eq_left (by omega), gI, getD_at _ _ _ h]
theorem value_step (l : List Int) (k : Nat) (h : k < l.length) (t p : Int) (hp : md p = md (t ^ k)) : ad (md (ev (l.take k) t)) (mu (gI l k) p) = md (ev (l.take (k + 1)) t) := by
  rw [ad_eq, md_add, mu_eq, md_add_r, ev_take l k h]
  refine md_congr_add rfl ?_
  rw [Int.mul_comm]
  exact md_congr_mul hp rfl
theorem power_step (t p : Int) (k : Nat) (hp : md p = md (t ^ k)) : md (mu p t) = md (t ^ (k + 1)) := by
  rw [mu_eq, md_md, Int.pow_succ]; exact md_congr_mul hp rfl

set_option maxHeartbeats 400000 in
theorem value_any (l : List Int) (v : Value) (t : Int) (w : World) (h : SliceOf lInt w.heap.size w v l) :
    Calls Try.prog 21 #[v, .int .i64 t] w fun e w' => e = .returned (.int .i64 (md (ev l t))) ∧ Below w.heap.size w w' := by
  obtain ⟨a, cap, rfl, hm, hx⟩ := h.ints
  clear h
  go_enter Try.func21, Try.ntmps21
  go_wp2
  go_loopw [4, 5, 10] (fun y p i wr => ∃ (k : Nat) (p' : Int), k ≤ l.length ∧ i = .int .i64 k ∧ y = .int .i64 (md (ev (l.take k) t)) ∧ p = .int .i64 p' ∧ md p' = md (t ^ k) ∧ Below w.heap.size w wr) (fun _ _ i _ => l.length - (intOf i).toNat)
  case atStart => exact ⟨0, 1, by omega, rfl, rfl, rfl, by rw [Int.pow_zero], Below.refl _ _⟩
  case round =>
    obtain ⟨k, p', hk, rfl, rfl, rfl, hp, hB⟩ := hrel
    have HP := Lib.hid hp; clear hp
    by_cases hlt : k < l.length
    · obtain ⟨b, off, rfl, hb, hc⟩ := hx (by omega)
      have hck : wr.cell? ⟨b, off + k, none⟩ = some (.int .i64 (gI l k)) := (hB.cell (p := ⟨b, off + k, none⟩) hb).trans (hc k hlt)
      have H1 := Lib.hid (value_step l k hlt t p' HP.out)
      have H2 := Lib.hid (power_step t p' k HP.out)
      clear hc hx
      go_wp2_with (first | (go_at_call 16; refine (mul_any _ _ _).mono ?_; rintro e w' ⟨rfl, rfl⟩) | (go_at_call 26; refine (sum_two (md (ev (l.take k) t)) (mu (gI l k) p') _ _ _ (by simp) (by simp) rfl).mono ?_; rintro e w' ⟨rfl, rfl⟩))
      go_roundw
      case rel => exact ⟨k + 1, _, by omega, by go_num, by rw [← H1.out], rfl, H2.out, hB.alloc hB.size _⟩
      case measure => simp [intOf]; omega
    · obtain rfl : k = l.length := by omega
      go_wp2
      go_ret
      have HT : Hid (md (ev (l.take l.length) t) = md (ev l t)) := by rw [List.take_length]; rfl
      exact ⟨ret_int HT.out, hB⟩

theorem ev_drop (l : List Int) (k : Nat) (h : k < l.length) (t : Int) : ev (l.drop k) t = gI l k + t * ev (l.drop (k + 1)) t := by
  rw [List.drop_eq_getElem_cons h, gI, getD_at _ _ _ h]; rfl
theorem horner_step (l : List Int) (k : Nat) (h : k < l.length) (t : Int) : ad (mu (md (ev (l.drop (k + 1)) t)) t) (gI l k) = md (ev (l.drop k) t) := by
  rw [ad_eq, mu_eq, md_mul, md_add, ev_drop l k h, Int.mul_comm, Int.add_comm]

set_option maxHeartbeats 400000 in
theorem rvalue_any (l : List Int) (v : Value) (t : Int) (w : World) (h : SliceOf lInt w.heap.size w v l) :
    Calls Try.prog 22 #[v, .int .i64 t] w fun e w' => e = .returned (.int .i64 (md (ev l t))) ∧ Quiet w w' := by
  obtain ⟨a, cap, rfl, hm, hx⟩ := h.ints
  clear h
  have H0 : Hid (md (ev (l.drop l.length) t) = 0) := by rw [List.drop_length]; rfl
  go_enter Try.func22, Try.ntmps22
  go_wp2
  go_loopw [5, 6] (fun y i wr => ∃ (k : Nat), k ≤ l.length ∧ i = .int .i64 ((k : Int) - 1) ∧ y = .int .i64 (md (ev (l.drop k) t)) ∧ Quiet w wr) (fun _ i _ => (intOf i + 1).toNat)
  case atStart => exact ⟨l.length, by omega, rfl, by rw [H0.out], Quiet.refl _⟩
  case round =>
    obtain ⟨k, hk, rfl, rfl, hq⟩ := hrel
    by_cases hlt : 0 < k
    · obtain ⟨j, rfl⟩ : ∃ j, k = j + 1 := ⟨k - 1, by omega⟩
      obtain ⟨b, off, rfl, hb, hc⟩ := hx (by omega)
      have hck := (hq.cell _).trans (hc j (by omega))
      have H1 := Lib.hid (horner_step l j (by omega) t)
      have e1 : ((j + 1 : Nat) : Int) - 1 = j := by omega
      rw [e1]
      clear hc hx
      go_wp2_with fail
      go_quiet ((first | (go_at_call 17; exact quiet_eq (rmul_any _ _ _)) | (go_at_call 15; exact quiet_eq (radd_any _ _ _))))
      go_wp2
      go_roundw
      case rel => exact ⟨j, by omega, rfl, congrArg (Value.int .i64) H1.out, hq.drewN _⟩
      case measure => simp [intOf]
    · obtain rfl : k = 0 := by omega
      go_wp2
      go_ret
      exact ⟨rfl, hq⟩

/-- The first i points have different X. -/
def DifTo (l : List (Int × Int)) (i : Nat) : Prop := ∀ a, a < i → ∀ b, b < a → md (pX l a) ≠ md (pX l b)
/-- Point i has another X than the first k. -/
def DifAt (l : List (Int × Int)) (i k : Nat) : Prop := ∀ b, b < k → md (pX l i) ≠ md (pX l b)
def difB (l : List (Int × Int)) : Bool := decide ((l.map (·.1)).Pairwise fun a b => md a ≠ md b)
theorem ret_bool {a b : Bool} (h : a = b) : Ending.returned (.bool a) = .returned (.bool b) := by rw [h]
theorem dif_yes (l : List (Int × Int)) (h : DifTo l l.length) : difB l = true := by
  refine decide_eq_true (List.pairwise_iff_getElem.2 fun i j hi hj hij => ?_)
  rw [List.length_map] at hi hj
  have := h j hj i hij
  unfold pX at this
  rw [getD_at _ _ _ hi, getD_at _ _ _ hj] at this
  rw [List.getElem_map, List.getElem_map]
  exact Ne.symm this
theorem dif_no (l : List (Int × Int)) (i k : Nat) (hi : i < l.length) (hk : k < i) (h : md (pX l i) = md (pX l k)) : difB l = false := by
  refine decide_eq_false fun hd => ?_
  exact diff_ne l hd i k hi (by omega) (by omega) h
theorem difTo_succ (l : List (Int × Int)) (i : Nat) (h : DifTo l i) (k : DifAt l i i) : DifTo l (i + 1) := fun a ha b hb => by
  by_cases e : a = i
  · subst e; exact k b hb
  · exact h a (by omega) b hb
theorem difAt_succ (l : List (Int × Int)) (i k : Nat) (h : DifAt l i k) (hk : md (pX l i) ≠ md (pX l k)) : DifAt l i (k + 1) := fun b hb => by
  by_cases e : b = k
  · subst e; exact hk
  · exact h b (by omega)

set_option maxHeartbeats 1000000 in
theorem different_any (l : List (Int × Int)) (v : Value) (w : World) (h : SliceOf lPt w.heap.size w v l) :
    Calls Try.prog 24 #[v] w fun e w' => e = .returned (.bool (difB l)) ∧ Quiet w w' := by
  obtain ⟨a, cap, rfl, hm, hx⟩ := h.pts
  clear h
  go_enter Try.func24, Try.ntmps24
  go_wp2
  go_loopw [3] (fun i wr => ∃ (n : Nat), n ≤ l.length ∧ i = .int .i64 n ∧ DifTo l n ∧ Quiet w wr) (fun i _ => (l.length - intOf i).toNat)
  case atStart => exact ⟨0, by omega, rfl, fun a ha => by omega, Quiet.refl _⟩
  case round =>
    obtain ⟨n, hn, rfl, hd, hq⟩ := hrel
    by_cases hlt : n < l.length
    · obtain ⟨b, off, rfl, hb, hc⟩ := hx (by omega)
      have hcn := (hq.cell _).trans (hc n hlt).1
      obtain ⟨wo, ho⟩ : ∃ wo : World, wo = wr := ⟨_, rfl⟩
      rw [← ho] at hq hcn ⊢
      clear ho
      have HC := Lib.hid hc; clear hc
      have HX := Lib.hid hx; clear hx
      go_wp2
      go_loopw [4] (fun i wr => ∃ (k : Nat), k ≤ n ∧ i = .int .i64 k ∧ DifAt l n k ∧ Quiet wo wr) (fun i _ => (n - intOf i).toNat)
      case atStart => exact ⟨0, by omega, rfl, fun a ha => by omega, Quiet.refl _⟩
      case round =>
        obtain ⟨k, hk, rfl, hdk, hqk⟩ := hrel
        by_cases hkn : k < n
        · have hck := (hqk.cell _).trans ((hq.cell _).trans (HC.out k (by omega)).1)
          have hcn' := (hqk.cell _).trans hcn
          clear hcn
          by_cases he : md (pX l n) = md (pX l k)
          · have hb : (md (pX l n) == md (pX l k)) = true := by rw [beq_iff_eq]; exact he
            have H1 := Lib.hid (dif_no l n k hlt hkn he)
            clear he
            go_wp2_with fail
            go_quiet ((go_at_call 13; exact quiet_eq (rmod_any _ _)))
            go_wp2
            go_ret
            exact ⟨ret_bool H1.out.symm, (hq.trans hqk).drewN _⟩
          · have hb : (md (pX l n) == md (pX l k)) = false := by rw [beq_eq_false_iff_ne]; exact he
            have H1 := Lib.hid (difAt_succ l n k hdk he)
            clear he
            go_wp2_with fail
            go_quiet ((go_at_call 13; exact quiet_eq (rmod_any _ _)))
            go_wp2
            go_roundw
            case rel => exact ⟨k + 1, by omega, by go_num, H1.out, hqk.drewN _⟩
            case measure => simp [intOf]; omega
        · obtain rfl : k = n := by omega
          go_wp2
          go_roundw
          case rel => exact ⟨k + 1, by omega, by go_num, difTo_succ l k hd hdk, hq.trans hqk⟩
          case measure => simp [intOf]; omega
    · obtain rfl : n = l.length := by omega
      have H1 := Lib.hid (dif_yes l hd)
      go_wp2
      go_ret
      exact ⟨ret_bool H1.out.symm, hq⟩

theorem ret_two {k k' : IntKind} {a b c d : Int} (h : a = b) (h' : c = d) : Ending.returned (.tuple #[.int k a, .int k' c]) = .returned (.tuple #[.int k b, .int k' d]) := by rw [h, h']
/-- What At answers: the value and the error. -/
def atV (l : List (Int × Int)) (t : Int) : Int × Int := if 64 < l.length then (0, 2) else if difB l = true then (lag l t, 0) else (0, 90)
theorem dif_of (l : List (Int × Int)) (h : difB l = true) : Diff (l.map (·.1)) := by unfold difB at h; rw [decide_eq_true_eq] at h; exact h
/-- The reference's product. -/
def rpart (l : List (Int × Int)) (t : Int) (n k : Nat) : Int := md (pY l n * lprod ((othK l n k).map fun x => t - x) * inv (lprod ((othK l n k).map fun x => pX l n - x)))
theorem rpart_zero (l : List (Int × Int)) (t : Int) (n : Nat) : rpart l t n 0 = md (pY l n) := by
  show md (pY l n * 1 * inv 1) = _
  rw [inv_one, Int.mul_one, Int.mul_one]
theorem rpart_same (l : List (Int × Int)) (t : Int) (n : Nat) : rpart l t n (n + 1) = rpart l t n n := by unfold rpart; rw [othK, if_pos rfl]
theorem rpart_step (l : List (Int × Int)) (t : Int) (n k : Nat) (h : k ≠ n) : mu (rpart l t n k) (mu (ad t (-md (pX l k))) (inv (ad (pX l n) (-md (pX l k))))) = rpart l t n (k + 1) := by
  unfold rpart
  rw [othK, if_neg h]
  exact part_step _ _ _ _ _ _ rfl
theorem rpart_done (l : List (Int × Int)) (t : Int) (n : Nat) (y : Int) (h : y = md (parts l t n)) : ad y (rpart l t n l.length) = md (parts l t (n + 1)) := lag_term l t n y h _ (by unfold rpart; rw [md_md]; rfl)
theorem sub_ne_zero (l : List (Int × Int)) (h : difB l = true) (n k : Nat) (hn : n < l.length) (hk : k < l.length) (e : k ≠ n) : md (ad (pX l n) (-md (pX l k))) ≠ 0 := by
  rw [ad_neg_md]; exact md_sub_ne (diff_ne l (dif_of l h) n k hn hk (Ne.symm e))

set_option maxHeartbeats 1000000 in
theorem rat_ok (l : List (Int × Int)) (v : Value) (t : Int) (w : World) (h : SliceOf lPt w.heap.size w v l) (hlen : l.length ≤ 64) (hdif : difB l = true) :
    Calls Try.prog 20 #[v, .int .i64 t] w fun e w' => e = .returned (.tuple #[.int .i64 (lag l t), .int .i64 0]) ∧ Quiet w w' := by
  have h0 := h
  obtain ⟨a, cap, rfl, hm, hx⟩ := h.pts
  clear h
  have HD := Lib.hid hdif; clear hdif
  have HS := Lib.hid h0; clear h0
  go_enter Try.func20, Try.ntmps20
  go_wp2_with (go_at_call 24; refine (different_any l _ _ HS.out).mono ?_; rintro e w1 ⟨rfl, hq1⟩; rw [HD.out])
  have HX := Lib.hid hx; clear hx
  go_loopw [6, 7] (fun y i wr => ∃ (n : Nat), n ≤ l.length ∧ i = .int .i64 n ∧ y = .int .i64 (md (parts l t n)) ∧ Quiet w wr) (fun _ i _ => (l.length - intOf i).toNat)
  case atStart => exact ⟨0, by omega, rfl, rfl, hq1⟩
  case round =>
    obtain ⟨n, hn, rfl, rfl, hq⟩ := hrel
    by_cases hlt : n < l.length
    · obtain ⟨b, off, rfl, hb, hc⟩ := HX.out (by omega)
      have hcn := (hq.cell _).trans (hc n hlt).1
      have hcy := (hq.cell _).trans (hc n hlt).2
      obtain ⟨wo, ho⟩ : ∃ wo : World, wo = wr := ⟨_, rfl⟩
      rw [← ho] at hq hcn hcy ⊢
      clear ho
      have HC := Lib.hid hc; clear hc
      go_wp2_with (go_at_call 13; refine (rmod_any _ _).mono ?_; rintro e w' ⟨rfl, rfl⟩)
      go_loopw [8, 9] (fun p i wr => ∃ (k : Nat), k ≤ l.length ∧ i = .int .i64 k ∧ p = .int .i64 (rpart l t n k) ∧ Quiet wo wr) (fun _ i _ => (l.length - intOf i).toNat)
      case atStart => exact ⟨0, by omega, rfl, congrArg (Value.int .i64) (rpart_zero l t n).symm, Quiet.refl _⟩
      case round =>
        obtain ⟨k, hk, rfl, rfl, hqk⟩ := hrel
        by_cases hkn : k < l.length
        · by_cases he : k = n
          · subst he
            have H1 := Lib.hid (rpart_same l t k)
            go_wp2
            go_roundw
            case rel => exact ⟨k + 1, by omega, by go_num, congrArg (Value.int .i64) H1.out.symm, hqk⟩
            case measure => simp [intOf]; omega
          · have hck := (hqk.cell _).trans ((hq.cell _).trans (HC.out k (by omega)).1)
            have hcn' := (hqk.cell _).trans hcn
            clear hcn hcy
            have r1 := md_range (pX l k)
            have H1 := Lib.hid (rpart_step l t n k he)
            have H2 := Lib.hid (sub_ne_zero l HD.out n k hlt hkn he)
            have hb : ((k : Int) != (n : Int)) = true := by rw [bne_iff_ne]; omega
            clear he
            go_wp2_with fail
            go_quiet ((first | (go_at_call 13; exact quiet_eq (rmod_any _ _)) | (go_at_call 15; exact quiet_eq (radd_any _ _ _)) | (go_at_call 11; exact quiet_eq (rinverse_yes _ _ H2.out))))
            have hck2 : (wr.drewN nq).cell? ⟨b, off + k * 2, none⟩ = some (.int .i64 (pX l k)) := hck
            go_wp2_with (first | (go_at_call 13; refine (rmod_any _ _).mono ?_; rintro e w' ⟨rfl, rfl⟩) | (go_at_call 15; refine (radd_any _ _ _).mono ?_; rintro e w' ⟨rfl, rfl⟩) | (go_at_call 17; refine (rmul_any _ _ _).mono ?_; rintro e w' ⟨rfl, rfl⟩))
            go_roundw
            case rel => exact ⟨k + 1, by omega, by go_num, congrArg (Value.int .i64) H1.out, hqk.drewN _⟩
            case measure => simp [intOf]; omega
        · obtain rfl : k = l.length := by omega
          have H1 := Lib.hid (rpart_done l t n _ rfl)
          go_wp2_with (go_at_call 15; refine (radd_any _ _ _).mono ?_; rintro e w' ⟨rfl, rfl⟩)
          go_roundw
          case rel => exact ⟨n + 1, by omega, by go_num, congrArg (Value.int .i64) H1.out, hq.trans hqk⟩
          case measure => simp [intOf]; omega
    · obtain rfl : n = l.length := by omega
      go_wp2
      go_ret2
      exact ⟨rfl, hq⟩
theorem rat_any (l : List (Int × Int)) (v : Value) (t : Int) (w : World) (h : SliceOf lPt w.heap.size w v l) :
    Calls Try.prog 20 #[v, .int .i64 t] w fun e w' => e = .returned (.tuple #[.int .i64 (atV l t).1, .int .i64 (atV l t).2]) ∧ Quiet w w' := by
  by_cases h1 : 64 < l.length
  · have e : atV l t = (0, 2) := if_pos h1
    rw [e]
    obtain ⟨a, cap, rfl, hm, hx⟩ := h.pts
    clear e h hx
    go_enter Try.func20, Try.ntmps20
    go_wp2_with fail
    go_ret2
    exact ⟨rfl, Quiet.refl _⟩
  · by_cases h2 : difB l = true
    · have e : atV l t = (lag l t, 0) := by unfold atV; rw [if_neg h1, if_pos h2]
      rw [e]
      exact rat_ok l v t w h (by omega) h2
    · have e : atV l t = (0, 90) := by unfold atV; rw [if_neg h1, if_neg h2]
      rw [e]
      have hs := h
      obtain ⟨a, cap, rfl, hm, hx⟩ := h.pts
      have HD := Lib.hid (Bool.eq_false_iff.2 h2)
      clear e h hx h2
      go_enter Try.func20, Try.ntmps20
      go_wp2_with (go_at_call 24; refine (different_any l _ _ hs).mono ?_; rintro e w1 ⟨rfl, hq1⟩; rw [HD.out])
      go_ret2
      exact ⟨rfl, hq1⟩
end Go.Proofs.Ytapbfhmmgkjdnaa