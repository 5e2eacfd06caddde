/-
 Layer 01, in plain Lean: what is small enough to be looked at.
-/
import Derived.Test.YtmjaehondldaaaaL
import Derived.Test.YtmjaehondldaaaaPure
import Derived.KernelRfl
namespace Go.Proofs.Ytmjaehondldaaaa
set_option linter.unusedVariables false
set_option linter.unusedSimpArgs false
set_option maxRecDepth 100000
set_option maxHeartbeats 4000000
theorem fu : fuel0 = 1208925819614629174706176 := rfl
theorem sane10 : G10 = some true := by kernel_rfl
mutual
def nod : S_Value -> Nat
 | .mk _ _ s l => 1 + s.size / 200 + nods l
def nods : List S_Value -> Nat
 | [] => 0
 | x :: r => nod x + nods r
end
theorem nod_eq (v : S_Value) : nod v = 1 + v.S.size / 200 + nods v.L := by cases v; rw [nod]
theorem nod_pos (v : S_Value) : 1 <= nod v := by rw [nod_eq]; omega
theorem nods_nil : nods [] = 0 := by rw [nods]
theorem nods_cons (x : S_Value) (r : List S_Value) : nods (x :: r) = nod x + nods r := by rw [nods]
theorem nods_len : ∀ l : List S_Value, l.length <= nods l
 | [] => Nat.zero_le _
 | x :: r => by rw [nods_cons, List.length_cons]; have := nods_len r; have := nod_pos x; omega
theorem nods_mem : ∀ {l : List S_Value} {x : S_Value}, x ∈ l -> nod x <= nods l
 | y :: r, x, h => by
  rw [nods_cons]
  rcases List.mem_cons.1 h with rfl | h
  ·omega
  ·have := nods_mem h; omega
def goC (c : S_Value -> Nat) : Nat -> List S_Value -> Nat
 | s, [] => s
 | s, e :: r => if s <= 1000 then goC c (s + c e) r else s
def cnt : Nat -> S_Value -> Nat
 | 0, _ => 1000
 | k + 1, v => if 150 < v.L.length then 1000 else goC (cnt k) (1 + v.S.size / 200) v.L
theorem goC_bd {c : S_Value -> Nat} {B : Nat} : ∀ {l : List S_Value} {s : Nat}, (∀ e ∈ l, c e <= B) -> goC c s l <= max s (1000 + B)
 | [], s, _ => Nat.le_max_left _ _
 | e :: r, s, h => by
  unfold goC
  split
  ·have h1 := goC_bd (c := c) (B := B) (l := r) (s := s + c e) fun x hx => h x (List.mem_cons_of_mem _ hx)
   have h2 := h e (List.mem_cons_self ..)
   omega
  ·exact Nat.le_max_left _ _
theorem cnt_bd : ∀ (k : Nat) (v : S_Value), ok_S_Value v -> cnt k v <= 46116860184273881 + 1000 * k
 | 0, v, _ => by unfold cnt; omega
 | k + 1, v, h => by
  obtain ⟨_, _, h3, _, h4⟩ := (okq_S_Value v).1 h
  unfold cnt
  split
  ·omega
  ·have h1 := goC_bd (c := cnt k) (B := 46116860184273881 + 1000 * k) (l := v.L) (s := 1 + v.S.size / 200) fun e he => cnt_bd k e (h4 e he)
   have h2 : v.S.size / 200 <= 46116860184273879 := by unfold maxL at h3; omega
   omega
theorem goC_le {c : S_Value -> Nat} : ∀ {l : List S_Value} {s : Nat}, goC c s l <= 200 -> (∀ e ∈ l, c e <= 200 -> c e = nod e) -> goC c s l = s + nods l
 | [], s, _, _ => by rw [nods_nil]; rfl
 | e :: r, s, h, he => by
  unfold goC at h ⊢
  split at h
  ·rename_i hs
   rw [if_pos hs]
   have h1 : s + c e <= goC c (s + c e) r := by
    clear h he hs
    generalize s + c e = t
    induction r generalizing t with
    | nil => exact Nat.le_refl _
    | cons x r ih =>
     unfold goC
     split
     ·exact Nat.le_trans (Nat.le_add_right _ _) (ih _)
     ·exact Nat.le_refl _
   rw [goC_le h fun x hx => he x (List.mem_cons_of_mem _ hx), he e (List.mem_cons_self ..) (by omega), nods_cons]
   omega
  ·omega
theorem cnt_nod : ∀ (k : Nat) (v : S_Value), cnt k v <= 200 -> cnt k v = nod v
 | 0, v, h => by unfold cnt at h; omega
 | k + 1, v, h => by
  unfold cnt at h ⊢
  split at h
  ·omega
  ·rename_i hl
   rw [if_neg hl, goC_le h fun e _ he => cnt_nod k e he, nod_eq]
theorem loop36 (self : S_Value -> Int -> Option Int) (n : Nat) (d z : Int) (v : S_Value) (c : S_Value -> Nat) (B : Nat) (hB : B <= 46116860184373881) (hl : v.L.length <= 150) (hd : -1 <= d - 1 /\ d <= 1000)
  (hself : ∀ e ∈ v.L, self e (d - 1) = some (c e : Int) /\ c e <= B) : ∀ (k m i s : Nat), i + k = v.L.length -> k < m -> s <= 1000 + B -> F36_36_0 self n d z v m (s : Int) (i : Int) = some ((goC c s (v.L.drop i) : Nat) : Int)
 | 0, m, i, s, h1, h2, h3 => by
  obtain ⟨m, rfl⟩ : ∃ q, m = q + 1 := ⟨m - 1, by omega⟩
  rw [F36_36_0, decide_eq_false (by omega), List.drop_eq_nil_iff.2 (by omega)]
  rfl
 | k + 1, m, i, s, h1, h2, h3 => by
  obtain ⟨m, rfl⟩ : ∃ q, m = q + 1 := ⟨m - 1, by omega⟩
  have hi : i < v.L.length := by omega
  obtain ⟨h4, h5⟩ := hself v.L[i] (List.getElem_mem hi)
  rw [F36_36_0, decide_eq_true (by omega), List.drop_eq_getElem_cons hi]
  unfold goC
  simp only [cond_true, Option.bind_some]
  by_cases hs : s <= 1000
  ·rw [decide_eq_true (by omega), if_pos hs]
   simp only [cond_true, getI_nat, List.getElem?_eq_getElem hi, Option.bind_some]
   rw [wr64 (by omega) (by omega), h4]
   simp only [Option.bind_some]
   rw [wr64 (by omega) (by omega), wr64 (by omega) (by omega), show (s : Int) + (c v.L[i] : Int) = ((s + c v.L[i] : Nat) : Int) by omega, show (i : Int) + 1 = ((i + 1 : Nat) : Int) by omega]
   exact loop36 self n d z v c B hB hl hd hself k m (i + 1) _ (by omega) (by omega) (by omega)
  ·rw [decide_eq_false (by omega), if_neg hs]
   rfl
theorem r36 : ∀ (k q : Nat) (v : S_Value), k < q -> k <= 21 -> ok_S_Value v -> R36 q v ((k : Int) - 1) = some ((cnt k v : Nat) : Int)
 | k, 0, v, h, _, _ => by omega
 | 0, q + 1, v, _, _, hv => by
  show F36 (R36 q) fuel0 v _ = _
  unfold F36 cnt
  rw [decide_eq_true (by omega)]
  rfl
 | k + 1, q + 1, v, h, hk, hv => by
  obtain ⟨_, _, h3, h5, h4⟩ := (okq_S_Value v).1 hv
  show F36 (R36 q) fuel0 v _ = _
  unfold F36 cnt
  rw [decide_eq_false (by omega)]
  simp only [cond_false, Option.bind_some]
  by_cases hl : 150 < v.L.length
  ·rw [decide_eq_true (by omega), if_pos hl]; rfl
  ·rw [decide_eq_false (by omega), if_neg hl]
   have h2 : v.S.size / 200 <= 46116860184273879 := by unfold maxL at h3; omega
   have e : Int.tdiv (v.S.size : Int) 200 = ((v.S.size / 200 : Nat) : Int) := rfl
   simp only [cond_false]
   rw [e, wr64 (n := ((v.S.size / 200 : Nat) : Int)) (by omega) (by omega), wr64 (by omega) (by omega), show (1 : Int) + ((v.S.size / 200 : Nat) : Int) = ((1 + v.S.size / 200 : Nat) : Int) by omega]
   rw [show ((k + 1 : Nat) : Int) - 1 = (k : Int) by omega]
   have := loop36 (R36 q) fuel0 k 0 v (cnt k) (46116860184273881 + 1000 * k) (by omega) (by omega) (by omega) (fun e he => ⟨r36 k q e (by omega) (by omega) (h4 e he), cnt_bd k e (h4 e he)⟩) v.L.length (fuel0 + 8) 0 (1 + v.S.size / 200) (by omega) (by rw [fu]; omega) (by omega)
   rw [List.drop_zero] at this
   rw [show ((0 : Nat) : Int) = 0 from rfl] at this
   rw [this]
   rfl
def fewB (v : S_Value) : Bool := decide (cnt 21 v <= 200)
theorem g25 (v : S_Value) (hv : ok_S_Value v) : G25 v 20 = some (fewB v) := by
 unfold G25 F25 G36
 rw [show (20 : Int) = ((21 : Nat) : Int) - 1 from rfl, r36 21 fuel0 v (by rw [fu]; omega) (by omega) hv]
 simp only [Option.bind_some, fewB]
 congr 1
 exact decide_eq_decide.2 (by omega)
theorem few_nod {v : S_Value} (h : fewB v = true) : nod v <= 200 := by
 have h := of_decide_eq_true h
 rw [<- cnt_nod 21 v h]; exact h
theorem loop11 (n : Nat) (z : Bool) (l : List S_Value) (hl : l.length <= 9223372036854775807) (h : ∀ v ∈ l, ok_S_Value v) : ∀ (k m i : Nat), i + k = l.length -> k < m -> ∃ r, F11_11_0 n z l (l.length : Int) m (i : Int) = some r /\ (match r with | .inl p => p.1 | .inr _ => true) = (l.drop i).all fewB
 | 0, m, i, h1, h2 => by
  obtain ⟨m, rfl⟩ : ∃ q, m = q + 1 := ⟨m - 1, by omega⟩
  rw [F11_11_0, decide_eq_false (by omega), List.drop_eq_nil_iff.2 (by omega)]
  exact ⟨_, rfl, rfl⟩
 | k + 1, m, i, h1, h2 => by
  obtain ⟨m, rfl⟩ : ∃ q, m = q + 1 := ⟨m - 1, by omega⟩
  have hi : i < l.length := by omega
  rw [F11_11_0, decide_eq_true (by omega), List.drop_eq_getElem_cons hi]
  simp only [cond_true, getI_nat, List.getElem?_eq_getElem hi, Option.bind_some, g25 _ (h _ (List.getElem_mem hi)), List.all_cons]
  cases fewB l[i] with
  | false => exact ⟨_, rfl, rfl⟩
  | true =>
   rw [wr64 (by omega) (by omega), show (i : Int) + 1 = ((i + 1 : Nat) : Int) by omega]
   simpa using loop11 n z l hl h k m (i + 1) (by omega) (by omega)
theorem g11 (l : List S_Value) (hl : l.length <= 9223372036854775807) (h : ∀ v ∈ l, ok_S_Value v) : G11 l = some (l.all fewB) := by
 unfold G11 F11
 obtain ⟨r, h1, h2⟩ := loop11 fuel0 false l hl h l.length (fuel0 + 8) 0 (by omega) (by rw [fu]; omega)
 rw [show ((0 : Nat) : Int) = 0 from rfl] at h1
 rw [h1, Option.bind_some]
 rw [List.drop_zero] at h2
 rw [<- h2]
 cases r <;> rfl
end Go.Proofs.Ytmjaehondldaaaa
