/-
 Layer 01, in plain Lean: a value that is read.
-/
import Derived.Test.YtmjaehondldaaaaP7
namespace Go.Proofs.Ytmjaehondldaaaa
set_option linter.unusedVariables false
set_option linter.unusedSimpArgs false
set_option maxRecDepth 100000
set_option maxHeartbeats 4000000
theorem strEq_d (a b : ByteArray) : strEq a b = decide (a = b) := by
 rw [Bool.eq_iff_iff]
 unfold strEq
 rw [ByteArray.toList_eq, ByteArray.toList_eq]
 cases a; cases b
 simp
theorem strEq_b (a b : List UInt8) : strEq (bstr a) (bstr b) = decide (a = b) := by
 rw [strEq_d, Bool.eq_iff_iff]
 simp [bstr]
theorem bstr_L (s : ByteArray) : bstr (bstrL s) = s := by cases s; simp [bstr, bstrL]
theorem bstrL_b (l : List UInt8) : bstrL (bstr l) = l := by simp [bstr, bstrL]
theorem bstr_size (l : List UInt8) : (bstr l).size = l.length := by rw [<- bstr_len, bstrL_b]
theorem emp_eq {s : ByteArray} : emp s = true ↔ s = ByteArray.empty := by
 unfold emp
 rw [strEq_d, decide_eq_true_iff]
 rfl
def sg (u : Nat) : Int := if u % 2 = 1 then -((u / 2 : Nat) : Int) - 1 else ((u / 2 : Nat) : Int)
theorem sg_zig (n : Int) : sg (zig n) = n := by unfold sg zig; split <;> split <;> omega
theorem zig_sg (u : Nat) : zig (sg u) = u := by unfold sg; split <;> (unfold zig; split <;> omega)
theorem sg_in {u : Nat} (h : u < 18446744073709551616) : In64 (sg u) := by unfold sg In64; split <;> omega
theorem wi64 (z : Int) : wr .i64 z = if 9223372036854775808 <= z % 18446744073709551616 then z % 18446744073709551616 - 18446744073709551616 else z % 18446744073709551616 := by
 simp only [wr, IntKind.wrap, IntKind.bits, IntKind.signed]
 simp
theorem bv64 (z : Int) (h : -9223372036854775808 <= z) (h' : z <= 9223372036854775807) : wr .i64 ((BitVec.ofInt 64 z).toNat : Int) = z := by
 rw [wi64, BitVec.toNat_ofInt]
 split <;> omega
theorem xor_zero_i (a : Int) (h : 0 <= a) (h' : a <= 9223372036854775807) : xorI .i64 a 0 = a := by
 unfold xorI
 show wr .i64 ((BitVec.ofInt 64 a ^^^ BitVec.ofInt 64 0).toNat : Int) = a
 rw [show BitVec.ofInt 64 0 = 0#64 from rfl, BitVec.xor_zero]
 exact bv64 a (by omega) h'
theorem xor_ones_i (a : Int) (h : 0 <= a) (h' : a <= 9223372036854775807) : xorI .i64 a (-1) = -a - 1 := by
 unfold xorI
 show wr .i64 ((BitVec.ofInt 64 a ^^^ BitVec.ofInt 64 (-1)).toNat : Int) = _
 rw [show BitVec.ofInt 64 (-1) = BitVec.allOnes 64 from rfl, BitVec.xor_allOnes, BitVec.toNat_not, wi64, BitVec.toNat_ofInt]
 split <;> omega
theorem and1 (u : Nat) (h : u < 18446744073709551616) : andI .u64 (u : Int) 1 = ((u % 2 : Nat) : Int) := by
 unfold andI
 show wr .u64 ((BitVec.ofInt 64 (u : Int) &&& BitVec.ofInt 64 1).toNat : Int) = _
 rw [BitVec.toNat_and, BitVec.toNat_ofInt, show (BitVec.ofInt 64 1).toNat = 1 from rfl, Nat.and_one_is_mod, show ((u : Int) % ((2 ^ 64 : Nat) : Int)).toNat = u by omega, wun _ (by omega)]
theorem g45 (u : Nat) (h : u < 18446744073709551616) : G45 (u : Int) = some (sg u) := by
 unfold G45 F45
 have e1 : shrI .u64 (u : Int) 1 = ((u / 2 : Nat) : Int) := by
  unfold shrI
  show Int.fdiv (u : Int) (2 ^ 1) = _
  rw [Int.fdiv_eq_ediv_of_nonneg _ (by decide)]
  rfl
 rw [e1, and1 u h, wr64 (n := ((u / 2 : Nat) : Int)) (by omega) (by omega), wr64 (n := ((u % 2 : Nat) : Int)) (by omega) (by omega), wr64 (by omega) (by omega)]
 congr 1
 unfold sg
 by_cases h2 : u % 2 = 1
 ·rw [if_pos h2, h2, show (0 : Int) - ((1 : Nat) : Int) = -1 from rfl, xor_ones_i _ (by omega) (by omega)]
 ·rw [if_neg h2, show u % 2 = 0 by omega, show (0 : Int) - ((0 : Nat) : Int) = 0 from rfl, xor_zero_i _ (by omega) (by omega)]
def getLs (f : List UInt8 -> Option (S_Value × List UInt8)) : Nat -> List UInt8 -> Option (List S_Value × List UInt8)
 | 0, l => some ([], l)
 | n + 1, l => match f l with
  | none => none
  | some (v, r) => match getLs f n r with
   | none => none
   | some (vs, t) => some (v :: vs, t)
def getA (b : UInt8) (l : List UInt8) (h : Nat -> List UInt8 -> Option (List S_Value × List UInt8)) : Option (S_Value × List UInt8) :=
 if b.toNat = 1 then (match getN 0 l with
  | none => none
  | some (n, r) => some (.mk 1 (sg n) ByteArray.empty [], r))
 else if b.toNat = 2 then (match getN 0 l with
  | none => none
  | some (n, r) => if n <= r.length then some (.mk 2 0 (bstr (r.take n)) [], r.drop n) else none)
 else if b.toNat = 3 then (match getN 0 l with
  | none => none
  | some (n, r) => if n <= r.length then (match h n r with
   | none => none
   | some (vs, t) => some (.mk 3 0 ByteArray.empty vs, t)) else none)
 else none
def getV : Nat -> List UInt8 -> Option (S_Value × List UInt8)
 | _, [] => none
 | 0, b :: l => getA b l fun _ _ => none
 | k + 1, b :: l => getA b l (getLs (getV k))
def Got (k : Nat) (l : List UInt8) (v : S_Value) (r : List UInt8) : Prop := l = encV v ++ r /\ frm v = true /\ dep v <= k /\ ok_S_Value v /\ nod v <= (encV v).length
theorem getLs_inv {f : List UInt8 -> Option (S_Value × List UInt8)} {k : Nat} (hf : ∀ l v r, l.length <= 1000000 -> f l = some (v, r) -> Got k l v r) : ∀ (n : Nat) (l : List UInt8) (vs : List S_Value) (r : List UInt8), l.length <= 1000000 -> getLs f n l = some (vs, r) ->
  l = encs vs ++ r /\ frms vs = true /\ deps vs <= k /\ (∀ e ∈ vs, ok_S_Value e) /\ nods vs <= (encs vs).length /\ vs.length = n
 | 0, l, vs, r, _, h => by
  rw [getLs] at h; cases h
  refine ⟨?_, frms_nil, by rw [deps_nil]; omega, fun _ h => absurd h (List.not_mem_nil), by rw [nods_nil]; omega, rfl⟩
  rw [encs_nil]; rfl
 | n + 1, l, vs, r, hl, h => by
  rw [getLs] at h
  split at h
  ·cases h
  rename_i v t hv
  split at h
  ·cases h
  rename_i ws u hw
  cases h
  obtain ⟨h1, h2, h3, h4, h5⟩ := hf l v t hl hv
  rw [h1, List.length_append] at hl
  obtain ⟨g1, g2, g3, g4, g5, g6⟩ := getLs_inv hf n t ws r (by omega) hw
  refine ⟨?_, ?_, ?_, ?_, ?_, ?_⟩
  ·rw [h1, g1, encs_cons, List.append_assoc]
  ·rw [frms_cons, h2, g2]; rfl
  ·rw [deps_cons]; omega
  ·intro e he
   rcases List.mem_cons.1 he with rfl | he
   ·exact h4
   ·exact g4 e he
  ·rw [nods_cons, encs_cons, List.length_append]; omega
  ·rw [List.length_cons, g6]
theorem u8c {b : UInt8} {n : Nat} (h : b.toNat = n) : b = UInt8.ofNat n := by rw [<- h, UInt8.ofNat_toNat]
theorem getA_inv {h : Nat -> List UInt8 -> Option (List S_Value × List UInt8)} {k : Nat} {b : UInt8} {l : List UInt8} {v : S_Value} {r : List UInt8} (hl : l.length <= 1000000)
  (hh : ∀ n t vs u, t.length <= 1000000 -> h n t = some (vs, u) -> t = encs vs ++ u /\ frms vs = true /\ deps vs + 1 <= k /\ (∀ e ∈ vs, ok_S_Value e) /\ nods vs <= (encs vs).length /\ vs.length = n)
  (e : getA b l h = some (v, r)) : Got k (b :: l) v r := by
 have okm : maxL = 9223372036854775807 := rfl
 unfold getA at e
 split at e
 ·rename_i h1
  split at e
  ·cases e
  rename_i n t hn
  obtain ⟨h2, h3, _⟩ := getN_len hn
  cases e
  refine ⟨?_, ?_, ?_, ?_, ?_⟩
  ·rw [u8c h1, h2, encV_eq]
   simp only [show ((1 : Int) == 1) = true from rfl, cond_true, zig_sg]
   rfl
  ·rw [frm_eq]
   simp only [show ((1 : Int) == 1) = true from rfl, cond_true, emp_eq.2]
   rfl
  ·rw [dep_eq]
   simp only [show ((1 : Int) == 3) = false from rfl, cond_false]
   omega
  ·exact (okq_S_Value _).2 ⟨⟨by simp, by simp⟩, sg_in h3, by simp, by simp, fun _ h => absurd h List.not_mem_nil⟩
  ·rw [nod_eq, encV_eq]
   simp only [show ((1 : Int) == 1) = true from rfl, cond_true, zig_sg, nods_nil, List.length_cons]
   have : (ByteArray.empty : ByteArray).size = 0 := rfl
   omega
 split at e
 ·rename_i h1
  split at e
  ·cases e
  rename_i n t hn
  obtain ⟨h2, h3, h4⟩ := getN_len hn
  split at e
  ·rename_i h5
   cases e
   have hs : (bstr (t.take n)).size = n := by rw [bstr_size, List.length_take]; omega
   refine ⟨?_, ?_, ?_, ?_, ?_⟩
   ·rw [u8c h1, h2, encV_eq]
    simp only [show ((2 : Int) == 1) = false from rfl, show ((2 : Int) == 2) = true from rfl, cond_true, cond_false, hs, bstrL_b]
    rw [List.cons_append, List.append_assoc, List.take_append_drop]
    rfl
   ·rw [frm_eq]
    rfl
   ·rw [dep_eq]
    simp only [show ((2 : Int) == 3) = false from rfl, cond_false]
    omega
   ·refine (okq_S_Value _).2 ⟨⟨by simp, by simp⟩, ⟨by simp, by simp⟩, ?_, by simp, fun _ h => absurd h List.not_mem_nil⟩
    show (bstr (t.take n)).size <= maxL
    rw [hs]; omega
   ·rw [nod_eq, encV_eq]
    simp only [show ((2 : Int) == 1) = false from rfl, show ((2 : Int) == 2) = true from rfl, cond_true, cond_false, nods_nil, List.length_cons, List.length_append, bstr_len, hs]
    omega
  ·cases e
 split at e
 ·rename_i h1
  split at e
  ·cases e
  rename_i n t hn
  obtain ⟨h2, h3, h4⟩ := getN_len hn
  split at e
  ·rename_i h5
   split at e
   ·cases e
   rename_i vs u hv
   cases e
   obtain ⟨g1, g2, g3, g4, g5, g6⟩ := hh n t vs r (by omega) hv
   refine ⟨?_, ?_, ?_, ?_, ?_⟩
   ·rw [u8c h1, h2, encV_eq, g1]
    simp only [show ((3 : Int) == 1) = false from rfl, show ((3 : Int) == 2) = false from rfl, cond_false, g6]
    rw [List.cons_append, List.append_assoc]
    rfl
   ·rw [frm_eq]
    simp only [show ((3 : Int) == 1) = false from rfl, show ((3 : Int) == 2) = false from rfl, show ((3 : Int) == 3) = true from rfl, cond_true, cond_false, g2, emp_eq.2]
    rfl
   ·rw [dep_eq]
    simp only [show ((3 : Int) == 3) = true from rfl, cond_true]
    omega
   ·refine (okq_S_Value _).2 ⟨⟨by simp, by simp⟩, ⟨by simp, by simp⟩, by simp, ?_, g4⟩
    show vs.length <= maxL
    omega
   ·rw [nod_eq, encV_eq]
    simp only [show ((3 : Int) == 1) = false from rfl, show ((3 : Int) == 2) = false from rfl, cond_false, List.length_cons, List.length_append]
    have : (ByteArray.empty : ByteArray).size = 0 := rfl
    omega
  ·cases e
 ·cases e
theorem getV_inv : ∀ (k : Nat) (l : List UInt8) (v : S_Value) (r : List UInt8), l.length <= 1000000 -> getV k l = some (v, r) -> Got k l v r
 | 0, [], v, r, _, h => by rw [getV] at h; cases h
 | k + 1, [], v, r, _, h => by rw [getV] at h; cases h
 | 0, b :: l, v, r, hl, h => by
  rw [getV] at h
  rw [List.length_cons] at hl
  exact getA_inv (by omega) (fun _ _ _ _ _ h => by cases h) h
 | k + 1, b :: l, v, r, hl, h => by
  rw [getV] at h
  rw [List.length_cons] at hl
  refine getA_inv (by omega) (fun n t vs u ht hv => ?_) h
  obtain ⟨g1, g2, g3, g4, g5, g6⟩ := getLs_inv (fun l v r hl h => getV_inv k l v r hl h) n t vs u ht hv
  exact ⟨g1, g2, by omega, g4, g5, g6⟩
theorem enc_pos (v : S_Value) : 1 <= (encV v).length := by
 rw [encV_eq]
 cases v.Kind == 1 with
 | true => simp
 | false => cases v.Kind == 2 <;> simp
theorem encs_ge : ∀ l : List S_Value, l.length <= (encs l).length
 | [] => by simp
 | x :: r => by rw [encs_cons, List.length_append, List.length_cons]; have := enc_pos x; have := encs_ge r; omega
theorem getLs_enc {f : List UInt8 -> Option (S_Value × List UInt8)} : ∀ (vs : List S_Value) (t : List UInt8), (∀ e ∈ vs, ∀ t, f (encV e ++ t) = some (e, t)) -> getLs f vs.length (encs vs ++ t) = some (vs, t)
 | [], t, _ => by rw [encs_nil]; rfl
 | x :: r, t, h => by
  rw [List.length_cons, getLs, encs_cons, List.append_assoc, h x (List.mem_cons_self ..)]
  simp only
  rw [getLs_enc r t fun e he => h e (List.mem_cons_of_mem _ he)]
theorem deps_mem : ∀ {l : List S_Value} {x : S_Value}, x ∈ l -> dep x <= deps l
 | y :: r, x, h => by
  rw [deps_cons]
  rcases List.mem_cons.1 h with rfl | h
  ·omega
  ·have := deps_mem h; omega
theorem getV_enc : ∀ (k : Nat) (v : S_Value) (t : List UInt8), frm v = true -> dep v <= k -> ok_S_Value v -> getV k (encV v ++ t) = some (v, t)
 | k, v, t, hf, hd, hv => by
  obtain ⟨_, h2, h3, h4, h5⟩ := (okq_S_Value v).1 hv
  unfold maxL at h3 h4
  obtain ⟨K, N, S, L⟩ := v
  simp only at h2 h3 h4 h5
  have hf' := hf
  rw [frm_eq] at hf'
  simp only at hf'
  rw [encV_eq]
  rcases frm_kind hf with hk | hk | ⟨hk, hfs⟩
  ·simp only at hk
   subst hk
   simp only [show ((1 : Int) == 1) = true from rfl, cond_true, Bool.and_eq_true, emp_eq] at hf' ⊢
   have e : getV k ((1 : UInt8) :: num (zig N) ++ t) = getA 1 (num (zig N) ++ t) (match k with | 0 => fun _ _ => none | k + 1 => getLs (getV k)) := by
    rw [List.cons_append]
    cases k <;> rw [getV]
   rw [e]
   unfold getA
   rw [if_pos (by decide), getN_big (zig_lt h2)]
   simp only [sg_zig]
   obtain ⟨rfl, h6⟩ := hf'
   have : L = [] := by
    cases L with
    | nil => rfl
    | cons a r => simp at h6; omega
   rw [this]
  ·simp only at hk
   subst hk
   simp only [show ((2 : Int) == 1) = false from rfl, show ((2 : Int) == 2) = true from rfl, cond_true, cond_false, Bool.and_eq_true] at hf' ⊢
   have e : getV k ((2 : UInt8) :: (num S.size ++ bstrL S) ++ t) = getA 2 (num S.size ++ (bstrL S ++ t)) (match k with | 0 => fun _ _ => none | k + 1 => getLs (getV k)) := by
    rw [List.cons_append, List.append_assoc]
    cases k <;> rw [getV]
   rw [e]
   unfold getA
   rw [if_neg (by decide), if_pos (by decide), getN_big (by omega)]
   simp only
   have hsz := bstr_len S
   rw [if_pos (by rw [List.length_append]; omega), <- hsz, List.take_left, List.drop_left, bstr_L]
   obtain ⟨h7, h6⟩ := hf'
   have : L = [] := by
    cases L with
    | nil => rfl
    | cons a r => simp at h6; omega
   have h8 : N = 0 := by simpa using h7
   rw [this, h8]
  ·simp only at hk hfs
   subst hk
   simp only [show ((3 : Int) == 1) = false from rfl, show ((3 : Int) == 2) = false from rfl, show ((3 : Int) == 3) = true from rfl, cond_true, cond_false, Bool.and_eq_true, emp_eq] at hf' ⊢
   rw [dep_eq] at hd
   simp only [show ((3 : Int) == 3) = true from rfl, cond_true] at hd
   obtain ⟨k, rfl⟩ : ∃ q, k = q + 1 := ⟨k - 1, by omega⟩
   rw [List.cons_append, List.append_assoc, getV]
   unfold getA
   have hlen := encs_ge L
   rw [if_neg (by decide), if_neg (by decide), if_pos (by decide), getN_big (by omega)]
   simp only
   rw [if_pos (by rw [List.length_append]; omega), getLs_enc L t fun e he t => getV_enc k e t (frms_mem hfs e he) (by have := deps_mem he; omega) (h5 e he)]
   simp only
   obtain ⟨h7, h6, rfl⟩ := hf'
   have h8 : N = 0 := by simpa using h6
   rw [h8]
end Go.Proofs.Ytmjaehondldaaaa
