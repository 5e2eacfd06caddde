/-
 Layer 01, in plain Lean: a value that is read.
-/
import Derived.Test.YtmjaehondldaaaaP7
namespace Go.Proofs.Ytmjaehondldaaaa
set_option linter.unusedVariables false
set_option linter.unusedSimpArgs false
set_option maxRecDepth 100000
set_option maxHeartbeats 4000000
theorem strEq_d (a b : ByteArray) : strEq a b = decide (a = b) := by
 rw [Bool.eq_iff_iff]
 unfold strEq
 rw [ByteArray.toList_eq, ByteArray.toList_eq]
 cases a; cases b
 simp
theorem strEq_b (a b : List UInt8) : strEq (bstr a) (bstr b) = decide (a = b) := by
 rw [strEq_d, Bool.eq_iff_iff]
 simp [bstr]
theorem bstr_L (s : ByteArray) : bstr (bstrL s) = s := by cases s; simp [bstr, bstrL]
theorem emp_eq {s : ByteArray} : emp s = true ↔ s = ByteArray.empty := by
 unfold emp
 rw [strEq_d, decide_eq_true_iff]
 rfl
def sg (u : Nat) : Int := if u % 2 = 1 then -((u / 2 : Nat) : Int) - 1 else ((u / 2 : Nat) : Int)
theorem sg_zig (n : Int) : sg (zig n) = n := by unfold sg zig; split <;> split <;> omega
def getLs (f : List UInt8 -> Option (S_Value × List UInt8)) : Nat -> List UInt8 -> Option (List S_Value × List UInt8)
 | 0, l => some ([], l)
 | n + 1, l => match f l with
  | none => none
  | some (v, r) => match getLs f n r with
   | none => none
   | some (vs, t) => some (v :: vs, t)
def getA (b : UInt8) (l : List UInt8) (h : Nat -> List UInt8 -> Option (List S_Value × List UInt8)) : Option (S_Value × List UInt8) :=
 if b.toNat = 1 then (match getN 0 l with
  | none => none
  | some (n, r) => some (.mk 1 (sg n) ByteArray.empty [], r))
 else if b.toNat = 2 then (match getN 0 l with
  | none => none
  | some (n, r) => if n <= r.length then some (.mk 2 0 (bstr (r.take n)) [], r.drop n) else none)
 else if b.toNat = 3 then (match getN 0 l with
  | none => none
  | some (n, r) => if n <= r.length then (match h n r with
   | none => none
   | some (vs, t) => some (.mk 3 0 ByteArray.empty vs, t)) else none)
 else none
def getV : Nat -> List UInt8 -> Option (S_Value × List UInt8)
 | _, [] => none
 | 0, b :: l => getA b l fun _ _ => none
 | k + 1, b :: l => getA b l (getLs (getV k))
theorem enc_pos (v : S_Value) : 1 <= (encV v).length := by
 rw [encV_eq]
 cases v.Kind == 1 with
 | true => simp
 | false => cases v.Kind == 2 <;> simp
theorem encs_ge : ∀ l : List S_Value, l.length <= (encs l).length
 | [] => by simp
 | x :: r => by rw [encs_cons, List.length_append, List.length_cons]; have := enc_pos x; have := encs_ge r; omega
theorem getLs_enc {f : List UInt8 -> Option (S_Value × List UInt8)} : ∀ (vs : List S_Value) (t : List UInt8), (∀ e ∈ vs, ∀ t, f (encV e ++ t) = some (e, t)) -> getLs f vs.length (encs vs ++ t) = some (vs, t)
 | [], t, _ => by rw [encs_nil]; rfl
 | x :: r, t, h => by
  rw [List.length_cons, getLs, encs_cons, List.append_assoc, h x (List.mem_cons_self ..)]
  simp only
  rw [getLs_enc r t fun e he => h e (List.mem_cons_of_mem _ he)]
theorem deps_mem : ∀ {l : List S_Value} {x : S_Value}, x ∈ l -> dep x <= deps l
 | y :: r, x, h => by
  rw [deps_cons]
  rcases List.mem_cons.1 h with rfl | h
  ·omega
  ·have := deps_mem h; omega
theorem getV_enc : ∀ (k : Nat) (v : S_Value) (t : List UInt8), frm v = true -> dep v <= k -> ok_S_Value v -> getV k (encV v ++ t) = some (v, t)
 | k, v, t, hf, hd, hv => by
  obtain ⟨_, h2, h3, h4, h5⟩ := (okq_S_Value v).1 hv
  unfold maxL at h3 h4
  obtain ⟨K, N, S, L⟩ := v
  simp only at h2 h3 h4 h5
  have hf' := hf
  rw [frm_eq] at hf'
  simp only at hf'
  rw [encV_eq]
  rcases frm_kind hf with hk | hk | ⟨hk, hfs⟩
  ·simp only at hk
   subst hk
   simp only [show ((1 : Int) == 1) = true from rfl, cond_true, Bool.and_eq_true, emp_eq] at hf' ⊢
   have e : getV k ((1 : UInt8) :: num (zig N) ++ t) = getA 1 (num (zig N) ++ t) (match k with | 0 => fun _ _ => none | k + 1 => getLs (getV k)) := by
    rw [List.cons_append]
    cases k <;> rw [getV]
   rw [e]
   unfold getA
   rw [if_pos (by decide), getN_big (zig_lt h2)]
   simp only [sg_zig]
   obtain ⟨rfl, h6⟩ := hf'
   have : L = [] := by
    cases L with
    | nil => rfl
    | cons a r => simp at h6; omega
   rw [this]
  ·simp only at hk
   subst hk
   simp only [show ((2 : Int) == 1) = false from rfl, show ((2 : Int) == 2) = true from rfl, cond_true, cond_false, Bool.and_eq_true] at hf' ⊢
   have e : getV k ((2 : UInt8) :: (num S.size ++ bstrL S) ++ t) = getA 2 (num S.size ++ (bstrL S ++ t)) (match k with | 0 => fun _ _ => none | k + 1 => getLs (getV k)) := by
    rw [List.cons_append, List.append_assoc]
    cases k <;> rw [getV]
   rw [e]
   unfold getA
   rw [if_neg (by decide), if_pos (by decide), getN_big (by omega)]
   simp only
   have hsz := bstr_len S
   rw [if_pos (by rw [List.length_append]; omega), <- hsz, List.take_left, List.drop_left, bstr_L]
   obtain ⟨h7, h6⟩ := hf'
   have : L = [] := by
    cases L with
    | nil => rfl
    | cons a r => simp at h6; omega
   have h8 : N = 0 := by simpa using h7
   rw [this, h8]
  ·simp only at hk hfs
   subst hk
   simp only [show ((3 : Int) == 1) = false from rfl, show ((3 : Int) == 2) = false from rfl, show ((3 : Int) == 3) = true from rfl, cond_true, cond_false, Bool.and_eq_true, emp_eq] at hf' ⊢
   rw [dep_eq] at hd
   simp only [show ((3 : Int) == 3) = true from rfl, cond_true] at hd
   obtain ⟨k, rfl⟩ : ∃ q, k = q + 1 := ⟨k - 1, by omega⟩
   rw [List.cons_append, List.append_assoc, getV]
   unfold getA
   have hlen := encs_ge L
   rw [if_neg (by decide), if_neg (by decide), if_pos (by decide), getN_big (by omega)]
   simp only
   rw [if_pos (by rw [List.length_append]; omega), getLs_enc L t fun e he t => getV_enc k e t (frms_mem hfs e he) (by have := deps_mem he; omega) (h5 e he)]
   simp only
   obtain ⟨h7, h6, rfl⟩ := hf'
   have h8 : N = 0 := by simpa using h6
   rw [h8]
end Go.Proofs.Ytmjaehondldaaaa
