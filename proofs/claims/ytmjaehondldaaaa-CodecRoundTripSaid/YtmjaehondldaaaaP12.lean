/-
 Layer 01, in plain Lean: RoundTrip and Different.
-/
import Derived.Test.YtmjaehondldaaaaP11
namespace Go.Proofs.Ytmjaehondldaaaa
set_option linter.unusedVariables false
set_option linter.unusedSimpArgs false
set_option maxRecDepth 100000
set_option maxHeartbeats 4000000
theorem encR_2 (v : S_Value) : (encR v).2 = chk v := by
 unfold encR
 cases h : chk v == 0 with
 | true =>
  show 0 = chk v
  have : chk v = 0 := by simpa using h
  omega
 | false => rfl
theorem encR_0 {v : S_Value} (h : chk v = 0) : encR v = (encV v, 0) := by unfold encR; rw [h]; rfl
theorem raw6 (bs : List UInt8) (h : bs.length <= 2000) : (Option.bind (G18 bs) fun y52 => bif (y52.2 != 0) then (Option.bind (bif (y52.2 == 10) then (Option.bind (G21 y52.1 ((S_Value.mk 0 0 ByteArray.empty ([])))) fun y55 => some y55) else (some false)) fun y56 => some y56) else (Option.bind (G12 y52.1) fun y60 => Option.bind (bif (y60.2 == 0) then (some (strEq (bstr y60.1) (bstr bs))) else (some false)) fun y62 => Option.bind (bif y62 then (Option.bind (G16 y52.1) fun y69 => some (y69 == 0)) else (some false)) fun y70 => some y70)) = some true := by
 rw [g18 bs (by omega), Option.bind_some]
 rcases decR_cases bs with ⟨v, e⟩ | e
 ·obtain ⟨h1, h2, h3, h4⟩ := decR_ok (by omega) e
  rw [e]
  simp only [show ((0 : Int) != 0) = false from rfl, cond_false, g12 v h3 h4, g16 v h4, encR_0 h2, Option.bind_some, show ((0 : Int) == 0) = true from rfl, cond_true]
  rw [strEq_b, <- h1, decide_eq_true rfl, h2]
  rfl
 ·rw [e]
  simp only [show ((10 : Int) != 0) = true from rfl, cond_true, show ((10 : Int) == 10) = true from rfl, g21_self _ zero_nod, Option.bind_some]
theorem pure6 : Pure6 := by
 intro v raw hv hr
 unfold G6 F6
 rw [sane10, Option.bind_some]
 simp only [Bool.not_true, cond_false, few1 v hv, Option.bind_some]
 cases hf : fewB v with
 | false => rfl
 | true =>
  have hn : nod v <= 1000000 := by have := few_nod hf; omega
  have hn' := few_nod hf
  simp only [Bool.not_true, cond_false, Option.bind_some]
  by_cases h : 2000 < raw.length
  ·rw [decide_eq_true (by omega)]; rfl
  ·rw [decide_eq_false (by omega)]
   simp only [cond_false]
   have h6 := raw6 raw (by omega)
   rw [g12 v hv hn, g16 v hn]
   simp only [Option.bind_some, encR_2]
   rw [show (chk v != chk v) = false by simp]
   simp only [cond_false]
   cases hc : chk v == 0 with
   | false => exact h6
   | true =>
    have hc : chk v = 0 := by simpa using hc
    have hl := enc_len v hv hn
    simp only [cond_true, encR_0 hc]
    rw [g18 _ (by omega), decR_enc hc hv]
    simp only [Option.bind_some, show ((0 : Int) != 0) = false from rfl, cond_false, g21_self v hn, g20_self v hn, Bool.not_true]
    exact h6
end Go.Proofs.Ytmjaehondldaaaa
