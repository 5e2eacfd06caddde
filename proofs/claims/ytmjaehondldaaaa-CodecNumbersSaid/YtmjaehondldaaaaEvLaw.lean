/-
 From what the interpreter answers to a law's statement: how arguments that came in are read as the interpreter's data.
-/
import Derived.Test.YtmjaehondldaaaaEvTyped
import Derived.Test.YtmjaehondldaaaaFrame
namespace Go.Proofs.Ytmjaehondldaaaa
set_option linter.unusedVariables false
set_option linter.unusedSimpArgs false
open Go.RowKit Go.ChangeShapes Go.WideShapes Go.ChangeAt Go.Deep
theorem stab_all (k o : Nat) : Stab [] (G0 fun _ _ => True) k o := ⟨trivial, fun b hb => by cases hb⟩
def ReadsA (P : Program) (t : TypeId) (T : List A -> Prop) : Prop :=
 ∀ {H : Type} (enc : TypeId × Value -> H) (w : World) (held : Bool) (fuel : Nat) (cs : List Value) (x : DataW H × List MemPlace), DataW.trod enc P w 0 (fun _ => true) held fuel t cs = some x -> ∃ as, T as /\ VRs [] (G0 fun _ _ => True) w as cs
theorem VRs_cons {H : Heap} {g : Gh} {w : World} {a : A} {as : List A} {c : Value} {cs : List Value} (h : VR H g w a c) (k : VRs H g w as cs) : VRs H g w (a :: as) (c :: cs) := by rw [VRs]; exact ⟨c, cs, rfl, h, k⟩
theorem givenA_int {H : Type} {enc : TypeId × Value -> H} {P : Program} {W : World} {base : Nat} {ts : Array TypeId} {args : Array Value} (h : Given enc P W base ts args) (j : Nat) {t : TypeId} {v : Value} (hj : ts[j]? = some t) (hv : args[j]? = some v) (ht : P.underlying t = some (.int .i64)) :
  ∃ n : Int, (-9223372036854775808 <= n /\ n <= 9223372036854775807) /\ VR [] (G0 fun _ _ => True) W (.v (.int .i64 n)) v := by
 obtain ⟨n, rfl, h1, h2⟩ := given_int h j hj hv ht
 exact ⟨n, ⟨h1, h2⟩, by rw [VR]⟩
def RdT (P : Program) (t : TypeId) {T : Type} (c : T -> List A) (ok : T -> Prop) : Prop := ReadsA P t fun as => ∃ x, as = c x /\ ok x
def In64 (n : Int) : Prop := -9223372036854775808 <= n /\ n <= 9223372036854775807
theorem RdT.of {P : Program} {t : TypeId} {T : Type} {c : T -> List A} {ok : T -> Prop} {S : List A -> Prop} (h : ReadsA P t S) (hs : ∀ as, S as -> ∃ x, as = c x /\ ok x) : RdT P t c ok := fun enc w held fuel cs x h0 => by
 obtain ⟨as, h1, h2⟩ := h enc w held fuel cs x h0
 exact ⟨as, hs as h1, h2⟩
theorem gv_int {H : Type} {enc : TypeId × Value -> H} {P : Program} {W : World} {base : Nat} {ts : Array TypeId} {args : Array Value} (h : Given enc P W base ts args) (j : Nat) {t : TypeId} {v : Value} (hj : ts[j]? = some t) (hv : args[j]? = some v) (ht : P.underlying t = some (.int .i64)) :
  ∃ n : Int, In64 n /\ VR [] (G0 fun _ _ => True) W (.v (.int .i64 n)) v := givenA_int h j hj hv ht
def maxL : Nat := 9223372036854775807
section
variable {P : Program} {t e : TypeId} {T : Type} {c : T -> List A} {ok : T -> Prop}
variable {H : Type} {enc : TypeId × Value -> H} {W : World} {base : Nat} {ts : Array TypeId} {args : Array Value}
end
theorem law_ev {P : Program} {glob : Nat -> Option (List Value)} {k : Nat} {as : List A} {args : Array Value} {W : World} (h : CallOK P glob k as (.v (.bool true))) (hg : ∀ (G : Nat) (vs : List Value), glob G = some vs -> ∀ (j : Nat) (v : Value), vs[j]? = some v -> W.cell? ⟨G, j, none⟩ = some v)
  (hv : VRs [] (G0 fun _ _ => True) W as args.toList) : Calls P k args W fun e W' => e = .returned (.bool true) /\ Below W.heap.size W W' := by
 refine (h (fun _ _ => True) W args.toList (fun _ _ _ => trivial) (fun G vs hG j v hj => ⟨by rw [Nat.zero_add]; exact hg G vs hG j v hj, stab_all _ _⟩) hv).mono ?_
 rintro e W' ⟨c, rfl, hb, hc⟩
 rw [VR] at hc
 subst hc
 exact ⟨rfl, hb⟩
end Go.Proofs.Ytmjaehondldaaaa
