/-
 From what the interpreter answers to a law's statement: how arguments that came in are read as the interpreter's data.
-/
import Derived.Test.YtmjaehondldaaaaEvTyped
import Derived.Test.YtmjaehondldaaaaFrame
namespace Go.Proofs.Ytmjaehondldaaaa
set_option linter.unusedVariables false
set_option linter.unusedSimpArgs false
open Go.RowKit Go.ChangeShapes Go.WideShapes Go.ChangeAt Go.Deep
theorem stab_all (k o : Nat) : Stab [] (G0 fun _ _ => True) k o := ⟨trivial, fun b hb => by cases hb⟩
def ReadsA (P : Program) (t : TypeId) (T : List A -> Prop) : Prop :=
 ∀ {H : Type} (enc : TypeId × Value -> H) (w : World) (held : Bool) (fuel : Nat) (cs : List Value) (x : DataW H × List MemPlace), DataW.trod enc P w 0 (fun _ => true) held fuel t cs = some x -> ∃ as, T as /\ VRs [] (G0 fun _ _ => True) w as cs
def TInt (as : List A) : Prop := ∃ n : Int, as = [.v (.int .i64 n)] /\ -9223372036854775808 <= n /\ n <= 9223372036854775807
theorem VRs_one {H : Heap} {g : Gh} {w : World} (x : Value) : VRs H g w [.v x] [x] := by rw [VRs]; exact ⟨x, [], rfl, by rw [VR], by rw [VRs]⟩
theorem readsA_int {P : Program} {t : TypeId} (ht : P.underlying t = some (.int .i64)) : ReadsA P t TInt := by
 intro H enc w held fuel cs x h
 obtain ⟨n, rfl, _, hw⟩ := DataW.trod_int ht h
 exact ⟨_, ⟨n, rfl, (bounds_i64 hw).1, (bounds_i64 hw).2⟩, VRs_one _⟩
theorem VRs_cons {H : Heap} {g : Gh} {w : World} {a : A} {as : List A} {c : Value} {cs : List Value} (h : VR H g w a c) (k : VRs H g w as cs) : VRs H g w (a :: as) (c :: cs) := by rw [VRs]; exact ⟨c, cs, rfl, h, k⟩
def TAll : List (List A -> Prop) -> List A -> Prop
 | [], as => as = []
 | T :: Ts, as => ∃ a b, as = a ++ b /\ T a /\ TAll Ts b
def lays (P : Program) (N : Nat) : List Field -> Nat -> Bool
 | [], o => Nat.beq o N
 | f :: fs, o => Nat.beq f.offset o && lays P N fs (o + P.cellsOf f.type)
theorem VRs_append {H : Heap} {g : Gh} {w : World} : ∀ {a : List A} {c : List Value} {b : List A} {d : List Value}, VRs H g w a c -> VRs H g w b d -> VRs H g w (a ++ b) (c ++ d)
 | [], c, b, d, h, k => by rw [VRs] at h; subst h; exact k
 | x :: a, c, b, d, h, k => by
  rw [VRs] at h
  obtain ⟨y, c', rfl, h1, h2⟩ := h
  rw [List.cons_append, List.cons_append, VRs]
  exact ⟨y, _, rfl, h1, VRs_append h2 k⟩
theorem givenA_struct {H : Type} {enc : TypeId × Value -> H} {P : Program} {W : World} {base : Nat} {ts : Array TypeId} {args : Array Value} (h : Given enc P W base ts args) (j : Nat) {t : TypeId} {v : Value} (hj : ts[j]? = some t) (hv : args[j]? = some v) {fs : Array Field} (ht : P.underlying t = some (.struct fs)) {T : List A -> Prop} (hT : ReadsA P t T) :
  ∃ as, T as /\ VR [] (G0 fun _ _ => True) W (.agg as) v := by
 obtain ⟨ok, d, p, fuel, htr⟩ := h.2 j t v hj hv
 unfold Value.okWide at ok
 rw [ht] at ok
 obtain ⟨cs, rfl, _, _⟩ := ok
 obtain ⟨as, h1, h2⟩ := hT enc W _ _ _ _ htr
 refine ⟨as, h1, ?_⟩
 rw [VR]
 exact ⟨cs, rfl, h2⟩
def RdT (P : Program) (t : TypeId) {T : Type} (c : T -> List A) (ok : T -> Prop) : Prop := ReadsA P t fun as => ∃ x, as = c x /\ ok x
def In64 (n : Int) : Prop := -9223372036854775808 <= n /\ n <= 9223372036854775807
theorem rd_int {P : Program} {t : TypeId} (ht : P.underlying t = some (.int .i64)) : RdT P t (cI .i64) In64 := fun enc w held fuel cs x h => by
 obtain ⟨as, ⟨n, rfl, h1⟩, h2⟩ := readsA_int ht enc w held fuel cs x h
 exact ⟨_, ⟨n, rfl, h1⟩, h2⟩
theorem RdT.of {P : Program} {t : TypeId} {T : Type} {c : T -> List A} {ok : T -> Prop} {S : List A -> Prop} (h : ReadsA P t S) (hs : ∀ as, S as -> ∃ x, as = c x /\ ok x) : RdT P t c ok := fun enc w held fuel cs x h0 => by
 obtain ⟨as, h1, h2⟩ := h enc w held fuel cs x h0
 exact ⟨as, hs as h1, h2⟩
theorem gv_struct {H : Type} {enc : TypeId × Value -> H} {P : Program} {W : World} {base : Nat} {ts : Array TypeId} {args : Array Value} (h : Given enc P W base ts args) (j : Nat) {t : TypeId} {v : Value} (hj : ts[j]? = some t) (hv : args[j]? = some v) {fs : Array Field} (ht : P.underlying t = some (.struct fs)) {T : Type} {c : T -> List A} {ok : T -> Prop} (hT : RdT P t c ok) :
  ∃ x, ok x /\ VR [] (G0 fun _ _ => True) W (.agg (c x)) v := by
 obtain ⟨as, ⟨x, rfl, h1⟩, h2⟩ := givenA_struct h j hj hv ht hT
 exact ⟨x, h1, h2⟩
def maxL : Nat := 9223372036854775807
section
variable {P : Program} {t e : TypeId} {T : Type} {c : T -> List A} {ok : T -> Prop}
theorem rd_str (ht : P.underlying t = some .string) : RdT P t cS (fun s => s.size <= maxL) := fun enc w held fuel cs x h => by
 obtain ⟨s, rfl, _, hs⟩ := DataW.trod_string ht h
 exact ⟨_, ⟨s, rfl, hs⟩, VRs_one _⟩
variable {H : Type} {enc : TypeId × Value -> H} {W : World} {base : Nat} {ts : Array TypeId} {args : Array Value}
end
theorem law_ev {P : Program} {glob : Nat -> Option (List Value)} {k : Nat} {as : List A} {args : Array Value} {W : World} (h : CallOK P glob k as (.v (.bool true))) (hg : ∀ (G : Nat) (vs : List Value), glob G = some vs -> ∀ (j : Nat) (v : Value), vs[j]? = some v -> W.cell? ⟨G, j, none⟩ = some v)
  (hv : VRs [] (G0 fun _ _ => True) W as args.toList) : Calls P k args W fun e W' => e = .returned (.bool true) /\ Below W.heap.size W W' := by
 refine (h (fun _ _ => True) W args.toList (fun _ _ _ => trivial) (fun G vs hG j v hj => ⟨by rw [Nat.zero_add]; exact hg G vs hG j v hj, stab_all _ _⟩) hv).mono ?_
 rintro e W' ⟨c, rfl, hb, hc⟩
 rw [VR] at hc
 subst hc
 exact ⟨rfl, hb⟩
end Go.Proofs.Ytmjaehondldaaaa
