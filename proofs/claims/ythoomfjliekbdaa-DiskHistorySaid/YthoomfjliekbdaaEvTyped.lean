/-
 From what the interpreter does to plain functions on plain data: rules by which the one is followed along the other.
-/
import Derived.Test.YthoomfjliekbdaaEvSimp
import Derived.KernelRfl
namespace Go.Proofs.Ythoomfjliekbdaa
set_option linter.unusedVariables false
set_option linter.unusedSimpArgs false
variable {ρ γ σ α β τ : Type}
def J (φ : ρ -> γ -> Prop) (L : Option σ) (kL : σ -> Option ρ) (R : Option α) (K : α -> Option γ) : Prop := ∀ r, R.bind K = some r -> ∃ s, L.bind kL = some s /\ φ s r
variable {φ : ρ -> γ -> Prop} {kL : σ -> Option ρ} {K : α -> Option γ} {R X Y : Option α}
theorem J.st {x : Option τ} {v : τ} {k : τ -> Option σ} (h : x = some v) (hk : J φ (k v) kL R K) : J φ (x.bind k) kL R K := by
 rw [h]; exact hk
theorem J.s {x : Option τ} {k : τ -> Option σ} (v : τ) (hk : J φ (k v) kL R K) (h : x = some v := by kernel_rfl) : J φ (x.bind k) kL R K := J.st h hk
theorem J.bd {x : Option τ} {k : τ -> Option σ} {X : Option β} {Y : β -> Option α} {g : β -> τ} (h : x = X.map g) (hk : ∀ y, J φ (k (g y)) kL (Y y) K) : J φ (x.bind k) kL (X.bind Y) K := by
 intro r hr
 rw [Option.bind_assoc] at hr
 cases X with
 | none => cases hr
 | some y => rw [h]; exact hk y r hr
theorem J.bg {x : Option τ} {k : τ -> Option σ} {X : Option β} {Y : β -> Option α} (ψ : τ -> β -> Prop) (h : J ψ x some X some) (hk : ∀ t y, ψ t y -> J φ (k t) kL (Y y) K) : J φ (x.bind k) kL (X.bind Y) K := by
 intro r hr
 rw [Option.bind_assoc] at hr
 cases X with
 | none => cases hr
 | some y =>
  obtain ⟨s, h1, h2⟩ := h y rfl
  have : x = some s := by cases x <;> simp_all
  rw [this]
  exact hk s y h2 r hr
theorem J.bTN {x y : Option σ} (h1 : J φ x kL R K) : J φ (bIfN (.v (.bool true)) x y) kL R K := h1
theorem J.bFN {x y : Option σ} (h1 : J φ y kL R K) : J φ (bIfN (.v (.bool false)) x y) kL R K := h1
theorem J.biHN {x y : Option σ} {b : Bool} (h1 : b = true -> J φ x kL X K) (h2 : b = false -> J φ y kL Y K) : J φ (bIfN (.v (.bool b)) x y) kL (cond b X Y) K := by
 cases b
 ·exact h2 rfl
 ·exact h1 rfl
theorem J.nq {T : Type} {f : T -> List A} {l : List T} {x y : Option σ} (h : l = [] -> x = y) (hy : J φ y kL R K) : J φ (bIfN (.nq (l.map f)) x y) kL R K := by
 cases l with
 | nil =>
  have e : bIfN (A.nq (List.map f [])) x y = y := by
   show both x y = y
   unfold both
   rw [if_pos (h rfl)]
  rw [e]; exact hy
 | cons a l => exact hy
theorem nq_imm {P : Program} {t e : TypeId} {T : Type} {f : T -> List A} {l : List T} {c : Bool} (h : P.underlying t = some (.slice e)) : aNq P t (.imm (l.map f) c) = some (.nq (l.map f)) := by
 unfold aNq
 rw [h]
theorem J.gf {x y : Option σ} {b : Bool} (h1 : J φ x kL X K) (h2 : J φ y kL Y K) : J φ (gIf (.v (.bool b)) false x y) kL (cond b Y X) K := by
 cases b
 ·exact h1
 ·exact h2
theorem J.biH {x y : Option σ} {b : Bool} (h1 : b = true -> J φ x kL X K) (h2 : b = false -> J φ y kL Y K) : J φ (bIf (.v (.bool b)) x y) kL (cond b X Y) K := by
 cases b
 ·exact h2 rfl
 ·exact h1 rfl
theorem J.cT {x y : Option σ} {c : Bool} (h : c = true) (h1 : J φ x kL R K) : J φ (cond c x y) kL R K := by rw [h]; exact h1
theorem J.cF {x y : Option σ} {c : Bool} (h : c = false) (h1 : J φ y kL R K) : J φ (cond c x y) kL R K := by rw [h]; exact h1
theorem J.gd {L : Option σ} {b : Bool} (h : b = true -> J φ L kL R K) : J φ L kL (cond b R none) K := by
 cases b
 ·intro r hr; cases hr
 ·exact h rfl
theorem J.sp {L : Option σ} {b : Bool} (h1 : b = true -> J φ L kL X K) (h2 : b = false -> J φ L kL Y K) : J φ L kL (cond b X Y) K := by
 cases b
 ·exact h2 rfl
 ·exact h1 rfl
theorem J.nn {L : Option σ} : J φ L kL none K := fun r hr => by cases hr
theorem J.uc {a : A} {r : List A} {k : A -> List A -> Option σ} (h : J φ (k a r) kL R K) : J φ (unc (a :: r) k) kL R K := h
theorem J.lf {s : σ} {x : α} {r : ρ} {y : γ} (h1 : kL s = some r) (h2 : K x = some y) (h : φ r y) : J φ (some s) kL (some x) K := fun z hz => by
 rw [Option.bind_some, h2] at hz
 cases hz
 exact ⟨r, h1, h⟩
theorem J.lg {ψ : τ -> β -> Prop} {s : τ} {x : β} (h : ψ s x) : J ψ (some s) some (some x) some := fun r hr => by cases hr; exact ⟨s, rfl, h⟩
theorem J.cl {x : Option τ} {x' : Option τ} {k : τ -> Option σ} (h : x = x') (hk : J φ x' (fun r => (k r).bind kL) R K) : J φ (x.bind k) kL R K := by
 intro r hr
 obtain ⟨s, h1, h2⟩ := hk r hr
 exact ⟨s, by rw [Option.bind_assoc, h]; exact h1, h2⟩
theorem J.bb {x : Option τ} {k : τ -> Option σ} (h : J φ x (fun r => (k r).bind kL) R K) : J φ (x.bind k) kL R K := by
 intro r hr
 obtain ⟨s, h1, h2⟩ := h r hr
 exact ⟨s, by rw [Option.bind_assoc]; exact h1, h2⟩
theorem J.as {L : Option σ} {X : Option β} {Y : β -> Option α} (h : J φ L kL X (fun x => (Y x).bind K)) : J φ L kL (X.bind Y) K := by
 intro r hr
 rw [Option.bind_assoc] at hr
 exact h r hr
theorem J.un {L : Option σ} {K' : γ -> Option γ} (hK : K' = some) (h : J φ L kL R K) : J φ L kL (R.bind K) K' := by
 intro r hr
 subst hK
 exact h r (by simpa using hr)
theorem J.ex {L : Option σ} {x : α} (h : J φ L kL (K x) some) : J φ L kL (some x) K := by
 intro r hr
 exact h r (by simpa using hr)
theorem J.lp {L : Option σ} {L' : Option σ} (h : L = L') (hk : J φ L' kL R K) : J φ L kL R K := h ▸ hk
theorem J.ok {a : A} {f g : A -> Option Go.Proofs.Ythoomfjliekbdaa.R} {kL : Go.Proofs.Ythoomfjliekbdaa.R -> Option ρ} (h : J φ (f a) kL R K) : J φ (outK (.ret a) f g) kL R K := h
theorem J.cr {s : τ} {k : τ -> Option σ} (h : J φ (k s) kL R K) : J φ (some s) (fun r => (k r).bind kL) R K := h
theorem J.bKT {x y : Option σ} {b : Bool} (h : b = true) (h1 : J φ x kL R K) : J φ (bIf (.v (.bool b)) x y) kL R K := by subst h; exact h1
theorem J.bKF {x y : Option σ} {b : Bool} (h : b = false) (h1 : J φ y kL R K) : J φ (bIf (.v (.bool b)) x y) kL R K := by subst h; exact h1
theorem J.gst {x y : Option τ} {k : τ -> Option σ} {b : Bool} (h1 : b = true -> J φ (x.bind k) kL X K) (h2 : b = false -> J φ (y.bind k) kL Y K) : J φ ((gIf (.v (.bool b)) true x y).bind k) kL (cond b X Y) K := by
 cases b
 ·exact h2 rfl
 ·exact h1 rfl
theorem J.gsf {x y : Option τ} {k : τ -> Option σ} {b : Bool} (h1 : b = false -> J φ (x.bind k) kL X K) (h2 : b = true -> J φ (y.bind k) kL Y K) : J φ ((gIf (.v (.bool b)) false x y).bind k) kL (cond b Y X) K := by
 cases b
 ·exact h1 rfl
 ·exact h2 rfl
theorem gIf_knownFT {β : Type} {x y : Option β} {b : Bool} (h : b = true) : gIf (.v (.bool b)) false x y = y := by subst h; rfl
theorem gIf_knownFF {β : Type} {x y : Option β} {b : Bool} (h : b = false) : gIf (.v (.bool b)) false x y = x := by subst h; rfl
def fuel0 : Nat := 1208925819614629174706176
def cI (k : IntKind) (n : Int) : List A := [.v (.int k n)]
def c8 (c : UInt8) : List A := [.v (.int .u8 (c.toNat : Int))]
def cB (b : Bool) : List A := [.v (.bool b)]
def cS (s : ByteArray) : List A := [.v (.string s)]
def cL {T : Type} (f : T -> List A) (l : List T) : List A := [.imm (l.map f) false]
def FlatS {T : Type} (f : T -> List A) : Prop := ∀ g x, snapWs g (f x) = f x
theorem snapWss_map {T : Type} {f : T -> List A} (hf : FlatS f) (g : Nat -> Nat -> Nat -> A) (l : List T) : snapWss g (l.map f) = l.map f := by
 induction l with
 | nil => rfl
 | cons x l ih => rw [List.map_cons, snapWss, hf, ih]
def FlatU {T : Type} (f : T -> List A) : Prop := ∀ L x, unders L (f x) = true
theorem underss_map {T : Type} {f : T -> List A} (hf : FlatU f) (L : Nat) (l : List T) : underss L (l.map f) = true := by
 induction l with
 | nil => rfl
 | cons x l ih => rw [List.map_cons, underss, hf, ih]; rfl
theorem fu_cI (k : IntKind) : FlatU (cI k) := fun _ _ => rfl
theorem fu_c8 : FlatU c8 := fun _ _ => rfl
theorem fu_cB : FlatU cB := fun _ _ => rfl
theorem fu_cS : FlatU cS := fun _ _ => rfl
theorem fu_cL {T : Type} {f : T -> List A} (hf : FlatU f) : FlatU (cL f) := fun L x => by
 show (underss L (x.map f) && true) = true
 rw [underss_map hf]; rfl
theorem snapWs_app (g : Nat -> Nat -> Nat -> A) : ∀ (a b : List A), snapWs g (a ++ b) = snapWs g a ++ snapWs g b
 | [], b => by simp only [List.nil_append, snapWs]
 | x :: a, b => by simp only [List.cons_append, snapWs, snapWs_app g a b]
theorem unders_app (L : Nat) : ∀ (a b : List A), unders L (a ++ b) = (unders L a && unders L b)
 | [], b => by simp only [List.nil_append, unders, Bool.true_and]
 | x :: a, b => by simp only [List.cons_append, unders, unders_app L a b, Bool.and_assoc]
theorem fl_cI (k : IntKind) : FlatS (cI k) := fun _ _ => rfl
theorem fl_c8 : FlatS c8 := fun _ _ => rfl
theorem fl_cB : FlatS cB := fun _ _ => rfl
theorem fl_cS : FlatS cS := fun _ _ => rfl
theorem fl_cL {T : Type} {f : T -> List A} (hf : FlatS f) : FlatS (cL f) := fun g x => by
 show [snapW g (.imm (x.map f) false)] = _
 simp only [snapW, snapWss_map hf]; rfl
theorem sn0 : (∀ (H : Heap) (a : A), snap H a = snapW (snapG 4 H) a) /\ (∀ (g : Nat -> Nat -> Nat -> A) (b o m : Nat) (c : Bool), snapW g (.sl b o m c) = g b o m) /\ (∀ (g : Nat -> Nat -> Nat -> A) (els : List (List A)) (c : Bool), snapW g (.imm els c) = .imm (snapWss g els) false) /\ (∀ (g : Nat -> Nat -> Nat -> A) (cs : List A), snapW g (.agg cs) = .agg (snapWs g cs)) /\ (∀ (g : Nat -> Nat -> Nat -> A) (cs : List A), snapW g (.tup cs) = .tup (snapWs g cs)) /\ (∀ (g : Nat -> Nat -> Nat -> A) (t : TypeId) (x : A), snapW g (.ifc t x) = .ifc t (snapW g x)) /\ (∀ (g : Nat -> Nat -> Nat -> A) (k : IntKind) (ks : List Int) (vs : List A), snapW g (.mv k ks vs) = .mv k ks (snapWs g vs)) /\ (∀ (g : Nat -> Nat -> Nat -> A) (x : Value), snapW g (.v x) = .v x) /\ (∀ (g : Nat -> Nat -> Nat -> A) (f : Fn), snapW g (.fn f [] []) = .fn f [] []) /\ (∀ (g : Nat -> Nat -> Nat -> A), snapWs g [] = []) /\ (∀ (g : Nat -> Nat -> Nat -> A) (a : A) (as : List A), snapWs g (a :: as) = snapW g a :: snapWs g as) /\ (∀ (g : Nat -> Nat -> Nat -> A), snapWss g [] = []) /\ (∀ (g : Nat -> Nat -> Nat -> A) (a : List A) (as : List (List A)), snapWss g (a :: as) = snapWs g a :: snapWss g as) /\ (∀ {T : Type} {f : T -> List A} (hf : FlatS f) (g : Nat -> Nat -> Nat -> A) (l : List T), snapWss g (l.map f) = l.map f) /\ (∀ (g : Nat -> Nat -> Nat -> A) (a b : List A), snapWs g (a ++ b) = snapWs g a ++ snapWs g b) /\ (∀ k, FlatS (cI k)) /\ FlatS c8 /\ FlatS cB /\ FlatS cS /\ (∀ {T : Type} {f : T -> List A} (hf : FlatS f), FlatS (cL f)) :=
 ⟨fun _ _ => rfl, fun _ _ _ _ _ => rfl, fun _ _ _ => rfl, fun _ _ => rfl, fun _ _ => rfl, fun _ _ _ => rfl, fun _ _ _ _ => rfl, fun _ _ => rfl, fun _ _ => rfl, fun _ => rfl, fun _ _ _ => rfl, fun _ => rfl, fun _ _ _ => rfl, snapWss_map, snapWs_app, fl_cI, fl_c8, fl_cB, fl_cS, fl_cL⟩
def Inj {T U : Type} (f : T -> U) : Prop := ∀ x y, f x = f y -> x = y
theorem map_inj {T : Type} {f : T -> List A} (hf : Inj f) : ∀ (l l' : List T), l.map f = l'.map f ↔ l = l'
 | [], [] => by simp
 | [], _ :: _ => by simp
 | _ :: _, [] => by simp
 | x :: l, y :: l' => by
  simp only [List.map_cons, List.cons.injEq, map_inj hf l l']
  exact ⟨fun h => ⟨hf x y h.1, h.2⟩, fun h => ⟨by rw [h.1], h.2⟩⟩
theorem in_c8 : Inj c8 := fun x y h => by
 simp only [c8, List.cons.injEq, A.v.injEq, Value.int.injEq, and_true, true_and] at h
 exact UInt8.toNat_inj.1 (by omega)
theorem in_cL {T : Type} {f : T -> List A} (hf : Inj f) : Inj (cL f) := fun x y h => by
 simp only [cL, List.cons.injEq, A.imm.injEq, and_true, map_inj hf] at h
 exact h
noncomputable def orcOf {X : Type} (e : X -> List A) (G : X -> Option A) (args : List A) : Option A := open Classical in if h : ∃ x, e x = args then G h.choose else none
theorem orcOf_eq {X : Type} {e : X -> List A} (G : X -> Option A) (inj : Inj e) (x : X) : orcOf e G (e x) = G x := by
 unfold orcOf
 have h : ∃ y, e y = e x := ⟨x, rfl⟩
 rw [dif_pos h, inj _ _ h.choose_spec]
theorem orcOf_ok {X : Type} {e : X -> List A} {G : X -> Option A} {args : List A} {r : A} (h : orcOf e G args = some r) : ∃ x, e x = args /\ G x = some r := by
 unfold orcOf at h
 split at h
 ·rename_i hx; exact ⟨_, hx.choose_spec, h⟩
 ·cases h
theorem orcOf_map {X Y : Type} {e : X -> List A} {F : X -> Option Y} {f : Y -> A} {args : List A} {r : A} (h : orcOf e (fun x => (F x).map f) args = some r) : ∃ x y, e x = args /\ F x = some y /\ f y = r := by
 obtain ⟨x, hx, h⟩ := orcOf_ok h
 simp only [Option.map_eq_some_iff] at h
 obtain ⟨y, hy, h⟩ := h
 exact ⟨x, y, hx, hy, h⟩
theorem in0 : (∀ {T : Type} (a : T) (as : List T) (b : T) (bs : List T), (a :: as = b :: bs) = (a = b /\ as = bs)) /\ (∀ a b : Value, (A.v a = A.v b) = (a = b)) /\ (∀ a b : List A, (A.agg a = A.agg b) = (a = b)) /\ (∀ (a : List (List A)) (c : Bool) (b : List (List A)) (d : Bool), (A.imm a c = A.imm b d) = (a = b /\ c = d)) /\ (∀ (k : IntKind) (n : Int) (k' : IntKind) (n' : Int), (Value.int k n = Value.int k' n') = (k = k' /\ n = n')) /\ (∀ a b : Bool, (Value.bool a = Value.bool b) = (a = b)) /\ (∀ a b : ByteArray, (Value.string a = Value.string b) = (a = b)) /\ (∀ p : Prop, (p /\ True) = p) /\ (∀ p : Prop, (True /\ p) = p) :=
 ⟨fun a as b bs => List.cons.injEq a as b bs, fun a b => A.v.injEq a b, fun a b => A.agg.injEq a b, fun a c b d => A.imm.injEq a c b d, fun k n k' n' => Value.int.injEq k n k' n', fun a b => Value.bool.injEq a b, fun a b => Value.string.injEq a b, fun p => and_true p, fun p => true_and p⟩
def upd (C : Nat -> List A -> Option A) (k : Nat) (c : List A -> Option A) : Nat -> List A -> Option A := fun j args => bif Nat.beq j k then c args else C j args
theorem evCallY_in {cx : Cx} {n k : Nat} {base : CallT} {args : List A} {H : Heap} {lo : Nat} (h : Nat.ble cx.P.funcs.size k = false) (h2 : cutHere cx k H = false := by rfl) : evCallY cx (n + 1) base k args H lo = evCall1 cx (evCallY cx n base) (evCallY cx n) n k args H lo := by
 rw [evCallY, h, h2]; rfl
theorem evCall_in {cx : Cx} {n k : Nat} {args : List A} {H : Heap} {lo : Nat} (h : Nat.ble cx.P.funcs.size k = false) (h2 : cutHere cx k H = false := by rfl) : evCall cx (n + 1) k args H lo = evCall1 cx (evCall cx n) (evCallY cx n) n k args H lo := evCallY_in h h2
theorem cutHere_nil {cx : Cx} {k : Nat} : cutHere cx k [] = false := by
 unfold cutHere
 cases hb : Nat.beq (cx.cut k) 0 with
 | true => rfl
 | false => cases hk : cx.cut k with
  | zero => rw [hk] at hb; cases hb
  | succ m => rfl
theorem evCall_of1 {cx : Cx} {n k : Nat} {args : List A} {lo : Nat} {r : Go.Proofs.Ythoomfjliekbdaa.R} (h : evCall1 cx (evCall cx n) (evCallY cx n) n k args [] lo = some r) : evCall cx (n + 1) k args [] lo = some r := by
 refine (evCall_in (ble_lt ?_) cutHere_nil).trans h
 unfold evCall1 at h
 cases hf : cx.P.funcs[k]? with
 | none => rw [hf] at h; cases h
 | some fn => exact (Array.getElem?_eq_some_iff.1 hf).1
theorem yext_at {q b : Nat} {call : CallT} {rnd : List A -> Heap -> Nat -> Option Go.Proofs.Ythoomfjliekbdaa.R} {args : List A} {H : Heap} {lo : Nat} : yext q call b rnd (q + b) args H lo = rnd args H lo := by
 unfold yext; rw [show Nat.beq (q + b) (q + b) = true from by simp]; rfl
theorem evCallY_y {cx : Cx} {b : Nat} {base : CallT} {args : List A} {H : Heap} {lo : Nat} : ∀ {m : Nat}, evCallY cx m base (cx.P.funcs.size + b) args H lo = base (cx.P.funcs.size + b) args H lo := fun {m} => by
 cases m <;> rw [evCallY, show Nat.ble cx.P.funcs.size (cx.P.funcs.size + b) = true from by simp [Nat.ble_eq]] <;> rfl
theorem rdy_at {β : Type} {H : Heap} {b : Nat} {x : Option β} (h : H[b]? = some (.rng .ready)) : rdy H b x = x := by unfold rdy; rw [h]
theorem bsy_at {β : Type} {H : Heap} {b : Nat} {x : Option β} (h : H[b]? = some (.rng .busy)) : bsy H b x = x := by unfold bsy; rw [h]
section
variable {β : Type} {H : Heap} {b : Nat} {kn : Heap -> Option β} {kx kg : Nat -> Heap -> Option β} {kr : Heap -> Option β}
theorem rs_n (h : H[b]? = some (.rng .ready)) : rngSel b H kn kx kg kr = kn (H.set b .dead) := by unfold rngSel; rw [h]
theorem rs_r (h : H[b]? = some (.rng (.done .ret))) : rngSel b H kn kx kg kr = kr (H.set b .dead) := by unfold rngSel; rw [h]
end
section
variable {cx : Cx} {call : CallT} {q lo b : Nat} {first cap args : List A} {H : Heap} {k pan : A -> Heap -> Option Go.Proofs.Ythoomfjliekbdaa.R} {kL : Go.Proofs.Ythoomfjliekbdaa.R -> Option ρ}
theorem J.dC (h1 : callable cx.P q = true) (h2 : cx.isOrc q = false) (h : J φ ((call q (first ++ args ++ cap) H lo).bind fun r => outK r.1 (fun a => k a r.2) (fun a => pan a r.2)) kL R K) : J φ (dynCall cx call (.fn (.func q) first cap) args H lo k pan) kL R K := by
 unfold dynCall; simp only [h1, h2, cond_true, cond_false]; exact h
theorem J.dO (h1 : callable cx.P q = true) (h2 : cx.isOrc q = true) (h : J φ ((cx.C q ((first ++ args ++ cap).map (snap H))).bind fun a => k a H) kL R K) : J φ (dynCall cx call (.fn (.func q) first cap) args H lo k pan) kL R K := by
 unfold dynCall; simp only [h1, h2, cond_true]; exact h
theorem J.dY (h1 : isRng H b = true) (h : J φ ((call (cx.P.funcs.size + b) args H lo).bind fun r => outK r.1 (fun a => k a r.2) (fun _ => none)) kL R K) : J φ (dynCall cx call (.yld b) args H lo k pan) kL R K := by
 unfold dynCall; simp only [h1, cond_true]; exact h
end
theorem ok_J {cx : Cx} (horc : OrcOK cx) (hmx : cx.P.follows .mixedOrders = true) {γ : Type} {n k : Nat} {args : List A} {f : γ -> A} {F : Option γ} {y : γ}
  (h : J (fun (o : Go.Proofs.Ythoomfjliekbdaa.R) y => ∃ v, o.1 = .ret v /\ snapE o.2 v = f y) (evCall1 cx (evCall cx (n + 8)) (evCallY cx (n + 8)) (n + 8) k args [] 0) some F some) (hF : F = some y) : CallOK cx.P cx.glob k args (f y) := by
 obtain ⟨s, h1, v, h2, h3⟩ := h y (by rw [hF]; rfl)
 obtain ⟨o, H⟩ := s
 have h2 : o = .ret v := h2
 subst h2
 rw [show ∀ x : Option Go.Proofs.Ythoomfjliekbdaa.R, x.bind some = x from fun x => by cases x <;> rfl] at h1
 have h1 : evCall cx (n + 9) k args [] 0 = some (.ret v, H) := evCall_of1 h1
 have := callOK_of_ev horc hmx h1
 rwa [show snapE H v = f y from h3] at this
abbrev wr (k : IntKind) (n : Int) : Int := k.wrap n
def shrI (k : IntKind) (x y : Int) : Int := x.fdiv (2 ^ (min y.toNat k.bits))
def andI (k : IntKind) (x y : Int) : Int := k.wrap ((BitVec.ofInt k.bits x &&& BitVec.ofInt k.bits y).toNat : Int)
section
variable {P : Program} {t : TypeId} {i j : Bool} {k k2 : IntKind} {a b : Int}
theorem aBin_shr (hb : 0 <= b) : aBin P .shr t i j (.v (.int k a)) (.v (.int k2 b)) = some (.v (.int k (shrI k a b))) := by
 have h : pureV P (do eqGuard .shr t (rep i) (rep j) (.int k a) (.int k2 b); binOp .shr t (.int k a) (.int k2 b)) = some (.int k (shrI k a b)) := by
  show pureV P (binOp .shr t (.int k a) (.int k2 b)) = _
  simp only [binOp, Op.shift, if_neg (Int.not_lt.2 hb)]; rfl
 show (pureV P _).map ofV = _
 rw [h]; rfl
theorem aBin_bits_and : aBin P .and t i j (.v (.int k a)) (.v (.int k b)) = some (.v (.int k (andI k a b))) := by
 have h : pureV P (do eqGuard .and t (rep i) (rep j) (.int k a) (.int k b); binOp .and t (.int k a) (.int k b)) = some (.int k (andI k a b)) := by
  show pureV P (binOp .and t (.int k a) (.int k b)) = _
  simp only [binOp, ne_eq, not_true_eq_false, if_false, Op.intBits]; rfl
 show (pureV P _).map ofV = _
 rw [h]; rfl
end
theorem u8_back {n : Int} (h : (decide (0 <= n) && decide (n < 256)) = true) : ((UInt8.ofNat n.toNat).toNat : Int) = n := by
 simp only [Bool.and_eq_true, decide_eq_true_eq] at h
 rw [UInt8.toNat_ofNat', Nat.mod_eq_of_lt (by omega)]
 omega
def getI {T : Type} (l : List T) (i : Int) : Option T := bif decide (0 <= i) then l[i.toNat]? else none
def imm {T : Type} (f : T -> List A) (l : List T) : A := .imm (l.map f) false
theorem idx_imm {P : Program} {t e : TypeId} {es : Nat} {T : Type} (f : T -> List A) (l : List T) (c : Bool) (k : IntKind) (i : Int) (H : Heap) (h1 : P.underlying t = some (.slice e)) (h2 : sizeT P e = some es) (h3 : ∀ x, (f x).length = es) :
  aIndexAddr P t (.imm (l.map f) c) (.v (.int k i)) H = (getI l i).map fun x => .ip (f x) := by
 unfold aIndexAddr idx getI
 rw [h1]
 by_cases hi : 0 <= i
 ·simp only [hi, decide_true, cond_true, Option.bind_some, refOK, h2, List.getElem?_map]
  cases l[i.toNat]? with
  | none => rfl
  | some x => simp [h3]
 ·simp only [hi, decide_false, cond_false, Option.bind_none, Option.map_none]
theorem len_imm {P : Program} {t e : TypeId} {T : Type} (f : T -> List A) (l : List T) (c : Bool) (H : Heap) (h1 : P.underlying t = some (.slice e)) : aLen P t (.imm (l.map f) c) H = some (.v (.int .i64 l.length)) := by
 unfold aLen
 rw [h1]
 simp [refOK]
section
variable {P : Program} {t e es by_ : Nat} {T : Type} {f : T -> List A}
def subI (l : List T) (lo hi : Int) : Option (List T) := bif decide (0 <= lo) && decide (lo <= hi) && decide (hi <= l.length) then some ((l.drop lo.toNat).take (hi.toNat - lo.toNat)) else none
def appI (b : Nat) (l l2 : List T) : Option (List T) := bif decide ((l.length + l2.length) * b <= limit) then some (l ++ l2) else none
def CellF (f : T -> List A) : Prop := ∀ x, (f x).all A.cell = true
theorem ce_c8 : CellF c8 := fun _ => rfl
theorem ce_cL {U : Type} {g : U -> List A} : CellF (cL g) := fun _ => rfl
theorem cells_all (hl : ∀ x, (f x).length = es) (hc : CellF f) (l : List T) : ((l.map f).all fun cs => cs.length == es && cs.all A.cell) = true := by
 rw [List.all_map]
 exact List.all_eq_true.2 fun x _ => by simp [hl, hc x]
def ElsOf (H : Heap) (y : A) (f : T -> List A) (l : List T) : Prop := els? H y = some (l.map f)
theorem els_imm (l : List T) (c : Bool) (H : Heap) : ElsOf H (.imm (l.map f) c) f l := rfl
theorem elsZ_of {P : Program} {H : Heap} {t2 by_ : Nat} {z : List A} {y : A} (h : notInt P t2 = true) : elsZ P H t2 by_ z y = els? H y := by unfold elsZ; rw [h]; rfl
theorem app_guard (hl : ∀ x, (f x).length = es) (hc : CellF f) (h0 : es ≠ 0) (hb : by_ ≠ 0) {z : List A} (hz : z.length = es) (l2 : List T) :
  (es == 0 || by_ == 0 || !(z.length == es) || !((l2.map f).all fun cs => cs.length == es && cs.all A.cell)) = false := by
 rw [cells_all hl hc]
 simp [h0, hb, hz]
theorem app_imm {t2 : Nat} {z : List A} (h1 : elemT P t = some e) (h2 : sizeT P e = some es) (h3 : bytesT P e = some by_) (h4 : zeroT P e = some z) (hz : z.length = es) (h0 : es ≠ 0) (hb : by_ ≠ 0) (hn : notInt P t2 = true)
  (hl : ∀ x, (f x).length = es) (hc : CellF f) {H : Heap} {lo : Nat} {l l2 : List T} {y : A} (hy : ElsOf H y f l2) :
  aAppend P t t2 false (.imm (l.map f) true) y H lo = (appI by_ l l2).map fun r => (.sl H.length 0 r.length false, H ++ [.row false es (r.map f)]) := by
 unfold aAppend
 rw [h1, Option.bind_some, h2, Option.bind_some, h3, Option.bind_some, h4, Option.bind_some, elsZ_of hn, show els? H y = _ from hy, Option.bind_some, app_guard hl hc h0 hb hz, cond_false]
 simp only [List.length_map, Bool.false_and, cond_false, cells_all hl hc, cond_true, appI]
 cases decide ((l.length + l2.length) * by_ <= limit) <;> simp
theorem app_row {t2 : Nat} {z : List A} (h1 : elemT P t = some e) (h2 : sizeT P e = some es) (h3 : bytesT P e = some by_) (h4 : zeroT P e = some z) (hz : z.length = es) (h0 : es ≠ 0) (hb : by_ ≠ 0) (hn : notInt P t2 = true)
  (hl : ∀ x, (f x).length = es) (hc : CellF f) {wr : Bool} {H : Heap} {lo b : Nat} {l l2 : List T} {y : A} (hH : H[b]? = some (.row false es (l.map f))) (hlo : lo <= b) (hy : ElsOf H y f l2) :
  aAppend P t t2 wr (.sl b 0 l.length false) y H lo = (appI by_ l l2).map fun r => (.sl b 0 r.length false, H.set b (.row false es (r.map f))) := by
 unfold aAppend
 rw [h1, Option.bind_some, h2, Option.bind_some, h3, Option.bind_some, h4, Option.bind_some, elsZ_of hn, show els? H y = _ from hy, Option.bind_some, app_guard hl hc h0 hb hz, cond_false]
 simp only [hH, List.length_map, appI]
 cases hd : decide ((l.length + l2.length) * by_ <= limit) <;> simp [hlo]
theorem oIdx_some {d : Nat} {k : IntKind} {n : Int} : oIdx d (some (.v (.int k n))) = bif decide (0 <= n) then some n.toNat else none := rfl
theorem cut_imm3 (h1 : P.underlying t = some (.slice e)) (h2 : sizeT P e = some es) (hl : ∀ x, (f x).length = es) {H : Heap} {l : List T} {lo : Option A} {a b : Int} {k1 k2 : IntKind} {c : Bool} (ha : (lo = none /\ a = 0) ∨ ∃ k, lo = some (.v (.int k a))) :
  aSlice P t (.imm (l.map f) c) lo (some (.v (.int k1 b))) (some (.v (.int k2 b))) H = (subI l a b).map fun r => .imm (r.map f) true := by
 unfold aSlice
 rw [h1]
 simp only [h2, Option.bind_some, List.length_map, oIdx_some, idx]
 have e2 : oIdx 0 lo = bif decide (0 <= a) then some a.toNat else none := by
  rcases ha with ⟨rfl, rfl⟩ | ⟨k, rfl⟩
  ·simp [oIdx]
  ·rfl
 have e3 : ∀ i : Nat, (i == 0 || match (l.map f)[i]? with | some cs => cs.length == es | none => true) = true := fun i => by
  rw [List.getElem?_map]
  cases l[i]? <;> simp [hl]
 rw [e2]
 unfold subI
 by_cases hb0 : 0 <= b
 ·by_cases ha0 : 0 <= a
  ·have q1 : (decide (a.toNat <= b.toNat)) = decide (a <= b) := by rw [decide_eq_decide]; omega
   have q2 : (decide (b.toNat <= l.length)) = decide (b <= (l.length : Int)) := by rw [decide_eq_decide]; omega
   simp only [hb0, ha0, decide_true, cond_true, Option.bind_some, Bool.true_and, q1, q2, List.map_take, List.map_drop, beq_self_eq_true]
   rw [List.getElem?_map]
   cases hx : l[a.toNat]? <;> cases (decide (a <= b) && decide (b <= (l.length : Int))) <;> simp [hl]
  ·simp [hb0, ha0]
 ·have : (decide (0 <= a) && decide (a <= b) && decide (b <= (l.length : Int))) = false := by
   rw [Bool.eq_false_iff]; intro hh; simp only [Bool.and_eq_true, decide_eq_true_eq] at hh; omega
  simp [hb0, this]
theorem snapG_row (hf : FlatS f) {H : Heap} {b n : Nat} {l : List T} (h : H[b]? = some (.row false es (l.map f))) : snapG (n + 1) H b 0 l.length = .imm (l.map f) false := by
 unfold snapG
 rw [h]
 simp only [List.drop_zero]
 rw [List.take_of_length_le (by simp), snapWss_map hf]
theorem snapGE_row (hf : FlatS f) {H : Heap} {b n : Nat} {wr : Bool} {l : List T} (h : H[b]? = some (.row wr es (l.map f))) : snapGE (n + 1) H b 0 l.length = .imm (l.map f) false := by
 unfold snapGE
 rw [h]
 simp only [List.drop_zero]
 rw [List.take_of_length_le (by simp), snapWss_map hf]
theorem snapGE_sub (hf : FlatS f) {H : Heap} {b n o m : Nat} {wr : Bool} {l : List T} (h : H[b]? = some (.row wr es (l.map f))) : snapGE (n + 1) H b o m = .imm (((l.drop o).take m).map f) false := by
 unfold snapGE
 rw [h]
 simp only [<- List.map_drop, <- List.map_take]
 rw [snapWss_map hf]
def idxN (n : Nat) (i : Int) : Option Nat := bif decide (0 <= i) && decide (i < n) then some i.toNat else none
def modI (l : List T) (i : Nat) (u : T -> T) : Option (List T) := match l[i]? with | some y => some (l.set i (u y)) | none => none
def mkI (b : Nat) (n : Int) (z : T) : Option (List T) := bif decide (0 <= n) && decide (n * b <= limit) && decide (n <= limit) then some (List.replicate n.toNat z) else none
def copyI (l : List T) (o n : Nat) (l2 : List T) : List T := splice l o (l2.take n)
theorem idxN_eq {n : Nat} {i : Int} : (bif decide (0 <= i) then some i.toNat else none : Option Nat).bind (fun j => bif decide (j < n) then some j else none) = idxN n i := by
 unfold idxN
 by_cases h : 0 <= i
 ·have : decide (i.toNat < n) = decide (i < n) := by rw [decide_eq_decide]; omega
  simp [h, this]
 ·simp [h]
theorem wrow_idx {H : Heap} {b o n : Nat} {l : List T} {c : Bool} {k : IntKind} {i : Int} (h1 : P.underlying t = some (.slice e)) (h2 : sizeT P e = some es) (h : H[b]? = some (.row true es (l.map f))) :
  aIndexAddr P t (.sl b o n c) (.v (.int k i)) H = (idxN n i).map fun j => .ep b (o + j) 0 := by
 unfold aIndexAddr idx
 rw [h1, <- idxN_eq]
 by_cases hi : 0 <= i
 ·simp only [hi, decide_true, cond_true, Option.bind_some, refOK, h2, h, beq_self_eq_true]
  cases decide (i.toNat < n) <;> rfl
 ·simp only [hi, decide_false, cond_false, Option.bind_none, Option.map_none]
theorem wrow_idx0 {H : Heap} {b n : Nat} {l : List T} {c : Bool} {k : IntKind} {i : Int} (h1 : P.underlying t = some (.slice e)) (h2 : sizeT P e = some es) (h : H[b]? = some (.row true es (l.map f))) :
  aIndexAddr P t (.sl b 0 n c) (.v (.int k i)) H = (idxN n i).map fun j => .ep b j 0 := by
 rw [wrow_idx h1 h2 h]
 cases idxN n i <;> simp
theorem wrow_load {H : Heap} {b i o n : Nat} {l : List T} {g : T -> A} (h2 : sizeT P t = some n) (h0 : n ≠ 0) (hl : ∀ x, (f x).length = es) (ho : o + n <= es) (h : H[b]? = some (.row true es (l.map f))) (hg : ∀ x, join P t (((f x).drop o).take n) = some (g x)) :
  aLoad P t (.ep b i o) H = (l[i]?).map g := by
 unfold aLoad
 rw [h2, Option.bind_some]
 have : (n == 0) = false := by simpa using h0
 simp only [this, cond_false, h, List.getElem?_map]
 cases l[i]? with
 | none => rfl
 | some x => simp only [Option.map_some, hl, decide_eq_true ho, cond_true, hg]
theorem wrow_store {H : Heap} {b i o n lo : Nat} {l : List T} {x : A} {xs : List A} {u : T -> T} (h2 : sizeT P t = some n) (hx : x.cells? = some xs) (h0 : n ≠ 0) (hxl : xs.length = n) (hl : ∀ x, (f x).length = es) (ho : o + n <= es) (hlo : lo <= b) (h : H[b]? = some (.row true es (l.map f))) (hu : ∀ y, splice (f y) o xs = f (u y)) :
  aStore P t (.ep b i o) x H lo = (modI l i u).map fun r => H.set b (.row true es (r.map f)) := by
 unfold aStore modI
 rw [h2, Option.bind_some, hx, Option.bind_some]
 have : (n == 0 || !(xs.length == n)) = false := by simp [h0, hxl]
 simp only [this, cond_false, h, List.getElem?_map]
 cases l[i]? with
 | none => rfl
 | some y => simp only [Option.map_some, hl, decide_eq_true ho, decide_eq_true hlo, Bool.and_self, cond_true, hu, List.map_set]
theorem els_sub {H : Heap} {b es' o n : Nat} {wr : Bool} {l : List T} (c : Bool) (h : H[b]? = some (.row wr es' (l.map f))) : ElsOf H (.sl b o n c) f ((l.drop o).take n) := by
 unfold ElsOf els?
 simp only [h, List.map_take, List.map_drop]
theorem wrow_copy {H : Heap} {b o n lo : Nat} {l l2 : List T} {c : Bool} {y : A} (h1 : elemT P t = some e) (h2 : sizeT P e = some es) (h0 : es ≠ 0) (hl : ∀ x, (f x).length = es) (hc : CellF f) (hlo : lo <= b) (h : H[b]? = some (.row true es (l.map f))) (hy : ElsOf H y f l2) :
  aCopy P t (.sl b o n c) y H lo = some (.v (.int .i64 ((min l2.length n : Nat) : Int)), H.set b (.row true es ((copyI l o n l2).map f))) := by
 unfold aCopy
 rw [h1, Option.bind_some, h2, Option.bind_some, show els? H y = _ from hy, Option.bind_some]
 have : (es == 0 || !((l2.map f).all fun cs => cs.length == es && cs.all A.cell)) = false := by rw [cells_all hl hc]; simp [h0]
 simp only [this, cond_false, h, decide_eq_true hlo, Bool.true_and, beq_self_eq_true, cond_true, List.length_map, copyI, splice, List.map_append, List.map_take, List.map_drop, List.length_take]
theorem wrow_make {H : Heap} {k1 k2 : IntKind} {n : Int} {z : T} (h1 : elemT P t = some e) (h2 : sizeT P e = some es) (h3 : bytesT P e = some by_) {z' : List A} (h4 : zeroT P e = some z') (hz : z'.map uncl = f z) (h0 : es ≠ 0) (hl : ∀ x, (f x).length = es) :
  aMakeSlice P t (.v (.int k1 n)) (.v (.int k2 n)) H = (mkI by_ n z).map fun r => (.sl H.length 0 r.length false, H ++ [.row true es (r.map f)]) := by
 unfold aMakeSlice aMakeSliceK mkI idx
 rw [h1, Option.bind_some, h2, Option.bind_some, h3, Option.bind_some, h4, Option.bind_some]
 have hzl : z'.length = es := by have := hl z; rw [<- hz] at this; simpa using this
 by_cases hn : 0 <= n
 ·have e1 : decide (n.toNat * by_ <= limit) = decide (n * by_ <= limit) := by
   obtain ⟨m, rfl⟩ : ∃ m : Nat, n = m := ⟨n.toNat, by omega⟩
   rw [decide_eq_decide, Int.toNat_natCast]
   exact ⟨fun h => by exact_mod_cast h, fun h => by exact_mod_cast h⟩
  have e2 : decide (n.toNat <= limit) = decide (n <= limit) := by rw [decide_eq_decide]; omega
  simp only [hn, decide_true, cond_true, Option.bind_some, hz, hzl, beq_self_eq_true, Bool.not_true, Bool.or_false, e1, e2, Nat.le_refl, Bool.true_and]
  have : (es == 0) = false := by simpa using h0
  rw [this]
  cases decide (n * by_ <= limit) <;> cases decide (n <= limit) <;> simp
 ·simp [hn]
theorem wrow_makeI {H : Heap} {k1 k2 : IntKind} {n : Int} {z : T} (h1 : elemT P t = some e) (h2 : sizeT P e = some es) (h3 : bytesT P e = some by_) {z' : List A} (h4 : zeroT P e = some z') (hz : z'.map uncl = f z) (h0 : es ≠ 0) (hl : ∀ x, (f x).length = es) :
  aMakeImm P t (.v (.int k1 n)) (.v (.int k2 n)) H = (mkI by_ n z).map fun r => (.imm (r.map f) false, H) := by
 unfold aMakeImm mkI idx
 rw [h1, Option.bind_some, h2, Option.bind_some, h3, Option.bind_some, h4, Option.bind_some]
 have hzl : z'.length = es := by have := hl z; rw [<- hz] at this; simpa using this
 by_cases hn : 0 <= n
 ·have e1 : decide (n.toNat * by_ <= limit) = decide (n * by_ <= limit) := by
   obtain ⟨m, rfl⟩ : ∃ m : Nat, n = m := ⟨n.toNat, by omega⟩
   rw [decide_eq_decide, Int.toNat_natCast]
   exact ⟨fun h => by exact_mod_cast h, fun h => by exact_mod_cast h⟩
  have e2 : decide (n.toNat <= limit) = decide (n <= limit) := by rw [decide_eq_decide]; omega
  simp only [hn, decide_true, cond_true, Option.bind_some, hz, hzl, beq_self_eq_true, Bool.not_true, Bool.or_false, e1, e2, Bool.true_and]
  have : (es == 0) = false := by simpa using h0
  rw [this]
  cases decide (n * by_ <= limit) <;> cases decide (n <= limit) <;> simp
 ·simp [hn]
theorem wrow_app {t2 : Nat} {z : List A} (h1 : elemT P t = some e) (h2 : sizeT P e = some es) (h3 : bytesT P e = some by_) (h4 : zeroT P e = some z) (hz : z.length = es) (h0 : es ≠ 0) (hb : by_ ≠ 0) (hn : notInt P t2 = true)
  (hl : ∀ x, (f x).length = es) (hc : CellF f) {H : Heap} {lo : Nat} {l2 : List T} {y : A} (hy : ElsOf H y f l2) :
  aAppend P t t2 true (.imm [] true) y H lo = (appI by_ [] l2).map fun r => (.sl H.length 0 r.length false, H ++ [.row true es (r.map f)]) := by
 unfold aAppend
 rw [h1, Option.bind_some, h2, Option.bind_some, h3, Option.bind_some, h4, Option.bind_some, elsZ_of hn, show els? H y = _ from hy, Option.bind_some, app_guard hl hc h0 hb hz, cond_false]
 simp only [List.length_nil, List.length_map, Nat.zero_add, List.isEmpty_nil, Bool.and_self, cond_true, appI, List.nil_append]
 cases decide (l2.length * by_ <= limit) <;> simp
def subN (n : Nat) (lo hi : Int) : Option (Nat × Nat) := bif decide (0 <= lo) && decide (lo <= hi) && decide (hi <= n) then some (lo.toNat, hi.toNat - lo.toNat) else none
theorem wrow_cut {H : Heap} {b o n : Nat} {wr : Bool} {els : List (List A)} {lo hi : Option A} {p q : Int} (h1 : P.underlying t = some (.slice e)) (h2 : sizeT P e = some es) (h : H[b]? = some (.row wr es els)) (ha : (lo = none /\ p = 0) ∨ ∃ k, lo = some (.v (.int k p))) (hb : (hi = none /\ q = n) ∨ ∃ k, hi = some (.v (.int k q))) :
  aSlice P t (.sl b o n false) lo hi none H = (subN n p q).map fun r => .sl b (o + r.1) r.2 false := by
 unfold aSlice
 rw [h1]
 simp only [h2, Option.bind_some, Bool.false_and, h, beq_self_eq_true, Bool.and_true]
 have e1 : oIdx n hi = bif decide (0 <= q) then some q.toNat else none := by
  rcases hb with ⟨rfl, rfl⟩ | ⟨k, rfl⟩
  ·simp [oIdx]
  ·rfl
 have e2 : oIdx 0 lo = bif decide (0 <= p) then some p.toNat else none := by
  rcases ha with ⟨rfl, rfl⟩ | ⟨k, rfl⟩
  ·simp [oIdx]
  ·rfl
 rw [e1, e2]
 unfold subN
 by_cases hb0 : 0 <= q
 ·by_cases ha0 : 0 <= p
  ·have q1 : (decide (p.toNat <= q.toNat)) = decide (p <= q) := by rw [decide_eq_decide]; omega
   have q2 : (decide (q.toNat <= n)) = decide (q <= (n : Int)) := by rw [decide_eq_decide]; omega
   simp only [hb0, ha0, decide_true, cond_true, Option.bind_some, Bool.true_and, q1, q2]
   cases (decide (p <= q) && decide (q <= (n : Int))) <;> rfl
  ·simp [hb0, ha0]
 ·have : (decide (0 <= p) && decide (p <= q) && decide (q <= (n : Int))) = false := by
   rw [Bool.eq_false_iff]; intro hh; simp only [Bool.and_eq_true, decide_eq_true_eq] at hh; omega
  simp [hb0, this]
theorem wrow_cut0 {H : Heap} {b n : Nat} {wr : Bool} {els : List (List A)} {lo hi : Option A} {p q : Int} (h1 : P.underlying t = some (.slice e)) (h2 : sizeT P e = some es) (h : H[b]? = some (.row wr es els)) (ha : (lo = none /\ p = 0) ∨ ∃ k, lo = some (.v (.int k p))) (hb : (hi = none /\ q = n) ∨ ∃ k, hi = some (.v (.int k q))) :
  aSlice P t (.sl b 0 n false) lo hi none H = (subN n p q).map fun r => .sl b r.1 r.2 false := by
 rw [wrow_cut h1 h2 h ha hb]
 cases subN n p q <;> simp
theorem kill_row (hf : FlatS f) {H : Heap} {b o n lo : Nat} {c : Bool} {l : List T} (h : H[b]? = some (.row true es (l.map f))) (hlo : lo <= b) : aKill lo (.sl b o n c) H = some (.imm (((l.drop o).take n).map f) false, H.set b .dead) := by
 unfold aKill
 simp only [h, decide_eq_true hlo, cond_true, <- List.map_drop, <- List.map_take, snapWss_map hf]
theorem kill_all (hf : FlatS f) {H : Heap} {b lo : Nat} {c : Bool} {l : List T} (h : H[b]? = some (.row true es (l.map f))) (hlo : lo <= b) : aKill lo (.sl b 0 l.length c) H = some (.imm (l.map f) false, H.set b .dead) := by
 rw [kill_row hf h hlo, List.drop_zero, List.take_of_length_le (Nat.le_refl _)]
theorem row_idx {H : Heap} {b : Nat} {l : List T} {c : Bool} {k : IntKind} {i : Int} (h1 : P.underlying t = some (.slice e)) (h2 : sizeT P e = some es) (h : H[b]? = some (.row false es (l.map f))) :
  aIndexAddr P t (.sl b 0 l.length c) (.v (.int k i)) H = (getI l i).map fun x => .ip (f x) := by
 unfold aIndexAddr idx getI
 rw [h1]
 by_cases hi : 0 <= i
 ·simp only [hi, decide_true, cond_true, Option.bind_some, refOK, h2, h, Nat.zero_add, beq_self_eq_true, List.getElem?_map, Option.map_map]
  by_cases hl : i.toNat < l.length
  ·simp [hl, Function.comp_def]
  ·simp [hl, Nat.not_lt.1 hl]
 ·simp only [hi, decide_false, cond_false, Option.bind_none, Option.map_none]
theorem row_len {H : Heap} {b o n : Nat} {B : Blk} {c : Bool} (h1 : P.underlying t = some (.slice e)) (h : H[b]? = some B) (hB : refOK H (.sl b o n c) = true) : aLen P t (.sl b o n c) H = some (.v (.int .i64 n)) := by
 unfold aLen
 rw [h1, hB]; rfl
end
def selF (y : Nat) : A := bif Nat.beq y 0 then .v .nilFunc else .fn (.func y) [] []
theorem under_selF (L e : Nat) : A.under L (selF e) = true := by unfold selF; cases Nat.beq e 0 <;> rfl
theorem un0 : (∀ (L e : Nat), A.under L (selF e) = true) /\ (∀ {T : Type} {f : T -> List A} (hf : FlatU f) (L : Nat) (l : List T), underss L (l.map f) = true) /\ (∀ (L : Nat) (a b : List A), unders L (a ++ b) = (unders L a && unders L b)) /\ (∀ k, FlatU (cI k)) /\ FlatU c8 /\ FlatU cB /\ FlatU cS /\ (∀ {T : Type} {f : T -> List A} (hf : FlatU f), FlatU (cL f)) /\ (∀ b : Bool, (b && true) = b) /\ (∀ b : Bool, (true && b) = b) /\ (∀ {β : Type} (x y : β), (bif true then x else y) = x) :=
 ⟨under_selF, underss_map, unders_app, fu_cI, fu_c8, fu_cB, fu_cS, fu_cL, fun b => Bool.and_true b, fun b => Bool.true_and b, fun _ _ => rfl⟩
theorem J.ds {cx : Cx} {call : CallT} {e : Nat} (q : Nat) {args : List A} {H : Heap} {lo : Nat} {k pan : A -> Heap -> Option Go.Proofs.Ythoomfjliekbdaa.R} {kL : Go.Proofs.Ythoomfjliekbdaa.R -> Option ρ} (h : decide (e = q) = true) (hq : Nat.beq q 0 = false)
  (hk : J φ (dynCall cx call (.fn (.func q) [] []) args H lo k pan) kL R K) : J φ (dynCall cx call (selF e) args H lo k pan) kL R K := by
 rw [of_decide_eq_true h]
 unfold selF
 rw [hq]
 exact hk
abbrev iA (n : Int) : A := A.v (Value.int .i64 n)
abbrev uA (n : Int) : A := A.v (Value.int .u8 n)
abbrev bA (b : Bool) : A := A.v (Value.bool b)
end Go.Proofs.Ythoomfjliekbdaa
