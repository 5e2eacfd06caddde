/-
  From what the interpreter does to plain functions on plain data: rules by which the one is followed along the other.
-/
import Derived.Test.YtmhnhokhlkppeaaDoorEvSimp
namespace Go.Proofs.YtmhnhokhlkppeaaDoor
set_option linter.unusedVariables false
set_option linter.unusedSimpArgs false
variable {ρ γ σ α β τ : Type}
/-- Where R answers, L answers, and so that φ. -/
def J (φ : ρ → γ → Prop) (L : Option σ) (kL : σ → Option ρ) (R : Option α) (K : α → Option γ) : Prop := ∀ r, R.bind K = some r → ∃ s, L.bind kL = some s ∧ φ s r
variable {φ : ρ → γ → Prop} {kL : σ → Option ρ} {K : α → Option γ} {R X Y : Option α}
theorem J.st {x : Option τ} {v : τ} {k : τ → Option σ} (h : x = some v) (hk : J φ (k v) kL R K) : J φ (x.bind k) kL R K := by
  rw [h]; exact hk
theorem J.bd {x : Option τ} {k : τ → Option σ} {X : Option β} {Y : β → Option α} {g : β → τ} (h : x = X.map g) (hk : ∀ y, J φ (k (g y)) kL (Y y) K) : J φ (x.bind k) kL (X.bind Y) K := by
  intro r hr
  rw [Option.bind_assoc] at hr
  cases X with
  | none => cases hr
  | some y => rw [h]; exact hk y r hr
theorem J.bg {x : Option τ} {k : τ → Option σ} {X : Option β} {Y : β → Option α} (ψ : τ → β → Prop) (h : J ψ x some X some) (hk : ∀ t y, ψ t y → J φ (k t) kL (Y y) K) : J φ (x.bind k) kL (X.bind Y) K := by
  intro r hr
  rw [Option.bind_assoc] at hr
  cases X with
  | none => cases hr
  | some y =>
    obtain ⟨s, h1, h2⟩ := h y rfl
    have : x = some s := by cases x <;> simp_all
    rw [this]
    exact hk s y h2 r hr
theorem J.bi {x y : Option σ} {b : Bool} (h1 : J φ x kL X K) (h2 : J φ y kL Y K) : J φ (bIf (.v (.bool b)) x y) kL (cond b X Y) K := by
  cases b
  · exact h2
  · exact h1
theorem J.gt {x y : Option σ} {b : Bool} (h1 : J φ x kL X K) (h2 : J φ y kL Y K) : J φ (gIf (.v (.bool b)) true x y) kL (cond b X Y) K := by
  cases b
  · exact h2
  · exact h1
theorem J.gf {x y : Option σ} {b : Bool} (h1 : J φ x kL X K) (h2 : J φ y kL Y K) : J φ (gIf (.v (.bool b)) false x y) kL (cond b Y X) K := by
  cases b
  · exact h1
  · exact h2
/-- A test that is decided. -/
theorem J.bT {x y : Option σ} (h1 : J φ x kL R K) : J φ (bIf (.v (.bool true)) x y) kL R K := h1
theorem J.bF {x y : Option σ} (h1 : J φ y kL R K) : J φ (bIf (.v (.bool false)) x y) kL R K := h1
theorem J.cT {x y : Option σ} {c : Bool} (h : c = true) (h1 : J φ x kL R K) : J φ (cond c x y) kL R K := by rw [h]; exact h1
theorem J.cF {x y : Option σ} {c : Bool} (h : c = false) (h1 : J φ y kL R K) : J φ (cond c x y) kL R K := by rw [h]; exact h1
theorem J.cd {x y : Option σ} {b : Bool} (h1 : J φ x kL X K) (h2 : J φ y kL Y K) : J φ (cond b x y) kL (cond b X Y) K := by
  cases b
  · exact h2
  · exact h1
/-- What is asked for first. -/
theorem J.gd {L : Option σ} {b : Bool} (h : b = true → J φ L kL R K) : J φ L kL (cond b R none) K := by
  cases b
  · intro r hr; cases hr
  · exact h rfl
/-- Either way, the same follows. -/
theorem J.sp {L : Option σ} {b : Bool} (h1 : b = true → J φ L kL X K) (h2 : b = false → J φ L kL Y K) : J φ L kL (cond b X Y) K := by
  cases b
  · exact h2 rfl
  · exact h1 rfl
theorem J.nn {L : Option σ} : J φ L kL none K := fun r hr => by cases hr
theorem J.uc {a : A} {r : List A} {k : A → List A → Option σ} (h : J φ (k a r) kL R K) : J φ (unc (a :: r) k) kL R K := h
theorem J.lf {s : σ} {x : α} {r : ρ} {y : γ} (h1 : kL s = some r) (h2 : K x = some y) (h : φ r y) : J φ (some s) kL (some x) K := fun z hz => by
  rw [Option.bind_some, h2] at hz
  cases hz
  exact ⟨r, h1, h⟩
/-- A leaf of a group. -/
theorem J.lg {ψ : τ → β → Prop} {s : τ} {x : β} (h : ψ s x) : J ψ (some s) some (some x) some := fun r hr => by cases hr; exact ⟨s, rfl, h⟩
/-- A function called in place. -/
theorem J.cl {x : Option τ} {x' : Option τ} {k : τ → Option σ} (h : x = x') (hk : J φ x' (fun r => (k r).bind kL) R K) : J φ (x.bind k) kL R K := by
  intro r hr
  obtain ⟨s, h1, h2⟩ := hk r hr
  exact ⟨s, by rw [Option.bind_assoc, h]; exact h1, h2⟩
/-- What is left of it, at a leaf. -/
theorem J.rt {s : τ} {k : τ → Option ρ} (h : J φ (k s) some R K) : J φ (some s) k R K := by
  intro r hr
  obtain ⟨s', h1, h2⟩ := h r hr
  exact ⟨s', by rw [Option.bind_some]; cases hk : k s <;> simp_all, h2⟩
theorem J.bb {x : Option τ} {k : τ → Option σ} (h : J φ x (fun r => (k r).bind kL) R K) : J φ (x.bind k) kL R K := by
  intro r hr
  obtain ⟨s, h1, h2⟩ := h r hr
  exact ⟨s, by rw [Option.bind_assoc]; exact h1, h2⟩
theorem J.bk {x : Option τ} {k : τ → Option σ} (h : J φ (x.bind k) kL R K) : J φ x (fun r => (k r).bind kL) R K := by
  intro r hr
  obtain ⟨s, h1, h2⟩ := h r hr
  exact ⟨s, by rw [← Option.bind_assoc]; exact h1, h2⟩
/-- A loop, and what follows. -/
theorem J.as {L : Option σ} {X : Option β} {Y : β → Option α} (h : J φ L kL X (fun x => (Y x).bind K)) : J φ L kL (X.bind Y) K := by
  intro r hr
  rw [Option.bind_assoc] at hr
  exact h r hr
theorem J.un {L : Option σ} {K' : γ → Option γ} (hK : K' = some) (h : J φ L kL R K) : J φ L kL (R.bind K) K' := by
  intro r hr
  subst hK
  exact h r (by simpa using hr)
theorem J.ex {L : Option σ} {x : α} (h : J φ L kL (K x) some) : J φ L kL (some x) K := by
  intro r hr
  exact h r (by simpa using hr)
theorem J.lp {L : Option σ} {L' : Option σ} (h : L = L') (hk : J φ L' kL R K) : J φ L kL R K := h ▸ hk
theorem J.gU {x y : Option σ} {w : Bool} (h : J φ y kL R K) : J φ (gIf (.v undef) w x y) kL R K := h
theorem J.ok {a : A} {f g : A → Option Go.Proofs.YtmhnhokhlkppeaaDoor.R} {kL : Go.Proofs.YtmhnhokhlkppeaaDoor.R → Option ρ} (h : J φ (f a) kL R K) : J φ (outK (.ret a) f g) kL R K := h
/-- A call's end: back where it stands. -/
theorem J.cr {s : τ} {k : τ → Option σ} (h : J φ (k s) kL R K) : J φ (some s) (fun r => (k r).bind kL) R K := h
theorem J.bKT {x y : Option σ} {b : Bool} (h : b = true) (h1 : J φ x kL R K) : J φ (bIf (.v (.bool b)) x y) kL R K := by subst h; exact h1
theorem J.bKF {x y : Option σ} {b : Bool} (h : b = false) (h1 : J φ y kL R K) : J φ (bIf (.v (.bool b)) x y) kL R K := by subst h; exact h1
theorem J.gst {x y : Option τ} {k : τ → Option σ} {b : Bool} (h1 : b = true → J φ (x.bind k) kL X K) (h2 : b = false → J φ (y.bind k) kL Y K) : J φ ((gIf (.v (.bool b)) true x y).bind k) kL (cond b X Y) K := by
  cases b
  · exact h2 rfl
  · exact h1 rfl
theorem J.gsf {x y : Option τ} {k : τ → Option σ} {b : Bool} (h1 : b = false → J φ (x.bind k) kL X K) (h2 : b = true → J φ (y.bind k) kL Y K) : J φ ((gIf (.v (.bool b)) false x y).bind k) kL (cond b Y X) K := by
  cases b
  · exact h1 rfl
  · exact h2 rfl
theorem gIf_knownTT {β : Type} {x y : Option β} {b : Bool} (h : b = true) : gIf (.v (.bool b)) true x y = x := by subst h; rfl
theorem gIf_knownTF {β : Type} {x y : Option β} {b : Bool} (h : b = false) : gIf (.v (.bool b)) true x y = y := by subst h; rfl
theorem gIf_knownFT {β : Type} {x y : Option β} {b : Bool} (h : b = true) : gIf (.v (.bool b)) false x y = y := by subst h; rfl
theorem gIf_knownFF {β : Type} {x y : Option β} {b : Bool} (h : b = false) : gIf (.v (.bool b)) false x y = x := by subst h; rfl
def fuel0 : Nat := 4611686018427387904
def cI (k : IntKind) (n : Int) : List A := [.v (.int k n)]
def c8 (c : UInt8) : List A := [.v (.int .u8 (c.toNat : Int))]
def cB (b : Bool) : List A := [.v (.bool b)]
def cS (s : ByteArray) : List A := [.v (.string s)]
def cL {T : Type} (f : T → List A) (l : List T) : List A := [.imm (l.map f) false]
/-- Cells without addresses. -/
def FlatS {T : Type} (f : T → List A) : Prop := ∀ g x, snapWs g (f x) = f x
theorem snapWss_map {T : Type} {f : T → List A} (hf : FlatS f) (g : Nat → Nat → Nat → A) (l : List T) : snapWss g (l.map f) = l.map f := by
  induction l with
  | nil => rfl
  | cons x l ih => rw [List.map_cons, snapWss, hf, ih]
def FlatU {T : Type} (f : T → List A) : Prop := ∀ L x, unders L (f x) = true
theorem underss_map {T : Type} {f : T → List A} (hf : FlatU f) (L : Nat) (l : List T) : underss L (l.map f) = true := by
  induction l with
  | nil => rfl
  | cons x l ih => rw [List.map_cons, underss, hf, ih]; rfl
theorem fu_cI (k : IntKind) : FlatU (cI k) := fun _ _ => rfl
theorem fu_c8 : FlatU c8 := fun _ _ => rfl
theorem fu_cB : FlatU cB := fun _ _ => rfl
theorem fu_cS : FlatU cS := fun _ _ => rfl
theorem fu_cL {T : Type} {f : T → List A} (hf : FlatU f) : FlatU (cL f) := fun L x => by
  show (underss L (x.map f) && true) = true
  rw [underss_map hf]; rfl
theorem fl_cI (k : IntKind) : FlatS (cI k) := fun _ _ => rfl
theorem fl_c8 : FlatS c8 := fun _ _ => rfl
theorem fl_cB : FlatS cB := fun _ _ => rfl
theorem fl_cS : FlatS cS := fun _ _ => rfl
theorem fl_cL {T : Type} {f : T → List A} (hf : FlatS f) : FlatS (cL f) := fun g x => by
  show [snapW g (.imm (x.map f) false)] = _
  simp only [snapW, snapWss_map hf]; rfl
/-! ### What is proved of a function, looked up -/
def Inj {T U : Type} (f : T → U) : Prop := ∀ x y, f x = f y → x = y
theorem map_inj {T : Type} {f : T → List A} (hf : Inj f) : ∀ (l l' : List T), l.map f = l'.map f ↔ l = l'
  | [], [] => by simp
  | [], _ :: _ => by simp
  | _ :: _, [] => by simp
  | x :: l, y :: l' => by
    simp only [List.map_cons, List.cons.injEq, map_inj hf l l']
    exact ⟨fun h => ⟨hf x y h.1, h.2⟩, fun h => ⟨by rw [h.1], h.2⟩⟩
theorem in_cI (k : IntKind) : Inj (cI k) := fun x y h => by simpa [cI] using h
theorem in_c8 : Inj c8 := fun x y h => by
  simp only [c8, List.cons.injEq, A.v.injEq, Value.int.injEq, and_true, true_and] at h
  exact UInt8.toNat_inj.1 (by omega)
theorem in_cB : Inj cB := fun x y h => by simpa [cB] using h
theorem in_cS : Inj cS := fun x y h => by simpa [cS] using h
theorem in_cL {T : Type} {f : T → List A} (hf : Inj f) : Inj (cL f) := fun x y h => by
  simp only [cL, List.cons.injEq, A.imm.injEq, and_true, map_inj hf] at h
  exact h
noncomputable def orcOf {X : Type} (e : X → List A) (G : X → Option A) (args : List A) : Option A := open Classical in if h : ∃ x, e x = args then G h.choose else none
theorem orcOf_eq {X : Type} {e : X → List A} (G : X → Option A) (inj : Inj e) (x : X) : orcOf e G (e x) = G x := by
  unfold orcOf
  have h : ∃ y, e y = e x := ⟨x, rfl⟩
  rw [dif_pos h, inj _ _ h.choose_spec]
theorem orcOf_ok {X : Type} {e : X → List A} {G : X → Option A} {args : List A} {r : A} (h : orcOf e G args = some r) : ∃ x, e x = args ∧ G x = some r := by
  unfold orcOf at h
  split at h
  · rename_i hx; exact ⟨_, hx.choose_spec, h⟩
  · cases h
def upd (C : Nat → List A → Option A) (k : Nat) (c : List A → Option A) : Nat → List A → Option A := fun j args => bif Nat.beq j k then c args else C j args
theorem ok_J {cx : Cx} (horc : OrcOK cx) (hmx : cx.P.follows .mixedOrders = true) {γ : Type} {n k : Nat} {args : List A} {f : γ → A} {F : Option γ} {y : γ}
    (h : J (fun (o : Go.Proofs.YtmhnhokhlkppeaaDoor.R) y => ∃ v, o.1 = .ret v ∧ snap o.2 v = f y) (evCall1 cx (evCall cx (n + 4)) (n + 4) k args [] 0) some F some) (hF : F = some y) : CallOK cx.P cx.glob k args (f y) := by
  obtain ⟨s, h1, v, h2, h3⟩ := h y (by rw [hF]; rfl)
  obtain ⟨o, H⟩ := s
  have h2 : o = .ret v := h2
  subst h2
  rw [show ∀ x : Option Go.Proofs.YtmhnhokhlkppeaaDoor.R, x.bind some = x from fun x => by cases x <;> rfl] at h1
  have h1 : evCall cx (n + 5) k args [] 0 = some (.ret v, H) := h1
  have := callOK_of_ev horc hmx h1
  rwa [show snap H v = f y from h3] at this
/-! ### Numbers -/
abbrev wr (k : IntKind) (n : Int) : Int := k.wrap n
/-- An integer that has to be a byte. -/
def toU8 (n : Int) : Option UInt8 := if 0 ≤ n ∧ n < 256 then some (UInt8.ofNat n.toNat) else none
/-- An element. -/
def getI {T : Type} (l : List T) (i : Int) : Option T := bif decide (0 ≤ i) then l[i.toNat]? else none
/-! ### Lists -/
def imm {T : Type} (f : T → List A) (l : List T) : A := .imm (l.map f) false
theorem idx_imm {P : Program} {t e : TypeId} {es : Nat} {T : Type} (f : T → List A) (l : List T) (c : Bool) (k : IntKind) (i : Int) (H : Heap) (h1 : P.underlying t = some (.slice e)) (h2 : sizeT P e = some es) (h3 : ∀ x, (f x).length = es) :
    aIndexAddr P t (.imm (l.map f) c) (.v (.int k i)) H = (getI l i).map fun x => .ip (f x) := by
  unfold aIndexAddr idx getI
  rw [h1]
  by_cases hi : 0 ≤ i
  · simp only [hi, decide_true, cond_true, Option.bind_some, refOK, h2, List.getElem?_map]
    cases l[i.toNat]? with
    | none => rfl
    | some x => simp [h3]
  · simp only [hi, decide_false, cond_false, Option.bind_none, Option.map_none]
theorem len_imm {P : Program} {t e : TypeId} {T : Type} (f : T → List A) (l : List T) (c : Bool) (H : Heap) (h1 : P.underlying t = some (.slice e)) : aLen P t (.imm (l.map f) c) H = some (.v (.int .i64 l.length)) := by
  unfold aLen
  rw [h1]
  simp [refOK]
end Go.Proofs.YtmhnhokhlkppeaaDoor
