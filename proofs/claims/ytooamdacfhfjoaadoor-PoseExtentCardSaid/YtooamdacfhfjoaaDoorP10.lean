/-
  Layer 26, in plain Lean: the least box.
-/
import Derived.Test.YtooamdacfhfjoaaDoorP8n
namespace Go.Proofs.YtooamdacfhfjoaaDoor
set_option linter.unusedVariables false
set_option linter.unusedSimpArgs false
set_option maxRecDepth 100000
set_option maxHeartbeats 4000000
abbrev Pt := Int × Int
def limbP (s : S_State) (d l r : Int) (ps : List Pt) : List Pt := if l = 0 then ps else ps ++ [(29 * s.X + r * (tipV d s.Face l).1, 29 * s.Y + r * (tipV d s.Face l).2)]
def Hull (ps : List Pt) (B : Bx) : Prop := (∀ p ∈ ps, (B.1 ≤ p.1 ∧ p.1 ≤ B.2.1) ∧ (B.2.2.1 ≤ p.2 ∧ p.2 ≤ B.2.2.2)) ∧ (∃ p ∈ ps, p.1 = B.1) ∧ (∃ p ∈ ps, p.1 = B.2.1) ∧ (∃ p ∈ ps, p.2 = B.2.2.1) ∧ (∃ p ∈ ps, p.2 = B.2.2.2)
theorem hull_upd {ps : List Pt} {B : Bx} {x y : Int} (h : Hull ps B) : Hull (ps ++ [(x, y)]) (updB B x y) := by
  obtain ⟨h0, ⟨p1, m1, e1⟩, ⟨p2, m2, e2⟩, ⟨p3, m3, e3⟩, ⟨p4, m4, e4⟩⟩ := h
  have mm : (x, y) ∈ ps ++ [(x, y)] := List.mem_append_right _ (List.mem_singleton.2 rfl)
  unfold Hull updB
  refine ⟨fun p hp => ?_, ?_, ?_, ?_, ?_⟩
  · rcases List.mem_append.1 hp with hp | hp
    · have := h0 p hp
      simp only []
      refine ⟨⟨?_, ?_⟩, ?_, ?_⟩ <;> split <;> omega
    · rw [List.mem_singleton.1 hp]
      simp only []
      refine ⟨⟨?_, ?_⟩, ?_, ?_⟩ <;> split <;> omega
  · by_cases c : x < B.1
    · exact ⟨(x, y), mm, by simp only []; rw [if_pos c]⟩
    · exact ⟨p1, List.mem_append_left _ m1, by simp only []; rw [if_neg c]; exact e1⟩
  · by_cases c : B.2.1 < x
    · exact ⟨(x, y), mm, by simp only []; rw [if_pos c]⟩
    · exact ⟨p2, List.mem_append_left _ m2, by simp only []; rw [if_neg c]; exact e2⟩
  · by_cases c : y < B.2.2.1
    · exact ⟨(x, y), mm, by simp only []; rw [if_pos c]⟩
    · exact ⟨p3, List.mem_append_left _ m3, by simp only []; rw [if_neg c]; exact e3⟩
  · by_cases c : B.2.2.2 < y
    · exact ⟨(x, y), mm, by simp only []; rw [if_pos c]⟩
    · exact ⟨p4, List.mem_append_left _ m4, by simp only []; rw [if_neg c]; exact e4⟩
theorem hull_limb {s : S_State} {d l r : Int} {ps : List Pt} {B : Bx} (h : Hull ps B) : Hull (limbP s d l r ps) (limbU s d l r B) := by
  unfold limbP limbU
  by_cases h0 : l = 0
  · rw [if_pos h0, if_pos h0]; exact h
  · rw [if_neg h0, if_neg h0]; exact hull_upd h
theorem limbP_len (s : S_State) (d l r : Int) (ps : List Pt) : (limbP s d l r ps).length ≤ ps.length + 1 := by
  unfold limbP
  split
  · omega
  · rw [List.length_append]; simp
def sqP (s : S_State) (b : S_Body) : List Pt := [(29 * s.X - 841 * b.Girth, 29 * s.Y - 841 * b.Girth), (29 * s.X + 841 * b.Girth, 29 * s.Y + 841 * b.Girth)]
theorem hull_sq {s : S_State} {b : S_Body} (hb : body_of b) : Hull (sqP s b) (sqr s b) := by
  have hg := hb.1
  unfold Hull sqP sqr
  refine ⟨fun p hp => ?_, ⟨_, List.mem_cons_self .., rfl⟩, ⟨_, List.mem_cons_of_mem _ (List.mem_cons_self ..), rfl⟩, ⟨_, List.mem_cons_self .., rfl⟩, ⟨_, List.mem_cons_of_mem _ (List.mem_cons_self ..), rfl⟩⟩
  simp only [List.mem_cons, List.not_mem_nil, or_false] at hp
  rcases hp with rfl | rfl <;> (simp only []; refine ⟨⟨?_, ?_⟩, ?_, ?_⟩ <;> omega)
theorem app16 {l : List Pt} {p : Pt} (h : l.length ≤ 100) : appI 16 l [p] = some (l ++ [p]) := by
  unfold appI
  rw [decide_eq_true (show (l.length + [p].length) * 16 ≤ limit by
    have : limit = 9223372036854775807 ∨ 100000 ≤ limit := by right; decide +kernel
    have : 100000 ≤ limit := by decide +kernel
    simp only [List.length_cons, List.length_nil]; omega)]
  rfl
theorem combP {α : Type} {s : S_State} {d l r cx cy : Int} {ps : List Pt} (h : okB s = true) (hl : limbB d l = true) (hr : 1 ≤ r ∧ r ≤ 8) (hp : ps.length ≤ 100) (hcx : cx = 29 * s.X) (hcy : cy = 29 * s.Y) (bad : S_Vec → α) (k : List Pt → Option α) :
    (bif (l == 0) then k ps else Option.bind (G24 d s.Face) fun y47 => Option.bind (G25 y47.1 l) fun y48 => Option.bind (bif (y47.2 != 0) then (some true) else (some (y48.2 != 0))) fun y50 => bif y50 then some (bad y48.1) else Option.bind (appI 16 ps [(wr .i64 (cx + (wr .i64 (r * y48.1.X))), wr .i64 (cy + (wr .i64 (r * y48.1.Y))))]) fun y55 => k y55) = k (limbP s d l r ps) := by
  subst hcx
  subst hcy
  unfold limbP
  rcases limb_cases hl with ⟨_, h0⟩ | hl
  · rw [if_pos h0, show (l == 0) = true by simpa using h0]; rfl
  · obtain ⟨hx, hy, hf⟩ := place_of' h
    obtain ⟨a, u, h1, h2, h3, h4, h5, w1, w2, w3, w4, w5, w6, w7, w8⟩ := tip_bd hx hy hf hl hr
    rw [if_neg (show ¬ l = 0 by omega), h5, show (l == 0) = false by simpa using (show ¬ l = 0 by omega), h1]
    simp only [cond_false, Option.bind_some, h3, w1, w2, w3, w4, w5, w6, bne_self_eq_false]
    rw [app16 hp]
    rfl
theorem s9_0 (n m : Nat) (s : S_State) (b : S_Body) (x : S_Box) (cx cy : Int) (ps : List Pt) : F9_9_0 n false cx cy s.Limbs.1.Dir s.Limbs.1.Level s.Limbs.2.1.Dir s.Limbs.2.1.Level s.Limbs.2.2.1.Dir s.Limbs.2.2.1.Level s.Limbs.2.2.2.1.Dir s.Limbs.2.2.2.1.Level s.Limbs.2.2.2.2.Dir s.Limbs.2.2.2.2.Level s b x (m + 1) 0 ps = (bif (s.Limbs.1.Level == 0) then F9_9_0 n false cx cy s.Limbs.1.Dir s.Limbs.1.Level s.Limbs.2.1.Dir s.Limbs.2.1.Level s.Limbs.2.2.1.Dir s.Limbs.2.2.1.Level s.Limbs.2.2.2.1.Dir s.Limbs.2.2.2.1.Level s.Limbs.2.2.2.2.Dir s.Limbs.2.2.2.2.Level s b x m 1 ps else Option.bind (G24 s.Limbs.1.Dir s.Face) fun y47 => Option.bind (G25 y47.1 s.Limbs.1.Level) fun y48 => Option.bind (bif (y47.2 != 0) then (some true) else (some (y48.2 != 0))) fun y50 => bif y50 then some (Sum.inl (false, ps, s.Limbs.1.Dir, s.Limbs.1.Level, y48.1.X, y48.1.Y, y48.1.Z)) else Option.bind (appI 16 ps [(wr .i64 (cx + (wr .i64 (b.Reach.1 * y48.1.X))), wr .i64 (cy + (wr .i64 (b.Reach.1 * y48.1.Y))))]) fun y55 => F9_9_0 n false cx cy s.Limbs.1.Dir s.Limbs.1.Level s.Limbs.2.1.Dir s.Limbs.2.1.Level s.Limbs.2.2.1.Dir s.Limbs.2.2.1.Level s.Limbs.2.2.2.1.Dir s.Limbs.2.2.2.1.Level s.Limbs.2.2.2.2.Dir s.Limbs.2.2.2.2.Level s b x m 1 y55) := by kernel_rfl
theorem t9_0 {s : S_State} {b : S_Body} {x : S_Box} {cx cy : Int} {ps : List Pt} (n m : Nat) (h : okB s = true) (hb : body_of b) (hp : ps.length ≤ 100) (hcx : cx = 29 * s.X) (hcy : cy = 29 * s.Y) : F9_9_0 n false cx cy s.Limbs.1.Dir s.Limbs.1.Level s.Limbs.2.1.Dir s.Limbs.2.1.Level s.Limbs.2.2.1.Dir s.Limbs.2.2.1.Level s.Limbs.2.2.2.1.Dir s.Limbs.2.2.2.1.Level s.Limbs.2.2.2.2.Dir s.Limbs.2.2.2.2.Level s b x (m + 1) 0 ps = F9_9_0 n false cx cy s.Limbs.1.Dir s.Limbs.1.Level s.Limbs.2.1.Dir s.Limbs.2.1.Level s.Limbs.2.2.1.Dir s.Limbs.2.2.1.Level s.Limbs.2.2.2.1.Dir s.Limbs.2.2.2.1.Level s.Limbs.2.2.2.2.Dir s.Limbs.2.2.2.2.Level s b x m 1 (limbP s s.Limbs.1.Dir s.Limbs.1.Level b.Reach.1 ps) := by
  rw [s9_0]
  exact combP (r := b.Reach.1) h (limbs_of' h).1 hb.2.1 hp hcx hcy (fun v => Sum.inl (false, ps, s.Limbs.1.Dir, s.Limbs.1.Level, v.X, v.Y, v.Z)) (fun a => F9_9_0 n false cx cy s.Limbs.1.Dir s.Limbs.1.Level s.Limbs.2.1.Dir s.Limbs.2.1.Level s.Limbs.2.2.1.Dir s.Limbs.2.2.1.Level s.Limbs.2.2.2.1.Dir s.Limbs.2.2.2.1.Level s.Limbs.2.2.2.2.Dir s.Limbs.2.2.2.2.Level s b x m 1 a)
theorem s9_1 (n m : Nat) (s : S_State) (b : S_Body) (x : S_Box) (cx cy : Int) (ps : List Pt) : F9_9_0 n false cx cy s.Limbs.1.Dir s.Limbs.1.Level s.Limbs.2.1.Dir s.Limbs.2.1.Level s.Limbs.2.2.1.Dir s.Limbs.2.2.1.Level s.Limbs.2.2.2.1.Dir s.Limbs.2.2.2.1.Level s.Limbs.2.2.2.2.Dir s.Limbs.2.2.2.2.Level s b x (m + 1) 1 ps = (bif (s.Limbs.2.1.Level == 0) then F9_9_0 n false cx cy s.Limbs.1.Dir s.Limbs.1.Level s.Limbs.2.1.Dir s.Limbs.2.1.Level s.Limbs.2.2.1.Dir s.Limbs.2.2.1.Level s.Limbs.2.2.2.1.Dir s.Limbs.2.2.2.1.Level s.Limbs.2.2.2.2.Dir s.Limbs.2.2.2.2.Level s b x m 2 ps else Option.bind (G24 s.Limbs.2.1.Dir s.Face) fun y47 => Option.bind (G25 y47.1 s.Limbs.2.1.Level) fun y48 => Option.bind (bif (y47.2 != 0) then (some true) else (some (y48.2 != 0))) fun y50 => bif y50 then some (Sum.inl (false, ps, s.Limbs.2.1.Dir, s.Limbs.2.1.Level, y48.1.X, y48.1.Y, y48.1.Z)) else Option.bind (appI 16 ps [(wr .i64 (cx + (wr .i64 (b.Reach.1 * y48.1.X))), wr .i64 (cy + (wr .i64 (b.Reach.1 * y48.1.Y))))]) fun y55 => F9_9_0 n false cx cy s.Limbs.1.Dir s.Limbs.1.Level s.Limbs.2.1.Dir s.Limbs.2.1.Level s.Limbs.2.2.1.Dir s.Limbs.2.2.1.Level s.Limbs.2.2.2.1.Dir s.Limbs.2.2.2.1.Level s.Limbs.2.2.2.2.Dir s.Limbs.2.2.2.2.Level s b x m 2 y55) := by kernel_rfl
theorem t9_1 {s : S_State} {b : S_Body} {x : S_Box} {cx cy : Int} {ps : List Pt} (n m : Nat) (h : okB s = true) (hb : body_of b) (hp : ps.length ≤ 100) (hcx : cx = 29 * s.X) (hcy : cy = 29 * s.Y) : F9_9_0 n false cx cy s.Limbs.1.Dir s.Limbs.1.Level s.Limbs.2.1.Dir s.Limbs.2.1.Level s.Limbs.2.2.1.Dir s.Limbs.2.2.1.Level s.Limbs.2.2.2.1.Dir s.Limbs.2.2.2.1.Level s.Limbs.2.2.2.2.Dir s.Limbs.2.2.2.2.Level s b x (m + 1) 1 ps = F9_9_0 n false cx cy s.Limbs.1.Dir s.Limbs.1.Level s.Limbs.2.1.Dir s.Limbs.2.1.Level s.Limbs.2.2.1.Dir s.Limbs.2.2.1.Level s.Limbs.2.2.2.1.Dir s.Limbs.2.2.2.1.Level s.Limbs.2.2.2.2.Dir s.Limbs.2.2.2.2.Level s b x m 2 (limbP s s.Limbs.2.1.Dir s.Limbs.2.1.Level b.Reach.1 ps) := by
  rw [s9_1]
  exact combP (r := b.Reach.1) h (limbs_of' h).2.1 hb.2.1 hp hcx hcy (fun v => Sum.inl (false, ps, s.Limbs.2.1.Dir, s.Limbs.2.1.Level, v.X, v.Y, v.Z)) (fun a => F9_9_0 n false cx cy s.Limbs.1.Dir s.Limbs.1.Level s.Limbs.2.1.Dir s.Limbs.2.1.Level s.Limbs.2.2.1.Dir s.Limbs.2.2.1.Level s.Limbs.2.2.2.1.Dir s.Limbs.2.2.2.1.Level s.Limbs.2.2.2.2.Dir s.Limbs.2.2.2.2.Level s b x m 2 a)
theorem s9_2 (n m : Nat) (s : S_State) (b : S_Body) (x : S_Box) (cx cy : Int) (ps : List Pt) : F9_9_0 n false cx cy s.Limbs.1.Dir s.Limbs.1.Level s.Limbs.2.1.Dir s.Limbs.2.1.Level s.Limbs.2.2.1.Dir s.Limbs.2.2.1.Level s.Limbs.2.2.2.1.Dir s.Limbs.2.2.2.1.Level s.Limbs.2.2.2.2.Dir s.Limbs.2.2.2.2.Level s b x (m + 1) 2 ps = (bif (s.Limbs.2.2.1.Level == 0) then F9_9_0 n false cx cy s.Limbs.1.Dir s.Limbs.1.Level s.Limbs.2.1.Dir s.Limbs.2.1.Level s.Limbs.2.2.1.Dir s.Limbs.2.2.1.Level s.Limbs.2.2.2.1.Dir s.Limbs.2.2.2.1.Level s.Limbs.2.2.2.2.Dir s.Limbs.2.2.2.2.Level s b x m 3 ps else Option.bind (G24 s.Limbs.2.2.1.Dir s.Face) fun y47 => Option.bind (G25 y47.1 s.Limbs.2.2.1.Level) fun y48 => Option.bind (bif (y47.2 != 0) then (some true) else (some (y48.2 != 0))) fun y50 => bif y50 then some (Sum.inl (false, ps, s.Limbs.2.2.1.Dir, s.Limbs.2.2.1.Level, y48.1.X, y48.1.Y, y48.1.Z)) else Option.bind (appI 16 ps [(wr .i64 (cx + (wr .i64 (b.Reach.2.1 * y48.1.X))), wr .i64 (cy + (wr .i64 (b.Reach.2.1 * y48.1.Y))))]) fun y55 => F9_9_0 n false cx cy s.Limbs.1.Dir s.Limbs.1.Level s.Limbs.2.1.Dir s.Limbs.2.1.Level s.Limbs.2.2.1.Dir s.Limbs.2.2.1.Level s.Limbs.2.2.2.1.Dir s.Limbs.2.2.2.1.Level s.Limbs.2.2.2.2.Dir s.Limbs.2.2.2.2.Level s b x m 3 y55) := by kernel_rfl
theorem t9_2 {s : S_State} {b : S_Body} {x : S_Box} {cx cy : Int} {ps : List Pt} (n m : Nat) (h : okB s = true) (hb : body_of b) (hp : ps.length ≤ 100) (hcx : cx = 29 * s.X) (hcy : cy = 29 * s.Y) : F9_9_0 n false cx cy s.Limbs.1.Dir s.Limbs.1.Level s.Limbs.2.1.Dir s.Limbs.2.1.Level s.Limbs.2.2.1.Dir s.Limbs.2.2.1.Level s.Limbs.2.2.2.1.Dir s.Limbs.2.2.2.1.Level s.Limbs.2.2.2.2.Dir s.Limbs.2.2.2.2.Level s b x (m + 1) 2 ps = F9_9_0 n false cx cy s.Limbs.1.Dir s.Limbs.1.Level s.Limbs.2.1.Dir s.Limbs.2.1.Level s.Limbs.2.2.1.Dir s.Limbs.2.2.1.Level s.Limbs.2.2.2.1.Dir s.Limbs.2.2.2.1.Level s.Limbs.2.2.2.2.Dir s.Limbs.2.2.2.2.Level s b x m 3 (limbP s s.Limbs.2.2.1.Dir s.Limbs.2.2.1.Level b.Reach.2.1 ps) := by
  rw [s9_2]
  exact combP (r := b.Reach.2.1) h (limbs_of' h).2.2.1 hb.2.2.1 hp hcx hcy (fun v => Sum.inl (false, ps, s.Limbs.2.2.1.Dir, s.Limbs.2.2.1.Level, v.X, v.Y, v.Z)) (fun a => F9_9_0 n false cx cy s.Limbs.1.Dir s.Limbs.1.Level s.Limbs.2.1.Dir s.Limbs.2.1.Level s.Limbs.2.2.1.Dir s.Limbs.2.2.1.Level s.Limbs.2.2.2.1.Dir s.Limbs.2.2.2.1.Level s.Limbs.2.2.2.2.Dir s.Limbs.2.2.2.2.Level s b x m 3 a)
theorem s9_3 (n m : Nat) (s : S_State) (b : S_Body) (x : S_Box) (cx cy : Int) (ps : List Pt) : F9_9_0 n false cx cy s.Limbs.1.Dir s.Limbs.1.Level s.Limbs.2.1.Dir s.Limbs.2.1.Level s.Limbs.2.2.1.Dir s.Limbs.2.2.1.Level s.Limbs.2.2.2.1.Dir s.Limbs.2.2.2.1.Level s.Limbs.2.2.2.2.Dir s.Limbs.2.2.2.2.Level s b x (m + 1) 3 ps = (bif (s.Limbs.2.2.2.1.Level == 0) then F9_9_0 n false cx cy s.Limbs.1.Dir s.Limbs.1.Level s.Limbs.2.1.Dir s.Limbs.2.1.Level s.Limbs.2.2.1.Dir s.Limbs.2.2.1.Level s.Limbs.2.2.2.1.Dir s.Limbs.2.2.2.1.Level s.Limbs.2.2.2.2.Dir s.Limbs.2.2.2.2.Level s b x m 4 ps else Option.bind (G24 s.Limbs.2.2.2.1.Dir s.Face) fun y47 => Option.bind (G25 y47.1 s.Limbs.2.2.2.1.Level) fun y48 => Option.bind (bif (y47.2 != 0) then (some true) else (some (y48.2 != 0))) fun y50 => bif y50 then some (Sum.inl (false, ps, s.Limbs.2.2.2.1.Dir, s.Limbs.2.2.2.1.Level, y48.1.X, y48.1.Y, y48.1.Z)) else Option.bind (appI 16 ps [(wr .i64 (cx + (wr .i64 (b.Reach.2.1 * y48.1.X))), wr .i64 (cy + (wr .i64 (b.Reach.2.1 * y48.1.Y))))]) fun y55 => F9_9_0 n false cx cy s.Limbs.1.Dir s.Limbs.1.Level s.Limbs.2.1.Dir s.Limbs.2.1.Level s.Limbs.2.2.1.Dir s.Limbs.2.2.1.Level s.Limbs.2.2.2.1.Dir s.Limbs.2.2.2.1.Level s.Limbs.2.2.2.2.Dir s.Limbs.2.2.2.2.Level s b x m 4 y55) := by kernel_rfl
theorem t9_3 {s : S_State} {b : S_Body} {x : S_Box} {cx cy : Int} {ps : List Pt} (n m : Nat) (h : okB s = true) (hb : body_of b) (hp : ps.length ≤ 100) (hcx : cx = 29 * s.X) (hcy : cy = 29 * s.Y) : F9_9_0 n false cx cy s.Limbs.1.Dir s.Limbs.1.Level s.Limbs.2.1.Dir s.Limbs.2.1.Level s.Limbs.2.2.1.Dir s.Limbs.2.2.1.Level s.Limbs.2.2.2.1.Dir s.Limbs.2.2.2.1.Level s.Limbs.2.2.2.2.Dir s.Limbs.2.2.2.2.Level s b x (m + 1) 3 ps = F9_9_0 n false cx cy s.Limbs.1.Dir s.Limbs.1.Level s.Limbs.2.1.Dir s.Limbs.2.1.Level s.Limbs.2.2.1.Dir s.Limbs.2.2.1.Level s.Limbs.2.2.2.1.Dir s.Limbs.2.2.2.1.Level s.Limbs.2.2.2.2.Dir s.Limbs.2.2.2.2.Level s b x m 4 (limbP s s.Limbs.2.2.2.1.Dir s.Limbs.2.2.2.1.Level b.Reach.2.1 ps) := by
  rw [s9_3]
  exact combP (r := b.Reach.2.1) h (limbs_of' h).2.2.2.1 hb.2.2.1 hp hcx hcy (fun v => Sum.inl (false, ps, s.Limbs.2.2.2.1.Dir, s.Limbs.2.2.2.1.Level, v.X, v.Y, v.Z)) (fun a => F9_9_0 n false cx cy s.Limbs.1.Dir s.Limbs.1.Level s.Limbs.2.1.Dir s.Limbs.2.1.Level s.Limbs.2.2.1.Dir s.Limbs.2.2.1.Level s.Limbs.2.2.2.1.Dir s.Limbs.2.2.2.1.Level s.Limbs.2.2.2.2.Dir s.Limbs.2.2.2.2.Level s b x m 4 a)
theorem s9_4 (n m : Nat) (s : S_State) (b : S_Body) (x : S_Box) (cx cy : Int) (ps : List Pt) : F9_9_0 n false cx cy s.Limbs.1.Dir s.Limbs.1.Level s.Limbs.2.1.Dir s.Limbs.2.1.Level s.Limbs.2.2.1.Dir s.Limbs.2.2.1.Level s.Limbs.2.2.2.1.Dir s.Limbs.2.2.2.1.Level s.Limbs.2.2.2.2.Dir s.Limbs.2.2.2.2.Level s b x (m + 1) 4 ps = (bif (s.Limbs.2.2.2.2.Level == 0) then F9_9_0 n false cx cy s.Limbs.1.Dir s.Limbs.1.Level s.Limbs.2.1.Dir s.Limbs.2.1.Level s.Limbs.2.2.1.Dir s.Limbs.2.2.1.Level s.Limbs.2.2.2.1.Dir s.Limbs.2.2.2.1.Level s.Limbs.2.2.2.2.Dir s.Limbs.2.2.2.2.Level s b x m 5 ps else Option.bind (G24 s.Limbs.2.2.2.2.Dir s.Face) fun y47 => Option.bind (G25 y47.1 s.Limbs.2.2.2.2.Level) fun y48 => Option.bind (bif (y47.2 != 0) then (some true) else (some (y48.2 != 0))) fun y50 => bif y50 then some (Sum.inl (false, ps, s.Limbs.2.2.2.2.Dir, s.Limbs.2.2.2.2.Level, y48.1.X, y48.1.Y, y48.1.Z)) else Option.bind (appI 16 ps [(wr .i64 (cx + (wr .i64 (b.Reach.2.2 * y48.1.X))), wr .i64 (cy + (wr .i64 (b.Reach.2.2 * y48.1.Y))))]) fun y55 => F9_9_0 n false cx cy s.Limbs.1.Dir s.Limbs.1.Level s.Limbs.2.1.Dir s.Limbs.2.1.Level s.Limbs.2.2.1.Dir s.Limbs.2.2.1.Level s.Limbs.2.2.2.1.Dir s.Limbs.2.2.2.1.Level s.Limbs.2.2.2.2.Dir s.Limbs.2.2.2.2.Level s b x m 5 y55) := by kernel_rfl
theorem t9_4 {s : S_State} {b : S_Body} {x : S_Box} {cx cy : Int} {ps : List Pt} (n m : Nat) (h : okB s = true) (hb : body_of b) (hp : ps.length ≤ 100) (hcx : cx = 29 * s.X) (hcy : cy = 29 * s.Y) : F9_9_0 n false cx cy s.Limbs.1.Dir s.Limbs.1.Level s.Limbs.2.1.Dir s.Limbs.2.1.Level s.Limbs.2.2.1.Dir s.Limbs.2.2.1.Level s.Limbs.2.2.2.1.Dir s.Limbs.2.2.2.1.Level s.Limbs.2.2.2.2.Dir s.Limbs.2.2.2.2.Level s b x (m + 1) 4 ps = F9_9_0 n false cx cy s.Limbs.1.Dir s.Limbs.1.Level s.Limbs.2.1.Dir s.Limbs.2.1.Level s.Limbs.2.2.1.Dir s.Limbs.2.2.1.Level s.Limbs.2.2.2.1.Dir s.Limbs.2.2.2.1.Level s.Limbs.2.2.2.2.Dir s.Limbs.2.2.2.2.Level s b x m 5 (limbP s s.Limbs.2.2.2.2.Dir s.Limbs.2.2.2.2.Level b.Reach.2.2 ps) := by
  rw [s9_4]
  exact combP (r := b.Reach.2.2) h (limbs_of' h).2.2.2.2 hb.2.2.2 hp hcx hcy (fun v => Sum.inl (false, ps, s.Limbs.2.2.2.2.Dir, s.Limbs.2.2.2.2.Level, v.X, v.Y, v.Z)) (fun a => F9_9_0 n false cx cy s.Limbs.1.Dir s.Limbs.1.Level s.Limbs.2.1.Dir s.Limbs.2.1.Level s.Limbs.2.2.1.Dir s.Limbs.2.2.1.Level s.Limbs.2.2.2.1.Dir s.Limbs.2.2.2.1.Level s.Limbs.2.2.2.2.Dir s.Limbs.2.2.2.2.Level s b x m 5 a)
theorem s9_5 (n m : Nat) (s : S_State) (b : S_Body) (x : S_Box) (cx cy : Int) (ps : List Pt) : F9_9_0 n false cx cy s.Limbs.1.Dir s.Limbs.1.Level s.Limbs.2.1.Dir s.Limbs.2.1.Level s.Limbs.2.2.1.Dir s.Limbs.2.2.1.Level s.Limbs.2.2.2.1.Dir s.Limbs.2.2.2.1.Level s.Limbs.2.2.2.2.Dir s.Limbs.2.2.2.2.Level s b x (m + 1) 5 ps = some (Sum.inr ps) := by kernel_rfl
def pts (s : S_State) (b : S_Body) : List Pt := limbP s s.Limbs.2.2.2.2.Dir s.Limbs.2.2.2.2.Level b.Reach.2.2 (limbP s s.Limbs.2.2.2.1.Dir s.Limbs.2.2.2.1.Level b.Reach.2.1 (limbP s s.Limbs.2.2.1.Dir s.Limbs.2.2.1.Level b.Reach.2.1 (limbP s s.Limbs.2.1.Dir s.Limbs.2.1.Level b.Reach.1 (limbP s s.Limbs.1.Dir s.Limbs.1.Level b.Reach.1 (sqP s b)))))
theorem hull_pts {s : S_State} {b : S_Body} (hb : body_of b) : Hull (pts s b) (ext s b) := hull_limb (hull_limb (hull_limb (hull_limb (hull_limb (hull_sq hb)))))
theorem lp0 {s : S_State} {b : S_Body} {x : S_Box} {cx cy : Int} (n m : Nat) (h : okB s = true) (hb : body_of b) (hcx : cx = 29 * s.X) (hcy : cy = 29 * s.Y) : F9_9_0 n false cx cy s.Limbs.1.Dir s.Limbs.1.Level s.Limbs.2.1.Dir s.Limbs.2.1.Level s.Limbs.2.2.1.Dir s.Limbs.2.2.1.Level s.Limbs.2.2.2.1.Dir s.Limbs.2.2.2.1.Level s.Limbs.2.2.2.2.Dir s.Limbs.2.2.2.2.Level s b x (m + 6) 0 (sqP s b) = some (Sum.inr (pts s b)) ∧ (pts s b).length ≤ 7 := by
  have l0 : (sqP s b).length ≤ 2 := Nat.le_refl _
  have l1 := limbP_len s s.Limbs.1.Dir s.Limbs.1.Level b.Reach.1 (sqP s b)
  have l2 := limbP_len s s.Limbs.2.1.Dir s.Limbs.2.1.Level b.Reach.1 (limbP s s.Limbs.1.Dir s.Limbs.1.Level b.Reach.1 (sqP s b))
  have l3 := limbP_len s s.Limbs.2.2.1.Dir s.Limbs.2.2.1.Level b.Reach.2.1 (limbP s s.Limbs.2.1.Dir s.Limbs.2.1.Level b.Reach.1 (limbP s s.Limbs.1.Dir s.Limbs.1.Level b.Reach.1 (sqP s b)))
  have l4 := limbP_len s s.Limbs.2.2.2.1.Dir s.Limbs.2.2.2.1.Level b.Reach.2.1 (limbP s s.Limbs.2.2.1.Dir s.Limbs.2.2.1.Level b.Reach.2.1 (limbP s s.Limbs.2.1.Dir s.Limbs.2.1.Level b.Reach.1 (limbP s s.Limbs.1.Dir s.Limbs.1.Level b.Reach.1 (sqP s b))))
  have l5 := limbP_len s s.Limbs.2.2.2.2.Dir s.Limbs.2.2.2.2.Level b.Reach.2.2 (limbP s s.Limbs.2.2.2.1.Dir s.Limbs.2.2.2.1.Level b.Reach.2.1 (limbP s s.Limbs.2.2.1.Dir s.Limbs.2.2.1.Level b.Reach.2.1 (limbP s s.Limbs.2.1.Dir s.Limbs.2.1.Level b.Reach.1 (limbP s s.Limbs.1.Dir s.Limbs.1.Level b.Reach.1 (sqP s b)))))
  constructor
  · rw [show m + 6 = m + 1 + 1 + 1 + 1 + 1 + 1 from rfl, t9_0 n _ h hb (by omega) hcx hcy, t9_1 n _ h hb (by omega) hcx hcy, t9_2 n _ h hb (by omega) hcx hcy, t9_3 n _ h hb (by omega) hcx hcy, t9_4 n _ h hb (by omega) hcx hcy, s9_5]
    rfl
  · unfold pts; omega
theorem lp2 (n m : Nat) (a0 : Bool) (a1 : List Pt) (a2 a3 : Int) (q1 q2 q3 q4 : Bool) (s : S_State) (b : S_Body) (x : S_Box) (ps : List Pt) (p1 p2 : Int) (r1 r2 r3 r4 : Bool) : F9_9_2 n a0 a1 a2 a3 [q1, q2, q3, q4] 4 s b x ps p1 p2 (m + 5) 0 r1 r2 r3 r4 = some (r1 || q1, r2 || q2, r3 || q3, r4 || q4) := by
  cases r1 <;> cases r2 <;> cases r3 <;> cases r4 <;> (show _ = _; kernel_rfl)
def anyE (f : Pt → Int) (v : Int) (ps : List Pt) : Bool := ps.any fun p => f p == v
theorem lp1 (s : S_State) (b : S_Body) (B : Bx) (ps : List Pt) (h : ∀ p ∈ ps, (B.1 ≤ p.1 ∧ p.1 ≤ B.2.1) ∧ (B.2.2.1 ≤ p.2 ∧ p.2 ≤ B.2.2.2)) (hp : ps.length ≤ 7) : ∀ (k i m : Nat) (r1 r2 r3 r4 : Bool), k + i = ps.length → k + 1 ≤ m →
    F9_9_1 fuel0 false ps (ps.length : Int) s b (boxB B) ps m (i : Int) r1 r2 r3 r4 = some (Sum.inr (r1 || anyE (·.1) B.1 (ps.drop i), r2 || anyE (·.1) B.2.1 (ps.drop i), r3 || anyE (·.2) B.2.2.1 (ps.drop i), r4 || anyE (·.2) B.2.2.2 (ps.drop i)))
  | _, i, 0, _, _, _, _, _, hm => by omega
  | 0, i, m + 1, r1, r2, r3, r4, hk, hm => by
    unfold F9_9_1
    rw [decide_eq_false (show ¬ (i : Int) < (ps.length : Int) by omega), List.drop_eq_nil_of_le (by omega)]
    simp only [cond_false, anyE, List.any_nil, Bool.or_false]
  | k + 1, i, m + 1, r1, r2, r3, r4, hk, hm => by
    have hi : i < ps.length := by omega
    have hx := h ps[i] (List.getElem_mem hi)
    have ih := lp1 s b B ps h hp k (i + 1) m
    unfold F9_9_1
    rw [decide_eq_true (show (i : Int) < (ps.length : Int) by omega), getI_nat, List.getElem?_eq_getElem hi]
    simp only [cond_true, Option.bind_some]
    rw [decide_eq_false (show ¬ ps[i].1 < (boxB B).X.Lo by show ¬ ps[i].1 < B.1; omega), decide_eq_false (show ¬ (boxB B).X.Hi < ps[i].1 by show ¬ B.2.1 < ps[i].1; omega), decide_eq_false (show ¬ ps[i].2 < (boxB B).Y.Lo by show ¬ ps[i].2 < B.2.2.1; omega), decide_eq_false (show ¬ (boxB B).Y.Hi < ps[i].2 by show ¬ B.2.2.2 < ps[i].2; omega)]
    simp only [cond_false, Option.bind_some]
    rw [show fuel0 + 8 = fuel0 + 3 + 5 from rfl, lp2, Option.bind_some, wr64 (by omega) (by omega), show ((i : Int) + 1) = ((i + 1 : Nat) : Int) by omega]
    show F9_9_1 fuel0 false ps (ps.length : Int) s b (boxB B) ps m ((i + 1 : Nat) : Int) _ _ _ _ = _
    rw [ih _ _ _ _ (by omega) (by omega), List.drop_eq_getElem_cons hi]
    simp only [anyE, List.any_cons, Bool.or_assoc]
    rfl
theorem any_hit {f : Pt → Int} {v : Int} {ps : List Pt} (h : ∃ p ∈ ps, f p = v) : anyE f v ps = true := by
  obtain ⟨p, hp, e⟩ := h
  unfold anyE
  exact List.any_eq_true.2 ⟨p, hp, by simpa using e⟩
theorem pure9 : Pure9 := by
  intro s b _ _
  unfold G9 F9
  rw [sane11, g20]
  simp only [Option.bind_some, Bool.not_true, cond_false]
  unfold extR
  cases h : okB s with
  | false =>
    simp only [Bool.false_eq_true, if_false]
    rw [g16, h]
    rfl
  | true =>
    rw [if_pos rfl, g16, h, if_pos rfl]
    by_cases h0 : chk b = 0
    · have hb := rest_body ((g39c b).2.1 h0)
      obtain ⟨px, py, pf⟩ := place_of' h
      rw [if_pos h0, g23c, h0]
      simp only [bne_self_eq_false, cond_false, Option.bind_some]
      obtain ⟨w1, w2, w3, w4, w5, w6, w7⟩ := wsqr h hb
      rw [w1, w2, w3, w4, w5, w6, w7]
      obtain ⟨e1, e2⟩ := lp0 (x := boxB (ext s b)) fuel0 (fuel0 + 2) h hb rfl rfl
      have hh := hull_pts (s := s) hb
      have e3 := lp1 s b (ext s b) (pts s b) hh.1 e2 (pts s b).length 0 (fuel0 + 8) false false false false (by omega) (by have := fu; omega)
      rw [List.drop_zero, any_hit hh.2.1, any_hit hh.2.2.1, any_hit hh.2.2.2.1, any_hit hh.2.2.2.2] at e3
      refine Eq.trans (congrArg (fun z => Option.bind z _) e1) ?_
      show Option.bind (F9_9_1 fuel0 false (pts s b) ((pts s b).length : Int) s b (boxB (ext s b)) (pts s b) (fuel0 + 8) 0 false false false false) _ = _
      refine Eq.trans (congrArg (fun z => Option.bind z _) e3) ?_
      rfl
    · rw [if_neg h0, show (((zBox, chk b) : S_Box × Int).2 != 0) = true by simpa using h0]
      simp only [cond_true, Option.bind_some]
      rw [show (chk b == 0) = false by simpa using h0, g23c]
      simp only [cond_false, Option.bind_some, beq_self_eq_true]
end Go.Proofs.YtooamdacfhfjoaaDoor
