/-
  The program's functions as plain functions: by a tool; each follows the interpreter.
-/
import Derived.Test.YtgcobbhbfkjkeaaT1
import Derived.KernelRfl
namespace Go.Proofs.Ytgcobbhbfkjkeaa
set_option linter.unusedVariables false
set_option linter.unusedSimpArgs false
set_option maxHeartbeats 4000000
set_option maxRecDepth 100000
def F12 (n : Nat) (a0 : S_Net) (a1 : S_Packet) : Option (S_Net × Int) :=
  Option.bind (G14 a0) fun y1 => Option.bind (bif (y1 != 0) then (some true) else (Option.bind (G29 a1) fun y3 => some (!y3))) fun y4 => bif y4 then (some (((S_Net.mk ([]) ([])), 60))) else (bif (((a0.Queue.length : Int)) == 4096) then (some (((S_Net.mk ([]) ([])), 2))) else (Option.bind (appI 40 ([]) a0.Queue) fun y10 => Option.bind (appI 40 y10 ([a1])) fun y11 => some (((S_Net.mk y11 a0.Apart), 0))))

theorem T12 (C : Nat → List A → Option A) (n : Nat) (h14 : Orc14 C) (h29 : Orc29 C) (a0 : S_Net) (a1 : S_Packet) : J (fun (o : R) y => ∃ v, o.1 = .ret v ∧ snap o.2 v = (A.tup [(A.agg [(A.imm (List.map c_S_Packet y.1.Queue) false), (A.imm (List.map c_A2_int_i64 y.1.Apart) false)]), (A.v (Value.int .i64 y.2))])) (evCall1 (cx C) (evCall (cx C) (n+8)) (evCallY (cx C) (n+8)) (n+8) 12 [(A.agg [(A.imm (List.map c_S_Packet a0.Queue) false), (A.imm (List.map c_A2_int_i64 a0.Apart) false)]), (A.agg [(A.v (Value.int .i64 a1.From)), (A.v (Value.int .i64 a1.To)), (A.imm (List.map c8 a1.Data) false)])] [] 0) some (F12 n a0 a1) some := by
  refine .lp (e12 ..) ?_
  unfold F12
  refine .st (v := ((A.ptr 0 0), [Blk.box [(A.imm (List.map c_S_Packet a0.Queue) false), (A.imm (List.map c_A2_int_i64 a0.Apart) false)]])) (by kernel_rfl) ?_
  refine .st (v := ((A.ptr 1 0), [Blk.box [(A.imm (List.map c_S_Packet a0.Queue) false), (A.imm (List.map c_A2_int_i64 a0.Apart) false)], Blk.box [(A.v (Value.int .i64 a1.From)), (A.v (Value.int .i64 a1.To)), (A.imm (List.map c8 a1.Data) false)]])) (by kernel_rfl) ?_
  refine .st (v := ((A.ptr 2 0), [Blk.box [(A.imm (List.map c_S_Packet a0.Queue) false), (A.imm (List.map c_A2_int_i64 a0.Apart) false)], Blk.box [(A.v (Value.int .i64 a1.From)), (A.v (Value.int .i64 a1.To)), (A.imm (List.map c8 a1.Data) false)], Blk.box [(A.imm [] true), (A.imm [] true)]])) (by kernel_rfl) ?_
  refine .st (v := (A.agg [(A.imm (List.map c_S_Packet a0.Queue) false), (A.imm (List.map c_A2_int_i64 a0.Apart) false)])) (by kernel_rfl) ?_
  refine .bd (g := fun (y : Int) => (A.v (Value.int .i64 y))) (by simp only [snap, snapW, snapWs, snapWss, snapWss_map, trim, List.map_cons, List.map_nil, fl_cI, fl_c8, fl_cB, fl_cS, fl_cL, fl_S_Packet, fl_A2_int_i64, fl_S_Net, fl_S_kinespherelaw06_Move]; exact h14 a0) fun y1 => ?_
  refine .st (v := (A.v (Value.bool (y1 != 0)))) (aBin_neq ..) ?_
  refine .bg (fun t (y : Bool) => ∃ j5 j6 j7 : A, t = [(A.v (Value.bool y)), j5, j6, j7]) ?_ ?_
  · refine .biH (fun hk2 => ?_) (fun hk2 => ?_)
    · exact .lg ⟨_, _, _, rfl⟩
    · refine .st (v := (A.agg [(A.v (Value.int .i64 a1.From)), (A.v (Value.int .i64 a1.To)), (A.imm (List.map c8 a1.Data) false)])) (by kernel_rfl) ?_
      refine .bd (g := fun (y : Bool) => (A.v (Value.bool y))) (by simp only [snap, snapW, snapWs, snapWss, snapWss_map, trim, List.map_cons, List.map_nil, fl_cI, fl_c8, fl_cB, fl_cS, fl_cL, fl_S_Packet, fl_A2_int_i64, fl_S_Net, fl_S_kinespherelaw06_Move]; exact h29 a1) fun y3 => ?_
      refine .st (v := (A.v (Value.bool (!y3)))) (by kernel_rfl) ?_
      exact .lg ⟨_, _, _, rfl⟩
  rintro _ y4 ⟨j5, j6, j7, rfl⟩
  iterate 4 refine .uc ?_
  refine .biH (fun hk8 => ?_) (fun hk8 => ?_)
  · refine .st (v := (A.agg [(A.imm [] true), (A.imm [] true)])) (by kernel_rfl) ?_
    refine .st (v := [Blk.box [(A.imm (List.map c_S_Packet a0.Queue) false), (A.imm (List.map c_A2_int_i64 a0.Apart) false)], Blk.box [(A.v (Value.int .i64 a1.From)), (A.v (Value.int .i64 a1.To)), (A.imm (List.map c8 a1.Data) false)], Blk.box [(A.imm [] true), (A.imm [] true)]]) (by kernel_rfl) ?_
    refine .st (v := (A.agg [(A.imm [] true), (A.imm [] true)])) (by kernel_rfl) ?_
    exact .lf rfl rfl ⟨_, rfl, by simp only [snap, snapW, snapWs, snapWss, snapWss_map, trim, List.map_cons, List.map_nil, fl_cI, fl_c8, fl_cB, fl_cS, fl_cL, fl_S_Packet, fl_A2_int_i64, fl_S_Net, fl_S_kinespherelaw06_Move]⟩
  · refine .st (v := (A.ptr 0 0)) (by kernel_rfl) ?_
    refine .st (v := (A.imm (List.map c_S_Packet a0.Queue) false)) (by kernel_rfl) ?_
    refine .st (v := (A.v (Value.int .i64 ((a0.Queue.length : Int))))) (len_imm (e := 28) (h1 := by kernel_rfl) ..) ?_
    refine .st (v := (A.v (Value.bool (((a0.Queue.length : Int)) == 4096)))) (aBin_eql ..) ?_
    refine .biH (fun hk9 => ?_) (fun hk9 => ?_)
    · refine .st (v := (A.agg [(A.imm [] true), (A.imm [] true)])) (by kernel_rfl) ?_
      refine .st (v := [Blk.box [(A.imm (List.map c_S_Packet a0.Queue) false), (A.imm (List.map c_A2_int_i64 a0.Apart) false)], Blk.box [(A.v (Value.int .i64 a1.From)), (A.v (Value.int .i64 a1.To)), (A.imm (List.map c8 a1.Data) false)], Blk.box [(A.imm [] true), (A.imm [] true)]]) (by kernel_rfl) ?_
      refine .st (v := (A.agg [(A.imm [] true), (A.imm [] true)])) (by kernel_rfl) ?_
      exact .lf rfl rfl ⟨_, rfl, by simp only [snap, snapW, snapWs, snapWss, snapWss_map, trim, List.map_cons, List.map_nil, fl_cI, fl_c8, fl_cB, fl_cS, fl_cL, fl_S_Packet, fl_A2_int_i64, fl_S_Net, fl_S_kinespherelaw06_Move]⟩
    · refine .st (v := (A.imm [] true)) (by kernel_rfl) ?_
      refine .st (v := (A.ptr 0 0)) (by kernel_rfl) ?_
      refine .st (v := (A.imm (List.map c_S_Packet a0.Queue) false)) (by kernel_rfl) ?_
      refine .bd (g := fun (y : List S_Packet) => ((A.sl 3 0 y.length false), [Blk.box [(A.imm (List.map c_S_Packet a0.Queue) false), (A.imm (List.map c_A2_int_i64 a0.Apart) false)], Blk.box [(A.v (Value.int .i64 a1.From)), (A.v (Value.int .i64 a1.To)), (A.imm (List.map c8 a1.Data) false)], Blk.box [(A.imm [] true), (A.imm [] true)], Blk.row false 3 (List.map c_S_Packet y)])) (app_imm (e := 28) (es := 3) (by_ := 40) (z := [(A.v (Value.int .i64 0)), (A.v (Value.int .i64 0)), (A.imm [] true)]) (by kernel_rfl) (by kernel_rfl) (by kernel_rfl) (by kernel_rfl) rfl (by decide) (by decide) (by kernel_rfl) (f := c_S_Packet) (fun _ => rfl) ce_S_Packet (l := []) (l2 := a0.Queue) (els_imm ..)) fun y10 => ?_
      refine .cT (by kernel_rfl) ?_
      refine .st (v := (A.agg [(A.v (Value.int .i64 a1.From)), (A.v (Value.int .i64 a1.To)), (A.imm (List.map c8 a1.Data) false)])) (by kernel_rfl) ?_
      refine .cT (by kernel_rfl) ?_
      refine .st (v := (A.imm [[(A.v (Value.int .i64 a1.From)), (A.v (Value.int .i64 a1.To)), (A.imm (List.map c8 a1.Data) false)]] true)) (by kernel_rfl) ?_
      refine .bd (g := fun (y : List S_Packet) => ((A.sl 3 0 y.length false), [Blk.box [(A.imm (List.map c_S_Packet a0.Queue) false), (A.imm (List.map c_A2_int_i64 a0.Apart) false)], Blk.box [(A.v (Value.int .i64 a1.From)), (A.v (Value.int .i64 a1.To)), (A.imm (List.map c8 a1.Data) false)], Blk.box [(A.imm [] true), (A.imm [] true)], Blk.row false 3 (List.map c_S_Packet y)])) (app_row (e := 28) (es := 3) (by_ := 40) (z := [(A.v (Value.int .i64 0)), (A.v (Value.int .i64 0)), (A.imm [] true)]) (by kernel_rfl) (by kernel_rfl) (by kernel_rfl) (by kernel_rfl) rfl (by decide) (by decide) (by kernel_rfl) (f := c_S_Packet) (fun _ => rfl) ce_S_Packet (l := y10) (l2 := [a1]) (b := 3) rfl (by decide) (els_imm (f := c_S_Packet) ([a1] : List S_Packet) _ _)) fun y11 => ?_
      refine .st (v := (A.ptr 0 0)) (by kernel_rfl) ?_
      refine .st (v := [Blk.box [(A.sl 3 0 y11.length false), (A.imm (List.map c_A2_int_i64 a0.Apart) false)], Blk.box [(A.v (Value.int .i64 a1.From)), (A.v (Value.int .i64 a1.To)), (A.imm (List.map c8 a1.Data) false)], Blk.box [(A.imm [] true), (A.imm [] true)], Blk.row false 3 (List.map c_S_Packet y11)]) (by kernel_rfl) ?_
      refine .st (v := (A.agg [(A.sl 3 0 y11.length false), (A.imm (List.map c_A2_int_i64 a0.Apart) false)])) (by kernel_rfl) ?_
      refine .st (v := [Blk.box [(A.sl 3 0 y11.length false), (A.imm (List.map c_A2_int_i64 a0.Apart) false)], Blk.box [(A.v (Value.int .i64 a1.From)), (A.v (Value.int .i64 a1.To)), (A.imm (List.map c8 a1.Data) false)], Blk.box [(A.sl 3 0 y11.length false), (A.imm (List.map c_A2_int_i64 a0.Apart) false)], Blk.row false 3 (List.map c_S_Packet y11)]) (by kernel_rfl) ?_
      refine .st (v := (A.agg [(A.sl 3 0 y11.length false), (A.imm (List.map c_A2_int_i64 a0.Apart) false)])) (by kernel_rfl) ?_
      exact .lf rfl rfl ⟨_, rfl, by simp only [snap, snapW, snapWs, snapWss, snapWss_map, trim, List.map_cons, List.map_nil, fl_cI, fl_c8, fl_cB, fl_cS, fl_cL, fl_S_Packet, fl_A2_int_i64, fl_S_Net, fl_S_kinespherelaw06_Move, snapG_row (H := [Blk.box [(A.sl 3 0 y11.length false), (A.imm (List.map c_A2_int_i64 a0.Apart) false)], Blk.box [(A.v (Value.int .i64 a1.From)), (A.v (Value.int .i64 a1.To)), (A.imm (List.map c8 a1.Data) false)], Blk.box [(A.sl 3 0 y11.length false), (A.imm (List.map c_A2_int_i64 a0.Apart) false)], Blk.row false 3 (List.map c_S_Packet y11)]) (b := 3) (es := 3) (l := y11) fl_S_Packet rfl]⟩

def G12 (a0 : S_Net) (a1 : S_Packet) : Option (S_Net × Int) := F12 fuel0 a0 a1

def Orc12 (C : Nat → List A → Option A) : Prop := ∀ (a0 : S_Net) (a1 : S_Packet), C 12 [(A.agg [(A.imm (List.map c_S_Packet a0.Queue) false), (A.imm (List.map c_A2_int_i64 a0.Apart) false)]), (A.agg [(A.v (Value.int .i64 a1.From)), (A.v (Value.int .i64 a1.To)), (A.imm (List.map c8 a1.Data) false)])] = (G12 a0 a1).map fun y => (A.tup [(A.agg [(A.imm (List.map c_S_Packet y.1.Queue) false), (A.imm (List.map c_A2_int_i64 y.1.Apart) false)]), (A.v (Value.int .i64 y.2))])

def F17 (n : Nat)  : Option S_Net :=
  some ((S_Net.mk ([]) ([])))

theorem T17 (C : Nat → List A → Option A) (n : Nat) : J (fun (o : R) y => ∃ v, o.1 = .ret v ∧ snap o.2 v = (A.agg [(A.imm (List.map c_S_Packet y.Queue) false), (A.imm (List.map c_A2_int_i64 y.Apart) false)])) (evCall1 (cx C) (evCall (cx C) (n+8)) (evCallY (cx C) (n+8)) (n+8) 17 [] [] 0) some (F17 n ) some := by
  refine .lp (e17 ..) ?_
  unfold F17
  refine .st (v := ((A.ptr 0 0), [Blk.box [(A.imm [] true), (A.imm [] true)]])) (by kernel_rfl) ?_
  refine .st (v := (A.agg [(A.imm [] true), (A.imm [] true)])) (by kernel_rfl) ?_
  refine .st (v := [Blk.box [(A.imm [] true), (A.imm [] true)]]) (by kernel_rfl) ?_
  refine .st (v := (A.agg [(A.imm [] true), (A.imm [] true)])) (by kernel_rfl) ?_
  exact .lf rfl rfl ⟨_, rfl, by simp only [snap, snapW, snapWs, snapWss, snapWss_map, trim, List.map_cons, List.map_nil, fl_cI, fl_c8, fl_cB, fl_cS, fl_cL, fl_S_Packet, fl_A2_int_i64, fl_S_Net, fl_S_kinespherelaw06_Move]⟩

def G17  : Option S_Net := F17 fuel0 

def Orc17 (C : Nat → List A → Option A) : Prop := ∀ (_ : Unit), C 17 [] = (G17 ).map fun y => (A.agg [(A.imm (List.map c_S_Packet y.Queue) false), (A.imm (List.map c_A2_int_i64 y.Apart) false)])

def F3 (n : Nat) (a0 : S_Net) (a1 : S_Packet) : Option Bool :=
  Option.bind (G9 ) fun y1 => bif (!y1) then (some false) else (Option.bind (G10 a0) fun y3 => bif (!y3) then (some true) else (Option.bind (G11 a0 a1) fun y5 => Option.bind (G12 a0 a1) fun y6 => Option.bind (G13 a0) fun y7 => Option.bind (G14 a0) fun y8 => Option.bind (bif (y7 == y8) then (Option.bind (G15 y5.1 y6.1) fun y10 => some y10) else (some false)) fun y11 => bif y11 then (Option.bind (some (y5.2 == y6.2)) fun y16 => Option.bind (bif y16 then (Option.bind (G16 ) fun y19 => Option.bind (G17 ) fun y20 => Option.bind (G15 y19 y20) fun y21 => some y21) else (some false)) fun y22 => some y22) else (Option.bind (some false) fun y26 => Option.bind (bif y26 then (Option.bind (G16 ) fun y29 => Option.bind (G17 ) fun y30 => Option.bind (G15 y29 y30) fun y31 => some y31) else (some false)) fun y32 => some y32)))

theorem T3 (C : Nat → List A → Option A) (n : Nat) (h10 : Orc10 C) (h11 : Orc11 C) (h12 : Orc12 C) (h13 : Orc13 C) (h14 : Orc14 C) (h15 : Orc15 C) (h16 : Orc16 C) (h17 : Orc17 C) (h9 : Orc9 C) (a0 : S_Net) (a1 : S_Packet) : J (fun (o : R) y => ∃ v, o.1 = .ret v ∧ snap o.2 v = (A.v (Value.bool y))) (evCall1 (cx C) (evCall (cx C) (n+8)) (evCallY (cx C) (n+8)) (n+8) 3 [(A.agg [(A.imm (List.map c_S_Packet a0.Queue) false), (A.imm (List.map c_A2_int_i64 a0.Apart) false)]), (A.agg [(A.v (Value.int .i64 a1.From)), (A.v (Value.int .i64 a1.To)), (A.imm (List.map c8 a1.Data) false)])] [] 0) some (F3 n a0 a1) some := by
  refine .lp (e3 ..) ?_
  unfold F3
  refine .st (v := ((A.ptr 0 0), [Blk.box [(A.imm (List.map c_S_Packet a0.Queue) false), (A.imm (List.map c_A2_int_i64 a0.Apart) false)]])) (by kernel_rfl) ?_
  refine .st (v := ((A.ptr 1 0), [Blk.box [(A.imm (List.map c_S_Packet a0.Queue) false), (A.imm (List.map c_A2_int_i64 a0.Apart) false)], Blk.box [(A.v (Value.int .i64 a1.From)), (A.v (Value.int .i64 a1.To)), (A.imm (List.map c8 a1.Data) false)]])) (by kernel_rfl) ?_
  refine .bd (g := fun (y : Bool) => (A.v (Value.bool y))) (h9 ()) fun y1 => ?_
  refine .st (v := (A.v (Value.bool (!y1)))) (by kernel_rfl) ?_
  refine .biH (fun hk2 => ?_) (fun hk2 => ?_)
  · exact .lf rfl rfl ⟨_, rfl, rfl⟩
  · refine .st (v := (A.agg [(A.imm (List.map c_S_Packet a0.Queue) false), (A.imm (List.map c_A2_int_i64 a0.Apart) false)])) (by kernel_rfl) ?_
    refine .bd (g := fun (y : Bool) => (A.v (Value.bool y))) (by simp only [snap, snapW, snapWs, snapWss, snapWss_map, trim, List.map_cons, List.map_nil, fl_cI, fl_c8, fl_cB, fl_cS, fl_cL, fl_S_Packet, fl_A2_int_i64, fl_S_Net, fl_S_kinespherelaw06_Move]; exact h10 a0) fun y3 => ?_
    refine .st (v := (A.v (Value.bool (!y3)))) (by kernel_rfl) ?_
    refine .biH (fun hk4 => ?_) (fun hk4 => ?_)
    · exact .lf rfl rfl ⟨_, rfl, rfl⟩
    · refine .st (v := (A.agg [(A.imm (List.map c_S_Packet a0.Queue) false), (A.imm (List.map c_A2_int_i64 a0.Apart) false)])) (by kernel_rfl) ?_
      refine .st (v := (A.agg [(A.v (Value.int .i64 a1.From)), (A.v (Value.int .i64 a1.To)), (A.imm (List.map c8 a1.Data) false)])) (by kernel_rfl) ?_
      refine .bd (g := fun (y : (S_Net × Int)) => (A.tup [(A.agg [(A.imm (List.map c_S_Packet y.1.Queue) false), (A.imm (List.map c_A2_int_i64 y.1.Apart) false)]), (A.v (Value.int .i64 y.2))])) (by simp only [snap, snapW, snapWs, snapWss, snapWss_map, trim, List.map_cons, List.map_nil, fl_cI, fl_c8, fl_cB, fl_cS, fl_cL, fl_S_Packet, fl_A2_int_i64, fl_S_Net, fl_S_kinespherelaw06_Move]; exact h11 a0 a1) fun y5 => ?_
      refine .st (v := (A.agg [(A.imm (List.map c_S_Packet y5.1.Queue) false), (A.imm (List.map c_A2_int_i64 y5.1.Apart) false)])) (by kernel_rfl) ?_
      refine .st (v := (A.v (Value.int .i64 y5.2))) (by kernel_rfl) ?_
      refine .st (v := ((A.ptr 2 0), [Blk.box [(A.imm (List.map c_S_Packet a0.Queue) false), (A.imm (List.map c_A2_int_i64 a0.Apart) false)], Blk.box [(A.v (Value.int .i64 a1.From)), (A.v (Value.int .i64 a1.To)), (A.imm (List.map c8 a1.Data) false)], Blk.box [(A.imm [] true), (A.imm [] true)]])) (by kernel_rfl) ?_
      refine .st (v := [Blk.box [(A.imm (List.map c_S_Packet a0.Queue) false), (A.imm (List.map c_A2_int_i64 a0.Apart) false)], Blk.box [(A.v (Value.int .i64 a1.From)), (A.v (Value.int .i64 a1.To)), (A.imm (List.map c8 a1.Data) false)], Blk.box [(A.imm (List.map c_S_Packet y5.1.Queue) false), (A.imm (List.map c_A2_int_i64 y5.1.Apart) false)]]) (by kernel_rfl) ?_
      refine .st (v := (A.agg [(A.imm (List.map c_S_Packet a0.Queue) false), (A.imm (List.map c_A2_int_i64 a0.Apart) false)])) (by kernel_rfl) ?_
      refine .st (v := (A.agg [(A.v (Value.int .i64 a1.From)), (A.v (Value.int .i64 a1.To)), (A.imm (List.map c8 a1.Data) false)])) (by kernel_rfl) ?_
      refine .bd (g := fun (y : (S_Net × Int)) => (A.tup [(A.agg [(A.imm (List.map c_S_Packet y.1.Queue) false), (A.imm (List.map c_A2_int_i64 y.1.Apart) false)]), (A.v (Value.int .i64 y.2))])) (by simp only [snap, snapW, snapWs, snapWss, snapWss_map, trim, List.map_cons, List.map_nil, fl_cI, fl_c8, fl_cB, fl_cS, fl_cL, fl_S_Packet, fl_A2_int_i64, fl_S_Net, fl_S_kinespherelaw06_Move]; exact h12 a0 a1) fun y6 => ?_
      refine .st (v := (A.agg [(A.imm (List.map c_S_Packet y6.1.Queue) false), (A.imm (List.map c_A2_int_i64 y6.1.Apart) false)])) (by kernel_rfl) ?_
      refine .st (v := (A.v (Value.int .i64 y6.2))) (by kernel_rfl) ?_
      refine .st (v := ((A.ptr 3 0), [Blk.box [(A.imm (List.map c_S_Packet a0.Queue) false), (A.imm (List.map c_A2_int_i64 a0.Apart) false)], Blk.box [(A.v (Value.int .i64 a1.From)), (A.v (Value.int .i64 a1.To)), (A.imm (List.map c8 a1.Data) false)], Blk.box [(A.imm (List.map c_S_Packet y5.1.Queue) false), (A.imm (List.map c_A2_int_i64 y5.1.Apart) false)], Blk.box [(A.imm [] true), (A.imm [] true)]])) (by kernel_rfl) ?_
      refine .st (v := [Blk.box [(A.imm (List.map c_S_Packet a0.Queue) false), (A.imm (List.map c_A2_int_i64 a0.Apart) false)], Blk.box [(A.v (Value.int .i64 a1.From)), (A.v (Value.int .i64 a1.To)), (A.imm (List.map c8 a1.Data) false)], Blk.box [(A.imm (List.map c_S_Packet y5.1.Queue) false), (A.imm (List.map c_A2_int_i64 y5.1.Apart) false)], Blk.box [(A.imm (List.map c_S_Packet y6.1.Queue) false), (A.imm (List.map c_A2_int_i64 y6.1.Apart) false)]]) (by kernel_rfl) ?_
      refine .st (v := (A.agg [(A.imm (List.map c_S_Packet a0.Queue) false), (A.imm (List.map c_A2_int_i64 a0.Apart) false)])) (by kernel_rfl) ?_
      refine .bd (g := fun (y : Int) => (A.v (Value.int .i64 y))) (by simp only [snap, snapW, snapWs, snapWss, snapWss_map, trim, List.map_cons, List.map_nil, fl_cI, fl_c8, fl_cB, fl_cS, fl_cL, fl_S_Packet, fl_A2_int_i64, fl_S_Net, fl_S_kinespherelaw06_Move]; exact h13 a0) fun y7 => ?_
      refine .st (v := (A.agg [(A.imm (List.map c_S_Packet a0.Queue) false), (A.imm (List.map c_A2_int_i64 a0.Apart) false)])) (by kernel_rfl) ?_
      refine .bd (g := fun (y : Int) => (A.v (Value.int .i64 y))) (by simp only [snap, snapW, snapWs, snapWss, snapWss_map, trim, List.map_cons, List.map_nil, fl_cI, fl_c8, fl_cB, fl_cS, fl_cL, fl_S_Packet, fl_A2_int_i64, fl_S_Net, fl_S_kinespherelaw06_Move]; exact h14 a0) fun y8 => ?_
      refine .st (v := (A.v (Value.bool (y7 == y8)))) (aBin_eql ..) ?_
      refine .bg (fun t (y : Bool) => ∃ j12 j13 j14 : A, t = [(A.v (Value.bool y)), j12, j13, j14]) ?_ ?_
      · refine .biH (fun hk9 => ?_) (fun hk9 => ?_)
        · refine .st (v := (A.agg [(A.imm (List.map c_S_Packet y5.1.Queue) false), (A.imm (List.map c_A2_int_i64 y5.1.Apart) false)])) (by kernel_rfl) ?_
          refine .st (v := (A.agg [(A.imm (List.map c_S_Packet y6.1.Queue) false), (A.imm (List.map c_A2_int_i64 y6.1.Apart) false)])) (by kernel_rfl) ?_
          refine .bd (g := fun (y : Bool) => (A.v (Value.bool y))) (by simp only [snap, snapW, snapWs, snapWss, snapWss_map, trim, List.map_cons, List.map_nil, fl_cI, fl_c8, fl_cB, fl_cS, fl_cL, fl_S_Packet, fl_A2_int_i64, fl_S_Net, fl_S_kinespherelaw06_Move]; exact h15 y5.1 y6.1) fun y10 => ?_
          exact .lg ⟨_, _, _, rfl⟩
        · exact .lg ⟨_, _, _, rfl⟩
      rintro _ y11 ⟨j12, j13, j14, rfl⟩
      iterate 4 refine .uc ?_
      refine .gst (fun hc15 => ?_) (fun hc15 => ?_)
      · refine .bb ?_
        refine .cr ?_
        iterate 2 refine .uc ?_
        refine .bg (fun t (y : Bool) => ∃ j17 : A, t = [(A.v (Value.bool y)), j17]) ?_ ?_
        · refine .bKT hc15 ?_
          refine .st (v := (A.v (Value.bool (y5.2 == y6.2)))) (aBin_eql ..) ?_
          exact .lg ⟨_, rfl⟩
        rintro _ y16 ⟨j17, rfl⟩
        iterate 2 refine .uc ?_
        refine .bg (fun t (y : Bool) => ∃ j23 j24 j25 : A, t = [(A.v (Value.bool y)), j23, j24, j25]) ?_ ?_
        · refine .biH (fun hk18 => ?_) (fun hk18 => ?_)
          · refine .bd (g := fun (y : S_Net) => (A.agg [(A.imm (List.map c_S_Packet y.Queue) false), (A.imm (List.map c_A2_int_i64 y.Apart) false)])) (h16 ()) fun y19 => ?_
            refine .bd (g := fun (y : S_Net) => (A.agg [(A.imm (List.map c_S_Packet y.Queue) false), (A.imm (List.map c_A2_int_i64 y.Apart) false)])) (h17 ()) fun y20 => ?_
            refine .bd (g := fun (y : Bool) => (A.v (Value.bool y))) (by simp only [snap, snapW, snapWs, snapWss, snapWss_map, trim, List.map_cons, List.map_nil, fl_cI, fl_c8, fl_cB, fl_cS, fl_cL, fl_S_Packet, fl_A2_int_i64, fl_S_Net, fl_S_kinespherelaw06_Move]; exact h15 y19 y20) fun y21 => ?_
            exact .lg ⟨_, _, _, rfl⟩
          · exact .lg ⟨_, _, _, rfl⟩
        rintro _ y22 ⟨j23, j24, j25, rfl⟩
        iterate 4 refine .uc ?_
        exact .lf rfl rfl ⟨_, rfl, rfl⟩
      · refine .bb ?_
        refine .cr ?_
        iterate 2 refine .uc ?_
        refine .bg (fun t (y : Bool) => ∃ j27 : A, t = [(A.v (Value.bool y)), j27]) ?_ ?_
        · refine .bKF hc15 ?_
          exact .lg ⟨_, rfl⟩
        rintro _ y26 ⟨j27, rfl⟩
        iterate 2 refine .uc ?_
        refine .bg (fun t (y : Bool) => ∃ j33 j34 j35 : A, t = [(A.v (Value.bool y)), j33, j34, j35]) ?_ ?_
        · refine .biH (fun hk28 => ?_) (fun hk28 => ?_)
          · refine .bd (g := fun (y : S_Net) => (A.agg [(A.imm (List.map c_S_Packet y.Queue) false), (A.imm (List.map c_A2_int_i64 y.Apart) false)])) (h16 ()) fun y29 => ?_
            refine .bd (g := fun (y : S_Net) => (A.agg [(A.imm (List.map c_S_Packet y.Queue) false), (A.imm (List.map c_A2_int_i64 y.Apart) false)])) (h17 ()) fun y30 => ?_
            refine .bd (g := fun (y : Bool) => (A.v (Value.bool y))) (by simp only [snap, snapW, snapWs, snapWss, snapWss_map, trim, List.map_cons, List.map_nil, fl_cI, fl_c8, fl_cB, fl_cS, fl_cL, fl_S_Packet, fl_A2_int_i64, fl_S_Net, fl_S_kinespherelaw06_Move]; exact h15 y29 y30) fun y31 => ?_
            exact .lg ⟨_, _, _, rfl⟩
          · exact .lg ⟨_, _, _, rfl⟩
        rintro _ y32 ⟨j33, j34, j35, rfl⟩
        iterate 4 refine .uc ?_
        exact .lf rfl rfl ⟨_, rfl, rfl⟩

def G3 (a0 : S_Net) (a1 : S_Packet) : Option Bool := F3 fuel0 a0 a1

def Orc3 (C : Nat → List A → Option A) : Prop := ∀ (a0 : S_Net) (a1 : S_Packet), C 3 [(A.agg [(A.imm (List.map c_S_Packet a0.Queue) false), (A.imm (List.map c_A2_int_i64 a0.Apart) false)]), (A.agg [(A.v (Value.int .i64 a1.From)), (A.v (Value.int .i64 a1.To)), (A.imm (List.map c8 a1.Data) false)])] = (G3 a0 a1).map fun y => (A.v (Value.bool y))

def F4_4_0 (n : Nat) (v5 : (List S_Packet)) (v6 : (List UInt8)) (v7 : Bool) : Nat → Int → (List S_Packet) → (List (Int × Int)) → (List S_Packet) → Option ((List S_Packet) × (List (Int × Int)) × (List S_Packet))
  | 0, _, _, _, _ => none
  | m + 1, v8, v9, v10, v11 => bif (decide (v8 < ((v5.length : Int)))) then (Option.bind (getI v5 v8) fun y13 => Option.bind (G11 ((S_Net.mk v9 v10)) y13) fun y14 => bif (y14.2 == 0) then (Option.bind (getI v5 v8) fun y16 => Option.bind (appI 40 v11 ([y16])) fun y17 => F4_4_0 n v5 v6 v7 m (wr .i64 (v8 + 1)) y14.1.Queue y14.1.Apart y17) else (F4_4_0 n v5 v6 v7 m (wr .i64 (v8 + 1)) v9 v10 v11)) else (some ((v9, v10, v11)))

theorem T4_4_0 (C : Nat → List A → Option A) (n : Nat) (h11 : Orc11 C) (h16 : Orc16 C) (h18 : Orc18 C) (h19 : Orc19 C) (h9 : Orc9 C) (v5 : (List S_Packet)) (v6 : (List UInt8)) (v7 : Bool) {ρ γ : Type} {φ : ρ → γ → Prop} {kL : R → Option ρ} {K : ((List S_Packet) × (List (Int × Int)) × (List S_Packet)) → Option γ} (kx kg : Nat → St → Option R) (kr : St → Option R) (kp : A → St → Option R) (x0 : ∀ (o0 : (List S_Packet)) (o1 : (List (Int × Int))) (o2 : (List S_Packet)) (s0 : A) (s7 : A), J φ (kx 0 (St.mk [(0, s0), (1, (A.imm (List.map c8 v6) false)), (4, (A.v (Value.bool v7))), (5, (A.ptr 0 0)), (6, (A.sl 1 0 o2.length false)), (7, s7)] [Blk.box [(A.imm (List.map c_S_Packet o0) false), (A.imm (List.map c_A2_int_i64 o1) false)], Blk.row false 3 (List.map c_S_Packet o2)])) kL (K (o0, o1, o2)) some) :
    ∀ (m : Nat) (v8 : Int) (v9 : (List S_Packet)) (v10 : (List (Int × Int))) (v11 : (List S_Packet)), J φ (loopR (cx C) (evCall (cx C) (n+8)) (evCallY (cx C) (n+8)) (n+8) 4 0 0 2 kx kg kr kp m (St.mk [(0, (A.imm (List.map c_S_Packet v5) false)), (1, (A.imm (List.map c8 v6) false)), (4, (A.v (Value.bool v7))), (5, (A.ptr 0 0)), (6, (A.sl 1 0 v11.length false)), (7, (A.v (Value.int .i64 v8)))] [Blk.box [(A.imm (List.map c_S_Packet v9) false), (A.imm (List.map c_A2_int_i64 v10) false)], Blk.row false 3 (List.map c_S_Packet v11)])) kL (F4_4_0 n v5 v6 v7 m v8 v9 v10 v11) K := by
  intro m
  induction m with
  | zero => intros; exact .nn
  | succ m ih =>
    intro v8 v9 v10 v11
    refine .lp (e4_0 ..) ?_
    unfold F4_4_0
    refine .st (v := (A.v (Value.int .i64 ((v5.length : Int))))) (len_imm (e := 28) (h1 := by kernel_rfl) ..) ?_
    refine .st (v := (A.v (Value.bool (decide (v8 < ((v5.length : Int))))))) (aBin_lss ..) ?_
    refine .biH (fun hk12 => ?_) (fun hk12 => ?_)
    · refine .st (v := (A.agg [(A.imm (List.map c_S_Packet v9) false), (A.imm (List.map c_A2_int_i64 v10) false)])) (by kernel_rfl) ?_
      refine .bd (g := fun (y : S_Packet) => A.ip (c_S_Packet y)) (idx_imm (e := 28) (es := 3) (h1 := by kernel_rfl) (h2 := by kernel_rfl) (h3 := fun _ => rfl) ..) fun y13 => ?_
      refine .st (v := (A.agg [(A.v (Value.int .i64 y13.From)), (A.v (Value.int .i64 y13.To)), (A.imm (List.map c8 y13.Data) false)])) (by kernel_rfl) ?_
      refine .bd (g := fun (y : (S_Net × Int)) => (A.tup [(A.agg [(A.imm (List.map c_S_Packet y.1.Queue) false), (A.imm (List.map c_A2_int_i64 y.1.Apart) false)]), (A.v (Value.int .i64 y.2))])) (by simp only [snap, snapW, snapWs, snapWss, snapWss_map, trim, List.map_cons, List.map_nil, fl_cI, fl_c8, fl_cB, fl_cS, fl_cL, fl_S_Packet, fl_A2_int_i64, fl_S_Net, fl_S_kinespherelaw06_Move, snapG_row (H := [Blk.box [(A.imm (List.map c_S_Packet v9) false), (A.imm (List.map c_A2_int_i64 v10) false)], Blk.row false 3 (List.map c_S_Packet v11)]) (b := 1) (es := 3) (l := v11) fl_S_Packet rfl]; exact h11 ((S_Net.mk v9 v10)) y13) fun y14 => ?_
      refine .st (v := (A.agg [(A.imm (List.map c_S_Packet y14.1.Queue) false), (A.imm (List.map c_A2_int_i64 y14.1.Apart) false)])) (by kernel_rfl) ?_
      refine .st (v := (A.v (Value.int .i64 y14.2))) (by kernel_rfl) ?_
      refine .cT (by kernel_rfl) ?_
      refine .st (v := ((A.ptr 2 0), [Blk.box [(A.imm (List.map c_S_Packet v9) false), (A.imm (List.map c_A2_int_i64 v10) false)], Blk.row false 3 (List.map c_S_Packet v11), Blk.box [(A.imm [] true), (A.imm [] true)]])) (by kernel_rfl) ?_
      refine .st (v := [Blk.box [(A.imm (List.map c_S_Packet v9) false), (A.imm (List.map c_A2_int_i64 v10) false)], Blk.row false 3 (List.map c_S_Packet v11), Blk.box [(A.imm (List.map c_S_Packet y14.1.Queue) false), (A.imm (List.map c_A2_int_i64 y14.1.Apart) false)]]) (by kernel_rfl) ?_
      refine .st (v := (A.v (Value.bool (y14.2 == 0)))) (aBin_eql ..) ?_
      refine .biH (fun hk15 => ?_) (fun hk15 => ?_)
      · refine .st (v := (A.agg [(A.imm (List.map c_S_Packet y14.1.Queue) false), (A.imm (List.map c_A2_int_i64 y14.1.Apart) false)])) (by kernel_rfl) ?_
        refine .st (v := [Blk.box [(A.imm (List.map c_S_Packet y14.1.Queue) false), (A.imm (List.map c_A2_int_i64 y14.1.Apart) false)], Blk.row false 3 (List.map c_S_Packet v11), Blk.box [(A.imm (List.map c_S_Packet y14.1.Queue) false), (A.imm (List.map c_A2_int_i64 y14.1.Apart) false)]]) (by kernel_rfl) ?_
        refine .bd (g := fun (y : S_Packet) => A.ip (c_S_Packet y)) (idx_imm (e := 28) (es := 3) (h1 := by kernel_rfl) (h2 := by kernel_rfl) (h3 := fun _ => rfl) ..) fun y16 => ?_
        refine .st (v := (A.agg [(A.v (Value.int .i64 y16.From)), (A.v (Value.int .i64 y16.To)), (A.imm (List.map c8 y16.Data) false)])) (by kernel_rfl) ?_
        refine .st (v := (A.imm [[(A.v (Value.int .i64 y16.From)), (A.v (Value.int .i64 y16.To)), (A.imm (List.map c8 y16.Data) false)]] true)) (by kernel_rfl) ?_
        refine .bd (g := fun (y : List S_Packet) => ((A.sl 1 0 y.length false), [Blk.box [(A.imm (List.map c_S_Packet y14.1.Queue) false), (A.imm (List.map c_A2_int_i64 y14.1.Apart) false)], Blk.row false 3 (List.map c_S_Packet y), Blk.box [(A.imm (List.map c_S_Packet y14.1.Queue) false), (A.imm (List.map c_A2_int_i64 y14.1.Apart) false)]])) (app_row (e := 28) (es := 3) (by_ := 40) (z := [(A.v (Value.int .i64 0)), (A.v (Value.int .i64 0)), (A.imm [] true)]) (by kernel_rfl) (by kernel_rfl) (by kernel_rfl) (by kernel_rfl) rfl (by decide) (by decide) (by kernel_rfl) (f := c_S_Packet) (fun _ => rfl) ce_S_Packet (l := v11) (l2 := [y16]) (b := 1) rfl (by decide) (els_imm (f := c_S_Packet) ([y16] : List S_Packet) _ _)) fun y17 => ?_
        refine .st (v := (A.v (Value.int .i64 (wr .i64 (v8 + 1))))) (aBin_add ..) ?_
        refine .st (v := [Blk.box [(A.imm (List.map c_S_Packet y14.1.Queue) false), (A.imm (List.map c_A2_int_i64 y14.1.Apart) false)], Blk.row false 3 (List.map c_S_Packet y17)]) ((by kernel_rfl : _ = (bif ((((underss 2 (List.map c_S_Packet y14.1.Queue)) && ((underss 2 (List.map c_A2_int_i64 y14.1.Apart)) && true))) && ((underss 2 (List.map c_S_Packet y17)) && true)) then some [Blk.box [(A.imm (List.map c_S_Packet y14.1.Queue) false), (A.imm (List.map c_A2_int_i64 y14.1.Apart) false)], Blk.row false 3 (List.map c_S_Packet y17)] else none)).trans (by simp only [underss_map, fu_cI, fu_c8, fu_cB, fu_cS, fu_cL, fu_S_Packet, fu_A2_int_i64, fu_S_Net, fu_S_kinespherelaw06_Move,  Bool.and_true, Bool.true_and, cond_true])) ?_
        refine .cT ((by kernel_rfl : _ = (bif underss 2 (List.map c_S_Packet v5) then (bif underss 2 (List.map c8 v6) then true else false) else false)).trans (by simp only [underss_map, fu_cI, fu_c8, fu_cB, fu_cS, fu_cL, fu_S_Packet, fu_A2_int_i64, fu_S_Net, fu_S_kinespherelaw06_Move,  Bool.and_true, Bool.true_and, cond_true])) ?_
        exact ih _ _ _ _
      · refine .st (v := (A.v (Value.int .i64 (wr .i64 (v8 + 1))))) (aBin_add ..) ?_
        refine .st (v := [Blk.box [(A.imm (List.map c_S_Packet v9) false), (A.imm (List.map c_A2_int_i64 v10) false)], Blk.row false 3 (List.map c_S_Packet v11)]) ((by kernel_rfl : _ = (bif ((((underss 2 (List.map c_S_Packet v9)) && ((underss 2 (List.map c_A2_int_i64 v10)) && true))) && ((underss 2 (List.map c_S_Packet v11)) && true)) then some [Blk.box [(A.imm (List.map c_S_Packet v9) false), (A.imm (List.map c_A2_int_i64 v10) false)], Blk.row false 3 (List.map c_S_Packet v11)] else none)).trans (by simp only [underss_map, fu_cI, fu_c8, fu_cB, fu_cS, fu_cL, fu_S_Packet, fu_A2_int_i64, fu_S_Net, fu_S_kinespherelaw06_Move,  Bool.and_true, Bool.true_and, cond_true])) ?_
        refine .cT ((by kernel_rfl : _ = (bif underss 2 (List.map c_S_Packet v5) then (bif underss 2 (List.map c8 v6) then true else false) else false)).trans (by simp only [underss_map, fu_cI, fu_c8, fu_cB, fu_cS, fu_cL, fu_S_Packet, fu_A2_int_i64, fu_S_Net, fu_S_kinespherelaw06_Move,  Bool.and_true, Bool.true_and, cond_true])) ?_
        exact ih _ _ _ _
    · exact .ex (x0 _ _ _ _ _)

def F4_4_1 (n : Nat) (v24 : (List UInt8)) (v25 : Bool) (v30 : (List S_Packet)) : Nat → (List S_Packet) → Int → (List S_Packet) → (List (Int × Int)) → Option ((Bool × (List S_Packet) × (List (Int × Int)) × Int × Int × (List UInt8) × (List S_Packet) × (List (Int × Int))) ⊕ ((List S_Packet) × (List (Int × Int))))
  | 0, _, _, _, _ => none
  | m + 1, v26, v27, v28, v29 => bif (decide (0 < ((v26.length : Int)))) then (bif (decide (v27 < ((v24.length : Int)))) then (Option.bind (getI v24 v27) fun y33 => bif decide (((v26.length : Int)) ≠ 0) then (Option.bind (G18 ((S_Net.mk v28 v29)) (Int.tmod (wr .i64 ((y33.toNat : Int))) ((v26.length : Int)))) fun y34 => bif (y34.2.2 != 0) then (Option.bind (some true) fun y46 => bif y46 then (some ((Sum.inl ((false, v28, v29, y34.1.From, y34.1.To, y34.1.Data, y34.2.1.Queue, y34.2.1.Apart))))) else (Option.bind (subI v26 0 (Int.tmod (wr .i64 ((y33.toNat : Int))) ((v26.length : Int)))) fun y50 => Option.bind (appI 40 ([]) y50) fun y51 => Option.bind (subI v26 (wr .i64 ((Int.tmod (wr .i64 ((y33.toNat : Int))) ((v26.length : Int))) + 1)) ((v26.length : Int))) fun y52 => Option.bind (appI 40 y51 y52) fun y53 => F4_4_1 n v24 v25 v30 m y53 (wr .i64 (v27 + 1)) y34.2.1.Queue y34.2.1.Apart)) else (Option.bind (getI v26 (Int.tmod (wr .i64 ((y33.toNat : Int))) ((v26.length : Int)))) fun y36 => Option.bind (Option.bind (G19 y34.1 y36) fun y37 => some (!y37)) fun y38 => bif y38 then (some ((Sum.inl ((false, v28, v29, y34.1.From, y34.1.To, y34.1.Data, y34.2.1.Queue, y34.2.1.Apart))))) else (Option.bind (subI v26 0 (Int.tmod (wr .i64 ((y33.toNat : Int))) ((v26.length : Int)))) fun y42 => Option.bind (appI 40 ([]) y42) fun y43 => Option.bind (subI v26 (wr .i64 ((Int.tmod (wr .i64 ((y33.toNat : Int))) ((v26.length : Int))) + 1)) ((v26.length : Int))) fun y44 => Option.bind (appI 40 y43 y44) fun y45 => F4_4_1 n v24 v25 v30 m y45 (wr .i64 (v27 + 1)) y34.2.1.Queue y34.2.1.Apart))) else none) else (Option.bind (G18 ((S_Net.mk v28 v29)) 0) fun y54 => bif (y54.2.2 != 0) then (Option.bind (some true) fun y66 => bif y66 then (some ((Sum.inl ((false, v28, v29, y54.1.From, y54.1.To, y54.1.Data, y54.2.1.Queue, y54.2.1.Apart))))) else (Option.bind (subI v26 0 0) fun y70 => Option.bind (appI 40 ([]) y70) fun y71 => Option.bind (subI v26 1 ((v26.length : Int))) fun y72 => Option.bind (appI 40 y71 y72) fun y73 => F4_4_1 n v24 v25 v30 m y73 (wr .i64 (v27 + 1)) y54.2.1.Queue y54.2.1.Apart)) else (Option.bind (getI v26 0) fun y56 => Option.bind (Option.bind (G19 y54.1 y56) fun y57 => some (!y57)) fun y58 => bif y58 then (some ((Sum.inl ((false, v28, v29, y54.1.From, y54.1.To, y54.1.Data, y54.2.1.Queue, y54.2.1.Apart))))) else (Option.bind (subI v26 0 0) fun y62 => Option.bind (appI 40 ([]) y62) fun y63 => Option.bind (subI v26 1 ((v26.length : Int))) fun y64 => Option.bind (appI 40 y63 y64) fun y65 => F4_4_1 n v24 v25 v30 m y65 (wr .i64 (v27 + 1)) y54.2.1.Queue y54.2.1.Apart)))) else (some ((Sum.inr ((v28, v29)))))

theorem T4_4_1 (C : Nat → List A → Option A) (n : Nat) (h11 : Orc11 C) (h16 : Orc16 C) (h18 : Orc18 C) (h19 : Orc19 C) (h9 : Orc9 C) (v24 : (List UInt8)) (v25 : Bool) (v30 : (List S_Packet)) {ρ γ : Type} {φ : ρ → γ → Prop} {kL : R → Option ρ} {K : ((Bool × (List S_Packet) × (List (Int × Int)) × Int × Int × (List UInt8) × (List S_Packet) × (List (Int × Int))) ⊕ ((List S_Packet) × (List (Int × Int)))) → Option γ} (kx kg : Nat → St → Option R) (kr : St → Option R) (kp : A → St → Option R) (x0 : ∀ (o0 : Bool) (o1 : (List S_Packet)) (o2 : (List (Int × Int))) (o3 : Int) (o4 : Int) (o5 : (List UInt8)) (o6 : (List S_Packet)) (o7 : (List (Int × Int))) (s1 : A) (s5 : A) (s6 : A) (s10 : A), J φ (kr (St.mk [(1, s1), (4, (A.v (Value.bool o0))), (5, s5), (6, s6), (10, s10)] [Blk.box [(A.imm (List.map c_S_Packet o1) false), (A.imm (List.map c_A2_int_i64 o2) false)], Blk.row false 3 (List.map c_S_Packet v30), Blk.box [(A.v (Value.int .i64 o3)), (A.v (Value.int .i64 o4)), (A.imm (List.map c8 o5) false)], Blk.box [(A.imm (List.map c_S_Packet o6) false), (A.imm (List.map c_A2_int_i64 o7) false)]])) kL (K (Sum.inl ((o0, o1, o2, o3, o4, o5, o6, o7)))) some) (x1 : ∀ (o0 : (List S_Packet)) (o1 : (List (Int × Int))) (s1 : A) (s4 : A) (s6 : A) (s10 : A), J φ (kx 2 (St.mk [(1, s1), (4, s4), (5, (A.ptr 0 0)), (6, s6), (10, s10)] [Blk.box [(A.imm (List.map c_S_Packet o0) false), (A.imm (List.map c_A2_int_i64 o1) false)], Blk.row false 3 (List.map c_S_Packet v30)])) kL (K (Sum.inr ((o0, o1)))) some) :
    ∀ (m : Nat) (v26 : (List S_Packet)) (v27 : Int) (v28 : (List S_Packet)) (v29 : (List (Int × Int))), J φ (loopR (cx C) (evCall (cx C) (n+8)) (evCallY (cx C) (n+8)) (n+8) 4 0 1 2 kx kg kr kp m (St.mk [(1, (A.imm (List.map c8 v24) false)), (4, (A.v (Value.bool v25))), (5, (A.ptr 0 0)), (6, (A.imm (List.map c_S_Packet v26) false)), (10, (A.v (Value.int .i64 v27)))] [Blk.box [(A.imm (List.map c_S_Packet v28) false), (A.imm (List.map c_A2_int_i64 v29) false)], Blk.row false 3 (List.map c_S_Packet v30)])) kL (F4_4_1 n v24 v25 v30 m v26 v27 v28 v29) K := by
  intro m
  induction m with
  | zero => intros; exact .nn
  | succ m ih =>
    intro v26 v27 v28 v29
    refine .lp (e4_1 ..) ?_
    unfold F4_4_1
    refine .st (v := (A.v (Value.int .i64 ((v26.length : Int))))) (len_imm (e := 28) (h1 := by kernel_rfl) ..) ?_
    refine .st (v := (A.v (Value.bool (decide (0 < ((v26.length : Int))))))) (aBin_gtr ..) ?_
    refine .biH (fun hk31 => ?_) (fun hk31 => ?_)
    · refine .st (v := (A.v (Value.int .i64 ((v24.length : Int))))) (len_imm (e := 5) (h1 := by kernel_rfl) ..) ?_
      refine .st (v := (A.v (Value.bool (decide (v27 < ((v24.length : Int))))))) (aBin_lss ..) ?_
      refine .biH (fun hk32 => ?_) (fun hk32 => ?_)
      · refine .bd (g := fun (y : UInt8) => A.ip (c8 y)) (idx_imm (e := 5) (es := 1) (h1 := by kernel_rfl) (h2 := by kernel_rfl) (h3 := fun _ => rfl) ..) fun y33 => ?_
        refine .st (v := (A.v (Value.int .u8 ((y33.toNat : Int))))) (by kernel_rfl) ?_
        refine .st (v := (A.v (Value.int .i64 (wr .i64 ((y33.toNat : Int)))))) (aConvert_int (hs := by kernel_rfl) (hd := by kernel_rfl) ..) ?_
        refine .st (v := (A.v (Value.int .i64 ((v26.length : Int))))) (len_imm (e := 28) (h1 := by kernel_rfl) ..) ?_
        refine .gd fun hg => ?_
        refine .st (v := (A.v (Value.int .i64 (Int.tmod (wr .i64 ((y33.toNat : Int))) ((v26.length : Int)))))) (aBin_rem (hb := of_decide_eq_true hg) ..) ?_
        refine .st (v := (A.agg [(A.imm (List.map c_S_Packet v28) false), (A.imm (List.map c_A2_int_i64 v29) false)])) (by kernel_rfl) ?_
        refine .bd (g := fun (y : (S_Packet × S_Net × Int)) => (A.tup [(A.agg [(A.v (Value.int .i64 y.1.From)), (A.v (Value.int .i64 y.1.To)), (A.imm (List.map c8 y.1.Data) false)]), (A.agg [(A.imm (List.map c_S_Packet y.2.1.Queue) false), (A.imm (List.map c_A2_int_i64 y.2.1.Apart) false)]), (A.v (Value.int .i64 y.2.2))])) (by simp only [snap, snapW, snapWs, snapWss, snapWss_map, trim, List.map_cons, List.map_nil, fl_cI, fl_c8, fl_cB, fl_cS, fl_cL, fl_S_Packet, fl_A2_int_i64, fl_S_Net, fl_S_kinespherelaw06_Move, snapG_row (H := [Blk.box [(A.imm (List.map c_S_Packet v28) false), (A.imm (List.map c_A2_int_i64 v29) false)], Blk.row false 3 (List.map c_S_Packet v30)]) (b := 1) (es := 3) (l := v30) fl_S_Packet rfl]; exact h18 ((S_Net.mk v28 v29)) (Int.tmod (wr .i64 ((y33.toNat : Int))) ((v26.length : Int)))) fun y34 => ?_
        refine .st (v := (A.agg [(A.v (Value.int .i64 y34.1.From)), (A.v (Value.int .i64 y34.1.To)), (A.imm (List.map c8 y34.1.Data) false)])) (by kernel_rfl) ?_
        refine .st (v := (A.agg [(A.imm (List.map c_S_Packet y34.2.1.Queue) false), (A.imm (List.map c_A2_int_i64 y34.2.1.Apart) false)])) (by kernel_rfl) ?_
        refine .st (v := (A.v (Value.int .i64 y34.2.2))) (by kernel_rfl) ?_
        refine .st (v := ((A.ptr 2 0), [Blk.box [(A.imm (List.map c_S_Packet v28) false), (A.imm (List.map c_A2_int_i64 v29) false)], Blk.row false 3 (List.map c_S_Packet v30), Blk.box [(A.v (Value.int .i64 0)), (A.v (Value.int .i64 0)), (A.imm [] true)]])) (by kernel_rfl) ?_
        refine .st (v := ((A.ptr 3 0), [Blk.box [(A.imm (List.map c_S_Packet v28) false), (A.imm (List.map c_A2_int_i64 v29) false)], Blk.row false 3 (List.map c_S_Packet v30), Blk.box [(A.v (Value.int .i64 0)), (A.v (Value.int .i64 0)), (A.imm [] true)], Blk.box [(A.imm [] true), (A.imm [] true)]])) (by kernel_rfl) ?_
        refine .st (v := [Blk.box [(A.imm (List.map c_S_Packet v28) false), (A.imm (List.map c_A2_int_i64 v29) false)], Blk.row false 3 (List.map c_S_Packet v30), Blk.box [(A.v (Value.int .i64 y34.1.From)), (A.v (Value.int .i64 y34.1.To)), (A.imm (List.map c8 y34.1.Data) false)], Blk.box [(A.imm [] true), (A.imm [] true)]]) (by kernel_rfl) ?_
        refine .st (v := [Blk.box [(A.imm (List.map c_S_Packet v28) false), (A.imm (List.map c_A2_int_i64 v29) false)], Blk.row false 3 (List.map c_S_Packet v30), Blk.box [(A.v (Value.int .i64 y34.1.From)), (A.v (Value.int .i64 y34.1.To)), (A.imm (List.map c8 y34.1.Data) false)], Blk.box [(A.imm (List.map c_S_Packet y34.2.1.Queue) false), (A.imm (List.map c_A2_int_i64 y34.2.1.Apart) false)]]) (by kernel_rfl) ?_
        refine .st (v := (A.v (Value.bool (y34.2.2 != 0)))) (aBin_neq ..) ?_
        refine .gsf (fun hc35 => ?_) (fun hc35 => ?_)
        · refine .bb ?_
          refine .st (v := (A.agg [(A.v (Value.int .i64 y34.1.From)), (A.v (Value.int .i64 y34.1.To)), (A.imm (List.map c8 y34.1.Data) false)])) (by kernel_rfl) ?_
          refine .bd (g := fun (y : S_Packet) => A.ip (c_S_Packet y)) (idx_imm (e := 28) (es := 3) (h1 := by kernel_rfl) (h2 := by kernel_rfl) (h3 := fun _ => rfl) ..) fun y36 => ?_
          refine .st (v := (A.agg [(A.v (Value.int .i64 y36.From)), (A.v (Value.int .i64 y36.To)), (A.imm (List.map c8 y36.Data) false)])) (by kernel_rfl) ?_
          refine .cr ?_
          iterate 5 refine .uc ?_
          refine .bg (fun t (y : Bool) => ∃ j39 j40 : A, t = [(A.v (Value.bool y)), j39, j40]) ?_ ?_
          · refine .bKF hc35 ?_
            refine .bd (g := fun (y : Bool) => (A.v (Value.bool y))) (by simp only [snap, snapW, snapWs, snapWss, snapWss_map, trim, List.map_cons, List.map_nil, fl_cI, fl_c8, fl_cB, fl_cS, fl_cL, fl_S_Packet, fl_A2_int_i64, fl_S_Net, fl_S_kinespherelaw06_Move, snapG_row (H := [Blk.box [(A.imm (List.map c_S_Packet v28) false), (A.imm (List.map c_A2_int_i64 v29) false)], Blk.row false 3 (List.map c_S_Packet v30), Blk.box [(A.v (Value.int .i64 y34.1.From)), (A.v (Value.int .i64 y34.1.To)), (A.imm (List.map c8 y34.1.Data) false)], Blk.box [(A.imm (List.map c_S_Packet y34.2.1.Queue) false), (A.imm (List.map c_A2_int_i64 y34.2.1.Apart) false)]]) (b := 1) (es := 3) (l := v30) fl_S_Packet rfl]; exact h19 y34.1 y36) fun y37 => ?_
            refine .st (v := (A.v (Value.bool (!y37)))) (by kernel_rfl) ?_
            exact .lg ⟨_, _, rfl⟩
          rintro _ y38 ⟨j39, j40, rfl⟩
          iterate 3 refine .uc ?_
          refine .biH (fun hk41 => ?_) (fun hk41 => ?_)
          · exact .ex (x0 _ _ _ _ _ _ _ _ _ _ _ _)
          · refine .st (v := (A.agg [(A.imm (List.map c_S_Packet y34.2.1.Queue) false), (A.imm (List.map c_A2_int_i64 y34.2.1.Apart) false)])) (by kernel_rfl) ?_
            refine .st (v := [Blk.box [(A.imm (List.map c_S_Packet y34.2.1.Queue) false), (A.imm (List.map c_A2_int_i64 y34.2.1.Apart) false)], Blk.row false 3 (List.map c_S_Packet v30), Blk.box [(A.v (Value.int .i64 y34.1.From)), (A.v (Value.int .i64 y34.1.To)), (A.imm (List.map c8 y34.1.Data) false)], Blk.box [(A.imm (List.map c_S_Packet y34.2.1.Queue) false), (A.imm (List.map c_A2_int_i64 y34.2.1.Apart) false)]]) (by kernel_rfl) ?_
            refine .st (v := (A.imm [] true)) (by kernel_rfl) ?_
            refine .bd (g := fun (y : List S_Packet) => (A.imm (List.map c_S_Packet y) false)) (cut_imm (e := 28) (es := 3) (f := c_S_Packet) (l := v26) (a := 0) (b := Int.tmod (wr .i64 ((y33.toNat : Int))) ((v26.length : Int))) (by kernel_rfl) (by kernel_rfl) (fun _ => rfl) (.inl ⟨rfl, rfl⟩) (.inr ⟨_, rfl⟩)) fun y42 => ?_
            refine .bd (g := fun (y : List S_Packet) => ((A.sl 4 0 y.length false), [Blk.box [(A.imm (List.map c_S_Packet y34.2.1.Queue) false), (A.imm (List.map c_A2_int_i64 y34.2.1.Apart) false)], Blk.row false 3 (List.map c_S_Packet v30), Blk.box [(A.v (Value.int .i64 y34.1.From)), (A.v (Value.int .i64 y34.1.To)), (A.imm (List.map c8 y34.1.Data) false)], Blk.box [(A.imm (List.map c_S_Packet y34.2.1.Queue) false), (A.imm (List.map c_A2_int_i64 y34.2.1.Apart) false)], Blk.row false 3 (List.map c_S_Packet y)])) (app_imm (e := 28) (es := 3) (by_ := 40) (z := [(A.v (Value.int .i64 0)), (A.v (Value.int .i64 0)), (A.imm [] true)]) (by kernel_rfl) (by kernel_rfl) (by kernel_rfl) (by kernel_rfl) rfl (by decide) (by decide) (by kernel_rfl) (f := c_S_Packet) (fun _ => rfl) ce_S_Packet (l := []) (l2 := y42) (els_imm ..)) fun y43 => ?_
            refine .st (v := (A.v (Value.int .i64 (wr .i64 ((Int.tmod (wr .i64 ((y33.toNat : Int))) ((v26.length : Int))) + 1))))) (aBin_add ..) ?_
            refine .cT (by kernel_rfl) ?_
            refine .bd (g := fun (y : List S_Packet) => (A.imm (List.map c_S_Packet y) false)) (cut_imm (e := 28) (es := 3) (f := c_S_Packet) (l := v26) (a := wr .i64 ((Int.tmod (wr .i64 ((y33.toNat : Int))) ((v26.length : Int))) + 1)) (b := (v26.length : Int)) (by kernel_rfl) (by kernel_rfl) (fun _ => rfl) (.inr ⟨_, rfl⟩) (.inl ⟨rfl, rfl⟩)) fun y44 => ?_
            refine .bd (g := fun (y : List S_Packet) => ((A.sl 4 0 y.length false), [Blk.box [(A.imm (List.map c_S_Packet y34.2.1.Queue) false), (A.imm (List.map c_A2_int_i64 y34.2.1.Apart) false)], Blk.row false 3 (List.map c_S_Packet v30), Blk.box [(A.v (Value.int .i64 y34.1.From)), (A.v (Value.int .i64 y34.1.To)), (A.imm (List.map c8 y34.1.Data) false)], Blk.box [(A.imm (List.map c_S_Packet y34.2.1.Queue) false), (A.imm (List.map c_A2_int_i64 y34.2.1.Apart) false)], Blk.row false 3 (List.map c_S_Packet y)])) (app_row (e := 28) (es := 3) (by_ := 40) (z := [(A.v (Value.int .i64 0)), (A.v (Value.int .i64 0)), (A.imm [] true)]) (by kernel_rfl) (by kernel_rfl) (by kernel_rfl) (by kernel_rfl) rfl (by decide) (by decide) (by kernel_rfl) (f := c_S_Packet) (fun _ => rfl) ce_S_Packet (l := y43) (l2 := y44) (b := 4) rfl (by decide) (els_imm ..)) fun y45 => ?_
            refine .st (v := (A.v (Value.int .i64 (wr .i64 (v27 + 1))))) (aBin_add ..) ?_
            refine .st (v := [Blk.box [(A.imm (List.map c_S_Packet y34.2.1.Queue) false), (A.imm (List.map c_A2_int_i64 y34.2.1.Apart) false)], Blk.row false 3 (List.map c_S_Packet v30)]) ((by kernel_rfl : _ = (bif ((((underss 2 (List.map c_S_Packet y34.2.1.Queue)) && ((underss 2 (List.map c_A2_int_i64 y34.2.1.Apart)) && true))) && ((underss 2 (List.map c_S_Packet v30)) && true)) then some [Blk.box [(A.imm (List.map c_S_Packet y34.2.1.Queue) false), (A.imm (List.map c_A2_int_i64 y34.2.1.Apart) false)], Blk.row false 3 (List.map c_S_Packet v30)] else none)).trans (by simp only [underss_map, fu_cI, fu_c8, fu_cB, fu_cS, fu_cL, fu_S_Packet, fu_A2_int_i64, fu_S_Net, fu_S_kinespherelaw06_Move,  Bool.and_true, Bool.true_and, cond_true])) ?_
            refine .cT ((by simp only [frz, frzC, snap, snapW, snapWs, snapWss, snapWss_map, trim, List.map_cons, List.map_nil, fl_cI, fl_c8, fl_cB, fl_cS, fl_cL, fl_S_Packet, fl_A2_int_i64, fl_S_Net, fl_S_kinespherelaw06_Move, snapG_row (H := [Blk.box [(A.imm (List.map c_S_Packet y34.2.1.Queue) false), (A.imm (List.map c_A2_int_i64 y34.2.1.Apart) false)], Blk.row false 3 (List.map c_S_Packet v30), Blk.box [(A.v (Value.int .i64 y34.1.From)), (A.v (Value.int .i64 y34.1.To)), (A.imm (List.map c8 y34.1.Data) false)], Blk.box [(A.imm (List.map c_S_Packet y34.2.1.Queue) false), (A.imm (List.map c_A2_int_i64 y34.2.1.Apart) false)], Blk.row false 3 (List.map c_S_Packet y45)]) (b := 1) (es := 3) (l := v30) fl_S_Packet rfl, snapG_row (H := [Blk.box [(A.imm (List.map c_S_Packet y34.2.1.Queue) false), (A.imm (List.map c_A2_int_i64 y34.2.1.Apart) false)], Blk.row false 3 (List.map c_S_Packet v30), Blk.box [(A.v (Value.int .i64 y34.1.From)), (A.v (Value.int .i64 y34.1.To)), (A.imm (List.map c8 y34.1.Data) false)], Blk.box [(A.imm (List.map c_S_Packet y34.2.1.Queue) false), (A.imm (List.map c_A2_int_i64 y34.2.1.Apart) false)], Blk.row false 3 (List.map c_S_Packet y45)]) (b := 4) (es := 3) (l := y45) fl_S_Packet rfl]; kernel_rfl : _ = (bif underss 2 (List.map c8 v24) then (bif underss 2 (List.map c_S_Packet y45) then true else false) else false)).trans (by simp only [underss_map, fu_cI, fu_c8, fu_cB, fu_cS, fu_cL, fu_S_Packet, fu_A2_int_i64, fu_S_Net, fu_S_kinespherelaw06_Move,  Bool.and_true, Bool.true_and, cond_true])) ?_
            refine .lp (congrArg (fun z => loopR (cx C) (evCall (cx C) (n+8)) (evCallY (cx C) (n+8)) (n+8) 4 0 1 2 kx kg kr kp m (St.mk [(1, (A.imm (List.map c8 v24) false)), (4, (A.v (Value.bool v25))), (5, (A.ptr 0 0)), (6, z), (10, (A.v (Value.int .i64 (wr .i64 (v27 + 1)))))] [Blk.box [(A.imm (List.map c_S_Packet y34.2.1.Queue) false), (A.imm (List.map c_A2_int_i64 y34.2.1.Apart) false)], Blk.row false 3 (List.map c_S_Packet v30)])) (show frz [Blk.box [(A.imm (List.map c_S_Packet y34.2.1.Queue) false), (A.imm (List.map c_A2_int_i64 y34.2.1.Apart) false)], Blk.row false 3 (List.map c_S_Packet v30), Blk.box [(A.v (Value.int .i64 y34.1.From)), (A.v (Value.int .i64 y34.1.To)), (A.imm (List.map c8 y34.1.Data) false)], Blk.box [(A.imm (List.map c_S_Packet y34.2.1.Queue) false), (A.imm (List.map c_A2_int_i64 y34.2.1.Apart) false)], Blk.row false 3 (List.map c_S_Packet y45)] (A.sl 4 0 y45.length false) = (A.imm (List.map c_S_Packet y45) false) from by simp only [frz, frzC, snap, snapW, snapWs, snapWss, snapWss_map, trim, List.map_cons, List.map_nil, fl_cI, fl_c8, fl_cB, fl_cS, fl_cL, fl_S_Packet, fl_A2_int_i64, fl_S_Net, fl_S_kinespherelaw06_Move, snapG_row (H := [Blk.box [(A.imm (List.map c_S_Packet y34.2.1.Queue) false), (A.imm (List.map c_A2_int_i64 y34.2.1.Apart) false)], Blk.row false 3 (List.map c_S_Packet v30), Blk.box [(A.v (Value.int .i64 y34.1.From)), (A.v (Value.int .i64 y34.1.To)), (A.imm (List.map c8 y34.1.Data) false)], Blk.box [(A.imm (List.map c_S_Packet y34.2.1.Queue) false), (A.imm (List.map c_A2_int_i64 y34.2.1.Apart) false)], Blk.row false 3 (List.map c_S_Packet y45)]) (b := 1) (es := 3) (l := v30) fl_S_Packet rfl, snapG_row (H := [Blk.box [(A.imm (List.map c_S_Packet y34.2.1.Queue) false), (A.imm (List.map c_A2_int_i64 y34.2.1.Apart) false)], Blk.row false 3 (List.map c_S_Packet v30), Blk.box [(A.v (Value.int .i64 y34.1.From)), (A.v (Value.int .i64 y34.1.To)), (A.imm (List.map c8 y34.1.Data) false)], Blk.box [(A.imm (List.map c_S_Packet y34.2.1.Queue) false), (A.imm (List.map c_A2_int_i64 y34.2.1.Apart) false)], Blk.row false 3 (List.map c_S_Packet y45)]) (b := 4) (es := 3) (l := y45) fl_S_Packet rfl])) ?_
            exact ih _ _ _ _
        · refine .bb ?_
          refine .cr ?_
          iterate 5 refine .uc ?_
          refine .bg (fun t (y : Bool) => ∃ j47 j48 : A, t = [(A.v (Value.bool y)), j47, j48]) ?_ ?_
          · refine .bKT hc35 ?_
            exact .lg ⟨_, _, rfl⟩
          rintro _ y46 ⟨j47, j48, rfl⟩
          iterate 3 refine .uc ?_
          refine .biH (fun hk49 => ?_) (fun hk49 => ?_)
          · exact .ex (x0 _ _ _ _ _ _ _ _ _ _ _ _)
          · refine .st (v := (A.agg [(A.imm (List.map c_S_Packet y34.2.1.Queue) false), (A.imm (List.map c_A2_int_i64 y34.2.1.Apart) false)])) (by kernel_rfl) ?_
            refine .st (v := [Blk.box [(A.imm (List.map c_S_Packet y34.2.1.Queue) false), (A.imm (List.map c_A2_int_i64 y34.2.1.Apart) false)], Blk.row false 3 (List.map c_S_Packet v30), Blk.box [(A.v (Value.int .i64 y34.1.From)), (A.v (Value.int .i64 y34.1.To)), (A.imm (List.map c8 y34.1.Data) false)], Blk.box [(A.imm (List.map c_S_Packet y34.2.1.Queue) false), (A.imm (List.map c_A2_int_i64 y34.2.1.Apart) false)]]) (by kernel_rfl) ?_
            refine .st (v := (A.imm [] true)) (by kernel_rfl) ?_
            refine .bd (g := fun (y : List S_Packet) => (A.imm (List.map c_S_Packet y) false)) (cut_imm (e := 28) (es := 3) (f := c_S_Packet) (l := v26) (a := 0) (b := Int.tmod (wr .i64 ((y33.toNat : Int))) ((v26.length : Int))) (by kernel_rfl) (by kernel_rfl) (fun _ => rfl) (.inl ⟨rfl, rfl⟩) (.inr ⟨_, rfl⟩)) fun y50 => ?_
            refine .bd (g := fun (y : List S_Packet) => ((A.sl 4 0 y.length false), [Blk.box [(A.imm (List.map c_S_Packet y34.2.1.Queue) false), (A.imm (List.map c_A2_int_i64 y34.2.1.Apart) false)], Blk.row false 3 (List.map c_S_Packet v30), Blk.box [(A.v (Value.int .i64 y34.1.From)), (A.v (Value.int .i64 y34.1.To)), (A.imm (List.map c8 y34.1.Data) false)], Blk.box [(A.imm (List.map c_S_Packet y34.2.1.Queue) false), (A.imm (List.map c_A2_int_i64 y34.2.1.Apart) false)], Blk.row false 3 (List.map c_S_Packet y)])) (app_imm (e := 28) (es := 3) (by_ := 40) (z := [(A.v (Value.int .i64 0)), (A.v (Value.int .i64 0)), (A.imm [] true)]) (by kernel_rfl) (by kernel_rfl) (by kernel_rfl) (by kernel_rfl) rfl (by decide) (by decide) (by kernel_rfl) (f := c_S_Packet) (fun _ => rfl) ce_S_Packet (l := []) (l2 := y50) (els_imm ..)) fun y51 => ?_
            refine .st (v := (A.v (Value.int .i64 (wr .i64 ((Int.tmod (wr .i64 ((y33.toNat : Int))) ((v26.length : Int))) + 1))))) (aBin_add ..) ?_
            refine .cT (by kernel_rfl) ?_
            refine .bd (g := fun (y : List S_Packet) => (A.imm (List.map c_S_Packet y) false)) (cut_imm (e := 28) (es := 3) (f := c_S_Packet) (l := v26) (a := wr .i64 ((Int.tmod (wr .i64 ((y33.toNat : Int))) ((v26.length : Int))) + 1)) (b := (v26.length : Int)) (by kernel_rfl) (by kernel_rfl) (fun _ => rfl) (.inr ⟨_, rfl⟩) (.inl ⟨rfl, rfl⟩)) fun y52 => ?_
            refine .bd (g := fun (y : List S_Packet) => ((A.sl 4 0 y.length false), [Blk.box [(A.imm (List.map c_S_Packet y34.2.1.Queue) false), (A.imm (List.map c_A2_int_i64 y34.2.1.Apart) false)], Blk.row false 3 (List.map c_S_Packet v30), Blk.box [(A.v (Value.int .i64 y34.1.From)), (A.v (Value.int .i64 y34.1.To)), (A.imm (List.map c8 y34.1.Data) false)], Blk.box [(A.imm (List.map c_S_Packet y34.2.1.Queue) false), (A.imm (List.map c_A2_int_i64 y34.2.1.Apart) false)], Blk.row false 3 (List.map c_S_Packet y)])) (app_row (e := 28) (es := 3) (by_ := 40) (z := [(A.v (Value.int .i64 0)), (A.v (Value.int .i64 0)), (A.imm [] true)]) (by kernel_rfl) (by kernel_rfl) (by kernel_rfl) (by kernel_rfl) rfl (by decide) (by decide) (by kernel_rfl) (f := c_S_Packet) (fun _ => rfl) ce_S_Packet (l := y51) (l2 := y52) (b := 4) rfl (by decide) (els_imm ..)) fun y53 => ?_
            refine .st (v := (A.v (Value.int .i64 (wr .i64 (v27 + 1))))) (aBin_add ..) ?_
            refine .st (v := [Blk.box [(A.imm (List.map c_S_Packet y34.2.1.Queue) false), (A.imm (List.map c_A2_int_i64 y34.2.1.Apart) false)], Blk.row false 3 (List.map c_S_Packet v30)]) ((by kernel_rfl : _ = (bif ((((underss 2 (List.map c_S_Packet y34.2.1.Queue)) && ((underss 2 (List.map c_A2_int_i64 y34.2.1.Apart)) && true))) && ((underss 2 (List.map c_S_Packet v30)) && true)) then some [Blk.box [(A.imm (List.map c_S_Packet y34.2.1.Queue) false), (A.imm (List.map c_A2_int_i64 y34.2.1.Apart) false)], Blk.row false 3 (List.map c_S_Packet v30)] else none)).trans (by simp only [underss_map, fu_cI, fu_c8, fu_cB, fu_cS, fu_cL, fu_S_Packet, fu_A2_int_i64, fu_S_Net, fu_S_kinespherelaw06_Move,  Bool.and_true, Bool.true_and, cond_true])) ?_
            refine .cT ((by simp only [frz, frzC, snap, snapW, snapWs, snapWss, snapWss_map, trim, List.map_cons, List.map_nil, fl_cI, fl_c8, fl_cB, fl_cS, fl_cL, fl_S_Packet, fl_A2_int_i64, fl_S_Net, fl_S_kinespherelaw06_Move, snapG_row (H := [Blk.box [(A.imm (List.map c_S_Packet y34.2.1.Queue) false), (A.imm (List.map c_A2_int_i64 y34.2.1.Apart) false)], Blk.row false 3 (List.map c_S_Packet v30), Blk.box [(A.v (Value.int .i64 y34.1.From)), (A.v (Value.int .i64 y34.1.To)), (A.imm (List.map c8 y34.1.Data) false)], Blk.box [(A.imm (List.map c_S_Packet y34.2.1.Queue) false), (A.imm (List.map c_A2_int_i64 y34.2.1.Apart) false)], Blk.row false 3 (List.map c_S_Packet y53)]) (b := 1) (es := 3) (l := v30) fl_S_Packet rfl, snapG_row (H := [Blk.box [(A.imm (List.map c_S_Packet y34.2.1.Queue) false), (A.imm (List.map c_A2_int_i64 y34.2.1.Apart) false)], Blk.row false 3 (List.map c_S_Packet v30), Blk.box [(A.v (Value.int .i64 y34.1.From)), (A.v (Value.int .i64 y34.1.To)), (A.imm (List.map c8 y34.1.Data) false)], Blk.box [(A.imm (List.map c_S_Packet y34.2.1.Queue) false), (A.imm (List.map c_A2_int_i64 y34.2.1.Apart) false)], Blk.row false 3 (List.map c_S_Packet y53)]) (b := 4) (es := 3) (l := y53) fl_S_Packet rfl]; kernel_rfl : _ = (bif underss 2 (List.map c8 v24) then (bif underss 2 (List.map c_S_Packet y53) then true else false) else false)).trans (by simp only [underss_map, fu_cI, fu_c8, fu_cB, fu_cS, fu_cL, fu_S_Packet, fu_A2_int_i64, fu_S_Net, fu_S_kinespherelaw06_Move,  Bool.and_true, Bool.true_and, cond_true])) ?_
            refine .lp (congrArg (fun z => loopR (cx C) (evCall (cx C) (n+8)) (evCallY (cx C) (n+8)) (n+8) 4 0 1 2 kx kg kr kp m (St.mk [(1, (A.imm (List.map c8 v24) false)), (4, (A.v (Value.bool v25))), (5, (A.ptr 0 0)), (6, z), (10, (A.v (Value.int .i64 (wr .i64 (v27 + 1)))))] [Blk.box [(A.imm (List.map c_S_Packet y34.2.1.Queue) false), (A.imm (List.map c_A2_int_i64 y34.2.1.Apart) false)], Blk.row false 3 (List.map c_S_Packet v30)])) (show frz [Blk.box [(A.imm (List.map c_S_Packet y34.2.1.Queue) false), (A.imm (List.map c_A2_int_i64 y34.2.1.Apart) false)], Blk.row false 3 (List.map c_S_Packet v30), Blk.box [(A.v (Value.int .i64 y34.1.From)), (A.v (Value.int .i64 y34.1.To)), (A.imm (List.map c8 y34.1.Data) false)], Blk.box [(A.imm (List.map c_S_Packet y34.2.1.Queue) false), (A.imm (List.map c_A2_int_i64 y34.2.1.Apart) false)], Blk.row false 3 (List.map c_S_Packet y53)] (A.sl 4 0 y53.length false) = (A.imm (List.map c_S_Packet y53) false) from by simp only [frz, frzC, snap, snapW, snapWs, snapWss, snapWss_map, trim, List.map_cons, List.map_nil, fl_cI, fl_c8, fl_cB, fl_cS, fl_cL, fl_S_Packet, fl_A2_int_i64, fl_S_Net, fl_S_kinespherelaw06_Move, snapG_row (H := [Blk.box [(A.imm (List.map c_S_Packet y34.2.1.Queue) false), (A.imm (List.map c_A2_int_i64 y34.2.1.Apart) false)], Blk.row false 3 (List.map c_S_Packet v30), Blk.box [(A.v (Value.int .i64 y34.1.From)), (A.v (Value.int .i64 y34.1.To)), (A.imm (List.map c8 y34.1.Data) false)], Blk.box [(A.imm (List.map c_S_Packet y34.2.1.Queue) false), (A.imm (List.map c_A2_int_i64 y34.2.1.Apart) false)], Blk.row false 3 (List.map c_S_Packet y53)]) (b := 1) (es := 3) (l := v30) fl_S_Packet rfl, snapG_row (H := [Blk.box [(A.imm (List.map c_S_Packet y34.2.1.Queue) false), (A.imm (List.map c_A2_int_i64 y34.2.1.Apart) false)], Blk.row false 3 (List.map c_S_Packet v30), Blk.box [(A.v (Value.int .i64 y34.1.From)), (A.v (Value.int .i64 y34.1.To)), (A.imm (List.map c8 y34.1.Data) false)], Blk.box [(A.imm (List.map c_S_Packet y34.2.1.Queue) false), (A.imm (List.map c_A2_int_i64 y34.2.1.Apart) false)], Blk.row false 3 (List.map c_S_Packet y53)]) (b := 4) (es := 3) (l := y53) fl_S_Packet rfl])) ?_
            exact ih _ _ _ _
      · refine .st (v := (A.agg [(A.imm (List.map c_S_Packet v28) false), (A.imm (List.map c_A2_int_i64 v29) false)])) (by kernel_rfl) ?_
        refine .bd (g := fun (y : (S_Packet × S_Net × Int)) => (A.tup [(A.agg [(A.v (Value.int .i64 y.1.From)), (A.v (Value.int .i64 y.1.To)), (A.imm (List.map c8 y.1.Data) false)]), (A.agg [(A.imm (List.map c_S_Packet y.2.1.Queue) false), (A.imm (List.map c_A2_int_i64 y.2.1.Apart) false)]), (A.v (Value.int .i64 y.2.2))])) (by simp only [snap, snapW, snapWs, snapWss, snapWss_map, trim, List.map_cons, List.map_nil, fl_cI, fl_c8, fl_cB, fl_cS, fl_cL, fl_S_Packet, fl_A2_int_i64, fl_S_Net, fl_S_kinespherelaw06_Move, snapG_row (H := [Blk.box [(A.imm (List.map c_S_Packet v28) false), (A.imm (List.map c_A2_int_i64 v29) false)], Blk.row false 3 (List.map c_S_Packet v30)]) (b := 1) (es := 3) (l := v30) fl_S_Packet rfl]; exact h18 ((S_Net.mk v28 v29)) 0) fun y54 => ?_
        refine .st (v := (A.agg [(A.v (Value.int .i64 y54.1.From)), (A.v (Value.int .i64 y54.1.To)), (A.imm (List.map c8 y54.1.Data) false)])) (by kernel_rfl) ?_
        refine .st (v := (A.agg [(A.imm (List.map c_S_Packet y54.2.1.Queue) false), (A.imm (List.map c_A2_int_i64 y54.2.1.Apart) false)])) (by kernel_rfl) ?_
        refine .st (v := (A.v (Value.int .i64 y54.2.2))) (by kernel_rfl) ?_
        refine .st (v := ((A.ptr 2 0), [Blk.box [(A.imm (List.map c_S_Packet v28) false), (A.imm (List.map c_A2_int_i64 v29) false)], Blk.row false 3 (List.map c_S_Packet v30), Blk.box [(A.v (Value.int .i64 0)), (A.v (Value.int .i64 0)), (A.imm [] true)]])) (by kernel_rfl) ?_
        refine .st (v := ((A.ptr 3 0), [Blk.box [(A.imm (List.map c_S_Packet v28) false), (A.imm (List.map c_A2_int_i64 v29) false)], Blk.row false 3 (List.map c_S_Packet v30), Blk.box [(A.v (Value.int .i64 0)), (A.v (Value.int .i64 0)), (A.imm [] true)], Blk.box [(A.imm [] true), (A.imm [] true)]])) (by kernel_rfl) ?_
        refine .st (v := [Blk.box [(A.imm (List.map c_S_Packet v28) false), (A.imm (List.map c_A2_int_i64 v29) false)], Blk.row false 3 (List.map c_S_Packet v30), Blk.box [(A.v (Value.int .i64 y54.1.From)), (A.v (Value.int .i64 y54.1.To)), (A.imm (List.map c8 y54.1.Data) false)], Blk.box [(A.imm [] true), (A.imm [] true)]]) (by kernel_rfl) ?_
        refine .st (v := [Blk.box [(A.imm (List.map c_S_Packet v28) false), (A.imm (List.map c_A2_int_i64 v29) false)], Blk.row false 3 (List.map c_S_Packet v30), Blk.box [(A.v (Value.int .i64 y54.1.From)), (A.v (Value.int .i64 y54.1.To)), (A.imm (List.map c8 y54.1.Data) false)], Blk.box [(A.imm (List.map c_S_Packet y54.2.1.Queue) false), (A.imm (List.map c_A2_int_i64 y54.2.1.Apart) false)]]) (by kernel_rfl) ?_
        refine .st (v := (A.v (Value.bool (y54.2.2 != 0)))) (aBin_neq ..) ?_
        refine .gsf (fun hc55 => ?_) (fun hc55 => ?_)
        · refine .bb ?_
          refine .st (v := (A.agg [(A.v (Value.int .i64 y54.1.From)), (A.v (Value.int .i64 y54.1.To)), (A.imm (List.map c8 y54.1.Data) false)])) (by kernel_rfl) ?_
          refine .bd (g := fun (y : S_Packet) => A.ip (c_S_Packet y)) (idx_imm (e := 28) (es := 3) (h1 := by kernel_rfl) (h2 := by kernel_rfl) (h3 := fun _ => rfl) ..) fun y56 => ?_
          refine .st (v := (A.agg [(A.v (Value.int .i64 y56.From)), (A.v (Value.int .i64 y56.To)), (A.imm (List.map c8 y56.Data) false)])) (by kernel_rfl) ?_
          refine .cr ?_
          iterate 5 refine .uc ?_
          refine .bg (fun t (y : Bool) => ∃ j59 j60 : A, t = [(A.v (Value.bool y)), j59, j60]) ?_ ?_
          · refine .bKF hc55 ?_
            refine .bd (g := fun (y : Bool) => (A.v (Value.bool y))) (by simp only [snap, snapW, snapWs, snapWss, snapWss_map, trim, List.map_cons, List.map_nil, fl_cI, fl_c8, fl_cB, fl_cS, fl_cL, fl_S_Packet, fl_A2_int_i64, fl_S_Net, fl_S_kinespherelaw06_Move, snapG_row (H := [Blk.box [(A.imm (List.map c_S_Packet v28) false), (A.imm (List.map c_A2_int_i64 v29) false)], Blk.row false 3 (List.map c_S_Packet v30), Blk.box [(A.v (Value.int .i64 y54.1.From)), (A.v (Value.int .i64 y54.1.To)), (A.imm (List.map c8 y54.1.Data) false)], Blk.box [(A.imm (List.map c_S_Packet y54.2.1.Queue) false), (A.imm (List.map c_A2_int_i64 y54.2.1.Apart) false)]]) (b := 1) (es := 3) (l := v30) fl_S_Packet rfl]; exact h19 y54.1 y56) fun y57 => ?_
            refine .st (v := (A.v (Value.bool (!y57)))) (by kernel_rfl) ?_
            exact .lg ⟨_, _, rfl⟩
          rintro _ y58 ⟨j59, j60, rfl⟩
          iterate 3 refine .uc ?_
          refine .biH (fun hk61 => ?_) (fun hk61 => ?_)
          · exact .ex (x0 _ _ _ _ _ _ _ _ _ _ _ _)
          · refine .st (v := (A.agg [(A.imm (List.map c_S_Packet y54.2.1.Queue) false), (A.imm (List.map c_A2_int_i64 y54.2.1.Apart) false)])) (by kernel_rfl) ?_
            refine .st (v := [Blk.box [(A.imm (List.map c_S_Packet y54.2.1.Queue) false), (A.imm (List.map c_A2_int_i64 y54.2.1.Apart) false)], Blk.row false 3 (List.map c_S_Packet v30), Blk.box [(A.v (Value.int .i64 y54.1.From)), (A.v (Value.int .i64 y54.1.To)), (A.imm (List.map c8 y54.1.Data) false)], Blk.box [(A.imm (List.map c_S_Packet y54.2.1.Queue) false), (A.imm (List.map c_A2_int_i64 y54.2.1.Apart) false)]]) (by kernel_rfl) ?_
            refine .st (v := (A.imm [] true)) (by kernel_rfl) ?_
            refine .bd (g := fun (y : List S_Packet) => (A.imm (List.map c_S_Packet y) false)) (cut_imm (e := 28) (es := 3) (f := c_S_Packet) (l := v26) (a := 0) (b := 0) (by kernel_rfl) (by kernel_rfl) (fun _ => rfl) (.inl ⟨rfl, rfl⟩) (.inr ⟨_, rfl⟩)) fun y62 => ?_
            refine .bd (g := fun (y : List S_Packet) => ((A.sl 4 0 y.length false), [Blk.box [(A.imm (List.map c_S_Packet y54.2.1.Queue) false), (A.imm (List.map c_A2_int_i64 y54.2.1.Apart) false)], Blk.row false 3 (List.map c_S_Packet v30), Blk.box [(A.v (Value.int .i64 y54.1.From)), (A.v (Value.int .i64 y54.1.To)), (A.imm (List.map c8 y54.1.Data) false)], Blk.box [(A.imm (List.map c_S_Packet y54.2.1.Queue) false), (A.imm (List.map c_A2_int_i64 y54.2.1.Apart) false)], Blk.row false 3 (List.map c_S_Packet y)])) (app_imm (e := 28) (es := 3) (by_ := 40) (z := [(A.v (Value.int .i64 0)), (A.v (Value.int .i64 0)), (A.imm [] true)]) (by kernel_rfl) (by kernel_rfl) (by kernel_rfl) (by kernel_rfl) rfl (by decide) (by decide) (by kernel_rfl) (f := c_S_Packet) (fun _ => rfl) ce_S_Packet (l := []) (l2 := y62) (els_imm ..)) fun y63 => ?_
            refine .st (v := (A.v (Value.int .i64 1))) (by kernel_rfl) ?_
            refine .cT (by kernel_rfl) ?_
            refine .bd (g := fun (y : List S_Packet) => (A.imm (List.map c_S_Packet y) false)) (cut_imm (e := 28) (es := 3) (f := c_S_Packet) (l := v26) (a := 1) (b := (v26.length : Int)) (by kernel_rfl) (by kernel_rfl) (fun _ => rfl) (.inr ⟨_, rfl⟩) (.inl ⟨rfl, rfl⟩)) fun y64 => ?_
            refine .bd (g := fun (y : List S_Packet) => ((A.sl 4 0 y.length false), [Blk.box [(A.imm (List.map c_S_Packet y54.2.1.Queue) false), (A.imm (List.map c_A2_int_i64 y54.2.1.Apart) false)], Blk.row false 3 (List.map c_S_Packet v30), Blk.box [(A.v (Value.int .i64 y54.1.From)), (A.v (Value.int .i64 y54.1.To)), (A.imm (List.map c8 y54.1.Data) false)], Blk.box [(A.imm (List.map c_S_Packet y54.2.1.Queue) false), (A.imm (List.map c_A2_int_i64 y54.2.1.Apart) false)], Blk.row false 3 (List.map c_S_Packet y)])) (app_row (e := 28) (es := 3) (by_ := 40) (z := [(A.v (Value.int .i64 0)), (A.v (Value.int .i64 0)), (A.imm [] true)]) (by kernel_rfl) (by kernel_rfl) (by kernel_rfl) (by kernel_rfl) rfl (by decide) (by decide) (by kernel_rfl) (f := c_S_Packet) (fun _ => rfl) ce_S_Packet (l := y63) (l2 := y64) (b := 4) rfl (by decide) (els_imm ..)) fun y65 => ?_
            refine .st (v := (A.v (Value.int .i64 (wr .i64 (v27 + 1))))) (aBin_add ..) ?_
            refine .st (v := [Blk.box [(A.imm (List.map c_S_Packet y54.2.1.Queue) false), (A.imm (List.map c_A2_int_i64 y54.2.1.Apart) false)], Blk.row false 3 (List.map c_S_Packet v30)]) ((by kernel_rfl : _ = (bif ((((underss 2 (List.map c_S_Packet y54.2.1.Queue)) && ((underss 2 (List.map c_A2_int_i64 y54.2.1.Apart)) && true))) && ((underss 2 (List.map c_S_Packet v30)) && true)) then some [Blk.box [(A.imm (List.map c_S_Packet y54.2.1.Queue) false), (A.imm (List.map c_A2_int_i64 y54.2.1.Apart) false)], Blk.row false 3 (List.map c_S_Packet v30)] else none)).trans (by simp only [underss_map, fu_cI, fu_c8, fu_cB, fu_cS, fu_cL, fu_S_Packet, fu_A2_int_i64, fu_S_Net, fu_S_kinespherelaw06_Move,  Bool.and_true, Bool.true_and, cond_true])) ?_
            refine .cT ((by simp only [frz, frzC, snap, snapW, snapWs, snapWss, snapWss_map, trim, List.map_cons, List.map_nil, fl_cI, fl_c8, fl_cB, fl_cS, fl_cL, fl_S_Packet, fl_A2_int_i64, fl_S_Net, fl_S_kinespherelaw06_Move, snapG_row (H := [Blk.box [(A.imm (List.map c_S_Packet y54.2.1.Queue) false), (A.imm (List.map c_A2_int_i64 y54.2.1.Apart) false)], Blk.row false 3 (List.map c_S_Packet v30), Blk.box [(A.v (Value.int .i64 y54.1.From)), (A.v (Value.int .i64 y54.1.To)), (A.imm (List.map c8 y54.1.Data) false)], Blk.box [(A.imm (List.map c_S_Packet y54.2.1.Queue) false), (A.imm (List.map c_A2_int_i64 y54.2.1.Apart) false)], Blk.row false 3 (List.map c_S_Packet y65)]) (b := 1) (es := 3) (l := v30) fl_S_Packet rfl, snapG_row (H := [Blk.box [(A.imm (List.map c_S_Packet y54.2.1.Queue) false), (A.imm (List.map c_A2_int_i64 y54.2.1.Apart) false)], Blk.row false 3 (List.map c_S_Packet v30), Blk.box [(A.v (Value.int .i64 y54.1.From)), (A.v (Value.int .i64 y54.1.To)), (A.imm (List.map c8 y54.1.Data) false)], Blk.box [(A.imm (List.map c_S_Packet y54.2.1.Queue) false), (A.imm (List.map c_A2_int_i64 y54.2.1.Apart) false)], Blk.row false 3 (List.map c_S_Packet y65)]) (b := 4) (es := 3) (l := y65) fl_S_Packet rfl]; kernel_rfl : _ = (bif underss 2 (List.map c8 v24) then (bif underss 2 (List.map c_S_Packet y65) then true else false) else false)).trans (by simp only [underss_map, fu_cI, fu_c8, fu_cB, fu_cS, fu_cL, fu_S_Packet, fu_A2_int_i64, fu_S_Net, fu_S_kinespherelaw06_Move,  Bool.and_true, Bool.true_and, cond_true])) ?_
            refine .lp (congrArg (fun z => loopR (cx C) (evCall (cx C) (n+8)) (evCallY (cx C) (n+8)) (n+8) 4 0 1 2 kx kg kr kp m (St.mk [(1, (A.imm (List.map c8 v24) false)), (4, (A.v (Value.bool v25))), (5, (A.ptr 0 0)), (6, z), (10, (A.v (Value.int .i64 (wr .i64 (v27 + 1)))))] [Blk.box [(A.imm (List.map c_S_Packet y54.2.1.Queue) false), (A.imm (List.map c_A2_int_i64 y54.2.1.Apart) false)], Blk.row false 3 (List.map c_S_Packet v30)])) (show frz [Blk.box [(A.imm (List.map c_S_Packet y54.2.1.Queue) false), (A.imm (List.map c_A2_int_i64 y54.2.1.Apart) false)], Blk.row false 3 (List.map c_S_Packet v30), Blk.box [(A.v (Value.int .i64 y54.1.From)), (A.v (Value.int .i64 y54.1.To)), (A.imm (List.map c8 y54.1.Data) false)], Blk.box [(A.imm (List.map c_S_Packet y54.2.1.Queue) false), (A.imm (List.map c_A2_int_i64 y54.2.1.Apart) false)], Blk.row false 3 (List.map c_S_Packet y65)] (A.sl 4 0 y65.length false) = (A.imm (List.map c_S_Packet y65) false) from by simp only [frz, frzC, snap, snapW, snapWs, snapWss, snapWss_map, trim, List.map_cons, List.map_nil, fl_cI, fl_c8, fl_cB, fl_cS, fl_cL, fl_S_Packet, fl_A2_int_i64, fl_S_Net, fl_S_kinespherelaw06_Move, snapG_row (H := [Blk.box [(A.imm (List.map c_S_Packet y54.2.1.Queue) false), (A.imm (List.map c_A2_int_i64 y54.2.1.Apart) false)], Blk.row false 3 (List.map c_S_Packet v30), Blk.box [(A.v (Value.int .i64 y54.1.From)), (A.v (Value.int .i64 y54.1.To)), (A.imm (List.map c8 y54.1.Data) false)], Blk.box [(A.imm (List.map c_S_Packet y54.2.1.Queue) false), (A.imm (List.map c_A2_int_i64 y54.2.1.Apart) false)], Blk.row false 3 (List.map c_S_Packet y65)]) (b := 1) (es := 3) (l := v30) fl_S_Packet rfl, snapG_row (H := [Blk.box [(A.imm (List.map c_S_Packet y54.2.1.Queue) false), (A.imm (List.map c_A2_int_i64 y54.2.1.Apart) false)], Blk.row false 3 (List.map c_S_Packet v30), Blk.box [(A.v (Value.int .i64 y54.1.From)), (A.v (Value.int .i64 y54.1.To)), (A.imm (List.map c8 y54.1.Data) false)], Blk.box [(A.imm (List.map c_S_Packet y54.2.1.Queue) false), (A.imm (List.map c_A2_int_i64 y54.2.1.Apart) false)], Blk.row false 3 (List.map c_S_Packet y65)]) (b := 4) (es := 3) (l := y65) fl_S_Packet rfl])) ?_
            exact ih _ _ _ _
        · refine .bb ?_
          refine .cr ?_
          iterate 5 refine .uc ?_
          refine .bg (fun t (y : Bool) => ∃ j67 j68 : A, t = [(A.v (Value.bool y)), j67, j68]) ?_ ?_
          · refine .bKT hc55 ?_
            exact .lg ⟨_, _, rfl⟩
          rintro _ y66 ⟨j67, j68, rfl⟩
          iterate 3 refine .uc ?_
          refine .biH (fun hk69 => ?_) (fun hk69 => ?_)
          · exact .ex (x0 _ _ _ _ _ _ _ _ _ _ _ _)
          · refine .st (v := (A.agg [(A.imm (List.map c_S_Packet y54.2.1.Queue) false), (A.imm (List.map c_A2_int_i64 y54.2.1.Apart) false)])) (by kernel_rfl) ?_
            refine .st (v := [Blk.box [(A.imm (List.map c_S_Packet y54.2.1.Queue) false), (A.imm (List.map c_A2_int_i64 y54.2.1.Apart) false)], Blk.row false 3 (List.map c_S_Packet v30), Blk.box [(A.v (Value.int .i64 y54.1.From)), (A.v (Value.int .i64 y54.1.To)), (A.imm (List.map c8 y54.1.Data) false)], Blk.box [(A.imm (List.map c_S_Packet y54.2.1.Queue) false), (A.imm (List.map c_A2_int_i64 y54.2.1.Apart) false)]]) (by kernel_rfl) ?_
            refine .st (v := (A.imm [] true)) (by kernel_rfl) ?_
            refine .bd (g := fun (y : List S_Packet) => (A.imm (List.map c_S_Packet y) false)) (cut_imm (e := 28) (es := 3) (f := c_S_Packet) (l := v26) (a := 0) (b := 0) (by kernel_rfl) (by kernel_rfl) (fun _ => rfl) (.inl ⟨rfl, rfl⟩) (.inr ⟨_, rfl⟩)) fun y70 => ?_
            refine .bd (g := fun (y : List S_Packet) => ((A.sl 4 0 y.length false), [Blk.box [(A.imm (List.map c_S_Packet y54.2.1.Queue) false), (A.imm (List.map c_A2_int_i64 y54.2.1.Apart) false)], Blk.row false 3 (List.map c_S_Packet v30), Blk.box [(A.v (Value.int .i64 y54.1.From)), (A.v (Value.int .i64 y54.1.To)), (A.imm (List.map c8 y54.1.Data) false)], Blk.box [(A.imm (List.map c_S_Packet y54.2.1.Queue) false), (A.imm (List.map c_A2_int_i64 y54.2.1.Apart) false)], Blk.row false 3 (List.map c_S_Packet y)])) (app_imm (e := 28) (es := 3) (by_ := 40) (z := [(A.v (Value.int .i64 0)), (A.v (Value.int .i64 0)), (A.imm [] true)]) (by kernel_rfl) (by kernel_rfl) (by kernel_rfl) (by kernel_rfl) rfl (by decide) (by decide) (by kernel_rfl) (f := c_S_Packet) (fun _ => rfl) ce_S_Packet (l := []) (l2 := y70) (els_imm ..)) fun y71 => ?_
            refine .st (v := (A.v (Value.int .i64 1))) (by kernel_rfl) ?_
            refine .cT (by kernel_rfl) ?_
            refine .bd (g := fun (y : List S_Packet) => (A.imm (List.map c_S_Packet y) false)) (cut_imm (e := 28) (es := 3) (f := c_S_Packet) (l := v26) (a := 1) (b := (v26.length : Int)) (by kernel_rfl) (by kernel_rfl) (fun _ => rfl) (.inr ⟨_, rfl⟩) (.inl ⟨rfl, rfl⟩)) fun y72 => ?_
            refine .bd (g := fun (y : List S_Packet) => ((A.sl 4 0 y.length false), [Blk.box [(A.imm (List.map c_S_Packet y54.2.1.Queue) false), (A.imm (List.map c_A2_int_i64 y54.2.1.Apart) false)], Blk.row false 3 (List.map c_S_Packet v30), Blk.box [(A.v (Value.int .i64 y54.1.From)), (A.v (Value.int .i64 y54.1.To)), (A.imm (List.map c8 y54.1.Data) false)], Blk.box [(A.imm (List.map c_S_Packet y54.2.1.Queue) false), (A.imm (List.map c_A2_int_i64 y54.2.1.Apart) false)], Blk.row false 3 (List.map c_S_Packet y)])) (app_row (e := 28) (es := 3) (by_ := 40) (z := [(A.v (Value.int .i64 0)), (A.v (Value.int .i64 0)), (A.imm [] true)]) (by kernel_rfl) (by kernel_rfl) (by kernel_rfl) (by kernel_rfl) rfl (by decide) (by decide) (by kernel_rfl) (f := c_S_Packet) (fun _ => rfl) ce_S_Packet (l := y71) (l2 := y72) (b := 4) rfl (by decide) (els_imm ..)) fun y73 => ?_
            refine .st (v := (A.v (Value.int .i64 (wr .i64 (v27 + 1))))) (aBin_add ..) ?_
            refine .st (v := [Blk.box [(A.imm (List.map c_S_Packet y54.2.1.Queue) false), (A.imm (List.map c_A2_int_i64 y54.2.1.Apart) false)], Blk.row false 3 (List.map c_S_Packet v30)]) ((by kernel_rfl : _ = (bif ((((underss 2 (List.map c_S_Packet y54.2.1.Queue)) && ((underss 2 (List.map c_A2_int_i64 y54.2.1.Apart)) && true))) && ((underss 2 (List.map c_S_Packet v30)) && true)) then some [Blk.box [(A.imm (List.map c_S_Packet y54.2.1.Queue) false), (A.imm (List.map c_A2_int_i64 y54.2.1.Apart) false)], Blk.row false 3 (List.map c_S_Packet v30)] else none)).trans (by simp only [underss_map, fu_cI, fu_c8, fu_cB, fu_cS, fu_cL, fu_S_Packet, fu_A2_int_i64, fu_S_Net, fu_S_kinespherelaw06_Move,  Bool.and_true, Bool.true_and, cond_true])) ?_
            refine .cT ((by simp only [frz, frzC, snap, snapW, snapWs, snapWss, snapWss_map, trim, List.map_cons, List.map_nil, fl_cI, fl_c8, fl_cB, fl_cS, fl_cL, fl_S_Packet, fl_A2_int_i64, fl_S_Net, fl_S_kinespherelaw06_Move, snapG_row (H := [Blk.box [(A.imm (List.map c_S_Packet y54.2.1.Queue) false), (A.imm (List.map c_A2_int_i64 y54.2.1.Apart) false)], Blk.row false 3 (List.map c_S_Packet v30), Blk.box [(A.v (Value.int .i64 y54.1.From)), (A.v (Value.int .i64 y54.1.To)), (A.imm (List.map c8 y54.1.Data) false)], Blk.box [(A.imm (List.map c_S_Packet y54.2.1.Queue) false), (A.imm (List.map c_A2_int_i64 y54.2.1.Apart) false)], Blk.row false 3 (List.map c_S_Packet y73)]) (b := 1) (es := 3) (l := v30) fl_S_Packet rfl, snapG_row (H := [Blk.box [(A.imm (List.map c_S_Packet y54.2.1.Queue) false), (A.imm (List.map c_A2_int_i64 y54.2.1.Apart) false)], Blk.row false 3 (List.map c_S_Packet v30), Blk.box [(A.v (Value.int .i64 y54.1.From)), (A.v (Value.int .i64 y54.1.To)), (A.imm (List.map c8 y54.1.Data) false)], Blk.box [(A.imm (List.map c_S_Packet y54.2.1.Queue) false), (A.imm (List.map c_A2_int_i64 y54.2.1.Apart) false)], Blk.row false 3 (List.map c_S_Packet y73)]) (b := 4) (es := 3) (l := y73) fl_S_Packet rfl]; kernel_rfl : _ = (bif underss 2 (List.map c8 v24) then (bif underss 2 (List.map c_S_Packet y73) then true else false) else false)).trans (by simp only [underss_map, fu_cI, fu_c8, fu_cB, fu_cS, fu_cL, fu_S_Packet, fu_A2_int_i64, fu_S_Net, fu_S_kinespherelaw06_Move,  Bool.and_true, Bool.true_and, cond_true])) ?_
            refine .lp (congrArg (fun z => loopR (cx C) (evCall (cx C) (n+8)) (evCallY (cx C) (n+8)) (n+8) 4 0 1 2 kx kg kr kp m (St.mk [(1, (A.imm (List.map c8 v24) false)), (4, (A.v (Value.bool v25))), (5, (A.ptr 0 0)), (6, z), (10, (A.v (Value.int .i64 (wr .i64 (v27 + 1)))))] [Blk.box [(A.imm (List.map c_S_Packet y54.2.1.Queue) false), (A.imm (List.map c_A2_int_i64 y54.2.1.Apart) false)], Blk.row false 3 (List.map c_S_Packet v30)])) (show frz [Blk.box [(A.imm (List.map c_S_Packet y54.2.1.Queue) false), (A.imm (List.map c_A2_int_i64 y54.2.1.Apart) false)], Blk.row false 3 (List.map c_S_Packet v30), Blk.box [(A.v (Value.int .i64 y54.1.From)), (A.v (Value.int .i64 y54.1.To)), (A.imm (List.map c8 y54.1.Data) false)], Blk.box [(A.imm (List.map c_S_Packet y54.2.1.Queue) false), (A.imm (List.map c_A2_int_i64 y54.2.1.Apart) false)], Blk.row false 3 (List.map c_S_Packet y73)] (A.sl 4 0 y73.length false) = (A.imm (List.map c_S_Packet y73) false) from by simp only [frz, frzC, snap, snapW, snapWs, snapWss, snapWss_map, trim, List.map_cons, List.map_nil, fl_cI, fl_c8, fl_cB, fl_cS, fl_cL, fl_S_Packet, fl_A2_int_i64, fl_S_Net, fl_S_kinespherelaw06_Move, snapG_row (H := [Blk.box [(A.imm (List.map c_S_Packet y54.2.1.Queue) false), (A.imm (List.map c_A2_int_i64 y54.2.1.Apart) false)], Blk.row false 3 (List.map c_S_Packet v30), Blk.box [(A.v (Value.int .i64 y54.1.From)), (A.v (Value.int .i64 y54.1.To)), (A.imm (List.map c8 y54.1.Data) false)], Blk.box [(A.imm (List.map c_S_Packet y54.2.1.Queue) false), (A.imm (List.map c_A2_int_i64 y54.2.1.Apart) false)], Blk.row false 3 (List.map c_S_Packet y73)]) (b := 1) (es := 3) (l := v30) fl_S_Packet rfl, snapG_row (H := [Blk.box [(A.imm (List.map c_S_Packet y54.2.1.Queue) false), (A.imm (List.map c_A2_int_i64 y54.2.1.Apart) false)], Blk.row false 3 (List.map c_S_Packet v30), Blk.box [(A.v (Value.int .i64 y54.1.From)), (A.v (Value.int .i64 y54.1.To)), (A.imm (List.map c8 y54.1.Data) false)], Blk.box [(A.imm (List.map c_S_Packet y54.2.1.Queue) false), (A.imm (List.map c_A2_int_i64 y54.2.1.Apart) false)], Blk.row false 3 (List.map c_S_Packet y73)]) (b := 4) (es := 3) (l := y73) fl_S_Packet rfl])) ?_
            exact ih _ _ _ _
    · exact .ex (x1 _ _ _ _ _ _)

def F4 (n : Nat) (a0 : (List S_Packet)) (a1 : (List UInt8)) : Option Bool :=
  Option.bind (G9 ) fun y1 => bif (!y1) then (some false) else (bif (decide (12 < ((a0.length : Int)))) then (some true) else (Option.bind (G16 ) fun y4 => Option.bind (F4_4_0 n a0 a1 false (n+8) 0 y4.Queue y4.Apart (([] : List S_Packet))) fun o18 => match o18 with | (y19, y20, y21) => Option.bind (F4_4_1 n a1 false y21 (n+8) y21 0 y19 y20) fun o74 => match o74 with | (Sum.inl ((y75, y76, y77, y78, y79, y80, y81, y82))) => some y75 | (Sum.inr ((y87, y88))) => some (((y87.length : Int)) == 0)))

theorem T4 (C : Nat → List A → Option A) (n : Nat) (h11 : Orc11 C) (h16 : Orc16 C) (h18 : Orc18 C) (h19 : Orc19 C) (h9 : Orc9 C) (a0 : (List S_Packet)) (a1 : (List UInt8)) : J (fun (o : R) y => ∃ v, o.1 = .ret v ∧ snap o.2 v = (A.v (Value.bool y))) (evCall1 (cx C) (evCall (cx C) (n+8)) (evCallY (cx C) (n+8)) (n+8) 4 [(A.imm (List.map c_S_Packet a0) false), (A.imm (List.map c8 a1) false)] [] 0) some (F4 n a0 a1) some := by
  refine .lp (e4 ..) ?_
  unfold F4
  refine .bd (g := fun (y : Bool) => (A.v (Value.bool y))) (h9 ()) fun y1 => ?_
  refine .st (v := (A.v (Value.bool (!y1)))) (by kernel_rfl) ?_
  refine .biH (fun hk2 => ?_) (fun hk2 => ?_)
  · exact .lf rfl rfl ⟨_, rfl, rfl⟩
  · refine .st (v := (A.v (Value.int .i64 ((a0.length : Int))))) (len_imm (e := 28) (h1 := by kernel_rfl) ..) ?_
    refine .st (v := (A.v (Value.bool (decide (12 < ((a0.length : Int))))))) (aBin_gtr ..) ?_
    refine .biH (fun hk3 => ?_) (fun hk3 => ?_)
    · exact .lf rfl rfl ⟨_, rfl, rfl⟩
    · refine .bd (g := fun (y : S_Net) => (A.agg [(A.imm (List.map c_S_Packet y.Queue) false), (A.imm (List.map c_A2_int_i64 y.Apart) false)])) (h16 ()) fun y4 => ?_
      refine .st (v := ((A.ptr 0 0), [Blk.box [(A.imm [] true), (A.imm [] true)]])) (by kernel_rfl) ?_
      refine .st (v := [Blk.box [(A.imm (List.map c_S_Packet y4.Queue) false), (A.imm (List.map c_A2_int_i64 y4.Apart) false)]]) (by kernel_rfl) ?_
      refine .as (T4_4_0 C n h11 h16 h18 h19 h9 a0 a1 false _ _ _ _ ?_ _ 0 y4.Queue y4.Apart (([] : List S_Packet)))
      · intro y19 y20 y21 j22 j23
        refine .un rfl ?_
        refine .cT (by kernel_rfl) ?_
        refine .lp (congrArg (fun z => loopR (cx C) _ _ _ _ _ _ _ _ _ _ _ _ (St.mk [(1, (A.imm (List.map c8 a1) false)), (4, (A.v (Value.bool false))), (5, (A.ptr 0 0)), (6, z), (10, (A.v (Value.int .i64 0)))] _)) (show frz [Blk.box [(A.imm (List.map c_S_Packet y19) false), (A.imm (List.map c_A2_int_i64 y20) false)], Blk.row false 3 (List.map c_S_Packet y21)] (A.sl 1 0 y21.length false) = (A.imm (List.map c_S_Packet y21) false) from by simp only [frz, frzC, snap, snapW, snapWs, snapWss, snapWss_map, trim, List.map_cons, List.map_nil, fl_cI, fl_c8, fl_cB, fl_cS, fl_cL, fl_S_Packet, fl_A2_int_i64, fl_S_Net, fl_S_kinespherelaw06_Move, snapG_row (H := [Blk.box [(A.imm (List.map c_S_Packet y19) false), (A.imm (List.map c_A2_int_i64 y20) false)], Blk.row false 3 (List.map c_S_Packet y21)]) (b := 1) (es := 3) (l := y21) fl_S_Packet rfl])) ?_
        refine .as (T4_4_1 C n h11 h16 h18 h19 h9 a1 false y21 _ _ _ _ ?_ ?_ _ y21 0 y19 y20)
        · intro y75 y76 y77 y78 y79 y80 y81 y82 j83 j84 j85 j86
          refine .un rfl ?_
          exact .lf rfl rfl ⟨_, rfl, rfl⟩
        · intro y87 y88 j89 j90 j91 j92
          refine .un rfl ?_
          refine .cT (by kernel_rfl) ?_
          refine .st (v := (A.ptr 0 0)) (by kernel_rfl) ?_
          refine .st (v := (A.imm (List.map c_S_Packet y87) false)) (by kernel_rfl) ?_
          refine .st (v := (A.v (Value.int .i64 ((y87.length : Int))))) (len_imm (e := 28) (h1 := by kernel_rfl) ..) ?_
          refine .st (v := (A.v (Value.bool (((y87.length : Int)) == 0)))) (aBin_eql ..) ?_
          exact .lf rfl rfl ⟨_, rfl, rfl⟩

def G4 (a0 : (List S_Packet)) (a1 : (List UInt8)) : Option Bool := F4 fuel0 a0 a1

def Orc4 (C : Nat → List A → Option A) : Prop := ∀ (a0 : (List S_Packet)) (a1 : (List UInt8)), C 4 [(A.imm (List.map c_S_Packet a0) false), (A.imm (List.map c8 a1) false)] = (G4 a0 a1).map fun y => (A.v (Value.bool y))

def F5 (n : Nat) (a0 : S_Net) (a1 : Int) (a2 : Int) (a3 : Int) : Option Bool :=
  Option.bind (G9 ) fun y1 => bif (!y1) then (some false) else (Option.bind (G10 a0) fun y3 => Option.bind (bif (!y3) then (some true) else (Option.bind (G13 a0) fun y5 => some (y5 != 0))) fun y6 => bif y6 then (some true) else (Option.bind (G20 a0 a1 a2 true) fun y11 => bif (y11.2 != 0) then (some (y11.2 == 1)) else (Option.bind (G20 a0 a2 a1 true) fun y13 => Option.bind (G20 y11.1 a1 a2 true) fun y14 => Option.bind (G20 y11.1 a2 a1 false) fun y15 => Option.bind (G20 a0 a1 a2 false) fun y16 => Option.bind (bif (y13.2 != 0) then (some true) else (some (y14.2 != 0))) fun y18 => Option.bind (bif y18 then (some true) else (some (y15.2 != 0))) fun y22 => Option.bind (bif y22 then (some true) else (some (y16.2 != 0))) fun y26 => Option.bind (bif y26 then (some true) else (Option.bind (G15 y11.1 y13.1) fun y30 => some (!y30))) fun y31 => Option.bind (bif y31 then (some true) else (Option.bind (G15 y11.1 y14.1) fun y37 => some (!y37))) fun y38 => Option.bind (bif y38 then (some true) else (Option.bind (G15 y15.1 y16.1) fun y44 => some (!y44))) fun y45 => Option.bind (bif y45 then (some true) else (some (((y11.1.Apart.length : Int)) != (wr .i64 (((y16.1.Apart.length : Int)) + 1))))) fun y51 => bif y51 then (some false) else (bif (((a0.Queue.length : Int)) == 0) then (some true) else (bif decide ((wr .u64 ((a0.Queue.length : Int))) ≠ 0) then (Option.bind (G18 y11.1 (wr .i64 (Int.tmod a3 (wr .u64 ((a0.Queue.length : Int)))))) fun y62 => Option.bind (G18 y16.1 (wr .i64 (Int.tmod a3 (wr .u64 ((a0.Queue.length : Int)))))) fun y63 => Option.bind (bif (y63.1.From == a1) then (some (y63.1.To == a2)) else (some false)) fun y65 => Option.bind (bif y65 then (some true) else (Option.bind (bif (y63.1.From == a2) then (some (y63.1.To == a1)) else (some false)) fun y72 => some y72)) fun y77 => Option.bind (bif (y62.2.2 == 0) then (some (y63.2.2 == 0)) else (some false)) fun y89 => Option.bind (bif y89 then (Option.bind (G19 y62.1 ((S_Packet.mk 0 0 ([])))) fun y93 => Option.bind (bif y77 then (some true) else (Option.bind (G19 y63.1 ((S_Packet.mk 0 0 ([])))) fun y95 => some y95)) fun y96 => some (y93 == y96)) else (some false)) fun y100 => Option.bind (bif y100 then (Option.bind (bif y77 then (some true) else (Option.bind (G19 y62.1 y63.1) fun y113 => some y113)) fun y114 => some y114) else (some false)) fun y118 => some y118) else none)))))

theorem T5 (C : Nat → List A → Option A) (n : Nat) (h10 : Orc10 C) (h13 : Orc13 C) (h15 : Orc15 C) (h18 : Orc18 C) (h19 : Orc19 C) (h20 : Orc20 C) (h9 : Orc9 C) (a0 : S_Net) (a1 : Int) (a2 : Int) (a3 : Int) : J (fun (o : R) y => ∃ v, o.1 = .ret v ∧ snap o.2 v = (A.v (Value.bool y))) (evCall1 (cx C) (evCall (cx C) (n+8)) (evCallY (cx C) (n+8)) (n+8) 5 [(A.agg [(A.imm (List.map c_S_Packet a0.Queue) false), (A.imm (List.map c_A2_int_i64 a0.Apart) false)]), (A.v (Value.int .i64 a1)), (A.v (Value.int .i64 a2)), (A.v (Value.int .u64 a3))] [] 0) some (F5 n a0 a1 a2 a3) some := by
  refine .lp (e5 ..) ?_
  unfold F5
  refine .st (v := ((A.ptr 0 0), [Blk.box [(A.imm (List.map c_S_Packet a0.Queue) false), (A.imm (List.map c_A2_int_i64 a0.Apart) false)]])) (by kernel_rfl) ?_
  refine .bd (g := fun (y : Bool) => (A.v (Value.bool y))) (h9 ()) fun y1 => ?_
  refine .st (v := (A.v (Value.bool (!y1)))) (by kernel_rfl) ?_
  refine .biH (fun hk2 => ?_) (fun hk2 => ?_)
  · exact .lf rfl rfl ⟨_, rfl, rfl⟩
  · refine .st (v := (A.agg [(A.imm (List.map c_S_Packet a0.Queue) false), (A.imm (List.map c_A2_int_i64 a0.Apart) false)])) (by kernel_rfl) ?_
    refine .bd (g := fun (y : Bool) => (A.v (Value.bool y))) (by simp only [snap, snapW, snapWs, snapWss, snapWss_map, trim, List.map_cons, List.map_nil, fl_cI, fl_c8, fl_cB, fl_cS, fl_cL, fl_S_Packet, fl_A2_int_i64, fl_S_Net, fl_S_kinespherelaw06_Move]; exact h10 a0) fun y3 => ?_
    refine .st (v := (A.v (Value.bool (!y3)))) (by kernel_rfl) ?_
    refine .bg (fun t (y : Bool) => ∃ j7 j8 j9 : A, t = [(A.v (Value.bool y)), j7, j8, j9]) ?_ ?_
    · refine .biH (fun hk4 => ?_) (fun hk4 => ?_)
      · exact .lg ⟨_, _, _, rfl⟩
      · refine .st (v := (A.agg [(A.imm (List.map c_S_Packet a0.Queue) false), (A.imm (List.map c_A2_int_i64 a0.Apart) false)])) (by kernel_rfl) ?_
        refine .bd (g := fun (y : Int) => (A.v (Value.int .i64 y))) (by simp only [snap, snapW, snapWs, snapWss, snapWss_map, trim, List.map_cons, List.map_nil, fl_cI, fl_c8, fl_cB, fl_cS, fl_cL, fl_S_Packet, fl_A2_int_i64, fl_S_Net, fl_S_kinespherelaw06_Move]; exact h13 a0) fun y5 => ?_
        refine .st (v := (A.v (Value.bool (y5 != 0)))) (aBin_neq ..) ?_
        exact .lg ⟨_, _, _, rfl⟩
    rintro _ y6 ⟨j7, j8, j9, rfl⟩
    iterate 4 refine .uc ?_
    refine .biH (fun hk10 => ?_) (fun hk10 => ?_)
    · exact .lf rfl rfl ⟨_, rfl, rfl⟩
    · refine .st (v := (A.agg [(A.imm (List.map c_S_Packet a0.Queue) false), (A.imm (List.map c_A2_int_i64 a0.Apart) false)])) (by kernel_rfl) ?_
      refine .bd (g := fun (y : (S_Net × Int)) => (A.tup [(A.agg [(A.imm (List.map c_S_Packet y.1.Queue) false), (A.imm (List.map c_A2_int_i64 y.1.Apart) false)]), (A.v (Value.int .i64 y.2))])) (by simp only [snap, snapW, snapWs, snapWss, snapWss_map, trim, List.map_cons, List.map_nil, fl_cI, fl_c8, fl_cB, fl_cS, fl_cL, fl_S_Packet, fl_A2_int_i64, fl_S_Net, fl_S_kinespherelaw06_Move]; exact h20 a0 a1 a2 true) fun y11 => ?_
      refine .st (v := (A.agg [(A.imm (List.map c_S_Packet y11.1.Queue) false), (A.imm (List.map c_A2_int_i64 y11.1.Apart) false)])) (by kernel_rfl) ?_
      refine .st (v := (A.v (Value.int .i64 y11.2))) (by kernel_rfl) ?_
      refine .st (v := ((A.ptr 1 0), [Blk.box [(A.imm (List.map c_S_Packet a0.Queue) false), (A.imm (List.map c_A2_int_i64 a0.Apart) false)], Blk.box [(A.imm [] true), (A.imm [] true)]])) (by kernel_rfl) ?_
      refine .st (v := [Blk.box [(A.imm (List.map c_S_Packet a0.Queue) false), (A.imm (List.map c_A2_int_i64 a0.Apart) false)], Blk.box [(A.imm (List.map c_S_Packet y11.1.Queue) false), (A.imm (List.map c_A2_int_i64 y11.1.Apart) false)]]) (by kernel_rfl) ?_
      refine .st (v := (A.v (Value.bool (y11.2 != 0)))) (aBin_neq ..) ?_
      refine .biH (fun hk12 => ?_) (fun hk12 => ?_)
      · refine .st (v := (A.v (Value.bool (y11.2 == 1)))) (aBin_eql ..) ?_
        exact .lf rfl rfl ⟨_, rfl, rfl⟩
      · refine .st (v := (A.agg [(A.imm (List.map c_S_Packet a0.Queue) false), (A.imm (List.map c_A2_int_i64 a0.Apart) false)])) (by kernel_rfl) ?_
        refine .bd (g := fun (y : (S_Net × Int)) => (A.tup [(A.agg [(A.imm (List.map c_S_Packet y.1.Queue) false), (A.imm (List.map c_A2_int_i64 y.1.Apart) false)]), (A.v (Value.int .i64 y.2))])) (by simp only [snap, snapW, snapWs, snapWss, snapWss_map, trim, List.map_cons, List.map_nil, fl_cI, fl_c8, fl_cB, fl_cS, fl_cL, fl_S_Packet, fl_A2_int_i64, fl_S_Net, fl_S_kinespherelaw06_Move]; exact h20 a0 a2 a1 true) fun y13 => ?_
        refine .st (v := (A.agg [(A.imm (List.map c_S_Packet y13.1.Queue) false), (A.imm (List.map c_A2_int_i64 y13.1.Apart) false)])) (by kernel_rfl) ?_
        refine .st (v := (A.v (Value.int .i64 y13.2))) (by kernel_rfl) ?_
        refine .st (v := ((A.ptr 2 0), [Blk.box [(A.imm (List.map c_S_Packet a0.Queue) false), (A.imm (List.map c_A2_int_i64 a0.Apart) false)], Blk.box [(A.imm (List.map c_S_Packet y11.1.Queue) false), (A.imm (List.map c_A2_int_i64 y11.1.Apart) false)], Blk.box [(A.imm [] true), (A.imm [] true)]])) (by kernel_rfl) ?_
        refine .st (v := [Blk.box [(A.imm (List.map c_S_Packet a0.Queue) false), (A.imm (List.map c_A2_int_i64 a0.Apart) false)], Blk.box [(A.imm (List.map c_S_Packet y11.1.Queue) false), (A.imm (List.map c_A2_int_i64 y11.1.Apart) false)], Blk.box [(A.imm (List.map c_S_Packet y13.1.Queue) false), (A.imm (List.map c_A2_int_i64 y13.1.Apart) false)]]) (by kernel_rfl) ?_
        refine .st (v := (A.agg [(A.imm (List.map c_S_Packet y11.1.Queue) false), (A.imm (List.map c_A2_int_i64 y11.1.Apart) false)])) (by kernel_rfl) ?_
        refine .bd (g := fun (y : (S_Net × Int)) => (A.tup [(A.agg [(A.imm (List.map c_S_Packet y.1.Queue) false), (A.imm (List.map c_A2_int_i64 y.1.Apart) false)]), (A.v (Value.int .i64 y.2))])) (by simp only [snap, snapW, snapWs, snapWss, snapWss_map, trim, List.map_cons, List.map_nil, fl_cI, fl_c8, fl_cB, fl_cS, fl_cL, fl_S_Packet, fl_A2_int_i64, fl_S_Net, fl_S_kinespherelaw06_Move]; exact h20 y11.1 a1 a2 true) fun y14 => ?_
        refine .st (v := (A.agg [(A.imm (List.map c_S_Packet y14.1.Queue) false), (A.imm (List.map c_A2_int_i64 y14.1.Apart) false)])) (by kernel_rfl) ?_
        refine .st (v := (A.v (Value.int .i64 y14.2))) (by kernel_rfl) ?_
        refine .st (v := ((A.ptr 3 0), [Blk.box [(A.imm (List.map c_S_Packet a0.Queue) false), (A.imm (List.map c_A2_int_i64 a0.Apart) false)], Blk.box [(A.imm (List.map c_S_Packet y11.1.Queue) false), (A.imm (List.map c_A2_int_i64 y11.1.Apart) false)], Blk.box [(A.imm (List.map c_S_Packet y13.1.Queue) false), (A.imm (List.map c_A2_int_i64 y13.1.Apart) false)], Blk.box [(A.imm [] true), (A.imm [] true)]])) (by kernel_rfl) ?_
        refine .st (v := [Blk.box [(A.imm (List.map c_S_Packet a0.Queue) false), (A.imm (List.map c_A2_int_i64 a0.Apart) false)], Blk.box [(A.imm (List.map c_S_Packet y11.1.Queue) false), (A.imm (List.map c_A2_int_i64 y11.1.Apart) false)], Blk.box [(A.imm (List.map c_S_Packet y13.1.Queue) false), (A.imm (List.map c_A2_int_i64 y13.1.Apart) false)], Blk.box [(A.imm (List.map c_S_Packet y14.1.Queue) false), (A.imm (List.map c_A2_int_i64 y14.1.Apart) false)]]) (by kernel_rfl) ?_
        refine .st (v := (A.agg [(A.imm (List.map c_S_Packet y11.1.Queue) false), (A.imm (List.map c_A2_int_i64 y11.1.Apart) false)])) (by kernel_rfl) ?_
        refine .bd (g := fun (y : (S_Net × Int)) => (A.tup [(A.agg [(A.imm (List.map c_S_Packet y.1.Queue) false), (A.imm (List.map c_A2_int_i64 y.1.Apart) false)]), (A.v (Value.int .i64 y.2))])) (by simp only [snap, snapW, snapWs, snapWss, snapWss_map, trim, List.map_cons, List.map_nil, fl_cI, fl_c8, fl_cB, fl_cS, fl_cL, fl_S_Packet, fl_A2_int_i64, fl_S_Net, fl_S_kinespherelaw06_Move]; exact h20 y11.1 a2 a1 false) fun y15 => ?_
        refine .st (v := (A.agg [(A.imm (List.map c_S_Packet y15.1.Queue) false), (A.imm (List.map c_A2_int_i64 y15.1.Apart) false)])) (by kernel_rfl) ?_
        refine .st (v := (A.v (Value.int .i64 y15.2))) (by kernel_rfl) ?_
        refine .st (v := ((A.ptr 4 0), [Blk.box [(A.imm (List.map c_S_Packet a0.Queue) false), (A.imm (List.map c_A2_int_i64 a0.Apart) false)], Blk.box [(A.imm (List.map c_S_Packet y11.1.Queue) false), (A.imm (List.map c_A2_int_i64 y11.1.Apart) false)], Blk.box [(A.imm (List.map c_S_Packet y13.1.Queue) false), (A.imm (List.map c_A2_int_i64 y13.1.Apart) false)], Blk.box [(A.imm (List.map c_S_Packet y14.1.Queue) false), (A.imm (List.map c_A2_int_i64 y14.1.Apart) false)], Blk.box [(A.imm [] true), (A.imm [] true)]])) (by kernel_rfl) ?_
        refine .st (v := [Blk.box [(A.imm (List.map c_S_Packet a0.Queue) false), (A.imm (List.map c_A2_int_i64 a0.Apart) false)], Blk.box [(A.imm (List.map c_S_Packet y11.1.Queue) false), (A.imm (List.map c_A2_int_i64 y11.1.Apart) false)], Blk.box [(A.imm (List.map c_S_Packet y13.1.Queue) false), (A.imm (List.map c_A2_int_i64 y13.1.Apart) false)], Blk.box [(A.imm (List.map c_S_Packet y14.1.Queue) false), (A.imm (List.map c_A2_int_i64 y14.1.Apart) false)], Blk.box [(A.imm (List.map c_S_Packet y15.1.Queue) false), (A.imm (List.map c_A2_int_i64 y15.1.Apart) false)]]) (by kernel_rfl) ?_
        refine .st (v := (A.agg [(A.imm (List.map c_S_Packet a0.Queue) false), (A.imm (List.map c_A2_int_i64 a0.Apart) false)])) (by kernel_rfl) ?_
        refine .bd (g := fun (y : (S_Net × Int)) => (A.tup [(A.agg [(A.imm (List.map c_S_Packet y.1.Queue) false), (A.imm (List.map c_A2_int_i64 y.1.Apart) false)]), (A.v (Value.int .i64 y.2))])) (by simp only [snap, snapW, snapWs, snapWss, snapWss_map, trim, List.map_cons, List.map_nil, fl_cI, fl_c8, fl_cB, fl_cS, fl_cL, fl_S_Packet, fl_A2_int_i64, fl_S_Net, fl_S_kinespherelaw06_Move]; exact h20 a0 a1 a2 false) fun y16 => ?_
        refine .st (v := (A.agg [(A.imm (List.map c_S_Packet y16.1.Queue) false), (A.imm (List.map c_A2_int_i64 y16.1.Apart) false)])) (by kernel_rfl) ?_
        refine .st (v := (A.v (Value.int .i64 y16.2))) (by kernel_rfl) ?_
        refine .st (v := ((A.ptr 5 0), [Blk.box [(A.imm (List.map c_S_Packet a0.Queue) false), (A.imm (List.map c_A2_int_i64 a0.Apart) false)], Blk.box [(A.imm (List.map c_S_Packet y11.1.Queue) false), (A.imm (List.map c_A2_int_i64 y11.1.Apart) false)], Blk.box [(A.imm (List.map c_S_Packet y13.1.Queue) false), (A.imm (List.map c_A2_int_i64 y13.1.Apart) false)], Blk.box [(A.imm (List.map c_S_Packet y14.1.Queue) false), (A.imm (List.map c_A2_int_i64 y14.1.Apart) false)], Blk.box [(A.imm (List.map c_S_Packet y15.1.Queue) false), (A.imm (List.map c_A2_int_i64 y15.1.Apart) false)], Blk.box [(A.imm [] true), (A.imm [] true)]])) (by kernel_rfl) ?_
        refine .st (v := [Blk.box [(A.imm (List.map c_S_Packet a0.Queue) false), (A.imm (List.map c_A2_int_i64 a0.Apart) false)], Blk.box [(A.imm (List.map c_S_Packet y11.1.Queue) false), (A.imm (List.map c_A2_int_i64 y11.1.Apart) false)], Blk.box [(A.imm (List.map c_S_Packet y13.1.Queue) false), (A.imm (List.map c_A2_int_i64 y13.1.Apart) false)], Blk.box [(A.imm (List.map c_S_Packet y14.1.Queue) false), (A.imm (List.map c_A2_int_i64 y14.1.Apart) false)], Blk.box [(A.imm (List.map c_S_Packet y15.1.Queue) false), (A.imm (List.map c_A2_int_i64 y15.1.Apart) false)], Blk.box [(A.imm (List.map c_S_Packet y16.1.Queue) false), (A.imm (List.map c_A2_int_i64 y16.1.Apart) false)]]) (by kernel_rfl) ?_
        refine .st (v := (A.v (Value.bool (y13.2 != 0)))) (aBin_neq ..) ?_
        refine .bg (fun t (y : Bool) => ∃ j19 j20 : A, t = [(A.v (Value.bool y)), j19, j20]) ?_ ?_
        · refine .biH (fun hk17 => ?_) (fun hk17 => ?_)
          · exact .lg ⟨_, _, rfl⟩
          · refine .st (v := (A.v (Value.bool (y14.2 != 0)))) (aBin_neq ..) ?_
            exact .lg ⟨_, _, rfl⟩
        rintro _ y18 ⟨j19, j20, rfl⟩
        iterate 3 refine .uc ?_
        refine .bg (fun t (y : Bool) => ∃ j23 j24 : A, t = [(A.v (Value.bool y)), j23, j24]) ?_ ?_
        · refine .biH (fun hk21 => ?_) (fun hk21 => ?_)
          · exact .lg ⟨_, _, rfl⟩
          · refine .st (v := (A.v (Value.bool (y15.2 != 0)))) (aBin_neq ..) ?_
            exact .lg ⟨_, _, rfl⟩
        rintro _ y22 ⟨j23, j24, rfl⟩
        iterate 3 refine .uc ?_
        refine .bg (fun t (y : Bool) => ∃ j27 j28 : A, t = [(A.v (Value.bool y)), j27, j28]) ?_ ?_
        · refine .biH (fun hk25 => ?_) (fun hk25 => ?_)
          · exact .lg ⟨_, _, rfl⟩
          · refine .st (v := (A.v (Value.bool (y16.2 != 0)))) (aBin_neq ..) ?_
            exact .lg ⟨_, _, rfl⟩
        rintro _ y26 ⟨j27, j28, rfl⟩
        iterate 3 refine .uc ?_
        refine .bg (fun t (y : Bool) => ∃ j32 j33 j34 j35 : A, t = [(A.v (Value.bool y)), j32, j33, j34, j35]) ?_ ?_
        · refine .biH (fun hk29 => ?_) (fun hk29 => ?_)
          · exact .lg ⟨_, _, _, _, rfl⟩
          · refine .st (v := (A.agg [(A.imm (List.map c_S_Packet y11.1.Queue) false), (A.imm (List.map c_A2_int_i64 y11.1.Apart) false)])) (by kernel_rfl) ?_
            refine .st (v := (A.agg [(A.imm (List.map c_S_Packet y13.1.Queue) false), (A.imm (List.map c_A2_int_i64 y13.1.Apart) false)])) (by kernel_rfl) ?_
            refine .bd (g := fun (y : Bool) => (A.v (Value.bool y))) (by simp only [snap, snapW, snapWs, snapWss, snapWss_map, trim, List.map_cons, List.map_nil, fl_cI, fl_c8, fl_cB, fl_cS, fl_cL, fl_S_Packet, fl_A2_int_i64, fl_S_Net, fl_S_kinespherelaw06_Move]; exact h15 y11.1 y13.1) fun y30 => ?_
            refine .st (v := (A.v (Value.bool (!y30)))) (by kernel_rfl) ?_
            exact .lg ⟨_, _, _, _, rfl⟩
        rintro _ y31 ⟨j32, j33, j34, j35, rfl⟩
        iterate 5 refine .uc ?_
        refine .bg (fun t (y : Bool) => ∃ j39 j40 j41 j42 : A, t = [(A.v (Value.bool y)), j39, j40, j41, j42]) ?_ ?_
        · refine .biH (fun hk36 => ?_) (fun hk36 => ?_)
          · exact .lg ⟨_, _, _, _, rfl⟩
          · refine .st (v := (A.agg [(A.imm (List.map c_S_Packet y11.1.Queue) false), (A.imm (List.map c_A2_int_i64 y11.1.Apart) false)])) (by kernel_rfl) ?_
            refine .st (v := (A.agg [(A.imm (List.map c_S_Packet y14.1.Queue) false), (A.imm (List.map c_A2_int_i64 y14.1.Apart) false)])) (by kernel_rfl) ?_
            refine .bd (g := fun (y : Bool) => (A.v (Value.bool y))) (by simp only [snap, snapW, snapWs, snapWss, snapWss_map, trim, List.map_cons, List.map_nil, fl_cI, fl_c8, fl_cB, fl_cS, fl_cL, fl_S_Packet, fl_A2_int_i64, fl_S_Net, fl_S_kinespherelaw06_Move]; exact h15 y11.1 y14.1) fun y37 => ?_
            refine .st (v := (A.v (Value.bool (!y37)))) (by kernel_rfl) ?_
            exact .lg ⟨_, _, _, _, rfl⟩
        rintro _ y38 ⟨j39, j40, j41, j42, rfl⟩
        iterate 5 refine .uc ?_
        refine .bg (fun t (y : Bool) => ∃ j46 j47 j48 j49 : A, t = [(A.v (Value.bool y)), j46, j47, j48, j49]) ?_ ?_
        · refine .biH (fun hk43 => ?_) (fun hk43 => ?_)
          · exact .lg ⟨_, _, _, _, rfl⟩
          · refine .st (v := (A.agg [(A.imm (List.map c_S_Packet y15.1.Queue) false), (A.imm (List.map c_A2_int_i64 y15.1.Apart) false)])) (by kernel_rfl) ?_
            refine .st (v := (A.agg [(A.imm (List.map c_S_Packet y16.1.Queue) false), (A.imm (List.map c_A2_int_i64 y16.1.Apart) false)])) (by kernel_rfl) ?_
            refine .bd (g := fun (y : Bool) => (A.v (Value.bool y))) (by simp only [snap, snapW, snapWs, snapWss, snapWss_map, trim, List.map_cons, List.map_nil, fl_cI, fl_c8, fl_cB, fl_cS, fl_cL, fl_S_Packet, fl_A2_int_i64, fl_S_Net, fl_S_kinespherelaw06_Move]; exact h15 y15.1 y16.1) fun y44 => ?_
            refine .st (v := (A.v (Value.bool (!y44)))) (by kernel_rfl) ?_
            exact .lg ⟨_, _, _, _, rfl⟩
        rintro _ y45 ⟨j46, j47, j48, j49, rfl⟩
        iterate 5 refine .uc ?_
        refine .bg (fun t (y : Bool) => ∃ j52 j53 j54 j55 j56 j57 j58 j59 : A, t = [(A.v (Value.bool y)), j52, j53, j54, j55, j56, j57, j58, j59]) ?_ ?_
        · refine .biH (fun hk50 => ?_) (fun hk50 => ?_)
          · exact .lg ⟨_, _, _, _, _, _, _, _, rfl⟩
          · refine .st (v := (A.ptr 1 1)) (by kernel_rfl) ?_
            refine .st (v := (A.imm (List.map c_A2_int_i64 y11.1.Apart) false)) (by kernel_rfl) ?_
            refine .st (v := (A.v (Value.int .i64 ((y11.1.Apart.length : Int))))) (len_imm (e := 55) (h1 := by kernel_rfl) ..) ?_
            refine .st (v := (A.ptr 5 1)) (by kernel_rfl) ?_
            refine .st (v := (A.imm (List.map c_A2_int_i64 y16.1.Apart) false)) (by kernel_rfl) ?_
            refine .st (v := (A.v (Value.int .i64 ((y16.1.Apart.length : Int))))) (len_imm (e := 55) (h1 := by kernel_rfl) ..) ?_
            refine .st (v := (A.v (Value.int .i64 (wr .i64 (((y16.1.Apart.length : Int)) + 1))))) (aBin_add ..) ?_
            refine .st (v := (A.v (Value.bool (((y11.1.Apart.length : Int)) != (wr .i64 (((y16.1.Apart.length : Int)) + 1)))))) (aBin_neq ..) ?_
            exact .lg ⟨_, _, _, _, _, _, _, _, rfl⟩
        rintro _ y51 ⟨j52, j53, j54, j55, j56, j57, j58, j59, rfl⟩
        iterate 9 refine .uc ?_
        refine .biH (fun hk60 => ?_) (fun hk60 => ?_)
        · exact .lf rfl rfl ⟨_, rfl, rfl⟩
        · refine .st (v := (A.ptr 0 0)) (by kernel_rfl) ?_
          refine .st (v := (A.imm (List.map c_S_Packet a0.Queue) false)) (by kernel_rfl) ?_
          refine .st (v := (A.v (Value.int .i64 ((a0.Queue.length : Int))))) (len_imm (e := 28) (h1 := by kernel_rfl) ..) ?_
          refine .st (v := (A.v (Value.bool (((a0.Queue.length : Int)) == 0)))) (aBin_eql ..) ?_
          refine .biH (fun hk61 => ?_) (fun hk61 => ?_)
          · exact .lf rfl rfl ⟨_, rfl, rfl⟩
          · refine .st (v := (A.ptr 0 0)) (by kernel_rfl) ?_
            refine .st (v := (A.imm (List.map c_S_Packet a0.Queue) false)) (by kernel_rfl) ?_
            refine .st (v := (A.v (Value.int .i64 ((a0.Queue.length : Int))))) (len_imm (e := 28) (h1 := by kernel_rfl) ..) ?_
            refine .st (v := (A.v (Value.int .u64 (wr .u64 ((a0.Queue.length : Int)))))) (aConvert_int (hs := by kernel_rfl) (hd := by kernel_rfl) ..) ?_
            refine .gd fun hg => ?_
            refine .st (v := (A.v (Value.int .u64 (Int.tmod a3 (wr .u64 ((a0.Queue.length : Int))))))) (aBin_rem (hb := of_decide_eq_true hg) ..) ?_
            refine .st (v := (A.v (Value.int .i64 (wr .i64 (Int.tmod a3 (wr .u64 ((a0.Queue.length : Int)))))))) (aConvert_int (hs := by kernel_rfl) (hd := by kernel_rfl) ..) ?_
            refine .st (v := (A.agg [(A.imm (List.map c_S_Packet y11.1.Queue) false), (A.imm (List.map c_A2_int_i64 y11.1.Apart) false)])) (by kernel_rfl) ?_
            refine .bd (g := fun (y : (S_Packet × S_Net × Int)) => (A.tup [(A.agg [(A.v (Value.int .i64 y.1.From)), (A.v (Value.int .i64 y.1.To)), (A.imm (List.map c8 y.1.Data) false)]), (A.agg [(A.imm (List.map c_S_Packet y.2.1.Queue) false), (A.imm (List.map c_A2_int_i64 y.2.1.Apart) false)]), (A.v (Value.int .i64 y.2.2))])) (by simp only [snap, snapW, snapWs, snapWss, snapWss_map, trim, List.map_cons, List.map_nil, fl_cI, fl_c8, fl_cB, fl_cS, fl_cL, fl_S_Packet, fl_A2_int_i64, fl_S_Net, fl_S_kinespherelaw06_Move]; exact h18 y11.1 (wr .i64 (Int.tmod a3 (wr .u64 ((a0.Queue.length : Int)))))) fun y62 => ?_
            refine .st (v := (A.agg [(A.v (Value.int .i64 y62.1.From)), (A.v (Value.int .i64 y62.1.To)), (A.imm (List.map c8 y62.1.Data) false)])) (by kernel_rfl) ?_
            refine .st (v := (A.agg [(A.imm (List.map c_S_Packet y62.2.1.Queue) false), (A.imm (List.map c_A2_int_i64 y62.2.1.Apart) false)])) (by kernel_rfl) ?_
            refine .st (v := (A.v (Value.int .i64 y62.2.2))) (by kernel_rfl) ?_
            refine .st (v := ((A.ptr 6 0), [Blk.box [(A.imm (List.map c_S_Packet a0.Queue) false), (A.imm (List.map c_A2_int_i64 a0.Apart) false)], Blk.box [(A.imm (List.map c_S_Packet y11.1.Queue) false), (A.imm (List.map c_A2_int_i64 y11.1.Apart) false)], Blk.box [(A.imm (List.map c_S_Packet y13.1.Queue) false), (A.imm (List.map c_A2_int_i64 y13.1.Apart) false)], Blk.box [(A.imm (List.map c_S_Packet y14.1.Queue) false), (A.imm (List.map c_A2_int_i64 y14.1.Apart) false)], Blk.box [(A.imm (List.map c_S_Packet y15.1.Queue) false), (A.imm (List.map c_A2_int_i64 y15.1.Apart) false)], Blk.box [(A.imm (List.map c_S_Packet y16.1.Queue) false), (A.imm (List.map c_A2_int_i64 y16.1.Apart) false)], Blk.box [(A.v (Value.int .i64 0)), (A.v (Value.int .i64 0)), (A.imm [] true)]])) (by kernel_rfl) ?_
            refine .st (v := ((A.ptr 7 0), [Blk.box [(A.imm (List.map c_S_Packet a0.Queue) false), (A.imm (List.map c_A2_int_i64 a0.Apart) false)], Blk.box [(A.imm (List.map c_S_Packet y11.1.Queue) false), (A.imm (List.map c_A2_int_i64 y11.1.Apart) false)], Blk.box [(A.imm (List.map c_S_Packet y13.1.Queue) false), (A.imm (List.map c_A2_int_i64 y13.1.Apart) false)], Blk.box [(A.imm (List.map c_S_Packet y14.1.Queue) false), (A.imm (List.map c_A2_int_i64 y14.1.Apart) false)], Blk.box [(A.imm (List.map c_S_Packet y15.1.Queue) false), (A.imm (List.map c_A2_int_i64 y15.1.Apart) false)], Blk.box [(A.imm (List.map c_S_Packet y16.1.Queue) false), (A.imm (List.map c_A2_int_i64 y16.1.Apart) false)], Blk.box [(A.v (Value.int .i64 0)), (A.v (Value.int .i64 0)), (A.imm [] true)], Blk.box [(A.imm [] true), (A.imm [] true)]])) (by kernel_rfl) ?_
            refine .st (v := [Blk.box [(A.imm (List.map c_S_Packet a0.Queue) false), (A.imm (List.map c_A2_int_i64 a0.Apart) false)], Blk.box [(A.imm (List.map c_S_Packet y11.1.Queue) false), (A.imm (List.map c_A2_int_i64 y11.1.Apart) false)], Blk.box [(A.imm (List.map c_S_Packet y13.1.Queue) false), (A.imm (List.map c_A2_int_i64 y13.1.Apart) false)], Blk.box [(A.imm (List.map c_S_Packet y14.1.Queue) false), (A.imm (List.map c_A2_int_i64 y14.1.Apart) false)], Blk.box [(A.imm (List.map c_S_Packet y15.1.Queue) false), (A.imm (List.map c_A2_int_i64 y15.1.Apart) false)], Blk.box [(A.imm (List.map c_S_Packet y16.1.Queue) false), (A.imm (List.map c_A2_int_i64 y16.1.Apart) false)], Blk.box [(A.v (Value.int .i64 y62.1.From)), (A.v (Value.int .i64 y62.1.To)), (A.imm (List.map c8 y62.1.Data) false)], Blk.box [(A.imm [] true), (A.imm [] true)]]) (by kernel_rfl) ?_
            refine .st (v := [Blk.box [(A.imm (List.map c_S_Packet a0.Queue) false), (A.imm (List.map c_A2_int_i64 a0.Apart) false)], Blk.box [(A.imm (List.map c_S_Packet y11.1.Queue) false), (A.imm (List.map c_A2_int_i64 y11.1.Apart) false)], Blk.box [(A.imm (List.map c_S_Packet y13.1.Queue) false), (A.imm (List.map c_A2_int_i64 y13.1.Apart) false)], Blk.box [(A.imm (List.map c_S_Packet y14.1.Queue) false), (A.imm (List.map c_A2_int_i64 y14.1.Apart) false)], Blk.box [(A.imm (List.map c_S_Packet y15.1.Queue) false), (A.imm (List.map c_A2_int_i64 y15.1.Apart) false)], Blk.box [(A.imm (List.map c_S_Packet y16.1.Queue) false), (A.imm (List.map c_A2_int_i64 y16.1.Apart) false)], Blk.box [(A.v (Value.int .i64 y62.1.From)), (A.v (Value.int .i64 y62.1.To)), (A.imm (List.map c8 y62.1.Data) false)], Blk.box [(A.imm (List.map c_S_Packet y62.2.1.Queue) false), (A.imm (List.map c_A2_int_i64 y62.2.1.Apart) false)]]) (by kernel_rfl) ?_
            refine .st (v := (A.agg [(A.imm (List.map c_S_Packet y16.1.Queue) false), (A.imm (List.map c_A2_int_i64 y16.1.Apart) false)])) (by kernel_rfl) ?_
            refine .bd (g := fun (y : (S_Packet × S_Net × Int)) => (A.tup [(A.agg [(A.v (Value.int .i64 y.1.From)), (A.v (Value.int .i64 y.1.To)), (A.imm (List.map c8 y.1.Data) false)]), (A.agg [(A.imm (List.map c_S_Packet y.2.1.Queue) false), (A.imm (List.map c_A2_int_i64 y.2.1.Apart) false)]), (A.v (Value.int .i64 y.2.2))])) (by simp only [snap, snapW, snapWs, snapWss, snapWss_map, trim, List.map_cons, List.map_nil, fl_cI, fl_c8, fl_cB, fl_cS, fl_cL, fl_S_Packet, fl_A2_int_i64, fl_S_Net, fl_S_kinespherelaw06_Move]; exact h18 y16.1 (wr .i64 (Int.tmod a3 (wr .u64 ((a0.Queue.length : Int)))))) fun y63 => ?_
            refine .st (v := (A.agg [(A.v (Value.int .i64 y63.1.From)), (A.v (Value.int .i64 y63.1.To)), (A.imm (List.map c8 y63.1.Data) false)])) (by kernel_rfl) ?_
            refine .st (v := (A.agg [(A.imm (List.map c_S_Packet y63.2.1.Queue) false), (A.imm (List.map c_A2_int_i64 y63.2.1.Apart) false)])) (by kernel_rfl) ?_
            refine .st (v := (A.v (Value.int .i64 y63.2.2))) (by kernel_rfl) ?_
            refine .st (v := ((A.ptr 8 0), [Blk.box [(A.imm (List.map c_S_Packet a0.Queue) false), (A.imm (List.map c_A2_int_i64 a0.Apart) false)], Blk.box [(A.imm (List.map c_S_Packet y11.1.Queue) false), (A.imm (List.map c_A2_int_i64 y11.1.Apart) false)], Blk.box [(A.imm (List.map c_S_Packet y13.1.Queue) false), (A.imm (List.map c_A2_int_i64 y13.1.Apart) false)], Blk.box [(A.imm (List.map c_S_Packet y14.1.Queue) false), (A.imm (List.map c_A2_int_i64 y14.1.Apart) false)], Blk.box [(A.imm (List.map c_S_Packet y15.1.Queue) false), (A.imm (List.map c_A2_int_i64 y15.1.Apart) false)], Blk.box [(A.imm (List.map c_S_Packet y16.1.Queue) false), (A.imm (List.map c_A2_int_i64 y16.1.Apart) false)], Blk.box [(A.v (Value.int .i64 y62.1.From)), (A.v (Value.int .i64 y62.1.To)), (A.imm (List.map c8 y62.1.Data) false)], Blk.box [(A.imm (List.map c_S_Packet y62.2.1.Queue) false), (A.imm (List.map c_A2_int_i64 y62.2.1.Apart) false)], Blk.box [(A.v (Value.int .i64 0)), (A.v (Value.int .i64 0)), (A.imm [] true)]])) (by kernel_rfl) ?_
            refine .st (v := ((A.ptr 9 0), [Blk.box [(A.imm (List.map c_S_Packet a0.Queue) false), (A.imm (List.map c_A2_int_i64 a0.Apart) false)], Blk.box [(A.imm (List.map c_S_Packet y11.1.Queue) false), (A.imm (List.map c_A2_int_i64 y11.1.Apart) false)], Blk.box [(A.imm (List.map c_S_Packet y13.1.Queue) false), (A.imm (List.map c_A2_int_i64 y13.1.Apart) false)], Blk.box [(A.imm (List.map c_S_Packet y14.1.Queue) false), (A.imm (List.map c_A2_int_i64 y14.1.Apart) false)], Blk.box [(A.imm (List.map c_S_Packet y15.1.Queue) false), (A.imm (List.map c_A2_int_i64 y15.1.Apart) false)], Blk.box [(A.imm (List.map c_S_Packet y16.1.Queue) false), (A.imm (List.map c_A2_int_i64 y16.1.Apart) false)], Blk.box [(A.v (Value.int .i64 y62.1.From)), (A.v (Value.int .i64 y62.1.To)), (A.imm (List.map c8 y62.1.Data) false)], Blk.box [(A.imm (List.map c_S_Packet y62.2.1.Queue) false), (A.imm (List.map c_A2_int_i64 y62.2.1.Apart) false)], Blk.box [(A.v (Value.int .i64 0)), (A.v (Value.int .i64 0)), (A.imm [] true)], Blk.box [(A.imm [] true), (A.imm [] true)]])) (by kernel_rfl) ?_
            refine .st (v := [Blk.box [(A.imm (List.map c_S_Packet a0.Queue) false), (A.imm (List.map c_A2_int_i64 a0.Apart) false)], Blk.box [(A.imm (List.map c_S_Packet y11.1.Queue) false), (A.imm (List.map c_A2_int_i64 y11.1.Apart) false)], Blk.box [(A.imm (List.map c_S_Packet y13.1.Queue) false), (A.imm (List.map c_A2_int_i64 y13.1.Apart) false)], Blk.box [(A.imm (List.map c_S_Packet y14.1.Queue) false), (A.imm (List.map c_A2_int_i64 y14.1.Apart) false)], Blk.box [(A.imm (List.map c_S_Packet y15.1.Queue) false), (A.imm (List.map c_A2_int_i64 y15.1.Apart) false)], Blk.box [(A.imm (List.map c_S_Packet y16.1.Queue) false), (A.imm (List.map c_A2_int_i64 y16.1.Apart) false)], Blk.box [(A.v (Value.int .i64 y62.1.From)), (A.v (Value.int .i64 y62.1.To)), (A.imm (List.map c8 y62.1.Data) false)], Blk.box [(A.imm (List.map c_S_Packet y62.2.1.Queue) false), (A.imm (List.map c_A2_int_i64 y62.2.1.Apart) false)], Blk.box [(A.v (Value.int .i64 y63.1.From)), (A.v (Value.int .i64 y63.1.To)), (A.imm (List.map c8 y63.1.Data) false)], Blk.box [(A.imm [] true), (A.imm [] true)]]) (by kernel_rfl) ?_
            refine .st (v := [Blk.box [(A.imm (List.map c_S_Packet a0.Queue) false), (A.imm (List.map c_A2_int_i64 a0.Apart) false)], Blk.box [(A.imm (List.map c_S_Packet y11.1.Queue) false), (A.imm (List.map c_A2_int_i64 y11.1.Apart) false)], Blk.box [(A.imm (List.map c_S_Packet y13.1.Queue) false), (A.imm (List.map c_A2_int_i64 y13.1.Apart) false)], Blk.box [(A.imm (List.map c_S_Packet y14.1.Queue) false), (A.imm (List.map c_A2_int_i64 y14.1.Apart) false)], Blk.box [(A.imm (List.map c_S_Packet y15.1.Queue) false), (A.imm (List.map c_A2_int_i64 y15.1.Apart) false)], Blk.box [(A.imm (List.map c_S_Packet y16.1.Queue) false), (A.imm (List.map c_A2_int_i64 y16.1.Apart) false)], Blk.box [(A.v (Value.int .i64 y62.1.From)), (A.v (Value.int .i64 y62.1.To)), (A.imm (List.map c8 y62.1.Data) false)], Blk.box [(A.imm (List.map c_S_Packet y62.2.1.Queue) false), (A.imm (List.map c_A2_int_i64 y62.2.1.Apart) false)], Blk.box [(A.v (Value.int .i64 y63.1.From)), (A.v (Value.int .i64 y63.1.To)), (A.imm (List.map c8 y63.1.Data) false)], Blk.box [(A.imm (List.map c_S_Packet y63.2.1.Queue) false), (A.imm (List.map c_A2_int_i64 y63.2.1.Apart) false)]]) (by kernel_rfl) ?_
            refine .st (v := (A.ptr 8 0)) (by kernel_rfl) ?_
            refine .st (v := (A.v (Value.int .i64 y63.1.From))) (by kernel_rfl) ?_
            refine .st (v := (A.v (Value.bool (y63.1.From == a1)))) (aBin_eql ..) ?_
            refine .bg (fun t (y : Bool) => ∃ j66 j67 j68 j69 : A, t = [(A.v (Value.bool y)), j66, j67, j68, j69]) ?_ ?_
            · refine .biH (fun hk64 => ?_) (fun hk64 => ?_)
              · refine .st (v := (A.ptr 8 1)) (by kernel_rfl) ?_
                refine .st (v := (A.v (Value.int .i64 y63.1.To))) (by kernel_rfl) ?_
                refine .st (v := (A.v (Value.bool (y63.1.To == a2)))) (aBin_eql ..) ?_
                exact .lg ⟨_, _, _, _, rfl⟩
              · exact .lg ⟨_, _, _, _, rfl⟩
            rintro _ y65 ⟨j66, j67, j68, j69, rfl⟩
            iterate 5 refine .uc ?_
            refine .bg (fun t (y : Bool) => ∃ j78 j79 j80 j81 j82 j83 j84 j85 j86 j87 : A, t = [(A.v (Value.bool y)), j78, j79, j80, j81, j82, j83, j84, j85, j86, j87]) ?_ ?_
            · refine .biH (fun hk70 => ?_) (fun hk70 => ?_)
              · exact .lg ⟨_, _, _, _, _, _, _, _, _, _, rfl⟩
              · refine .st (v := (A.ptr 8 0)) (by kernel_rfl) ?_
                refine .st (v := (A.v (Value.int .i64 y63.1.From))) (by kernel_rfl) ?_
                refine .st (v := (A.v (Value.bool (y63.1.From == a2)))) (aBin_eql ..) ?_
                refine .bg (fun t (y : Bool) => ∃ j73 j74 j75 j76 : A, t = [(A.v (Value.bool y)), j73, j74, j75, j76]) ?_ ?_
                · refine .biH (fun hk71 => ?_) (fun hk71 => ?_)
                  · refine .st (v := (A.ptr 8 1)) (by kernel_rfl) ?_
                    refine .st (v := (A.v (Value.int .i64 y63.1.To))) (by kernel_rfl) ?_
                    refine .st (v := (A.v (Value.bool (y63.1.To == a1)))) (aBin_eql ..) ?_
                    exact .lg ⟨_, _, _, _, rfl⟩
                  · exact .lg ⟨_, _, _, _, rfl⟩
                rintro _ y72 ⟨j73, j74, j75, j76, rfl⟩
                iterate 5 refine .uc ?_
                exact .lg ⟨_, _, _, _, _, _, _, _, _, _, rfl⟩
            rintro _ y77 ⟨j78, j79, j80, j81, j82, j83, j84, j85, j86, j87, rfl⟩
            iterate 11 refine .uc ?_
            refine .st (v := (A.v (Value.bool (y62.2.2 == 0)))) (aBin_eql ..) ?_
            refine .bg (fun t (y : Bool) => ∃ j90 j91 : A, t = [(A.v (Value.bool y)), j90, j91]) ?_ ?_
            · refine .biH (fun hk88 => ?_) (fun hk88 => ?_)
              · refine .st (v := (A.v (Value.bool (y63.2.2 == 0)))) (aBin_eql ..) ?_
                exact .lg ⟨_, _, rfl⟩
              · exact .lg ⟨_, _, rfl⟩
            rintro _ y89 ⟨j90, j91, rfl⟩
            iterate 3 refine .uc ?_
            refine .bg (fun t (y : Bool) => ∃ j101 j102 j103 j104 j105 j106 j107 j108 j109 j110 : A, t = [(A.v (Value.bool y)), j101, j102, j103, j104, j105, j106, j107, j108, j109, j110]) ?_ ?_
            · refine .biH (fun hk92 => ?_) (fun hk92 => ?_)
              · refine .st (v := (A.agg [(A.v (Value.int .i64 y62.1.From)), (A.v (Value.int .i64 y62.1.To)), (A.imm (List.map c8 y62.1.Data) false)])) (by kernel_rfl) ?_
                refine .st (v := (A.agg [(A.v (Value.int .i64 0)), (A.v (Value.int .i64 0)), (A.imm [] true)])) (by kernel_rfl) ?_
                refine .bd (g := fun (y : Bool) => (A.v (Value.bool y))) (by simp only [snap, snapW, snapWs, snapWss, snapWss_map, trim, List.map_cons, List.map_nil, fl_cI, fl_c8, fl_cB, fl_cS, fl_cL, fl_S_Packet, fl_A2_int_i64, fl_S_Net, fl_S_kinespherelaw06_Move]; exact h19 y62.1 ((S_Packet.mk 0 0 ([])))) fun y93 => ?_
                refine .bg (fun t (y : Bool) => ∃ j97 j98 j99 : A, t = [(A.v (Value.bool y)), j97, j98, j99]) ?_ ?_
                · refine .biH (fun hk94 => ?_) (fun hk94 => ?_)
                  · exact .lg ⟨_, _, _, rfl⟩
                  · refine .st (v := (A.agg [(A.v (Value.int .i64 y63.1.From)), (A.v (Value.int .i64 y63.1.To)), (A.imm (List.map c8 y63.1.Data) false)])) (by kernel_rfl) ?_
                    refine .st (v := (A.agg [(A.v (Value.int .i64 0)), (A.v (Value.int .i64 0)), (A.imm [] true)])) (by kernel_rfl) ?_
                    refine .bd (g := fun (y : Bool) => (A.v (Value.bool y))) (by simp only [snap, snapW, snapWs, snapWss, snapWss_map, trim, List.map_cons, List.map_nil, fl_cI, fl_c8, fl_cB, fl_cS, fl_cL, fl_S_Packet, fl_A2_int_i64, fl_S_Net, fl_S_kinespherelaw06_Move]; exact h19 y63.1 ((S_Packet.mk 0 0 ([])))) fun y95 => ?_
                    exact .lg ⟨_, _, _, rfl⟩
                rintro _ y96 ⟨j97, j98, j99, rfl⟩
                iterate 4 refine .uc ?_
                refine .st (v := (A.v (Value.bool (y93 == y96)))) (by kernel_rfl) ?_
                exact .lg ⟨_, _, _, _, _, _, _, _, _, _, rfl⟩
              · exact .lg ⟨_, _, _, _, _, _, _, _, _, _, rfl⟩
            rintro _ y100 ⟨j101, j102, j103, j104, j105, j106, j107, j108, j109, j110, rfl⟩
            iterate 11 refine .uc ?_
            refine .bg (fun t (y : Bool) => ∃ j119 j120 j121 j122 j123 j124 : A, t = [(A.v (Value.bool y)), j119, j120, j121, j122, j123, j124]) ?_ ?_
            · refine .biH (fun hk111 => ?_) (fun hk111 => ?_)
              · refine .bg (fun t (y : Bool) => ∃ j115 j116 j117 : A, t = [(A.v (Value.bool y)), j115, j116, j117]) ?_ ?_
                · refine .biH (fun hk112 => ?_) (fun hk112 => ?_)
                  · exact .lg ⟨_, _, _, rfl⟩
                  · refine .st (v := (A.agg [(A.v (Value.int .i64 y62.1.From)), (A.v (Value.int .i64 y62.1.To)), (A.imm (List.map c8 y62.1.Data) false)])) (by kernel_rfl) ?_
                    refine .st (v := (A.agg [(A.v (Value.int .i64 y63.1.From)), (A.v (Value.int .i64 y63.1.To)), (A.imm (List.map c8 y63.1.Data) false)])) (by kernel_rfl) ?_
                    refine .bd (g := fun (y : Bool) => (A.v (Value.bool y))) (by simp only [snap, snapW, snapWs, snapWss, snapWss_map, trim, List.map_cons, List.map_nil, fl_cI, fl_c8, fl_cB, fl_cS, fl_cL, fl_S_Packet, fl_A2_int_i64, fl_S_Net, fl_S_kinespherelaw06_Move]; exact h19 y62.1 y63.1) fun y113 => ?_
                    exact .lg ⟨_, _, _, rfl⟩
                rintro _ y114 ⟨j115, j116, j117, rfl⟩
                iterate 4 refine .uc ?_
                exact .lg ⟨_, _, _, _, _, _, rfl⟩
              · exact .lg ⟨_, _, _, _, _, _, rfl⟩
            rintro _ y118 ⟨j119, j120, j121, j122, j123, j124, rfl⟩
            iterate 7 refine .uc ?_
            exact .lf rfl rfl ⟨_, rfl, rfl⟩

def G5 (a0 : S_Net) (a1 : Int) (a2 : Int) (a3 : Int) : Option Bool := F5 fuel0 a0 a1 a2 a3

def Orc5 (C : Nat → List A → Option A) : Prop := ∀ (a0 : S_Net) (a1 : Int) (a2 : Int) (a3 : Int), C 5 [(A.agg [(A.imm (List.map c_S_Packet a0.Queue) false), (A.imm (List.map c_A2_int_i64 a0.Apart) false)]), (A.v (Value.int .i64 a1)), (A.v (Value.int .i64 a2)), (A.v (Value.int .u64 a3))] = (G5 a0 a1 a2 a3).map fun y => (A.v (Value.bool y))

def F40_40_0 (n : Nat) (v1 : Int) (v2 : Int) (v3 : Bool) (v5 : (List S_Packet)) (v6 : (List (Int × Int))) : Nat → Int → Option ((Bool) ⊕ (Unit))
  | 0, _ => none
  | m + 1, v4 => bif (decide (v4 < ((v6.length : Int)))) then (Option.bind (getI v6 v4) fun y8 => bif (y8.1 == ((if v2 < v1 then v2 else v1))) then (Option.bind (some v6) fun y12 => Option.bind (some v4) fun y13 => Option.bind (Option.bind (getI y12 y13) fun y14 => some ((y14.1, y14.2))) fun y15 => Option.bind (some y15.2) fun y16 => Option.bind (some y16) fun y17 => Option.bind (some v1) fun y18 => Option.bind (some v2) fun y19 => Option.bind (some (y17 == ((if y18 < y19 then y19 else y18)))) fun y20 => bif y20 then (some ((Sum.inl true))) else (F40_40_0 n v1 v2 v3 v5 v6 m (wr .i64 (v4 + 1)))) else (Option.bind (some (())) fun y23 => Option.bind (some (())) fun y24 => Option.bind (some (())) fun y25 => Option.bind (some (())) fun y26 => Option.bind (some (())) fun y27 => Option.bind (some (())) fun y28 => Option.bind (some (())) fun y29 => Option.bind (some false) fun y30 => bif y30 then (some ((Sum.inl true))) else (F40_40_0 n v1 v2 v3 v5 v6 m (wr .i64 (v4 + 1))))) else (some ((Sum.inr (()))))

theorem T40_40_0 (C : Nat → List A → Option A) (n : Nat) (v1 : Int) (v2 : Int) (v3 : Bool) (v5 : (List S_Packet)) (v6 : (List (Int × Int))) {ρ γ : Type} {φ : ρ → γ → Prop} {kL : R → Option ρ} {K : ((Bool) ⊕ (Unit)) → Option γ} (kx kg : Nat → St → Option R) (kr : St → Option R) (kp : A → St → Option R) (x0 : ∀ (o0 : Bool) (s1 : A) (s2 : A) (s3 : A) (s7 : A), J φ (kr (St.mk [(1, s1), (2, s2), (3, s3), (6, (A.v (Value.bool o0))), (7, s7)] [Blk.box [(A.imm (List.map c_S_Packet v5) false), (A.imm (List.map c_A2_int_i64 v6) false)]])) kL (K (Sum.inl o0)) some) (x1 : ∀ (s1 : A) (s2 : A) (s3 : A) (s6 : A) (s7 : A), J φ (kx 0 (St.mk [(1, s1), (2, s2), (3, s3), (6, s6), (7, s7)] [Blk.box [(A.imm (List.map c_S_Packet v5) false), (A.imm (List.map c_A2_int_i64 v6) false)]])) kL (K (Sum.inr (()))) some) :
    ∀ (m : Nat) (v4 : Int), J φ (loopR (cx C) (evCall (cx C) (n+8)) (evCallY (cx C) (n+8)) (n+8) 40 0 0 1 kx kg kr kp m (St.mk [(1, (A.v (Value.int .i64 v1))), (2, (A.v (Value.int .i64 v2))), (3, (A.ptr 0 0)), (6, (A.v (Value.bool v3))), (7, (A.v (Value.int .i64 v4)))] [Blk.box [(A.imm (List.map c_S_Packet v5) false), (A.imm (List.map c_A2_int_i64 v6) false)]])) kL (F40_40_0 n v1 v2 v3 v5 v6 m v4) K := by
  intro m
  induction m with
  | zero => intros; exact .nn
  | succ m ih =>
    intro v4
    refine .lp (e40_0 ..) ?_
    unfold F40_40_0
    refine .st (v := (A.ptr 0 1)) (by kernel_rfl) ?_
    refine .st (v := (A.imm (List.map c_A2_int_i64 v6) false)) (by kernel_rfl) ?_
    refine .st (v := (A.v (Value.int .i64 ((v6.length : Int))))) (len_imm (e := 55) (h1 := by kernel_rfl) ..) ?_
    refine .st (v := (A.v (Value.bool (decide (v4 < ((v6.length : Int))))))) (aBin_lss ..) ?_
    refine .biH (fun hk7 => ?_) (fun hk7 => ?_)
    · refine .st (v := (A.ptr 0 1)) (by kernel_rfl) ?_
      refine .st (v := (A.imm (List.map c_A2_int_i64 v6) false)) (by kernel_rfl) ?_
      refine .bd (g := fun (y : (Int × Int)) => A.ip (c_A2_int_i64 y)) (idx_imm (e := 55) (es := 2) (h1 := by kernel_rfl) (h2 := by kernel_rfl) (h3 := fun _ => rfl) ..) fun y8 => ?_
      refine .st (v := (A.ip [(A.v (Value.int .i64 y8.1)), (A.v (Value.int .i64 y8.2))])) (by kernel_rfl) ?_
      refine .st (v := (A.v (Value.int .i64 y8.1))) (by kernel_rfl) ?_
      refine .st (v := (A.v (Value.int .i64 ((if v2 < v1 then v2 else v1))))) (by kernel_rfl) ?_
      refine .st (v := (A.v (Value.bool (y8.1 == ((if v2 < v1 then v2 else v1)))))) (aBin_eql ..) ?_
      refine .gst (fun hc11 => ?_) (fun hc11 => ?_)
      · refine .bb ?_
        refine .st (v := (A.ptr 0 1)) (by kernel_rfl) ?_
        refine .cr ?_
        refine .bg (fun t (y : (List (Int × Int))) =>  t = (A.imm (List.map c_A2_int_i64 y) false)) ?_ ?_
        · refine .lp (gIf_knownTT hc11) ?_
          refine .st (v := (A.imm (List.map c_A2_int_i64 v6) false)) (by kernel_rfl) ?_
          exact .lg rfl
        rintro _ y12 rfl
        refine .bg (fun t (y : Int) =>  t = (A.v (Value.int .i64 y))) ?_ ?_
        · refine .lp (gIf_knownTT hc11) ?_
          exact .lg rfl
        rintro _ y13 rfl
        refine .bg (fun t (y : Int × Int) =>  t = (A.ip [(A.v (Value.int .i64 y.1)), (A.v (Value.int .i64 y.2))])) ?_ ?_
        · refine .lp (gIf_knownTT hc11) ?_
          refine .bd (g := fun (y : (Int × Int)) => A.ip (c_A2_int_i64 y)) (idx_imm (e := 55) (es := 2) (h1 := by kernel_rfl) (h2 := by kernel_rfl) (h3 := fun _ => rfl) ..) fun y14 => ?_
          exact .lg rfl
        rintro _ y15 rfl
        refine .bg (fun t (y : Int) =>  t = (A.ip [(A.v (Value.int .i64 y))])) ?_ ?_
        · refine .lp (gIf_knownTT hc11) ?_
          refine .st (v := (A.ip [(A.v (Value.int .i64 y15.2))])) (by kernel_rfl) ?_
          exact .lg rfl
        rintro _ y16 rfl
        refine .bg (fun t (y : Int) =>  t = (A.v (Value.int .i64 y))) ?_ ?_
        · refine .lp (gIf_knownTT hc11) ?_
          refine .st (v := (A.v (Value.int .i64 y16))) (by kernel_rfl) ?_
          exact .lg rfl
        rintro _ y17 rfl
        refine .bg (fun t (y : Int) =>  t = (A.v (Value.int .i64 y))) ?_ ?_
        · refine .lp (gIf_knownTT hc11) ?_
          exact .lg rfl
        rintro _ y18 rfl
        refine .bg (fun t (y : Int) =>  t = (A.v (Value.int .i64 y))) ?_ ?_
        · refine .lp (gIf_knownTT hc11) ?_
          exact .lg rfl
        rintro _ y19 rfl
        refine .lp (gIf_knownTT hc11) ?_
        refine .st (v := (A.v (Value.int .i64 ((if y18 < y19 then y19 else y18))))) (by kernel_rfl) ?_
        refine .bg (fun t (y : Bool) => ∃ j21 : A, t = [(A.v (Value.bool y)), j21]) ?_ ?_
        · refine .bKT hc11 ?_
          refine .st (v := (A.v (Value.bool (y17 == ((if y18 < y19 then y19 else y18)))))) (aBin_eql ..) ?_
          exact .lg ⟨_, rfl⟩
        rintro _ y20 ⟨j21, rfl⟩
        iterate 2 refine .uc ?_
        refine .biH (fun hk22 => ?_) (fun hk22 => ?_)
        · exact .ex (x0 _ _ _ _ _)
        · refine .st (v := (A.v (Value.int .i64 (wr .i64 (v4 + 1))))) (aBin_add ..) ?_
          refine .st (v := [Blk.box [(A.imm (List.map c_S_Packet v5) false), (A.imm (List.map c_A2_int_i64 v6) false)]]) (by kernel_rfl) ?_
          refine .cT (by kernel_rfl) ?_
          exact ih _
      · refine .bb ?_
        refine .cr ?_
        refine .bg (fun t (y : Unit) =>  t = (A.v undef)) ?_ ?_
        · refine .lp (gIf_knownTF hc11) ?_
          exact .lg rfl
        rintro _ y23 rfl
        refine .bg (fun t (y : Unit) =>  t = (A.v undef)) ?_ ?_
        · refine .lp (gIf_knownTF hc11) ?_
          exact .lg rfl
        rintro _ y24 rfl
        refine .bg (fun t (y : Unit) =>  t = (A.v undef)) ?_ ?_
        · refine .lp (gIf_knownTF hc11) ?_
          exact .lg rfl
        rintro _ y25 rfl
        refine .bg (fun t (y : Unit) =>  t = (A.v undef)) ?_ ?_
        · refine .lp (gIf_knownTF hc11) ?_
          exact .lg rfl
        rintro _ y26 rfl
        refine .bg (fun t (y : Unit) =>  t = (A.v undef)) ?_ ?_
        · refine .lp (gIf_knownTF hc11) ?_
          exact .lg rfl
        rintro _ y27 rfl
        refine .bg (fun t (y : Unit) =>  t = (A.v undef)) ?_ ?_
        · refine .lp (gIf_knownTF hc11) ?_
          exact .lg rfl
        rintro _ y28 rfl
        refine .bg (fun t (y : Unit) =>  t = (A.v undef)) ?_ ?_
        · refine .lp (gIf_knownTF hc11) ?_
          exact .lg rfl
        rintro _ y29 rfl
        refine .lp (gIf_knownTF hc11) ?_
        refine .bg (fun t (y : Bool) => ∃ j31 : A, t = [(A.v (Value.bool y)), j31]) ?_ ?_
        · refine .bKF hc11 ?_
          exact .lg ⟨_, rfl⟩
        rintro _ y30 ⟨j31, rfl⟩
        iterate 2 refine .uc ?_
        refine .biH (fun hk32 => ?_) (fun hk32 => ?_)
        · exact .ex (x0 _ _ _ _ _)
        · refine .st (v := (A.v (Value.int .i64 (wr .i64 (v4 + 1))))) (aBin_add ..) ?_
          refine .st (v := [Blk.box [(A.imm (List.map c_S_Packet v5) false), (A.imm (List.map c_A2_int_i64 v6) false)]]) (by kernel_rfl) ?_
          refine .cT (by kernel_rfl) ?_
          exact ih _
    · exact .ex (x1 _ _ _ _ _)

def F40 (n : Nat) (a0 : S_Net) (a1 : Int) (a2 : Int) : Option Bool :=
  Option.bind (F40_40_0 n a1 a2 false a0.Queue a0.Apart (n+8) 0) fun o33 => match o33 with | (Sum.inl y34) => some y34 | (Sum.inr _) => some false

theorem T40 (C : Nat → List A → Option A) (n : Nat) (a0 : S_Net) (a1 : Int) (a2 : Int) : J (fun (o : R) y => ∃ v, o.1 = .ret v ∧ snap o.2 v = (A.v (Value.bool y))) (evCall1 (cx C) (evCall (cx C) (n+8)) (evCallY (cx C) (n+8)) (n+8) 40 [(A.agg [(A.imm (List.map c_S_Packet a0.Queue) false), (A.imm (List.map c_A2_int_i64 a0.Apart) false)]), (A.v (Value.int .i64 a1)), (A.v (Value.int .i64 a2))] [] 0) some (F40 n a0 a1 a2) some := by
  refine .lp (e40 ..) ?_
  unfold F40
  refine .st (v := ((A.ptr 0 0), [Blk.box [(A.imm (List.map c_S_Packet a0.Queue) false), (A.imm (List.map c_A2_int_i64 a0.Apart) false)]])) (by kernel_rfl) ?_
  refine .as (T40_40_0 C n  a1 a2 false a0.Queue a0.Apart _ _ _ _ ?_ ?_ _ 0)
  · intro y34 j35 j36 j37 j38
    refine .un rfl ?_
    exact .lf rfl rfl ⟨_, rfl, rfl⟩
  · intro j39 j40 j41 j42 j43
    refine .un rfl ?_
    refine .cT (by kernel_rfl) ?_
    exact .lf rfl rfl ⟨_, rfl, rfl⟩

def G40 (a0 : S_Net) (a1 : Int) (a2 : Int) : Option Bool := F40 fuel0 a0 a1 a2

def Orc40 (C : Nat → List A → Option A) : Prop := ∀ (a0 : S_Net) (a1 : Int) (a2 : Int), C 40 [(A.agg [(A.imm (List.map c_S_Packet a0.Queue) false), (A.imm (List.map c_A2_int_i64 a0.Apart) false)]), (A.v (Value.int .i64 a1)), (A.v (Value.int .i64 a2))] = (G40 a0 a1 a2).map fun y => (A.v (Value.bool y))

def F21_21_1 (n : Nat) (v27 : Int) (v28 : Int) (v29 : Bool) (v30 : Int) (v31 : Int) (v33 : (List S_Packet)) (v34 : (List (Int × Int))) (v35 : (List S_Packet)) (v36 : (List (Int × Int))) : Nat → Int → (List (Int × Int)) → Option ((List (Int × Int)))
  | 0, _, _ => none
  | m + 1, v32, v37 => bif (decide (v32 < 24)) then (Option.bind (G40 ((S_Net.mk v33 v34)) v31 v32) fun y39 => bif (v31 == ((if v28 < v27 then v28 else v27))) then (Option.bind (some v27) fun y43 => Option.bind (some v28) fun y44 => Option.bind (some (v32 == ((if y43 < y44 then y44 else y43)))) fun y45 => bif y45 then (bif v29 then (Option.bind (appI 16 v37 ([(v31, v32)])) fun y49 => F21_21_1 n v27 v28 v29 v30 v31 v33 v34 v35 v36 m (wr .i64 (v32 + 1)) y49) else (F21_21_1 n v27 v28 v29 v30 v31 v33 v34 v35 v36 m (wr .i64 (v32 + 1)) v37)) else (bif y39 then (Option.bind (appI 16 v37 ([(v31, v32)])) fun y51 => F21_21_1 n v27 v28 v29 v30 v31 v33 v34 v35 v36 m (wr .i64 (v32 + 1)) y51) else (F21_21_1 n v27 v28 v29 v30 v31 v33 v34 v35 v36 m (wr .i64 (v32 + 1)) v37))) else (Option.bind (some (())) fun y52 => Option.bind (some (())) fun y53 => Option.bind (some false) fun y54 => bif y54 then (bif v29 then (Option.bind (appI 16 v37 ([(v31, v32)])) fun y58 => F21_21_1 n v27 v28 v29 v30 v31 v33 v34 v35 v36 m (wr .i64 (v32 + 1)) y58) else (F21_21_1 n v27 v28 v29 v30 v31 v33 v34 v35 v36 m (wr .i64 (v32 + 1)) v37)) else (bif y39 then (Option.bind (appI 16 v37 ([(v31, v32)])) fun y60 => F21_21_1 n v27 v28 v29 v30 v31 v33 v34 v35 v36 m (wr .i64 (v32 + 1)) y60) else (F21_21_1 n v27 v28 v29 v30 v31 v33 v34 v35 v36 m (wr .i64 (v32 + 1)) v37)))) else (some v37)

theorem T21_21_1 (C : Nat → List A → Option A) (n : Nat) (h14 : Orc14 C) (h34 : Orc34 C) (h40 : Orc40 C) (v27 : Int) (v28 : Int) (v29 : Bool) (v30 : Int) (v31 : Int) (v33 : (List S_Packet)) (v34 : (List (Int × Int))) (v35 : (List S_Packet)) (v36 : (List (Int × Int))) {ρ γ : Type} {φ : ρ → γ → Prop} {kL : R → Option ρ} {K : ((List (Int × Int))) → Option γ} (kx kg : Nat → St → Option R) (kr : St → Option R) (kp : A → St → Option R) (x0 : ∀ (o0 : (List (Int × Int))) (s12 : A), J φ (kx 2 (St.mk [(1, (A.v (Value.int .i64 v27))), (2, (A.v (Value.int .i64 v28))), (3, (A.v (Value.bool v29))), (4, (A.ptr 0 0)), (8, (A.ptr 1 0)), (9, (A.v (Value.int .i64 v30))), (10, (A.sl 2 0 o0.length false)), (11, (A.v (Value.int .i64 v31))), (12, s12)] [Blk.box [(A.imm (List.map c_S_Packet v33) false), (A.imm (List.map c_A2_int_i64 v34) false)], Blk.box [(A.imm (List.map c_S_Packet v35) true), (A.imm (List.map c_A2_int_i64 v36) true)], Blk.row false 2 (List.map c_A2_int_i64 o0)])) kL (K o0) some) :
    ∀ (m : Nat) (v32 : Int) (v37 : (List (Int × Int))), J φ (loopR (cx C) (evCall (cx C) (n+8)) (evCallY (cx C) (n+8)) (n+8) 21 0 1 3 kx kg kr kp m (St.mk [(1, (A.v (Value.int .i64 v27))), (2, (A.v (Value.int .i64 v28))), (3, (A.v (Value.bool v29))), (4, (A.ptr 0 0)), (8, (A.ptr 1 0)), (9, (A.v (Value.int .i64 v30))), (10, (A.sl 2 0 v37.length false)), (11, (A.v (Value.int .i64 v31))), (12, (A.v (Value.int .i64 v32)))] [Blk.box [(A.imm (List.map c_S_Packet v33) false), (A.imm (List.map c_A2_int_i64 v34) false)], Blk.box [(A.imm (List.map c_S_Packet v35) true), (A.imm (List.map c_A2_int_i64 v36) true)], Blk.row false 2 (List.map c_A2_int_i64 v37)])) kL (F21_21_1 n v27 v28 v29 v30 v31 v33 v34 v35 v36 m v32 v37) K := by
  intro m
  induction m with
  | zero => intros; exact .nn
  | succ m ih =>
    intro v32 v37
    refine .lp (e21_1 ..) ?_
    unfold F21_21_1
    refine .st (v := (A.v (Value.bool (decide (v32 < 24))))) (aBin_lss ..) ?_
    refine .biH (fun hk38 => ?_) (fun hk38 => ?_)
    · refine .st (v := (A.agg [(A.imm (List.map c_S_Packet v33) false), (A.imm (List.map c_A2_int_i64 v34) false)])) (by kernel_rfl) ?_
      refine .bd (g := fun (y : Bool) => (A.v (Value.bool y))) (by simp only [snap, snapW, snapWs, snapWss, snapWss_map, trim, List.map_cons, List.map_nil, fl_cI, fl_c8, fl_cB, fl_cS, fl_cL, fl_S_Packet, fl_A2_int_i64, fl_S_Net, fl_S_kinespherelaw06_Move, snapG_row (H := [Blk.box [(A.imm (List.map c_S_Packet v33) false), (A.imm (List.map c_A2_int_i64 v34) false)], Blk.box [(A.imm (List.map c_S_Packet v35) true), (A.imm (List.map c_A2_int_i64 v36) true)], Blk.row false 2 (List.map c_A2_int_i64 v37)]) (b := 2) (es := 2) (l := v37) fl_A2_int_i64 rfl]; exact h40 ((S_Net.mk v33 v34)) v31 v32) fun y39 => ?_
      refine .st (v := (A.v (Value.int .i64 ((if v28 < v27 then v28 else v27))))) (by kernel_rfl) ?_
      refine .st (v := (A.v (Value.bool (v31 == ((if v28 < v27 then v28 else v27)))))) (aBin_eql ..) ?_
      refine .gst (fun hc42 => ?_) (fun hc42 => ?_)
      · refine .bb ?_
        refine .cr ?_
        refine .bg (fun t (y : Int) =>  t = (A.v (Value.int .i64 y))) ?_ ?_
        · refine .lp (gIf_knownTT hc42) ?_
          exact .lg rfl
        rintro _ y43 rfl
        refine .bg (fun t (y : Int) =>  t = (A.v (Value.int .i64 y))) ?_ ?_
        · refine .lp (gIf_knownTT hc42) ?_
          exact .lg rfl
        rintro _ y44 rfl
        refine .lp (gIf_knownTT hc42) ?_
        refine .st (v := (A.v (Value.int .i64 ((if y43 < y44 then y44 else y43))))) (by kernel_rfl) ?_
        refine .bg (fun t (y : Bool) => ∃ j46 : A, t = [(A.v (Value.bool y)), j46]) ?_ ?_
        · refine .bKT hc42 ?_
          refine .st (v := (A.v (Value.bool (v32 == ((if y43 < y44 then y44 else y43)))))) (aBin_eql ..) ?_
          exact .lg ⟨_, rfl⟩
        rintro _ y45 ⟨j46, rfl⟩
        iterate 2 refine .uc ?_
        refine .biH (fun hk47 => ?_) (fun hk47 => ?_)
        · refine .biH (fun hk48 => ?_) (fun hk48 => ?_)
          · refine .st (v := (A.agg [(A.v (Value.int .i64 v31)), (A.v (Value.int .i64 v32))])) (by kernel_rfl) ?_
            refine .st (v := (A.imm [[(A.v (Value.int .i64 v31)), (A.v (Value.int .i64 v32))]] true)) (by kernel_rfl) ?_
            refine .bd (g := fun (y : List (Int × Int)) => ((A.sl 2 0 y.length false), [Blk.box [(A.imm (List.map c_S_Packet v33) false), (A.imm (List.map c_A2_int_i64 v34) false)], Blk.box [(A.imm (List.map c_S_Packet v35) true), (A.imm (List.map c_A2_int_i64 v36) true)], Blk.row false 2 (List.map c_A2_int_i64 y)])) (app_row (e := 55) (es := 2) (by_ := 16) (z := [(A.v (Value.int .i64 0)), (A.v (Value.int .i64 0))]) (by kernel_rfl) (by kernel_rfl) (by kernel_rfl) (by kernel_rfl) rfl (by decide) (by decide) (by kernel_rfl) (f := c_A2_int_i64) (fun _ => rfl) ce_A2_int_i64 (l := v37) (l2 := [(v31, v32)]) (b := 2) rfl (by decide) (els_imm (f := c_A2_int_i64) ([(v31, v32)] : List (Int × Int)) _ _)) fun y49 => ?_
            refine .st (v := (A.v (Value.int .i64 (wr .i64 (v32 + 1))))) (aBin_add ..) ?_
            refine .st (v := [Blk.box [(A.imm (List.map c_S_Packet v33) false), (A.imm (List.map c_A2_int_i64 v34) false)], Blk.box [(A.imm (List.map c_S_Packet v35) true), (A.imm (List.map c_A2_int_i64 v36) true)], Blk.row false 2 (List.map c_A2_int_i64 y49)]) (by kernel_rfl) ?_
            refine .cT (by kernel_rfl) ?_
            exact ih _ _
          · refine .st (v := (A.v (Value.int .i64 (wr .i64 (v32 + 1))))) (aBin_add ..) ?_
            refine .st (v := [Blk.box [(A.imm (List.map c_S_Packet v33) false), (A.imm (List.map c_A2_int_i64 v34) false)], Blk.box [(A.imm (List.map c_S_Packet v35) true), (A.imm (List.map c_A2_int_i64 v36) true)], Blk.row false 2 (List.map c_A2_int_i64 v37)]) (by kernel_rfl) ?_
            refine .cT (by kernel_rfl) ?_
            exact ih _ _
        · refine .biH (fun hk50 => ?_) (fun hk50 => ?_)
          · refine .st (v := (A.agg [(A.v (Value.int .i64 v31)), (A.v (Value.int .i64 v32))])) (by kernel_rfl) ?_
            refine .st (v := (A.imm [[(A.v (Value.int .i64 v31)), (A.v (Value.int .i64 v32))]] true)) (by kernel_rfl) ?_
            refine .bd (g := fun (y : List (Int × Int)) => ((A.sl 2 0 y.length false), [Blk.box [(A.imm (List.map c_S_Packet v33) false), (A.imm (List.map c_A2_int_i64 v34) false)], Blk.box [(A.imm (List.map c_S_Packet v35) true), (A.imm (List.map c_A2_int_i64 v36) true)], Blk.row false 2 (List.map c_A2_int_i64 y)])) (app_row (e := 55) (es := 2) (by_ := 16) (z := [(A.v (Value.int .i64 0)), (A.v (Value.int .i64 0))]) (by kernel_rfl) (by kernel_rfl) (by kernel_rfl) (by kernel_rfl) rfl (by decide) (by decide) (by kernel_rfl) (f := c_A2_int_i64) (fun _ => rfl) ce_A2_int_i64 (l := v37) (l2 := [(v31, v32)]) (b := 2) rfl (by decide) (els_imm (f := c_A2_int_i64) ([(v31, v32)] : List (Int × Int)) _ _)) fun y51 => ?_
            refine .st (v := (A.v (Value.int .i64 (wr .i64 (v32 + 1))))) (aBin_add ..) ?_
            refine .st (v := [Blk.box [(A.imm (List.map c_S_Packet v33) false), (A.imm (List.map c_A2_int_i64 v34) false)], Blk.box [(A.imm (List.map c_S_Packet v35) true), (A.imm (List.map c_A2_int_i64 v36) true)], Blk.row false 2 (List.map c_A2_int_i64 y51)]) (by kernel_rfl) ?_
            refine .cT (by kernel_rfl) ?_
            exact ih _ _
          · refine .st (v := (A.v (Value.int .i64 (wr .i64 (v32 + 1))))) (aBin_add ..) ?_
            refine .st (v := [Blk.box [(A.imm (List.map c_S_Packet v33) false), (A.imm (List.map c_A2_int_i64 v34) false)], Blk.box [(A.imm (List.map c_S_Packet v35) true), (A.imm (List.map c_A2_int_i64 v36) true)], Blk.row false 2 (List.map c_A2_int_i64 v37)]) (by kernel_rfl) ?_
            refine .cT (by kernel_rfl) ?_
            exact ih _ _
      · refine .bb ?_
        refine .cr ?_
        refine .bg (fun t (y : Unit) =>  t = (A.v undef)) ?_ ?_
        · refine .lp (gIf_knownTF hc42) ?_
          exact .lg rfl
        rintro _ y52 rfl
        refine .bg (fun t (y : Unit) =>  t = (A.v undef)) ?_ ?_
        · refine .lp (gIf_knownTF hc42) ?_
          exact .lg rfl
        rintro _ y53 rfl
        refine .lp (gIf_knownTF hc42) ?_
        refine .bg (fun t (y : Bool) => ∃ j55 : A, t = [(A.v (Value.bool y)), j55]) ?_ ?_
        · refine .bKF hc42 ?_
          exact .lg ⟨_, rfl⟩
        rintro _ y54 ⟨j55, rfl⟩
        iterate 2 refine .uc ?_
        refine .biH (fun hk56 => ?_) (fun hk56 => ?_)
        · refine .biH (fun hk57 => ?_) (fun hk57 => ?_)
          · refine .st (v := (A.agg [(A.v (Value.int .i64 v31)), (A.v (Value.int .i64 v32))])) (by kernel_rfl) ?_
            refine .st (v := (A.imm [[(A.v (Value.int .i64 v31)), (A.v (Value.int .i64 v32))]] true)) (by kernel_rfl) ?_
            refine .bd (g := fun (y : List (Int × Int)) => ((A.sl 2 0 y.length false), [Blk.box [(A.imm (List.map c_S_Packet v33) false), (A.imm (List.map c_A2_int_i64 v34) false)], Blk.box [(A.imm (List.map c_S_Packet v35) true), (A.imm (List.map c_A2_int_i64 v36) true)], Blk.row false 2 (List.map c_A2_int_i64 y)])) (app_row (e := 55) (es := 2) (by_ := 16) (z := [(A.v (Value.int .i64 0)), (A.v (Value.int .i64 0))]) (by kernel_rfl) (by kernel_rfl) (by kernel_rfl) (by kernel_rfl) rfl (by decide) (by decide) (by kernel_rfl) (f := c_A2_int_i64) (fun _ => rfl) ce_A2_int_i64 (l := v37) (l2 := [(v31, v32)]) (b := 2) rfl (by decide) (els_imm (f := c_A2_int_i64) ([(v31, v32)] : List (Int × Int)) _ _)) fun y58 => ?_
            refine .st (v := (A.v (Value.int .i64 (wr .i64 (v32 + 1))))) (aBin_add ..) ?_
            refine .st (v := [Blk.box [(A.imm (List.map c_S_Packet v33) false), (A.imm (List.map c_A2_int_i64 v34) false)], Blk.box [(A.imm (List.map c_S_Packet v35) true), (A.imm (List.map c_A2_int_i64 v36) true)], Blk.row false 2 (List.map c_A2_int_i64 y58)]) (by kernel_rfl) ?_
            refine .cT (by kernel_rfl) ?_
            exact ih _ _
          · refine .st (v := (A.v (Value.int .i64 (wr .i64 (v32 + 1))))) (aBin_add ..) ?_
            refine .st (v := [Blk.box [(A.imm (List.map c_S_Packet v33) false), (A.imm (List.map c_A2_int_i64 v34) false)], Blk.box [(A.imm (List.map c_S_Packet v35) true), (A.imm (List.map c_A2_int_i64 v36) true)], Blk.row false 2 (List.map c_A2_int_i64 v37)]) (by kernel_rfl) ?_
            refine .cT (by kernel_rfl) ?_
            exact ih _ _
        · refine .biH (fun hk59 => ?_) (fun hk59 => ?_)
          · refine .st (v := (A.agg [(A.v (Value.int .i64 v31)), (A.v (Value.int .i64 v32))])) (by kernel_rfl) ?_
            refine .st (v := (A.imm [[(A.v (Value.int .i64 v31)), (A.v (Value.int .i64 v32))]] true)) (by kernel_rfl) ?_
            refine .bd (g := fun (y : List (Int × Int)) => ((A.sl 2 0 y.length false), [Blk.box [(A.imm (List.map c_S_Packet v33) false), (A.imm (List.map c_A2_int_i64 v34) false)], Blk.box [(A.imm (List.map c_S_Packet v35) true), (A.imm (List.map c_A2_int_i64 v36) true)], Blk.row false 2 (List.map c_A2_int_i64 y)])) (app_row (e := 55) (es := 2) (by_ := 16) (z := [(A.v (Value.int .i64 0)), (A.v (Value.int .i64 0))]) (by kernel_rfl) (by kernel_rfl) (by kernel_rfl) (by kernel_rfl) rfl (by decide) (by decide) (by kernel_rfl) (f := c_A2_int_i64) (fun _ => rfl) ce_A2_int_i64 (l := v37) (l2 := [(v31, v32)]) (b := 2) rfl (by decide) (els_imm (f := c_A2_int_i64) ([(v31, v32)] : List (Int × Int)) _ _)) fun y60 => ?_
            refine .st (v := (A.v (Value.int .i64 (wr .i64 (v32 + 1))))) (aBin_add ..) ?_
            refine .st (v := [Blk.box [(A.imm (List.map c_S_Packet v33) false), (A.imm (List.map c_A2_int_i64 v34) false)], Blk.box [(A.imm (List.map c_S_Packet v35) true), (A.imm (List.map c_A2_int_i64 v36) true)], Blk.row false 2 (List.map c_A2_int_i64 y60)]) (by kernel_rfl) ?_
            refine .cT (by kernel_rfl) ?_
            exact ih _ _
          · refine .st (v := (A.v (Value.int .i64 (wr .i64 (v32 + 1))))) (aBin_add ..) ?_
            refine .st (v := [Blk.box [(A.imm (List.map c_S_Packet v33) false), (A.imm (List.map c_A2_int_i64 v34) false)], Blk.box [(A.imm (List.map c_S_Packet v35) true), (A.imm (List.map c_A2_int_i64 v36) true)], Blk.row false 2 (List.map c_A2_int_i64 v37)]) (by kernel_rfl) ?_
            refine .cT (by kernel_rfl) ?_
            exact ih _ _
    · exact .ex (x0 _ _)

def F21_21_0 (n : Nat) (v16 : Int) (v17 : Int) (v18 : Bool) (v19 : Int) (v21 : (List S_Packet)) (v22 : (List (Int × Int))) (v23 : (List S_Packet)) (v24 : (List (Int × Int))) : Nat → Int → (List (Int × Int)) → Option ((List (Int × Int)))
  | 0, _, _ => none
  | m + 1, v20, v25 => bif (decide (v20 < 24)) then (Option.bind (F21_21_1 n v16 v17 v18 v19 v20 v21 v22 v23 v24 (n+8) (wr .i64 (v20 + 1)) v25) fun o61 => match o61 with | y62 => F21_21_0 n v16 v17 v18 v19 v21 v22 v23 v24 m (wr .i64 (v20 + 1)) y62) else (some v25)

theorem T21_21_0 (C : Nat → List A → Option A) (n : Nat) (h14 : Orc14 C) (h34 : Orc34 C) (h40 : Orc40 C) (v16 : Int) (v17 : Int) (v18 : Bool) (v19 : Int) (v21 : (List S_Packet)) (v22 : (List (Int × Int))) (v23 : (List S_Packet)) (v24 : (List (Int × Int))) {ρ γ : Type} {φ : ρ → γ → Prop} {kL : R → Option ρ} {K : ((List (Int × Int))) → Option γ} (kx kg : Nat → St → Option R) (kr : St → Option R) (kp : A → St → Option R) (x0 : ∀ (o0 : (List (Int × Int))) (s1 : A) (s2 : A) (s3 : A) (s9 : A) (s11 : A), J φ (kx 0 (St.mk [(1, s1), (2, s2), (3, s3), (4, (A.ptr 0 0)), (8, (A.ptr 1 0)), (9, s9), (10, (A.sl 2 0 o0.length false)), (11, s11)] [Blk.box [(A.imm (List.map c_S_Packet v21) false), (A.imm (List.map c_A2_int_i64 v22) false)], Blk.box [(A.imm (List.map c_S_Packet v23) true), (A.imm (List.map c_A2_int_i64 v24) true)], Blk.row false 2 (List.map c_A2_int_i64 o0)])) kL (K o0) some) :
    ∀ (m : Nat) (v20 : Int) (v25 : (List (Int × Int))), J φ (loopR (cx C) (evCall (cx C) (n+8)) (evCallY (cx C) (n+8)) (n+8) 21 0 0 3 kx kg kr kp m (St.mk [(1, (A.v (Value.int .i64 v16))), (2, (A.v (Value.int .i64 v17))), (3, (A.v (Value.bool v18))), (4, (A.ptr 0 0)), (8, (A.ptr 1 0)), (9, (A.v (Value.int .i64 v19))), (10, (A.sl 2 0 v25.length false)), (11, (A.v (Value.int .i64 v20)))] [Blk.box [(A.imm (List.map c_S_Packet v21) false), (A.imm (List.map c_A2_int_i64 v22) false)], Blk.box [(A.imm (List.map c_S_Packet v23) true), (A.imm (List.map c_A2_int_i64 v24) true)], Blk.row false 2 (List.map c_A2_int_i64 v25)])) kL (F21_21_0 n v16 v17 v18 v19 v21 v22 v23 v24 m v20 v25) K := by
  intro m
  induction m with
  | zero => intros; exact .nn
  | succ m ih =>
    intro v20 v25
    refine .lp (e21_0 ..) ?_
    unfold F21_21_0
    refine .st (v := (A.v (Value.bool (decide (v20 < 24))))) (aBin_lss ..) ?_
    refine .biH (fun hk26 => ?_) (fun hk26 => ?_)
    · refine .st (v := (A.v (Value.int .i64 (wr .i64 (v20 + 1))))) (aBin_add ..) ?_
      refine .as (T21_21_1 C n h14 h34 h40 v16 v17 v18 v19 v20 v21 v22 v23 v24 _ _ _ _ ?_ _ (wr .i64 (v20 + 1)) v25)
      · intro y62 j63
        refine .un rfl ?_
        refine .cT (by kernel_rfl) ?_
        refine .st (v := (A.v (Value.int .i64 (wr .i64 (v20 + 1))))) (aBin_add ..) ?_
        refine .st (v := [Blk.box [(A.imm (List.map c_S_Packet v21) false), (A.imm (List.map c_A2_int_i64 v22) false)], Blk.box [(A.imm (List.map c_S_Packet v23) true), (A.imm (List.map c_A2_int_i64 v24) true)], Blk.row false 2 (List.map c_A2_int_i64 y62)]) (by kernel_rfl) ?_
        refine .cT (by kernel_rfl) ?_
        exact ih _ _
    · exact .ex (x0 _ _ _ _ _ _)

def F21 (n : Nat) (a0 : S_Net) (a1 : Int) (a2 : Int) (a3 : Bool) : Option (S_Net × Int) :=
  Option.bind (G14 a0) fun y1 => bif (y1 != 0) then (some (((S_Net.mk ([]) ([])), 60))) else (Option.bind (G34 a1) fun y3 => Option.bind (bif (!y3) then (some true) else (Option.bind (G34 a2) fun y5 => some (!y5))) fun y6 => Option.bind (bif y6 then (some true) else (some (a1 == a2))) fun y11 => bif y11 then (some (((S_Net.mk ([]) ([])), 1))) else (Option.bind (F21_21_0 n a1 a2 a3 0 a0.Queue a0.Apart ([]) ([]) (n+8) 0 (([] : List (Int × Int)))) fun o64 => match o64 with | y65 => some (((S_Net.mk a0.Queue y65), 0))))

theorem T21 (C : Nat → List A → Option A) (n : Nat) (h14 : Orc14 C) (h34 : Orc34 C) (h40 : Orc40 C) (a0 : S_Net) (a1 : Int) (a2 : Int) (a3 : Bool) : J (fun (o : R) y => ∃ v, o.1 = .ret v ∧ snap o.2 v = (A.tup [(A.agg [(A.imm (List.map c_S_Packet y.1.Queue) false), (A.imm (List.map c_A2_int_i64 y.1.Apart) false)]), (A.v (Value.int .i64 y.2))])) (evCall1 (cx C) (evCall (cx C) (n+8)) (evCallY (cx C) (n+8)) (n+8) 21 [(A.agg [(A.imm (List.map c_S_Packet a0.Queue) false), (A.imm (List.map c_A2_int_i64 a0.Apart) false)]), (A.v (Value.int .i64 a1)), (A.v (Value.int .i64 a2)), (A.v (Value.bool a3))] [] 0) some (F21 n a0 a1 a2 a3) some := by
  refine .lp (e21 ..) ?_
  unfold F21
  refine .st (v := ((A.ptr 0 0), [Blk.box [(A.imm (List.map c_S_Packet a0.Queue) false), (A.imm (List.map c_A2_int_i64 a0.Apart) false)]])) (by kernel_rfl) ?_
  refine .st (v := ((A.ptr 1 0), [Blk.box [(A.imm (List.map c_S_Packet a0.Queue) false), (A.imm (List.map c_A2_int_i64 a0.Apart) false)], Blk.box [(A.imm [] true), (A.imm [] true)]])) (by kernel_rfl) ?_
  refine .st (v := (A.agg [(A.imm (List.map c_S_Packet a0.Queue) false), (A.imm (List.map c_A2_int_i64 a0.Apart) false)])) (by kernel_rfl) ?_
  refine .bd (g := fun (y : Int) => (A.v (Value.int .i64 y))) (by simp only [snap, snapW, snapWs, snapWss, snapWss_map, trim, List.map_cons, List.map_nil, fl_cI, fl_c8, fl_cB, fl_cS, fl_cL, fl_S_Packet, fl_A2_int_i64, fl_S_Net, fl_S_kinespherelaw06_Move]; exact h14 a0) fun y1 => ?_
  refine .st (v := (A.v (Value.bool (y1 != 0)))) (aBin_neq ..) ?_
  refine .biH (fun hk2 => ?_) (fun hk2 => ?_)
  · refine .st (v := (A.agg [(A.imm [] true), (A.imm [] true)])) (by kernel_rfl) ?_
    refine .st (v := [Blk.box [(A.imm (List.map c_S_Packet a0.Queue) false), (A.imm (List.map c_A2_int_i64 a0.Apart) false)], Blk.box [(A.imm [] true), (A.imm [] true)]]) (by kernel_rfl) ?_
    refine .st (v := (A.agg [(A.imm [] true), (A.imm [] true)])) (by kernel_rfl) ?_
    exact .lf rfl rfl ⟨_, rfl, by simp only [snap, snapW, snapWs, snapWss, snapWss_map, trim, List.map_cons, List.map_nil, fl_cI, fl_c8, fl_cB, fl_cS, fl_cL, fl_S_Packet, fl_A2_int_i64, fl_S_Net, fl_S_kinespherelaw06_Move]⟩
  · refine .bd (g := fun (y : Bool) => (A.v (Value.bool y))) (h34 a1) fun y3 => ?_
    refine .st (v := (A.v (Value.bool (!y3)))) (by kernel_rfl) ?_
    refine .bg (fun t (y : Bool) => ∃ j7 j8 j9 : A, t = [(A.v (Value.bool y)), j7, j8, j9]) ?_ ?_
    · refine .biH (fun hk4 => ?_) (fun hk4 => ?_)
      · exact .lg ⟨_, _, _, rfl⟩
      · refine .bd (g := fun (y : Bool) => (A.v (Value.bool y))) (h34 a2) fun y5 => ?_
        refine .st (v := (A.v (Value.bool (!y5)))) (by kernel_rfl) ?_
        exact .lg ⟨_, _, _, rfl⟩
    rintro _ y6 ⟨j7, j8, j9, rfl⟩
    iterate 4 refine .uc ?_
    refine .bg (fun t (y : Bool) => ∃ j12 j13 j14 : A, t = [(A.v (Value.bool y)), j12, j13, j14]) ?_ ?_
    · refine .biH (fun hk10 => ?_) (fun hk10 => ?_)
      · exact .lg ⟨_, _, _, rfl⟩
      · refine .st (v := (A.v (Value.bool (a1 == a2)))) (aBin_eql ..) ?_
        exact .lg ⟨_, _, _, rfl⟩
    rintro _ y11 ⟨j12, j13, j14, rfl⟩
    iterate 4 refine .uc ?_
    refine .biH (fun hk15 => ?_) (fun hk15 => ?_)
    · refine .st (v := (A.agg [(A.imm [] true), (A.imm [] true)])) (by kernel_rfl) ?_
      refine .st (v := [Blk.box [(A.imm (List.map c_S_Packet a0.Queue) false), (A.imm (List.map c_A2_int_i64 a0.Apart) false)], Blk.box [(A.imm [] true), (A.imm [] true)]]) (by kernel_rfl) ?_
      refine .st (v := (A.agg [(A.imm [] true), (A.imm [] true)])) (by kernel_rfl) ?_
      exact .lf rfl rfl ⟨_, rfl, by simp only [snap, snapW, snapWs, snapWss, snapWss_map, trim, List.map_cons, List.map_nil, fl_cI, fl_c8, fl_cB, fl_cS, fl_cL, fl_S_Packet, fl_A2_int_i64, fl_S_Net, fl_S_kinespherelaw06_Move]⟩
    · refine .as (T21_21_0 C n h14 h34 h40 a1 a2 a3 0 a0.Queue a0.Apart ([]) ([]) _ _ _ _ ?_ _ 0 (([] : List (Int × Int))))
      · intro y65 j66 j67 j68 j69 j70
        refine .un rfl ?_
        refine .cT (by kernel_rfl) ?_
        refine .st (v := (A.ptr 0 1)) (by kernel_rfl) ?_
        refine .st (v := [Blk.box [(A.imm (List.map c_S_Packet a0.Queue) false), (A.sl 2 0 y65.length false)], Blk.box [(A.imm (List.map c_S_Packet ([])) true), (A.imm (List.map c_A2_int_i64 ([])) true)], Blk.row false 2 (List.map c_A2_int_i64 y65)]) (by kernel_rfl) ?_
        refine .st (v := (A.agg [(A.imm (List.map c_S_Packet a0.Queue) false), (A.sl 2 0 y65.length false)])) (by kernel_rfl) ?_
        refine .st (v := [Blk.box [(A.imm (List.map c_S_Packet a0.Queue) false), (A.sl 2 0 y65.length false)], Blk.box [(A.imm (List.map c_S_Packet a0.Queue) false), (A.sl 2 0 y65.length false)], Blk.row false 2 (List.map c_A2_int_i64 y65)]) (by kernel_rfl) ?_
        refine .st (v := (A.agg [(A.imm (List.map c_S_Packet a0.Queue) false), (A.sl 2 0 y65.length false)])) (by kernel_rfl) ?_
        exact .lf rfl rfl ⟨_, rfl, by simp only [snap, snapW, snapWs, snapWss, snapWss_map, trim, List.map_cons, List.map_nil, fl_cI, fl_c8, fl_cB, fl_cS, fl_cL, fl_S_Packet, fl_A2_int_i64, fl_S_Net, fl_S_kinespherelaw06_Move, snapG_row (H := [Blk.box [(A.imm (List.map c_S_Packet a0.Queue) false), (A.sl 2 0 y65.length false)], Blk.box [(A.imm (List.map c_S_Packet a0.Queue) false), (A.sl 2 0 y65.length false)], Blk.row false 2 (List.map c_A2_int_i64 y65)]) (b := 2) (es := 2) (l := y65) fl_A2_int_i64 rfl]⟩

def G21 (a0 : S_Net) (a1 : Int) (a2 : Int) (a3 : Bool) : Option (S_Net × Int) := F21 fuel0 a0 a1 a2 a3

def Orc21 (C : Nat → List A → Option A) : Prop := ∀ (a0 : S_Net) (a1 : Int) (a2 : Int) (a3 : Bool), C 21 [(A.agg [(A.imm (List.map c_S_Packet a0.Queue) false), (A.imm (List.map c_A2_int_i64 a0.Apart) false)]), (A.v (Value.int .i64 a1)), (A.v (Value.int .i64 a2)), (A.v (Value.bool a3))] = (G21 a0 a1 a2 a3).map fun y => (A.tup [(A.agg [(A.imm (List.map c_S_Packet y.1.Queue) false), (A.imm (List.map c_A2_int_i64 y.1.Apart) false)]), (A.v (Value.int .i64 y.2))])

def F41 (n : Nat) (a0 : S_Net) (a1 : Int) : Option Int :=
  Option.bind (G14 a0) fun y1 => bif (y1 != 0) then (some 60) else (Option.bind (bif (decide (a1 < 0)) then (some true) else (some (decide (((a0.Queue.length : Int)) ≤ a1)))) fun y4 => bif y4 then (some 1) else (some 0))

theorem T41 (C : Nat → List A → Option A) (n : Nat) (h14 : Orc14 C) (a0 : S_Net) (a1 : Int) : J (fun (o : R) y => ∃ v, o.1 = .ret v ∧ snap o.2 v = (A.v (Value.int .i64 y))) (evCall1 (cx C) (evCall (cx C) (n+8)) (evCallY (cx C) (n+8)) (n+8) 41 [(A.agg [(A.imm (List.map c_S_Packet a0.Queue) false), (A.imm (List.map c_A2_int_i64 a0.Apart) false)]), (A.v (Value.int .i64 a1))] [] 0) some (F41 n a0 a1) some := by
  refine .lp (e41 ..) ?_
  unfold F41
  refine .st (v := ((A.ptr 0 0), [Blk.box [(A.imm (List.map c_S_Packet a0.Queue) false), (A.imm (List.map c_A2_int_i64 a0.Apart) false)]])) (by kernel_rfl) ?_
  refine .st (v := (A.agg [(A.imm (List.map c_S_Packet a0.Queue) false), (A.imm (List.map c_A2_int_i64 a0.Apart) false)])) (by kernel_rfl) ?_
  refine .bd (g := fun (y : Int) => (A.v (Value.int .i64 y))) (by simp only [snap, snapW, snapWs, snapWss, snapWss_map, trim, List.map_cons, List.map_nil, fl_cI, fl_c8, fl_cB, fl_cS, fl_cL, fl_S_Packet, fl_A2_int_i64, fl_S_Net, fl_S_kinespherelaw06_Move]; exact h14 a0) fun y1 => ?_
  refine .st (v := (A.v (Value.bool (y1 != 0)))) (aBin_neq ..) ?_
  refine .biH (fun hk2 => ?_) (fun hk2 => ?_)
  · exact .lf rfl rfl ⟨_, rfl, rfl⟩
  · refine .st (v := (A.v (Value.bool (decide (a1 < 0))))) (aBin_lss ..) ?_
    refine .bg (fun t (y : Bool) => ∃ j5 j6 j7 j8 j9 : A, t = [(A.v (Value.bool y)), j5, j6, j7, j8, j9]) ?_ ?_
    · refine .biH (fun hk3 => ?_) (fun hk3 => ?_)
      · exact .lg ⟨_, _, _, _, _, rfl⟩
      · refine .st (v := (A.ptr 0 0)) (by kernel_rfl) ?_
        refine .st (v := (A.imm (List.map c_S_Packet a0.Queue) false)) (by kernel_rfl) ?_
        refine .st (v := (A.v (Value.int .i64 ((a0.Queue.length : Int))))) (len_imm (e := 28) (h1 := by kernel_rfl) ..) ?_
        refine .st (v := (A.v (Value.bool (decide (((a0.Queue.length : Int)) ≤ a1))))) (aBin_geq ..) ?_
        exact .lg ⟨_, _, _, _, _, rfl⟩
    rintro _ y4 ⟨j5, j6, j7, j8, j9, rfl⟩
    iterate 6 refine .uc ?_
    refine .biH (fun hk10 => ?_) (fun hk10 => ?_)
    · exact .lf rfl rfl ⟨_, rfl, rfl⟩
    · exact .lf rfl rfl ⟨_, rfl, rfl⟩

def G41 (a0 : S_Net) (a1 : Int) : Option Int := F41 fuel0 a0 a1

def Orc41 (C : Nat → List A → Option A) : Prop := ∀ (a0 : S_Net) (a1 : Int), C 41 [(A.agg [(A.imm (List.map c_S_Packet a0.Queue) false), (A.imm (List.map c_A2_int_i64 a0.Apart) false)]), (A.v (Value.int .i64 a1))] = (G41 a0 a1).map fun y => (A.v (Value.int .i64 y))

def F42 (n : Nat) (a0 : S_Net) (a1 : Int) : Option S_Net :=
  Option.bind (subI a0.Queue 0 a1) fun y1 => Option.bind (appI 40 ([]) y1) fun y2 => Option.bind (subI a0.Queue (wr .i64 (a1 + 1)) ((a0.Queue.length : Int))) fun y3 => Option.bind (appI 40 y2 y3) fun y4 => some ((S_Net.mk y4 a0.Apart))

theorem T42 (C : Nat → List A → Option A) (n : Nat) (a0 : S_Net) (a1 : Int) : J (fun (o : R) y => ∃ v, o.1 = .ret v ∧ snap o.2 v = (A.agg [(A.imm (List.map c_S_Packet y.Queue) false), (A.imm (List.map c_A2_int_i64 y.Apart) false)])) (evCall1 (cx C) (evCall (cx C) (n+8)) (evCallY (cx C) (n+8)) (n+8) 42 [(A.agg [(A.imm (List.map c_S_Packet a0.Queue) false), (A.imm (List.map c_A2_int_i64 a0.Apart) false)]), (A.v (Value.int .i64 a1))] [] 0) some (F42 n a0 a1) some := by
  refine .lp (e42 ..) ?_
  unfold F42
  refine .st (v := ((A.ptr 0 0), [Blk.box [(A.imm (List.map c_S_Packet a0.Queue) false), (A.imm (List.map c_A2_int_i64 a0.Apart) false)]])) (by kernel_rfl) ?_
  refine .st (v := ((A.ptr 1 0), [Blk.box [(A.imm (List.map c_S_Packet a0.Queue) false), (A.imm (List.map c_A2_int_i64 a0.Apart) false)], Blk.box [(A.imm [] true), (A.imm [] true)]])) (by kernel_rfl) ?_
  refine .st (v := (A.imm [] true)) (by kernel_rfl) ?_
  refine .st (v := (A.ptr 0 0)) (by kernel_rfl) ?_
  refine .st (v := (A.imm (List.map c_S_Packet a0.Queue) false)) (by kernel_rfl) ?_
  refine .bd (g := fun (y : List S_Packet) => (A.imm (List.map c_S_Packet y) false)) (cut_imm (e := 28) (es := 3) (f := c_S_Packet) (l := a0.Queue) (a := 0) (b := a1) (by kernel_rfl) (by kernel_rfl) (fun _ => rfl) (.inl ⟨rfl, rfl⟩) (.inr ⟨_, rfl⟩)) fun y1 => ?_
  refine .bd (g := fun (y : List S_Packet) => ((A.sl 2 0 y.length false), [Blk.box [(A.imm (List.map c_S_Packet a0.Queue) false), (A.imm (List.map c_A2_int_i64 a0.Apart) false)], Blk.box [(A.imm [] true), (A.imm [] true)], Blk.row false 3 (List.map c_S_Packet y)])) (app_imm (e := 28) (es := 3) (by_ := 40) (z := [(A.v (Value.int .i64 0)), (A.v (Value.int .i64 0)), (A.imm [] true)]) (by kernel_rfl) (by kernel_rfl) (by kernel_rfl) (by kernel_rfl) rfl (by decide) (by decide) (by kernel_rfl) (f := c_S_Packet) (fun _ => rfl) ce_S_Packet (l := []) (l2 := y1) (els_imm ..)) fun y2 => ?_
  refine .cT (by kernel_rfl) ?_
  refine .st (v := (A.ptr 0 0)) (by kernel_rfl) ?_
  refine .cT (by kernel_rfl) ?_
  refine .st (v := (A.imm (List.map c_S_Packet a0.Queue) false)) (by kernel_rfl) ?_
  refine .st (v := (A.v (Value.int .i64 (wr .i64 (a1 + 1))))) (aBin_add ..) ?_
  refine .cT (by kernel_rfl) ?_
  refine .bd (g := fun (y : List S_Packet) => (A.imm (List.map c_S_Packet y) false)) (cut_imm (e := 28) (es := 3) (f := c_S_Packet) (l := a0.Queue) (a := wr .i64 (a1 + 1)) (b := (a0.Queue.length : Int)) (by kernel_rfl) (by kernel_rfl) (fun _ => rfl) (.inr ⟨_, rfl⟩) (.inl ⟨rfl, rfl⟩)) fun y3 => ?_
  refine .bd (g := fun (y : List S_Packet) => ((A.sl 2 0 y.length false), [Blk.box [(A.imm (List.map c_S_Packet a0.Queue) false), (A.imm (List.map c_A2_int_i64 a0.Apart) false)], Blk.box [(A.imm [] true), (A.imm [] true)], Blk.row false 3 (List.map c_S_Packet y)])) (app_row (e := 28) (es := 3) (by_ := 40) (z := [(A.v (Value.int .i64 0)), (A.v (Value.int .i64 0)), (A.imm [] true)]) (by kernel_rfl) (by kernel_rfl) (by kernel_rfl) (by kernel_rfl) rfl (by decide) (by decide) (by kernel_rfl) (f := c_S_Packet) (fun _ => rfl) ce_S_Packet (l := y2) (l2 := y3) (b := 2) rfl (by decide) (els_imm ..)) fun y4 => ?_
  refine .st (v := (A.ptr 0 0)) (by kernel_rfl) ?_
  refine .st (v := [Blk.box [(A.sl 2 0 y4.length false), (A.imm (List.map c_A2_int_i64 a0.Apart) false)], Blk.box [(A.imm [] true), (A.imm [] true)], Blk.row false 3 (List.map c_S_Packet y4)]) (by kernel_rfl) ?_
  refine .st (v := (A.agg [(A.sl 2 0 y4.length false), (A.imm (List.map c_A2_int_i64 a0.Apart) false)])) (by kernel_rfl) ?_
  refine .st (v := [Blk.box [(A.sl 2 0 y4.length false), (A.imm (List.map c_A2_int_i64 a0.Apart) false)], Blk.box [(A.sl 2 0 y4.length false), (A.imm (List.map c_A2_int_i64 a0.Apart) false)], Blk.row false 3 (List.map c_S_Packet y4)]) (by kernel_rfl) ?_
  refine .st (v := (A.agg [(A.sl 2 0 y4.length false), (A.imm (List.map c_A2_int_i64 a0.Apart) false)])) (by kernel_rfl) ?_
  exact .lf rfl rfl ⟨_, rfl, by simp only [snap, snapW, snapWs, snapWss, snapWss_map, trim, List.map_cons, List.map_nil, fl_cI, fl_c8, fl_cB, fl_cS, fl_cL, fl_S_Packet, fl_A2_int_i64, fl_S_Net, fl_S_kinespherelaw06_Move, snapG_row (H := [Blk.box [(A.sl 2 0 y4.length false), (A.imm (List.map c_A2_int_i64 a0.Apart) false)], Blk.box [(A.sl 2 0 y4.length false), (A.imm (List.map c_A2_int_i64 a0.Apart) false)], Blk.row false 3 (List.map c_S_Packet y4)]) (b := 2) (es := 3) (l := y4) fl_S_Packet rfl]⟩

def G42 (a0 : S_Net) (a1 : Int) : Option S_Net := F42 fuel0 a0 a1

def Orc42 (C : Nat → List A → Option A) : Prop := ∀ (a0 : S_Net) (a1 : Int), C 42 [(A.agg [(A.imm (List.map c_S_Packet a0.Queue) false), (A.imm (List.map c_A2_int_i64 a0.Apart) false)]), (A.v (Value.int .i64 a1))] = (G42 a0 a1).map fun y => (A.agg [(A.imm (List.map c_S_Packet y.Queue) false), (A.imm (List.map c_A2_int_i64 y.Apart) false)])

def F22 (n : Nat) (a0 : S_Net) (a1 : Int) : Option (S_Packet × S_Net × Int) :=
  Option.bind (G41 a0 a1) fun y1 => bif (y1 != 0) then (some (((S_Packet.mk 0 0 ([])), (S_Net.mk ([]) ([])), y1))) else (Option.bind (getI a0.Queue a1) fun y3 => Option.bind (G40 a0 y3.From y3.To) fun y4 => bif y4 then (Option.bind (G42 a0 a1) fun y6 => some (((S_Packet.mk 0 0 ([])), y6, 0))) else (Option.bind (G42 a0 a1) fun y7 => some ((y3, y7, 0))))

theorem T22 (C : Nat → List A → Option A) (n : Nat) (h40 : Orc40 C) (h41 : Orc41 C) (h42 : Orc42 C) (a0 : S_Net) (a1 : Int) : J (fun (o : R) y => ∃ v, o.1 = .ret v ∧ snap o.2 v = (A.tup [(A.agg [(A.v (Value.int .i64 y.1.From)), (A.v (Value.int .i64 y.1.To)), (A.imm (List.map c8 y.1.Data) false)]), (A.agg [(A.imm (List.map c_S_Packet y.2.1.Queue) false), (A.imm (List.map c_A2_int_i64 y.2.1.Apart) false)]), (A.v (Value.int .i64 y.2.2))])) (evCall1 (cx C) (evCall (cx C) (n+8)) (evCallY (cx C) (n+8)) (n+8) 22 [(A.agg [(A.imm (List.map c_S_Packet a0.Queue) false), (A.imm (List.map c_A2_int_i64 a0.Apart) false)]), (A.v (Value.int .i64 a1))] [] 0) some (F22 n a0 a1) some := by
  refine .lp (e22 ..) ?_
  unfold F22
  refine .st (v := ((A.ptr 0 0), [Blk.box [(A.imm (List.map c_S_Packet a0.Queue) false), (A.imm (List.map c_A2_int_i64 a0.Apart) false)]])) (by kernel_rfl) ?_
  refine .st (v := ((A.ptr 1 0), [Blk.box [(A.imm (List.map c_S_Packet a0.Queue) false), (A.imm (List.map c_A2_int_i64 a0.Apart) false)], Blk.box [(A.v (Value.int .i64 0)), (A.v (Value.int .i64 0)), (A.imm [] true)]])) (by kernel_rfl) ?_
  refine .st (v := ((A.ptr 2 0), [Blk.box [(A.imm (List.map c_S_Packet a0.Queue) false), (A.imm (List.map c_A2_int_i64 a0.Apart) false)], Blk.box [(A.v (Value.int .i64 0)), (A.v (Value.int .i64 0)), (A.imm [] true)], Blk.box [(A.imm [] true), (A.imm [] true)]])) (by kernel_rfl) ?_
  refine .st (v := (A.agg [(A.imm (List.map c_S_Packet a0.Queue) false), (A.imm (List.map c_A2_int_i64 a0.Apart) false)])) (by kernel_rfl) ?_
  refine .bd (g := fun (y : Int) => (A.v (Value.int .i64 y))) (by simp only [snap, snapW, snapWs, snapWss, snapWss_map, trim, List.map_cons, List.map_nil, fl_cI, fl_c8, fl_cB, fl_cS, fl_cL, fl_S_Packet, fl_A2_int_i64, fl_S_Net, fl_S_kinespherelaw06_Move]; exact h41 a0 a1) fun y1 => ?_
  refine .st (v := (A.v (Value.bool (y1 != 0)))) (aBin_neq ..) ?_
  refine .biH (fun hk2 => ?_) (fun hk2 => ?_)
  · refine .st (v := (A.agg [(A.v (Value.int .i64 0)), (A.v (Value.int .i64 0)), (A.imm [] true)])) (by kernel_rfl) ?_
    refine .st (v := (A.agg [(A.imm [] true), (A.imm [] true)])) (by kernel_rfl) ?_
    refine .st (v := [Blk.box [(A.imm (List.map c_S_Packet a0.Queue) false), (A.imm (List.map c_A2_int_i64 a0.Apart) false)], Blk.box [(A.v (Value.int .i64 0)), (A.v (Value.int .i64 0)), (A.imm [] true)], Blk.box [(A.imm [] true), (A.imm [] true)]]) (by kernel_rfl) ?_
    refine .st (v := [Blk.box [(A.imm (List.map c_S_Packet a0.Queue) false), (A.imm (List.map c_A2_int_i64 a0.Apart) false)], Blk.box [(A.v (Value.int .i64 0)), (A.v (Value.int .i64 0)), (A.imm [] true)], Blk.box [(A.imm [] true), (A.imm [] true)]]) (by kernel_rfl) ?_
    refine .st (v := (A.agg [(A.v (Value.int .i64 0)), (A.v (Value.int .i64 0)), (A.imm [] true)])) (by kernel_rfl) ?_
    refine .st (v := (A.agg [(A.imm [] true), (A.imm [] true)])) (by kernel_rfl) ?_
    exact .lf rfl rfl ⟨_, rfl, by simp only [snap, snapW, snapWs, snapWss, snapWss_map, trim, List.map_cons, List.map_nil, fl_cI, fl_c8, fl_cB, fl_cS, fl_cL, fl_S_Packet, fl_A2_int_i64, fl_S_Net, fl_S_kinespherelaw06_Move]⟩
  · refine .st (v := (A.ptr 0 0)) (by kernel_rfl) ?_
    refine .st (v := (A.imm (List.map c_S_Packet a0.Queue) false)) (by kernel_rfl) ?_
    refine .bd (g := fun (y : S_Packet) => A.ip (c_S_Packet y)) (idx_imm (e := 28) (es := 3) (h1 := by kernel_rfl) (h2 := by kernel_rfl) (h3 := fun _ => rfl) ..) fun y3 => ?_
    refine .st (v := (A.agg [(A.v (Value.int .i64 y3.From)), (A.v (Value.int .i64 y3.To)), (A.imm (List.map c8 y3.Data) false)])) (by kernel_rfl) ?_
    refine .st (v := ((A.ptr 3 0), [Blk.box [(A.imm (List.map c_S_Packet a0.Queue) false), (A.imm (List.map c_A2_int_i64 a0.Apart) false)], Blk.box [(A.v (Value.int .i64 0)), (A.v (Value.int .i64 0)), (A.imm [] true)], Blk.box [(A.imm [] true), (A.imm [] true)], Blk.box [(A.v (Value.int .i64 0)), (A.v (Value.int .i64 0)), (A.imm [] true)]])) (by kernel_rfl) ?_
    refine .st (v := [Blk.box [(A.imm (List.map c_S_Packet a0.Queue) false), (A.imm (List.map c_A2_int_i64 a0.Apart) false)], Blk.box [(A.v (Value.int .i64 0)), (A.v (Value.int .i64 0)), (A.imm [] true)], Blk.box [(A.imm [] true), (A.imm [] true)], Blk.box [(A.v (Value.int .i64 y3.From)), (A.v (Value.int .i64 y3.To)), (A.imm (List.map c8 y3.Data) false)]]) (by kernel_rfl) ?_
    refine .st (v := (A.agg [(A.imm (List.map c_S_Packet a0.Queue) false), (A.imm (List.map c_A2_int_i64 a0.Apart) false)])) (by kernel_rfl) ?_
    refine .st (v := (A.ptr 3 0)) (by kernel_rfl) ?_
    refine .st (v := (A.v (Value.int .i64 y3.From))) (by kernel_rfl) ?_
    refine .st (v := (A.ptr 3 1)) (by kernel_rfl) ?_
    refine .st (v := (A.v (Value.int .i64 y3.To))) (by kernel_rfl) ?_
    refine .bd (g := fun (y : Bool) => (A.v (Value.bool y))) (by simp only [snap, snapW, snapWs, snapWss, snapWss_map, trim, List.map_cons, List.map_nil, fl_cI, fl_c8, fl_cB, fl_cS, fl_cL, fl_S_Packet, fl_A2_int_i64, fl_S_Net, fl_S_kinespherelaw06_Move]; exact h40 a0 y3.From y3.To) fun y4 => ?_
    refine .biH (fun hk5 => ?_) (fun hk5 => ?_)
    · refine .st (v := (A.agg [(A.v (Value.int .i64 0)), (A.v (Value.int .i64 0)), (A.imm [] true)])) (by kernel_rfl) ?_
      refine .st (v := [Blk.box [(A.imm (List.map c_S_Packet a0.Queue) false), (A.imm (List.map c_A2_int_i64 a0.Apart) false)], Blk.box [(A.v (Value.int .i64 0)), (A.v (Value.int .i64 0)), (A.imm [] true)], Blk.box [(A.imm [] true), (A.imm [] true)], Blk.box [(A.v (Value.int .i64 0)), (A.v (Value.int .i64 0)), (A.imm [] true)]]) (by kernel_rfl) ?_
      refine .st (v := (A.agg [(A.v (Value.int .i64 0)), (A.v (Value.int .i64 0)), (A.imm [] true)])) (by kernel_rfl) ?_
      refine .st (v := (A.agg [(A.imm (List.map c_S_Packet a0.Queue) false), (A.imm (List.map c_A2_int_i64 a0.Apart) false)])) (by kernel_rfl) ?_
      refine .bd (g := fun (y : S_Net) => (A.agg [(A.imm (List.map c_S_Packet y.Queue) false), (A.imm (List.map c_A2_int_i64 y.Apart) false)])) (by simp only [snap, snapW, snapWs, snapWss, snapWss_map, trim, List.map_cons, List.map_nil, fl_cI, fl_c8, fl_cB, fl_cS, fl_cL, fl_S_Packet, fl_A2_int_i64, fl_S_Net, fl_S_kinespherelaw06_Move]; exact h42 a0 a1) fun y6 => ?_
      refine .st (v := [Blk.box [(A.imm (List.map c_S_Packet a0.Queue) false), (A.imm (List.map c_A2_int_i64 a0.Apart) false)], Blk.box [(A.v (Value.int .i64 0)), (A.v (Value.int .i64 0)), (A.imm [] true)], Blk.box [(A.imm [] true), (A.imm [] true)], Blk.box [(A.v (Value.int .i64 0)), (A.v (Value.int .i64 0)), (A.imm [] true)]]) (by kernel_rfl) ?_
      refine .st (v := [Blk.box [(A.imm (List.map c_S_Packet a0.Queue) false), (A.imm (List.map c_A2_int_i64 a0.Apart) false)], Blk.box [(A.v (Value.int .i64 0)), (A.v (Value.int .i64 0)), (A.imm [] true)], Blk.box [(A.imm (List.map c_S_Packet y6.Queue) false), (A.imm (List.map c_A2_int_i64 y6.Apart) false)], Blk.box [(A.v (Value.int .i64 0)), (A.v (Value.int .i64 0)), (A.imm [] true)]]) (by kernel_rfl) ?_
      refine .st (v := (A.agg [(A.v (Value.int .i64 0)), (A.v (Value.int .i64 0)), (A.imm [] true)])) (by kernel_rfl) ?_
      refine .st (v := (A.agg [(A.imm (List.map c_S_Packet y6.Queue) false), (A.imm (List.map c_A2_int_i64 y6.Apart) false)])) (by kernel_rfl) ?_
      exact .lf rfl rfl ⟨_, rfl, by simp only [snap, snapW, snapWs, snapWss, snapWss_map, trim, List.map_cons, List.map_nil, fl_cI, fl_c8, fl_cB, fl_cS, fl_cL, fl_S_Packet, fl_A2_int_i64, fl_S_Net, fl_S_kinespherelaw06_Move]⟩
    · refine .st (v := (A.agg [(A.v (Value.int .i64 y3.From)), (A.v (Value.int .i64 y3.To)), (A.imm (List.map c8 y3.Data) false)])) (by kernel_rfl) ?_
      refine .st (v := (A.agg [(A.imm (List.map c_S_Packet a0.Queue) false), (A.imm (List.map c_A2_int_i64 a0.Apart) false)])) (by kernel_rfl) ?_
      refine .bd (g := fun (y : S_Net) => (A.agg [(A.imm (List.map c_S_Packet y.Queue) false), (A.imm (List.map c_A2_int_i64 y.Apart) false)])) (by simp only [snap, snapW, snapWs, snapWss, snapWss_map, trim, List.map_cons, List.map_nil, fl_cI, fl_c8, fl_cB, fl_cS, fl_cL, fl_S_Packet, fl_A2_int_i64, fl_S_Net, fl_S_kinespherelaw06_Move]; exact h42 a0 a1) fun y7 => ?_
      refine .st (v := [Blk.box [(A.imm (List.map c_S_Packet a0.Queue) false), (A.imm (List.map c_A2_int_i64 a0.Apart) false)], Blk.box [(A.v (Value.int .i64 y3.From)), (A.v (Value.int .i64 y3.To)), (A.imm (List.map c8 y3.Data) false)], Blk.box [(A.imm [] true), (A.imm [] true)], Blk.box [(A.v (Value.int .i64 y3.From)), (A.v (Value.int .i64 y3.To)), (A.imm (List.map c8 y3.Data) false)]]) (by kernel_rfl) ?_
      refine .st (v := [Blk.box [(A.imm (List.map c_S_Packet a0.Queue) false), (A.imm (List.map c_A2_int_i64 a0.Apart) false)], Blk.box [(A.v (Value.int .i64 y3.From)), (A.v (Value.int .i64 y3.To)), (A.imm (List.map c8 y3.Data) false)], Blk.box [(A.imm (List.map c_S_Packet y7.Queue) false), (A.imm (List.map c_A2_int_i64 y7.Apart) false)], Blk.box [(A.v (Value.int .i64 y3.From)), (A.v (Value.int .i64 y3.To)), (A.imm (List.map c8 y3.Data) false)]]) (by kernel_rfl) ?_
      refine .st (v := (A.agg [(A.v (Value.int .i64 y3.From)), (A.v (Value.int .i64 y3.To)), (A.imm (List.map c8 y3.Data) false)])) (by kernel_rfl) ?_
      refine .st (v := (A.agg [(A.imm (List.map c_S_Packet y7.Queue) false), (A.imm (List.map c_A2_int_i64 y7.Apart) false)])) (by kernel_rfl) ?_
      exact .lf rfl rfl ⟨_, rfl, by simp only [snap, snapW, snapWs, snapWss, snapWss_map, trim, List.map_cons, List.map_nil, fl_cI, fl_c8, fl_cB, fl_cS, fl_cL, fl_S_Packet, fl_A2_int_i64, fl_S_Net, fl_S_kinespherelaw06_Move]⟩

def G22 (a0 : S_Net) (a1 : Int) : Option (S_Packet × S_Net × Int) := F22 fuel0 a0 a1

def Orc22 (C : Nat → List A → Option A) : Prop := ∀ (a0 : S_Net) (a1 : Int), C 22 [(A.agg [(A.imm (List.map c_S_Packet a0.Queue) false), (A.imm (List.map c_A2_int_i64 a0.Apart) false)]), (A.v (Value.int .i64 a1))] = (G22 a0 a1).map fun y => (A.tup [(A.agg [(A.v (Value.int .i64 y.1.From)), (A.v (Value.int .i64 y.1.To)), (A.imm (List.map c8 y.1.Data) false)]), (A.agg [(A.imm (List.map c_S_Packet y.2.1.Queue) false), (A.imm (List.map c_A2_int_i64 y.2.1.Apart) false)]), (A.v (Value.int .i64 y.2.2))])

def F23 (n : Nat) (a0 : S_Net) (a1 : Int) : Option (S_Net × Int) :=
  Option.bind (G35 a0 a1) fun y1 => bif (y1.2 != 0) then (some (((S_Net.mk ([]) ([])), y1.2))) else (Option.bind (G38 a0 a1) fun y3 => some ((y3, 0)))

theorem T23 (C : Nat → List A → Option A) (n : Nat) (h35 : Orc35 C) (h38 : Orc38 C) (a0 : S_Net) (a1 : Int) : J (fun (o : R) y => ∃ v, o.1 = .ret v ∧ snap o.2 v = (A.tup [(A.agg [(A.imm (List.map c_S_Packet y.1.Queue) false), (A.imm (List.map c_A2_int_i64 y.1.Apart) false)]), (A.v (Value.int .i64 y.2))])) (evCall1 (cx C) (evCall (cx C) (n+8)) (evCallY (cx C) (n+8)) (n+8) 23 [(A.agg [(A.imm (List.map c_S_Packet a0.Queue) false), (A.imm (List.map c_A2_int_i64 a0.Apart) false)]), (A.v (Value.int .i64 a1))] [] 0) some (F23 n a0 a1) some := by
  refine .lp (e23 ..) ?_
  unfold F23
  refine .st (v := ((A.ptr 0 0), [Blk.box [(A.imm (List.map c_S_Packet a0.Queue) false), (A.imm (List.map c_A2_int_i64 a0.Apart) false)]])) (by kernel_rfl) ?_
  refine .st (v := ((A.ptr 1 0), [Blk.box [(A.imm (List.map c_S_Packet a0.Queue) false), (A.imm (List.map c_A2_int_i64 a0.Apart) false)], Blk.box [(A.imm [] true), (A.imm [] true)]])) (by kernel_rfl) ?_
  refine .st (v := (A.agg [(A.imm (List.map c_S_Packet a0.Queue) false), (A.imm (List.map c_A2_int_i64 a0.Apart) false)])) (by kernel_rfl) ?_
  refine .bd (g := fun (y : (S_Packet × Int)) => (A.tup [(A.agg [(A.v (Value.int .i64 y.1.From)), (A.v (Value.int .i64 y.1.To)), (A.imm (List.map c8 y.1.Data) false)]), (A.v (Value.int .i64 y.2))])) (by simp only [snap, snapW, snapWs, snapWss, snapWss_map, trim, List.map_cons, List.map_nil, fl_cI, fl_c8, fl_cB, fl_cS, fl_cL, fl_S_Packet, fl_A2_int_i64, fl_S_Net, fl_S_kinespherelaw06_Move]; exact h35 a0 a1) fun y1 => ?_
  refine .st (v := (A.agg [(A.v (Value.int .i64 y1.1.From)), (A.v (Value.int .i64 y1.1.To)), (A.imm (List.map c8 y1.1.Data) false)])) (by kernel_rfl) ?_
  refine .st (v := (A.v (Value.int .i64 y1.2))) (by kernel_rfl) ?_
  refine .st (v := (A.v (Value.bool (y1.2 != 0)))) (aBin_neq ..) ?_
  refine .biH (fun hk2 => ?_) (fun hk2 => ?_)
  · refine .st (v := (A.agg [(A.imm [] true), (A.imm [] true)])) (by kernel_rfl) ?_
    refine .st (v := [Blk.box [(A.imm (List.map c_S_Packet a0.Queue) false), (A.imm (List.map c_A2_int_i64 a0.Apart) false)], Blk.box [(A.imm [] true), (A.imm [] true)]]) (by kernel_rfl) ?_
    refine .st (v := (A.agg [(A.imm [] true), (A.imm [] true)])) (by kernel_rfl) ?_
    exact .lf rfl rfl ⟨_, rfl, by simp only [snap, snapW, snapWs, snapWss, snapWss_map, trim, List.map_cons, List.map_nil, fl_cI, fl_c8, fl_cB, fl_cS, fl_cL, fl_S_Packet, fl_A2_int_i64, fl_S_Net, fl_S_kinespherelaw06_Move]⟩
  · refine .st (v := (A.agg [(A.imm (List.map c_S_Packet a0.Queue) false), (A.imm (List.map c_A2_int_i64 a0.Apart) false)])) (by kernel_rfl) ?_
    refine .bd (g := fun (y : S_Net) => (A.agg [(A.imm (List.map c_S_Packet y.Queue) false), (A.imm (List.map c_A2_int_i64 y.Apart) false)])) (by simp only [snap, snapW, snapWs, snapWss, snapWss_map, trim, List.map_cons, List.map_nil, fl_cI, fl_c8, fl_cB, fl_cS, fl_cL, fl_S_Packet, fl_A2_int_i64, fl_S_Net, fl_S_kinespherelaw06_Move]; exact h38 a0 a1) fun y3 => ?_
    refine .st (v := [Blk.box [(A.imm (List.map c_S_Packet a0.Queue) false), (A.imm (List.map c_A2_int_i64 a0.Apart) false)], Blk.box [(A.imm (List.map c_S_Packet y3.Queue) false), (A.imm (List.map c_A2_int_i64 y3.Apart) false)]]) (by kernel_rfl) ?_
    refine .st (v := (A.agg [(A.imm (List.map c_S_Packet y3.Queue) false), (A.imm (List.map c_A2_int_i64 y3.Apart) false)])) (by kernel_rfl) ?_
    exact .lf rfl rfl ⟨_, rfl, by simp only [snap, snapW, snapWs, snapWss, snapWss_map, trim, List.map_cons, List.map_nil, fl_cI, fl_c8, fl_cB, fl_cS, fl_cL, fl_S_Packet, fl_A2_int_i64, fl_S_Net, fl_S_kinespherelaw06_Move]⟩

def G23 (a0 : S_Net) (a1 : Int) : Option (S_Net × Int) := F23 fuel0 a0 a1

def Orc23 (C : Nat → List A → Option A) : Prop := ∀ (a0 : S_Net) (a1 : Int), C 23 [(A.agg [(A.imm (List.map c_S_Packet a0.Queue) false), (A.imm (List.map c_A2_int_i64 a0.Apart) false)]), (A.v (Value.int .i64 a1))] = (G23 a0 a1).map fun y => (A.tup [(A.agg [(A.imm (List.map c_S_Packet y.1.Queue) false), (A.imm (List.map c_A2_int_i64 y.1.Apart) false)]), (A.v (Value.int .i64 y.2))])

def F24 (n : Nat) (a0 : S_Net) (a1 : Int) : Option (S_Net × Int) :=
  Option.bind (G41 a0 a1) fun y1 => bif (y1 != 0) then (some (((S_Net.mk ([]) ([])), y1))) else (Option.bind (G42 a0 a1) fun y3 => some ((y3, 0)))

theorem T24 (C : Nat → List A → Option A) (n : Nat) (h41 : Orc41 C) (h42 : Orc42 C) (a0 : S_Net) (a1 : Int) : J (fun (o : R) y => ∃ v, o.1 = .ret v ∧ snap o.2 v = (A.tup [(A.agg [(A.imm (List.map c_S_Packet y.1.Queue) false), (A.imm (List.map c_A2_int_i64 y.1.Apart) false)]), (A.v (Value.int .i64 y.2))])) (evCall1 (cx C) (evCall (cx C) (n+8)) (evCallY (cx C) (n+8)) (n+8) 24 [(A.agg [(A.imm (List.map c_S_Packet a0.Queue) false), (A.imm (List.map c_A2_int_i64 a0.Apart) false)]), (A.v (Value.int .i64 a1))] [] 0) some (F24 n a0 a1) some := by
  refine .lp (e24 ..) ?_
  unfold F24
  refine .st (v := ((A.ptr 0 0), [Blk.box [(A.imm (List.map c_S_Packet a0.Queue) false), (A.imm (List.map c_A2_int_i64 a0.Apart) false)]])) (by kernel_rfl) ?_
  refine .st (v := ((A.ptr 1 0), [Blk.box [(A.imm (List.map c_S_Packet a0.Queue) false), (A.imm (List.map c_A2_int_i64 a0.Apart) false)], Blk.box [(A.imm [] true), (A.imm [] true)]])) (by kernel_rfl) ?_
  refine .st (v := (A.agg [(A.imm (List.map c_S_Packet a0.Queue) false), (A.imm (List.map c_A2_int_i64 a0.Apart) false)])) (by kernel_rfl) ?_
  refine .bd (g := fun (y : Int) => (A.v (Value.int .i64 y))) (by simp only [snap, snapW, snapWs, snapWss, snapWss_map, trim, List.map_cons, List.map_nil, fl_cI, fl_c8, fl_cB, fl_cS, fl_cL, fl_S_Packet, fl_A2_int_i64, fl_S_Net, fl_S_kinespherelaw06_Move]; exact h41 a0 a1) fun y1 => ?_
  refine .st (v := (A.v (Value.bool (y1 != 0)))) (aBin_neq ..) ?_
  refine .biH (fun hk2 => ?_) (fun hk2 => ?_)
  · refine .st (v := (A.agg [(A.imm [] true), (A.imm [] true)])) (by kernel_rfl) ?_
    refine .st (v := [Blk.box [(A.imm (List.map c_S_Packet a0.Queue) false), (A.imm (List.map c_A2_int_i64 a0.Apart) false)], Blk.box [(A.imm [] true), (A.imm [] true)]]) (by kernel_rfl) ?_
    refine .st (v := (A.agg [(A.imm [] true), (A.imm [] true)])) (by kernel_rfl) ?_
    exact .lf rfl rfl ⟨_, rfl, by simp only [snap, snapW, snapWs, snapWss, snapWss_map, trim, List.map_cons, List.map_nil, fl_cI, fl_c8, fl_cB, fl_cS, fl_cL, fl_S_Packet, fl_A2_int_i64, fl_S_Net, fl_S_kinespherelaw06_Move]⟩
  · refine .st (v := (A.agg [(A.imm (List.map c_S_Packet a0.Queue) false), (A.imm (List.map c_A2_int_i64 a0.Apart) false)])) (by kernel_rfl) ?_
    refine .bd (g := fun (y : S_Net) => (A.agg [(A.imm (List.map c_S_Packet y.Queue) false), (A.imm (List.map c_A2_int_i64 y.Apart) false)])) (by simp only [snap, snapW, snapWs, snapWss, snapWss_map, trim, List.map_cons, List.map_nil, fl_cI, fl_c8, fl_cB, fl_cS, fl_cL, fl_S_Packet, fl_A2_int_i64, fl_S_Net, fl_S_kinespherelaw06_Move]; exact h42 a0 a1) fun y3 => ?_
    refine .st (v := [Blk.box [(A.imm (List.map c_S_Packet a0.Queue) false), (A.imm (List.map c_A2_int_i64 a0.Apart) false)], Blk.box [(A.imm (List.map c_S_Packet y3.Queue) false), (A.imm (List.map c_A2_int_i64 y3.Apart) false)]]) (by kernel_rfl) ?_
    refine .st (v := (A.agg [(A.imm (List.map c_S_Packet y3.Queue) false), (A.imm (List.map c_A2_int_i64 y3.Apart) false)])) (by kernel_rfl) ?_
    exact .lf rfl rfl ⟨_, rfl, by simp only [snap, snapW, snapWs, snapWss, snapWss_map, trim, List.map_cons, List.map_nil, fl_cI, fl_c8, fl_cB, fl_cS, fl_cL, fl_S_Packet, fl_A2_int_i64, fl_S_Net, fl_S_kinespherelaw06_Move]⟩

def G24 (a0 : S_Net) (a1 : Int) : Option (S_Net × Int) := F24 fuel0 a0 a1

def Orc24 (C : Nat → List A → Option A) : Prop := ∀ (a0 : S_Net) (a1 : Int), C 24 [(A.agg [(A.imm (List.map c_S_Packet a0.Queue) false), (A.imm (List.map c_A2_int_i64 a0.Apart) false)]), (A.v (Value.int .i64 a1))] = (G24 a0 a1).map fun y => (A.tup [(A.agg [(A.imm (List.map c_S_Packet y.1.Queue) false), (A.imm (List.map c_A2_int_i64 y.1.Apart) false)]), (A.v (Value.int .i64 y.2))])

def F26 (n : Nat) (a0 : S_Net) (a1 : Int) : Option (S_Net × Int) :=
  Option.bind (G41 a0 a1) fun y1 => bif (y1 != 0) then (some (((S_Net.mk ([]) ([])), y1))) else (Option.bind (getI a0.Queue a1) fun y3 => Option.bind (G12 a0 y3) fun y4 => some ((y4.1, y4.2)))

theorem T26 (C : Nat → List A → Option A) (n : Nat) (h12 : Orc12 C) (h41 : Orc41 C) (a0 : S_Net) (a1 : Int) : J (fun (o : R) y => ∃ v, o.1 = .ret v ∧ snap o.2 v = (A.tup [(A.agg [(A.imm (List.map c_S_Packet y.1.Queue) false), (A.imm (List.map c_A2_int_i64 y.1.Apart) false)]), (A.v (Value.int .i64 y.2))])) (evCall1 (cx C) (evCall (cx C) (n+8)) (evCallY (cx C) (n+8)) (n+8) 26 [(A.agg [(A.imm (List.map c_S_Packet a0.Queue) false), (A.imm (List.map c_A2_int_i64 a0.Apart) false)]), (A.v (Value.int .i64 a1))] [] 0) some (F26 n a0 a1) some := by
  refine .lp (e26 ..) ?_
  unfold F26
  refine .st (v := ((A.ptr 0 0), [Blk.box [(A.imm (List.map c_S_Packet a0.Queue) false), (A.imm (List.map c_A2_int_i64 a0.Apart) false)]])) (by kernel_rfl) ?_
  refine .st (v := ((A.ptr 1 0), [Blk.box [(A.imm (List.map c_S_Packet a0.Queue) false), (A.imm (List.map c_A2_int_i64 a0.Apart) false)], Blk.box [(A.imm [] true), (A.imm [] true)]])) (by kernel_rfl) ?_
  refine .st (v := (A.agg [(A.imm (List.map c_S_Packet a0.Queue) false), (A.imm (List.map c_A2_int_i64 a0.Apart) false)])) (by kernel_rfl) ?_
  refine .bd (g := fun (y : Int) => (A.v (Value.int .i64 y))) (by simp only [snap, snapW, snapWs, snapWss, snapWss_map, trim, List.map_cons, List.map_nil, fl_cI, fl_c8, fl_cB, fl_cS, fl_cL, fl_S_Packet, fl_A2_int_i64, fl_S_Net, fl_S_kinespherelaw06_Move]; exact h41 a0 a1) fun y1 => ?_
  refine .st (v := (A.v (Value.bool (y1 != 0)))) (aBin_neq ..) ?_
  refine .biH (fun hk2 => ?_) (fun hk2 => ?_)
  · refine .st (v := (A.agg [(A.imm [] true), (A.imm [] true)])) (by kernel_rfl) ?_
    refine .st (v := [Blk.box [(A.imm (List.map c_S_Packet a0.Queue) false), (A.imm (List.map c_A2_int_i64 a0.Apart) false)], Blk.box [(A.imm [] true), (A.imm [] true)]]) (by kernel_rfl) ?_
    refine .st (v := (A.agg [(A.imm [] true), (A.imm [] true)])) (by kernel_rfl) ?_
    exact .lf rfl rfl ⟨_, rfl, by simp only [snap, snapW, snapWs, snapWss, snapWss_map, trim, List.map_cons, List.map_nil, fl_cI, fl_c8, fl_cB, fl_cS, fl_cL, fl_S_Packet, fl_A2_int_i64, fl_S_Net, fl_S_kinespherelaw06_Move]⟩
  · refine .st (v := (A.agg [(A.imm (List.map c_S_Packet a0.Queue) false), (A.imm (List.map c_A2_int_i64 a0.Apart) false)])) (by kernel_rfl) ?_
    refine .st (v := (A.ptr 0 0)) (by kernel_rfl) ?_
    refine .st (v := (A.imm (List.map c_S_Packet a0.Queue) false)) (by kernel_rfl) ?_
    refine .bd (g := fun (y : S_Packet) => A.ip (c_S_Packet y)) (idx_imm (e := 28) (es := 3) (h1 := by kernel_rfl) (h2 := by kernel_rfl) (h3 := fun _ => rfl) ..) fun y3 => ?_
    refine .st (v := (A.agg [(A.v (Value.int .i64 y3.From)), (A.v (Value.int .i64 y3.To)), (A.imm (List.map c8 y3.Data) false)])) (by kernel_rfl) ?_
    refine .bd (g := fun (y : (S_Net × Int)) => (A.tup [(A.agg [(A.imm (List.map c_S_Packet y.1.Queue) false), (A.imm (List.map c_A2_int_i64 y.1.Apart) false)]), (A.v (Value.int .i64 y.2))])) (by simp only [snap, snapW, snapWs, snapWss, snapWss_map, trim, List.map_cons, List.map_nil, fl_cI, fl_c8, fl_cB, fl_cS, fl_cL, fl_S_Packet, fl_A2_int_i64, fl_S_Net, fl_S_kinespherelaw06_Move]; exact h12 a0 y3) fun y4 => ?_
    refine .st (v := (A.agg [(A.imm (List.map c_S_Packet y4.1.Queue) false), (A.imm (List.map c_A2_int_i64 y4.1.Apart) false)])) (by kernel_rfl) ?_
    refine .st (v := (A.v (Value.int .i64 y4.2))) (by kernel_rfl) ?_
    refine .st (v := [Blk.box [(A.imm (List.map c_S_Packet a0.Queue) false), (A.imm (List.map c_A2_int_i64 a0.Apart) false)], Blk.box [(A.imm (List.map c_S_Packet y4.1.Queue) false), (A.imm (List.map c_A2_int_i64 y4.1.Apart) false)]]) (by kernel_rfl) ?_
    refine .st (v := (A.agg [(A.imm (List.map c_S_Packet y4.1.Queue) false), (A.imm (List.map c_A2_int_i64 y4.1.Apart) false)])) (by kernel_rfl) ?_
    exact .lf rfl rfl ⟨_, rfl, by simp only [snap, snapW, snapWs, snapWss, snapWss_map, trim, List.map_cons, List.map_nil, fl_cI, fl_c8, fl_cB, fl_cS, fl_cL, fl_S_Packet, fl_A2_int_i64, fl_S_Net, fl_S_kinespherelaw06_Move]⟩

def G26 (a0 : S_Net) (a1 : Int) : Option (S_Net × Int) := F26 fuel0 a0 a1

def Orc26 (C : Nat → List A → Option A) : Prop := ∀ (a0 : S_Net) (a1 : Int), C 26 [(A.agg [(A.imm (List.map c_S_Packet a0.Queue) false), (A.imm (List.map c_A2_int_i64 a0.Apart) false)]), (A.v (Value.int .i64 a1))] = (G26 a0 a1).map fun y => (A.tup [(A.agg [(A.imm (List.map c_S_Packet y.1.Queue) false), (A.imm (List.map c_A2_int_i64 y.1.Apart) false)]), (A.v (Value.int .i64 y.2))])

end Go.Proofs.Ytgcobbhbfkjkeaa
