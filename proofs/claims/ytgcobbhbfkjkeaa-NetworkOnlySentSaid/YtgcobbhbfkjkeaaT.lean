/-
  The program's functions as plain functions: by a tool; each follows the interpreter.
-/
import Derived.Test.YtgcobbhbfkjkeaaT1
import Derived.KernelRfl
namespace Go.Proofs.Ytgcobbhbfkjkeaa
set_option linter.unusedVariables false
set_option linter.unusedSimpArgs false
set_option maxHeartbeats 4000000
set_option maxRecDepth 100000
def F27 (n : Nat) (a0 : S_Net) (a1 : S_kinespherelaw06_Move) : Option (S_Net × S_Packet × Int) :=
  bif (decide (0 < ((a0.Queue.length : Int)))) then (bif decide (((a0.Queue.length : Int)) ≠ 0) then (bif ((Int.tmod a1.Kind 6) == 0) then (bif (decide (0 ≤ a1.Data) && decide (a1.Data < 256)) then (Option.bind (G11 a0 ((S_Packet.mk (Int.tmod (wr .i64 (a1.A)) 24) (Int.tmod (wr .i64 (a1.B)) 24) ([(UInt8.ofNat (Int.toNat a1.Data))])))) fun y3 => some ((y3.1, (S_Packet.mk 0 0 ([])), y3.2))) else none) else (bif ((Int.tmod a1.Kind 6) == 1) then (Option.bind (G18 a0 (Int.tmod (wr .i64 (a1.At)) ((a0.Queue.length : Int)))) fun y5 => some ((y5.2.1, y5.1, y5.2.2))) else (bif ((Int.tmod a1.Kind 6) == 2) then (Option.bind (G23 a0 (Int.tmod (wr .i64 (a1.At)) ((a0.Queue.length : Int)))) fun y7 => some ((y7.1, (S_Packet.mk 0 0 ([])), y7.2))) else (bif ((Int.tmod a1.Kind 6) == 3) then (Option.bind (G25 a0 (Int.tmod (wr .i64 (a1.At)) ((a0.Queue.length : Int)))) fun y9 => some ((y9.1, (S_Packet.mk 0 0 ([])), y9.2))) else (bif ((Int.tmod a1.Kind 6) == 4) then (Option.bind (G20 a0 (Int.tmod (wr .i64 (a1.A)) 24) (Int.tmod (wr .i64 (a1.B)) 24) true) fun y11 => some ((y11.1, (S_Packet.mk 0 0 ([])), y11.2))) else (bif ((Int.tmod a1.Kind 6) == 5) then (Option.bind (G20 a0 (Int.tmod (wr .i64 (a1.A)) 24) (Int.tmod (wr .i64 (a1.B)) 24) false) fun y13 => some ((y13.1, (S_Packet.mk 0 0 ([])), y13.2))) else (some (((S_Net.mk ([]) ([])), (S_Packet.mk 0 0 ([])), 0))))))))) else none) else (bif ((Int.tmod a1.Kind 6) == 0) then (bif (decide (0 ≤ a1.Data) && decide (a1.Data < 256)) then (Option.bind (G11 a0 ((S_Packet.mk (Int.tmod (wr .i64 (a1.A)) 24) (Int.tmod (wr .i64 (a1.B)) 24) ([(UInt8.ofNat (Int.toNat a1.Data))])))) fun y15 => some ((y15.1, (S_Packet.mk 0 0 ([])), y15.2))) else none) else (bif ((Int.tmod a1.Kind 6) == 1) then (Option.bind (G18 a0 0) fun y17 => some ((y17.2.1, y17.1, y17.2.2))) else (bif ((Int.tmod a1.Kind 6) == 2) then (Option.bind (G23 a0 0) fun y19 => some ((y19.1, (S_Packet.mk 0 0 ([])), y19.2))) else (bif ((Int.tmod a1.Kind 6) == 3) then (Option.bind (G25 a0 0) fun y21 => some ((y21.1, (S_Packet.mk 0 0 ([])), y21.2))) else (bif ((Int.tmod a1.Kind 6) == 4) then (Option.bind (G20 a0 (Int.tmod (wr .i64 (a1.A)) 24) (Int.tmod (wr .i64 (a1.B)) 24) true) fun y23 => some ((y23.1, (S_Packet.mk 0 0 ([])), y23.2))) else (bif ((Int.tmod a1.Kind 6) == 5) then (Option.bind (G20 a0 (Int.tmod (wr .i64 (a1.A)) 24) (Int.tmod (wr .i64 (a1.B)) 24) false) fun y25 => some ((y25.1, (S_Packet.mk 0 0 ([])), y25.2))) else (some (((S_Net.mk ([]) ([])), (S_Packet.mk 0 0 ([])), 0)))))))))

theorem T27 (C : Nat → List A → Option A) (n : Nat) (h11 : Orc11 C) (h18 : Orc18 C) (h20 : Orc20 C) (h23 : Orc23 C) (h25 : Orc25 C) (a0 : S_Net) (a1 : S_kinespherelaw06_Move) : J (fun (o : R) y => ∃ v, o.1 = .ret v ∧ snapE o.2 v = (A.tup [(A.agg [(A.imm (List.map c_S_Packet y.1.Queue) false), (A.imm (List.map c_A2_int_i64 y.1.Apart) false)]), (A.agg [(A.v (Value.int .i64 y.2.1.From)), (A.v (Value.int .i64 y.2.1.To)), (A.imm (List.map c8 y.2.1.Data) false)]), (A.v (Value.int .i64 y.2.2))])) (evCall1 (cx C) (evCall (cx C) (n+8)) (evCallY (cx C) (n+8)) (n+8) 27 [(A.agg [(A.imm (List.map c_S_Packet a0.Queue) false), (A.imm (List.map c_A2_int_i64 a0.Apart) false)]), (A.agg [(A.v (Value.int .u8 a1.Kind)), (A.v (Value.int .u8 a1.At)), (A.v (Value.int .u8 a1.A)), (A.v (Value.int .u8 a1.B)), (A.v (Value.int .u8 a1.Data))])] [] 0) some (F27 n a0 a1) some := by
  refine .lp (e27 ..) ?_
  unfold F27
  refine .st (v := ((A.ptr 0 0), [Blk.box [(A.imm (List.map c_S_Packet a0.Queue) false), (A.imm (List.map c_A2_int_i64 a0.Apart) false)]])) (by kernel_rfl) ?_
  refine .st (v := ((A.ptr 1 0), [Blk.box [(A.imm (List.map c_S_Packet a0.Queue) false), (A.imm (List.map c_A2_int_i64 a0.Apart) false)], Blk.box [(A.v (Value.int .u8 a1.Kind)), (A.v (Value.int .u8 a1.At)), (A.v (Value.int .u8 a1.A)), (A.v (Value.int .u8 a1.B)), (A.v (Value.int .u8 a1.Data))]])) (by kernel_rfl) ?_
  refine .st (v := ((A.ptr 2 0), [Blk.box [(A.imm (List.map c_S_Packet a0.Queue) false), (A.imm (List.map c_A2_int_i64 a0.Apart) false)], Blk.box [(A.v (Value.int .u8 a1.Kind)), (A.v (Value.int .u8 a1.At)), (A.v (Value.int .u8 a1.A)), (A.v (Value.int .u8 a1.B)), (A.v (Value.int .u8 a1.Data))], Blk.box [(A.imm [] true), (A.imm [] true)]])) (by kernel_rfl) ?_
  refine .st (v := ((A.ptr 3 0), [Blk.box [(A.imm (List.map c_S_Packet a0.Queue) false), (A.imm (List.map c_A2_int_i64 a0.Apart) false)], Blk.box [(A.v (Value.int .u8 a1.Kind)), (A.v (Value.int .u8 a1.At)), (A.v (Value.int .u8 a1.A)), (A.v (Value.int .u8 a1.B)), (A.v (Value.int .u8 a1.Data))], Blk.box [(A.imm [] true), (A.imm [] true)], Blk.box [(A.v (Value.int .i64 0)), (A.v (Value.int .i64 0)), (A.imm [] true)]])) (by kernel_rfl) ?_
  refine .st (v := (A.ptr 0 0)) (by kernel_rfl) ?_
  refine .st (v := (A.imm (List.map c_S_Packet a0.Queue) false)) (by kernel_rfl) ?_
  refine .st (v := (A.v (Value.int .i64 ((a0.Queue.length : Int))))) (len_imm (e := 28) (h1 := by kernel_rfl) ..) ?_
  refine .st (v := (A.v (Value.bool (decide (0 < ((a0.Queue.length : Int))))))) (aBin_gtr ..) ?_
  refine .biH (fun hk1 => ?_) (fun hk1 => ?_)
  · refine .st (v := (A.ptr 1 1)) (by kernel_rfl) ?_
    refine .st (v := (A.v (Value.int .u8 a1.At))) (by kernel_rfl) ?_
    refine .st (v := (A.v (Value.int .i64 (wr .i64 (a1.At))))) (aConvert_int (hs := by kernel_rfl) (hd := by kernel_rfl) ..) ?_
    refine .st (v := (A.ptr 0 0)) (by kernel_rfl) ?_
    refine .st (v := (A.imm (List.map c_S_Packet a0.Queue) false)) (by kernel_rfl) ?_
    refine .st (v := (A.v (Value.int .i64 ((a0.Queue.length : Int))))) (len_imm (e := 28) (h1 := by kernel_rfl) ..) ?_
    refine .gd fun hg => ?_
    refine .st (v := (A.v (Value.int .i64 (Int.tmod (wr .i64 (a1.At)) ((a0.Queue.length : Int)))))) (aBin_rem (hb := of_decide_eq_true hg) ..) ?_
    refine .st (v := (A.ptr 1 2)) (by kernel_rfl) ?_
    refine .st (v := (A.v (Value.int .u8 a1.A))) (by kernel_rfl) ?_
    refine .st (v := (A.v (Value.int .i64 (wr .i64 (a1.A))))) (aConvert_int (hs := by kernel_rfl) (hd := by kernel_rfl) ..) ?_
    refine .st (v := (A.v (Value.int .i64 (Int.tmod (wr .i64 (a1.A)) 24)))) (aBin_rem (hb := by decide) ..) ?_
    refine .st (v := (A.ptr 1 3)) (by kernel_rfl) ?_
    refine .st (v := (A.v (Value.int .u8 a1.B))) (by kernel_rfl) ?_
    refine .st (v := (A.v (Value.int .i64 (wr .i64 (a1.B))))) (aConvert_int (hs := by kernel_rfl) (hd := by kernel_rfl) ..) ?_
    refine .st (v := (A.v (Value.int .i64 (Int.tmod (wr .i64 (a1.B)) 24)))) (aBin_rem (hb := by decide) ..) ?_
    refine .st (v := (A.ptr 1 0)) (by kernel_rfl) ?_
    refine .st (v := (A.v (Value.int .u8 a1.Kind))) (by kernel_rfl) ?_
    refine .st (v := (A.v (Value.int .u8 (Int.tmod a1.Kind 6)))) (aBin_rem (hb := by decide) ..) ?_
    refine .st (v := (A.v (Value.bool ((Int.tmod a1.Kind 6) == 0)))) (aBin_eql ..) ?_
    refine .biH (fun hk2 => ?_) (fun hk2 => ?_)
    · refine .st (v := (A.agg [(A.imm (List.map c_S_Packet a0.Queue) false), (A.imm (List.map c_A2_int_i64 a0.Apart) false)])) (by kernel_rfl) ?_
      refine .st (v := (A.ptr 1 4)) (by kernel_rfl) ?_
      refine .st (v := (A.v (Value.int .u8 a1.Data))) (by kernel_rfl) ?_
      refine .gd fun hg => ?_
      refine .st (v := (A.imm [[(A.v (Value.int .u8 (((UInt8.ofNat (Int.toNat a1.Data)).toNat : Int))))]] true)) (by rw [u8_back hg]; kernel_rfl) ?_
      refine .st (v := (A.agg [(A.v (Value.int .i64 (Int.tmod (wr .i64 (a1.A)) 24))), (A.v (Value.int .i64 (Int.tmod (wr .i64 (a1.B)) 24))), (A.imm [[(A.v (Value.int .u8 (((UInt8.ofNat (Int.toNat a1.Data)).toNat : Int))))]] true)])) (by kernel_rfl) ?_
      refine .bd (g := fun (y : (S_Net × Int)) => (A.tup [(A.agg [(A.imm (List.map c_S_Packet y.1.Queue) false), (A.imm (List.map c_A2_int_i64 y.1.Apart) false)]), (A.v (Value.int .i64 y.2))])) (by simp only [snap, snapW, snapWs, snapWss, snapWss_map, trim, List.map_cons, List.map_nil, fl_cI, fl_c8, fl_cB, fl_cS, fl_cL, fl_S_kinespherelaw06_Move, fl_S_Packet, fl_A2_int_i64, fl_S_Net]; exact h11 a0 ((S_Packet.mk (Int.tmod (wr .i64 (a1.A)) 24) (Int.tmod (wr .i64 (a1.B)) 24) ([(UInt8.ofNat (Int.toNat a1.Data))])))) fun y3 => ?_
      refine .st (v := (A.agg [(A.imm (List.map c_S_Packet y3.1.Queue) false), (A.imm (List.map c_A2_int_i64 y3.1.Apart) false)])) (by kernel_rfl) ?_
      refine .st (v := (A.v (Value.int .i64 y3.2))) (by kernel_rfl) ?_
      refine .st (v := [Blk.box [(A.imm (List.map c_S_Packet a0.Queue) false), (A.imm (List.map c_A2_int_i64 a0.Apart) false)], Blk.box [(A.v (Value.int .u8 a1.Kind)), (A.v (Value.int .u8 a1.At)), (A.v (Value.int .u8 a1.A)), (A.v (Value.int .u8 a1.B)), (A.v (Value.int .u8 a1.Data))], Blk.box [(A.imm (List.map c_S_Packet y3.1.Queue) false), (A.imm (List.map c_A2_int_i64 y3.1.Apart) false)], Blk.box [(A.v (Value.int .i64 0)), (A.v (Value.int .i64 0)), (A.imm [] true)]]) (by kernel_rfl) ?_
      refine .st (v := (A.agg [(A.imm (List.map c_S_Packet y3.1.Queue) false), (A.imm (List.map c_A2_int_i64 y3.1.Apart) false)])) (by kernel_rfl) ?_
      refine .st (v := (A.agg [(A.v (Value.int .i64 0)), (A.v (Value.int .i64 0)), (A.imm [] true)])) (by kernel_rfl) ?_
      refine .cT (by kernel_rfl) ?_
      refine .st (v := [Blk.box [(A.imm (List.map c_S_Packet a0.Queue) false), (A.imm (List.map c_A2_int_i64 a0.Apart) false)], Blk.box [(A.v (Value.int .u8 a1.Kind)), (A.v (Value.int .u8 a1.At)), (A.v (Value.int .u8 a1.A)), (A.v (Value.int .u8 a1.B)), (A.v (Value.int .u8 a1.Data))], Blk.box [(A.imm (List.map c_S_Packet y3.1.Queue) false), (A.imm (List.map c_A2_int_i64 y3.1.Apart) false)], Blk.box [(A.v (Value.int .i64 0)), (A.v (Value.int .i64 0)), (A.imm [] true)]]) (by kernel_rfl) ?_
      refine .st (v := [Blk.box [(A.imm (List.map c_S_Packet a0.Queue) false), (A.imm (List.map c_A2_int_i64 a0.Apart) false)], Blk.box [(A.v (Value.int .u8 a1.Kind)), (A.v (Value.int .u8 a1.At)), (A.v (Value.int .u8 a1.A)), (A.v (Value.int .u8 a1.B)), (A.v (Value.int .u8 a1.Data))], Blk.box [(A.imm (List.map c_S_Packet y3.1.Queue) false), (A.imm (List.map c_A2_int_i64 y3.1.Apart) false)], Blk.box [(A.v (Value.int .i64 0)), (A.v (Value.int .i64 0)), (A.imm [] true)]]) (by kernel_rfl) ?_
      refine .st (v := (A.agg [(A.imm (List.map c_S_Packet y3.1.Queue) false), (A.imm (List.map c_A2_int_i64 y3.1.Apart) false)])) (by kernel_rfl) ?_
      refine .st (v := (A.agg [(A.v (Value.int .i64 0)), (A.v (Value.int .i64 0)), (A.imm [] true)])) (by kernel_rfl) ?_
      exact .lf rfl rfl ⟨_, rfl, by simp only [snap, snapW, snapWs, snapWss, snapWss_map, trim, List.map_cons, List.map_nil, fl_cI, fl_c8, fl_cB, fl_cS, fl_cL, fl_S_kinespherelaw06_Move, fl_S_Packet, fl_A2_int_i64, fl_S_Net, snapE]⟩
    · refine .st (v := (A.v (Value.bool ((Int.tmod a1.Kind 6) == 1)))) (aBin_eql ..) ?_
      refine .biH (fun hk4 => ?_) (fun hk4 => ?_)
      · refine .st (v := (A.agg [(A.imm (List.map c_S_Packet a0.Queue) false), (A.imm (List.map c_A2_int_i64 a0.Apart) false)])) (by kernel_rfl) ?_
        refine .bd (g := fun (y : (S_Packet × S_Net × Int)) => (A.tup [(A.agg [(A.v (Value.int .i64 y.1.From)), (A.v (Value.int .i64 y.1.To)), (A.imm (List.map c8 y.1.Data) false)]), (A.agg [(A.imm (List.map c_S_Packet y.2.1.Queue) false), (A.imm (List.map c_A2_int_i64 y.2.1.Apart) false)]), (A.v (Value.int .i64 y.2.2))])) (by simp only [snap, snapW, snapWs, snapWss, snapWss_map, trim, List.map_cons, List.map_nil, fl_cI, fl_c8, fl_cB, fl_cS, fl_cL, fl_S_kinespherelaw06_Move, fl_S_Packet, fl_A2_int_i64, fl_S_Net]; exact h18 a0 (Int.tmod (wr .i64 (a1.At)) ((a0.Queue.length : Int)))) fun y5 => ?_
        refine .st (v := (A.agg [(A.v (Value.int .i64 y5.1.From)), (A.v (Value.int .i64 y5.1.To)), (A.imm (List.map c8 y5.1.Data) false)])) (by kernel_rfl) ?_
        refine .st (v := (A.agg [(A.imm (List.map c_S_Packet y5.2.1.Queue) false), (A.imm (List.map c_A2_int_i64 y5.2.1.Apart) false)])) (by kernel_rfl) ?_
        refine .st (v := (A.v (Value.int .i64 y5.2.2))) (by kernel_rfl) ?_
        refine .st (v := [Blk.box [(A.imm (List.map c_S_Packet a0.Queue) false), (A.imm (List.map c_A2_int_i64 a0.Apart) false)], Blk.box [(A.v (Value.int .u8 a1.Kind)), (A.v (Value.int .u8 a1.At)), (A.v (Value.int .u8 a1.A)), (A.v (Value.int .u8 a1.B)), (A.v (Value.int .u8 a1.Data))], Blk.box [(A.imm [] true), (A.imm [] true)], Blk.box [(A.v (Value.int .i64 y5.1.From)), (A.v (Value.int .i64 y5.1.To)), (A.imm (List.map c8 y5.1.Data) false)]]) (by kernel_rfl) ?_
        refine .st (v := [Blk.box [(A.imm (List.map c_S_Packet a0.Queue) false), (A.imm (List.map c_A2_int_i64 a0.Apart) false)], Blk.box [(A.v (Value.int .u8 a1.Kind)), (A.v (Value.int .u8 a1.At)), (A.v (Value.int .u8 a1.A)), (A.v (Value.int .u8 a1.B)), (A.v (Value.int .u8 a1.Data))], Blk.box [(A.imm (List.map c_S_Packet y5.2.1.Queue) false), (A.imm (List.map c_A2_int_i64 y5.2.1.Apart) false)], Blk.box [(A.v (Value.int .i64 y5.1.From)), (A.v (Value.int .i64 y5.1.To)), (A.imm (List.map c8 y5.1.Data) false)]]) (by kernel_rfl) ?_
        refine .st (v := (A.agg [(A.imm (List.map c_S_Packet y5.2.1.Queue) false), (A.imm (List.map c_A2_int_i64 y5.2.1.Apart) false)])) (by kernel_rfl) ?_
        refine .st (v := (A.agg [(A.v (Value.int .i64 y5.1.From)), (A.v (Value.int .i64 y5.1.To)), (A.imm (List.map c8 y5.1.Data) false)])) (by kernel_rfl) ?_
        refine .cT (by kernel_rfl) ?_
        refine .st (v := [Blk.box [(A.imm (List.map c_S_Packet a0.Queue) false), (A.imm (List.map c_A2_int_i64 a0.Apart) false)], Blk.box [(A.v (Value.int .u8 a1.Kind)), (A.v (Value.int .u8 a1.At)), (A.v (Value.int .u8 a1.A)), (A.v (Value.int .u8 a1.B)), (A.v (Value.int .u8 a1.Data))], Blk.box [(A.imm (List.map c_S_Packet y5.2.1.Queue) false), (A.imm (List.map c_A2_int_i64 y5.2.1.Apart) false)], Blk.box [(A.v (Value.int .i64 y5.1.From)), (A.v (Value.int .i64 y5.1.To)), (A.imm (List.map c8 y5.1.Data) false)]]) (by kernel_rfl) ?_
        refine .st (v := [Blk.box [(A.imm (List.map c_S_Packet a0.Queue) false), (A.imm (List.map c_A2_int_i64 a0.Apart) false)], Blk.box [(A.v (Value.int .u8 a1.Kind)), (A.v (Value.int .u8 a1.At)), (A.v (Value.int .u8 a1.A)), (A.v (Value.int .u8 a1.B)), (A.v (Value.int .u8 a1.Data))], Blk.box [(A.imm (List.map c_S_Packet y5.2.1.Queue) false), (A.imm (List.map c_A2_int_i64 y5.2.1.Apart) false)], Blk.box [(A.v (Value.int .i64 y5.1.From)), (A.v (Value.int .i64 y5.1.To)), (A.imm (List.map c8 y5.1.Data) false)]]) (by kernel_rfl) ?_
        refine .st (v := (A.agg [(A.imm (List.map c_S_Packet y5.2.1.Queue) false), (A.imm (List.map c_A2_int_i64 y5.2.1.Apart) false)])) (by kernel_rfl) ?_
        refine .st (v := (A.agg [(A.v (Value.int .i64 y5.1.From)), (A.v (Value.int .i64 y5.1.To)), (A.imm (List.map c8 y5.1.Data) false)])) (by kernel_rfl) ?_
        exact .lf rfl rfl ⟨_, rfl, by simp only [snap, snapW, snapWs, snapWss, snapWss_map, trim, List.map_cons, List.map_nil, fl_cI, fl_c8, fl_cB, fl_cS, fl_cL, fl_S_kinespherelaw06_Move, fl_S_Packet, fl_A2_int_i64, fl_S_Net, snapE]⟩
      · refine .st (v := (A.v (Value.bool ((Int.tmod a1.Kind 6) == 2)))) (aBin_eql ..) ?_
        refine .biH (fun hk6 => ?_) (fun hk6 => ?_)
        · refine .st (v := (A.agg [(A.imm (List.map c_S_Packet a0.Queue) false), (A.imm (List.map c_A2_int_i64 a0.Apart) false)])) (by kernel_rfl) ?_
          refine .bd (g := fun (y : (S_Net × Int)) => (A.tup [(A.agg [(A.imm (List.map c_S_Packet y.1.Queue) false), (A.imm (List.map c_A2_int_i64 y.1.Apart) false)]), (A.v (Value.int .i64 y.2))])) (by simp only [snap, snapW, snapWs, snapWss, snapWss_map, trim, List.map_cons, List.map_nil, fl_cI, fl_c8, fl_cB, fl_cS, fl_cL, fl_S_kinespherelaw06_Move, fl_S_Packet, fl_A2_int_i64, fl_S_Net]; exact h23 a0 (Int.tmod (wr .i64 (a1.At)) ((a0.Queue.length : Int)))) fun y7 => ?_
          refine .st (v := (A.agg [(A.imm (List.map c_S_Packet y7.1.Queue) false), (A.imm (List.map c_A2_int_i64 y7.1.Apart) false)])) (by kernel_rfl) ?_
          refine .st (v := (A.v (Value.int .i64 y7.2))) (by kernel_rfl) ?_
          refine .st (v := [Blk.box [(A.imm (List.map c_S_Packet a0.Queue) false), (A.imm (List.map c_A2_int_i64 a0.Apart) false)], Blk.box [(A.v (Value.int .u8 a1.Kind)), (A.v (Value.int .u8 a1.At)), (A.v (Value.int .u8 a1.A)), (A.v (Value.int .u8 a1.B)), (A.v (Value.int .u8 a1.Data))], Blk.box [(A.imm (List.map c_S_Packet y7.1.Queue) false), (A.imm (List.map c_A2_int_i64 y7.1.Apart) false)], Blk.box [(A.v (Value.int .i64 0)), (A.v (Value.int .i64 0)), (A.imm [] true)]]) (by kernel_rfl) ?_
          refine .st (v := (A.agg [(A.imm (List.map c_S_Packet y7.1.Queue) false), (A.imm (List.map c_A2_int_i64 y7.1.Apart) false)])) (by kernel_rfl) ?_
          refine .st (v := (A.agg [(A.v (Value.int .i64 0)), (A.v (Value.int .i64 0)), (A.imm [] true)])) (by kernel_rfl) ?_
          refine .cT (by kernel_rfl) ?_
          refine .st (v := [Blk.box [(A.imm (List.map c_S_Packet a0.Queue) false), (A.imm (List.map c_A2_int_i64 a0.Apart) false)], Blk.box [(A.v (Value.int .u8 a1.Kind)), (A.v (Value.int .u8 a1.At)), (A.v (Value.int .u8 a1.A)), (A.v (Value.int .u8 a1.B)), (A.v (Value.int .u8 a1.Data))], Blk.box [(A.imm (List.map c_S_Packet y7.1.Queue) false), (A.imm (List.map c_A2_int_i64 y7.1.Apart) false)], Blk.box [(A.v (Value.int .i64 0)), (A.v (Value.int .i64 0)), (A.imm [] true)]]) (by kernel_rfl) ?_
          refine .st (v := [Blk.box [(A.imm (List.map c_S_Packet a0.Queue) false), (A.imm (List.map c_A2_int_i64 a0.Apart) false)], Blk.box [(A.v (Value.int .u8 a1.Kind)), (A.v (Value.int .u8 a1.At)), (A.v (Value.int .u8 a1.A)), (A.v (Value.int .u8 a1.B)), (A.v (Value.int .u8 a1.Data))], Blk.box [(A.imm (List.map c_S_Packet y7.1.Queue) false), (A.imm (List.map c_A2_int_i64 y7.1.Apart) false)], Blk.box [(A.v (Value.int .i64 0)), (A.v (Value.int .i64 0)), (A.imm [] true)]]) (by kernel_rfl) ?_
          refine .st (v := (A.agg [(A.imm (List.map c_S_Packet y7.1.Queue) false), (A.imm (List.map c_A2_int_i64 y7.1.Apart) false)])) (by kernel_rfl) ?_
          refine .st (v := (A.agg [(A.v (Value.int .i64 0)), (A.v (Value.int .i64 0)), (A.imm [] true)])) (by kernel_rfl) ?_
          exact .lf rfl rfl ⟨_, rfl, by simp only [snap, snapW, snapWs, snapWss, snapWss_map, trim, List.map_cons, List.map_nil, fl_cI, fl_c8, fl_cB, fl_cS, fl_cL, fl_S_kinespherelaw06_Move, fl_S_Packet, fl_A2_int_i64, fl_S_Net, snapE]⟩
        · refine .st (v := (A.v (Value.bool ((Int.tmod a1.Kind 6) == 3)))) (aBin_eql ..) ?_
          refine .biH (fun hk8 => ?_) (fun hk8 => ?_)
          · refine .st (v := (A.agg [(A.imm (List.map c_S_Packet a0.Queue) false), (A.imm (List.map c_A2_int_i64 a0.Apart) false)])) (by kernel_rfl) ?_
            refine .bd (g := fun (y : (S_Net × Int)) => (A.tup [(A.agg [(A.imm (List.map c_S_Packet y.1.Queue) false), (A.imm (List.map c_A2_int_i64 y.1.Apart) false)]), (A.v (Value.int .i64 y.2))])) (by simp only [snap, snapW, snapWs, snapWss, snapWss_map, trim, List.map_cons, List.map_nil, fl_cI, fl_c8, fl_cB, fl_cS, fl_cL, fl_S_kinespherelaw06_Move, fl_S_Packet, fl_A2_int_i64, fl_S_Net]; exact h25 a0 (Int.tmod (wr .i64 (a1.At)) ((a0.Queue.length : Int)))) fun y9 => ?_
            refine .st (v := (A.agg [(A.imm (List.map c_S_Packet y9.1.Queue) false), (A.imm (List.map c_A2_int_i64 y9.1.Apart) false)])) (by kernel_rfl) ?_
            refine .st (v := (A.v (Value.int .i64 y9.2))) (by kernel_rfl) ?_
            refine .st (v := [Blk.box [(A.imm (List.map c_S_Packet a0.Queue) false), (A.imm (List.map c_A2_int_i64 a0.Apart) false)], Blk.box [(A.v (Value.int .u8 a1.Kind)), (A.v (Value.int .u8 a1.At)), (A.v (Value.int .u8 a1.A)), (A.v (Value.int .u8 a1.B)), (A.v (Value.int .u8 a1.Data))], Blk.box [(A.imm (List.map c_S_Packet y9.1.Queue) false), (A.imm (List.map c_A2_int_i64 y9.1.Apart) false)], Blk.box [(A.v (Value.int .i64 0)), (A.v (Value.int .i64 0)), (A.imm [] true)]]) (by kernel_rfl) ?_
            refine .st (v := (A.agg [(A.imm (List.map c_S_Packet y9.1.Queue) false), (A.imm (List.map c_A2_int_i64 y9.1.Apart) false)])) (by kernel_rfl) ?_
            refine .st (v := (A.agg [(A.v (Value.int .i64 0)), (A.v (Value.int .i64 0)), (A.imm [] true)])) (by kernel_rfl) ?_
            refine .cT (by kernel_rfl) ?_
            refine .st (v := [Blk.box [(A.imm (List.map c_S_Packet a0.Queue) false), (A.imm (List.map c_A2_int_i64 a0.Apart) false)], Blk.box [(A.v (Value.int .u8 a1.Kind)), (A.v (Value.int .u8 a1.At)), (A.v (Value.int .u8 a1.A)), (A.v (Value.int .u8 a1.B)), (A.v (Value.int .u8 a1.Data))], Blk.box [(A.imm (List.map c_S_Packet y9.1.Queue) false), (A.imm (List.map c_A2_int_i64 y9.1.Apart) false)], Blk.box [(A.v (Value.int .i64 0)), (A.v (Value.int .i64 0)), (A.imm [] true)]]) (by kernel_rfl) ?_
            refine .st (v := [Blk.box [(A.imm (List.map c_S_Packet a0.Queue) false), (A.imm (List.map c_A2_int_i64 a0.Apart) false)], Blk.box [(A.v (Value.int .u8 a1.Kind)), (A.v (Value.int .u8 a1.At)), (A.v (Value.int .u8 a1.A)), (A.v (Value.int .u8 a1.B)), (A.v (Value.int .u8 a1.Data))], Blk.box [(A.imm (List.map c_S_Packet y9.1.Queue) false), (A.imm (List.map c_A2_int_i64 y9.1.Apart) false)], Blk.box [(A.v (Value.int .i64 0)), (A.v (Value.int .i64 0)), (A.imm [] true)]]) (by kernel_rfl) ?_
            refine .st (v := (A.agg [(A.imm (List.map c_S_Packet y9.1.Queue) false), (A.imm (List.map c_A2_int_i64 y9.1.Apart) false)])) (by kernel_rfl) ?_
            refine .st (v := (A.agg [(A.v (Value.int .i64 0)), (A.v (Value.int .i64 0)), (A.imm [] true)])) (by kernel_rfl) ?_
            exact .lf rfl rfl ⟨_, rfl, by simp only [snap, snapW, snapWs, snapWss, snapWss_map, trim, List.map_cons, List.map_nil, fl_cI, fl_c8, fl_cB, fl_cS, fl_cL, fl_S_kinespherelaw06_Move, fl_S_Packet, fl_A2_int_i64, fl_S_Net, snapE]⟩
          · refine .st (v := (A.v (Value.bool ((Int.tmod a1.Kind 6) == 4)))) (aBin_eql ..) ?_
            refine .biH (fun hk10 => ?_) (fun hk10 => ?_)
            · refine .st (v := (A.agg [(A.imm (List.map c_S_Packet a0.Queue) false), (A.imm (List.map c_A2_int_i64 a0.Apart) false)])) (by kernel_rfl) ?_
              refine .bd (g := fun (y : (S_Net × Int)) => (A.tup [(A.agg [(A.imm (List.map c_S_Packet y.1.Queue) false), (A.imm (List.map c_A2_int_i64 y.1.Apart) false)]), (A.v (Value.int .i64 y.2))])) (by simp only [snap, snapW, snapWs, snapWss, snapWss_map, trim, List.map_cons, List.map_nil, fl_cI, fl_c8, fl_cB, fl_cS, fl_cL, fl_S_kinespherelaw06_Move, fl_S_Packet, fl_A2_int_i64, fl_S_Net]; exact h20 a0 (Int.tmod (wr .i64 (a1.A)) 24) (Int.tmod (wr .i64 (a1.B)) 24) true) fun y11 => ?_
              refine .st (v := (A.agg [(A.imm (List.map c_S_Packet y11.1.Queue) false), (A.imm (List.map c_A2_int_i64 y11.1.Apart) false)])) (by kernel_rfl) ?_
              refine .st (v := (A.v (Value.int .i64 y11.2))) (by kernel_rfl) ?_
              refine .st (v := [Blk.box [(A.imm (List.map c_S_Packet a0.Queue) false), (A.imm (List.map c_A2_int_i64 a0.Apart) false)], Blk.box [(A.v (Value.int .u8 a1.Kind)), (A.v (Value.int .u8 a1.At)), (A.v (Value.int .u8 a1.A)), (A.v (Value.int .u8 a1.B)), (A.v (Value.int .u8 a1.Data))], Blk.box [(A.imm (List.map c_S_Packet y11.1.Queue) false), (A.imm (List.map c_A2_int_i64 y11.1.Apart) false)], Blk.box [(A.v (Value.int .i64 0)), (A.v (Value.int .i64 0)), (A.imm [] true)]]) (by kernel_rfl) ?_
              refine .st (v := (A.agg [(A.imm (List.map c_S_Packet y11.1.Queue) false), (A.imm (List.map c_A2_int_i64 y11.1.Apart) false)])) (by kernel_rfl) ?_
              refine .st (v := (A.agg [(A.v (Value.int .i64 0)), (A.v (Value.int .i64 0)), (A.imm [] true)])) (by kernel_rfl) ?_
              refine .cT (by kernel_rfl) ?_
              refine .st (v := [Blk.box [(A.imm (List.map c_S_Packet a0.Queue) false), (A.imm (List.map c_A2_int_i64 a0.Apart) false)], Blk.box [(A.v (Value.int .u8 a1.Kind)), (A.v (Value.int .u8 a1.At)), (A.v (Value.int .u8 a1.A)), (A.v (Value.int .u8 a1.B)), (A.v (Value.int .u8 a1.Data))], Blk.box [(A.imm (List.map c_S_Packet y11.1.Queue) false), (A.imm (List.map c_A2_int_i64 y11.1.Apart) false)], Blk.box [(A.v (Value.int .i64 0)), (A.v (Value.int .i64 0)), (A.imm [] true)]]) (by kernel_rfl) ?_
              refine .st (v := [Blk.box [(A.imm (List.map c_S_Packet a0.Queue) false), (A.imm (List.map c_A2_int_i64 a0.Apart) false)], Blk.box [(A.v (Value.int .u8 a1.Kind)), (A.v (Value.int .u8 a1.At)), (A.v (Value.int .u8 a1.A)), (A.v (Value.int .u8 a1.B)), (A.v (Value.int .u8 a1.Data))], Blk.box [(A.imm (List.map c_S_Packet y11.1.Queue) false), (A.imm (List.map c_A2_int_i64 y11.1.Apart) false)], Blk.box [(A.v (Value.int .i64 0)), (A.v (Value.int .i64 0)), (A.imm [] true)]]) (by kernel_rfl) ?_
              refine .st (v := (A.agg [(A.imm (List.map c_S_Packet y11.1.Queue) false), (A.imm (List.map c_A2_int_i64 y11.1.Apart) false)])) (by kernel_rfl) ?_
              refine .st (v := (A.agg [(A.v (Value.int .i64 0)), (A.v (Value.int .i64 0)), (A.imm [] true)])) (by kernel_rfl) ?_
              exact .lf rfl rfl ⟨_, rfl, by simp only [snap, snapW, snapWs, snapWss, snapWss_map, trim, List.map_cons, List.map_nil, fl_cI, fl_c8, fl_cB, fl_cS, fl_cL, fl_S_kinespherelaw06_Move, fl_S_Packet, fl_A2_int_i64, fl_S_Net, snapE]⟩
            · refine .st (v := (A.v (Value.bool ((Int.tmod a1.Kind 6) == 5)))) (aBin_eql ..) ?_
              refine .biH (fun hk12 => ?_) (fun hk12 => ?_)
              · refine .st (v := (A.agg [(A.imm (List.map c_S_Packet a0.Queue) false), (A.imm (List.map c_A2_int_i64 a0.Apart) false)])) (by kernel_rfl) ?_
                refine .bd (g := fun (y : (S_Net × Int)) => (A.tup [(A.agg [(A.imm (List.map c_S_Packet y.1.Queue) false), (A.imm (List.map c_A2_int_i64 y.1.Apart) false)]), (A.v (Value.int .i64 y.2))])) (by simp only [snap, snapW, snapWs, snapWss, snapWss_map, trim, List.map_cons, List.map_nil, fl_cI, fl_c8, fl_cB, fl_cS, fl_cL, fl_S_kinespherelaw06_Move, fl_S_Packet, fl_A2_int_i64, fl_S_Net]; exact h20 a0 (Int.tmod (wr .i64 (a1.A)) 24) (Int.tmod (wr .i64 (a1.B)) 24) false) fun y13 => ?_
                refine .st (v := (A.agg [(A.imm (List.map c_S_Packet y13.1.Queue) false), (A.imm (List.map c_A2_int_i64 y13.1.Apart) false)])) (by kernel_rfl) ?_
                refine .st (v := (A.v (Value.int .i64 y13.2))) (by kernel_rfl) ?_
                refine .st (v := [Blk.box [(A.imm (List.map c_S_Packet a0.Queue) false), (A.imm (List.map c_A2_int_i64 a0.Apart) false)], Blk.box [(A.v (Value.int .u8 a1.Kind)), (A.v (Value.int .u8 a1.At)), (A.v (Value.int .u8 a1.A)), (A.v (Value.int .u8 a1.B)), (A.v (Value.int .u8 a1.Data))], Blk.box [(A.imm (List.map c_S_Packet y13.1.Queue) false), (A.imm (List.map c_A2_int_i64 y13.1.Apart) false)], Blk.box [(A.v (Value.int .i64 0)), (A.v (Value.int .i64 0)), (A.imm [] true)]]) (by kernel_rfl) ?_
                refine .st (v := (A.agg [(A.imm (List.map c_S_Packet y13.1.Queue) false), (A.imm (List.map c_A2_int_i64 y13.1.Apart) false)])) (by kernel_rfl) ?_
                refine .st (v := (A.agg [(A.v (Value.int .i64 0)), (A.v (Value.int .i64 0)), (A.imm [] true)])) (by kernel_rfl) ?_
                refine .cT (by kernel_rfl) ?_
                refine .st (v := [Blk.box [(A.imm (List.map c_S_Packet a0.Queue) false), (A.imm (List.map c_A2_int_i64 a0.Apart) false)], Blk.box [(A.v (Value.int .u8 a1.Kind)), (A.v (Value.int .u8 a1.At)), (A.v (Value.int .u8 a1.A)), (A.v (Value.int .u8 a1.B)), (A.v (Value.int .u8 a1.Data))], Blk.box [(A.imm (List.map c_S_Packet y13.1.Queue) false), (A.imm (List.map c_A2_int_i64 y13.1.Apart) false)], Blk.box [(A.v (Value.int .i64 0)), (A.v (Value.int .i64 0)), (A.imm [] true)]]) (by kernel_rfl) ?_
                refine .st (v := [Blk.box [(A.imm (List.map c_S_Packet a0.Queue) false), (A.imm (List.map c_A2_int_i64 a0.Apart) false)], Blk.box [(A.v (Value.int .u8 a1.Kind)), (A.v (Value.int .u8 a1.At)), (A.v (Value.int .u8 a1.A)), (A.v (Value.int .u8 a1.B)), (A.v (Value.int .u8 a1.Data))], Blk.box [(A.imm (List.map c_S_Packet y13.1.Queue) false), (A.imm (List.map c_A2_int_i64 y13.1.Apart) false)], Blk.box [(A.v (Value.int .i64 0)), (A.v (Value.int .i64 0)), (A.imm [] true)]]) (by kernel_rfl) ?_
                refine .st (v := (A.agg [(A.imm (List.map c_S_Packet y13.1.Queue) false), (A.imm (List.map c_A2_int_i64 y13.1.Apart) false)])) (by kernel_rfl) ?_
                refine .st (v := (A.agg [(A.v (Value.int .i64 0)), (A.v (Value.int .i64 0)), (A.imm [] true)])) (by kernel_rfl) ?_
                exact .lf rfl rfl ⟨_, rfl, by simp only [snap, snapW, snapWs, snapWss, snapWss_map, trim, List.map_cons, List.map_nil, fl_cI, fl_c8, fl_cB, fl_cS, fl_cL, fl_S_kinespherelaw06_Move, fl_S_Packet, fl_A2_int_i64, fl_S_Net, snapE]⟩
              · refine .st (v := (A.agg [(A.imm [] true), (A.imm [] true)])) (by kernel_rfl) ?_
                refine .st (v := (A.agg [(A.v (Value.int .i64 0)), (A.v (Value.int .i64 0)), (A.imm [] true)])) (by kernel_rfl) ?_
                refine .cT (by kernel_rfl) ?_
                refine .st (v := [Blk.box [(A.imm (List.map c_S_Packet a0.Queue) false), (A.imm (List.map c_A2_int_i64 a0.Apart) false)], Blk.box [(A.v (Value.int .u8 a1.Kind)), (A.v (Value.int .u8 a1.At)), (A.v (Value.int .u8 a1.A)), (A.v (Value.int .u8 a1.B)), (A.v (Value.int .u8 a1.Data))], Blk.box [(A.imm [] true), (A.imm [] true)], Blk.box [(A.v (Value.int .i64 0)), (A.v (Value.int .i64 0)), (A.imm [] true)]]) (by kernel_rfl) ?_
                refine .st (v := [Blk.box [(A.imm (List.map c_S_Packet a0.Queue) false), (A.imm (List.map c_A2_int_i64 a0.Apart) false)], Blk.box [(A.v (Value.int .u8 a1.Kind)), (A.v (Value.int .u8 a1.At)), (A.v (Value.int .u8 a1.A)), (A.v (Value.int .u8 a1.B)), (A.v (Value.int .u8 a1.Data))], Blk.box [(A.imm [] true), (A.imm [] true)], Blk.box [(A.v (Value.int .i64 0)), (A.v (Value.int .i64 0)), (A.imm [] true)]]) (by kernel_rfl) ?_
                refine .st (v := (A.agg [(A.imm [] true), (A.imm [] true)])) (by kernel_rfl) ?_
                refine .st (v := (A.agg [(A.v (Value.int .i64 0)), (A.v (Value.int .i64 0)), (A.imm [] true)])) (by kernel_rfl) ?_
                exact .lf rfl rfl ⟨_, rfl, by simp only [snap, snapW, snapWs, snapWss, snapWss_map, trim, List.map_cons, List.map_nil, fl_cI, fl_c8, fl_cB, fl_cS, fl_cL, fl_S_kinespherelaw06_Move, fl_S_Packet, fl_A2_int_i64, fl_S_Net, snapE]⟩
  · refine .st (v := (A.ptr 1 2)) (by kernel_rfl) ?_
    refine .st (v := (A.v (Value.int .u8 a1.A))) (by kernel_rfl) ?_
    refine .st (v := (A.v (Value.int .i64 (wr .i64 (a1.A))))) (aConvert_int (hs := by kernel_rfl) (hd := by kernel_rfl) ..) ?_
    refine .st (v := (A.v (Value.int .i64 (Int.tmod (wr .i64 (a1.A)) 24)))) (aBin_rem (hb := by decide) ..) ?_
    refine .st (v := (A.ptr 1 3)) (by kernel_rfl) ?_
    refine .st (v := (A.v (Value.int .u8 a1.B))) (by kernel_rfl) ?_
    refine .st (v := (A.v (Value.int .i64 (wr .i64 (a1.B))))) (aConvert_int (hs := by kernel_rfl) (hd := by kernel_rfl) ..) ?_
    refine .st (v := (A.v (Value.int .i64 (Int.tmod (wr .i64 (a1.B)) 24)))) (aBin_rem (hb := by decide) ..) ?_
    refine .st (v := (A.ptr 1 0)) (by kernel_rfl) ?_
    refine .st (v := (A.v (Value.int .u8 a1.Kind))) (by kernel_rfl) ?_
    refine .st (v := (A.v (Value.int .u8 (Int.tmod a1.Kind 6)))) (aBin_rem (hb := by decide) ..) ?_
    refine .st (v := (A.v (Value.bool ((Int.tmod a1.Kind 6) == 0)))) (aBin_eql ..) ?_
    refine .biH (fun hk14 => ?_) (fun hk14 => ?_)
    · refine .st (v := (A.agg [(A.imm (List.map c_S_Packet a0.Queue) false), (A.imm (List.map c_A2_int_i64 a0.Apart) false)])) (by kernel_rfl) ?_
      refine .st (v := (A.ptr 1 4)) (by kernel_rfl) ?_
      refine .st (v := (A.v (Value.int .u8 a1.Data))) (by kernel_rfl) ?_
      refine .gd fun hg => ?_
      refine .st (v := (A.imm [[(A.v (Value.int .u8 (((UInt8.ofNat (Int.toNat a1.Data)).toNat : Int))))]] true)) (by rw [u8_back hg]; kernel_rfl) ?_
      refine .st (v := (A.agg [(A.v (Value.int .i64 (Int.tmod (wr .i64 (a1.A)) 24))), (A.v (Value.int .i64 (Int.tmod (wr .i64 (a1.B)) 24))), (A.imm [[(A.v (Value.int .u8 (((UInt8.ofNat (Int.toNat a1.Data)).toNat : Int))))]] true)])) (by kernel_rfl) ?_
      refine .bd (g := fun (y : (S_Net × Int)) => (A.tup [(A.agg [(A.imm (List.map c_S_Packet y.1.Queue) false), (A.imm (List.map c_A2_int_i64 y.1.Apart) false)]), (A.v (Value.int .i64 y.2))])) (by simp only [snap, snapW, snapWs, snapWss, snapWss_map, trim, List.map_cons, List.map_nil, fl_cI, fl_c8, fl_cB, fl_cS, fl_cL, fl_S_kinespherelaw06_Move, fl_S_Packet, fl_A2_int_i64, fl_S_Net]; exact h11 a0 ((S_Packet.mk (Int.tmod (wr .i64 (a1.A)) 24) (Int.tmod (wr .i64 (a1.B)) 24) ([(UInt8.ofNat (Int.toNat a1.Data))])))) fun y15 => ?_
      refine .st (v := (A.agg [(A.imm (List.map c_S_Packet y15.1.Queue) false), (A.imm (List.map c_A2_int_i64 y15.1.Apart) false)])) (by kernel_rfl) ?_
      refine .st (v := (A.v (Value.int .i64 y15.2))) (by kernel_rfl) ?_
      refine .st (v := [Blk.box [(A.imm (List.map c_S_Packet a0.Queue) false), (A.imm (List.map c_A2_int_i64 a0.Apart) false)], Blk.box [(A.v (Value.int .u8 a1.Kind)), (A.v (Value.int .u8 a1.At)), (A.v (Value.int .u8 a1.A)), (A.v (Value.int .u8 a1.B)), (A.v (Value.int .u8 a1.Data))], Blk.box [(A.imm (List.map c_S_Packet y15.1.Queue) false), (A.imm (List.map c_A2_int_i64 y15.1.Apart) false)], Blk.box [(A.v (Value.int .i64 0)), (A.v (Value.int .i64 0)), (A.imm [] true)]]) (by kernel_rfl) ?_
      refine .st (v := (A.agg [(A.imm (List.map c_S_Packet y15.1.Queue) false), (A.imm (List.map c_A2_int_i64 y15.1.Apart) false)])) (by kernel_rfl) ?_
      refine .st (v := (A.agg [(A.v (Value.int .i64 0)), (A.v (Value.int .i64 0)), (A.imm [] true)])) (by kernel_rfl) ?_
      refine .cT (by kernel_rfl) ?_
      refine .st (v := [Blk.box [(A.imm (List.map c_S_Packet a0.Queue) false), (A.imm (List.map c_A2_int_i64 a0.Apart) false)], Blk.box [(A.v (Value.int .u8 a1.Kind)), (A.v (Value.int .u8 a1.At)), (A.v (Value.int .u8 a1.A)), (A.v (Value.int .u8 a1.B)), (A.v (Value.int .u8 a1.Data))], Blk.box [(A.imm (List.map c_S_Packet y15.1.Queue) false), (A.imm (List.map c_A2_int_i64 y15.1.Apart) false)], Blk.box [(A.v (Value.int .i64 0)), (A.v (Value.int .i64 0)), (A.imm [] true)]]) (by kernel_rfl) ?_
      refine .st (v := [Blk.box [(A.imm (List.map c_S_Packet a0.Queue) false), (A.imm (List.map c_A2_int_i64 a0.Apart) false)], Blk.box [(A.v (Value.int .u8 a1.Kind)), (A.v (Value.int .u8 a1.At)), (A.v (Value.int .u8 a1.A)), (A.v (Value.int .u8 a1.B)), (A.v (Value.int .u8 a1.Data))], Blk.box [(A.imm (List.map c_S_Packet y15.1.Queue) false), (A.imm (List.map c_A2_int_i64 y15.1.Apart) false)], Blk.box [(A.v (Value.int .i64 0)), (A.v (Value.int .i64 0)), (A.imm [] true)]]) (by kernel_rfl) ?_
      refine .st (v := (A.agg [(A.imm (List.map c_S_Packet y15.1.Queue) false), (A.imm (List.map c_A2_int_i64 y15.1.Apart) false)])) (by kernel_rfl) ?_
      refine .st (v := (A.agg [(A.v (Value.int .i64 0)), (A.v (Value.int .i64 0)), (A.imm [] true)])) (by kernel_rfl) ?_
      exact .lf rfl rfl ⟨_, rfl, by simp only [snap, snapW, snapWs, snapWss, snapWss_map, trim, List.map_cons, List.map_nil, fl_cI, fl_c8, fl_cB, fl_cS, fl_cL, fl_S_kinespherelaw06_Move, fl_S_Packet, fl_A2_int_i64, fl_S_Net, snapE]⟩
    · refine .st (v := (A.v (Value.bool ((Int.tmod a1.Kind 6) == 1)))) (aBin_eql ..) ?_
      refine .biH (fun hk16 => ?_) (fun hk16 => ?_)
      · refine .st (v := (A.agg [(A.imm (List.map c_S_Packet a0.Queue) false), (A.imm (List.map c_A2_int_i64 a0.Apart) false)])) (by kernel_rfl) ?_
        refine .bd (g := fun (y : (S_Packet × S_Net × Int)) => (A.tup [(A.agg [(A.v (Value.int .i64 y.1.From)), (A.v (Value.int .i64 y.1.To)), (A.imm (List.map c8 y.1.Data) false)]), (A.agg [(A.imm (List.map c_S_Packet y.2.1.Queue) false), (A.imm (List.map c_A2_int_i64 y.2.1.Apart) false)]), (A.v (Value.int .i64 y.2.2))])) (by simp only [snap, snapW, snapWs, snapWss, snapWss_map, trim, List.map_cons, List.map_nil, fl_cI, fl_c8, fl_cB, fl_cS, fl_cL, fl_S_kinespherelaw06_Move, fl_S_Packet, fl_A2_int_i64, fl_S_Net]; exact h18 a0 0) fun y17 => ?_
        refine .st (v := (A.agg [(A.v (Value.int .i64 y17.1.From)), (A.v (Value.int .i64 y17.1.To)), (A.imm (List.map c8 y17.1.Data) false)])) (by kernel_rfl) ?_
        refine .st (v := (A.agg [(A.imm (List.map c_S_Packet y17.2.1.Queue) false), (A.imm (List.map c_A2_int_i64 y17.2.1.Apart) false)])) (by kernel_rfl) ?_
        refine .st (v := (A.v (Value.int .i64 y17.2.2))) (by kernel_rfl) ?_
        refine .st (v := [Blk.box [(A.imm (List.map c_S_Packet a0.Queue) false), (A.imm (List.map c_A2_int_i64 a0.Apart) false)], Blk.box [(A.v (Value.int .u8 a1.Kind)), (A.v (Value.int .u8 a1.At)), (A.v (Value.int .u8 a1.A)), (A.v (Value.int .u8 a1.B)), (A.v (Value.int .u8 a1.Data))], Blk.box [(A.imm [] true), (A.imm [] true)], Blk.box [(A.v (Value.int .i64 y17.1.From)), (A.v (Value.int .i64 y17.1.To)), (A.imm (List.map c8 y17.1.Data) false)]]) (by kernel_rfl) ?_
        refine .st (v := [Blk.box [(A.imm (List.map c_S_Packet a0.Queue) false), (A.imm (List.map c_A2_int_i64 a0.Apart) false)], Blk.box [(A.v (Value.int .u8 a1.Kind)), (A.v (Value.int .u8 a1.At)), (A.v (Value.int .u8 a1.A)), (A.v (Value.int .u8 a1.B)), (A.v (Value.int .u8 a1.Data))], Blk.box [(A.imm (List.map c_S_Packet y17.2.1.Queue) false), (A.imm (List.map c_A2_int_i64 y17.2.1.Apart) false)], Blk.box [(A.v (Value.int .i64 y17.1.From)), (A.v (Value.int .i64 y17.1.To)), (A.imm (List.map c8 y17.1.Data) false)]]) (by kernel_rfl) ?_
        refine .st (v := (A.agg [(A.imm (List.map c_S_Packet y17.2.1.Queue) false), (A.imm (List.map c_A2_int_i64 y17.2.1.Apart) false)])) (by kernel_rfl) ?_
        refine .st (v := (A.agg [(A.v (Value.int .i64 y17.1.From)), (A.v (Value.int .i64 y17.1.To)), (A.imm (List.map c8 y17.1.Data) false)])) (by kernel_rfl) ?_
        refine .cT (by kernel_rfl) ?_
        refine .st (v := [Blk.box [(A.imm (List.map c_S_Packet a0.Queue) false), (A.imm (List.map c_A2_int_i64 a0.Apart) false)], Blk.box [(A.v (Value.int .u8 a1.Kind)), (A.v (Value.int .u8 a1.At)), (A.v (Value.int .u8 a1.A)), (A.v (Value.int .u8 a1.B)), (A.v (Value.int .u8 a1.Data))], Blk.box [(A.imm (List.map c_S_Packet y17.2.1.Queue) false), (A.imm (List.map c_A2_int_i64 y17.2.1.Apart) false)], Blk.box [(A.v (Value.int .i64 y17.1.From)), (A.v (Value.int .i64 y17.1.To)), (A.imm (List.map c8 y17.1.Data) false)]]) (by kernel_rfl) ?_
        refine .st (v := [Blk.box [(A.imm (List.map c_S_Packet a0.Queue) false), (A.imm (List.map c_A2_int_i64 a0.Apart) false)], Blk.box [(A.v (Value.int .u8 a1.Kind)), (A.v (Value.int .u8 a1.At)), (A.v (Value.int .u8 a1.A)), (A.v (Value.int .u8 a1.B)), (A.v (Value.int .u8 a1.Data))], Blk.box [(A.imm (List.map c_S_Packet y17.2.1.Queue) false), (A.imm (List.map c_A2_int_i64 y17.2.1.Apart) false)], Blk.box [(A.v (Value.int .i64 y17.1.From)), (A.v (Value.int .i64 y17.1.To)), (A.imm (List.map c8 y17.1.Data) false)]]) (by kernel_rfl) ?_
        refine .st (v := (A.agg [(A.imm (List.map c_S_Packet y17.2.1.Queue) false), (A.imm (List.map c_A2_int_i64 y17.2.1.Apart) false)])) (by kernel_rfl) ?_
        refine .st (v := (A.agg [(A.v (Value.int .i64 y17.1.From)), (A.v (Value.int .i64 y17.1.To)), (A.imm (List.map c8 y17.1.Data) false)])) (by kernel_rfl) ?_
        exact .lf rfl rfl ⟨_, rfl, by simp only [snap, snapW, snapWs, snapWss, snapWss_map, trim, List.map_cons, List.map_nil, fl_cI, fl_c8, fl_cB, fl_cS, fl_cL, fl_S_kinespherelaw06_Move, fl_S_Packet, fl_A2_int_i64, fl_S_Net, snapE]⟩
      · refine .st (v := (A.v (Value.bool ((Int.tmod a1.Kind 6) == 2)))) (aBin_eql ..) ?_
        refine .biH (fun hk18 => ?_) (fun hk18 => ?_)
        · refine .st (v := (A.agg [(A.imm (List.map c_S_Packet a0.Queue) false), (A.imm (List.map c_A2_int_i64 a0.Apart) false)])) (by kernel_rfl) ?_
          refine .bd (g := fun (y : (S_Net × Int)) => (A.tup [(A.agg [(A.imm (List.map c_S_Packet y.1.Queue) false), (A.imm (List.map c_A2_int_i64 y.1.Apart) false)]), (A.v (Value.int .i64 y.2))])) (by simp only [snap, snapW, snapWs, snapWss, snapWss_map, trim, List.map_cons, List.map_nil, fl_cI, fl_c8, fl_cB, fl_cS, fl_cL, fl_S_kinespherelaw06_Move, fl_S_Packet, fl_A2_int_i64, fl_S_Net]; exact h23 a0 0) fun y19 => ?_
          refine .st (v := (A.agg [(A.imm (List.map c_S_Packet y19.1.Queue) false), (A.imm (List.map c_A2_int_i64 y19.1.Apart) false)])) (by kernel_rfl) ?_
          refine .st (v := (A.v (Value.int .i64 y19.2))) (by kernel_rfl) ?_
          refine .st (v := [Blk.box [(A.imm (List.map c_S_Packet a0.Queue) false), (A.imm (List.map c_A2_int_i64 a0.Apart) false)], Blk.box [(A.v (Value.int .u8 a1.Kind)), (A.v (Value.int .u8 a1.At)), (A.v (Value.int .u8 a1.A)), (A.v (Value.int .u8 a1.B)), (A.v (Value.int .u8 a1.Data))], Blk.box [(A.imm (List.map c_S_Packet y19.1.Queue) false), (A.imm (List.map c_A2_int_i64 y19.1.Apart) false)], Blk.box [(A.v (Value.int .i64 0)), (A.v (Value.int .i64 0)), (A.imm [] true)]]) (by kernel_rfl) ?_
          refine .st (v := (A.agg [(A.imm (List.map c_S_Packet y19.1.Queue) false), (A.imm (List.map c_A2_int_i64 y19.1.Apart) false)])) (by kernel_rfl) ?_
          refine .st (v := (A.agg [(A.v (Value.int .i64 0)), (A.v (Value.int .i64 0)), (A.imm [] true)])) (by kernel_rfl) ?_
          refine .cT (by kernel_rfl) ?_
          refine .st (v := [Blk.box [(A.imm (List.map c_S_Packet a0.Queue) false), (A.imm (List.map c_A2_int_i64 a0.Apart) false)], Blk.box [(A.v (Value.int .u8 a1.Kind)), (A.v (Value.int .u8 a1.At)), (A.v (Value.int .u8 a1.A)), (A.v (Value.int .u8 a1.B)), (A.v (Value.int .u8 a1.Data))], Blk.box [(A.imm (List.map c_S_Packet y19.1.Queue) false), (A.imm (List.map c_A2_int_i64 y19.1.Apart) false)], Blk.box [(A.v (Value.int .i64 0)), (A.v (Value.int .i64 0)), (A.imm [] true)]]) (by kernel_rfl) ?_
          refine .st (v := [Blk.box [(A.imm (List.map c_S_Packet a0.Queue) false), (A.imm (List.map c_A2_int_i64 a0.Apart) false)], Blk.box [(A.v (Value.int .u8 a1.Kind)), (A.v (Value.int .u8 a1.At)), (A.v (Value.int .u8 a1.A)), (A.v (Value.int .u8 a1.B)), (A.v (Value.int .u8 a1.Data))], Blk.box [(A.imm (List.map c_S_Packet y19.1.Queue) false), (A.imm (List.map c_A2_int_i64 y19.1.Apart) false)], Blk.box [(A.v (Value.int .i64 0)), (A.v (Value.int .i64 0)), (A.imm [] true)]]) (by kernel_rfl) ?_
          refine .st (v := (A.agg [(A.imm (List.map c_S_Packet y19.1.Queue) false), (A.imm (List.map c_A2_int_i64 y19.1.Apart) false)])) (by kernel_rfl) ?_
          refine .st (v := (A.agg [(A.v (Value.int .i64 0)), (A.v (Value.int .i64 0)), (A.imm [] true)])) (by kernel_rfl) ?_
          exact .lf rfl rfl ⟨_, rfl, by simp only [snap, snapW, snapWs, snapWss, snapWss_map, trim, List.map_cons, List.map_nil, fl_cI, fl_c8, fl_cB, fl_cS, fl_cL, fl_S_kinespherelaw06_Move, fl_S_Packet, fl_A2_int_i64, fl_S_Net, snapE]⟩
        · refine .st (v := (A.v (Value.bool ((Int.tmod a1.Kind 6) == 3)))) (aBin_eql ..) ?_
          refine .biH (fun hk20 => ?_) (fun hk20 => ?_)
          · refine .st (v := (A.agg [(A.imm (List.map c_S_Packet a0.Queue) false), (A.imm (List.map c_A2_int_i64 a0.Apart) false)])) (by kernel_rfl) ?_
            refine .bd (g := fun (y : (S_Net × Int)) => (A.tup [(A.agg [(A.imm (List.map c_S_Packet y.1.Queue) false), (A.imm (List.map c_A2_int_i64 y.1.Apart) false)]), (A.v (Value.int .i64 y.2))])) (by simp only [snap, snapW, snapWs, snapWss, snapWss_map, trim, List.map_cons, List.map_nil, fl_cI, fl_c8, fl_cB, fl_cS, fl_cL, fl_S_kinespherelaw06_Move, fl_S_Packet, fl_A2_int_i64, fl_S_Net]; exact h25 a0 0) fun y21 => ?_
            refine .st (v := (A.agg [(A.imm (List.map c_S_Packet y21.1.Queue) false), (A.imm (List.map c_A2_int_i64 y21.1.Apart) false)])) (by kernel_rfl) ?_
            refine .st (v := (A.v (Value.int .i64 y21.2))) (by kernel_rfl) ?_
            refine .st (v := [Blk.box [(A.imm (List.map c_S_Packet a0.Queue) false), (A.imm (List.map c_A2_int_i64 a0.Apart) false)], Blk.box [(A.v (Value.int .u8 a1.Kind)), (A.v (Value.int .u8 a1.At)), (A.v (Value.int .u8 a1.A)), (A.v (Value.int .u8 a1.B)), (A.v (Value.int .u8 a1.Data))], Blk.box [(A.imm (List.map c_S_Packet y21.1.Queue) false), (A.imm (List.map c_A2_int_i64 y21.1.Apart) false)], Blk.box [(A.v (Value.int .i64 0)), (A.v (Value.int .i64 0)), (A.imm [] true)]]) (by kernel_rfl) ?_
            refine .st (v := (A.agg [(A.imm (List.map c_S_Packet y21.1.Queue) false), (A.imm (List.map c_A2_int_i64 y21.1.Apart) false)])) (by kernel_rfl) ?_
            refine .st (v := (A.agg [(A.v (Value.int .i64 0)), (A.v (Value.int .i64 0)), (A.imm [] true)])) (by kernel_rfl) ?_
            refine .cT (by kernel_rfl) ?_
            refine .st (v := [Blk.box [(A.imm (List.map c_S_Packet a0.Queue) false), (A.imm (List.map c_A2_int_i64 a0.Apart) false)], Blk.box [(A.v (Value.int .u8 a1.Kind)), (A.v (Value.int .u8 a1.At)), (A.v (Value.int .u8 a1.A)), (A.v (Value.int .u8 a1.B)), (A.v (Value.int .u8 a1.Data))], Blk.box [(A.imm (List.map c_S_Packet y21.1.Queue) false), (A.imm (List.map c_A2_int_i64 y21.1.Apart) false)], Blk.box [(A.v (Value.int .i64 0)), (A.v (Value.int .i64 0)), (A.imm [] true)]]) (by kernel_rfl) ?_
            refine .st (v := [Blk.box [(A.imm (List.map c_S_Packet a0.Queue) false), (A.imm (List.map c_A2_int_i64 a0.Apart) false)], Blk.box [(A.v (Value.int .u8 a1.Kind)), (A.v (Value.int .u8 a1.At)), (A.v (Value.int .u8 a1.A)), (A.v (Value.int .u8 a1.B)), (A.v (Value.int .u8 a1.Data))], Blk.box [(A.imm (List.map c_S_Packet y21.1.Queue) false), (A.imm (List.map c_A2_int_i64 y21.1.Apart) false)], Blk.box [(A.v (Value.int .i64 0)), (A.v (Value.int .i64 0)), (A.imm [] true)]]) (by kernel_rfl) ?_
            refine .st (v := (A.agg [(A.imm (List.map c_S_Packet y21.1.Queue) false), (A.imm (List.map c_A2_int_i64 y21.1.Apart) false)])) (by kernel_rfl) ?_
            refine .st (v := (A.agg [(A.v (Value.int .i64 0)), (A.v (Value.int .i64 0)), (A.imm [] true)])) (by kernel_rfl) ?_
            exact .lf rfl rfl ⟨_, rfl, by simp only [snap, snapW, snapWs, snapWss, snapWss_map, trim, List.map_cons, List.map_nil, fl_cI, fl_c8, fl_cB, fl_cS, fl_cL, fl_S_kinespherelaw06_Move, fl_S_Packet, fl_A2_int_i64, fl_S_Net, snapE]⟩
          · refine .st (v := (A.v (Value.bool ((Int.tmod a1.Kind 6) == 4)))) (aBin_eql ..) ?_
            refine .biH (fun hk22 => ?_) (fun hk22 => ?_)
            · refine .st (v := (A.agg [(A.imm (List.map c_S_Packet a0.Queue) false), (A.imm (List.map c_A2_int_i64 a0.Apart) false)])) (by kernel_rfl) ?_
              refine .bd (g := fun (y : (S_Net × Int)) => (A.tup [(A.agg [(A.imm (List.map c_S_Packet y.1.Queue) false), (A.imm (List.map c_A2_int_i64 y.1.Apart) false)]), (A.v (Value.int .i64 y.2))])) (by simp only [snap, snapW, snapWs, snapWss, snapWss_map, trim, List.map_cons, List.map_nil, fl_cI, fl_c8, fl_cB, fl_cS, fl_cL, fl_S_kinespherelaw06_Move, fl_S_Packet, fl_A2_int_i64, fl_S_Net]; exact h20 a0 (Int.tmod (wr .i64 (a1.A)) 24) (Int.tmod (wr .i64 (a1.B)) 24) true) fun y23 => ?_
              refine .st (v := (A.agg [(A.imm (List.map c_S_Packet y23.1.Queue) false), (A.imm (List.map c_A2_int_i64 y23.1.Apart) false)])) (by kernel_rfl) ?_
              refine .st (v := (A.v (Value.int .i64 y23.2))) (by kernel_rfl) ?_
              refine .st (v := [Blk.box [(A.imm (List.map c_S_Packet a0.Queue) false), (A.imm (List.map c_A2_int_i64 a0.Apart) false)], Blk.box [(A.v (Value.int .u8 a1.Kind)), (A.v (Value.int .u8 a1.At)), (A.v (Value.int .u8 a1.A)), (A.v (Value.int .u8 a1.B)), (A.v (Value.int .u8 a1.Data))], Blk.box [(A.imm (List.map c_S_Packet y23.1.Queue) false), (A.imm (List.map c_A2_int_i64 y23.1.Apart) false)], Blk.box [(A.v (Value.int .i64 0)), (A.v (Value.int .i64 0)), (A.imm [] true)]]) (by kernel_rfl) ?_
              refine .st (v := (A.agg [(A.imm (List.map c_S_Packet y23.1.Queue) false), (A.imm (List.map c_A2_int_i64 y23.1.Apart) false)])) (by kernel_rfl) ?_
              refine .st (v := (A.agg [(A.v (Value.int .i64 0)), (A.v (Value.int .i64 0)), (A.imm [] true)])) (by kernel_rfl) ?_
              refine .cT (by kernel_rfl) ?_
              refine .st (v := [Blk.box [(A.imm (List.map c_S_Packet a0.Queue) false), (A.imm (List.map c_A2_int_i64 a0.Apart) false)], Blk.box [(A.v (Value.int .u8 a1.Kind)), (A.v (Value.int .u8 a1.At)), (A.v (Value.int .u8 a1.A)), (A.v (Value.int .u8 a1.B)), (A.v (Value.int .u8 a1.Data))], Blk.box [(A.imm (List.map c_S_Packet y23.1.Queue) false), (A.imm (List.map c_A2_int_i64 y23.1.Apart) false)], Blk.box [(A.v (Value.int .i64 0)), (A.v (Value.int .i64 0)), (A.imm [] true)]]) (by kernel_rfl) ?_
              refine .st (v := [Blk.box [(A.imm (List.map c_S_Packet a0.Queue) false), (A.imm (List.map c_A2_int_i64 a0.Apart) false)], Blk.box [(A.v (Value.int .u8 a1.Kind)), (A.v (Value.int .u8 a1.At)), (A.v (Value.int .u8 a1.A)), (A.v (Value.int .u8 a1.B)), (A.v (Value.int .u8 a1.Data))], Blk.box [(A.imm (List.map c_S_Packet y23.1.Queue) false), (A.imm (List.map c_A2_int_i64 y23.1.Apart) false)], Blk.box [(A.v (Value.int .i64 0)), (A.v (Value.int .i64 0)), (A.imm [] true)]]) (by kernel_rfl) ?_
              refine .st (v := (A.agg [(A.imm (List.map c_S_Packet y23.1.Queue) false), (A.imm (List.map c_A2_int_i64 y23.1.Apart) false)])) (by kernel_rfl) ?_
              refine .st (v := (A.agg [(A.v (Value.int .i64 0)), (A.v (Value.int .i64 0)), (A.imm [] true)])) (by kernel_rfl) ?_
              exact .lf rfl rfl ⟨_, rfl, by simp only [snap, snapW, snapWs, snapWss, snapWss_map, trim, List.map_cons, List.map_nil, fl_cI, fl_c8, fl_cB, fl_cS, fl_cL, fl_S_kinespherelaw06_Move, fl_S_Packet, fl_A2_int_i64, fl_S_Net, snapE]⟩
            · refine .st (v := (A.v (Value.bool ((Int.tmod a1.Kind 6) == 5)))) (aBin_eql ..) ?_
              refine .biH (fun hk24 => ?_) (fun hk24 => ?_)
              · refine .st (v := (A.agg [(A.imm (List.map c_S_Packet a0.Queue) false), (A.imm (List.map c_A2_int_i64 a0.Apart) false)])) (by kernel_rfl) ?_
                refine .bd (g := fun (y : (S_Net × Int)) => (A.tup [(A.agg [(A.imm (List.map c_S_Packet y.1.Queue) false), (A.imm (List.map c_A2_int_i64 y.1.Apart) false)]), (A.v (Value.int .i64 y.2))])) (by simp only [snap, snapW, snapWs, snapWss, snapWss_map, trim, List.map_cons, List.map_nil, fl_cI, fl_c8, fl_cB, fl_cS, fl_cL, fl_S_kinespherelaw06_Move, fl_S_Packet, fl_A2_int_i64, fl_S_Net]; exact h20 a0 (Int.tmod (wr .i64 (a1.A)) 24) (Int.tmod (wr .i64 (a1.B)) 24) false) fun y25 => ?_
                refine .st (v := (A.agg [(A.imm (List.map c_S_Packet y25.1.Queue) false), (A.imm (List.map c_A2_int_i64 y25.1.Apart) false)])) (by kernel_rfl) ?_
                refine .st (v := (A.v (Value.int .i64 y25.2))) (by kernel_rfl) ?_
                refine .st (v := [Blk.box [(A.imm (List.map c_S_Packet a0.Queue) false), (A.imm (List.map c_A2_int_i64 a0.Apart) false)], Blk.box [(A.v (Value.int .u8 a1.Kind)), (A.v (Value.int .u8 a1.At)), (A.v (Value.int .u8 a1.A)), (A.v (Value.int .u8 a1.B)), (A.v (Value.int .u8 a1.Data))], Blk.box [(A.imm (List.map c_S_Packet y25.1.Queue) false), (A.imm (List.map c_A2_int_i64 y25.1.Apart) false)], Blk.box [(A.v (Value.int .i64 0)), (A.v (Value.int .i64 0)), (A.imm [] true)]]) (by kernel_rfl) ?_
                refine .st (v := (A.agg [(A.imm (List.map c_S_Packet y25.1.Queue) false), (A.imm (List.map c_A2_int_i64 y25.1.Apart) false)])) (by kernel_rfl) ?_
                refine .st (v := (A.agg [(A.v (Value.int .i64 0)), (A.v (Value.int .i64 0)), (A.imm [] true)])) (by kernel_rfl) ?_
                refine .cT (by kernel_rfl) ?_
                refine .st (v := [Blk.box [(A.imm (List.map c_S_Packet a0.Queue) false), (A.imm (List.map c_A2_int_i64 a0.Apart) false)], Blk.box [(A.v (Value.int .u8 a1.Kind)), (A.v (Value.int .u8 a1.At)), (A.v (Value.int .u8 a1.A)), (A.v (Value.int .u8 a1.B)), (A.v (Value.int .u8 a1.Data))], Blk.box [(A.imm (List.map c_S_Packet y25.1.Queue) false), (A.imm (List.map c_A2_int_i64 y25.1.Apart) false)], Blk.box [(A.v (Value.int .i64 0)), (A.v (Value.int .i64 0)), (A.imm [] true)]]) (by kernel_rfl) ?_
                refine .st (v := [Blk.box [(A.imm (List.map c_S_Packet a0.Queue) false), (A.imm (List.map c_A2_int_i64 a0.Apart) false)], Blk.box [(A.v (Value.int .u8 a1.Kind)), (A.v (Value.int .u8 a1.At)), (A.v (Value.int .u8 a1.A)), (A.v (Value.int .u8 a1.B)), (A.v (Value.int .u8 a1.Data))], Blk.box [(A.imm (List.map c_S_Packet y25.1.Queue) false), (A.imm (List.map c_A2_int_i64 y25.1.Apart) false)], Blk.box [(A.v (Value.int .i64 0)), (A.v (Value.int .i64 0)), (A.imm [] true)]]) (by kernel_rfl) ?_
                refine .st (v := (A.agg [(A.imm (List.map c_S_Packet y25.1.Queue) false), (A.imm (List.map c_A2_int_i64 y25.1.Apart) false)])) (by kernel_rfl) ?_
                refine .st (v := (A.agg [(A.v (Value.int .i64 0)), (A.v (Value.int .i64 0)), (A.imm [] true)])) (by kernel_rfl) ?_
                exact .lf rfl rfl ⟨_, rfl, by simp only [snap, snapW, snapWs, snapWss, snapWss_map, trim, List.map_cons, List.map_nil, fl_cI, fl_c8, fl_cB, fl_cS, fl_cL, fl_S_kinespherelaw06_Move, fl_S_Packet, fl_A2_int_i64, fl_S_Net, snapE]⟩
              · refine .st (v := (A.agg [(A.imm [] true), (A.imm [] true)])) (by kernel_rfl) ?_
                refine .st (v := (A.agg [(A.v (Value.int .i64 0)), (A.v (Value.int .i64 0)), (A.imm [] true)])) (by kernel_rfl) ?_
                refine .cT (by kernel_rfl) ?_
                refine .st (v := [Blk.box [(A.imm (List.map c_S_Packet a0.Queue) false), (A.imm (List.map c_A2_int_i64 a0.Apart) false)], Blk.box [(A.v (Value.int .u8 a1.Kind)), (A.v (Value.int .u8 a1.At)), (A.v (Value.int .u8 a1.A)), (A.v (Value.int .u8 a1.B)), (A.v (Value.int .u8 a1.Data))], Blk.box [(A.imm [] true), (A.imm [] true)], Blk.box [(A.v (Value.int .i64 0)), (A.v (Value.int .i64 0)), (A.imm [] true)]]) (by kernel_rfl) ?_
                refine .st (v := [Blk.box [(A.imm (List.map c_S_Packet a0.Queue) false), (A.imm (List.map c_A2_int_i64 a0.Apart) false)], Blk.box [(A.v (Value.int .u8 a1.Kind)), (A.v (Value.int .u8 a1.At)), (A.v (Value.int .u8 a1.A)), (A.v (Value.int .u8 a1.B)), (A.v (Value.int .u8 a1.Data))], Blk.box [(A.imm [] true), (A.imm [] true)], Blk.box [(A.v (Value.int .i64 0)), (A.v (Value.int .i64 0)), (A.imm [] true)]]) (by kernel_rfl) ?_
                refine .st (v := (A.agg [(A.imm [] true), (A.imm [] true)])) (by kernel_rfl) ?_
                refine .st (v := (A.agg [(A.v (Value.int .i64 0)), (A.v (Value.int .i64 0)), (A.imm [] true)])) (by kernel_rfl) ?_
                exact .lf rfl rfl ⟨_, rfl, by simp only [snap, snapW, snapWs, snapWss, snapWss_map, trim, List.map_cons, List.map_nil, fl_cI, fl_c8, fl_cB, fl_cS, fl_cL, fl_S_kinespherelaw06_Move, fl_S_Packet, fl_A2_int_i64, fl_S_Net, snapE]⟩

def G27 (a0 : S_Net) (a1 : S_kinespherelaw06_Move) : Option (S_Net × S_Packet × Int) := F27 fuel0 a0 a1

def Orc27 (C : Nat → List A → Option A) : Prop := ∀ (a0 : S_Net) (a1 : S_kinespherelaw06_Move), C 27 [(A.agg [(A.imm (List.map c_S_Packet a0.Queue) false), (A.imm (List.map c_A2_int_i64 a0.Apart) false)]), (A.agg [(A.v (Value.int .u8 a1.Kind)), (A.v (Value.int .u8 a1.At)), (A.v (Value.int .u8 a1.A)), (A.v (Value.int .u8 a1.B)), (A.v (Value.int .u8 a1.Data))])] = (G27 a0 a1).map fun y => (A.tup [(A.agg [(A.imm (List.map c_S_Packet y.1.Queue) false), (A.imm (List.map c_A2_int_i64 y.1.Apart) false)]), (A.agg [(A.v (Value.int .i64 y.2.1.From)), (A.v (Value.int .i64 y.2.1.To)), (A.imm (List.map c8 y.2.1.Data) false)]), (A.v (Value.int .i64 y.2.2))])

def F7_7_1 (n : Nat) (v38 : (List S_kinespherelaw06_Move)) (v39 : Bool) (v40 : Int) (v41 : Int) (v44 : (List S_Packet)) (v45 : (List (Int × Int))) (v46 : (List S_Packet)) (v47 : (List S_Packet)) (v48 : (List (Int × Int))) (v49 : Int) (v50 : Int) (v51 : (List UInt8)) : Nat → Bool → Int → Option (Bool)
  | 0, _, _ => none
  | m + 1, v42, v43 => bif (decide (v43 < ((v46.length : Int)))) then (bif v42 then (Option.bind (some true) fun y58 => F7_7_1 n v38 v39 v40 v41 v44 v45 v46 v47 v48 v49 v50 v51 m y58 (wr .i64 (v43 + 1))) else (Option.bind (getI v46 v43) fun y54 => Option.bind (Option.bind (G19 y54 ((S_Packet.mk v49 v50 v51))) fun y55 => some y55) fun y56 => F7_7_1 n v38 v39 v40 v41 v44 v45 v46 v47 v48 v49 v50 v51 m y56 (wr .i64 (v43 + 1)))) else (some v42)

theorem T7_7_1 (C : Nat → List A → Option A) (n : Nat) (h13 : Orc13 C) (h15 : Orc15 C) (h16 : Orc16 C) (h19 : Orc19 C) (h27 : Orc27 C) (h9 : Orc9 C) (v38 : (List S_kinespherelaw06_Move)) (v39 : Bool) (v40 : Int) (v41 : Int) (v44 : (List S_Packet)) (v45 : (List (Int × Int))) (v46 : (List S_Packet)) (v47 : (List S_Packet)) (v48 : (List (Int × Int))) (v49 : Int) (v50 : Int) (v51 : (List UInt8)) {ρ γ : Type} {φ : ρ → γ → Prop} {kL : R → Option ρ} {K : (Bool) → Option γ} (kx kg : Nat → St → Option R) (kr : St → Option R) (kp : A → St → Option R) (x0 : ∀ (o0 : Bool) (s8 : A) (s11 : A), J φ (kx 3 (St.mk [(0, (A.imm (List.map c_S_kinespherelaw06_Move v38) false)), (2, (A.v (Value.bool v39))), (3, (A.ptr 0 0)), (4, (A.sl 1 0 v46.length false)), (5, (A.v (Value.int .i64 v40))), (6, (A.v (Value.int .i64 v41))), (7, (A.ptr 2 0)), (8, s8), (10, (A.v (Value.bool o0))), (11, s11)] [Blk.box [(A.imm (List.map c_S_Packet v44) false), (A.imm (List.map c_A2_int_i64 v45) false)], Blk.row false 3 (List.map c_S_Packet v46), Blk.box [(A.imm (List.map c_S_Packet v47) false), (A.imm (List.map c_A2_int_i64 v48) false)], Blk.box [(A.v (Value.int .i64 v49)), (A.v (Value.int .i64 v50)), (A.imm (List.map c8 v51) false)]])) kL (K o0) some) :
    ∀ (m : Nat) (v42 : Bool) (v43 : Int), J φ (loopR (cx C) (evCall (cx C) (n+8)) (evCallY (cx C) (n+8)) (n+8) 7 0 1 4 kx kg kr kp m (St.mk [(0, (A.imm (List.map c_S_kinespherelaw06_Move v38) false)), (2, (A.v (Value.bool v39))), (3, (A.ptr 0 0)), (4, (A.sl 1 0 v46.length false)), (5, (A.v (Value.int .i64 v40))), (6, (A.v (Value.int .i64 v41))), (7, (A.ptr 2 0)), (8, (A.ptr 3 0)), (10, (A.v (Value.bool v42))), (11, (A.v (Value.int .i64 v43)))] [Blk.box [(A.imm (List.map c_S_Packet v44) false), (A.imm (List.map c_A2_int_i64 v45) false)], Blk.row false 3 (List.map c_S_Packet v46), Blk.box [(A.imm (List.map c_S_Packet v47) false), (A.imm (List.map c_A2_int_i64 v48) false)], Blk.box [(A.v (Value.int .i64 v49)), (A.v (Value.int .i64 v50)), (A.imm (List.map c8 v51) false)]])) kL (F7_7_1 n v38 v39 v40 v41 v44 v45 v46 v47 v48 v49 v50 v51 m v42 v43) K := by
  intro m
  induction m with
  | zero => intros; exact .nn
  | succ m ih =>
    intro v42 v43
    refine .lp (e7_1 ..) ?_
    unfold F7_7_1
    refine .st (v := (A.v (Value.int .i64 ((v46.length : Int))))) (row_len (e := 28) (by kernel_rfl) rfl rfl) ?_
    refine .st (v := (A.v (Value.bool (decide (v43 < ((v46.length : Int))))))) (aBin_lss ..) ?_
    refine .biH (fun hk52 => ?_) (fun hk52 => ?_)
    · refine .gsf (fun hc53 => ?_) (fun hc53 => ?_)
      · refine .bb ?_
        refine .bd (g := fun (y : S_Packet) => A.ip (c_S_Packet y)) (row_idx (e := 28) (es := 3) (l := v46) (by kernel_rfl) (by kernel_rfl) rfl) fun y54 => ?_
        refine .st (v := (A.agg [(A.v (Value.int .i64 y54.From)), (A.v (Value.int .i64 y54.To)), (A.imm (List.map c8 y54.Data) false)])) (by kernel_rfl) ?_
        refine .st (v := (A.agg [(A.v (Value.int .i64 v49)), (A.v (Value.int .i64 v50)), (A.imm (List.map c8 v51) false)])) (by kernel_rfl) ?_
        refine .cr ?_
        iterate 5 refine .uc ?_
        refine .bg (fun t (y : Bool) => ∃ j57 : A, t = [(A.v (Value.bool y)), j57]) ?_ ?_
        · refine .bKF hc53 ?_
          refine .bd (g := fun (y : Bool) => (A.v (Value.bool y))) (by simp only [snap, snapW, snapWs, snapWss, snapWss_map, trim, List.map_cons, List.map_nil, fl_cI, fl_c8, fl_cB, fl_cS, fl_cL, fl_S_kinespherelaw06_Move, fl_S_Packet, fl_A2_int_i64, fl_S_Net, snapG_row (H := [Blk.box [(A.imm (List.map c_S_Packet v44) false), (A.imm (List.map c_A2_int_i64 v45) false)], Blk.row false 3 (List.map c_S_Packet v46), Blk.box [(A.imm (List.map c_S_Packet v47) false), (A.imm (List.map c_A2_int_i64 v48) false)], Blk.box [(A.v (Value.int .i64 v49)), (A.v (Value.int .i64 v50)), (A.imm (List.map c8 v51) false)]]) (b := 1) (es := 3) (l := v46) fl_S_Packet rfl]; exact h19 y54 ((S_Packet.mk v49 v50 v51))) fun y55 => ?_
          exact .lg ⟨_, rfl⟩
        rintro _ y56 ⟨j57, rfl⟩
        iterate 2 refine .uc ?_
        refine .st (v := (A.v (Value.int .i64 (wr .i64 (v43 + 1))))) (aBin_add ..) ?_
        refine .st (v := [Blk.box [(A.imm (List.map c_S_Packet v44) false), (A.imm (List.map c_A2_int_i64 v45) false)], Blk.row false 3 (List.map c_S_Packet v46), Blk.box [(A.imm (List.map c_S_Packet v47) false), (A.imm (List.map c_A2_int_i64 v48) false)], Blk.box [(A.v (Value.int .i64 v49)), (A.v (Value.int .i64 v50)), (A.imm (List.map c8 v51) false)]]) (by kernel_rfl) ?_
        refine .cT (by kernel_rfl) ?_
        exact ih _ _
      · refine .bb ?_
        refine .cr ?_
        iterate 5 refine .uc ?_
        refine .bg (fun t (y : Bool) => ∃ j59 : A, t = [(A.v (Value.bool y)), j59]) ?_ ?_
        · refine .bKT hc53 ?_
          exact .lg ⟨_, rfl⟩
        rintro _ y58 ⟨j59, rfl⟩
        iterate 2 refine .uc ?_
        refine .st (v := (A.v (Value.int .i64 (wr .i64 (v43 + 1))))) (aBin_add ..) ?_
        refine .st (v := [Blk.box [(A.imm (List.map c_S_Packet v44) false), (A.imm (List.map c_A2_int_i64 v45) false)], Blk.row false 3 (List.map c_S_Packet v46), Blk.box [(A.imm (List.map c_S_Packet v47) false), (A.imm (List.map c_A2_int_i64 v48) false)], Blk.box [(A.v (Value.int .i64 v49)), (A.v (Value.int .i64 v50)), (A.imm (List.map c8 v51) false)]]) (by kernel_rfl) ?_
        refine .cT (by kernel_rfl) ?_
        exact ih _ _
    · exact .ex (x0 _ _ _)

def F7_7_0 (n : Nat) (v5 : (List S_kinespherelaw06_Move)) (v6 : Bool) : Nat → Int → Int → (List S_Packet) → (List (Int × Int)) → (List S_Packet) → Option ((Bool × (List S_Packet) × (List (Int × Int)) × (List S_Packet) × (List S_Packet) × (List (Int × Int)) × Int × Int × (List UInt8)) ⊕ ((List S_Packet) × (List (Int × Int)) × (List S_Packet)))
  | 0, _, _, _, _, _ => none
  | m + 1, v7, v8, v9, v10, v11 => bif (decide (v8 < ((v5.length : Int)))) then (Option.bind (getI v5 v8) fun y13 => Option.bind (G27 ((S_Net.mk v9 v10)) y13) fun y14 => bif (y14.2.2 != 0) then (Option.bind (G13 ((S_Net.mk v9 v10))) fun y16 => Option.bind (bif (y16 != 0) then (some true) else (Option.bind (G15 y14.1 ((S_Net.mk ([]) ([])))) fun y18 => some (!y18))) fun y19 => bif y19 then (some ((Sum.inl ((false, v9, v10, v11, y14.1.Queue, y14.1.Apart, y14.2.1.From, y14.2.1.To, y14.2.1.Data))))) else (F7_7_0 n v5 v6 m v7 (wr .i64 (v8 + 1)) v9 v10 v11)) else (Option.bind (getI v5 v8) fun y25 => bif ((Int.tmod y25.Kind 6) == 0) then (bif (((y14.1.Queue.length : Int)) == 0) then (some ((Sum.inl ((false, v9, v10, v11, y14.1.Queue, y14.1.Apart, y14.2.1.From, y14.2.1.To, y14.2.1.Data))))) else (Option.bind (getI y14.1.Queue (wr .i64 (((y14.1.Queue.length : Int)) - 1))) fun y28 => Option.bind (appI 40 v11 ([y28])) fun y29 => Option.bind (G13 y14.1) fun y30 => bif (y30 != 0) then (some ((Sum.inl ((false, y14.1.Queue, y14.1.Apart, y29, y14.1.Queue, y14.1.Apart, y14.2.1.From, y14.2.1.To, y14.2.1.Data))))) else (F7_7_0 n v5 v6 m v7 (wr .i64 (v8 + 1)) y14.1.Queue y14.1.Apart y29))) else (bif ((Int.tmod y25.Kind 6) == 1) then (Option.bind (G19 y14.2.1 ((S_Packet.mk 0 0 ([])))) fun y33 => Option.bind (bif y33 then (some (decide (0 < v7))) else (some false)) fun y35 => Option.bind (F7_7_1 n v5 v6 v7 v8 v9 v10 v11 y14.1.Queue y14.1.Apart y14.2.1.From y14.2.1.To y14.2.1.Data (n+8) y35 0) fun o60 => match o60 with | y61 => bif (!y61) then (some ((Sum.inl ((false, v9, v10, v11, y14.1.Queue, y14.1.Apart, y14.2.1.From, y14.2.1.To, y14.2.1.Data))))) else (Option.bind (G13 y14.1) fun y65 => bif (y65 != 0) then (some ((Sum.inl ((false, y14.1.Queue, y14.1.Apart, v11, y14.1.Queue, y14.1.Apart, y14.2.1.From, y14.2.1.To, y14.2.1.Data))))) else (F7_7_0 n v5 v6 m v7 (wr .i64 (v8 + 1)) y14.1.Queue y14.1.Apart v11))) else (bif ((Int.tmod y25.Kind 6) == 4) then (Option.bind (G13 y14.1) fun y68 => bif (y68 != 0) then (some ((Sum.inl ((false, y14.1.Queue, y14.1.Apart, v11, y14.1.Queue, y14.1.Apart, y14.2.1.From, y14.2.1.To, y14.2.1.Data))))) else (F7_7_0 n v5 v6 m (wr .i64 (v7 + 1)) (wr .i64 (v8 + 1)) y14.1.Queue y14.1.Apart v11)) else (Option.bind (G13 y14.1) fun y70 => bif (y70 != 0) then (some ((Sum.inl ((false, y14.1.Queue, y14.1.Apart, v11, y14.1.Queue, y14.1.Apart, y14.2.1.From, y14.2.1.To, y14.2.1.Data))))) else (F7_7_0 n v5 v6 m v7 (wr .i64 (v8 + 1)) y14.1.Queue y14.1.Apart v11)))))) else (some ((Sum.inr ((v9, v10, v11)))))

theorem T7_7_0 (C : Nat → List A → Option A) (n : Nat) (h13 : Orc13 C) (h15 : Orc15 C) (h16 : Orc16 C) (h19 : Orc19 C) (h27 : Orc27 C) (h9 : Orc9 C) (v5 : (List S_kinespherelaw06_Move)) (v6 : Bool) {ρ γ : Type} {φ : ρ → γ → Prop} {kL : R → Option ρ} {K : ((Bool × (List S_Packet) × (List (Int × Int)) × (List S_Packet) × (List S_Packet) × (List (Int × Int)) × Int × Int × (List UInt8)) ⊕ ((List S_Packet) × (List (Int × Int)) × (List S_Packet))) → Option γ} (kx kg : Nat → St → Option R) (kr : St → Option R) (kp : A → St → Option R) (x0 : ∀ (o0 : Bool) (o1 : (List S_Packet)) (o2 : (List (Int × Int))) (o3 : (List S_Packet)) (o4 : (List S_Packet)) (o5 : (List (Int × Int))) (o6 : Int) (o7 : Int) (o8 : (List UInt8)) (s0 : A) (s3 : A) (s4 : A) (s5 : A) (s6 : A), J φ (kr (St.mk [(0, s0), (2, (A.v (Value.bool o0))), (3, s3), (4, s4), (5, s5), (6, s6)] [Blk.box [(A.imm (List.map c_S_Packet o1) false), (A.imm (List.map c_A2_int_i64 o2) false)], Blk.row false 3 (List.map c_S_Packet o3), Blk.box [(A.imm (List.map c_S_Packet o4) false), (A.imm (List.map c_A2_int_i64 o5) false)], Blk.box [(A.v (Value.int .i64 o6)), (A.v (Value.int .i64 o7)), (A.imm (List.map c8 o8) false)]])) kL (K (Sum.inl ((o0, o1, o2, o3, o4, o5, o6, o7, o8)))) some) (x1 : ∀ (o0 : (List S_Packet)) (o1 : (List (Int × Int))) (o2 : (List S_Packet)) (s0 : A) (s2 : A) (s3 : A) (s4 : A) (s5 : A) (s6 : A), J φ (kx 0 (St.mk [(0, s0), (2, s2), (3, s3), (4, s4), (5, s5), (6, s6)] [Blk.box [(A.imm (List.map c_S_Packet o0) false), (A.imm (List.map c_A2_int_i64 o1) false)], Blk.row false 3 (List.map c_S_Packet o2)])) kL (K (Sum.inr ((o0, o1, o2)))) some) :
    ∀ (m : Nat) (v7 : Int) (v8 : Int) (v9 : (List S_Packet)) (v10 : (List (Int × Int))) (v11 : (List S_Packet)), J φ (loopR (cx C) (evCall (cx C) (n+8)) (evCallY (cx C) (n+8)) (n+8) 7 0 0 2 kx kg kr kp m (St.mk [(0, (A.imm (List.map c_S_kinespherelaw06_Move v5) false)), (2, (A.v (Value.bool v6))), (3, (A.ptr 0 0)), (4, (A.sl 1 0 v11.length false)), (5, (A.v (Value.int .i64 v7))), (6, (A.v (Value.int .i64 v8)))] [Blk.box [(A.imm (List.map c_S_Packet v9) false), (A.imm (List.map c_A2_int_i64 v10) false)], Blk.row false 3 (List.map c_S_Packet v11)])) kL (F7_7_0 n v5 v6 m v7 v8 v9 v10 v11) K := by
  intro m
  induction m with
  | zero => intros; exact .nn
  | succ m ih =>
    intro v7 v8 v9 v10 v11
    refine .lp (e7_0 ..) ?_
    unfold F7_7_0
    refine .st (v := (A.v (Value.int .i64 ((v5.length : Int))))) (len_imm (e := 52) (h1 := by kernel_rfl) ..) ?_
    refine .st (v := (A.v (Value.bool (decide (v8 < ((v5.length : Int))))))) (aBin_lss ..) ?_
    refine .biH (fun hk12 => ?_) (fun hk12 => ?_)
    · refine .st (v := ((A.ptr 2 0), [Blk.box [(A.imm (List.map c_S_Packet v9) false), (A.imm (List.map c_A2_int_i64 v10) false)], Blk.row false 3 (List.map c_S_Packet v11), Blk.box [(A.imm [] true), (A.imm [] true)]])) (by kernel_rfl) ?_
      refine .st (v := ((A.ptr 3 0), [Blk.box [(A.imm (List.map c_S_Packet v9) false), (A.imm (List.map c_A2_int_i64 v10) false)], Blk.row false 3 (List.map c_S_Packet v11), Blk.box [(A.imm [] true), (A.imm [] true)], Blk.box [(A.v (Value.int .i64 0)), (A.v (Value.int .i64 0)), (A.imm [] true)]])) (by kernel_rfl) ?_
      refine .st (v := (A.agg [(A.imm (List.map c_S_Packet v9) false), (A.imm (List.map c_A2_int_i64 v10) false)])) (by kernel_rfl) ?_
      refine .bd (g := fun (y : S_kinespherelaw06_Move) => A.ip (c_S_kinespherelaw06_Move y)) (idx_imm (e := 52) (es := 5) (h1 := by kernel_rfl) (h2 := by kernel_rfl) (h3 := fun _ => rfl) ..) fun y13 => ?_
      refine .st (v := (A.agg [(A.v (Value.int .u8 y13.Kind)), (A.v (Value.int .u8 y13.At)), (A.v (Value.int .u8 y13.A)), (A.v (Value.int .u8 y13.B)), (A.v (Value.int .u8 y13.Data))])) (by kernel_rfl) ?_
      refine .bd (g := fun (y : (S_Net × S_Packet × Int)) => (A.tup [(A.agg [(A.imm (List.map c_S_Packet y.1.Queue) false), (A.imm (List.map c_A2_int_i64 y.1.Apart) false)]), (A.agg [(A.v (Value.int .i64 y.2.1.From)), (A.v (Value.int .i64 y.2.1.To)), (A.imm (List.map c8 y.2.1.Data) false)]), (A.v (Value.int .i64 y.2.2))])) (by simp only [snap, snapW, snapWs, snapWss, snapWss_map, trim, List.map_cons, List.map_nil, fl_cI, fl_c8, fl_cB, fl_cS, fl_cL, fl_S_kinespherelaw06_Move, fl_S_Packet, fl_A2_int_i64, fl_S_Net, snapG_row (H := [Blk.box [(A.imm (List.map c_S_Packet v9) false), (A.imm (List.map c_A2_int_i64 v10) false)], Blk.row false 3 (List.map c_S_Packet v11), Blk.box [(A.imm [] true), (A.imm [] true)], Blk.box [(A.v (Value.int .i64 0)), (A.v (Value.int .i64 0)), (A.imm [] true)]]) (b := 1) (es := 3) (l := v11) fl_S_Packet rfl]; exact h27 ((S_Net.mk v9 v10)) y13) fun y14 => ?_
      refine .st (v := (A.agg [(A.imm (List.map c_S_Packet y14.1.Queue) false), (A.imm (List.map c_A2_int_i64 y14.1.Apart) false)])) (by kernel_rfl) ?_
      refine .st (v := (A.agg [(A.v (Value.int .i64 y14.2.1.From)), (A.v (Value.int .i64 y14.2.1.To)), (A.imm (List.map c8 y14.2.1.Data) false)])) (by kernel_rfl) ?_
      refine .st (v := (A.v (Value.int .i64 y14.2.2))) (by kernel_rfl) ?_
      refine .st (v := [Blk.box [(A.imm (List.map c_S_Packet v9) false), (A.imm (List.map c_A2_int_i64 v10) false)], Blk.row false 3 (List.map c_S_Packet v11), Blk.box [(A.imm (List.map c_S_Packet y14.1.Queue) false), (A.imm (List.map c_A2_int_i64 y14.1.Apart) false)], Blk.box [(A.v (Value.int .i64 0)), (A.v (Value.int .i64 0)), (A.imm [] true)]]) (by kernel_rfl) ?_
      refine .st (v := [Blk.box [(A.imm (List.map c_S_Packet v9) false), (A.imm (List.map c_A2_int_i64 v10) false)], Blk.row false 3 (List.map c_S_Packet v11), Blk.box [(A.imm (List.map c_S_Packet y14.1.Queue) false), (A.imm (List.map c_A2_int_i64 y14.1.Apart) false)], Blk.box [(A.v (Value.int .i64 y14.2.1.From)), (A.v (Value.int .i64 y14.2.1.To)), (A.imm (List.map c8 y14.2.1.Data) false)]]) (by kernel_rfl) ?_
      refine .st (v := (A.v (Value.bool (y14.2.2 != 0)))) (aBin_neq ..) ?_
      refine .biH (fun hk15 => ?_) (fun hk15 => ?_)
      · refine .st (v := (A.agg [(A.imm (List.map c_S_Packet v9) false), (A.imm (List.map c_A2_int_i64 v10) false)])) (by kernel_rfl) ?_
        refine .bd (g := fun (y : Int) => (A.v (Value.int .i64 y))) (by simp only [snap, snapW, snapWs, snapWss, snapWss_map, trim, List.map_cons, List.map_nil, fl_cI, fl_c8, fl_cB, fl_cS, fl_cL, fl_S_kinespherelaw06_Move, fl_S_Packet, fl_A2_int_i64, fl_S_Net, snapG_row (H := [Blk.box [(A.imm (List.map c_S_Packet v9) false), (A.imm (List.map c_A2_int_i64 v10) false)], Blk.row false 3 (List.map c_S_Packet v11), Blk.box [(A.imm (List.map c_S_Packet y14.1.Queue) false), (A.imm (List.map c_A2_int_i64 y14.1.Apart) false)], Blk.box [(A.v (Value.int .i64 y14.2.1.From)), (A.v (Value.int .i64 y14.2.1.To)), (A.imm (List.map c8 y14.2.1.Data) false)]]) (b := 1) (es := 3) (l := v11) fl_S_Packet rfl]; exact h13 ((S_Net.mk v9 v10))) fun y16 => ?_
        refine .st (v := (A.v (Value.bool (y16 != 0)))) (aBin_neq ..) ?_
        refine .bg (fun t (y : Bool) => ∃ j20 j21 j22 j23 : A, t = [(A.v (Value.bool y)), j20, j21, j22, j23]) ?_ ?_
        · refine .biH (fun hk17 => ?_) (fun hk17 => ?_)
          · exact .lg ⟨_, _, _, _, rfl⟩
          · refine .st (v := (A.agg [(A.imm (List.map c_S_Packet y14.1.Queue) false), (A.imm (List.map c_A2_int_i64 y14.1.Apart) false)])) (by kernel_rfl) ?_
            refine .st (v := (A.agg [(A.imm [] true), (A.imm [] true)])) (by kernel_rfl) ?_
            refine .bd (g := fun (y : Bool) => (A.v (Value.bool y))) (by simp only [snap, snapW, snapWs, snapWss, snapWss_map, trim, List.map_cons, List.map_nil, fl_cI, fl_c8, fl_cB, fl_cS, fl_cL, fl_S_kinespherelaw06_Move, fl_S_Packet, fl_A2_int_i64, fl_S_Net, snapG_row (H := [Blk.box [(A.imm (List.map c_S_Packet v9) false), (A.imm (List.map c_A2_int_i64 v10) false)], Blk.row false 3 (List.map c_S_Packet v11), Blk.box [(A.imm (List.map c_S_Packet y14.1.Queue) false), (A.imm (List.map c_A2_int_i64 y14.1.Apart) false)], Blk.box [(A.v (Value.int .i64 y14.2.1.From)), (A.v (Value.int .i64 y14.2.1.To)), (A.imm (List.map c8 y14.2.1.Data) false)]]) (b := 1) (es := 3) (l := v11) fl_S_Packet rfl]; exact h15 y14.1 ((S_Net.mk ([]) ([])))) fun y18 => ?_
            refine .st (v := (A.v (Value.bool (!y18)))) (by kernel_rfl) ?_
            exact .lg ⟨_, _, _, _, rfl⟩
        rintro _ y19 ⟨j20, j21, j22, j23, rfl⟩
        iterate 5 refine .uc ?_
        refine .biH (fun hk24 => ?_) (fun hk24 => ?_)
        · exact .ex (x0 _ _ _ _ _ _ _ _ _ _ _ _ _ _)
        · refine .st (v := (A.v (Value.int .i64 (wr .i64 (v8 + 1))))) (aBin_add ..) ?_
          refine .st (v := [Blk.box [(A.imm (List.map c_S_Packet v9) false), (A.imm (List.map c_A2_int_i64 v10) false)], Blk.row false 3 (List.map c_S_Packet v11)]) ((by kernel_rfl : _ = (bif ((((underss 2 (List.map c_S_Packet v9)) && ((underss 2 (List.map c_A2_int_i64 v10)) && true))) && ((underss 2 (List.map c_S_Packet v11)) && true)) then some [Blk.box [(A.imm (List.map c_S_Packet v9) false), (A.imm (List.map c_A2_int_i64 v10) false)], Blk.row false 3 (List.map c_S_Packet v11)] else none)).trans (by simp only [underss_map, fu_cI, fu_c8, fu_cB, fu_cS, fu_cL, fu_S_kinespherelaw06_Move, fu_S_Packet, fu_A2_int_i64, fu_S_Net,  Bool.and_true, Bool.true_and, cond_true])) ?_
          refine .cT ((by kernel_rfl : _ = (bif underss 2 (List.map c_S_kinespherelaw06_Move v5) then true else false)).trans (by simp only [underss_map, fu_cI, fu_c8, fu_cB, fu_cS, fu_cL, fu_S_kinespherelaw06_Move, fu_S_Packet, fu_A2_int_i64, fu_S_Net,  Bool.and_true, Bool.true_and, cond_true])) ?_
          exact ih _ _ _ _ _
      · refine .bd (g := fun (y : S_kinespherelaw06_Move) => A.ip (c_S_kinespherelaw06_Move y)) (idx_imm (e := 52) (es := 5) (h1 := by kernel_rfl) (h2 := by kernel_rfl) (h3 := fun _ => rfl) ..) fun y25 => ?_
        refine .st (v := (A.ip [(A.v (Value.int .u8 y25.Kind)), (A.v (Value.int .u8 y25.At)), (A.v (Value.int .u8 y25.A)), (A.v (Value.int .u8 y25.B)), (A.v (Value.int .u8 y25.Data))])) (by kernel_rfl) ?_
        refine .st (v := (A.v (Value.int .u8 y25.Kind))) (by kernel_rfl) ?_
        refine .st (v := (A.v (Value.int .u8 (Int.tmod y25.Kind 6)))) (aBin_rem (hb := by decide) ..) ?_
        refine .st (v := (A.v (Value.bool ((Int.tmod y25.Kind 6) == 0)))) (aBin_eql ..) ?_
        refine .biH (fun hk26 => ?_) (fun hk26 => ?_)
        · refine .st (v := (A.ptr 2 0)) (by kernel_rfl) ?_
          refine .st (v := (A.imm (List.map c_S_Packet y14.1.Queue) false)) (by kernel_rfl) ?_
          refine .st (v := (A.v (Value.int .i64 ((y14.1.Queue.length : Int))))) (len_imm (e := 28) (h1 := by kernel_rfl) ..) ?_
          refine .st (v := (A.v (Value.bool (((y14.1.Queue.length : Int)) == 0)))) (aBin_eql ..) ?_
          refine .biH (fun hk27 => ?_) (fun hk27 => ?_)
          · exact .ex (x0 _ _ _ _ _ _ _ _ _ _ _ _ _ _)
          · refine .st (v := (A.ptr 2 0)) (by kernel_rfl) ?_
            refine .st (v := (A.imm (List.map c_S_Packet y14.1.Queue) false)) (by kernel_rfl) ?_
            refine .st (v := (A.ptr 2 0)) (by kernel_rfl) ?_
            refine .st (v := (A.imm (List.map c_S_Packet y14.1.Queue) false)) (by kernel_rfl) ?_
            refine .st (v := (A.v (Value.int .i64 ((y14.1.Queue.length : Int))))) (len_imm (e := 28) (h1 := by kernel_rfl) ..) ?_
            refine .st (v := (A.v (Value.int .i64 (wr .i64 (((y14.1.Queue.length : Int)) - 1))))) (aBin_sub ..) ?_
            refine .bd (g := fun (y : S_Packet) => A.ip (c_S_Packet y)) (idx_imm (e := 28) (es := 3) (h1 := by kernel_rfl) (h2 := by kernel_rfl) (h3 := fun _ => rfl) ..) fun y28 => ?_
            refine .st (v := (A.agg [(A.v (Value.int .i64 y28.From)), (A.v (Value.int .i64 y28.To)), (A.imm (List.map c8 y28.Data) false)])) (by kernel_rfl) ?_
            refine .st (v := (A.imm [[(A.v (Value.int .i64 y28.From)), (A.v (Value.int .i64 y28.To)), (A.imm (List.map c8 y28.Data) false)]] true)) (by kernel_rfl) ?_
            refine .bd (g := fun (y : List S_Packet) => ((A.sl 1 0 y.length false), [Blk.box [(A.imm (List.map c_S_Packet v9) false), (A.imm (List.map c_A2_int_i64 v10) false)], Blk.row false 3 (List.map c_S_Packet y), Blk.box [(A.imm (List.map c_S_Packet y14.1.Queue) false), (A.imm (List.map c_A2_int_i64 y14.1.Apart) false)], Blk.box [(A.v (Value.int .i64 y14.2.1.From)), (A.v (Value.int .i64 y14.2.1.To)), (A.imm (List.map c8 y14.2.1.Data) false)]])) (app_row (e := 28) (es := 3) (by_ := 40) (z := [(A.v (Value.int .i64 0)), (A.v (Value.int .i64 0)), (A.imm [] true)]) (by kernel_rfl) (by kernel_rfl) (by kernel_rfl) (by kernel_rfl) rfl (by decide) (by decide) (by kernel_rfl) (f := c_S_Packet) (fun _ => rfl) ce_S_Packet (l := v11) (l2 := [y28]) (b := 1) rfl (by decide) (els_imm (f := c_S_Packet) ([y28] : List S_Packet) _ _)) fun y29 => ?_
            refine .st (v := (A.agg [(A.imm (List.map c_S_Packet y14.1.Queue) false), (A.imm (List.map c_A2_int_i64 y14.1.Apart) false)])) (by kernel_rfl) ?_
            refine .st (v := [Blk.box [(A.imm (List.map c_S_Packet y14.1.Queue) false), (A.imm (List.map c_A2_int_i64 y14.1.Apart) false)], Blk.row false 3 (List.map c_S_Packet y29), Blk.box [(A.imm (List.map c_S_Packet y14.1.Queue) false), (A.imm (List.map c_A2_int_i64 y14.1.Apart) false)], Blk.box [(A.v (Value.int .i64 y14.2.1.From)), (A.v (Value.int .i64 y14.2.1.To)), (A.imm (List.map c8 y14.2.1.Data) false)]]) (by kernel_rfl) ?_
            refine .st (v := (A.agg [(A.imm (List.map c_S_Packet y14.1.Queue) false), (A.imm (List.map c_A2_int_i64 y14.1.Apart) false)])) (by kernel_rfl) ?_
            refine .bd (g := fun (y : Int) => (A.v (Value.int .i64 y))) (by simp only [snap, snapW, snapWs, snapWss, snapWss_map, trim, List.map_cons, List.map_nil, fl_cI, fl_c8, fl_cB, fl_cS, fl_cL, fl_S_kinespherelaw06_Move, fl_S_Packet, fl_A2_int_i64, fl_S_Net, snapG_row (H := [Blk.box [(A.imm (List.map c_S_Packet y14.1.Queue) false), (A.imm (List.map c_A2_int_i64 y14.1.Apart) false)], Blk.row false 3 (List.map c_S_Packet y29), Blk.box [(A.imm (List.map c_S_Packet y14.1.Queue) false), (A.imm (List.map c_A2_int_i64 y14.1.Apart) false)], Blk.box [(A.v (Value.int .i64 y14.2.1.From)), (A.v (Value.int .i64 y14.2.1.To)), (A.imm (List.map c8 y14.2.1.Data) false)]]) (b := 1) (es := 3) (l := y29) fl_S_Packet rfl]; exact h13 y14.1) fun y30 => ?_
            refine .st (v := (A.v (Value.bool (y30 != 0)))) (aBin_neq ..) ?_
            refine .biH (fun hk31 => ?_) (fun hk31 => ?_)
            · exact .ex (x0 _ _ _ _ _ _ _ _ _ _ _ _ _ _)
            · refine .st (v := (A.v (Value.int .i64 (wr .i64 (v8 + 1))))) (aBin_add ..) ?_
              refine .st (v := [Blk.box [(A.imm (List.map c_S_Packet y14.1.Queue) false), (A.imm (List.map c_A2_int_i64 y14.1.Apart) false)], Blk.row false 3 (List.map c_S_Packet y29)]) ((by kernel_rfl : _ = (bif ((((underss 2 (List.map c_S_Packet y14.1.Queue)) && ((underss 2 (List.map c_A2_int_i64 y14.1.Apart)) && true))) && ((underss 2 (List.map c_S_Packet y29)) && true)) then some [Blk.box [(A.imm (List.map c_S_Packet y14.1.Queue) false), (A.imm (List.map c_A2_int_i64 y14.1.Apart) false)], Blk.row false 3 (List.map c_S_Packet y29)] else none)).trans (by simp only [underss_map, fu_cI, fu_c8, fu_cB, fu_cS, fu_cL, fu_S_kinespherelaw06_Move, fu_S_Packet, fu_A2_int_i64, fu_S_Net,  Bool.and_true, Bool.true_and, cond_true])) ?_
              refine .cT ((by kernel_rfl : _ = (bif underss 2 (List.map c_S_kinespherelaw06_Move v5) then true else false)).trans (by simp only [underss_map, fu_cI, fu_c8, fu_cB, fu_cS, fu_cL, fu_S_kinespherelaw06_Move, fu_S_Packet, fu_A2_int_i64, fu_S_Net,  Bool.and_true, Bool.true_and, cond_true])) ?_
              exact ih _ _ _ _ _
        · refine .st (v := (A.v (Value.bool ((Int.tmod y25.Kind 6) == 1)))) (aBin_eql ..) ?_
          refine .biH (fun hk32 => ?_) (fun hk32 => ?_)
          · refine .st (v := (A.agg [(A.v (Value.int .i64 y14.2.1.From)), (A.v (Value.int .i64 y14.2.1.To)), (A.imm (List.map c8 y14.2.1.Data) false)])) (by kernel_rfl) ?_
            refine .st (v := (A.agg [(A.v (Value.int .i64 0)), (A.v (Value.int .i64 0)), (A.imm [] true)])) (by kernel_rfl) ?_
            refine .bd (g := fun (y : Bool) => (A.v (Value.bool y))) (by simp only [snap, snapW, snapWs, snapWss, snapWss_map, trim, List.map_cons, List.map_nil, fl_cI, fl_c8, fl_cB, fl_cS, fl_cL, fl_S_kinespherelaw06_Move, fl_S_Packet, fl_A2_int_i64, fl_S_Net, snapG_row (H := [Blk.box [(A.imm (List.map c_S_Packet v9) false), (A.imm (List.map c_A2_int_i64 v10) false)], Blk.row false 3 (List.map c_S_Packet v11), Blk.box [(A.imm (List.map c_S_Packet y14.1.Queue) false), (A.imm (List.map c_A2_int_i64 y14.1.Apart) false)], Blk.box [(A.v (Value.int .i64 y14.2.1.From)), (A.v (Value.int .i64 y14.2.1.To)), (A.imm (List.map c8 y14.2.1.Data) false)]]) (b := 1) (es := 3) (l := v11) fl_S_Packet rfl]; exact h19 y14.2.1 ((S_Packet.mk 0 0 ([])))) fun y33 => ?_
            refine .bg (fun t (y : Bool) => ∃ j36 j37 : A, t = [(A.v (Value.bool y)), j36, j37]) ?_ ?_
            · refine .biH (fun hk34 => ?_) (fun hk34 => ?_)
              · refine .st (v := (A.v (Value.bool (decide (0 < v7))))) (aBin_gtr ..) ?_
                exact .lg ⟨_, _, rfl⟩
              · exact .lg ⟨_, _, rfl⟩
            rintro _ y35 ⟨j36, j37, rfl⟩
            iterate 3 refine .uc ?_
            refine .as (T7_7_1 C n h13 h15 h16 h19 h27 h9 v5 v6 v7 v8 v9 v10 v11 y14.1.Queue y14.1.Apart y14.2.1.From y14.2.1.To y14.2.1.Data _ _ _ _ ?_ _ y35 0)
            · intro y61 j62 j63
              refine .un rfl ?_
              refine .cT (by kernel_rfl) ?_
              refine .st (v := (A.v (Value.bool (!y61)))) (by kernel_rfl) ?_
              refine .biH (fun hk64 => ?_) (fun hk64 => ?_)
              · exact .ex (x0 _ _ _ _ _ _ _ _ _ _ _ _ _ _)
              · refine .st (v := (A.agg [(A.imm (List.map c_S_Packet y14.1.Queue) false), (A.imm (List.map c_A2_int_i64 y14.1.Apart) false)])) (by kernel_rfl) ?_
                refine .st (v := [Blk.box [(A.imm (List.map c_S_Packet y14.1.Queue) false), (A.imm (List.map c_A2_int_i64 y14.1.Apart) false)], Blk.row false 3 (List.map c_S_Packet v11), Blk.box [(A.imm (List.map c_S_Packet y14.1.Queue) false), (A.imm (List.map c_A2_int_i64 y14.1.Apart) false)], Blk.box [(A.v (Value.int .i64 y14.2.1.From)), (A.v (Value.int .i64 y14.2.1.To)), (A.imm (List.map c8 y14.2.1.Data) false)]]) (by kernel_rfl) ?_
                refine .st (v := (A.agg [(A.imm (List.map c_S_Packet y14.1.Queue) false), (A.imm (List.map c_A2_int_i64 y14.1.Apart) false)])) (by kernel_rfl) ?_
                refine .bd (g := fun (y : Int) => (A.v (Value.int .i64 y))) (by simp only [snap, snapW, snapWs, snapWss, snapWss_map, trim, List.map_cons, List.map_nil, fl_cI, fl_c8, fl_cB, fl_cS, fl_cL, fl_S_kinespherelaw06_Move, fl_S_Packet, fl_A2_int_i64, fl_S_Net, snapG_row (H := [Blk.box [(A.imm (List.map c_S_Packet y14.1.Queue) false), (A.imm (List.map c_A2_int_i64 y14.1.Apart) false)], Blk.row false 3 (List.map c_S_Packet v11), Blk.box [(A.imm (List.map c_S_Packet y14.1.Queue) false), (A.imm (List.map c_A2_int_i64 y14.1.Apart) false)], Blk.box [(A.v (Value.int .i64 y14.2.1.From)), (A.v (Value.int .i64 y14.2.1.To)), (A.imm (List.map c8 y14.2.1.Data) false)]]) (b := 1) (es := 3) (l := v11) fl_S_Packet rfl]; exact h13 y14.1) fun y65 => ?_
                refine .st (v := (A.v (Value.bool (y65 != 0)))) (aBin_neq ..) ?_
                refine .biH (fun hk66 => ?_) (fun hk66 => ?_)
                · exact .ex (x0 _ _ _ _ _ _ _ _ _ _ _ _ _ _)
                · refine .st (v := (A.v (Value.int .i64 (wr .i64 (v8 + 1))))) (aBin_add ..) ?_
                  refine .st (v := [Blk.box [(A.imm (List.map c_S_Packet y14.1.Queue) false), (A.imm (List.map c_A2_int_i64 y14.1.Apart) false)], Blk.row false 3 (List.map c_S_Packet v11)]) ((by kernel_rfl : _ = (bif ((((underss 2 (List.map c_S_Packet y14.1.Queue)) && ((underss 2 (List.map c_A2_int_i64 y14.1.Apart)) && true))) && ((underss 2 (List.map c_S_Packet v11)) && true)) then some [Blk.box [(A.imm (List.map c_S_Packet y14.1.Queue) false), (A.imm (List.map c_A2_int_i64 y14.1.Apart) false)], Blk.row false 3 (List.map c_S_Packet v11)] else none)).trans (by simp only [underss_map, fu_cI, fu_c8, fu_cB, fu_cS, fu_cL, fu_S_kinespherelaw06_Move, fu_S_Packet, fu_A2_int_i64, fu_S_Net,  Bool.and_true, Bool.true_and, cond_true])) ?_
                  refine .cT ((by kernel_rfl : _ = (bif underss 2 (List.map c_S_kinespherelaw06_Move v5) then true else false)).trans (by simp only [underss_map, fu_cI, fu_c8, fu_cB, fu_cS, fu_cL, fu_S_kinespherelaw06_Move, fu_S_Packet, fu_A2_int_i64, fu_S_Net,  Bool.and_true, Bool.true_and, cond_true])) ?_
                  exact ih _ _ _ _ _
          · refine .st (v := (A.v (Value.bool ((Int.tmod y25.Kind 6) == 4)))) (aBin_eql ..) ?_
            refine .biH (fun hk67 => ?_) (fun hk67 => ?_)
            · refine .st (v := (A.v (Value.int .i64 (wr .i64 (v7 + 1))))) (aBin_add ..) ?_
              refine .st (v := (A.agg [(A.imm (List.map c_S_Packet y14.1.Queue) false), (A.imm (List.map c_A2_int_i64 y14.1.Apart) false)])) (by kernel_rfl) ?_
              refine .st (v := [Blk.box [(A.imm (List.map c_S_Packet y14.1.Queue) false), (A.imm (List.map c_A2_int_i64 y14.1.Apart) false)], Blk.row false 3 (List.map c_S_Packet v11), Blk.box [(A.imm (List.map c_S_Packet y14.1.Queue) false), (A.imm (List.map c_A2_int_i64 y14.1.Apart) false)], Blk.box [(A.v (Value.int .i64 y14.2.1.From)), (A.v (Value.int .i64 y14.2.1.To)), (A.imm (List.map c8 y14.2.1.Data) false)]]) (by kernel_rfl) ?_
              refine .st (v := (A.agg [(A.imm (List.map c_S_Packet y14.1.Queue) false), (A.imm (List.map c_A2_int_i64 y14.1.Apart) false)])) (by kernel_rfl) ?_
              refine .bd (g := fun (y : Int) => (A.v (Value.int .i64 y))) (by simp only [snap, snapW, snapWs, snapWss, snapWss_map, trim, List.map_cons, List.map_nil, fl_cI, fl_c8, fl_cB, fl_cS, fl_cL, fl_S_kinespherelaw06_Move, fl_S_Packet, fl_A2_int_i64, fl_S_Net, snapG_row (H := [Blk.box [(A.imm (List.map c_S_Packet y14.1.Queue) false), (A.imm (List.map c_A2_int_i64 y14.1.Apart) false)], Blk.row false 3 (List.map c_S_Packet v11), Blk.box [(A.imm (List.map c_S_Packet y14.1.Queue) false), (A.imm (List.map c_A2_int_i64 y14.1.Apart) false)], Blk.box [(A.v (Value.int .i64 y14.2.1.From)), (A.v (Value.int .i64 y14.2.1.To)), (A.imm (List.map c8 y14.2.1.Data) false)]]) (b := 1) (es := 3) (l := v11) fl_S_Packet rfl]; exact h13 y14.1) fun y68 => ?_
              refine .st (v := (A.v (Value.bool (y68 != 0)))) (aBin_neq ..) ?_
              refine .biH (fun hk69 => ?_) (fun hk69 => ?_)
              · exact .ex (x0 _ _ _ _ _ _ _ _ _ _ _ _ _ _)
              · refine .st (v := (A.v (Value.int .i64 (wr .i64 (v8 + 1))))) (aBin_add ..) ?_
                refine .st (v := [Blk.box [(A.imm (List.map c_S_Packet y14.1.Queue) false), (A.imm (List.map c_A2_int_i64 y14.1.Apart) false)], Blk.row false 3 (List.map c_S_Packet v11)]) ((by kernel_rfl : _ = (bif ((((underss 2 (List.map c_S_Packet y14.1.Queue)) && ((underss 2 (List.map c_A2_int_i64 y14.1.Apart)) && true))) && ((underss 2 (List.map c_S_Packet v11)) && true)) then some [Blk.box [(A.imm (List.map c_S_Packet y14.1.Queue) false), (A.imm (List.map c_A2_int_i64 y14.1.Apart) false)], Blk.row false 3 (List.map c_S_Packet v11)] else none)).trans (by simp only [underss_map, fu_cI, fu_c8, fu_cB, fu_cS, fu_cL, fu_S_kinespherelaw06_Move, fu_S_Packet, fu_A2_int_i64, fu_S_Net,  Bool.and_true, Bool.true_and, cond_true])) ?_
                refine .cT ((by kernel_rfl : _ = (bif underss 2 (List.map c_S_kinespherelaw06_Move v5) then true else false)).trans (by simp only [underss_map, fu_cI, fu_c8, fu_cB, fu_cS, fu_cL, fu_S_kinespherelaw06_Move, fu_S_Packet, fu_A2_int_i64, fu_S_Net,  Bool.and_true, Bool.true_and, cond_true])) ?_
                exact ih _ _ _ _ _
            · refine .st (v := (A.agg [(A.imm (List.map c_S_Packet y14.1.Queue) false), (A.imm (List.map c_A2_int_i64 y14.1.Apart) false)])) (by kernel_rfl) ?_
              refine .st (v := [Blk.box [(A.imm (List.map c_S_Packet y14.1.Queue) false), (A.imm (List.map c_A2_int_i64 y14.1.Apart) false)], Blk.row false 3 (List.map c_S_Packet v11), Blk.box [(A.imm (List.map c_S_Packet y14.1.Queue) false), (A.imm (List.map c_A2_int_i64 y14.1.Apart) false)], Blk.box [(A.v (Value.int .i64 y14.2.1.From)), (A.v (Value.int .i64 y14.2.1.To)), (A.imm (List.map c8 y14.2.1.Data) false)]]) (by kernel_rfl) ?_
              refine .st (v := (A.agg [(A.imm (List.map c_S_Packet y14.1.Queue) false), (A.imm (List.map c_A2_int_i64 y14.1.Apart) false)])) (by kernel_rfl) ?_
              refine .bd (g := fun (y : Int) => (A.v (Value.int .i64 y))) (by simp only [snap, snapW, snapWs, snapWss, snapWss_map, trim, List.map_cons, List.map_nil, fl_cI, fl_c8, fl_cB, fl_cS, fl_cL, fl_S_kinespherelaw06_Move, fl_S_Packet, fl_A2_int_i64, fl_S_Net, snapG_row (H := [Blk.box [(A.imm (List.map c_S_Packet y14.1.Queue) false), (A.imm (List.map c_A2_int_i64 y14.1.Apart) false)], Blk.row false 3 (List.map c_S_Packet v11), Blk.box [(A.imm (List.map c_S_Packet y14.1.Queue) false), (A.imm (List.map c_A2_int_i64 y14.1.Apart) false)], Blk.box [(A.v (Value.int .i64 y14.2.1.From)), (A.v (Value.int .i64 y14.2.1.To)), (A.imm (List.map c8 y14.2.1.Data) false)]]) (b := 1) (es := 3) (l := v11) fl_S_Packet rfl]; exact h13 y14.1) fun y70 => ?_
              refine .st (v := (A.v (Value.bool (y70 != 0)))) (aBin_neq ..) ?_
              refine .biH (fun hk71 => ?_) (fun hk71 => ?_)
              · exact .ex (x0 _ _ _ _ _ _ _ _ _ _ _ _ _ _)
              · refine .st (v := (A.v (Value.int .i64 (wr .i64 (v8 + 1))))) (aBin_add ..) ?_
                refine .st (v := [Blk.box [(A.imm (List.map c_S_Packet y14.1.Queue) false), (A.imm (List.map c_A2_int_i64 y14.1.Apart) false)], Blk.row false 3 (List.map c_S_Packet v11)]) ((by kernel_rfl : _ = (bif ((((underss 2 (List.map c_S_Packet y14.1.Queue)) && ((underss 2 (List.map c_A2_int_i64 y14.1.Apart)) && true))) && ((underss 2 (List.map c_S_Packet v11)) && true)) then some [Blk.box [(A.imm (List.map c_S_Packet y14.1.Queue) false), (A.imm (List.map c_A2_int_i64 y14.1.Apart) false)], Blk.row false 3 (List.map c_S_Packet v11)] else none)).trans (by simp only [underss_map, fu_cI, fu_c8, fu_cB, fu_cS, fu_cL, fu_S_kinespherelaw06_Move, fu_S_Packet, fu_A2_int_i64, fu_S_Net,  Bool.and_true, Bool.true_and, cond_true])) ?_
                refine .cT ((by kernel_rfl : _ = (bif underss 2 (List.map c_S_kinespherelaw06_Move v5) then true else false)).trans (by simp only [underss_map, fu_cI, fu_c8, fu_cB, fu_cS, fu_cL, fu_S_kinespherelaw06_Move, fu_S_Packet, fu_A2_int_i64, fu_S_Net,  Bool.and_true, Bool.true_and, cond_true])) ?_
                exact ih _ _ _ _ _
    · exact .ex (x1 _ _ _ _ _ _ _ _ _)

def F7 (n : Nat) (a0 : (List S_kinespherelaw06_Move)) : Option Bool :=
  Option.bind (G9 ) fun y1 => bif (!y1) then (some false) else (bif (decide (60 < ((a0.length : Int)))) then (some true) else (Option.bind (G16 ) fun y4 => Option.bind (F7_7_0 n a0 false (n+8) 0 0 y4.Queue y4.Apart (([] : List S_Packet))) fun o72 => match o72 with | (Sum.inl ((y73, y74, y75, y76, y77, y78, y79, y80, y81))) => some y73 | (Sum.inr ((y87, y88, y89))) => some true))

theorem T7 (C : Nat → List A → Option A) (n : Nat) (h13 : Orc13 C) (h15 : Orc15 C) (h16 : Orc16 C) (h19 : Orc19 C) (h27 : Orc27 C) (h9 : Orc9 C) (a0 : (List S_kinespherelaw06_Move)) : J (fun (o : R) y => ∃ v, o.1 = .ret v ∧ snapE o.2 v = (A.v (Value.bool y))) (evCall1 (cx C) (evCall (cx C) (n+8)) (evCallY (cx C) (n+8)) (n+8) 7 [(A.imm (List.map c_S_kinespherelaw06_Move a0) false)] [] 0) some (F7 n a0) some := by
  refine .lp (e7 ..) ?_
  unfold F7
  refine .bd (g := fun (y : Bool) => (A.v (Value.bool y))) (h9 ()) fun y1 => ?_
  refine .st (v := (A.v (Value.bool (!y1)))) (by kernel_rfl) ?_
  refine .biH (fun hk2 => ?_) (fun hk2 => ?_)
  · exact .lf rfl rfl ⟨_, rfl, rfl⟩
  · refine .st (v := (A.v (Value.int .i64 ((a0.length : Int))))) (len_imm (e := 52) (h1 := by kernel_rfl) ..) ?_
    refine .st (v := (A.v (Value.bool (decide (60 < ((a0.length : Int))))))) (aBin_gtr ..) ?_
    refine .biH (fun hk3 => ?_) (fun hk3 => ?_)
    · exact .lf rfl rfl ⟨_, rfl, rfl⟩
    · refine .bd (g := fun (y : S_Net) => (A.agg [(A.imm (List.map c_S_Packet y.Queue) false), (A.imm (List.map c_A2_int_i64 y.Apart) false)])) (h16 ()) fun y4 => ?_
      refine .st (v := ((A.ptr 0 0), [Blk.box [(A.imm [] true), (A.imm [] true)]])) (by kernel_rfl) ?_
      refine .st (v := [Blk.box [(A.imm (List.map c_S_Packet y4.Queue) false), (A.imm (List.map c_A2_int_i64 y4.Apart) false)]]) (by kernel_rfl) ?_
      refine .as (T7_7_0 C n h13 h15 h16 h19 h27 h9 a0 false _ _ _ _ ?_ ?_ _ 0 0 y4.Queue y4.Apart (([] : List S_Packet)))
      · intro y73 y74 y75 y76 y77 y78 y79 y80 y81 j82 j83 j84 j85 j86
        refine .un rfl ?_
        exact .lf rfl rfl ⟨_, rfl, rfl⟩
      · intro y87 y88 y89 j90 j91 j92 j93 j94 j95
        refine .un rfl ?_
        refine .cT (by kernel_rfl) ?_
        exact .lf rfl rfl ⟨_, rfl, rfl⟩

def G7 (a0 : (List S_kinespherelaw06_Move)) : Option Bool := F7 fuel0 a0

def Orc7 (C : Nat → List A → Option A) : Prop := ∀ (a0 : (List S_kinespherelaw06_Move)), C 7 [(A.imm (List.map c_S_kinespherelaw06_Move a0) false)] = (G7 a0).map fun y => (A.v (Value.bool y))
end Go.Proofs.Ytgcobbhbfkjkeaa
