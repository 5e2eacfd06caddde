/-
  The program's functions as plain functions: by a tool; each follows the interpreter.
-/
import Derived.Test.YthoomfjliekbdaaT1
import Derived.KernelRfl
namespace Go.Proofs.Ythoomfjliekbdaa
set_option linter.unusedVariables false
set_option linter.unusedSimpArgs false
set_option maxHeartbeats 4000000
set_option maxRecDepth 100000
def F10 (n : Nat)  : Option Bool :=
  Option.bind (G12 0) fun y1 => Option.bind (G12 2) fun y2 => Option.bind (G19 y2.1 1 ([(7 : UInt8)])) fun y3 => Option.bind (G21 y3.1 1) fun y4 => Option.bind (G21 y2.1 2) fun y5 => Option.bind (mkI 1 129 ((0 : UInt8))) fun y6 => Option.bind (G19 y2.1 0 y6) fun y7 => Option.bind (G25 y3.1 1) fun y8 => Option.bind (G27 8) fun y9 => Option.bind (G19 y8.1 0 y9) fun y10 => Option.bind (G23 y10.1) fun y11 => Option.bind (bif (y1.2 != 1) then (some true) else (some (y2.2 != 0))) fun y13 => Option.bind (bif y13 then (some true) else (some (y3.2 != 0))) fun y17 => Option.bind (bif y17 then (some true) else (some (y4.2 != 0))) fun y21 => Option.bind (bif y21 then (some true) else (some (y5.2 != 40))) fun y25 => Option.bind (bif y25 then (some true) else (some (y7.2 != 1))) fun y29 => Option.bind (bif y29 then (some true) else (some (y8.2 != 0))) fun y33 => Option.bind (bif y33 then (some true) else (some (y10.2 != 0))) fun y37 => Option.bind (bif y37 then (some true) else (some (y11.2 != 40))) fun y41 => Option.bind (bif y41 then (some true) else (some (!y11.1.Stopped))) fun y45 => bif y45 then (some false) else (Option.bind (G17 y11.1) fun y50 => Option.bind (G21 y50 1) fun y51 => Option.bind (G21 y50 0) fun y52 => Option.bind (G17 y3.1) fun y53 => Option.bind (G21 y53 1) fun y54 => Option.bind (bif (y51.2 == 0) then (some (y52.2 == 0)) else (some false)) fun y56 => Option.bind (bif y56 then (some (y54.2 == 0)) else (some false)) fun y60 => Option.bind (bif y60 then (some (((y4.1.length : Int)) == 128)) else (some false)) fun y64 => Option.bind (bif y64 then (Option.bind (getI y4.1 0) fun y69 => some (((y69.toNat : Int)) == 7)) else (some false)) fun y70 => Option.bind (bif y70 then (some (((y51.1.length : Int)) == 128)) else (some false)) fun y76 => Option.bind (bif y76 then (Option.bind (getI y51.1 0) fun y81 => some (((y81.toNat : Int)) == 7)) else (some false)) fun y82 => Option.bind (bif y82 then (some (((y52.1.length : Int)) == 128)) else (some false)) fun y88 => Option.bind (bif y88 then (Option.bind (getI y52.1 0) fun y93 => some (((y93.toNat : Int)) == 8)) else (some false)) fun y94 => Option.bind (bif y94 then (Option.bind (getI y52.1 64) fun y100 => some (((y100.toNat : Int)) == 0)) else (some false)) fun y101 => Option.bind (bif y101 then (some (((y54.1.length : Int)) == 128)) else (some false)) fun y107 => Option.bind (bif y107 then (Option.bind (getI y54.1 0) fun y112 => some (((y112.toNat : Int)) == 0)) else (some false)) fun y113 => Option.bind (bif y113 then (Option.bind (G15 ((S_Disk.mk ([]) ([]) 0 false))) fun y119 => some (y119 == 40)) else (some false)) fun y120 => Option.bind (bif y120 then (Option.bind (G17 ((S_Disk.mk ([]) ([]) 0 false))) fun y125 => some (y125.Left == (-1))) else (some false)) fun y126 => some y126)

theorem T10 (C : Nat → List A → Option A) (n : Nat) (h12 : Orc12 C) (h15 : Orc15 C) (h17 : Orc17 C) (h19 : Orc19 C) (h21 : Orc21 C) (h23 : Orc23 C) (h25 : Orc25 C) (h27 : Orc27 C) : J (fun (o : R) y => ∃ v, o.1 = .ret v ∧ snapE o.2 v = (A.v (Value.bool y))) (evCall1 (cx C) (evCall (cx C) (n+8)) (evCallY (cx C) (n+8)) (n+8) 10 [] [] 0) some (F10 n ) some := by
  refine .lp (e10 ..) ?_
  unfold F10
  refine .bd (g := fun (y : (S_Disk × Int)) => (A.tup [(A.agg [(A.imm (List.map (cL c8) y.1.Sectors) false), (A.imm (List.map c_S_Write y.1.Pending) false), (A.v (Value.int .i64 y.1.Left)), (A.v (Value.bool y.1.Stopped))]), (A.v (Value.int .i64 y.2))])) (h12 0) fun y1 => ?_
  refine .st (v := (A.agg [(A.imm (List.map (cL c8) y1.1.Sectors) false), (A.imm (List.map c_S_Write y1.1.Pending) false), (A.v (Value.int .i64 y1.1.Left)), (A.v (Value.bool y1.1.Stopped))])) (by kernel_rfl) ?_
  refine .st (v := (A.v (Value.int .i64 y1.2))) (by kernel_rfl) ?_
  refine .st (v := ((A.ptr 0 0), [Blk.box [(A.imm [] true), (A.imm [] true), (A.v (Value.int .i64 0)), (A.v (Value.bool false))]])) (by kernel_rfl) ?_
  refine .st (v := [Blk.box [(A.imm (List.map (cL c8) y1.1.Sectors) false), (A.imm (List.map c_S_Write y1.1.Pending) false), (A.v (Value.int .i64 y1.1.Left)), (A.v (Value.bool y1.1.Stopped))]]) (by kernel_rfl) ?_
  refine .bd (g := fun (y : (S_Disk × Int)) => (A.tup [(A.agg [(A.imm (List.map (cL c8) y.1.Sectors) false), (A.imm (List.map c_S_Write y.1.Pending) false), (A.v (Value.int .i64 y.1.Left)), (A.v (Value.bool y.1.Stopped))]), (A.v (Value.int .i64 y.2))])) (h12 2) fun y2 => ?_
  refine .st (v := (A.agg [(A.imm (List.map (cL c8) y2.1.Sectors) false), (A.imm (List.map c_S_Write y2.1.Pending) false), (A.v (Value.int .i64 y2.1.Left)), (A.v (Value.bool y2.1.Stopped))])) (by kernel_rfl) ?_
  refine .st (v := (A.v (Value.int .i64 y2.2))) (by kernel_rfl) ?_
  refine .st (v := ((A.ptr 1 0), [Blk.box [(A.imm (List.map (cL c8) y1.1.Sectors) false), (A.imm (List.map c_S_Write y1.1.Pending) false), (A.v (Value.int .i64 y1.1.Left)), (A.v (Value.bool y1.1.Stopped))], Blk.box [(A.imm [] true), (A.imm [] true), (A.v (Value.int .i64 0)), (A.v (Value.bool false))]])) (by kernel_rfl) ?_
  refine .st (v := [Blk.box [(A.imm (List.map (cL c8) y1.1.Sectors) false), (A.imm (List.map c_S_Write y1.1.Pending) false), (A.v (Value.int .i64 y1.1.Left)), (A.v (Value.bool y1.1.Stopped))], Blk.box [(A.imm (List.map (cL c8) y2.1.Sectors) false), (A.imm (List.map c_S_Write y2.1.Pending) false), (A.v (Value.int .i64 y2.1.Left)), (A.v (Value.bool y2.1.Stopped))]]) (by kernel_rfl) ?_
  refine .st (v := (A.agg [(A.imm (List.map (cL c8) y2.1.Sectors) false), (A.imm (List.map c_S_Write y2.1.Pending) false), (A.v (Value.int .i64 y2.1.Left)), (A.v (Value.bool y2.1.Stopped))])) (by kernel_rfl) ?_
  refine .st (v := (A.imm [[(A.v (Value.int .u8 7))]] true)) (by kernel_rfl) ?_
  refine .bd (g := fun (y : (S_Disk × Int)) => (A.tup [(A.agg [(A.imm (List.map (cL c8) y.1.Sectors) false), (A.imm (List.map c_S_Write y.1.Pending) false), (A.v (Value.int .i64 y.1.Left)), (A.v (Value.bool y.1.Stopped))]), (A.v (Value.int .i64 y.2))])) (by show C 19 [snap [Blk.box [(A.imm (List.map (cL c8) y1.1.Sectors) false), (A.imm (List.map c_S_Write y1.1.Pending) false), (A.v (Value.int .i64 y1.1.Left)), (A.v (Value.bool y1.1.Stopped))], Blk.box [(A.imm (List.map (cL c8) y2.1.Sectors) false), (A.imm (List.map c_S_Write y2.1.Pending) false), (A.v (Value.int .i64 y2.1.Left)), (A.v (Value.bool y2.1.Stopped))]] (A.agg [(A.imm (List.map (cL c8) y2.1.Sectors) false), (A.imm (List.map c_S_Write y2.1.Pending) false), (A.v (Value.int .i64 y2.1.Left)), (A.v (Value.bool y2.1.Stopped))]), snap [Blk.box [(A.imm (List.map (cL c8) y1.1.Sectors) false), (A.imm (List.map c_S_Write y1.1.Pending) false), (A.v (Value.int .i64 y1.1.Left)), (A.v (Value.bool y1.1.Stopped))], Blk.box [(A.imm (List.map (cL c8) y2.1.Sectors) false), (A.imm (List.map c_S_Write y2.1.Pending) false), (A.v (Value.int .i64 y2.1.Left)), (A.v (Value.bool y2.1.Stopped))]] (A.v (Value.int .i64 1)), snap [Blk.box [(A.imm (List.map (cL c8) y1.1.Sectors) false), (A.imm (List.map c_S_Write y1.1.Pending) false), (A.v (Value.int .i64 y1.1.Left)), (A.v (Value.bool y1.1.Stopped))], Blk.box [(A.imm (List.map (cL c8) y2.1.Sectors) false), (A.imm (List.map c_S_Write y2.1.Pending) false), (A.v (Value.int .i64 y2.1.Left)), (A.v (Value.bool y2.1.Stopped))]] (A.imm [[(A.v (Value.int .u8 7))]] true)] = _; simp only [snap, snapW, snapWs, snapWss, snapWss_map, trim, List.map_cons, List.map_nil, fl_cI, fl_c8, fl_cB, fl_cS, fl_cL, fl_S_Write, fl_S_Disk]; exact h19 y2.1 1 ([(7 : UInt8)])) fun y3 => ?_
  refine .st (v := (A.agg [(A.imm (List.map (cL c8) y3.1.Sectors) false), (A.imm (List.map c_S_Write y3.1.Pending) false), (A.v (Value.int .i64 y3.1.Left)), (A.v (Value.bool y3.1.Stopped))])) (by kernel_rfl) ?_
  refine .st (v := (A.v (Value.int .i64 y3.2))) (by kernel_rfl) ?_
  refine .st (v := ((A.ptr 2 0), [Blk.box [(A.imm (List.map (cL c8) y1.1.Sectors) false), (A.imm (List.map c_S_Write y1.1.Pending) false), (A.v (Value.int .i64 y1.1.Left)), (A.v (Value.bool y1.1.Stopped))], Blk.box [(A.imm (List.map (cL c8) y2.1.Sectors) false), (A.imm (List.map c_S_Write y2.1.Pending) false), (A.v (Value.int .i64 y2.1.Left)), (A.v (Value.bool y2.1.Stopped))], Blk.box [(A.imm [] true), (A.imm [] true), (A.v (Value.int .i64 0)), (A.v (Value.bool false))]])) (by kernel_rfl) ?_
  refine .st (v := [Blk.box [(A.imm (List.map (cL c8) y1.1.Sectors) false), (A.imm (List.map c_S_Write y1.1.Pending) false), (A.v (Value.int .i64 y1.1.Left)), (A.v (Value.bool y1.1.Stopped))], Blk.box [(A.imm (List.map (cL c8) y2.1.Sectors) false), (A.imm (List.map c_S_Write y2.1.Pending) false), (A.v (Value.int .i64 y2.1.Left)), (A.v (Value.bool y2.1.Stopped))], Blk.box [(A.imm (List.map (cL c8) y3.1.Sectors) false), (A.imm (List.map c_S_Write y3.1.Pending) false), (A.v (Value.int .i64 y3.1.Left)), (A.v (Value.bool y3.1.Stopped))]]) (by kernel_rfl) ?_
  refine .st (v := (A.agg [(A.imm (List.map (cL c8) y3.1.Sectors) false), (A.imm (List.map c_S_Write y3.1.Pending) false), (A.v (Value.int .i64 y3.1.Left)), (A.v (Value.bool y3.1.Stopped))])) (by kernel_rfl) ?_
  refine .bd (g := fun (y : ((List UInt8) × Int)) => (A.tup [(A.imm (List.map c8 y.1) false), (A.v (Value.int .i64 y.2))])) (by show C 21 [snap [Blk.box [(A.imm (List.map (cL c8) y1.1.Sectors) false), (A.imm (List.map c_S_Write y1.1.Pending) false), (A.v (Value.int .i64 y1.1.Left)), (A.v (Value.bool y1.1.Stopped))], Blk.box [(A.imm (List.map (cL c8) y2.1.Sectors) false), (A.imm (List.map c_S_Write y2.1.Pending) false), (A.v (Value.int .i64 y2.1.Left)), (A.v (Value.bool y2.1.Stopped))], Blk.box [(A.imm (List.map (cL c8) y3.1.Sectors) false), (A.imm (List.map c_S_Write y3.1.Pending) false), (A.v (Value.int .i64 y3.1.Left)), (A.v (Value.bool y3.1.Stopped))]] (A.agg [(A.imm (List.map (cL c8) y3.1.Sectors) false), (A.imm (List.map c_S_Write y3.1.Pending) false), (A.v (Value.int .i64 y3.1.Left)), (A.v (Value.bool y3.1.Stopped))]), snap [Blk.box [(A.imm (List.map (cL c8) y1.1.Sectors) false), (A.imm (List.map c_S_Write y1.1.Pending) false), (A.v (Value.int .i64 y1.1.Left)), (A.v (Value.bool y1.1.Stopped))], Blk.box [(A.imm (List.map (cL c8) y2.1.Sectors) false), (A.imm (List.map c_S_Write y2.1.Pending) false), (A.v (Value.int .i64 y2.1.Left)), (A.v (Value.bool y2.1.Stopped))], Blk.box [(A.imm (List.map (cL c8) y3.1.Sectors) false), (A.imm (List.map c_S_Write y3.1.Pending) false), (A.v (Value.int .i64 y3.1.Left)), (A.v (Value.bool y3.1.Stopped))]] (A.v (Value.int .i64 1))] = _; simp only [snap, snapW, snapWs, snapWss, snapWss_map, trim, List.map_cons, List.map_nil, fl_cI, fl_c8, fl_cB, fl_cS, fl_cL, fl_S_Write, fl_S_Disk]; exact h21 y3.1 1) fun y4 => ?_
  refine .st (v := (A.imm (List.map c8 y4.1) false)) (by kernel_rfl) ?_
  refine .st (v := (A.v (Value.int .i64 y4.2))) (by kernel_rfl) ?_
  refine .st (v := (A.agg [(A.imm (List.map (cL c8) y2.1.Sectors) false), (A.imm (List.map c_S_Write y2.1.Pending) false), (A.v (Value.int .i64 y2.1.Left)), (A.v (Value.bool y2.1.Stopped))])) (by kernel_rfl) ?_
  refine .bd (g := fun (y : ((List UInt8) × Int)) => (A.tup [(A.imm (List.map c8 y.1) false), (A.v (Value.int .i64 y.2))])) (by show C 21 [snap [Blk.box [(A.imm (List.map (cL c8) y1.1.Sectors) false), (A.imm (List.map c_S_Write y1.1.Pending) false), (A.v (Value.int .i64 y1.1.Left)), (A.v (Value.bool y1.1.Stopped))], Blk.box [(A.imm (List.map (cL c8) y2.1.Sectors) false), (A.imm (List.map c_S_Write y2.1.Pending) false), (A.v (Value.int .i64 y2.1.Left)), (A.v (Value.bool y2.1.Stopped))], Blk.box [(A.imm (List.map (cL c8) y3.1.Sectors) false), (A.imm (List.map c_S_Write y3.1.Pending) false), (A.v (Value.int .i64 y3.1.Left)), (A.v (Value.bool y3.1.Stopped))]] (A.agg [(A.imm (List.map (cL c8) y2.1.Sectors) false), (A.imm (List.map c_S_Write y2.1.Pending) false), (A.v (Value.int .i64 y2.1.Left)), (A.v (Value.bool y2.1.Stopped))]), snap [Blk.box [(A.imm (List.map (cL c8) y1.1.Sectors) false), (A.imm (List.map c_S_Write y1.1.Pending) false), (A.v (Value.int .i64 y1.1.Left)), (A.v (Value.bool y1.1.Stopped))], Blk.box [(A.imm (List.map (cL c8) y2.1.Sectors) false), (A.imm (List.map c_S_Write y2.1.Pending) false), (A.v (Value.int .i64 y2.1.Left)), (A.v (Value.bool y2.1.Stopped))], Blk.box [(A.imm (List.map (cL c8) y3.1.Sectors) false), (A.imm (List.map c_S_Write y3.1.Pending) false), (A.v (Value.int .i64 y3.1.Left)), (A.v (Value.bool y3.1.Stopped))]] (A.v (Value.int .i64 2))] = _; simp only [snap, snapW, snapWs, snapWss, snapWss_map, trim, List.map_cons, List.map_nil, fl_cI, fl_c8, fl_cB, fl_cS, fl_cL, fl_S_Write, fl_S_Disk]; exact h21 y2.1 2) fun y5 => ?_
  refine .st (v := (A.imm (List.map c8 y5.1) false)) (by kernel_rfl) ?_
  refine .st (v := (A.v (Value.int .i64 y5.2))) (by kernel_rfl) ?_
  refine .st (v := ((A.ptr 3 0), [Blk.box [(A.imm (List.map (cL c8) y1.1.Sectors) false), (A.imm (List.map c_S_Write y1.1.Pending) false), (A.v (Value.int .i64 y1.1.Left)), (A.v (Value.bool y1.1.Stopped))], Blk.box [(A.imm (List.map (cL c8) y2.1.Sectors) false), (A.imm (List.map c_S_Write y2.1.Pending) false), (A.v (Value.int .i64 y2.1.Left)), (A.v (Value.bool y2.1.Stopped))], Blk.box [(A.imm (List.map (cL c8) y3.1.Sectors) false), (A.imm (List.map c_S_Write y3.1.Pending) false), (A.v (Value.int .i64 y3.1.Left)), (A.v (Value.bool y3.1.Stopped))], Blk.box [(A.imm [] true), (A.imm [] true), (A.v (Value.int .i64 0)), (A.v (Value.bool false))]])) (by kernel_rfl) ?_
  refine .st (v := (A.agg [(A.imm (List.map (cL c8) y2.1.Sectors) false), (A.imm (List.map c_S_Write y2.1.Pending) false), (A.v (Value.int .i64 y2.1.Left)), (A.v (Value.bool y2.1.Stopped))])) (by kernel_rfl) ?_
  refine .cT (by kernel_rfl) ?_
  refine .bd (g := fun (y : List UInt8) => ((A.imm (List.map c8 y) false), [Blk.box [(A.imm (List.map (cL c8) y1.1.Sectors) false), (A.imm (List.map c_S_Write y1.1.Pending) false), (A.v (Value.int .i64 y1.1.Left)), (A.v (Value.bool y1.1.Stopped))], Blk.box [(A.imm (List.map (cL c8) y2.1.Sectors) false), (A.imm (List.map c_S_Write y2.1.Pending) false), (A.v (Value.int .i64 y2.1.Left)), (A.v (Value.bool y2.1.Stopped))], Blk.box [(A.imm (List.map (cL c8) y3.1.Sectors) false), (A.imm (List.map c_S_Write y3.1.Pending) false), (A.v (Value.int .i64 y3.1.Left)), (A.v (Value.bool y3.1.Stopped))], Blk.box [(A.imm [] true), (A.imm [] true), (A.v (Value.int .i64 0)), (A.v (Value.bool false))]])) (wrow_makeI (e := 5) (es := 1) (f := c8) (z := (0 : UInt8)) (z' := [(A.v (Value.int .u8 0))]) (by kernel_rfl) (by kernel_rfl) (by kernel_rfl) (by kernel_rfl) rfl (by decide) (fun _ => rfl)) fun y6 => ?_
  refine .bd (g := fun (y : (S_Disk × Int)) => (A.tup [(A.agg [(A.imm (List.map (cL c8) y.1.Sectors) false), (A.imm (List.map c_S_Write y.1.Pending) false), (A.v (Value.int .i64 y.1.Left)), (A.v (Value.bool y.1.Stopped))]), (A.v (Value.int .i64 y.2))])) (by show C 19 [snap [Blk.box [(A.imm (List.map (cL c8) y1.1.Sectors) false), (A.imm (List.map c_S_Write y1.1.Pending) false), (A.v (Value.int .i64 y1.1.Left)), (A.v (Value.bool y1.1.Stopped))], Blk.box [(A.imm (List.map (cL c8) y2.1.Sectors) false), (A.imm (List.map c_S_Write y2.1.Pending) false), (A.v (Value.int .i64 y2.1.Left)), (A.v (Value.bool y2.1.Stopped))], Blk.box [(A.imm (List.map (cL c8) y3.1.Sectors) false), (A.imm (List.map c_S_Write y3.1.Pending) false), (A.v (Value.int .i64 y3.1.Left)), (A.v (Value.bool y3.1.Stopped))], Blk.box [(A.imm [] true), (A.imm [] true), (A.v (Value.int .i64 0)), (A.v (Value.bool false))]] (A.agg [(A.imm (List.map (cL c8) y2.1.Sectors) false), (A.imm (List.map c_S_Write y2.1.Pending) false), (A.v (Value.int .i64 y2.1.Left)), (A.v (Value.bool y2.1.Stopped))]), snap [Blk.box [(A.imm (List.map (cL c8) y1.1.Sectors) false), (A.imm (List.map c_S_Write y1.1.Pending) false), (A.v (Value.int .i64 y1.1.Left)), (A.v (Value.bool y1.1.Stopped))], Blk.box [(A.imm (List.map (cL c8) y2.1.Sectors) false), (A.imm (List.map c_S_Write y2.1.Pending) false), (A.v (Value.int .i64 y2.1.Left)), (A.v (Value.bool y2.1.Stopped))], Blk.box [(A.imm (List.map (cL c8) y3.1.Sectors) false), (A.imm (List.map c_S_Write y3.1.Pending) false), (A.v (Value.int .i64 y3.1.Left)), (A.v (Value.bool y3.1.Stopped))], Blk.box [(A.imm [] true), (A.imm [] true), (A.v (Value.int .i64 0)), (A.v (Value.bool false))]] (A.v (Value.int .i64 0)), snap [Blk.box [(A.imm (List.map (cL c8) y1.1.Sectors) false), (A.imm (List.map c_S_Write y1.1.Pending) false), (A.v (Value.int .i64 y1.1.Left)), (A.v (Value.bool y1.1.Stopped))], Blk.box [(A.imm (List.map (cL c8) y2.1.Sectors) false), (A.imm (List.map c_S_Write y2.1.Pending) false), (A.v (Value.int .i64 y2.1.Left)), (A.v (Value.bool y2.1.Stopped))], Blk.box [(A.imm (List.map (cL c8) y3.1.Sectors) false), (A.imm (List.map c_S_Write y3.1.Pending) false), (A.v (Value.int .i64 y3.1.Left)), (A.v (Value.bool y3.1.Stopped))], Blk.box [(A.imm [] true), (A.imm [] true), (A.v (Value.int .i64 0)), (A.v (Value.bool false))]] (A.imm (List.map c8 y6) false)] = _; simp only [snap, snapW, snapWs, snapWss, snapWss_map, trim, List.map_cons, List.map_nil, fl_cI, fl_c8, fl_cB, fl_cS, fl_cL, fl_S_Write, fl_S_Disk]; exact h19 y2.1 0 y6) fun y7 => ?_
  refine .st (v := (A.agg [(A.imm (List.map (cL c8) y7.1.Sectors) false), (A.imm (List.map c_S_Write y7.1.Pending) false), (A.v (Value.int .i64 y7.1.Left)), (A.v (Value.bool y7.1.Stopped))])) (by kernel_rfl) ?_
  refine .st (v := (A.v (Value.int .i64 y7.2))) (by kernel_rfl) ?_
  refine .st (v := [Blk.box [(A.imm (List.map (cL c8) y1.1.Sectors) false), (A.imm (List.map c_S_Write y1.1.Pending) false), (A.v (Value.int .i64 y1.1.Left)), (A.v (Value.bool y1.1.Stopped))], Blk.box [(A.imm (List.map (cL c8) y2.1.Sectors) false), (A.imm (List.map c_S_Write y2.1.Pending) false), (A.v (Value.int .i64 y2.1.Left)), (A.v (Value.bool y2.1.Stopped))], Blk.box [(A.imm (List.map (cL c8) y3.1.Sectors) false), (A.imm (List.map c_S_Write y3.1.Pending) false), (A.v (Value.int .i64 y3.1.Left)), (A.v (Value.bool y3.1.Stopped))], Blk.box [(A.imm (List.map (cL c8) y7.1.Sectors) false), (A.imm (List.map c_S_Write y7.1.Pending) false), (A.v (Value.int .i64 y7.1.Left)), (A.v (Value.bool y7.1.Stopped))]]) (by kernel_rfl) ?_
  refine .st (v := (A.agg [(A.imm (List.map (cL c8) y3.1.Sectors) false), (A.imm (List.map c_S_Write y3.1.Pending) false), (A.v (Value.int .i64 y3.1.Left)), (A.v (Value.bool y3.1.Stopped))])) (by kernel_rfl) ?_
  refine .bd (g := fun (y : (S_Disk × Int)) => (A.tup [(A.agg [(A.imm (List.map (cL c8) y.1.Sectors) false), (A.imm (List.map c_S_Write y.1.Pending) false), (A.v (Value.int .i64 y.1.Left)), (A.v (Value.bool y.1.Stopped))]), (A.v (Value.int .i64 y.2))])) (by show C 25 [snap [Blk.box [(A.imm (List.map (cL c8) y1.1.Sectors) false), (A.imm (List.map c_S_Write y1.1.Pending) false), (A.v (Value.int .i64 y1.1.Left)), (A.v (Value.bool y1.1.Stopped))], Blk.box [(A.imm (List.map (cL c8) y2.1.Sectors) false), (A.imm (List.map c_S_Write y2.1.Pending) false), (A.v (Value.int .i64 y2.1.Left)), (A.v (Value.bool y2.1.Stopped))], Blk.box [(A.imm (List.map (cL c8) y3.1.Sectors) false), (A.imm (List.map c_S_Write y3.1.Pending) false), (A.v (Value.int .i64 y3.1.Left)), (A.v (Value.bool y3.1.Stopped))], Blk.box [(A.imm (List.map (cL c8) y7.1.Sectors) false), (A.imm (List.map c_S_Write y7.1.Pending) false), (A.v (Value.int .i64 y7.1.Left)), (A.v (Value.bool y7.1.Stopped))]] (A.agg [(A.imm (List.map (cL c8) y3.1.Sectors) false), (A.imm (List.map c_S_Write y3.1.Pending) false), (A.v (Value.int .i64 y3.1.Left)), (A.v (Value.bool y3.1.Stopped))]), snap [Blk.box [(A.imm (List.map (cL c8) y1.1.Sectors) false), (A.imm (List.map c_S_Write y1.1.Pending) false), (A.v (Value.int .i64 y1.1.Left)), (A.v (Value.bool y1.1.Stopped))], Blk.box [(A.imm (List.map (cL c8) y2.1.Sectors) false), (A.imm (List.map c_S_Write y2.1.Pending) false), (A.v (Value.int .i64 y2.1.Left)), (A.v (Value.bool y2.1.Stopped))], Blk.box [(A.imm (List.map (cL c8) y3.1.Sectors) false), (A.imm (List.map c_S_Write y3.1.Pending) false), (A.v (Value.int .i64 y3.1.Left)), (A.v (Value.bool y3.1.Stopped))], Blk.box [(A.imm (List.map (cL c8) y7.1.Sectors) false), (A.imm (List.map c_S_Write y7.1.Pending) false), (A.v (Value.int .i64 y7.1.Left)), (A.v (Value.bool y7.1.Stopped))]] (A.v (Value.int .i64 1))] = _; simp only [snap, snapW, snapWs, snapWss, snapWss_map, trim, List.map_cons, List.map_nil, fl_cI, fl_c8, fl_cB, fl_cS, fl_cL, fl_S_Write, fl_S_Disk]; exact h25 y3.1 1) fun y8 => ?_
  refine .st (v := (A.agg [(A.imm (List.map (cL c8) y8.1.Sectors) false), (A.imm (List.map c_S_Write y8.1.Pending) false), (A.v (Value.int .i64 y8.1.Left)), (A.v (Value.bool y8.1.Stopped))])) (by kernel_rfl) ?_
  refine .st (v := (A.v (Value.int .i64 y8.2))) (by kernel_rfl) ?_
  refine .st (v := ((A.ptr 4 0), [Blk.box [(A.imm (List.map (cL c8) y1.1.Sectors) false), (A.imm (List.map c_S_Write y1.1.Pending) false), (A.v (Value.int .i64 y1.1.Left)), (A.v (Value.bool y1.1.Stopped))], Blk.box [(A.imm (List.map (cL c8) y2.1.Sectors) false), (A.imm (List.map c_S_Write y2.1.Pending) false), (A.v (Value.int .i64 y2.1.Left)), (A.v (Value.bool y2.1.Stopped))], Blk.box [(A.imm (List.map (cL c8) y3.1.Sectors) false), (A.imm (List.map c_S_Write y3.1.Pending) false), (A.v (Value.int .i64 y3.1.Left)), (A.v (Value.bool y3.1.Stopped))], Blk.box [(A.imm (List.map (cL c8) y7.1.Sectors) false), (A.imm (List.map c_S_Write y7.1.Pending) false), (A.v (Value.int .i64 y7.1.Left)), (A.v (Value.bool y7.1.Stopped))], Blk.box [(A.imm [] true), (A.imm [] true), (A.v (Value.int .i64 0)), (A.v (Value.bool false))]])) (by kernel_rfl) ?_
  refine .st (v := [Blk.box [(A.imm (List.map (cL c8) y1.1.Sectors) false), (A.imm (List.map c_S_Write y1.1.Pending) false), (A.v (Value.int .i64 y1.1.Left)), (A.v (Value.bool y1.1.Stopped))], Blk.box [(A.imm (List.map (cL c8) y2.1.Sectors) false), (A.imm (List.map c_S_Write y2.1.Pending) false), (A.v (Value.int .i64 y2.1.Left)), (A.v (Value.bool y2.1.Stopped))], Blk.box [(A.imm (List.map (cL c8) y3.1.Sectors) false), (A.imm (List.map c_S_Write y3.1.Pending) false), (A.v (Value.int .i64 y3.1.Left)), (A.v (Value.bool y3.1.Stopped))], Blk.box [(A.imm (List.map (cL c8) y7.1.Sectors) false), (A.imm (List.map c_S_Write y7.1.Pending) false), (A.v (Value.int .i64 y7.1.Left)), (A.v (Value.bool y7.1.Stopped))], Blk.box [(A.imm (List.map (cL c8) y8.1.Sectors) false), (A.imm (List.map c_S_Write y8.1.Pending) false), (A.v (Value.int .i64 y8.1.Left)), (A.v (Value.bool y8.1.Stopped))]]) (by kernel_rfl) ?_
  refine .st (v := (A.agg [(A.imm (List.map (cL c8) y8.1.Sectors) false), (A.imm (List.map c_S_Write y8.1.Pending) false), (A.v (Value.int .i64 y8.1.Left)), (A.v (Value.bool y8.1.Stopped))])) (by kernel_rfl) ?_
  refine .bd (g := fun (y : (List UInt8)) => (A.imm (List.map c8 y) false)) (h27 8) fun y9 => ?_
  refine .bd (g := fun (y : (S_Disk × Int)) => (A.tup [(A.agg [(A.imm (List.map (cL c8) y.1.Sectors) false), (A.imm (List.map c_S_Write y.1.Pending) false), (A.v (Value.int .i64 y.1.Left)), (A.v (Value.bool y.1.Stopped))]), (A.v (Value.int .i64 y.2))])) (by show C 19 [snap [Blk.box [(A.imm (List.map (cL c8) y1.1.Sectors) false), (A.imm (List.map c_S_Write y1.1.Pending) false), (A.v (Value.int .i64 y1.1.Left)), (A.v (Value.bool y1.1.Stopped))], Blk.box [(A.imm (List.map (cL c8) y2.1.Sectors) false), (A.imm (List.map c_S_Write y2.1.Pending) false), (A.v (Value.int .i64 y2.1.Left)), (A.v (Value.bool y2.1.Stopped))], Blk.box [(A.imm (List.map (cL c8) y3.1.Sectors) false), (A.imm (List.map c_S_Write y3.1.Pending) false), (A.v (Value.int .i64 y3.1.Left)), (A.v (Value.bool y3.1.Stopped))], Blk.box [(A.imm (List.map (cL c8) y7.1.Sectors) false), (A.imm (List.map c_S_Write y7.1.Pending) false), (A.v (Value.int .i64 y7.1.Left)), (A.v (Value.bool y7.1.Stopped))], Blk.box [(A.imm (List.map (cL c8) y8.1.Sectors) false), (A.imm (List.map c_S_Write y8.1.Pending) false), (A.v (Value.int .i64 y8.1.Left)), (A.v (Value.bool y8.1.Stopped))]] (A.agg [(A.imm (List.map (cL c8) y8.1.Sectors) false), (A.imm (List.map c_S_Write y8.1.Pending) false), (A.v (Value.int .i64 y8.1.Left)), (A.v (Value.bool y8.1.Stopped))]), snap [Blk.box [(A.imm (List.map (cL c8) y1.1.Sectors) false), (A.imm (List.map c_S_Write y1.1.Pending) false), (A.v (Value.int .i64 y1.1.Left)), (A.v (Value.bool y1.1.Stopped))], Blk.box [(A.imm (List.map (cL c8) y2.1.Sectors) false), (A.imm (List.map c_S_Write y2.1.Pending) false), (A.v (Value.int .i64 y2.1.Left)), (A.v (Value.bool y2.1.Stopped))], Blk.box [(A.imm (List.map (cL c8) y3.1.Sectors) false), (A.imm (List.map c_S_Write y3.1.Pending) false), (A.v (Value.int .i64 y3.1.Left)), (A.v (Value.bool y3.1.Stopped))], Blk.box [(A.imm (List.map (cL c8) y7.1.Sectors) false), (A.imm (List.map c_S_Write y7.1.Pending) false), (A.v (Value.int .i64 y7.1.Left)), (A.v (Value.bool y7.1.Stopped))], Blk.box [(A.imm (List.map (cL c8) y8.1.Sectors) false), (A.imm (List.map c_S_Write y8.1.Pending) false), (A.v (Value.int .i64 y8.1.Left)), (A.v (Value.bool y8.1.Stopped))]] (A.v (Value.int .i64 0)), snap [Blk.box [(A.imm (List.map (cL c8) y1.1.Sectors) false), (A.imm (List.map c_S_Write y1.1.Pending) false), (A.v (Value.int .i64 y1.1.Left)), (A.v (Value.bool y1.1.Stopped))], Blk.box [(A.imm (List.map (cL c8) y2.1.Sectors) false), (A.imm (List.map c_S_Write y2.1.Pending) false), (A.v (Value.int .i64 y2.1.Left)), (A.v (Value.bool y2.1.Stopped))], Blk.box [(A.imm (List.map (cL c8) y3.1.Sectors) false), (A.imm (List.map c_S_Write y3.1.Pending) false), (A.v (Value.int .i64 y3.1.Left)), (A.v (Value.bool y3.1.Stopped))], Blk.box [(A.imm (List.map (cL c8) y7.1.Sectors) false), (A.imm (List.map c_S_Write y7.1.Pending) false), (A.v (Value.int .i64 y7.1.Left)), (A.v (Value.bool y7.1.Stopped))], Blk.box [(A.imm (List.map (cL c8) y8.1.Sectors) false), (A.imm (List.map c_S_Write y8.1.Pending) false), (A.v (Value.int .i64 y8.1.Left)), (A.v (Value.bool y8.1.Stopped))]] (A.imm (List.map c8 y9) false)] = _; simp only [snap, snapW, snapWs, snapWss, snapWss_map, trim, List.map_cons, List.map_nil, fl_cI, fl_c8, fl_cB, fl_cS, fl_cL, fl_S_Write, fl_S_Disk]; exact h19 y8.1 0 y9) fun y10 => ?_
  refine .st (v := (A.agg [(A.imm (List.map (cL c8) y10.1.Sectors) false), (A.imm (List.map c_S_Write y10.1.Pending) false), (A.v (Value.int .i64 y10.1.Left)), (A.v (Value.bool y10.1.Stopped))])) (by kernel_rfl) ?_
  refine .st (v := (A.v (Value.int .i64 y10.2))) (by kernel_rfl) ?_
  refine .st (v := [Blk.box [(A.imm (List.map (cL c8) y1.1.Sectors) false), (A.imm (List.map c_S_Write y1.1.Pending) false), (A.v (Value.int .i64 y1.1.Left)), (A.v (Value.bool y1.1.Stopped))], Blk.box [(A.imm (List.map (cL c8) y2.1.Sectors) false), (A.imm (List.map c_S_Write y2.1.Pending) false), (A.v (Value.int .i64 y2.1.Left)), (A.v (Value.bool y2.1.Stopped))], Blk.box [(A.imm (List.map (cL c8) y3.1.Sectors) false), (A.imm (List.map c_S_Write y3.1.Pending) false), (A.v (Value.int .i64 y3.1.Left)), (A.v (Value.bool y3.1.Stopped))], Blk.box [(A.imm (List.map (cL c8) y7.1.Sectors) false), (A.imm (List.map c_S_Write y7.1.Pending) false), (A.v (Value.int .i64 y7.1.Left)), (A.v (Value.bool y7.1.Stopped))], Blk.box [(A.imm (List.map (cL c8) y10.1.Sectors) false), (A.imm (List.map c_S_Write y10.1.Pending) false), (A.v (Value.int .i64 y10.1.Left)), (A.v (Value.bool y10.1.Stopped))]]) (by kernel_rfl) ?_
  refine .st (v := (A.agg [(A.imm (List.map (cL c8) y10.1.Sectors) false), (A.imm (List.map c_S_Write y10.1.Pending) false), (A.v (Value.int .i64 y10.1.Left)), (A.v (Value.bool y10.1.Stopped))])) (by kernel_rfl) ?_
  refine .bd (g := fun (y : (S_Disk × Int)) => (A.tup [(A.agg [(A.imm (List.map (cL c8) y.1.Sectors) false), (A.imm (List.map c_S_Write y.1.Pending) false), (A.v (Value.int .i64 y.1.Left)), (A.v (Value.bool y.1.Stopped))]), (A.v (Value.int .i64 y.2))])) (by show C 23 [snap [Blk.box [(A.imm (List.map (cL c8) y1.1.Sectors) false), (A.imm (List.map c_S_Write y1.1.Pending) false), (A.v (Value.int .i64 y1.1.Left)), (A.v (Value.bool y1.1.Stopped))], Blk.box [(A.imm (List.map (cL c8) y2.1.Sectors) false), (A.imm (List.map c_S_Write y2.1.Pending) false), (A.v (Value.int .i64 y2.1.Left)), (A.v (Value.bool y2.1.Stopped))], Blk.box [(A.imm (List.map (cL c8) y3.1.Sectors) false), (A.imm (List.map c_S_Write y3.1.Pending) false), (A.v (Value.int .i64 y3.1.Left)), (A.v (Value.bool y3.1.Stopped))], Blk.box [(A.imm (List.map (cL c8) y7.1.Sectors) false), (A.imm (List.map c_S_Write y7.1.Pending) false), (A.v (Value.int .i64 y7.1.Left)), (A.v (Value.bool y7.1.Stopped))], Blk.box [(A.imm (List.map (cL c8) y10.1.Sectors) false), (A.imm (List.map c_S_Write y10.1.Pending) false), (A.v (Value.int .i64 y10.1.Left)), (A.v (Value.bool y10.1.Stopped))]] (A.agg [(A.imm (List.map (cL c8) y10.1.Sectors) false), (A.imm (List.map c_S_Write y10.1.Pending) false), (A.v (Value.int .i64 y10.1.Left)), (A.v (Value.bool y10.1.Stopped))])] = _; simp only [snap, snapW, snapWs, snapWss, snapWss_map, trim, List.map_cons, List.map_nil, fl_cI, fl_c8, fl_cB, fl_cS, fl_cL, fl_S_Write, fl_S_Disk]; exact h23 y10.1) fun y11 => ?_
  refine .st (v := (A.agg [(A.imm (List.map (cL c8) y11.1.Sectors) false), (A.imm (List.map c_S_Write y11.1.Pending) false), (A.v (Value.int .i64 y11.1.Left)), (A.v (Value.bool y11.1.Stopped))])) (by kernel_rfl) ?_
  refine .st (v := (A.v (Value.int .i64 y11.2))) (by kernel_rfl) ?_
  refine .st (v := ((A.ptr 5 0), [Blk.box [(A.imm (List.map (cL c8) y1.1.Sectors) false), (A.imm (List.map c_S_Write y1.1.Pending) false), (A.v (Value.int .i64 y1.1.Left)), (A.v (Value.bool y1.1.Stopped))], Blk.box [(A.imm (List.map (cL c8) y2.1.Sectors) false), (A.imm (List.map c_S_Write y2.1.Pending) false), (A.v (Value.int .i64 y2.1.Left)), (A.v (Value.bool y2.1.Stopped))], Blk.box [(A.imm (List.map (cL c8) y3.1.Sectors) false), (A.imm (List.map c_S_Write y3.1.Pending) false), (A.v (Value.int .i64 y3.1.Left)), (A.v (Value.bool y3.1.Stopped))], Blk.box [(A.imm (List.map (cL c8) y7.1.Sectors) false), (A.imm (List.map c_S_Write y7.1.Pending) false), (A.v (Value.int .i64 y7.1.Left)), (A.v (Value.bool y7.1.Stopped))], Blk.box [(A.imm (List.map (cL c8) y10.1.Sectors) false), (A.imm (List.map c_S_Write y10.1.Pending) false), (A.v (Value.int .i64 y10.1.Left)), (A.v (Value.bool y10.1.Stopped))], Blk.box [(A.imm [] true), (A.imm [] true), (A.v (Value.int .i64 0)), (A.v (Value.bool false))]])) (by kernel_rfl) ?_
  refine .st (v := [Blk.box [(A.imm (List.map (cL c8) y1.1.Sectors) false), (A.imm (List.map c_S_Write y1.1.Pending) false), (A.v (Value.int .i64 y1.1.Left)), (A.v (Value.bool y1.1.Stopped))], Blk.box [(A.imm (List.map (cL c8) y2.1.Sectors) false), (A.imm (List.map c_S_Write y2.1.Pending) false), (A.v (Value.int .i64 y2.1.Left)), (A.v (Value.bool y2.1.Stopped))], Blk.box [(A.imm (List.map (cL c8) y3.1.Sectors) false), (A.imm (List.map c_S_Write y3.1.Pending) false), (A.v (Value.int .i64 y3.1.Left)), (A.v (Value.bool y3.1.Stopped))], Blk.box [(A.imm (List.map (cL c8) y7.1.Sectors) false), (A.imm (List.map c_S_Write y7.1.Pending) false), (A.v (Value.int .i64 y7.1.Left)), (A.v (Value.bool y7.1.Stopped))], Blk.box [(A.imm (List.map (cL c8) y10.1.Sectors) false), (A.imm (List.map c_S_Write y10.1.Pending) false), (A.v (Value.int .i64 y10.1.Left)), (A.v (Value.bool y10.1.Stopped))], Blk.box [(A.imm (List.map (cL c8) y11.1.Sectors) false), (A.imm (List.map c_S_Write y11.1.Pending) false), (A.v (Value.int .i64 y11.1.Left)), (A.v (Value.bool y11.1.Stopped))]]) (by kernel_rfl) ?_
  refine .st (v := (A.v (Value.bool (y1.2 != 1)))) (aBin_neq ..) ?_
  refine .bg (fun t (y : Bool) => ∃ j14 j15 : A, t = [(A.v (Value.bool y)), j14, j15]) ?_ ?_
  · refine .biH (fun hk12 => ?_) (fun hk12 => ?_)
    · exact .lg ⟨_, _, rfl⟩
    · refine .st (v := (A.v (Value.bool (y2.2 != 0)))) (aBin_neq ..) ?_
      exact .lg ⟨_, _, rfl⟩
  rintro _ y13 ⟨j14, j15, rfl⟩
  iterate 3 refine .uc ?_
  refine .bg (fun t (y : Bool) => ∃ j18 j19 : A, t = [(A.v (Value.bool y)), j18, j19]) ?_ ?_
  · refine .biH (fun hk16 => ?_) (fun hk16 => ?_)
    · exact .lg ⟨_, _, rfl⟩
    · refine .st (v := (A.v (Value.bool (y3.2 != 0)))) (aBin_neq ..) ?_
      exact .lg ⟨_, _, rfl⟩
  rintro _ y17 ⟨j18, j19, rfl⟩
  iterate 3 refine .uc ?_
  refine .bg (fun t (y : Bool) => ∃ j22 j23 : A, t = [(A.v (Value.bool y)), j22, j23]) ?_ ?_
  · refine .biH (fun hk20 => ?_) (fun hk20 => ?_)
    · exact .lg ⟨_, _, rfl⟩
    · refine .st (v := (A.v (Value.bool (y4.2 != 0)))) (aBin_neq ..) ?_
      exact .lg ⟨_, _, rfl⟩
  rintro _ y21 ⟨j22, j23, rfl⟩
  iterate 3 refine .uc ?_
  refine .bg (fun t (y : Bool) => ∃ j26 j27 : A, t = [(A.v (Value.bool y)), j26, j27]) ?_ ?_
  · refine .biH (fun hk24 => ?_) (fun hk24 => ?_)
    · exact .lg ⟨_, _, rfl⟩
    · refine .st (v := (A.v (Value.bool (y5.2 != 40)))) (aBin_neq ..) ?_
      exact .lg ⟨_, _, rfl⟩
  rintro _ y25 ⟨j26, j27, rfl⟩
  iterate 3 refine .uc ?_
  refine .bg (fun t (y : Bool) => ∃ j30 j31 : A, t = [(A.v (Value.bool y)), j30, j31]) ?_ ?_
  · refine .biH (fun hk28 => ?_) (fun hk28 => ?_)
    · exact .lg ⟨_, _, rfl⟩
    · refine .st (v := (A.v (Value.bool (y7.2 != 1)))) (aBin_neq ..) ?_
      exact .lg ⟨_, _, rfl⟩
  rintro _ y29 ⟨j30, j31, rfl⟩
  iterate 3 refine .uc ?_
  refine .bg (fun t (y : Bool) => ∃ j34 j35 : A, t = [(A.v (Value.bool y)), j34, j35]) ?_ ?_
  · refine .biH (fun hk32 => ?_) (fun hk32 => ?_)
    · exact .lg ⟨_, _, rfl⟩
    · refine .st (v := (A.v (Value.bool (y8.2 != 0)))) (aBin_neq ..) ?_
      exact .lg ⟨_, _, rfl⟩
  rintro _ y33 ⟨j34, j35, rfl⟩
  iterate 3 refine .uc ?_
  refine .bg (fun t (y : Bool) => ∃ j38 j39 : A, t = [(A.v (Value.bool y)), j38, j39]) ?_ ?_
  · refine .biH (fun hk36 => ?_) (fun hk36 => ?_)
    · exact .lg ⟨_, _, rfl⟩
    · refine .st (v := (A.v (Value.bool (y10.2 != 0)))) (aBin_neq ..) ?_
      exact .lg ⟨_, _, rfl⟩
  rintro _ y37 ⟨j38, j39, rfl⟩
  iterate 3 refine .uc ?_
  refine .bg (fun t (y : Bool) => ∃ j42 j43 : A, t = [(A.v (Value.bool y)), j42, j43]) ?_ ?_
  · refine .biH (fun hk40 => ?_) (fun hk40 => ?_)
    · exact .lg ⟨_, _, rfl⟩
    · refine .st (v := (A.v (Value.bool (y11.2 != 40)))) (aBin_neq ..) ?_
      exact .lg ⟨_, _, rfl⟩
  rintro _ y41 ⟨j42, j43, rfl⟩
  iterate 3 refine .uc ?_
  refine .bg (fun t (y : Bool) => ∃ j46 j47 j48 : A, t = [(A.v (Value.bool y)), j46, j47, j48]) ?_ ?_
  · refine .biH (fun hk44 => ?_) (fun hk44 => ?_)
    · exact .lg ⟨_, _, _, rfl⟩
    · refine .st (v := (A.ptr 5 3)) (by kernel_rfl) ?_
      refine .st (v := (A.v (Value.bool y11.1.Stopped))) (by kernel_rfl) ?_
      refine .st (v := (A.v (Value.bool (!y11.1.Stopped)))) (by kernel_rfl) ?_
      exact .lg ⟨_, _, _, rfl⟩
  rintro _ y45 ⟨j46, j47, j48, rfl⟩
  iterate 4 refine .uc ?_
  refine .biHN (fun hk49 => ?_) (fun hk49 => ?_)
  · exact .lf rfl rfl ⟨_, rfl, rfl⟩
  · refine .st (v := (A.agg [(A.imm (List.map (cL c8) y11.1.Sectors) false), (A.imm (List.map c_S_Write y11.1.Pending) false), (A.v (Value.int .i64 y11.1.Left)), (A.v (Value.bool y11.1.Stopped))])) (by kernel_rfl) ?_
    refine .bd (g := fun (y : S_Disk) => (A.agg [(A.imm (List.map (cL c8) y.Sectors) false), (A.imm (List.map c_S_Write y.Pending) false), (A.v (Value.int .i64 y.Left)), (A.v (Value.bool y.Stopped))])) (by show C 17 [snap [Blk.box [(A.imm (List.map (cL c8) y1.1.Sectors) false), (A.imm (List.map c_S_Write y1.1.Pending) false), (A.v (Value.int .i64 y1.1.Left)), (A.v (Value.bool y1.1.Stopped))], Blk.box [(A.imm (List.map (cL c8) y2.1.Sectors) false), (A.imm (List.map c_S_Write y2.1.Pending) false), (A.v (Value.int .i64 y2.1.Left)), (A.v (Value.bool y2.1.Stopped))], Blk.box [(A.imm (List.map (cL c8) y3.1.Sectors) false), (A.imm (List.map c_S_Write y3.1.Pending) false), (A.v (Value.int .i64 y3.1.Left)), (A.v (Value.bool y3.1.Stopped))], Blk.box [(A.imm (List.map (cL c8) y7.1.Sectors) false), (A.imm (List.map c_S_Write y7.1.Pending) false), (A.v (Value.int .i64 y7.1.Left)), (A.v (Value.bool y7.1.Stopped))], Blk.box [(A.imm (List.map (cL c8) y10.1.Sectors) false), (A.imm (List.map c_S_Write y10.1.Pending) false), (A.v (Value.int .i64 y10.1.Left)), (A.v (Value.bool y10.1.Stopped))], Blk.box [(A.imm (List.map (cL c8) y11.1.Sectors) false), (A.imm (List.map c_S_Write y11.1.Pending) false), (A.v (Value.int .i64 y11.1.Left)), (A.v (Value.bool y11.1.Stopped))]] (A.agg [(A.imm (List.map (cL c8) y11.1.Sectors) false), (A.imm (List.map c_S_Write y11.1.Pending) false), (A.v (Value.int .i64 y11.1.Left)), (A.v (Value.bool y11.1.Stopped))])] = _; simp only [snap, snapW, snapWs, snapWss, snapWss_map, trim, List.map_cons, List.map_nil, fl_cI, fl_c8, fl_cB, fl_cS, fl_cL, fl_S_Write, fl_S_Disk]; exact h17 y11.1) fun y50 => ?_
    refine .st (v := [Blk.box [(A.imm (List.map (cL c8) y1.1.Sectors) false), (A.imm (List.map c_S_Write y1.1.Pending) false), (A.v (Value.int .i64 y1.1.Left)), (A.v (Value.bool y1.1.Stopped))], Blk.box [(A.imm (List.map (cL c8) y2.1.Sectors) false), (A.imm (List.map c_S_Write y2.1.Pending) false), (A.v (Value.int .i64 y2.1.Left)), (A.v (Value.bool y2.1.Stopped))], Blk.box [(A.imm (List.map (cL c8) y3.1.Sectors) false), (A.imm (List.map c_S_Write y3.1.Pending) false), (A.v (Value.int .i64 y3.1.Left)), (A.v (Value.bool y3.1.Stopped))], Blk.box [(A.imm (List.map (cL c8) y7.1.Sectors) false), (A.imm (List.map c_S_Write y7.1.Pending) false), (A.v (Value.int .i64 y7.1.Left)), (A.v (Value.bool y7.1.Stopped))], Blk.box [(A.imm (List.map (cL c8) y10.1.Sectors) false), (A.imm (List.map c_S_Write y10.1.Pending) false), (A.v (Value.int .i64 y10.1.Left)), (A.v (Value.bool y10.1.Stopped))], Blk.box [(A.imm (List.map (cL c8) y50.Sectors) false), (A.imm (List.map c_S_Write y50.Pending) false), (A.v (Value.int .i64 y50.Left)), (A.v (Value.bool y50.Stopped))]]) (by kernel_rfl) ?_
    refine .st (v := (A.agg [(A.imm (List.map (cL c8) y50.Sectors) false), (A.imm (List.map c_S_Write y50.Pending) false), (A.v (Value.int .i64 y50.Left)), (A.v (Value.bool y50.Stopped))])) (by kernel_rfl) ?_
    refine .bd (g := fun (y : ((List UInt8) × Int)) => (A.tup [(A.imm (List.map c8 y.1) false), (A.v (Value.int .i64 y.2))])) (by show C 21 [snap [Blk.box [(A.imm (List.map (cL c8) y1.1.Sectors) false), (A.imm (List.map c_S_Write y1.1.Pending) false), (A.v (Value.int .i64 y1.1.Left)), (A.v (Value.bool y1.1.Stopped))], Blk.box [(A.imm (List.map (cL c8) y2.1.Sectors) false), (A.imm (List.map c_S_Write y2.1.Pending) false), (A.v (Value.int .i64 y2.1.Left)), (A.v (Value.bool y2.1.Stopped))], Blk.box [(A.imm (List.map (cL c8) y3.1.Sectors) false), (A.imm (List.map c_S_Write y3.1.Pending) false), (A.v (Value.int .i64 y3.1.Left)), (A.v (Value.bool y3.1.Stopped))], Blk.box [(A.imm (List.map (cL c8) y7.1.Sectors) false), (A.imm (List.map c_S_Write y7.1.Pending) false), (A.v (Value.int .i64 y7.1.Left)), (A.v (Value.bool y7.1.Stopped))], Blk.box [(A.imm (List.map (cL c8) y10.1.Sectors) false), (A.imm (List.map c_S_Write y10.1.Pending) false), (A.v (Value.int .i64 y10.1.Left)), (A.v (Value.bool y10.1.Stopped))], Blk.box [(A.imm (List.map (cL c8) y50.Sectors) false), (A.imm (List.map c_S_Write y50.Pending) false), (A.v (Value.int .i64 y50.Left)), (A.v (Value.bool y50.Stopped))]] (A.agg [(A.imm (List.map (cL c8) y50.Sectors) false), (A.imm (List.map c_S_Write y50.Pending) false), (A.v (Value.int .i64 y50.Left)), (A.v (Value.bool y50.Stopped))]), snap [Blk.box [(A.imm (List.map (cL c8) y1.1.Sectors) false), (A.imm (List.map c_S_Write y1.1.Pending) false), (A.v (Value.int .i64 y1.1.Left)), (A.v (Value.bool y1.1.Stopped))], Blk.box [(A.imm (List.map (cL c8) y2.1.Sectors) false), (A.imm (List.map c_S_Write y2.1.Pending) false), (A.v (Value.int .i64 y2.1.Left)), (A.v (Value.bool y2.1.Stopped))], Blk.box [(A.imm (List.map (cL c8) y3.1.Sectors) false), (A.imm (List.map c_S_Write y3.1.Pending) false), (A.v (Value.int .i64 y3.1.Left)), (A.v (Value.bool y3.1.Stopped))], Blk.box [(A.imm (List.map (cL c8) y7.1.Sectors) false), (A.imm (List.map c_S_Write y7.1.Pending) false), (A.v (Value.int .i64 y7.1.Left)), (A.v (Value.bool y7.1.Stopped))], Blk.box [(A.imm (List.map (cL c8) y10.1.Sectors) false), (A.imm (List.map c_S_Write y10.1.Pending) false), (A.v (Value.int .i64 y10.1.Left)), (A.v (Value.bool y10.1.Stopped))], Blk.box [(A.imm (List.map (cL c8) y50.Sectors) false), (A.imm (List.map c_S_Write y50.Pending) false), (A.v (Value.int .i64 y50.Left)), (A.v (Value.bool y50.Stopped))]] (A.v (Value.int .i64 1))] = _; simp only [snap, snapW, snapWs, snapWss, snapWss_map, trim, List.map_cons, List.map_nil, fl_cI, fl_c8, fl_cB, fl_cS, fl_cL, fl_S_Write, fl_S_Disk]; exact h21 y50 1) fun y51 => ?_
    refine .st (v := (A.imm (List.map c8 y51.1) false)) (by kernel_rfl) ?_
    refine .st (v := (A.v (Value.int .i64 y51.2))) (by kernel_rfl) ?_
    refine .st (v := (A.agg [(A.imm (List.map (cL c8) y50.Sectors) false), (A.imm (List.map c_S_Write y50.Pending) false), (A.v (Value.int .i64 y50.Left)), (A.v (Value.bool y50.Stopped))])) (by kernel_rfl) ?_
    refine .bd (g := fun (y : ((List UInt8) × Int)) => (A.tup [(A.imm (List.map c8 y.1) false), (A.v (Value.int .i64 y.2))])) (by show C 21 [snap [Blk.box [(A.imm (List.map (cL c8) y1.1.Sectors) false), (A.imm (List.map c_S_Write y1.1.Pending) false), (A.v (Value.int .i64 y1.1.Left)), (A.v (Value.bool y1.1.Stopped))], Blk.box [(A.imm (List.map (cL c8) y2.1.Sectors) false), (A.imm (List.map c_S_Write y2.1.Pending) false), (A.v (Value.int .i64 y2.1.Left)), (A.v (Value.bool y2.1.Stopped))], Blk.box [(A.imm (List.map (cL c8) y3.1.Sectors) false), (A.imm (List.map c_S_Write y3.1.Pending) false), (A.v (Value.int .i64 y3.1.Left)), (A.v (Value.bool y3.1.Stopped))], Blk.box [(A.imm (List.map (cL c8) y7.1.Sectors) false), (A.imm (List.map c_S_Write y7.1.Pending) false), (A.v (Value.int .i64 y7.1.Left)), (A.v (Value.bool y7.1.Stopped))], Blk.box [(A.imm (List.map (cL c8) y10.1.Sectors) false), (A.imm (List.map c_S_Write y10.1.Pending) false), (A.v (Value.int .i64 y10.1.Left)), (A.v (Value.bool y10.1.Stopped))], Blk.box [(A.imm (List.map (cL c8) y50.Sectors) false), (A.imm (List.map c_S_Write y50.Pending) false), (A.v (Value.int .i64 y50.Left)), (A.v (Value.bool y50.Stopped))]] (A.agg [(A.imm (List.map (cL c8) y50.Sectors) false), (A.imm (List.map c_S_Write y50.Pending) false), (A.v (Value.int .i64 y50.Left)), (A.v (Value.bool y50.Stopped))]), snap [Blk.box [(A.imm (List.map (cL c8) y1.1.Sectors) false), (A.imm (List.map c_S_Write y1.1.Pending) false), (A.v (Value.int .i64 y1.1.Left)), (A.v (Value.bool y1.1.Stopped))], Blk.box [(A.imm (List.map (cL c8) y2.1.Sectors) false), (A.imm (List.map c_S_Write y2.1.Pending) false), (A.v (Value.int .i64 y2.1.Left)), (A.v (Value.bool y2.1.Stopped))], Blk.box [(A.imm (List.map (cL c8) y3.1.Sectors) false), (A.imm (List.map c_S_Write y3.1.Pending) false), (A.v (Value.int .i64 y3.1.Left)), (A.v (Value.bool y3.1.Stopped))], Blk.box [(A.imm (List.map (cL c8) y7.1.Sectors) false), (A.imm (List.map c_S_Write y7.1.Pending) false), (A.v (Value.int .i64 y7.1.Left)), (A.v (Value.bool y7.1.Stopped))], Blk.box [(A.imm (List.map (cL c8) y10.1.Sectors) false), (A.imm (List.map c_S_Write y10.1.Pending) false), (A.v (Value.int .i64 y10.1.Left)), (A.v (Value.bool y10.1.Stopped))], Blk.box [(A.imm (List.map (cL c8) y50.Sectors) false), (A.imm (List.map c_S_Write y50.Pending) false), (A.v (Value.int .i64 y50.Left)), (A.v (Value.bool y50.Stopped))]] (A.v (Value.int .i64 0))] = _; simp only [snap, snapW, snapWs, snapWss, snapWss_map, trim, List.map_cons, List.map_nil, fl_cI, fl_c8, fl_cB, fl_cS, fl_cL, fl_S_Write, fl_S_Disk]; exact h21 y50 0) fun y52 => ?_
    refine .st (v := (A.imm (List.map c8 y52.1) false)) (by kernel_rfl) ?_
    refine .st (v := (A.v (Value.int .i64 y52.2))) (by kernel_rfl) ?_
    refine .st (v := (A.agg [(A.imm (List.map (cL c8) y3.1.Sectors) false), (A.imm (List.map c_S_Write y3.1.Pending) false), (A.v (Value.int .i64 y3.1.Left)), (A.v (Value.bool y3.1.Stopped))])) (by kernel_rfl) ?_
    refine .bd (g := fun (y : S_Disk) => (A.agg [(A.imm (List.map (cL c8) y.Sectors) false), (A.imm (List.map c_S_Write y.Pending) false), (A.v (Value.int .i64 y.Left)), (A.v (Value.bool y.Stopped))])) (by show C 17 [snap [Blk.box [(A.imm (List.map (cL c8) y1.1.Sectors) false), (A.imm (List.map c_S_Write y1.1.Pending) false), (A.v (Value.int .i64 y1.1.Left)), (A.v (Value.bool y1.1.Stopped))], Blk.box [(A.imm (List.map (cL c8) y2.1.Sectors) false), (A.imm (List.map c_S_Write y2.1.Pending) false), (A.v (Value.int .i64 y2.1.Left)), (A.v (Value.bool y2.1.Stopped))], Blk.box [(A.imm (List.map (cL c8) y3.1.Sectors) false), (A.imm (List.map c_S_Write y3.1.Pending) false), (A.v (Value.int .i64 y3.1.Left)), (A.v (Value.bool y3.1.Stopped))], Blk.box [(A.imm (List.map (cL c8) y7.1.Sectors) false), (A.imm (List.map c_S_Write y7.1.Pending) false), (A.v (Value.int .i64 y7.1.Left)), (A.v (Value.bool y7.1.Stopped))], Blk.box [(A.imm (List.map (cL c8) y10.1.Sectors) false), (A.imm (List.map c_S_Write y10.1.Pending) false), (A.v (Value.int .i64 y10.1.Left)), (A.v (Value.bool y10.1.Stopped))], Blk.box [(A.imm (List.map (cL c8) y50.Sectors) false), (A.imm (List.map c_S_Write y50.Pending) false), (A.v (Value.int .i64 y50.Left)), (A.v (Value.bool y50.Stopped))]] (A.agg [(A.imm (List.map (cL c8) y3.1.Sectors) false), (A.imm (List.map c_S_Write y3.1.Pending) false), (A.v (Value.int .i64 y3.1.Left)), (A.v (Value.bool y3.1.Stopped))])] = _; simp only [snap, snapW, snapWs, snapWss, snapWss_map, trim, List.map_cons, List.map_nil, fl_cI, fl_c8, fl_cB, fl_cS, fl_cL, fl_S_Write, fl_S_Disk]; exact h17 y3.1) fun y53 => ?_
    refine .bd (g := fun (y : ((List UInt8) × Int)) => (A.tup [(A.imm (List.map c8 y.1) false), (A.v (Value.int .i64 y.2))])) (by show C 21 [snap [Blk.box [(A.imm (List.map (cL c8) y1.1.Sectors) false), (A.imm (List.map c_S_Write y1.1.Pending) false), (A.v (Value.int .i64 y1.1.Left)), (A.v (Value.bool y1.1.Stopped))], Blk.box [(A.imm (List.map (cL c8) y2.1.Sectors) false), (A.imm (List.map c_S_Write y2.1.Pending) false), (A.v (Value.int .i64 y2.1.Left)), (A.v (Value.bool y2.1.Stopped))], Blk.box [(A.imm (List.map (cL c8) y3.1.Sectors) false), (A.imm (List.map c_S_Write y3.1.Pending) false), (A.v (Value.int .i64 y3.1.Left)), (A.v (Value.bool y3.1.Stopped))], Blk.box [(A.imm (List.map (cL c8) y7.1.Sectors) false), (A.imm (List.map c_S_Write y7.1.Pending) false), (A.v (Value.int .i64 y7.1.Left)), (A.v (Value.bool y7.1.Stopped))], Blk.box [(A.imm (List.map (cL c8) y10.1.Sectors) false), (A.imm (List.map c_S_Write y10.1.Pending) false), (A.v (Value.int .i64 y10.1.Left)), (A.v (Value.bool y10.1.Stopped))], Blk.box [(A.imm (List.map (cL c8) y50.Sectors) false), (A.imm (List.map c_S_Write y50.Pending) false), (A.v (Value.int .i64 y50.Left)), (A.v (Value.bool y50.Stopped))]] (A.agg [(A.imm (List.map (cL c8) y53.Sectors) false), (A.imm (List.map c_S_Write y53.Pending) false), (A.v (Value.int .i64 y53.Left)), (A.v (Value.bool y53.Stopped))]), snap [Blk.box [(A.imm (List.map (cL c8) y1.1.Sectors) false), (A.imm (List.map c_S_Write y1.1.Pending) false), (A.v (Value.int .i64 y1.1.Left)), (A.v (Value.bool y1.1.Stopped))], Blk.box [(A.imm (List.map (cL c8) y2.1.Sectors) false), (A.imm (List.map c_S_Write y2.1.Pending) false), (A.v (Value.int .i64 y2.1.Left)), (A.v (Value.bool y2.1.Stopped))], Blk.box [(A.imm (List.map (cL c8) y3.1.Sectors) false), (A.imm (List.map c_S_Write y3.1.Pending) false), (A.v (Value.int .i64 y3.1.Left)), (A.v (Value.bool y3.1.Stopped))], Blk.box [(A.imm (List.map (cL c8) y7.1.Sectors) false), (A.imm (List.map c_S_Write y7.1.Pending) false), (A.v (Value.int .i64 y7.1.Left)), (A.v (Value.bool y7.1.Stopped))], Blk.box [(A.imm (List.map (cL c8) y10.1.Sectors) false), (A.imm (List.map c_S_Write y10.1.Pending) false), (A.v (Value.int .i64 y10.1.Left)), (A.v (Value.bool y10.1.Stopped))], Blk.box [(A.imm (List.map (cL c8) y50.Sectors) false), (A.imm (List.map c_S_Write y50.Pending) false), (A.v (Value.int .i64 y50.Left)), (A.v (Value.bool y50.Stopped))]] (A.v (Value.int .i64 1))] = _; simp only [snap, snapW, snapWs, snapWss, snapWss_map, trim, List.map_cons, List.map_nil, fl_cI, fl_c8, fl_cB, fl_cS, fl_cL, fl_S_Write, fl_S_Disk]; exact h21 y53 1) fun y54 => ?_
    refine .st (v := (A.imm (List.map c8 y54.1) false)) (by kernel_rfl) ?_
    refine .st (v := (A.v (Value.int .i64 y54.2))) (by kernel_rfl) ?_
    refine .st (v := (A.v (Value.bool (y51.2 == 0)))) (aBin_eql ..) ?_
    refine .bg (fun t (y : Bool) => ∃ j57 j58 : A, t = [(A.v (Value.bool y)), j57, j58]) ?_ ?_
    · refine .biH (fun hk55 => ?_) (fun hk55 => ?_)
      · refine .st (v := (A.v (Value.bool (y52.2 == 0)))) (aBin_eql ..) ?_
        exact .lg ⟨_, _, rfl⟩
      · exact .lg ⟨_, _, rfl⟩
    rintro _ y56 ⟨j57, j58, rfl⟩
    iterate 3 refine .uc ?_
    refine .bg (fun t (y : Bool) => ∃ j61 j62 : A, t = [(A.v (Value.bool y)), j61, j62]) ?_ ?_
    · refine .biH (fun hk59 => ?_) (fun hk59 => ?_)
      · refine .st (v := (A.v (Value.bool (y54.2 == 0)))) (aBin_eql ..) ?_
        exact .lg ⟨_, _, rfl⟩
      · exact .lg ⟨_, _, rfl⟩
    rintro _ y60 ⟨j61, j62, rfl⟩
    iterate 3 refine .uc ?_
    refine .bg (fun t (y : Bool) => ∃ j65 j66 j67 : A, t = [(A.v (Value.bool y)), j65, j66, j67]) ?_ ?_
    · refine .biH (fun hk63 => ?_) (fun hk63 => ?_)
      · refine .st (v := (A.v (Value.int .i64 ((y4.1.length : Int))))) (len_imm (e := 5) (h1 := by kernel_rfl) ..) ?_
        refine .st (v := (A.v (Value.bool (((y4.1.length : Int)) == 128)))) (aBin_eql ..) ?_
        exact .lg ⟨_, _, _, rfl⟩
      · exact .lg ⟨_, _, _, rfl⟩
    rintro _ y64 ⟨j65, j66, j67, rfl⟩
    iterate 4 refine .uc ?_
    refine .bg (fun t (y : Bool) => ∃ j71 j72 j73 j74 : A, t = [(A.v (Value.bool y)), j71, j72, j73, j74]) ?_ ?_
    · refine .biH (fun hk68 => ?_) (fun hk68 => ?_)
      · refine .bd (g := fun (y : UInt8) => A.ip (c8 y)) (idx_imm (e := 5) (es := 1) (h1 := by kernel_rfl) (h2 := by kernel_rfl) (h3 := fun _ => rfl) ..) fun y69 => ?_
        refine .st (v := (A.v (Value.int .u8 ((y69.toNat : Int))))) (by kernel_rfl) ?_
        refine .st (v := (A.v (Value.bool (((y69.toNat : Int)) == 7)))) (aBin_eql ..) ?_
        exact .lg ⟨_, _, _, _, rfl⟩
      · exact .lg ⟨_, _, _, _, rfl⟩
    rintro _ y70 ⟨j71, j72, j73, j74, rfl⟩
    iterate 5 refine .uc ?_
    refine .bg (fun t (y : Bool) => ∃ j77 j78 j79 : A, t = [(A.v (Value.bool y)), j77, j78, j79]) ?_ ?_
    · refine .biH (fun hk75 => ?_) (fun hk75 => ?_)
      · refine .st (v := (A.v (Value.int .i64 ((y51.1.length : Int))))) (len_imm (e := 5) (h1 := by kernel_rfl) ..) ?_
        refine .st (v := (A.v (Value.bool (((y51.1.length : Int)) == 128)))) (aBin_eql ..) ?_
        exact .lg ⟨_, _, _, rfl⟩
      · exact .lg ⟨_, _, _, rfl⟩
    rintro _ y76 ⟨j77, j78, j79, rfl⟩
    iterate 4 refine .uc ?_
    refine .bg (fun t (y : Bool) => ∃ j83 j84 j85 j86 : A, t = [(A.v (Value.bool y)), j83, j84, j85, j86]) ?_ ?_
    · refine .biH (fun hk80 => ?_) (fun hk80 => ?_)
      · refine .bd (g := fun (y : UInt8) => A.ip (c8 y)) (idx_imm (e := 5) (es := 1) (h1 := by kernel_rfl) (h2 := by kernel_rfl) (h3 := fun _ => rfl) ..) fun y81 => ?_
        refine .st (v := (A.v (Value.int .u8 ((y81.toNat : Int))))) (by kernel_rfl) ?_
        refine .st (v := (A.v (Value.bool (((y81.toNat : Int)) == 7)))) (aBin_eql ..) ?_
        exact .lg ⟨_, _, _, _, rfl⟩
      · exact .lg ⟨_, _, _, _, rfl⟩
    rintro _ y82 ⟨j83, j84, j85, j86, rfl⟩
    iterate 5 refine .uc ?_
    refine .bg (fun t (y : Bool) => ∃ j89 j90 j91 : A, t = [(A.v (Value.bool y)), j89, j90, j91]) ?_ ?_
    · refine .biH (fun hk87 => ?_) (fun hk87 => ?_)
      · refine .st (v := (A.v (Value.int .i64 ((y52.1.length : Int))))) (len_imm (e := 5) (h1 := by kernel_rfl) ..) ?_
        refine .st (v := (A.v (Value.bool (((y52.1.length : Int)) == 128)))) (aBin_eql ..) ?_
        exact .lg ⟨_, _, _, rfl⟩
      · exact .lg ⟨_, _, _, rfl⟩
    rintro _ y88 ⟨j89, j90, j91, rfl⟩
    iterate 4 refine .uc ?_
    refine .bg (fun t (y : Bool) => ∃ j95 j96 j97 j98 : A, t = [(A.v (Value.bool y)), j95, j96, j97, j98]) ?_ ?_
    · refine .biH (fun hk92 => ?_) (fun hk92 => ?_)
      · refine .bd (g := fun (y : UInt8) => A.ip (c8 y)) (idx_imm (e := 5) (es := 1) (h1 := by kernel_rfl) (h2 := by kernel_rfl) (h3 := fun _ => rfl) ..) fun y93 => ?_
        refine .st (v := (A.v (Value.int .u8 ((y93.toNat : Int))))) (by kernel_rfl) ?_
        refine .st (v := (A.v (Value.bool (((y93.toNat : Int)) == 8)))) (aBin_eql ..) ?_
        exact .lg ⟨_, _, _, _, rfl⟩
      · exact .lg ⟨_, _, _, _, rfl⟩
    rintro _ y94 ⟨j95, j96, j97, j98, rfl⟩
    iterate 5 refine .uc ?_
    refine .bg (fun t (y : Bool) => ∃ j102 j103 j104 j105 : A, t = [(A.v (Value.bool y)), j102, j103, j104, j105]) ?_ ?_
    · refine .biH (fun hk99 => ?_) (fun hk99 => ?_)
      · refine .bd (g := fun (y : UInt8) => A.ip (c8 y)) (idx_imm (e := 5) (es := 1) (h1 := by kernel_rfl) (h2 := by kernel_rfl) (h3 := fun _ => rfl) ..) fun y100 => ?_
        refine .st (v := (A.v (Value.int .u8 ((y100.toNat : Int))))) (by kernel_rfl) ?_
        refine .st (v := (A.v (Value.bool (((y100.toNat : Int)) == 0)))) (aBin_eql ..) ?_
        exact .lg ⟨_, _, _, _, rfl⟩
      · exact .lg ⟨_, _, _, _, rfl⟩
    rintro _ y101 ⟨j102, j103, j104, j105, rfl⟩
    iterate 5 refine .uc ?_
    refine .bg (fun t (y : Bool) => ∃ j108 j109 j110 : A, t = [(A.v (Value.bool y)), j108, j109, j110]) ?_ ?_
    · refine .biH (fun hk106 => ?_) (fun hk106 => ?_)
      · refine .st (v := (A.v (Value.int .i64 ((y54.1.length : Int))))) (len_imm (e := 5) (h1 := by kernel_rfl) ..) ?_
        refine .st (v := (A.v (Value.bool (((y54.1.length : Int)) == 128)))) (aBin_eql ..) ?_
        exact .lg ⟨_, _, _, rfl⟩
      · exact .lg ⟨_, _, _, rfl⟩
    rintro _ y107 ⟨j108, j109, j110, rfl⟩
    iterate 4 refine .uc ?_
    refine .bg (fun t (y : Bool) => ∃ j114 j115 j116 j117 : A, t = [(A.v (Value.bool y)), j114, j115, j116, j117]) ?_ ?_
    · refine .biH (fun hk111 => ?_) (fun hk111 => ?_)
      · refine .bd (g := fun (y : UInt8) => A.ip (c8 y)) (idx_imm (e := 5) (es := 1) (h1 := by kernel_rfl) (h2 := by kernel_rfl) (h3 := fun _ => rfl) ..) fun y112 => ?_
        refine .st (v := (A.v (Value.int .u8 ((y112.toNat : Int))))) (by kernel_rfl) ?_
        refine .st (v := (A.v (Value.bool (((y112.toNat : Int)) == 0)))) (aBin_eql ..) ?_
        exact .lg ⟨_, _, _, _, rfl⟩
      · exact .lg ⟨_, _, _, _, rfl⟩
    rintro _ y113 ⟨j114, j115, j116, j117, rfl⟩
    iterate 5 refine .uc ?_
    refine .bg (fun t (y : Bool) => ∃ j121 j122 j123 : A, t = [(A.v (Value.bool y)), j121, j122, j123]) ?_ ?_
    · refine .biH (fun hk118 => ?_) (fun hk118 => ?_)
      · refine .st (v := (A.agg [(A.imm [] true), (A.imm [] true), (A.v (Value.int .i64 0)), (A.v (Value.bool false))])) (by kernel_rfl) ?_
        refine .bd (g := fun (y : Int) => (A.v (Value.int .i64 y))) (by show C 15 [snap [Blk.box [(A.imm (List.map (cL c8) y1.1.Sectors) false), (A.imm (List.map c_S_Write y1.1.Pending) false), (A.v (Value.int .i64 y1.1.Left)), (A.v (Value.bool y1.1.Stopped))], Blk.box [(A.imm (List.map (cL c8) y2.1.Sectors) false), (A.imm (List.map c_S_Write y2.1.Pending) false), (A.v (Value.int .i64 y2.1.Left)), (A.v (Value.bool y2.1.Stopped))], Blk.box [(A.imm (List.map (cL c8) y3.1.Sectors) false), (A.imm (List.map c_S_Write y3.1.Pending) false), (A.v (Value.int .i64 y3.1.Left)), (A.v (Value.bool y3.1.Stopped))], Blk.box [(A.imm (List.map (cL c8) y7.1.Sectors) false), (A.imm (List.map c_S_Write y7.1.Pending) false), (A.v (Value.int .i64 y7.1.Left)), (A.v (Value.bool y7.1.Stopped))], Blk.box [(A.imm (List.map (cL c8) y10.1.Sectors) false), (A.imm (List.map c_S_Write y10.1.Pending) false), (A.v (Value.int .i64 y10.1.Left)), (A.v (Value.bool y10.1.Stopped))], Blk.box [(A.imm (List.map (cL c8) y50.Sectors) false), (A.imm (List.map c_S_Write y50.Pending) false), (A.v (Value.int .i64 y50.Left)), (A.v (Value.bool y50.Stopped))]] (A.agg [(A.imm [] true), (A.imm [] true), (A.v (Value.int .i64 0)), (A.v (Value.bool false))])] = _; simp only [snap, snapW, snapWs, snapWss, snapWss_map, trim, List.map_cons, List.map_nil, fl_cI, fl_c8, fl_cB, fl_cS, fl_cL, fl_S_Write, fl_S_Disk]; exact h15 ((S_Disk.mk ([]) ([]) 0 false))) fun y119 => ?_
        refine .st (v := (A.v (Value.bool (y119 == 40)))) (aBin_eql ..) ?_
        exact .lg ⟨_, _, _, rfl⟩
      · exact .lg ⟨_, _, _, rfl⟩
    rintro _ y120 ⟨j121, j122, j123, rfl⟩
    iterate 4 refine .uc ?_
    refine .bg (fun t (y : Bool) => ∃ j127 j128 j129 j130 : A, t = [(A.v (Value.bool y)), j127, j128, j129, j130]) ?_ ?_
    · refine .biH (fun hk124 => ?_) (fun hk124 => ?_)
      · refine .st (v := (A.agg [(A.imm [] true), (A.imm [] true), (A.v (Value.int .i64 0)), (A.v (Value.bool false))])) (by kernel_rfl) ?_
        refine .bd (g := fun (y : S_Disk) => (A.agg [(A.imm (List.map (cL c8) y.Sectors) false), (A.imm (List.map c_S_Write y.Pending) false), (A.v (Value.int .i64 y.Left)), (A.v (Value.bool y.Stopped))])) (by show C 17 [snap [Blk.box [(A.imm (List.map (cL c8) y1.1.Sectors) false), (A.imm (List.map c_S_Write y1.1.Pending) false), (A.v (Value.int .i64 y1.1.Left)), (A.v (Value.bool y1.1.Stopped))], Blk.box [(A.imm (List.map (cL c8) y2.1.Sectors) false), (A.imm (List.map c_S_Write y2.1.Pending) false), (A.v (Value.int .i64 y2.1.Left)), (A.v (Value.bool y2.1.Stopped))], Blk.box [(A.imm (List.map (cL c8) y3.1.Sectors) false), (A.imm (List.map c_S_Write y3.1.Pending) false), (A.v (Value.int .i64 y3.1.Left)), (A.v (Value.bool y3.1.Stopped))], Blk.box [(A.imm (List.map (cL c8) y7.1.Sectors) false), (A.imm (List.map c_S_Write y7.1.Pending) false), (A.v (Value.int .i64 y7.1.Left)), (A.v (Value.bool y7.1.Stopped))], Blk.box [(A.imm (List.map (cL c8) y10.1.Sectors) false), (A.imm (List.map c_S_Write y10.1.Pending) false), (A.v (Value.int .i64 y10.1.Left)), (A.v (Value.bool y10.1.Stopped))], Blk.box [(A.imm (List.map (cL c8) y50.Sectors) false), (A.imm (List.map c_S_Write y50.Pending) false), (A.v (Value.int .i64 y50.Left)), (A.v (Value.bool y50.Stopped))]] (A.agg [(A.imm [] true), (A.imm [] true), (A.v (Value.int .i64 0)), (A.v (Value.bool false))])] = _; simp only [snap, snapW, snapWs, snapWss, snapWss_map, trim, List.map_cons, List.map_nil, fl_cI, fl_c8, fl_cB, fl_cS, fl_cL, fl_S_Write, fl_S_Disk]; exact h17 ((S_Disk.mk ([]) ([]) 0 false))) fun y125 => ?_
        refine .st (v := (A.v (Value.int .i64 y125.Left))) (by kernel_rfl) ?_
        refine .st (v := (A.v (Value.bool (y125.Left == (-1))))) (aBin_eql ..) ?_
        exact .lg ⟨_, _, _, _, rfl⟩
      · exact .lg ⟨_, _, _, _, rfl⟩
    rintro _ y126 ⟨j127, j128, j129, j130, rfl⟩
    iterate 5 refine .uc ?_
    exact .lf rfl rfl ⟨_, rfl, rfl⟩

def G10  : Option Bool := F10 fuel0 

def Orc10 (C : Nat → List A → Option A) : Prop := ∀ (_ : Unit), C 10 [] = (G10 ).map fun y => (A.v (Value.bool y))

def F11_11_0 (n : Nat) (v1 : Bool) (v4 : (List (List UInt8))) (v5 : (List S_Write)) (v6 : Int) (v7 : Bool) : Nat → Int → Int → Option (Int)
  | 0, _, _ => none
  | m + 1, v2, v3 => Option.bind (bif (decide (v3 < ((v4.length : Int)))) then (some (decide (v2 ≤ 9000))) else (some false)) fun y9 => bif y9 then (Option.bind (getI v4 v3) fun y13 => F11_11_0 n v1 v4 v5 v6 v7 m (wr .i64 ((wr .i64 (v2 + 1)) + ((y13.length : Int)))) (wr .i64 (v3 + 1))) else (some v2)

theorem T11_11_0 (C : Nat → List A → Option A) (n : Nat) (v1 : Bool) (v4 : (List (List UInt8))) (v5 : (List S_Write)) (v6 : Int) (v7 : Bool) {ρ γ : Type} {φ : ρ → γ → Prop} {kL : R → Option ρ} {K : (Int) → Option γ} (kx kg : Nat → St → Option R) (kr : St → Option R) (kp : A → St → Option R) (x0 : ∀ (o0 : Int) (s4 : A), J φ (kx 0 (St.mk [(1, (A.ptr 0 0)), (2, (A.v (Value.bool v1))), (3, (A.v (Value.int .i64 o0))), (4, s4)] [Blk.box [(A.imm (List.map (cL c8) v4) false), (A.imm (List.map c_S_Write v5) false), (A.v (Value.int .i64 v6)), (A.v (Value.bool v7))]])) kL (K o0) some) :
    ∀ (m : Nat) (v2 : Int) (v3 : Int), J φ (loopR (cx C) (evCall (cx C) (n+8)) (evCallY (cx C) (n+8)) (n+8) 11 0 0 1 kx kg kr kp m (St.mk [(1, (A.ptr 0 0)), (2, (A.v (Value.bool v1))), (3, (A.v (Value.int .i64 v2))), (4, (A.v (Value.int .i64 v3)))] [Blk.box [(A.imm (List.map (cL c8) v4) false), (A.imm (List.map c_S_Write v5) false), (A.v (Value.int .i64 v6)), (A.v (Value.bool v7))]])) kL (F11_11_0 n v1 v4 v5 v6 v7 m v2 v3) K := by
  intro m
  induction m with
  | zero => intros; exact .nn
  | succ m ih =>
    intro v2 v3
    refine .lp (e11_0 ..) ?_
    unfold F11_11_0
    refine .st (v := (A.ptr 0 0)) (by kernel_rfl) ?_
    refine .st (v := (A.imm (List.map (cL c8) v4) false)) (by kernel_rfl) ?_
    refine .st (v := (A.v (Value.int .i64 ((v4.length : Int))))) (len_imm (e := 35) (h1 := by kernel_rfl) ..) ?_
    refine .st (v := (A.v (Value.bool (decide (v3 < ((v4.length : Int))))))) (aBin_lss ..) ?_
    refine .bg (fun t (y : Bool) => ∃ j10 j11 : A, t = [(A.v (Value.bool y)), j10, j11]) ?_ ?_
    · refine .biH (fun hk8 => ?_) (fun hk8 => ?_)
      · refine .st (v := (A.v (Value.bool (decide (v2 ≤ 9000))))) (aBin_leq ..) ?_
        exact .lg ⟨_, _, rfl⟩
      · exact .lg ⟨_, _, rfl⟩
    rintro _ y9 ⟨j10, j11, rfl⟩
    iterate 3 refine .uc ?_
    refine .biHN (fun hk12 => ?_) (fun hk12 => ?_)
    · refine .st (v := (A.v (Value.int .i64 (wr .i64 (v2 + 1))))) (aBin_add ..) ?_
      refine .st (v := (A.ptr 0 0)) (by kernel_rfl) ?_
      refine .st (v := (A.imm (List.map (cL c8) v4) false)) (by kernel_rfl) ?_
      refine .bd (g := fun (y : (List UInt8)) => A.ip ((cL c8) y)) (idx_imm (e := 35) (es := 1) (h1 := by kernel_rfl) (h2 := by kernel_rfl) (h3 := fun _ => rfl) ..) fun y13 => ?_
      refine .st (v := (A.imm (List.map c8 y13) false)) (by kernel_rfl) ?_
      refine .st (v := (A.v (Value.int .i64 ((y13.length : Int))))) (len_imm (e := 5) (h1 := by kernel_rfl) ..) ?_
      refine .st (v := (A.v (Value.int .i64 (wr .i64 ((wr .i64 (v2 + 1)) + ((y13.length : Int))))))) (aBin_add ..) ?_
      refine .st (v := (A.v (Value.int .i64 (wr .i64 (v3 + 1))))) (aBin_add ..) ?_
      refine .st (v := [Blk.box [(A.imm (List.map (cL c8) v4) false), (A.imm (List.map c_S_Write v5) false), (A.v (Value.int .i64 v6)), (A.v (Value.bool v7))]]) (by kernel_rfl) ?_
      refine .cT (by kernel_rfl) ?_
      exact ih _ _
    · exact .ex (x0 _ _)

def F11_11_1 (n : Nat) (v17 : Bool) (v20 : (List (List UInt8))) (v21 : (List S_Write)) (v22 : Int) (v23 : Bool) : Nat → Int → Int → Option (Int)
  | 0, _, _ => none
  | m + 1, v18, v19 => Option.bind (bif (decide (v19 < ((v21.length : Int)))) then (some (decide (v18 ≤ 9000))) else (some false)) fun y25 => bif y25 then (Option.bind (getI v21 v19) fun y29 => F11_11_1 n v17 v20 v21 v22 v23 m (wr .i64 ((wr .i64 (v18 + 1)) + ((y29.Data.length : Int)))) (wr .i64 (v19 + 1))) else (some v18)

theorem T11_11_1 (C : Nat → List A → Option A) (n : Nat) (v17 : Bool) (v20 : (List (List UInt8))) (v21 : (List S_Write)) (v22 : Int) (v23 : Bool) {ρ γ : Type} {φ : ρ → γ → Prop} {kL : R → Option ρ} {K : (Int) → Option γ} (kx kg : Nat → St → Option R) (kr : St → Option R) (kp : A → St → Option R) (x0 : ∀ (o0 : Int) (s1 : A) (s2 : A) (s5 : A), J φ (kx 2 (St.mk [(1, s1), (2, s2), (3, (A.v (Value.int .i64 o0))), (5, s5)] [Blk.box [(A.imm (List.map (cL c8) v20) false), (A.imm (List.map c_S_Write v21) false), (A.v (Value.int .i64 v22)), (A.v (Value.bool v23))]])) kL (K o0) some) :
    ∀ (m : Nat) (v18 : Int) (v19 : Int), J φ (loopR (cx C) (evCall (cx C) (n+8)) (evCallY (cx C) (n+8)) (n+8) 11 0 1 1 kx kg kr kp m (St.mk [(1, (A.ptr 0 0)), (2, (A.v (Value.bool v17))), (3, (A.v (Value.int .i64 v18))), (5, (A.v (Value.int .i64 v19)))] [Blk.box [(A.imm (List.map (cL c8) v20) false), (A.imm (List.map c_S_Write v21) false), (A.v (Value.int .i64 v22)), (A.v (Value.bool v23))]])) kL (F11_11_1 n v17 v20 v21 v22 v23 m v18 v19) K := by
  intro m
  induction m with
  | zero => intros; exact .nn
  | succ m ih =>
    intro v18 v19
    refine .lp (e11_1 ..) ?_
    unfold F11_11_1
    refine .st (v := (A.ptr 0 1)) (by kernel_rfl) ?_
    refine .st (v := (A.imm (List.map c_S_Write v21) false)) (by kernel_rfl) ?_
    refine .st (v := (A.v (Value.int .i64 ((v21.length : Int))))) (len_imm (e := 54) (h1 := by kernel_rfl) ..) ?_
    refine .st (v := (A.v (Value.bool (decide (v19 < ((v21.length : Int))))))) (aBin_lss ..) ?_
    refine .bg (fun t (y : Bool) => ∃ j26 j27 : A, t = [(A.v (Value.bool y)), j26, j27]) ?_ ?_
    · refine .biH (fun hk24 => ?_) (fun hk24 => ?_)
      · refine .st (v := (A.v (Value.bool (decide (v18 ≤ 9000))))) (aBin_leq ..) ?_
        exact .lg ⟨_, _, rfl⟩
      · exact .lg ⟨_, _, rfl⟩
    rintro _ y25 ⟨j26, j27, rfl⟩
    iterate 3 refine .uc ?_
    refine .biHN (fun hk28 => ?_) (fun hk28 => ?_)
    · refine .st (v := (A.v (Value.int .i64 (wr .i64 (v18 + 1))))) (aBin_add ..) ?_
      refine .st (v := (A.ptr 0 1)) (by kernel_rfl) ?_
      refine .st (v := (A.imm (List.map c_S_Write v21) false)) (by kernel_rfl) ?_
      refine .bd (g := fun (y : S_Write) => A.ip (c_S_Write y)) (idx_imm (e := 54) (es := 2) (h1 := by kernel_rfl) (h2 := by kernel_rfl) (h3 := fun _ => rfl) ..) fun y29 => ?_
      refine .st (v := (A.ip [(A.imm (List.map c8 y29.Data) false)])) (by kernel_rfl) ?_
      refine .st (v := (A.imm (List.map c8 y29.Data) false)) (by kernel_rfl) ?_
      refine .st (v := (A.v (Value.int .i64 ((y29.Data.length : Int))))) (len_imm (e := 5) (h1 := by kernel_rfl) ..) ?_
      refine .st (v := (A.v (Value.int .i64 (wr .i64 ((wr .i64 (v18 + 1)) + ((y29.Data.length : Int))))))) (aBin_add ..) ?_
      refine .st (v := (A.v (Value.int .i64 (wr .i64 (v19 + 1))))) (aBin_add ..) ?_
      refine .st (v := [Blk.box [(A.imm (List.map (cL c8) v20) false), (A.imm (List.map c_S_Write v21) false), (A.v (Value.int .i64 v22)), (A.v (Value.bool v23))]]) (by kernel_rfl) ?_
      refine .cT (by kernel_rfl) ?_
      exact ih _ _
    · exact .ex (x0 _ _ _ _)

def F11 (n : Nat) (a0 : S_Disk) : Option Bool :=
  Option.bind (F11_11_0 n false a0.Sectors a0.Pending a0.Left a0.Stopped (n+8) 0 0) fun o14 => match o14 with | y15 => Option.bind (F11_11_1 n false a0.Sectors a0.Pending a0.Left a0.Stopped (n+8) y15 0) fun o30 => match o30 with | y31 => some (decide (y31 ≤ 9000))

theorem T11 (C : Nat → List A → Option A) (n : Nat) (a0 : S_Disk) : J (fun (o : R) y => ∃ v, o.1 = .ret v ∧ snapE o.2 v = (A.v (Value.bool y))) (evCall1 (cx C) (evCall (cx C) (n+8)) (evCallY (cx C) (n+8)) (n+8) 11 [(A.agg [(A.imm (List.map (cL c8) a0.Sectors) false), (A.imm (List.map c_S_Write a0.Pending) false), (A.v (Value.int .i64 a0.Left)), (A.v (Value.bool a0.Stopped))])] [] 0) some (F11 n a0) some := by
  refine .lp (e11 ..) ?_
  unfold F11
  refine .st (v := ((A.ptr 0 0), [Blk.box [(A.imm (List.map (cL c8) a0.Sectors) false), (A.imm (List.map c_S_Write a0.Pending) false), (A.v (Value.int .i64 a0.Left)), (A.v (Value.bool a0.Stopped))]])) (by kernel_rfl) ?_
  refine .as (T11_11_0 C n  false a0.Sectors a0.Pending a0.Left a0.Stopped _ _ _ _ ?_ _ 0 0)
  · intro y15 j16
    refine .un rfl ?_
    refine .cT (by kernel_rfl) ?_
    refine .as (T11_11_1 C n  false a0.Sectors a0.Pending a0.Left a0.Stopped _ _ _ _ ?_ _ y15 0)
    · intro y31 j32 j33 j34
      refine .un rfl ?_
      refine .cT (by kernel_rfl) ?_
      refine .st (v := (A.v (Value.bool (decide (y31 ≤ 9000))))) (aBin_leq ..) ?_
      exact .lf rfl rfl ⟨_, rfl, rfl⟩

def G11 (a0 : S_Disk) : Option Bool := F11 fuel0 a0

def Orc11 (C : Nat → List A → Option A) : Prop := ∀ (a0 : S_Disk), C 11 [(A.agg [(A.imm (List.map (cL c8) a0.Sectors) false), (A.imm (List.map c_S_Write a0.Pending) false), (A.v (Value.int .i64 a0.Left)), (A.v (Value.bool a0.Stopped))])] = (G11 a0).map fun y => (A.v (Value.bool y))

def F13_13_0 (n : Nat) (v6 : Int) (v7 : Int) (v9 : (List (List UInt8))) (v10 : (List S_Write)) (v11 : Int) (v12 : Bool) (v13 : (List S_Write)) (v14 : Int) (v15 : Bool) : Nat → Int → (List (List UInt8)) → Option ((List (List UInt8)))
  | 0, _, _ => none
  | m + 1, v8, v16 => bif (decide (v8 < v6)) then (Option.bind (mkI 1 128 ((0 : UInt8))) fun y18 => Option.bind (appI 24 v16 ([y18])) fun y19 => F13_13_0 n v6 v7 v9 v10 v11 v12 v13 v14 v15 m (wr .i64 (v8 + 1)) y19) else (some v16)

theorem T13_13_0 (C : Nat → List A → Option A) (n : Nat) (v6 : Int) (v7 : Int) (v9 : (List (List UInt8))) (v10 : (List S_Write)) (v11 : Int) (v12 : Bool) (v13 : (List S_Write)) (v14 : Int) (v15 : Bool) {ρ γ : Type} {φ : ρ → γ → Prop} {kL : R → Option ρ} {K : ((List (List UInt8))) → Option γ} (kx kg : Nat → St → Option R) (kr : St → Option R) (kp : A → St → Option R) (x0 : ∀ (o0 : (List (List UInt8))) (s0 : A) (s3 : A) (s5 : A), J φ (kx 0 (St.mk [(0, s0), (2, (A.ptr 0 0)), (3, s3), (4, (A.ptr 1 0)), (5, s5)] [Blk.box [(A.imm (List.map (cL c8) v9) true), (A.imm (List.map c_S_Write v10) true), (A.v (Value.int .i64 v11)), (A.v (Value.bool v12))], Blk.box [(A.sl 2 0 o0.length false), (A.imm (List.map c_S_Write v13) true), (A.v (Value.int .i64 v14)), (A.v (Value.bool v15))], Blk.row false 1 (List.map (cL c8) o0)])) kL (K o0) some) :
    ∀ (m : Nat) (v8 : Int) (v16 : (List (List UInt8))), J φ (loopR (cx C) (evCall (cx C) (n+8)) (evCallY (cx C) (n+8)) (n+8) 13 0 0 3 kx kg kr kp m (St.mk [(0, (A.v (Value.int .i64 v6))), (2, (A.ptr 0 0)), (3, (A.v (Value.int .i64 v7))), (4, (A.ptr 1 0)), (5, (A.v (Value.int .i64 v8)))] [Blk.box [(A.imm (List.map (cL c8) v9) true), (A.imm (List.map c_S_Write v10) true), (A.v (Value.int .i64 v11)), (A.v (Value.bool v12))], Blk.box [(A.sl 2 0 v16.length false), (A.imm (List.map c_S_Write v13) true), (A.v (Value.int .i64 v14)), (A.v (Value.bool v15))], Blk.row false 1 (List.map (cL c8) v16)])) kL (F13_13_0 n v6 v7 v9 v10 v11 v12 v13 v14 v15 m v8 v16) K := by
  intro m
  induction m with
  | zero => intros; exact .nn
  | succ m ih =>
    intro v8 v16
    refine .lp (e13_0 ..) ?_
    unfold F13_13_0
    refine .st (v := (A.v (Value.bool (decide (v8 < v6))))) (aBin_lss ..) ?_
    refine .biHN (fun hk17 => ?_) (fun hk17 => ?_)
    · refine .st (v := (A.ptr 1 0)) (by kernel_rfl) ?_
      refine .st (v := (A.sl 2 0 v16.length false)) (by kernel_rfl) ?_
      refine .cT (by kernel_rfl) ?_
      refine .bd (g := fun (y : List UInt8) => ((A.imm (List.map c8 y) false), [Blk.box [(A.imm (List.map (cL c8) v9) true), (A.imm (List.map c_S_Write v10) true), (A.v (Value.int .i64 v11)), (A.v (Value.bool v12))], Blk.box [(A.sl 2 0 v16.length false), (A.imm (List.map c_S_Write v13) true), (A.v (Value.int .i64 v14)), (A.v (Value.bool v15))], Blk.row false 1 (List.map (cL c8) v16)])) (wrow_makeI (e := 5) (es := 1) (f := c8) (z := (0 : UInt8)) (z' := [(A.v (Value.int .u8 0))]) (by kernel_rfl) (by kernel_rfl) (by kernel_rfl) (by kernel_rfl) rfl (by decide) (fun _ => rfl)) fun y18 => ?_
      refine .st (v := (A.imm [[(A.imm (List.map c8 y18) false)]] true)) (by kernel_rfl) ?_
      refine .bd (g := fun (y : List (List UInt8)) => ((A.sl 2 0 y.length false), [Blk.box [(A.imm (List.map (cL c8) v9) true), (A.imm (List.map c_S_Write v10) true), (A.v (Value.int .i64 v11)), (A.v (Value.bool v12))], Blk.box [(A.sl 2 0 v16.length false), (A.imm (List.map c_S_Write v13) true), (A.v (Value.int .i64 v14)), (A.v (Value.bool v15))], Blk.row false 1 (List.map (cL c8) y)])) (app_row (e := 35) (es := 1) (by_ := 24) (z := [(A.imm [] true)]) (by kernel_rfl) (by kernel_rfl) (by kernel_rfl) (by kernel_rfl) rfl (by decide) (by decide) (by kernel_rfl) (f := (cL c8)) (fun _ => rfl) ce_cL (l := v16) (l2 := [y18]) (b := 2) rfl (by decide) (els_imm (f := (cL c8)) ([y18] : List (List UInt8)) _ _)) fun y19 => ?_
      refine .st (v := (A.ptr 1 0)) (by kernel_rfl) ?_
      refine .st (v := [Blk.box [(A.imm (List.map (cL c8) v9) true), (A.imm (List.map c_S_Write v10) true), (A.v (Value.int .i64 v11)), (A.v (Value.bool v12))], Blk.box [(A.sl 2 0 y19.length false), (A.imm (List.map c_S_Write v13) true), (A.v (Value.int .i64 v14)), (A.v (Value.bool v15))], Blk.row false 1 (List.map (cL c8) y19)]) (by kernel_rfl) ?_
      refine .st (v := (A.v (Value.int .i64 (wr .i64 (v8 + 1))))) (aBin_add ..) ?_
      refine .st (v := [Blk.box [(A.imm (List.map (cL c8) v9) true), (A.imm (List.map c_S_Write v10) true), (A.v (Value.int .i64 v11)), (A.v (Value.bool v12))], Blk.box [(A.sl 2 0 y19.length false), (A.imm (List.map c_S_Write v13) true), (A.v (Value.int .i64 v14)), (A.v (Value.bool v15))], Blk.row false 1 (List.map (cL c8) y19)]) (by kernel_rfl) ?_
      refine .cT (by kernel_rfl) ?_
      exact ih _ _
    · exact .ex (x0 _ _ _ _)

def F13 (n : Nat) (a0 : Int) : Option (S_Disk × Int) :=
  Option.bind (bif (decide (a0 < 1)) then (some true) else (some (decide (4096 < a0)))) fun y2 => bif y2 then (some (((S_Disk.mk ([]) ([]) 0 false), 1))) else (Option.bind (F13_13_0 n a0 0 ([]) ([]) 0 false ([]) (-1) false (n+8) 0 (([] : List (List UInt8)))) fun o20 => match o20 with | y21 => some (((S_Disk.mk y21 ([]) (-1) false), 0)))

theorem T13 (C : Nat → List A → Option A) (n : Nat) (a0 : Int) : J (fun (o : R) y => ∃ v, o.1 = .ret v ∧ snapE o.2 v = (A.tup [(A.agg [(A.imm (List.map (cL c8) y.1.Sectors) false), (A.imm (List.map c_S_Write y.1.Pending) false), (A.v (Value.int .i64 y.1.Left)), (A.v (Value.bool y.1.Stopped))]), (A.v (Value.int .i64 y.2))])) (evCall1 (cx C) (evCall (cx C) (n+8)) (evCallY (cx C) (n+8)) (n+8) 13 [(A.v (Value.int .i64 a0))] [] 0) some (F13 n a0) some := by
  refine .lp (e13 ..) ?_
  unfold F13
  refine .st (v := ((A.ptr 0 0), [Blk.box [(A.imm [] true), (A.imm [] true), (A.v (Value.int .i64 0)), (A.v (Value.bool false))]])) (by kernel_rfl) ?_
  refine .st (v := (A.v (Value.bool (decide (a0 < 1))))) (aBin_lss ..) ?_
  refine .bg (fun t (y : Bool) => ∃ j3 j4 : A, t = [(A.v (Value.bool y)), j3, j4]) ?_ ?_
  · refine .biH (fun hk1 => ?_) (fun hk1 => ?_)
    · exact .lg ⟨_, _, rfl⟩
    · refine .st (v := (A.v (Value.bool (decide (4096 < a0))))) (aBin_gtr ..) ?_
      exact .lg ⟨_, _, rfl⟩
  rintro _ y2 ⟨j3, j4, rfl⟩
  iterate 3 refine .uc ?_
  refine .biHN (fun hk5 => ?_) (fun hk5 => ?_)
  · refine .st (v := (A.agg [(A.imm [] true), (A.imm [] true), (A.v (Value.int .i64 0)), (A.v (Value.bool false))])) (by kernel_rfl) ?_
    refine .st (v := [Blk.box [(A.imm [] true), (A.imm [] true), (A.v (Value.int .i64 0)), (A.v (Value.bool false))]]) (by kernel_rfl) ?_
    refine .st (v := (A.agg [(A.imm [] true), (A.imm [] true), (A.v (Value.int .i64 0)), (A.v (Value.bool false))])) (by kernel_rfl) ?_
    exact .lf rfl rfl ⟨_, rfl, by show snapE [Blk.box [(A.imm [] true), (A.imm [] true), (A.v (Value.int .i64 0)), (A.v (Value.bool false))]] (A.tup [(A.agg [(A.imm [] true), (A.imm [] true), (A.v (Value.int .i64 0)), (A.v (Value.bool false))]), (A.v (Value.int .i64 1))]) = _; first | (simp only [snap, snapW, snapWs, snapWss, snapWss_map, trim, List.map_cons, List.map_nil, fl_cI, fl_c8, fl_cB, fl_cS, fl_cL, fl_S_Write, fl_S_Disk, snapE]; done) | (simp only [snap, snapW, snapWs, snapWss, snapWss_map, trim, fl_cI, fl_c8, fl_cB, fl_cS, fl_cL, fl_S_Write, fl_S_Disk, snapE]; done) | (simp only [snap, snapW, snapWs, snapWss, snapWss_map, trim, fl_cI, fl_c8, fl_cB, fl_cS, fl_cL, fl_S_Write, fl_S_Disk, snapE]; rfl)⟩
  · refine .st (v := (A.agg [(A.imm [] true), (A.imm [] true), (A.v (Value.int .i64 (-1))), (A.v (Value.bool false))])) (by kernel_rfl) ?_
    refine .st (v := ((A.ptr 1 0), [Blk.box [(A.imm [] true), (A.imm [] true), (A.v (Value.int .i64 0)), (A.v (Value.bool false))], Blk.box [(A.imm [] true), (A.imm [] true), (A.v (Value.int .i64 0)), (A.v (Value.bool false))]])) (by kernel_rfl) ?_
    refine .st (v := [Blk.box [(A.imm [] true), (A.imm [] true), (A.v (Value.int .i64 0)), (A.v (Value.bool false))], Blk.box [(A.imm [] true), (A.imm [] true), (A.v (Value.int .i64 (-1))), (A.v (Value.bool false))]]) (by kernel_rfl) ?_
    refine .as (T13_13_0 C n  a0 0 ([]) ([]) 0 false ([]) (-1) false _ _ _ _ ?_ _ 0 (([] : List (List UInt8))))
    · intro y21 j22 j23 j24
      refine .un rfl ?_
      refine .cT (by kernel_rfl) ?_
      refine .st (v := (A.agg [(A.sl 2 0 y21.length false), (A.imm [] true), (A.v (Value.int .i64 (-1))), (A.v (Value.bool false))])) (by kernel_rfl) ?_
      refine .st (v := [Blk.box [(A.sl 2 0 y21.length false), (A.imm [] true), (A.v (Value.int .i64 (-1))), (A.v (Value.bool false))], Blk.box [(A.sl 2 0 y21.length false), (A.imm [] true), (A.v (Value.int .i64 (-1))), (A.v (Value.bool false))], Blk.row false 1 (List.map (cL c8) y21)]) (by kernel_rfl) ?_
      refine .st (v := (A.agg [(A.sl 2 0 y21.length false), (A.imm [] true), (A.v (Value.int .i64 (-1))), (A.v (Value.bool false))])) (by kernel_rfl) ?_
      exact .lf rfl rfl ⟨_, rfl, by show snapE [Blk.box [(A.sl 2 0 y21.length false), (A.imm [] true), (A.v (Value.int .i64 (-1))), (A.v (Value.bool false))], Blk.box [(A.sl 2 0 y21.length false), (A.imm [] true), (A.v (Value.int .i64 (-1))), (A.v (Value.bool false))], Blk.row false 1 (List.map (cL c8) y21)] (A.tup [(A.agg [(A.sl 2 0 y21.length false), (A.imm [] true), (A.v (Value.int .i64 (-1))), (A.v (Value.bool false))]), (A.v (Value.int .i64 0))]) = _; first | (simp only [snap, snapW, snapWs, snapWss, snapWss_map, trim, List.map_cons, List.map_nil, fl_cI, fl_c8, fl_cB, fl_cS, fl_cL, fl_S_Write, fl_S_Disk, snapE, snapGE_row (H := [Blk.box [(A.sl 2 0 y21.length false), (A.imm [] true), (A.v (Value.int .i64 (-1))), (A.v (Value.bool false))], Blk.box [(A.sl 2 0 y21.length false), (A.imm [] true), (A.v (Value.int .i64 (-1))), (A.v (Value.bool false))], Blk.row false 1 (List.map (cL c8) y21)]) (b := 2) (es := 1) (wr := false) (l := y21) (fl_cL fl_c8) rfl]; done) | (simp only [snap, snapW, snapWs, snapWss, snapWss_map, trim, fl_cI, fl_c8, fl_cB, fl_cS, fl_cL, fl_S_Write, fl_S_Disk, snapE, snapGE_row (H := [Blk.box [(A.sl 2 0 y21.length false), (A.imm [] true), (A.v (Value.int .i64 (-1))), (A.v (Value.bool false))], Blk.box [(A.sl 2 0 y21.length false), (A.imm [] true), (A.v (Value.int .i64 (-1))), (A.v (Value.bool false))], Blk.row false 1 (List.map (cL c8) y21)]) (b := 2) (es := 1) (wr := false) (l := y21) (fl_cL fl_c8) rfl]; done) | (simp only [snap, snapW, snapWs, snapWss, snapWss_map, trim, fl_cI, fl_c8, fl_cB, fl_cS, fl_cL, fl_S_Write, fl_S_Disk, snapE, snapGE_row (H := [Blk.box [(A.sl 2 0 y21.length false), (A.imm [] true), (A.v (Value.int .i64 (-1))), (A.v (Value.bool false))], Blk.box [(A.sl 2 0 y21.length false), (A.imm [] true), (A.v (Value.int .i64 (-1))), (A.v (Value.bool false))], Blk.row false 1 (List.map (cL c8) y21)]) (b := 2) (es := 1) (wr := false) (l := y21) (fl_cL fl_c8) rfl]; rfl)⟩

def G13 (a0 : Int) : Option (S_Disk × Int) := F13 fuel0 a0

def Orc13 (C : Nat → List A → Option A) : Prop := ∀ (a0 : Int), C 13 [(A.v (Value.int .i64 a0))] = (G13 a0).map fun y => (A.tup [(A.agg [(A.imm (List.map (cL c8) y.1.Sectors) false), (A.imm (List.map c_S_Write y.1.Pending) false), (A.v (Value.int .i64 y.1.Left)), (A.v (Value.bool y.1.Stopped))]), (A.v (Value.int .i64 y.2))])

def F14_14_0 (n : Nat) (v25 : Bool) (v27 : (List (List UInt8))) (v28 : (List S_Write)) (v29 : Int) (v30 : Bool) (v31 : (List (List UInt8))) (v32 : (List S_Write)) (v33 : Int) (v34 : Bool) : Nat → Int → Option ((Bool) ⊕ (Unit))
  | 0, _ => none
  | m + 1, v26 => bif (decide (v26 < ((v27.length : Int)))) then (Option.bind (getI v27 v26) fun y36 => Option.bind (getI v31 v26) fun y37 => bif (!strEq (bstr y36) (bstr y37)) then (some ((Sum.inl false))) else (F14_14_0 n v25 v27 v28 v29 v30 v31 v32 v33 v34 m (wr .i64 (v26 + 1)))) else (some ((Sum.inr (()))))

theorem T14_14_0 (C : Nat → List A → Option A) (n : Nat) (v25 : Bool) (v27 : (List (List UInt8))) (v28 : (List S_Write)) (v29 : Int) (v30 : Bool) (v31 : (List (List UInt8))) (v32 : (List S_Write)) (v33 : Int) (v34 : Bool) {ρ γ : Type} {φ : ρ → γ → Prop} {kL : R → Option ρ} {K : ((Bool) ⊕ (Unit)) → Option γ} (kx kg : Nat → St → Option R) (kr : St → Option R) (kp : A → St → Option R) (x0 : ∀ (o0 : Bool) (s2 : A) (s3 : A) (s5 : A), J φ (kr (St.mk [(2, s2), (3, s3), (4, (A.v (Value.bool o0))), (5, s5)] [Blk.box [(A.imm (List.map (cL c8) v27) false), (A.imm (List.map c_S_Write v28) false), (A.v (Value.int .i64 v29)), (A.v (Value.bool v30))], Blk.box [(A.imm (List.map (cL c8) v31) false), (A.imm (List.map c_S_Write v32) false), (A.v (Value.int .i64 v33)), (A.v (Value.bool v34))]])) kL (K (Sum.inl o0)) some) (x1 : ∀ (s5 : A), J φ (kx 0 (St.mk [(2, (A.ptr 0 0)), (3, (A.ptr 1 0)), (4, (A.v (Value.bool v25))), (5, s5)] [Blk.box [(A.imm (List.map (cL c8) v27) false), (A.imm (List.map c_S_Write v28) false), (A.v (Value.int .i64 v29)), (A.v (Value.bool v30))], Blk.box [(A.imm (List.map (cL c8) v31) false), (A.imm (List.map c_S_Write v32) false), (A.v (Value.int .i64 v33)), (A.v (Value.bool v34))]])) kL (K (Sum.inr (()))) some) :
    ∀ (m : Nat) (v26 : Int), J φ (loopR (cx C) (evCall (cx C) (n+8)) (evCallY (cx C) (n+8)) (n+8) 14 0 0 2 kx kg kr kp m (St.mk [(2, (A.ptr 0 0)), (3, (A.ptr 1 0)), (4, (A.v (Value.bool v25))), (5, (A.v (Value.int .i64 v26)))] [Blk.box [(A.imm (List.map (cL c8) v27) false), (A.imm (List.map c_S_Write v28) false), (A.v (Value.int .i64 v29)), (A.v (Value.bool v30))], Blk.box [(A.imm (List.map (cL c8) v31) false), (A.imm (List.map c_S_Write v32) false), (A.v (Value.int .i64 v33)), (A.v (Value.bool v34))]])) kL (F14_14_0 n v25 v27 v28 v29 v30 v31 v32 v33 v34 m v26) K := by
  intro m
  induction m with
  | zero => intros; exact .nn
  | succ m ih =>
    intro v26
    refine .lp (e14_0 ..) ?_
    unfold F14_14_0
    refine .st (v := (A.ptr 0 0)) (by kernel_rfl) ?_
    refine .st (v := (A.imm (List.map (cL c8) v27) false)) (by kernel_rfl) ?_
    refine .st (v := (A.v (Value.int .i64 ((v27.length : Int))))) (len_imm (e := 35) (h1 := by kernel_rfl) ..) ?_
    refine .st (v := (A.v (Value.bool (decide (v26 < ((v27.length : Int))))))) (aBin_lss ..) ?_
    refine .biHN (fun hk35 => ?_) (fun hk35 => ?_)
    · refine .st (v := (A.ptr 0 0)) (by kernel_rfl) ?_
      refine .st (v := (A.imm (List.map (cL c8) v27) false)) (by kernel_rfl) ?_
      refine .bd (g := fun (y : (List UInt8)) => A.ip ((cL c8) y)) (idx_imm (e := 35) (es := 1) (h1 := by kernel_rfl) (h2 := by kernel_rfl) (h3 := fun _ => rfl) ..) fun y36 => ?_
      refine .st (v := (A.imm (List.map c8 y36) false)) (by kernel_rfl) ?_
      refine .st (v := (A.v (Value.string (bstr y36)))) (conv_bs (e := 5) (l := y36) (by kernel_rfl) (by kernel_rfl) (by kernel_rfl) (by kernel_rfl) (els_imm ..) rfl) ?_
      refine .st (v := (A.ptr 1 0)) (by kernel_rfl) ?_
      refine .st (v := (A.imm (List.map (cL c8) v31) false)) (by kernel_rfl) ?_
      refine .bd (g := fun (y : (List UInt8)) => A.ip ((cL c8) y)) (idx_imm (e := 35) (es := 1) (h1 := by kernel_rfl) (h2 := by kernel_rfl) (h3 := fun _ => rfl) ..) fun y37 => ?_
      refine .st (v := (A.imm (List.map c8 y37) false)) (by kernel_rfl) ?_
      refine .st (v := (A.v (Value.string (bstr y37)))) (conv_bs (e := 5) (l := y37) (by kernel_rfl) (by kernel_rfl) (by kernel_rfl) (by kernel_rfl) (els_imm ..) rfl) ?_
      refine .st (v := (A.v (Value.bool (!strEq (bstr y36) (bstr y37))))) (aBin_neq_s ..) ?_
      refine .biHN (fun hk38 => ?_) (fun hk38 => ?_)
      · exact .ex (x0 _ _ _ _)
      · refine .st (v := (A.v (Value.int .i64 (wr .i64 (v26 + 1))))) (aBin_add ..) ?_
        refine .st (v := [Blk.box [(A.imm (List.map (cL c8) v27) false), (A.imm (List.map c_S_Write v28) false), (A.v (Value.int .i64 v29)), (A.v (Value.bool v30))], Blk.box [(A.imm (List.map (cL c8) v31) false), (A.imm (List.map c_S_Write v32) false), (A.v (Value.int .i64 v33)), (A.v (Value.bool v34))]]) (by kernel_rfl) ?_
        refine .cT (by kernel_rfl) ?_
        exact ih _
    · exact .ex (x1 _)

def F14_14_1 (n : Nat) (v45 : Bool) (v47 : (List (List UInt8))) (v48 : (List S_Write)) (v49 : Int) (v50 : Bool) (v51 : (List (List UInt8))) (v52 : (List S_Write)) (v53 : Int) (v54 : Bool) : Nat → Int → Option ((Bool) ⊕ (Unit))
  | 0, _ => none
  | m + 1, v46 => bif (decide (v46 < ((v48.length : Int)))) then (Option.bind (getI v48 v46) fun y56 => Option.bind (getI v52 v46) fun y57 => bif (y56.At != y57.At) then (Option.bind (some true) fun y64 => bif y64 then (some ((Sum.inl false))) else (F14_14_1 n v45 v47 v48 v49 v50 v51 v52 v53 v54 m (wr .i64 (v46 + 1)))) else (Option.bind (getI v48 v46) fun y59 => Option.bind (getI v52 v46) fun y60 => Option.bind (some (!strEq (bstr y59.Data) (bstr y60.Data))) fun y61 => bif y61 then (some ((Sum.inl false))) else (F14_14_1 n v45 v47 v48 v49 v50 v51 v52 v53 v54 m (wr .i64 (v46 + 1))))) else (some ((Sum.inr (()))))

theorem T14_14_1 (C : Nat → List A → Option A) (n : Nat) (v45 : Bool) (v47 : (List (List UInt8))) (v48 : (List S_Write)) (v49 : Int) (v50 : Bool) (v51 : (List (List UInt8))) (v52 : (List S_Write)) (v53 : Int) (v54 : Bool) {ρ γ : Type} {φ : ρ → γ → Prop} {kL : R → Option ρ} {K : ((Bool) ⊕ (Unit)) → Option γ} (kx kg : Nat → St → Option R) (kr : St → Option R) (kp : A → St → Option R) (x0 : ∀ (o0 : Bool) (s2 : A) (s3 : A) (s6 : A), J φ (kr (St.mk [(2, s2), (3, s3), (4, (A.v (Value.bool o0))), (6, s6)] [Blk.box [(A.imm (List.map (cL c8) v47) false), (A.imm (List.map c_S_Write v48) false), (A.v (Value.int .i64 v49)), (A.v (Value.bool v50))], Blk.box [(A.imm (List.map (cL c8) v51) false), (A.imm (List.map c_S_Write v52) false), (A.v (Value.int .i64 v53)), (A.v (Value.bool v54))]])) kL (K (Sum.inl o0)) some) (x1 : ∀ (s2 : A) (s3 : A) (s4 : A) (s6 : A), J φ (kx 2 (St.mk [(2, s2), (3, s3), (4, s4), (6, s6)] [Blk.box [(A.imm (List.map (cL c8) v47) false), (A.imm (List.map c_S_Write v48) false), (A.v (Value.int .i64 v49)), (A.v (Value.bool v50))], Blk.box [(A.imm (List.map (cL c8) v51) false), (A.imm (List.map c_S_Write v52) false), (A.v (Value.int .i64 v53)), (A.v (Value.bool v54))]])) kL (K (Sum.inr (()))) some) :
    ∀ (m : Nat) (v46 : Int), J φ (loopR (cx C) (evCall (cx C) (n+8)) (evCallY (cx C) (n+8)) (n+8) 14 0 1 2 kx kg kr kp m (St.mk [(2, (A.ptr 0 0)), (3, (A.ptr 1 0)), (4, (A.v (Value.bool v45))), (6, (A.v (Value.int .i64 v46)))] [Blk.box [(A.imm (List.map (cL c8) v47) false), (A.imm (List.map c_S_Write v48) false), (A.v (Value.int .i64 v49)), (A.v (Value.bool v50))], Blk.box [(A.imm (List.map (cL c8) v51) false), (A.imm (List.map c_S_Write v52) false), (A.v (Value.int .i64 v53)), (A.v (Value.bool v54))]])) kL (F14_14_1 n v45 v47 v48 v49 v50 v51 v52 v53 v54 m v46) K := by
  intro m
  induction m with
  | zero => intros; exact .nn
  | succ m ih =>
    intro v46
    refine .lp (e14_1 ..) ?_
    unfold F14_14_1
    refine .st (v := (A.ptr 0 1)) (by kernel_rfl) ?_
    refine .st (v := (A.imm (List.map c_S_Write v48) false)) (by kernel_rfl) ?_
    refine .st (v := (A.v (Value.int .i64 ((v48.length : Int))))) (len_imm (e := 54) (h1 := by kernel_rfl) ..) ?_
    refine .st (v := (A.v (Value.bool (decide (v46 < ((v48.length : Int))))))) (aBin_lss ..) ?_
    refine .biHN (fun hk55 => ?_) (fun hk55 => ?_)
    · refine .st (v := (A.ptr 0 1)) (by kernel_rfl) ?_
      refine .st (v := (A.imm (List.map c_S_Write v48) false)) (by kernel_rfl) ?_
      refine .bd (g := fun (y : S_Write) => A.ip (c_S_Write y)) (idx_imm (e := 54) (es := 2) (h1 := by kernel_rfl) (h2 := by kernel_rfl) (h3 := fun _ => rfl) ..) fun y56 => ?_
      refine .st (v := (A.ip [(A.v (Value.int .i64 y56.At)), (A.imm (List.map c8 y56.Data) false)])) (by kernel_rfl) ?_
      refine .st (v := (A.v (Value.int .i64 y56.At))) (by kernel_rfl) ?_
      refine .st (v := (A.ptr 1 1)) (by kernel_rfl) ?_
      refine .st (v := (A.imm (List.map c_S_Write v52) false)) (by kernel_rfl) ?_
      refine .bd (g := fun (y : S_Write) => A.ip (c_S_Write y)) (idx_imm (e := 54) (es := 2) (h1 := by kernel_rfl) (h2 := by kernel_rfl) (h3 := fun _ => rfl) ..) fun y57 => ?_
      refine .st (v := (A.ip [(A.v (Value.int .i64 y57.At)), (A.imm (List.map c8 y57.Data) false)])) (by kernel_rfl) ?_
      refine .st (v := (A.v (Value.int .i64 y57.At))) (by kernel_rfl) ?_
      refine .st (v := (A.v (Value.bool (y56.At != y57.At)))) (aBin_neq ..) ?_
      refine .gsf (fun hc58 => ?_) (fun hc58 => ?_)
      · refine .bb ?_
        refine .st (v := (A.ptr 0 1)) (by kernel_rfl) ?_
        refine .st (v := (A.imm (List.map c_S_Write v48) false)) (by kernel_rfl) ?_
        refine .bd (g := fun (y : S_Write) => A.ip (c_S_Write y)) (idx_imm (e := 54) (es := 2) (h1 := by kernel_rfl) (h2 := by kernel_rfl) (h3 := fun _ => rfl) ..) fun y59 => ?_
        refine .st (v := (A.ip [(A.imm (List.map c8 y59.Data) false)])) (by kernel_rfl) ?_
        refine .st (v := (A.imm (List.map c8 y59.Data) false)) (by kernel_rfl) ?_
        refine .st (v := (A.v (Value.string (bstr y59.Data)))) (conv_bs (e := 5) (l := y59.Data) (by kernel_rfl) (by kernel_rfl) (by kernel_rfl) (by kernel_rfl) (els_imm ..) rfl) ?_
        refine .st (v := (A.ptr 1 1)) (by kernel_rfl) ?_
        refine .st (v := (A.imm (List.map c_S_Write v52) false)) (by kernel_rfl) ?_
        refine .bd (g := fun (y : S_Write) => A.ip (c_S_Write y)) (idx_imm (e := 54) (es := 2) (h1 := by kernel_rfl) (h2 := by kernel_rfl) (h3 := fun _ => rfl) ..) fun y60 => ?_
        refine .st (v := (A.ip [(A.imm (List.map c8 y60.Data) false)])) (by kernel_rfl) ?_
        refine .st (v := (A.imm (List.map c8 y60.Data) false)) (by kernel_rfl) ?_
        refine .st (v := (A.v (Value.string (bstr y60.Data)))) (conv_bs (e := 5) (l := y60.Data) (by kernel_rfl) (by kernel_rfl) (by kernel_rfl) (by kernel_rfl) (els_imm ..) rfl) ?_
        refine .cr ?_
        iterate 14 refine .uc ?_
        refine .bg (fun t (y : Bool) => ∃ j62 : A, t = [(A.v (Value.bool y)), j62]) ?_ ?_
        · refine .bKF hc58 ?_
          refine .st (v := (A.v (Value.bool (!strEq (bstr y59.Data) (bstr y60.Data))))) (aBin_neq_s ..) ?_
          exact .lg ⟨_, rfl⟩
        rintro _ y61 ⟨j62, rfl⟩
        iterate 2 refine .uc ?_
        refine .biHN (fun hk63 => ?_) (fun hk63 => ?_)
        · exact .ex (x0 _ _ _ _)
        · refine .st (v := (A.v (Value.int .i64 (wr .i64 (v46 + 1))))) (aBin_add ..) ?_
          refine .st (v := [Blk.box [(A.imm (List.map (cL c8) v47) false), (A.imm (List.map c_S_Write v48) false), (A.v (Value.int .i64 v49)), (A.v (Value.bool v50))], Blk.box [(A.imm (List.map (cL c8) v51) false), (A.imm (List.map c_S_Write v52) false), (A.v (Value.int .i64 v53)), (A.v (Value.bool v54))]]) (by kernel_rfl) ?_
          refine .cT (by kernel_rfl) ?_
          exact ih _
      · refine .bb ?_
        refine .cr ?_
        iterate 14 refine .uc ?_
        refine .bg (fun t (y : Bool) => ∃ j65 : A, t = [(A.v (Value.bool y)), j65]) ?_ ?_
        · refine .bKT hc58 ?_
          exact .lg ⟨_, rfl⟩
        rintro _ y64 ⟨j65, rfl⟩
        iterate 2 refine .uc ?_
        refine .biHN (fun hk66 => ?_) (fun hk66 => ?_)
        · exact .ex (x0 _ _ _ _)
        · refine .st (v := (A.v (Value.int .i64 (wr .i64 (v46 + 1))))) (aBin_add ..) ?_
          refine .st (v := [Blk.box [(A.imm (List.map (cL c8) v47) false), (A.imm (List.map c_S_Write v48) false), (A.v (Value.int .i64 v49)), (A.v (Value.bool v50))], Blk.box [(A.imm (List.map (cL c8) v51) false), (A.imm (List.map c_S_Write v52) false), (A.v (Value.int .i64 v53)), (A.v (Value.bool v54))]]) (by kernel_rfl) ?_
          refine .cT (by kernel_rfl) ?_
          exact ih _
    · exact .ex (x1 _ _ _ _)

def F14 (n : Nat) (a0 : S_Disk) (a1 : S_Disk) : Option Bool :=
  Option.bind (bif (((a0.Sectors.length : Int)) != ((a1.Sectors.length : Int))) then (some true) else (some (((a0.Pending.length : Int)) != ((a1.Pending.length : Int))))) fun y2 => Option.bind (bif y2 then (some true) else (some (a0.Left != a1.Left))) fun y11 => Option.bind (bif y11 then (some true) else (some (a0.Stopped != a1.Stopped))) fun y18 => bif y18 then (some false) else (Option.bind (F14_14_0 n false a0.Sectors a0.Pending a0.Left a0.Stopped a1.Sectors a1.Pending a1.Left a1.Stopped (n+8) 0) fun o39 => match o39 with | (Sum.inl y40) => some y40 | (Sum.inr _) => Option.bind (F14_14_1 n false a0.Sectors a0.Pending a0.Left a0.Stopped a1.Sectors a1.Pending a1.Left a1.Stopped (n+8) 0) fun o67 => match o67 with | (Sum.inl y68) => some y68 | (Sum.inr _) => some true)

theorem T14 (C : Nat → List A → Option A) (n : Nat) (a0 : S_Disk) (a1 : S_Disk) : J (fun (o : R) y => ∃ v, o.1 = .ret v ∧ snapE o.2 v = (A.v (Value.bool y))) (evCall1 (cx C) (evCall (cx C) (n+8)) (evCallY (cx C) (n+8)) (n+8) 14 [(A.agg [(A.imm (List.map (cL c8) a0.Sectors) false), (A.imm (List.map c_S_Write a0.Pending) false), (A.v (Value.int .i64 a0.Left)), (A.v (Value.bool a0.Stopped))]), (A.agg [(A.imm (List.map (cL c8) a1.Sectors) false), (A.imm (List.map c_S_Write a1.Pending) false), (A.v (Value.int .i64 a1.Left)), (A.v (Value.bool a1.Stopped))])] [] 0) some (F14 n a0 a1) some := by
  refine .lp (e14 ..) ?_
  unfold F14
  refine .st (v := ((A.ptr 0 0), [Blk.box [(A.imm (List.map (cL c8) a0.Sectors) false), (A.imm (List.map c_S_Write a0.Pending) false), (A.v (Value.int .i64 a0.Left)), (A.v (Value.bool a0.Stopped))]])) (by kernel_rfl) ?_
  refine .st (v := ((A.ptr 1 0), [Blk.box [(A.imm (List.map (cL c8) a0.Sectors) false), (A.imm (List.map c_S_Write a0.Pending) false), (A.v (Value.int .i64 a0.Left)), (A.v (Value.bool a0.Stopped))], Blk.box [(A.imm (List.map (cL c8) a1.Sectors) false), (A.imm (List.map c_S_Write a1.Pending) false), (A.v (Value.int .i64 a1.Left)), (A.v (Value.bool a1.Stopped))]])) (by kernel_rfl) ?_
  refine .st (v := (A.ptr 0 0)) (by kernel_rfl) ?_
  refine .st (v := (A.imm (List.map (cL c8) a0.Sectors) false)) (by kernel_rfl) ?_
  refine .st (v := (A.v (Value.int .i64 ((a0.Sectors.length : Int))))) (len_imm (e := 35) (h1 := by kernel_rfl) ..) ?_
  refine .st (v := (A.ptr 1 0)) (by kernel_rfl) ?_
  refine .st (v := (A.imm (List.map (cL c8) a1.Sectors) false)) (by kernel_rfl) ?_
  refine .st (v := (A.v (Value.int .i64 ((a1.Sectors.length : Int))))) (len_imm (e := 35) (h1 := by kernel_rfl) ..) ?_
  refine .st (v := (A.v (Value.bool (((a0.Sectors.length : Int)) != ((a1.Sectors.length : Int)))))) (aBin_neq ..) ?_
  refine .bg (fun t (y : Bool) => ∃ j3 j4 j5 j6 j7 j8 j9 : A, t = [(A.v (Value.bool y)), j3, j4, j5, j6, j7, j8, j9]) ?_ ?_
  · refine .biH (fun hk1 => ?_) (fun hk1 => ?_)
    · exact .lg ⟨_, _, _, _, _, _, _, rfl⟩
    · refine .st (v := (A.ptr 0 1)) (by kernel_rfl) ?_
      refine .st (v := (A.imm (List.map c_S_Write a0.Pending) false)) (by kernel_rfl) ?_
      refine .st (v := (A.v (Value.int .i64 ((a0.Pending.length : Int))))) (len_imm (e := 54) (h1 := by kernel_rfl) ..) ?_
      refine .st (v := (A.ptr 1 1)) (by kernel_rfl) ?_
      refine .st (v := (A.imm (List.map c_S_Write a1.Pending) false)) (by kernel_rfl) ?_
      refine .st (v := (A.v (Value.int .i64 ((a1.Pending.length : Int))))) (len_imm (e := 54) (h1 := by kernel_rfl) ..) ?_
      refine .st (v := (A.v (Value.bool (((a0.Pending.length : Int)) != ((a1.Pending.length : Int)))))) (aBin_neq ..) ?_
      exact .lg ⟨_, _, _, _, _, _, _, rfl⟩
  rintro _ y2 ⟨j3, j4, j5, j6, j7, j8, j9, rfl⟩
  iterate 8 refine .uc ?_
  refine .bg (fun t (y : Bool) => ∃ j12 j13 j14 j15 j16 : A, t = [(A.v (Value.bool y)), j12, j13, j14, j15, j16]) ?_ ?_
  · refine .biH (fun hk10 => ?_) (fun hk10 => ?_)
    · exact .lg ⟨_, _, _, _, _, rfl⟩
    · refine .st (v := (A.ptr 0 2)) (by kernel_rfl) ?_
      refine .st (v := (A.v (Value.int .i64 a0.Left))) (by kernel_rfl) ?_
      refine .st (v := (A.ptr 1 2)) (by kernel_rfl) ?_
      refine .st (v := (A.v (Value.int .i64 a1.Left))) (by kernel_rfl) ?_
      refine .st (v := (A.v (Value.bool (a0.Left != a1.Left)))) (aBin_neq ..) ?_
      exact .lg ⟨_, _, _, _, _, rfl⟩
  rintro _ y11 ⟨j12, j13, j14, j15, j16, rfl⟩
  iterate 6 refine .uc ?_
  refine .bg (fun t (y : Bool) => ∃ j19 j20 j21 j22 j23 : A, t = [(A.v (Value.bool y)), j19, j20, j21, j22, j23]) ?_ ?_
  · refine .biH (fun hk17 => ?_) (fun hk17 => ?_)
    · exact .lg ⟨_, _, _, _, _, rfl⟩
    · refine .st (v := (A.ptr 0 3)) (by kernel_rfl) ?_
      refine .st (v := (A.v (Value.bool a0.Stopped))) (by kernel_rfl) ?_
      refine .st (v := (A.ptr 1 3)) (by kernel_rfl) ?_
      refine .st (v := (A.v (Value.bool a1.Stopped))) (by kernel_rfl) ?_
      refine .st (v := (A.v (Value.bool (a0.Stopped != a1.Stopped)))) (by kernel_rfl) ?_
      exact .lg ⟨_, _, _, _, _, rfl⟩
  rintro _ y18 ⟨j19, j20, j21, j22, j23, rfl⟩
  iterate 6 refine .uc ?_
  refine .biHN (fun hk24 => ?_) (fun hk24 => ?_)
  · exact .lf rfl rfl ⟨_, rfl, rfl⟩
  · refine .as (T14_14_0 C n  false a0.Sectors a0.Pending a0.Left a0.Stopped a1.Sectors a1.Pending a1.Left a1.Stopped _ _ _ _ ?_ ?_ _ 0)
    · intro y40 j41 j42 j43
      refine .un rfl ?_
      exact .lf rfl rfl ⟨_, rfl, rfl⟩
    · intro j44
      refine .un rfl ?_
      refine .cT (by kernel_rfl) ?_
      refine .as (T14_14_1 C n  false a0.Sectors a0.Pending a0.Left a0.Stopped a1.Sectors a1.Pending a1.Left a1.Stopped _ _ _ _ ?_ ?_ _ 0)
      · intro y68 j69 j70 j71
        refine .un rfl ?_
        exact .lf rfl rfl ⟨_, rfl, rfl⟩
      · intro j72 j73 j74 j75
        refine .un rfl ?_
        refine .cT (by kernel_rfl) ?_
        exact .lf rfl rfl ⟨_, rfl, rfl⟩

def G14 (a0 : S_Disk) (a1 : S_Disk) : Option Bool := F14 fuel0 a0 a1

def Orc14 (C : Nat → List A → Option A) : Prop := ∀ (a0 : S_Disk) (a1 : S_Disk), C 14 [(A.agg [(A.imm (List.map (cL c8) a0.Sectors) false), (A.imm (List.map c_S_Write a0.Pending) false), (A.v (Value.int .i64 a0.Left)), (A.v (Value.bool a0.Stopped))]), (A.agg [(A.imm (List.map (cL c8) a1.Sectors) false), (A.imm (List.map c_S_Write a1.Pending) false), (A.v (Value.int .i64 a1.Left)), (A.v (Value.bool a1.Stopped))])] = (G14 a0 a1).map fun y => (A.v (Value.bool y))

def F16_16_0 (n : Nat) (v22 : Int) (v23 : Int) (v25 : (List (List UInt8))) (v26 : (List S_Write)) (v27 : Int) (v28 : Bool) : Nat → Int → Option ((Int) ⊕ (Unit))
  | 0, _ => none
  | m + 1, v24 => bif (decide (v24 < v23)) then (Option.bind (getI v25 v24) fun y30 => bif (((y30.length : Int)) != 128) then (some ((Sum.inl 40))) else (F16_16_0 n v22 v23 v25 v26 v27 v28 m (wr .i64 (v24 + 1)))) else (some ((Sum.inr (()))))

theorem T16_16_0 (C : Nat → List A → Option A) (n : Nat) (v22 : Int) (v23 : Int) (v25 : (List (List UInt8))) (v26 : (List S_Write)) (v27 : Int) (v28 : Bool) {ρ γ : Type} {φ : ρ → γ → Prop} {kL : R → Option ρ} {K : ((Int) ⊕ (Unit)) → Option γ} (kx kg : Nat → St → Option R) (kr : St → Option R) (kp : A → St → Option R) (x0 : ∀ (o0 : Int) (s1 : A) (s3 : A) (s4 : A), J φ (kr (St.mk [(1, s1), (2, (A.v (Value.int .i64 o0))), (3, s3), (4, s4)] [Blk.box [(A.imm (List.map (cL c8) v25) false), (A.imm (List.map c_S_Write v26) false), (A.v (Value.int .i64 v27)), (A.v (Value.bool v28))]])) kL (K (Sum.inl o0)) some) (x1 : ∀ (s4 : A), J φ (kx 0 (St.mk [(1, (A.ptr 0 0)), (2, (A.v (Value.int .i64 v22))), (3, (A.v (Value.int .i64 v23))), (4, s4)] [Blk.box [(A.imm (List.map (cL c8) v25) false), (A.imm (List.map c_S_Write v26) false), (A.v (Value.int .i64 v27)), (A.v (Value.bool v28))]])) kL (K (Sum.inr (()))) some) :
    ∀ (m : Nat) (v24 : Int), J φ (loopR (cx C) (evCall (cx C) (n+8)) (evCallY (cx C) (n+8)) (n+8) 16 0 0 1 kx kg kr kp m (St.mk [(1, (A.ptr 0 0)), (2, (A.v (Value.int .i64 v22))), (3, (A.v (Value.int .i64 v23))), (4, (A.v (Value.int .i64 v24)))] [Blk.box [(A.imm (List.map (cL c8) v25) false), (A.imm (List.map c_S_Write v26) false), (A.v (Value.int .i64 v27)), (A.v (Value.bool v28))]])) kL (F16_16_0 n v22 v23 v25 v26 v27 v28 m v24) K := by
  intro m
  induction m with
  | zero => intros; exact .nn
  | succ m ih =>
    intro v24
    refine .lp (e16_0 ..) ?_
    unfold F16_16_0
    refine .st (v := (A.v (Value.bool (decide (v24 < v23))))) (aBin_lss ..) ?_
    refine .biHN (fun hk29 => ?_) (fun hk29 => ?_)
    · refine .st (v := (A.ptr 0 0)) (by kernel_rfl) ?_
      refine .st (v := (A.imm (List.map (cL c8) v25) false)) (by kernel_rfl) ?_
      refine .bd (g := fun (y : (List UInt8)) => A.ip ((cL c8) y)) (idx_imm (e := 35) (es := 1) (h1 := by kernel_rfl) (h2 := by kernel_rfl) (h3 := fun _ => rfl) ..) fun y30 => ?_
      refine .st (v := (A.imm (List.map c8 y30) false)) (by kernel_rfl) ?_
      refine .st (v := (A.v (Value.int .i64 ((y30.length : Int))))) (len_imm (e := 5) (h1 := by kernel_rfl) ..) ?_
      refine .st (v := (A.v (Value.bool (((y30.length : Int)) != 128)))) (aBin_neq ..) ?_
      refine .biHN (fun hk31 => ?_) (fun hk31 => ?_)
      · exact .ex (x0 _ _ _ _)
      · refine .st (v := (A.v (Value.int .i64 (wr .i64 (v24 + 1))))) (aBin_add ..) ?_
        refine .st (v := [Blk.box [(A.imm (List.map (cL c8) v25) false), (A.imm (List.map c_S_Write v26) false), (A.v (Value.int .i64 v27)), (A.v (Value.bool v28))]]) (by kernel_rfl) ?_
        refine .cT (by kernel_rfl) ?_
        exact ih _
    · exact .ex (x1 _)

def F16_16_1 (n : Nat) (v38 : Int) (v39 : Int) (v41 : (List (List UInt8))) (v42 : (List S_Write)) (v43 : Int) (v44 : Bool) : Nat → Int → Option ((Int × Int × (List UInt8)) ⊕ (Unit))
  | 0, _ => none
  | m + 1, v40 => bif (decide (v40 < ((v42.length : Int)))) then (Option.bind (getI v42 v40) fun y46 => Option.bind (bif (decide (y46.At < 0)) then (some true) else (some (decide (v39 ≤ y46.At)))) fun y48 => Option.bind (bif y48 then (some true) else (some (((y46.Data.length : Int)) != 128))) fun y54 => bif y54 then (some ((Sum.inl ((40, y46.At, y46.Data))))) else (F16_16_1 n v38 v39 v41 v42 v43 v44 m (wr .i64 (v40 + 1)))) else (some ((Sum.inr (()))))

theorem T16_16_1 (C : Nat → List A → Option A) (n : Nat) (v38 : Int) (v39 : Int) (v41 : (List (List UInt8))) (v42 : (List S_Write)) (v43 : Int) (v44 : Bool) {ρ γ : Type} {φ : ρ → γ → Prop} {kL : R → Option ρ} {K : ((Int × Int × (List UInt8)) ⊕ (Unit)) → Option γ} (kx kg : Nat → St → Option R) (kr : St → Option R) (kp : A → St → Option R) (x0 : ∀ (o0 : Int) (o1 : Int) (o2 : (List UInt8)) (s1 : A) (s3 : A) (s5 : A), J φ (kr (St.mk [(1, s1), (2, (A.v (Value.int .i64 o0))), (3, s3), (5, s5)] [Blk.box [(A.imm (List.map (cL c8) v41) false), (A.imm (List.map c_S_Write v42) false), (A.v (Value.int .i64 v43)), (A.v (Value.bool v44))], Blk.box [(A.v (Value.int .i64 o1)), (A.imm (List.map c8 o2) false)]])) kL (K (Sum.inl ((o0, o1, o2)))) some) (x1 : ∀ (s1 : A) (s2 : A) (s3 : A) (s5 : A), J φ (kx 2 (St.mk [(1, s1), (2, s2), (3, s3), (5, s5)] [Blk.box [(A.imm (List.map (cL c8) v41) false), (A.imm (List.map c_S_Write v42) false), (A.v (Value.int .i64 v43)), (A.v (Value.bool v44))]])) kL (K (Sum.inr (()))) some) :
    ∀ (m : Nat) (v40 : Int), J φ (loopR (cx C) (evCall (cx C) (n+8)) (evCallY (cx C) (n+8)) (n+8) 16 0 1 1 kx kg kr kp m (St.mk [(1, (A.ptr 0 0)), (2, (A.v (Value.int .i64 v38))), (3, (A.v (Value.int .i64 v39))), (5, (A.v (Value.int .i64 v40)))] [Blk.box [(A.imm (List.map (cL c8) v41) false), (A.imm (List.map c_S_Write v42) false), (A.v (Value.int .i64 v43)), (A.v (Value.bool v44))]])) kL (F16_16_1 n v38 v39 v41 v42 v43 v44 m v40) K := by
  intro m
  induction m with
  | zero => intros; exact .nn
  | succ m ih =>
    intro v40
    refine .lp (e16_1 ..) ?_
    unfold F16_16_1
    refine .st (v := (A.ptr 0 1)) (by kernel_rfl) ?_
    refine .st (v := (A.imm (List.map c_S_Write v42) false)) (by kernel_rfl) ?_
    refine .st (v := (A.v (Value.int .i64 ((v42.length : Int))))) (len_imm (e := 54) (h1 := by kernel_rfl) ..) ?_
    refine .st (v := (A.v (Value.bool (decide (v40 < ((v42.length : Int))))))) (aBin_lss ..) ?_
    refine .biHN (fun hk45 => ?_) (fun hk45 => ?_)
    · refine .st (v := (A.ptr 0 1)) (by kernel_rfl) ?_
      refine .st (v := (A.imm (List.map c_S_Write v42) false)) (by kernel_rfl) ?_
      refine .bd (g := fun (y : S_Write) => A.ip (c_S_Write y)) (idx_imm (e := 54) (es := 2) (h1 := by kernel_rfl) (h2 := by kernel_rfl) (h3 := fun _ => rfl) ..) fun y46 => ?_
      refine .st (v := (A.agg [(A.v (Value.int .i64 y46.At)), (A.imm (List.map c8 y46.Data) false)])) (by kernel_rfl) ?_
      refine .st (v := ((A.ptr 1 0), [Blk.box [(A.imm (List.map (cL c8) v41) false), (A.imm (List.map c_S_Write v42) false), (A.v (Value.int .i64 v43)), (A.v (Value.bool v44))], Blk.box [(A.v (Value.int .i64 0)), (A.imm [] true)]])) (by kernel_rfl) ?_
      refine .st (v := [Blk.box [(A.imm (List.map (cL c8) v41) false), (A.imm (List.map c_S_Write v42) false), (A.v (Value.int .i64 v43)), (A.v (Value.bool v44))], Blk.box [(A.v (Value.int .i64 y46.At)), (A.imm (List.map c8 y46.Data) false)]]) (by kernel_rfl) ?_
      refine .st (v := (A.ptr 1 0)) (by kernel_rfl) ?_
      refine .st (v := (A.v (Value.int .i64 y46.At))) (by kernel_rfl) ?_
      refine .st (v := (A.v (Value.bool (decide (y46.At < 0))))) (aBin_lss ..) ?_
      refine .bg (fun t (y : Bool) => ∃ j49 j50 j51 j52 : A, t = [(A.v (Value.bool y)), j49, j50, j51, j52]) ?_ ?_
      · refine .biH (fun hk47 => ?_) (fun hk47 => ?_)
        · exact .lg ⟨_, _, _, _, rfl⟩
        · refine .st (v := (A.ptr 1 0)) (by kernel_rfl) ?_
          refine .st (v := (A.v (Value.int .i64 y46.At))) (by kernel_rfl) ?_
          refine .st (v := (A.v (Value.bool (decide (v39 ≤ y46.At))))) (aBin_geq ..) ?_
          exact .lg ⟨_, _, _, _, rfl⟩
      rintro _ y48 ⟨j49, j50, j51, j52, rfl⟩
      iterate 5 refine .uc ?_
      refine .bg (fun t (y : Bool) => ∃ j55 j56 j57 j58 : A, t = [(A.v (Value.bool y)), j55, j56, j57, j58]) ?_ ?_
      · refine .biH (fun hk53 => ?_) (fun hk53 => ?_)
        · exact .lg ⟨_, _, _, _, rfl⟩
        · refine .st (v := (A.ptr 1 1)) (by kernel_rfl) ?_
          refine .st (v := (A.imm (List.map c8 y46.Data) false)) (by kernel_rfl) ?_
          refine .st (v := (A.v (Value.int .i64 ((y46.Data.length : Int))))) (len_imm (e := 5) (h1 := by kernel_rfl) ..) ?_
          refine .st (v := (A.v (Value.bool (((y46.Data.length : Int)) != 128)))) (aBin_neq ..) ?_
          exact .lg ⟨_, _, _, _, rfl⟩
      rintro _ y54 ⟨j55, j56, j57, j58, rfl⟩
      iterate 5 refine .uc ?_
      refine .biHN (fun hk59 => ?_) (fun hk59 => ?_)
      · exact .ex (x0 _ _ _ _ _ _)
      · refine .st (v := (A.v (Value.int .i64 (wr .i64 (v40 + 1))))) (aBin_add ..) ?_
        refine .st (v := [Blk.box [(A.imm (List.map (cL c8) v41) false), (A.imm (List.map c_S_Write v42) false), (A.v (Value.int .i64 v43)), (A.v (Value.bool v44))]]) ((by kernel_rfl : _ = (bif ((((underss 1 (List.map (cL c8) v41)) && ((underss 1 (List.map c_S_Write v42)) && true))) && true) then some [Blk.box [(A.imm (List.map (cL c8) v41) false), (A.imm (List.map c_S_Write v42) false), (A.v (Value.int .i64 v43)), (A.v (Value.bool v44))]] else none)).trans (by simp only [underss_map, fu_cI, fu_c8, fu_cB, fu_cS, fu_cL, fu_S_Write, fu_S_Disk,  Bool.and_true, Bool.true_and, cond_true])) ?_
        refine .cT (by kernel_rfl) ?_
        exact ih _
    · exact .ex (x1 _ _ _ _)

def F16 (n : Nat) (a0 : S_Disk) : Option Int :=
  Option.bind (bif (decide (((a0.Sectors.length : Int)) < 1)) then (some true) else (some (decide (4096 < ((a0.Sectors.length : Int)))))) fun y2 => Option.bind (bif y2 then (some true) else (some (decide (4096 < ((a0.Pending.length : Int)))))) fun y6 => Option.bind (bif y6 then (some true) else (some (decide (a0.Left < (-1))))) fun y12 => Option.bind (bif y12 then (some true) else (some (decide (65536 < a0.Left)))) fun y17 => bif y17 then (some 40) else (Option.bind (F16_16_0 n 0 ((a0.Sectors.length : Int)) a0.Sectors a0.Pending a0.Left a0.Stopped (n+8) 0) fun o32 => match o32 with | (Sum.inl y33) => some y33 | (Sum.inr _) => Option.bind (F16_16_1 n 0 ((a0.Sectors.length : Int)) a0.Sectors a0.Pending a0.Left a0.Stopped (n+8) 0) fun o60 => match o60 with | (Sum.inl ((y61, y62, y63))) => some y61 | (Sum.inr _) => some 0)

theorem T16 (C : Nat → List A → Option A) (n : Nat) (a0 : S_Disk) : J (fun (o : R) y => ∃ v, o.1 = .ret v ∧ snapE o.2 v = (A.v (Value.int .i64 y))) (evCall1 (cx C) (evCall (cx C) (n+8)) (evCallY (cx C) (n+8)) (n+8) 16 [(A.agg [(A.imm (List.map (cL c8) a0.Sectors) false), (A.imm (List.map c_S_Write a0.Pending) false), (A.v (Value.int .i64 a0.Left)), (A.v (Value.bool a0.Stopped))])] [] 0) some (F16 n a0) some := by
  refine .lp (e16 ..) ?_
  unfold F16
  refine .st (v := ((A.ptr 0 0), [Blk.box [(A.imm (List.map (cL c8) a0.Sectors) false), (A.imm (List.map c_S_Write a0.Pending) false), (A.v (Value.int .i64 a0.Left)), (A.v (Value.bool a0.Stopped))]])) (by kernel_rfl) ?_
  refine .st (v := (A.ptr 0 0)) (by kernel_rfl) ?_
  refine .st (v := (A.imm (List.map (cL c8) a0.Sectors) false)) (by kernel_rfl) ?_
  refine .st (v := (A.v (Value.int .i64 ((a0.Sectors.length : Int))))) (len_imm (e := 35) (h1 := by kernel_rfl) ..) ?_
  refine .st (v := (A.v (Value.bool (decide (((a0.Sectors.length : Int)) < 1))))) (aBin_lss ..) ?_
  refine .bg (fun t (y : Bool) => ∃ j3 j4 : A, t = [(A.v (Value.bool y)), j3, j4]) ?_ ?_
  · refine .biH (fun hk1 => ?_) (fun hk1 => ?_)
    · exact .lg ⟨_, _, rfl⟩
    · refine .st (v := (A.v (Value.bool (decide (4096 < ((a0.Sectors.length : Int))))))) (aBin_gtr ..) ?_
      exact .lg ⟨_, _, rfl⟩
  rintro _ y2 ⟨j3, j4, rfl⟩
  iterate 3 refine .uc ?_
  refine .bg (fun t (y : Bool) => ∃ j7 j8 j9 j10 : A, t = [(A.v (Value.bool y)), j7, j8, j9, j10]) ?_ ?_
  · refine .biH (fun hk5 => ?_) (fun hk5 => ?_)
    · exact .lg ⟨_, _, _, _, rfl⟩
    · refine .st (v := (A.ptr 0 1)) (by kernel_rfl) ?_
      refine .st (v := (A.imm (List.map c_S_Write a0.Pending) false)) (by kernel_rfl) ?_
      refine .st (v := (A.v (Value.int .i64 ((a0.Pending.length : Int))))) (len_imm (e := 54) (h1 := by kernel_rfl) ..) ?_
      refine .st (v := (A.v (Value.bool (decide (4096 < ((a0.Pending.length : Int))))))) (aBin_gtr ..) ?_
      exact .lg ⟨_, _, _, _, rfl⟩
  rintro _ y6 ⟨j7, j8, j9, j10, rfl⟩
  iterate 5 refine .uc ?_
  refine .bg (fun t (y : Bool) => ∃ j13 j14 j15 : A, t = [(A.v (Value.bool y)), j13, j14, j15]) ?_ ?_
  · refine .biH (fun hk11 => ?_) (fun hk11 => ?_)
    · exact .lg ⟨_, _, _, rfl⟩
    · refine .st (v := (A.ptr 0 2)) (by kernel_rfl) ?_
      refine .st (v := (A.v (Value.int .i64 a0.Left))) (by kernel_rfl) ?_
      refine .st (v := (A.v (Value.bool (decide (a0.Left < (-1)))))) (aBin_lss ..) ?_
      exact .lg ⟨_, _, _, rfl⟩
  rintro _ y12 ⟨j13, j14, j15, rfl⟩
  iterate 4 refine .uc ?_
  refine .bg (fun t (y : Bool) => ∃ j18 j19 j20 : A, t = [(A.v (Value.bool y)), j18, j19, j20]) ?_ ?_
  · refine .biH (fun hk16 => ?_) (fun hk16 => ?_)
    · exact .lg ⟨_, _, _, rfl⟩
    · refine .st (v := (A.ptr 0 2)) (by kernel_rfl) ?_
      refine .st (v := (A.v (Value.int .i64 a0.Left))) (by kernel_rfl) ?_
      refine .st (v := (A.v (Value.bool (decide (65536 < a0.Left))))) (aBin_gtr ..) ?_
      exact .lg ⟨_, _, _, rfl⟩
  rintro _ y17 ⟨j18, j19, j20, rfl⟩
  iterate 4 refine .uc ?_
  refine .biHN (fun hk21 => ?_) (fun hk21 => ?_)
  · exact .lf rfl rfl ⟨_, rfl, rfl⟩
  · refine .as (T16_16_0 C n  0 ((a0.Sectors.length : Int)) a0.Sectors a0.Pending a0.Left a0.Stopped _ _ _ _ ?_ ?_ _ 0)
    · intro y33 j34 j35 j36
      refine .un rfl ?_
      exact .lf rfl rfl ⟨_, rfl, rfl⟩
    · intro j37
      refine .un rfl ?_
      refine .cT (by kernel_rfl) ?_
      refine .as (T16_16_1 C n  0 ((a0.Sectors.length : Int)) a0.Sectors a0.Pending a0.Left a0.Stopped _ _ _ _ ?_ ?_ _ 0)
      · intro y61 y62 y63 j64 j65 j66
        refine .un rfl ?_
        exact .lf rfl rfl ⟨_, rfl, rfl⟩
      · intro j67 j68 j69 j70
        refine .un rfl ?_
        refine .cT (by kernel_rfl) ?_
        exact .lf rfl rfl ⟨_, rfl, rfl⟩

def G16 (a0 : S_Disk) : Option Int := F16 fuel0 a0

def Orc16 (C : Nat → List A → Option A) : Prop := ∀ (a0 : S_Disk), C 16 [(A.agg [(A.imm (List.map (cL c8) a0.Sectors) false), (A.imm (List.map c_S_Write a0.Pending) false), (A.v (Value.int .i64 a0.Left)), (A.v (Value.bool a0.Stopped))])] = (G16 a0).map fun y => (A.v (Value.int .i64 y))

def F18 (n : Nat) (a0 : S_Disk) : Option S_Disk :=
  some ((S_Disk.mk a0.Sectors ([]) (-1) false))

theorem T18 (C : Nat → List A → Option A) (n : Nat) (a0 : S_Disk) : J (fun (o : R) y => ∃ v, o.1 = .ret v ∧ snapE o.2 v = (A.agg [(A.imm (List.map (cL c8) y.Sectors) false), (A.imm (List.map c_S_Write y.Pending) false), (A.v (Value.int .i64 y.Left)), (A.v (Value.bool y.Stopped))])) (evCall1 (cx C) (evCall (cx C) (n+8)) (evCallY (cx C) (n+8)) (n+8) 18 [(A.agg [(A.imm (List.map (cL c8) a0.Sectors) false), (A.imm (List.map c_S_Write a0.Pending) false), (A.v (Value.int .i64 a0.Left)), (A.v (Value.bool a0.Stopped))])] [] 0) some (F18 n a0) some := by
  refine .lp (e18 ..) ?_
  unfold F18
  refine .st (v := ((A.ptr 0 0), [Blk.box [(A.imm (List.map (cL c8) a0.Sectors) false), (A.imm (List.map c_S_Write a0.Pending) false), (A.v (Value.int .i64 a0.Left)), (A.v (Value.bool a0.Stopped))]])) (by kernel_rfl) ?_
  refine .st (v := ((A.ptr 1 0), [Blk.box [(A.imm (List.map (cL c8) a0.Sectors) false), (A.imm (List.map c_S_Write a0.Pending) false), (A.v (Value.int .i64 a0.Left)), (A.v (Value.bool a0.Stopped))], Blk.box [(A.imm [] true), (A.imm [] true), (A.v (Value.int .i64 0)), (A.v (Value.bool false))]])) (by kernel_rfl) ?_
  refine .st (v := (A.ptr 0 0)) (by kernel_rfl) ?_
  refine .st (v := (A.imm (List.map (cL c8) a0.Sectors) false)) (by kernel_rfl) ?_
  refine .st (v := (A.agg [(A.imm (List.map (cL c8) a0.Sectors) false), (A.imm [] true), (A.v (Value.int .i64 (-1))), (A.v (Value.bool false))])) (by kernel_rfl) ?_
  refine .st (v := [Blk.box [(A.imm (List.map (cL c8) a0.Sectors) false), (A.imm (List.map c_S_Write a0.Pending) false), (A.v (Value.int .i64 a0.Left)), (A.v (Value.bool a0.Stopped))], Blk.box [(A.imm (List.map (cL c8) a0.Sectors) false), (A.imm [] true), (A.v (Value.int .i64 (-1))), (A.v (Value.bool false))]]) (by kernel_rfl) ?_
  refine .st (v := (A.agg [(A.imm (List.map (cL c8) a0.Sectors) false), (A.imm [] true), (A.v (Value.int .i64 (-1))), (A.v (Value.bool false))])) (by kernel_rfl) ?_
  exact .lf rfl rfl ⟨_, rfl, by show snapE [Blk.box [(A.imm (List.map (cL c8) a0.Sectors) false), (A.imm (List.map c_S_Write a0.Pending) false), (A.v (Value.int .i64 a0.Left)), (A.v (Value.bool a0.Stopped))], Blk.box [(A.imm (List.map (cL c8) a0.Sectors) false), (A.imm [] true), (A.v (Value.int .i64 (-1))), (A.v (Value.bool false))]] (A.agg [(A.imm (List.map (cL c8) a0.Sectors) false), (A.imm [] true), (A.v (Value.int .i64 (-1))), (A.v (Value.bool false))]) = _; first | (simp only [snap, snapW, snapWs, snapWss, snapWss_map, trim, List.map_cons, List.map_nil, fl_cI, fl_c8, fl_cB, fl_cS, fl_cL, fl_S_Write, fl_S_Disk, snapE]; done) | (simp only [snap, snapW, snapWs, snapWss, snapWss_map, trim, fl_cI, fl_c8, fl_cB, fl_cS, fl_cL, fl_S_Write, fl_S_Disk, snapE]; done) | (simp only [snap, snapW, snapWs, snapWss, snapWss_map, trim, fl_cI, fl_c8, fl_cB, fl_cS, fl_cL, fl_S_Write, fl_S_Disk, snapE]; rfl)⟩

def G18 (a0 : S_Disk) : Option S_Disk := F18 fuel0 a0

def Orc18 (C : Nat → List A → Option A) : Prop := ∀ (a0 : S_Disk), C 18 [(A.agg [(A.imm (List.map (cL c8) a0.Sectors) false), (A.imm (List.map c_S_Write a0.Pending) false), (A.v (Value.int .i64 a0.Left)), (A.v (Value.bool a0.Stopped))])] = (G18 a0).map fun y => (A.agg [(A.imm (List.map (cL c8) y.Sectors) false), (A.imm (List.map c_S_Write y.Pending) false), (A.v (Value.int .i64 y.Left)), (A.v (Value.bool y.Stopped))])

def F3 (n : Nat) (a0 : Int) (a1 : S_Disk) : Option Bool :=
  Option.bind (G10 ) fun y1 => bif (!y1) then (some false) else (Option.bind (bif (decide (60 < a0)) then (some (decide (a0 ≤ 4096))) else (some false)) fun y4 => Option.bind (bif y4 then (some true) else (Option.bind (G11 a1) fun y8 => some (!y8))) fun y9 => bif y9 then (some true) else (Option.bind (G12 a0) fun y14 => Option.bind (G13 a0) fun y15 => Option.bind (G14 y14.1 y15.1) fun y16 => Option.bind (bif y16 then (some (y14.2 == y15.2)) else (some false)) fun y18 => Option.bind (bif y18 then (Option.bind (G15 a1) fun y23 => Option.bind (G16 a1) fun y24 => some (y23 == y24)) else (some false)) fun y25 => bif y25 then (Option.bind (G17 a1) fun y32 => Option.bind (Option.bind (G18 a1) fun y33 => Option.bind (G14 y32 y33) fun y34 => some y34) fun y35 => some y35) else (Option.bind (some false) fun y38 => some y38)))

theorem T3 (C : Nat → List A → Option A) (n : Nat) (h10 : Orc10 C) (h11 : Orc11 C) (h12 : Orc12 C) (h13 : Orc13 C) (h14 : Orc14 C) (h15 : Orc15 C) (h16 : Orc16 C) (h17 : Orc17 C) (h18 : Orc18 C) (a0 : Int) (a1 : S_Disk) : J (fun (o : R) y => ∃ v, o.1 = .ret v ∧ snapE o.2 v = (A.v (Value.bool y))) (evCall1 (cx C) (evCall (cx C) (n+8)) (evCallY (cx C) (n+8)) (n+8) 3 [(A.v (Value.int .i64 a0)), (A.agg [(A.imm (List.map (cL c8) a1.Sectors) false), (A.imm (List.map c_S_Write a1.Pending) false), (A.v (Value.int .i64 a1.Left)), (A.v (Value.bool a1.Stopped))])] [] 0) some (F3 n a0 a1) some := by
  refine .lp (e3 ..) ?_
  unfold F3
  refine .st (v := ((A.ptr 0 0), [Blk.box [(A.imm (List.map (cL c8) a1.Sectors) false), (A.imm (List.map c_S_Write a1.Pending) false), (A.v (Value.int .i64 a1.Left)), (A.v (Value.bool a1.Stopped))]])) (by kernel_rfl) ?_
  refine .bd (g := fun (y : Bool) => (A.v (Value.bool y))) (h10 ()) fun y1 => ?_
  refine .st (v := (A.v (Value.bool (!y1)))) (by kernel_rfl) ?_
  refine .biHN (fun hk2 => ?_) (fun hk2 => ?_)
  · exact .lf rfl rfl ⟨_, rfl, rfl⟩
  · refine .st (v := (A.v (Value.bool (decide (60 < a0))))) (aBin_gtr ..) ?_
    refine .bg (fun t (y : Bool) => ∃ j5 j6 : A, t = [(A.v (Value.bool y)), j5, j6]) ?_ ?_
    · refine .biH (fun hk3 => ?_) (fun hk3 => ?_)
      · refine .st (v := (A.v (Value.bool (decide (a0 ≤ 4096))))) (aBin_leq ..) ?_
        exact .lg ⟨_, _, rfl⟩
      · exact .lg ⟨_, _, rfl⟩
    rintro _ y4 ⟨j5, j6, rfl⟩
    iterate 3 refine .uc ?_
    refine .bg (fun t (y : Bool) => ∃ j10 j11 j12 : A, t = [(A.v (Value.bool y)), j10, j11, j12]) ?_ ?_
    · refine .biH (fun hk7 => ?_) (fun hk7 => ?_)
      · exact .lg ⟨_, _, _, rfl⟩
      · refine .st (v := (A.agg [(A.imm (List.map (cL c8) a1.Sectors) false), (A.imm (List.map c_S_Write a1.Pending) false), (A.v (Value.int .i64 a1.Left)), (A.v (Value.bool a1.Stopped))])) (by kernel_rfl) ?_
        refine .bd (g := fun (y : Bool) => (A.v (Value.bool y))) (by show C 11 [snap [Blk.box [(A.imm (List.map (cL c8) a1.Sectors) false), (A.imm (List.map c_S_Write a1.Pending) false), (A.v (Value.int .i64 a1.Left)), (A.v (Value.bool a1.Stopped))]] (A.agg [(A.imm (List.map (cL c8) a1.Sectors) false), (A.imm (List.map c_S_Write a1.Pending) false), (A.v (Value.int .i64 a1.Left)), (A.v (Value.bool a1.Stopped))])] = _; simp only [snap, snapW, snapWs, snapWss, snapWss_map, trim, List.map_cons, List.map_nil, fl_cI, fl_c8, fl_cB, fl_cS, fl_cL, fl_S_Write, fl_S_Disk]; exact h11 a1) fun y8 => ?_
        refine .st (v := (A.v (Value.bool (!y8)))) (by kernel_rfl) ?_
        exact .lg ⟨_, _, _, rfl⟩
    rintro _ y9 ⟨j10, j11, j12, rfl⟩
    iterate 4 refine .uc ?_
    refine .biHN (fun hk13 => ?_) (fun hk13 => ?_)
    · exact .lf rfl rfl ⟨_, rfl, rfl⟩
    · refine .bd (g := fun (y : (S_Disk × Int)) => (A.tup [(A.agg [(A.imm (List.map (cL c8) y.1.Sectors) false), (A.imm (List.map c_S_Write y.1.Pending) false), (A.v (Value.int .i64 y.1.Left)), (A.v (Value.bool y.1.Stopped))]), (A.v (Value.int .i64 y.2))])) (h12 a0) fun y14 => ?_
      refine .st (v := (A.agg [(A.imm (List.map (cL c8) y14.1.Sectors) false), (A.imm (List.map c_S_Write y14.1.Pending) false), (A.v (Value.int .i64 y14.1.Left)), (A.v (Value.bool y14.1.Stopped))])) (by kernel_rfl) ?_
      refine .st (v := (A.v (Value.int .i64 y14.2))) (by kernel_rfl) ?_
      refine .st (v := ((A.ptr 1 0), [Blk.box [(A.imm (List.map (cL c8) a1.Sectors) false), (A.imm (List.map c_S_Write a1.Pending) false), (A.v (Value.int .i64 a1.Left)), (A.v (Value.bool a1.Stopped))], Blk.box [(A.imm [] true), (A.imm [] true), (A.v (Value.int .i64 0)), (A.v (Value.bool false))]])) (by kernel_rfl) ?_
      refine .st (v := [Blk.box [(A.imm (List.map (cL c8) a1.Sectors) false), (A.imm (List.map c_S_Write a1.Pending) false), (A.v (Value.int .i64 a1.Left)), (A.v (Value.bool a1.Stopped))], Blk.box [(A.imm (List.map (cL c8) y14.1.Sectors) false), (A.imm (List.map c_S_Write y14.1.Pending) false), (A.v (Value.int .i64 y14.1.Left)), (A.v (Value.bool y14.1.Stopped))]]) (by kernel_rfl) ?_
      refine .bd (g := fun (y : (S_Disk × Int)) => (A.tup [(A.agg [(A.imm (List.map (cL c8) y.1.Sectors) false), (A.imm (List.map c_S_Write y.1.Pending) false), (A.v (Value.int .i64 y.1.Left)), (A.v (Value.bool y.1.Stopped))]), (A.v (Value.int .i64 y.2))])) (h13 a0) fun y15 => ?_
      refine .st (v := (A.agg [(A.imm (List.map (cL c8) y15.1.Sectors) false), (A.imm (List.map c_S_Write y15.1.Pending) false), (A.v (Value.int .i64 y15.1.Left)), (A.v (Value.bool y15.1.Stopped))])) (by kernel_rfl) ?_
      refine .st (v := (A.v (Value.int .i64 y15.2))) (by kernel_rfl) ?_
      refine .st (v := ((A.ptr 2 0), [Blk.box [(A.imm (List.map (cL c8) a1.Sectors) false), (A.imm (List.map c_S_Write a1.Pending) false), (A.v (Value.int .i64 a1.Left)), (A.v (Value.bool a1.Stopped))], Blk.box [(A.imm (List.map (cL c8) y14.1.Sectors) false), (A.imm (List.map c_S_Write y14.1.Pending) false), (A.v (Value.int .i64 y14.1.Left)), (A.v (Value.bool y14.1.Stopped))], Blk.box [(A.imm [] true), (A.imm [] true), (A.v (Value.int .i64 0)), (A.v (Value.bool false))]])) (by kernel_rfl) ?_
      refine .st (v := [Blk.box [(A.imm (List.map (cL c8) a1.Sectors) false), (A.imm (List.map c_S_Write a1.Pending) false), (A.v (Value.int .i64 a1.Left)), (A.v (Value.bool a1.Stopped))], Blk.box [(A.imm (List.map (cL c8) y14.1.Sectors) false), (A.imm (List.map c_S_Write y14.1.Pending) false), (A.v (Value.int .i64 y14.1.Left)), (A.v (Value.bool y14.1.Stopped))], Blk.box [(A.imm (List.map (cL c8) y15.1.Sectors) false), (A.imm (List.map c_S_Write y15.1.Pending) false), (A.v (Value.int .i64 y15.1.Left)), (A.v (Value.bool y15.1.Stopped))]]) (by kernel_rfl) ?_
      refine .st (v := (A.agg [(A.imm (List.map (cL c8) y14.1.Sectors) false), (A.imm (List.map c_S_Write y14.1.Pending) false), (A.v (Value.int .i64 y14.1.Left)), (A.v (Value.bool y14.1.Stopped))])) (by kernel_rfl) ?_
      refine .st (v := (A.agg [(A.imm (List.map (cL c8) y15.1.Sectors) false), (A.imm (List.map c_S_Write y15.1.Pending) false), (A.v (Value.int .i64 y15.1.Left)), (A.v (Value.bool y15.1.Stopped))])) (by kernel_rfl) ?_
      refine .bd (g := fun (y : Bool) => (A.v (Value.bool y))) (by show C 14 [snap [Blk.box [(A.imm (List.map (cL c8) a1.Sectors) false), (A.imm (List.map c_S_Write a1.Pending) false), (A.v (Value.int .i64 a1.Left)), (A.v (Value.bool a1.Stopped))], Blk.box [(A.imm (List.map (cL c8) y14.1.Sectors) false), (A.imm (List.map c_S_Write y14.1.Pending) false), (A.v (Value.int .i64 y14.1.Left)), (A.v (Value.bool y14.1.Stopped))], Blk.box [(A.imm (List.map (cL c8) y15.1.Sectors) false), (A.imm (List.map c_S_Write y15.1.Pending) false), (A.v (Value.int .i64 y15.1.Left)), (A.v (Value.bool y15.1.Stopped))]] (A.agg [(A.imm (List.map (cL c8) y14.1.Sectors) false), (A.imm (List.map c_S_Write y14.1.Pending) false), (A.v (Value.int .i64 y14.1.Left)), (A.v (Value.bool y14.1.Stopped))]), snap [Blk.box [(A.imm (List.map (cL c8) a1.Sectors) false), (A.imm (List.map c_S_Write a1.Pending) false), (A.v (Value.int .i64 a1.Left)), (A.v (Value.bool a1.Stopped))], Blk.box [(A.imm (List.map (cL c8) y14.1.Sectors) false), (A.imm (List.map c_S_Write y14.1.Pending) false), (A.v (Value.int .i64 y14.1.Left)), (A.v (Value.bool y14.1.Stopped))], Blk.box [(A.imm (List.map (cL c8) y15.1.Sectors) false), (A.imm (List.map c_S_Write y15.1.Pending) false), (A.v (Value.int .i64 y15.1.Left)), (A.v (Value.bool y15.1.Stopped))]] (A.agg [(A.imm (List.map (cL c8) y15.1.Sectors) false), (A.imm (List.map c_S_Write y15.1.Pending) false), (A.v (Value.int .i64 y15.1.Left)), (A.v (Value.bool y15.1.Stopped))])] = _; simp only [snap, snapW, snapWs, snapWss, snapWss_map, trim, List.map_cons, List.map_nil, fl_cI, fl_c8, fl_cB, fl_cS, fl_cL, fl_S_Write, fl_S_Disk]; exact h14 y14.1 y15.1) fun y16 => ?_
      refine .bg (fun t (y : Bool) => ∃ j19 j20 j21 : A, t = [(A.v (Value.bool y)), j19, j20, j21]) ?_ ?_
      · refine .biH (fun hk17 => ?_) (fun hk17 => ?_)
        · refine .st (v := (A.v (Value.bool (y14.2 == y15.2)))) (aBin_eql ..) ?_
          exact .lg ⟨_, _, _, rfl⟩
        · exact .lg ⟨_, _, _, rfl⟩
      rintro _ y18 ⟨j19, j20, j21, rfl⟩
      iterate 4 refine .uc ?_
      refine .bg (fun t (y : Bool) => ∃ j26 j27 j28 j29 j30 : A, t = [(A.v (Value.bool y)), j26, j27, j28, j29, j30]) ?_ ?_
      · refine .biH (fun hk22 => ?_) (fun hk22 => ?_)
        · refine .st (v := (A.agg [(A.imm (List.map (cL c8) a1.Sectors) false), (A.imm (List.map c_S_Write a1.Pending) false), (A.v (Value.int .i64 a1.Left)), (A.v (Value.bool a1.Stopped))])) (by kernel_rfl) ?_
          refine .bd (g := fun (y : Int) => (A.v (Value.int .i64 y))) (by show C 15 [snap [Blk.box [(A.imm (List.map (cL c8) a1.Sectors) false), (A.imm (List.map c_S_Write a1.Pending) false), (A.v (Value.int .i64 a1.Left)), (A.v (Value.bool a1.Stopped))], Blk.box [(A.imm (List.map (cL c8) y14.1.Sectors) false), (A.imm (List.map c_S_Write y14.1.Pending) false), (A.v (Value.int .i64 y14.1.Left)), (A.v (Value.bool y14.1.Stopped))], Blk.box [(A.imm (List.map (cL c8) y15.1.Sectors) false), (A.imm (List.map c_S_Write y15.1.Pending) false), (A.v (Value.int .i64 y15.1.Left)), (A.v (Value.bool y15.1.Stopped))]] (A.agg [(A.imm (List.map (cL c8) a1.Sectors) false), (A.imm (List.map c_S_Write a1.Pending) false), (A.v (Value.int .i64 a1.Left)), (A.v (Value.bool a1.Stopped))])] = _; simp only [snap, snapW, snapWs, snapWss, snapWss_map, trim, List.map_cons, List.map_nil, fl_cI, fl_c8, fl_cB, fl_cS, fl_cL, fl_S_Write, fl_S_Disk]; exact h15 a1) fun y23 => ?_
          refine .st (v := (A.agg [(A.imm (List.map (cL c8) a1.Sectors) false), (A.imm (List.map c_S_Write a1.Pending) false), (A.v (Value.int .i64 a1.Left)), (A.v (Value.bool a1.Stopped))])) (by kernel_rfl) ?_
          refine .bd (g := fun (y : Int) => (A.v (Value.int .i64 y))) (by show C 16 [snap [Blk.box [(A.imm (List.map (cL c8) a1.Sectors) false), (A.imm (List.map c_S_Write a1.Pending) false), (A.v (Value.int .i64 a1.Left)), (A.v (Value.bool a1.Stopped))], Blk.box [(A.imm (List.map (cL c8) y14.1.Sectors) false), (A.imm (List.map c_S_Write y14.1.Pending) false), (A.v (Value.int .i64 y14.1.Left)), (A.v (Value.bool y14.1.Stopped))], Blk.box [(A.imm (List.map (cL c8) y15.1.Sectors) false), (A.imm (List.map c_S_Write y15.1.Pending) false), (A.v (Value.int .i64 y15.1.Left)), (A.v (Value.bool y15.1.Stopped))]] (A.agg [(A.imm (List.map (cL c8) a1.Sectors) false), (A.imm (List.map c_S_Write a1.Pending) false), (A.v (Value.int .i64 a1.Left)), (A.v (Value.bool a1.Stopped))])] = _; simp only [snap, snapW, snapWs, snapWss, snapWss_map, trim, List.map_cons, List.map_nil, fl_cI, fl_c8, fl_cB, fl_cS, fl_cL, fl_S_Write, fl_S_Disk]; exact h16 a1) fun y24 => ?_
          refine .st (v := (A.v (Value.bool (y23 == y24)))) (aBin_eql ..) ?_
          exact .lg ⟨_, _, _, _, _, rfl⟩
        · exact .lg ⟨_, _, _, _, _, rfl⟩
      rintro _ y25 ⟨j26, j27, j28, j29, j30, rfl⟩
      iterate 6 refine .uc ?_
      refine .gst (fun hc31 => ?_) (fun hc31 => ?_)
      · refine .bb ?_
        refine .st (v := (A.agg [(A.imm (List.map (cL c8) a1.Sectors) false), (A.imm (List.map c_S_Write a1.Pending) false), (A.v (Value.int .i64 a1.Left)), (A.v (Value.bool a1.Stopped))])) (by kernel_rfl) ?_
        refine .bd (g := fun (y : S_Disk) => (A.agg [(A.imm (List.map (cL c8) y.Sectors) false), (A.imm (List.map c_S_Write y.Pending) false), (A.v (Value.int .i64 y.Left)), (A.v (Value.bool y.Stopped))])) (by show C 17 [snap [Blk.box [(A.imm (List.map (cL c8) a1.Sectors) false), (A.imm (List.map c_S_Write a1.Pending) false), (A.v (Value.int .i64 a1.Left)), (A.v (Value.bool a1.Stopped))], Blk.box [(A.imm (List.map (cL c8) y14.1.Sectors) false), (A.imm (List.map c_S_Write y14.1.Pending) false), (A.v (Value.int .i64 y14.1.Left)), (A.v (Value.bool y14.1.Stopped))], Blk.box [(A.imm (List.map (cL c8) y15.1.Sectors) false), (A.imm (List.map c_S_Write y15.1.Pending) false), (A.v (Value.int .i64 y15.1.Left)), (A.v (Value.bool y15.1.Stopped))]] (A.agg [(A.imm (List.map (cL c8) a1.Sectors) false), (A.imm (List.map c_S_Write a1.Pending) false), (A.v (Value.int .i64 a1.Left)), (A.v (Value.bool a1.Stopped))])] = _; simp only [snap, snapW, snapWs, snapWss, snapWss_map, trim, List.map_cons, List.map_nil, fl_cI, fl_c8, fl_cB, fl_cS, fl_cL, fl_S_Write, fl_S_Disk]; exact h17 a1) fun y32 => ?_
        refine .st (v := (A.agg [(A.imm (List.map (cL c8) a1.Sectors) false), (A.imm (List.map c_S_Write a1.Pending) false), (A.v (Value.int .i64 a1.Left)), (A.v (Value.bool a1.Stopped))])) (by kernel_rfl) ?_
        refine .cr ?_
        iterate 3 refine .uc ?_
        refine .bg (fun t (y : Bool) => ∃ j36 j37 : A, t = [(A.v (Value.bool y)), j36, j37]) ?_ ?_
        · refine .bKT hc31 ?_
          refine .bd (g := fun (y : S_Disk) => (A.agg [(A.imm (List.map (cL c8) y.Sectors) false), (A.imm (List.map c_S_Write y.Pending) false), (A.v (Value.int .i64 y.Left)), (A.v (Value.bool y.Stopped))])) (by show C 18 [snap [Blk.box [(A.imm (List.map (cL c8) a1.Sectors) false), (A.imm (List.map c_S_Write a1.Pending) false), (A.v (Value.int .i64 a1.Left)), (A.v (Value.bool a1.Stopped))], Blk.box [(A.imm (List.map (cL c8) y14.1.Sectors) false), (A.imm (List.map c_S_Write y14.1.Pending) false), (A.v (Value.int .i64 y14.1.Left)), (A.v (Value.bool y14.1.Stopped))], Blk.box [(A.imm (List.map (cL c8) y15.1.Sectors) false), (A.imm (List.map c_S_Write y15.1.Pending) false), (A.v (Value.int .i64 y15.1.Left)), (A.v (Value.bool y15.1.Stopped))]] (A.agg [(A.imm (List.map (cL c8) a1.Sectors) false), (A.imm (List.map c_S_Write a1.Pending) false), (A.v (Value.int .i64 a1.Left)), (A.v (Value.bool a1.Stopped))])] = _; simp only [snap, snapW, snapWs, snapWss, snapWss_map, trim, List.map_cons, List.map_nil, fl_cI, fl_c8, fl_cB, fl_cS, fl_cL, fl_S_Write, fl_S_Disk]; exact h18 a1) fun y33 => ?_
          refine .bd (g := fun (y : Bool) => (A.v (Value.bool y))) (by show C 14 [snap [Blk.box [(A.imm (List.map (cL c8) a1.Sectors) false), (A.imm (List.map c_S_Write a1.Pending) false), (A.v (Value.int .i64 a1.Left)), (A.v (Value.bool a1.Stopped))], Blk.box [(A.imm (List.map (cL c8) y14.1.Sectors) false), (A.imm (List.map c_S_Write y14.1.Pending) false), (A.v (Value.int .i64 y14.1.Left)), (A.v (Value.bool y14.1.Stopped))], Blk.box [(A.imm (List.map (cL c8) y15.1.Sectors) false), (A.imm (List.map c_S_Write y15.1.Pending) false), (A.v (Value.int .i64 y15.1.Left)), (A.v (Value.bool y15.1.Stopped))]] (A.agg [(A.imm (List.map (cL c8) y32.Sectors) false), (A.imm (List.map c_S_Write y32.Pending) false), (A.v (Value.int .i64 y32.Left)), (A.v (Value.bool y32.Stopped))]), snap [Blk.box [(A.imm (List.map (cL c8) a1.Sectors) false), (A.imm (List.map c_S_Write a1.Pending) false), (A.v (Value.int .i64 a1.Left)), (A.v (Value.bool a1.Stopped))], Blk.box [(A.imm (List.map (cL c8) y14.1.Sectors) false), (A.imm (List.map c_S_Write y14.1.Pending) false), (A.v (Value.int .i64 y14.1.Left)), (A.v (Value.bool y14.1.Stopped))], Blk.box [(A.imm (List.map (cL c8) y15.1.Sectors) false), (A.imm (List.map c_S_Write y15.1.Pending) false), (A.v (Value.int .i64 y15.1.Left)), (A.v (Value.bool y15.1.Stopped))]] (A.agg [(A.imm (List.map (cL c8) y33.Sectors) false), (A.imm (List.map c_S_Write y33.Pending) false), (A.v (Value.int .i64 y33.Left)), (A.v (Value.bool y33.Stopped))])] = _; simp only [snap, snapW, snapWs, snapWss, snapWss_map, trim, List.map_cons, List.map_nil, fl_cI, fl_c8, fl_cB, fl_cS, fl_cL, fl_S_Write, fl_S_Disk]; exact h14 y32 y33) fun y34 => ?_
          exact .lg ⟨_, _, rfl⟩
        rintro _ y35 ⟨j36, j37, rfl⟩
        iterate 3 refine .uc ?_
        exact .lf rfl rfl ⟨_, rfl, rfl⟩
      · refine .bb ?_
        refine .cr ?_
        iterate 3 refine .uc ?_
        refine .bg (fun t (y : Bool) => ∃ j39 j40 : A, t = [(A.v (Value.bool y)), j39, j40]) ?_ ?_
        · refine .bKF hc31 ?_
          exact .lg ⟨_, _, rfl⟩
        rintro _ y38 ⟨j39, j40, rfl⟩
        iterate 3 refine .uc ?_
        exact .lf rfl rfl ⟨_, rfl, rfl⟩

def G3 (a0 : Int) (a1 : S_Disk) : Option Bool := F3 fuel0 a0 a1

def Orc3 (C : Nat → List A → Option A) : Prop := ∀ (a0 : Int) (a1 : S_Disk), C 3 [(A.v (Value.int .i64 a0)), (A.agg [(A.imm (List.map (cL c8) a1.Sectors) false), (A.imm (List.map c_S_Write a1.Pending) false), (A.v (Value.int .i64 a1.Left)), (A.v (Value.bool a1.Stopped))])] = (G3 a0 a1).map fun y => (A.v (Value.bool y))

def F20_20_0 (n : Nat) (v21 : Int) (v22 : Int) (v23 : (List (List UInt8))) (v24 : (List S_Write)) (v25 : Int) (v26 : Bool) (v27 : (List (List UInt8))) (v28 : (List S_Write)) (v29 : Int) (v30 : Bool) : Nat → (List UInt8) → Option ((List UInt8))
  | 0, _ => none
  | m + 1, v31 => bif (decide (((v31.length : Int)) < 128)) then (Option.bind (appI 1 v31 ([(0 : UInt8)])) fun y33 => F20_20_0 n v21 v22 v23 v24 v25 v26 v27 v28 v29 v30 m y33) else (some v31)

theorem T20_20_0 (C : Nat → List A → Option A) (n : Nat) (h16 : Orc16 C) (v21 : Int) (v22 : Int) (v23 : (List (List UInt8))) (v24 : (List S_Write)) (v25 : Int) (v26 : Bool) (v27 : (List (List UInt8))) (v28 : (List S_Write)) (v29 : Int) (v30 : Bool) {ρ γ : Type} {φ : ρ → γ → Prop} {kL : R → Option ρ} {K : ((List UInt8)) → Option γ} (kx kg : Nat → St → Option R) (kr : St → Option R) (kp : A → St → Option R) (x0 : ∀ (o0 : (List UInt8)) (s7 : A), J φ (kx 0 (St.mk [(1, (A.v (Value.int .i64 v21))), (3, (A.ptr 0 0)), (6, (A.ptr 1 0)), (7, s7), (8, (A.sl 2 0 o0.length false))] [Blk.box [(A.imm (List.map (cL c8) v23) false), (A.imm (List.map c_S_Write v24) false), (A.v (Value.int .i64 v25)), (A.v (Value.bool v26))], Blk.box [(A.imm (List.map (cL c8) v27) true), (A.imm (List.map c_S_Write v28) true), (A.v (Value.int .i64 v29)), (A.v (Value.bool v30))], Blk.row false 1 (List.map c8 o0)])) kL (K o0) some) :
    ∀ (m : Nat) (v31 : (List UInt8)), J φ (loopR (cx C) (evCall (cx C) (n+8)) (evCallY (cx C) (n+8)) (n+8) 20 0 0 3 kx kg kr kp m (St.mk [(1, (A.v (Value.int .i64 v21))), (3, (A.ptr 0 0)), (6, (A.ptr 1 0)), (7, (A.v (Value.int .i64 v22))), (8, (A.sl 2 0 v31.length false))] [Blk.box [(A.imm (List.map (cL c8) v23) false), (A.imm (List.map c_S_Write v24) false), (A.v (Value.int .i64 v25)), (A.v (Value.bool v26))], Blk.box [(A.imm (List.map (cL c8) v27) true), (A.imm (List.map c_S_Write v28) true), (A.v (Value.int .i64 v29)), (A.v (Value.bool v30))], Blk.row false 1 (List.map c8 v31)])) kL (F20_20_0 n v21 v22 v23 v24 v25 v26 v27 v28 v29 v30 m v31) K := by
  intro m
  induction m with
  | zero => intros; exact .nn
  | succ m ih =>
    intro v31
    refine .lp (e20_0 ..) ?_
    unfold F20_20_0
    refine .st (v := (A.v (Value.int .i64 ((v31.length : Int))))) (row_len (e := 5) (by kernel_rfl) rfl rfl) ?_
    refine .st (v := (A.v (Value.bool (decide (((v31.length : Int)) < 128))))) (aBin_lss ..) ?_
    refine .biHN (fun hk32 => ?_) (fun hk32 => ?_)
    · refine .st (v := (A.imm [[(A.v (Value.int .u8 0))]] true)) (by kernel_rfl) ?_
      refine .bd (g := fun (y : List UInt8) => ((A.sl 2 0 y.length false), [Blk.box [(A.imm (List.map (cL c8) v23) false), (A.imm (List.map c_S_Write v24) false), (A.v (Value.int .i64 v25)), (A.v (Value.bool v26))], Blk.box [(A.imm (List.map (cL c8) v27) true), (A.imm (List.map c_S_Write v28) true), (A.v (Value.int .i64 v29)), (A.v (Value.bool v30))], Blk.row false 1 (List.map c8 y)])) (app_row (e := 5) (es := 1) (by_ := 1) (z := [(A.v (Value.int .u8 0))]) (by kernel_rfl) (by kernel_rfl) (by kernel_rfl) (by kernel_rfl) rfl (by decide) (by decide) (by kernel_rfl) (f := c8) (fun _ => rfl) ce_c8 (l := v31) (l2 := [(0 : UInt8)]) (b := 2) rfl (by decide) (els_imm (f := c8) ([(0 : UInt8)] : List UInt8) _ _)) fun y33 => ?_
      refine .st (v := [Blk.box [(A.imm (List.map (cL c8) v23) false), (A.imm (List.map c_S_Write v24) false), (A.v (Value.int .i64 v25)), (A.v (Value.bool v26))], Blk.box [(A.imm (List.map (cL c8) v27) true), (A.imm (List.map c_S_Write v28) true), (A.v (Value.int .i64 v29)), (A.v (Value.bool v30))], Blk.row false 1 (List.map c8 y33)]) (by kernel_rfl) ?_
      refine .cT (by kernel_rfl) ?_
      exact ih _
    · exact .ex (x0 _ _)

def F20 (n : Nat) (a0 : S_Disk) (a1 : Int) (a2 : (List UInt8)) : Option (S_Disk × Int) :=
  Option.bind (G16 a0) fun y1 => Option.bind (bif (y1 != 0) then (some true) else (some a0.Stopped)) fun y3 => Option.bind (bif y3 then (some true) else (some (decide (a1 < 0)))) fun y7 => Option.bind (bif y7 then (some true) else (some (decide (((a0.Sectors.length : Int)) ≤ a1)))) fun y11 => bif y11 then (some (((S_Disk.mk ([]) ([]) 0 false), 40))) else (bif (decide (128 < ((a2.length : Int)))) then (some (((S_Disk.mk ([]) ([]) 0 false), 1))) else (bif (((a0.Pending.length : Int)) == 4096) then (some (((S_Disk.mk ([]) ([]) 0 false), 2))) else (Option.bind (appI 1 ([]) a2) fun y20 => Option.bind (F20_20_0 n a1 0 a0.Sectors a0.Pending a0.Left a0.Stopped ([]) ([]) 0 false (n+8) y20) fun o34 => match o34 with | y35 => Option.bind (appI 32 ([]) a0.Pending) fun y37 => Option.bind (appI 32 y37 ([(S_Write.mk a1 y35)])) fun y38 => some (((S_Disk.mk a0.Sectors y38 a0.Left a0.Stopped), 0)))))

theorem T20 (C : Nat → List A → Option A) (n : Nat) (h16 : Orc16 C) (a0 : S_Disk) (a1 : Int) (a2 : (List UInt8)) : J (fun (o : R) y => ∃ v, o.1 = .ret v ∧ snapE o.2 v = (A.tup [(A.agg [(A.imm (List.map (cL c8) y.1.Sectors) false), (A.imm (List.map c_S_Write y.1.Pending) false), (A.v (Value.int .i64 y.1.Left)), (A.v (Value.bool y.1.Stopped))]), (A.v (Value.int .i64 y.2))])) (evCall1 (cx C) (evCall (cx C) (n+8)) (evCallY (cx C) (n+8)) (n+8) 20 [(A.agg [(A.imm (List.map (cL c8) a0.Sectors) false), (A.imm (List.map c_S_Write a0.Pending) false), (A.v (Value.int .i64 a0.Left)), (A.v (Value.bool a0.Stopped))]), (A.v (Value.int .i64 a1)), (A.imm (List.map c8 a2) false)] [] 0) some (F20 n a0 a1 a2) some := by
  refine .lp (e20 ..) ?_
  unfold F20
  refine .st (v := ((A.ptr 0 0), [Blk.box [(A.imm (List.map (cL c8) a0.Sectors) false), (A.imm (List.map c_S_Write a0.Pending) false), (A.v (Value.int .i64 a0.Left)), (A.v (Value.bool a0.Stopped))]])) (by kernel_rfl) ?_
  refine .st (v := ((A.ptr 1 0), [Blk.box [(A.imm (List.map (cL c8) a0.Sectors) false), (A.imm (List.map c_S_Write a0.Pending) false), (A.v (Value.int .i64 a0.Left)), (A.v (Value.bool a0.Stopped))], Blk.box [(A.imm [] true), (A.imm [] true), (A.v (Value.int .i64 0)), (A.v (Value.bool false))]])) (by kernel_rfl) ?_
  refine .st (v := (A.agg [(A.imm (List.map (cL c8) a0.Sectors) false), (A.imm (List.map c_S_Write a0.Pending) false), (A.v (Value.int .i64 a0.Left)), (A.v (Value.bool a0.Stopped))])) (by kernel_rfl) ?_
  refine .bd (g := fun (y : Int) => (A.v (Value.int .i64 y))) (by show C 16 [snap [Blk.box [(A.imm (List.map (cL c8) a0.Sectors) false), (A.imm (List.map c_S_Write a0.Pending) false), (A.v (Value.int .i64 a0.Left)), (A.v (Value.bool a0.Stopped))], Blk.box [(A.imm [] true), (A.imm [] true), (A.v (Value.int .i64 0)), (A.v (Value.bool false))]] (A.agg [(A.imm (List.map (cL c8) a0.Sectors) false), (A.imm (List.map c_S_Write a0.Pending) false), (A.v (Value.int .i64 a0.Left)), (A.v (Value.bool a0.Stopped))])] = _; simp only [snap, snapW, snapWs, snapWss, snapWss_map, trim, List.map_cons, List.map_nil, fl_cI, fl_c8, fl_cB, fl_cS, fl_cL, fl_S_Write, fl_S_Disk]; exact h16 a0) fun y1 => ?_
  refine .st (v := (A.v (Value.bool (y1 != 0)))) (aBin_neq ..) ?_
  refine .bg (fun t (y : Bool) => ∃ j4 j5 : A, t = [(A.v (Value.bool y)), j4, j5]) ?_ ?_
  · refine .biH (fun hk2 => ?_) (fun hk2 => ?_)
    · exact .lg ⟨_, _, rfl⟩
    · refine .st (v := (A.ptr 0 3)) (by kernel_rfl) ?_
      refine .st (v := (A.v (Value.bool a0.Stopped))) (by kernel_rfl) ?_
      exact .lg ⟨_, _, rfl⟩
  rintro _ y3 ⟨j4, j5, rfl⟩
  iterate 3 refine .uc ?_
  refine .bg (fun t (y : Bool) => ∃ j8 j9 : A, t = [(A.v (Value.bool y)), j8, j9]) ?_ ?_
  · refine .biH (fun hk6 => ?_) (fun hk6 => ?_)
    · exact .lg ⟨_, _, rfl⟩
    · refine .st (v := (A.v (Value.bool (decide (a1 < 0))))) (aBin_lss ..) ?_
      exact .lg ⟨_, _, rfl⟩
  rintro _ y7 ⟨j8, j9, rfl⟩
  iterate 3 refine .uc ?_
  refine .bg (fun t (y : Bool) => ∃ j12 j13 j14 j15 j16 : A, t = [(A.v (Value.bool y)), j12, j13, j14, j15, j16]) ?_ ?_
  · refine .biH (fun hk10 => ?_) (fun hk10 => ?_)
    · exact .lg ⟨_, _, _, _, _, rfl⟩
    · refine .st (v := (A.ptr 0 0)) (by kernel_rfl) ?_
      refine .st (v := (A.imm (List.map (cL c8) a0.Sectors) false)) (by kernel_rfl) ?_
      refine .st (v := (A.v (Value.int .i64 ((a0.Sectors.length : Int))))) (len_imm (e := 35) (h1 := by kernel_rfl) ..) ?_
      refine .st (v := (A.v (Value.bool (decide (((a0.Sectors.length : Int)) ≤ a1))))) (aBin_geq ..) ?_
      exact .lg ⟨_, _, _, _, _, rfl⟩
  rintro _ y11 ⟨j12, j13, j14, j15, j16, rfl⟩
  iterate 6 refine .uc ?_
  refine .biHN (fun hk17 => ?_) (fun hk17 => ?_)
  · refine .st (v := (A.agg [(A.imm [] true), (A.imm [] true), (A.v (Value.int .i64 0)), (A.v (Value.bool false))])) (by kernel_rfl) ?_
    refine .st (v := [Blk.box [(A.imm (List.map (cL c8) a0.Sectors) false), (A.imm (List.map c_S_Write a0.Pending) false), (A.v (Value.int .i64 a0.Left)), (A.v (Value.bool a0.Stopped))], Blk.box [(A.imm [] true), (A.imm [] true), (A.v (Value.int .i64 0)), (A.v (Value.bool false))]]) (by kernel_rfl) ?_
    refine .st (v := (A.agg [(A.imm [] true), (A.imm [] true), (A.v (Value.int .i64 0)), (A.v (Value.bool false))])) (by kernel_rfl) ?_
    exact .lf rfl rfl ⟨_, rfl, by show snapE [Blk.box [(A.imm (List.map (cL c8) a0.Sectors) false), (A.imm (List.map c_S_Write a0.Pending) false), (A.v (Value.int .i64 a0.Left)), (A.v (Value.bool a0.Stopped))], Blk.box [(A.imm [] true), (A.imm [] true), (A.v (Value.int .i64 0)), (A.v (Value.bool false))]] (A.tup [(A.agg [(A.imm [] true), (A.imm [] true), (A.v (Value.int .i64 0)), (A.v (Value.bool false))]), (A.v (Value.int .i64 40))]) = _; first | (simp only [snap, snapW, snapWs, snapWss, snapWss_map, trim, List.map_cons, List.map_nil, fl_cI, fl_c8, fl_cB, fl_cS, fl_cL, fl_S_Write, fl_S_Disk, snapE]; done) | (simp only [snap, snapW, snapWs, snapWss, snapWss_map, trim, fl_cI, fl_c8, fl_cB, fl_cS, fl_cL, fl_S_Write, fl_S_Disk, snapE]; done) | (simp only [snap, snapW, snapWs, snapWss, snapWss_map, trim, fl_cI, fl_c8, fl_cB, fl_cS, fl_cL, fl_S_Write, fl_S_Disk, snapE]; rfl)⟩
  · refine .st (v := (A.v (Value.int .i64 ((a2.length : Int))))) (len_imm (e := 5) (h1 := by kernel_rfl) ..) ?_
    refine .st (v := (A.v (Value.bool (decide (128 < ((a2.length : Int))))))) (aBin_gtr ..) ?_
    refine .biHN (fun hk18 => ?_) (fun hk18 => ?_)
    · refine .st (v := (A.agg [(A.imm [] true), (A.imm [] true), (A.v (Value.int .i64 0)), (A.v (Value.bool false))])) (by kernel_rfl) ?_
      refine .st (v := [Blk.box [(A.imm (List.map (cL c8) a0.Sectors) false), (A.imm (List.map c_S_Write a0.Pending) false), (A.v (Value.int .i64 a0.Left)), (A.v (Value.bool a0.Stopped))], Blk.box [(A.imm [] true), (A.imm [] true), (A.v (Value.int .i64 0)), (A.v (Value.bool false))]]) (by kernel_rfl) ?_
      refine .st (v := (A.agg [(A.imm [] true), (A.imm [] true), (A.v (Value.int .i64 0)), (A.v (Value.bool false))])) (by kernel_rfl) ?_
      exact .lf rfl rfl ⟨_, rfl, by show snapE [Blk.box [(A.imm (List.map (cL c8) a0.Sectors) false), (A.imm (List.map c_S_Write a0.Pending) false), (A.v (Value.int .i64 a0.Left)), (A.v (Value.bool a0.Stopped))], Blk.box [(A.imm [] true), (A.imm [] true), (A.v (Value.int .i64 0)), (A.v (Value.bool false))]] (A.tup [(A.agg [(A.imm [] true), (A.imm [] true), (A.v (Value.int .i64 0)), (A.v (Value.bool false))]), (A.v (Value.int .i64 1))]) = _; first | (simp only [snap, snapW, snapWs, snapWss, snapWss_map, trim, List.map_cons, List.map_nil, fl_cI, fl_c8, fl_cB, fl_cS, fl_cL, fl_S_Write, fl_S_Disk, snapE]; done) | (simp only [snap, snapW, snapWs, snapWss, snapWss_map, trim, fl_cI, fl_c8, fl_cB, fl_cS, fl_cL, fl_S_Write, fl_S_Disk, snapE]; done) | (simp only [snap, snapW, snapWs, snapWss, snapWss_map, trim, fl_cI, fl_c8, fl_cB, fl_cS, fl_cL, fl_S_Write, fl_S_Disk, snapE]; rfl)⟩
    · refine .st (v := (A.ptr 0 1)) (by kernel_rfl) ?_
      refine .st (v := (A.imm (List.map c_S_Write a0.Pending) false)) (by kernel_rfl) ?_
      refine .st (v := (A.v (Value.int .i64 ((a0.Pending.length : Int))))) (len_imm (e := 54) (h1 := by kernel_rfl) ..) ?_
      refine .st (v := (A.v (Value.bool (((a0.Pending.length : Int)) == 4096)))) (aBin_eql ..) ?_
      refine .biHN (fun hk19 => ?_) (fun hk19 => ?_)
      · refine .st (v := (A.agg [(A.imm [] true), (A.imm [] true), (A.v (Value.int .i64 0)), (A.v (Value.bool false))])) (by kernel_rfl) ?_
        refine .st (v := [Blk.box [(A.imm (List.map (cL c8) a0.Sectors) false), (A.imm (List.map c_S_Write a0.Pending) false), (A.v (Value.int .i64 a0.Left)), (A.v (Value.bool a0.Stopped))], Blk.box [(A.imm [] true), (A.imm [] true), (A.v (Value.int .i64 0)), (A.v (Value.bool false))]]) (by kernel_rfl) ?_
        refine .st (v := (A.agg [(A.imm [] true), (A.imm [] true), (A.v (Value.int .i64 0)), (A.v (Value.bool false))])) (by kernel_rfl) ?_
        exact .lf rfl rfl ⟨_, rfl, by show snapE [Blk.box [(A.imm (List.map (cL c8) a0.Sectors) false), (A.imm (List.map c_S_Write a0.Pending) false), (A.v (Value.int .i64 a0.Left)), (A.v (Value.bool a0.Stopped))], Blk.box [(A.imm [] true), (A.imm [] true), (A.v (Value.int .i64 0)), (A.v (Value.bool false))]] (A.tup [(A.agg [(A.imm [] true), (A.imm [] true), (A.v (Value.int .i64 0)), (A.v (Value.bool false))]), (A.v (Value.int .i64 2))]) = _; first | (simp only [snap, snapW, snapWs, snapWss, snapWss_map, trim, List.map_cons, List.map_nil, fl_cI, fl_c8, fl_cB, fl_cS, fl_cL, fl_S_Write, fl_S_Disk, snapE]; done) | (simp only [snap, snapW, snapWs, snapWss, snapWss_map, trim, fl_cI, fl_c8, fl_cB, fl_cS, fl_cL, fl_S_Write, fl_S_Disk, snapE]; done) | (simp only [snap, snapW, snapWs, snapWss, snapWss_map, trim, fl_cI, fl_c8, fl_cB, fl_cS, fl_cL, fl_S_Write, fl_S_Disk, snapE]; rfl)⟩
      · refine .st (v := (A.imm [] true)) (by kernel_rfl) ?_
        refine .bd (g := fun (y : List UInt8) => ((A.sl 2 0 y.length false), [Blk.box [(A.imm (List.map (cL c8) a0.Sectors) false), (A.imm (List.map c_S_Write a0.Pending) false), (A.v (Value.int .i64 a0.Left)), (A.v (Value.bool a0.Stopped))], Blk.box [(A.imm [] true), (A.imm [] true), (A.v (Value.int .i64 0)), (A.v (Value.bool false))], Blk.row false 1 (List.map c8 y)])) (app_imm (e := 5) (es := 1) (by_ := 1) (z := [(A.v (Value.int .u8 0))]) (by kernel_rfl) (by kernel_rfl) (by kernel_rfl) (by kernel_rfl) rfl (by decide) (by decide) (by kernel_rfl) (f := c8) (fun _ => rfl) ce_c8 (l := []) (l2 := a2) (els_imm ..)) fun y20 => ?_
        refine .as (T20_20_0 C n h16 a1 0 a0.Sectors a0.Pending a0.Left a0.Stopped ([]) ([]) 0 false _ _ _ _ ?_ _ y20)
        · intro y35 j36
          refine .un rfl ?_
          refine .cT (by kernel_rfl) ?_
          refine .st (v := (A.imm [] true)) (by kernel_rfl) ?_
          refine .st (v := (A.ptr 0 1)) (by kernel_rfl) ?_
          refine .st (v := (A.imm (List.map c_S_Write a0.Pending) false)) (by kernel_rfl) ?_
          refine .bd (g := fun (y : List S_Write) => ((A.sl 3 0 y.length false), [Blk.box [(A.imm (List.map (cL c8) a0.Sectors) false), (A.imm (List.map c_S_Write a0.Pending) false), (A.v (Value.int .i64 a0.Left)), (A.v (Value.bool a0.Stopped))], Blk.box [(A.imm [] true), (A.imm [] true), (A.v (Value.int .i64 0)), (A.v (Value.bool false))], Blk.row false 1 (List.map c8 y35), Blk.row false 2 (List.map c_S_Write y)])) (app_imm (e := 54) (es := 2) (by_ := 32) (z := [(A.v (Value.int .i64 0)), (A.imm [] true)]) (by kernel_rfl) (by kernel_rfl) (by kernel_rfl) (by kernel_rfl) rfl (by decide) (by decide) (by kernel_rfl) (f := c_S_Write) (fun _ => rfl) ce_S_Write (l := []) (l2 := a0.Pending) (els_imm ..)) fun y37 => ?_
          refine .st (v := (A.agg [(A.v (Value.int .i64 a1)), (A.sl 2 0 y35.length false)])) (by kernel_rfl) ?_
          refine .st (v := (A.imm [[(A.v (Value.int .i64 a1)), (A.imm (List.map c8 y35) false)]] true)) (by simp only [frzA, frz1, snap, snapW, snapWs, snapWss, snapWss_map, trim, List.map_cons, List.map_nil, fl_cI, fl_c8, fl_cB, fl_cS, fl_cL, fl_S_Write, fl_S_Disk, snapG_row (H := [Blk.box [(A.imm (List.map (cL c8) a0.Sectors) false), (A.imm (List.map c_S_Write a0.Pending) false), (A.v (Value.int .i64 a0.Left)), (A.v (Value.bool a0.Stopped))], Blk.box [(A.imm [] true), (A.imm [] true), (A.v (Value.int .i64 0)), (A.v (Value.bool false))], Blk.row false 1 (List.map c8 y35), Blk.row false 2 (List.map c_S_Write y37)]) (b := 2) (es := 1) (l := y35) fl_c8 rfl, snapG_row (H := [Blk.box [(A.imm (List.map (cL c8) a0.Sectors) false), (A.imm (List.map c_S_Write a0.Pending) false), (A.v (Value.int .i64 a0.Left)), (A.v (Value.bool a0.Stopped))], Blk.box [(A.imm [] true), (A.imm [] true), (A.v (Value.int .i64 0)), (A.v (Value.bool false))], Blk.row false 1 (List.map c8 y35), Blk.row false 2 (List.map c_S_Write y37)]) (b := 3) (es := 2) (l := y37) fl_S_Write rfl]; kernel_rfl) ?_
          refine .bd (g := fun (y : List S_Write) => ((A.sl 3 0 y.length false), [Blk.box [(A.imm (List.map (cL c8) a0.Sectors) false), (A.imm (List.map c_S_Write a0.Pending) false), (A.v (Value.int .i64 a0.Left)), (A.v (Value.bool a0.Stopped))], Blk.box [(A.imm [] true), (A.imm [] true), (A.v (Value.int .i64 0)), (A.v (Value.bool false))], Blk.row false 1 (List.map c8 y35), Blk.row false 2 (List.map c_S_Write y)])) (app_row (e := 54) (es := 2) (by_ := 32) (z := [(A.v (Value.int .i64 0)), (A.imm [] true)]) (by kernel_rfl) (by kernel_rfl) (by kernel_rfl) (by kernel_rfl) rfl (by decide) (by decide) (by kernel_rfl) (f := c_S_Write) (fun _ => rfl) ce_S_Write (l := y37) (l2 := [(S_Write.mk a1 y35)]) (b := 3) rfl (by decide) (els_imm (f := c_S_Write) ([(S_Write.mk a1 y35)] : List S_Write) _ _)) fun y38 => ?_
          refine .st (v := (A.ptr 0 1)) (by kernel_rfl) ?_
          refine .st (v := [Blk.box [(A.imm (List.map (cL c8) a0.Sectors) false), (A.sl 3 0 y38.length false), (A.v (Value.int .i64 a0.Left)), (A.v (Value.bool a0.Stopped))], Blk.box [(A.imm [] true), (A.imm [] true), (A.v (Value.int .i64 0)), (A.v (Value.bool false))], Blk.row false 1 (List.map c8 y35), Blk.row false 2 (List.map c_S_Write y38)]) (by kernel_rfl) ?_
          refine .st (v := (A.agg [(A.imm (List.map (cL c8) a0.Sectors) false), (A.sl 3 0 y38.length false), (A.v (Value.int .i64 a0.Left)), (A.v (Value.bool a0.Stopped))])) (by kernel_rfl) ?_
          refine .st (v := [Blk.box [(A.imm (List.map (cL c8) a0.Sectors) false), (A.sl 3 0 y38.length false), (A.v (Value.int .i64 a0.Left)), (A.v (Value.bool a0.Stopped))], Blk.box [(A.imm (List.map (cL c8) a0.Sectors) false), (A.sl 3 0 y38.length false), (A.v (Value.int .i64 a0.Left)), (A.v (Value.bool a0.Stopped))], Blk.row false 1 (List.map c8 y35), Blk.row false 2 (List.map c_S_Write y38)]) (by kernel_rfl) ?_
          refine .st (v := (A.agg [(A.imm (List.map (cL c8) a0.Sectors) false), (A.sl 3 0 y38.length false), (A.v (Value.int .i64 a0.Left)), (A.v (Value.bool a0.Stopped))])) (by kernel_rfl) ?_
          exact .lf rfl rfl ⟨_, rfl, by show snapE [Blk.box [(A.imm (List.map (cL c8) a0.Sectors) false), (A.sl 3 0 y38.length false), (A.v (Value.int .i64 a0.Left)), (A.v (Value.bool a0.Stopped))], Blk.box [(A.imm (List.map (cL c8) a0.Sectors) false), (A.sl 3 0 y38.length false), (A.v (Value.int .i64 a0.Left)), (A.v (Value.bool a0.Stopped))], Blk.row false 1 (List.map c8 y35), Blk.row false 2 (List.map c_S_Write y38)] (A.tup [(A.agg [(A.imm (List.map (cL c8) a0.Sectors) false), (A.sl 3 0 y38.length false), (A.v (Value.int .i64 a0.Left)), (A.v (Value.bool a0.Stopped))]), (A.v (Value.int .i64 0))]) = _; first | (simp only [snap, snapW, snapWs, snapWss, snapWss_map, trim, List.map_cons, List.map_nil, fl_cI, fl_c8, fl_cB, fl_cS, fl_cL, fl_S_Write, fl_S_Disk, snapE, snapGE_row (H := [Blk.box [(A.imm (List.map (cL c8) a0.Sectors) false), (A.sl 3 0 y38.length false), (A.v (Value.int .i64 a0.Left)), (A.v (Value.bool a0.Stopped))], Blk.box [(A.imm (List.map (cL c8) a0.Sectors) false), (A.sl 3 0 y38.length false), (A.v (Value.int .i64 a0.Left)), (A.v (Value.bool a0.Stopped))], Blk.row false 1 (List.map c8 y35), Blk.row false 2 (List.map c_S_Write y38)]) (b := 3) (es := 2) (wr := false) (l := y38) fl_S_Write rfl]; done) | (simp only [snap, snapW, snapWs, snapWss, snapWss_map, trim, fl_cI, fl_c8, fl_cB, fl_cS, fl_cL, fl_S_Write, fl_S_Disk, snapE, snapGE_row (H := [Blk.box [(A.imm (List.map (cL c8) a0.Sectors) false), (A.sl 3 0 y38.length false), (A.v (Value.int .i64 a0.Left)), (A.v (Value.bool a0.Stopped))], Blk.box [(A.imm (List.map (cL c8) a0.Sectors) false), (A.sl 3 0 y38.length false), (A.v (Value.int .i64 a0.Left)), (A.v (Value.bool a0.Stopped))], Blk.row false 1 (List.map c8 y35), Blk.row false 2 (List.map c_S_Write y38)]) (b := 3) (es := 2) (wr := false) (l := y38) fl_S_Write rfl]; done) | (simp only [snap, snapW, snapWs, snapWss, snapWss_map, trim, fl_cI, fl_c8, fl_cB, fl_cS, fl_cL, fl_S_Write, fl_S_Disk, snapE, snapGE_row (H := [Blk.box [(A.imm (List.map (cL c8) a0.Sectors) false), (A.sl 3 0 y38.length false), (A.v (Value.int .i64 a0.Left)), (A.v (Value.bool a0.Stopped))], Blk.box [(A.imm (List.map (cL c8) a0.Sectors) false), (A.sl 3 0 y38.length false), (A.v (Value.int .i64 a0.Left)), (A.v (Value.bool a0.Stopped))], Blk.row false 1 (List.map c8 y35), Blk.row false 2 (List.map c_S_Write y38)]) (b := 3) (es := 2) (wr := false) (l := y38) fl_S_Write rfl]; rfl)⟩

def G20 (a0 : S_Disk) (a1 : Int) (a2 : (List UInt8)) : Option (S_Disk × Int) := F20 fuel0 a0 a1 a2

def Orc20 (C : Nat → List A → Option A) : Prop := ∀ (a0 : S_Disk) (a1 : Int) (a2 : (List UInt8)), C 20 [(A.agg [(A.imm (List.map (cL c8) a0.Sectors) false), (A.imm (List.map c_S_Write a0.Pending) false), (A.v (Value.int .i64 a0.Left)), (A.v (Value.bool a0.Stopped))]), (A.v (Value.int .i64 a1)), (A.imm (List.map c8 a2) false)] = (G20 a0 a1 a2).map fun y => (A.tup [(A.agg [(A.imm (List.map (cL c8) y.1.Sectors) false), (A.imm (List.map c_S_Write y.1.Pending) false), (A.v (Value.int .i64 y.1.Left)), (A.v (Value.bool y.1.Stopped))]), (A.v (Value.int .i64 y.2))])

def F22_22_0 (n : Nat) (v19 : Int) (v20 : (List UInt8)) (v21 : Int) (v24 : (List (List UInt8))) (v25 : (List S_Write)) (v26 : Int) (v27 : Bool) : Nat → (List UInt8) → Int → Option ((List UInt8))
  | 0, _, _ => none
  | m + 1, v22, v23 => bif (decide (v23 < ((v25.length : Int)))) then (Option.bind (getI v25 v23) fun y29 => bif (y29.At == v19) then (Option.bind (getI v25 v23) fun y31 => F22_22_0 n v19 v20 v21 v24 v25 v26 v27 m y31.Data (wr .i64 (v23 + 1))) else (F22_22_0 n v19 v20 v21 v24 v25 v26 v27 m v22 (wr .i64 (v23 + 1)))) else (some v22)

theorem T22_22_0 (C : Nat → List A → Option A) (n : Nat) (h16 : Orc16 C) (v19 : Int) (v20 : (List UInt8)) (v21 : Int) (v24 : (List (List UInt8))) (v25 : (List S_Write)) (v26 : Int) (v27 : Bool) {ρ γ : Type} {φ : ρ → γ → Prop} {kL : R → Option ρ} {K : ((List UInt8)) → Option γ} (kx kg : Nat → St → Option R) (kr : St → Option R) (kp : A → St → Option R) (x0 : ∀ (o0 : (List UInt8)) (s1 : A) (s2 : A) (s4 : A) (s5 : A) (s7 : A), J φ (kx 0 (St.mk [(1, s1), (2, s2), (4, s4), (5, s5), (6, (A.imm (List.map c8 o0) false)), (7, s7)] [Blk.box [(A.imm (List.map (cL c8) v24) false), (A.imm (List.map c_S_Write v25) false), (A.v (Value.int .i64 v26)), (A.v (Value.bool v27))]])) kL (K o0) some) :
    ∀ (m : Nat) (v22 : (List UInt8)) (v23 : Int), J φ (loopR (cx C) (evCall (cx C) (n+8)) (evCallY (cx C) (n+8)) (n+8) 22 0 0 1 kx kg kr kp m (St.mk [(1, (A.v (Value.int .i64 v19))), (2, (A.ptr 0 0)), (4, (A.imm (List.map c8 v20) true)), (5, (A.v (Value.int .i64 v21))), (6, (A.imm (List.map c8 v22) false)), (7, (A.v (Value.int .i64 v23)))] [Blk.box [(A.imm (List.map (cL c8) v24) false), (A.imm (List.map c_S_Write v25) false), (A.v (Value.int .i64 v26)), (A.v (Value.bool v27))]])) kL (F22_22_0 n v19 v20 v21 v24 v25 v26 v27 m v22 v23) K := by
  intro m
  induction m with
  | zero => intros; exact .nn
  | succ m ih =>
    intro v22 v23
    refine .lp (e22_0 ..) ?_
    unfold F22_22_0
    refine .st (v := (A.ptr 0 1)) (by kernel_rfl) ?_
    refine .st (v := (A.imm (List.map c_S_Write v25) false)) (by kernel_rfl) ?_
    refine .st (v := (A.v (Value.int .i64 ((v25.length : Int))))) (len_imm (e := 54) (h1 := by kernel_rfl) ..) ?_
    refine .st (v := (A.v (Value.bool (decide (v23 < ((v25.length : Int))))))) (aBin_lss ..) ?_
    refine .biHN (fun hk28 => ?_) (fun hk28 => ?_)
    · refine .st (v := (A.ptr 0 1)) (by kernel_rfl) ?_
      refine .st (v := (A.imm (List.map c_S_Write v25) false)) (by kernel_rfl) ?_
      refine .bd (g := fun (y : S_Write) => A.ip (c_S_Write y)) (idx_imm (e := 54) (es := 2) (h1 := by kernel_rfl) (h2 := by kernel_rfl) (h3 := fun _ => rfl) ..) fun y29 => ?_
      refine .st (v := (A.ip [(A.v (Value.int .i64 y29.At)), (A.imm (List.map c8 y29.Data) false)])) (by kernel_rfl) ?_
      refine .st (v := (A.v (Value.int .i64 y29.At))) (by kernel_rfl) ?_
      refine .st (v := (A.v (Value.bool (y29.At == v19)))) (aBin_eql ..) ?_
      refine .biHN (fun hk30 => ?_) (fun hk30 => ?_)
      · refine .st (v := (A.ptr 0 1)) (by kernel_rfl) ?_
        refine .st (v := (A.imm (List.map c_S_Write v25) false)) (by kernel_rfl) ?_
        refine .bd (g := fun (y : S_Write) => A.ip (c_S_Write y)) (idx_imm (e := 54) (es := 2) (h1 := by kernel_rfl) (h2 := by kernel_rfl) (h3 := fun _ => rfl) ..) fun y31 => ?_
        refine .st (v := (A.ip [(A.imm (List.map c8 y31.Data) false)])) (by kernel_rfl) ?_
        refine .st (v := (A.imm (List.map c8 y31.Data) false)) (by kernel_rfl) ?_
        refine .st (v := (A.v (Value.int .i64 (wr .i64 (v23 + 1))))) (aBin_add ..) ?_
        refine .st (v := [Blk.box [(A.imm (List.map (cL c8) v24) false), (A.imm (List.map c_S_Write v25) false), (A.v (Value.int .i64 v26)), (A.v (Value.bool v27))]]) (by kernel_rfl) ?_
        refine .cT (by kernel_rfl) ?_
        exact ih _ _
      · refine .st (v := (A.v (Value.int .i64 (wr .i64 (v23 + 1))))) (aBin_add ..) ?_
        refine .st (v := [Blk.box [(A.imm (List.map (cL c8) v24) false), (A.imm (List.map c_S_Write v25) false), (A.v (Value.int .i64 v26)), (A.v (Value.bool v27))]]) (by kernel_rfl) ?_
        refine .cT (by kernel_rfl) ?_
        exact ih _ _
    · exact .ex (x0 _ _ _ _ _ _)

def F22 (n : Nat) (a0 : S_Disk) (a1 : Int) : Option ((List UInt8) × Int) :=
  Option.bind (G16 a0) fun y1 => Option.bind (bif (y1 != 0) then (some true) else (some a0.Stopped)) fun y3 => Option.bind (bif y3 then (some true) else (some (decide (a1 < 0)))) fun y7 => Option.bind (bif y7 then (some true) else (some (decide (((a0.Sectors.length : Int)) ≤ a1)))) fun y11 => bif y11 then (some (([], 40))) else (Option.bind (getI a0.Sectors a1) fun y18 => Option.bind (F22_22_0 n a1 ([]) 0 a0.Sectors a0.Pending a0.Left a0.Stopped (n+8) y18 0) fun o32 => match o32 with | y33 => some ((y33, 0)))

theorem T22 (C : Nat → List A → Option A) (n : Nat) (h16 : Orc16 C) (a0 : S_Disk) (a1 : Int) : J (fun (o : R) y => ∃ v, o.1 = .ret v ∧ snapE o.2 v = (A.tup [(A.imm (List.map c8 y.1) false), (A.v (Value.int .i64 y.2))])) (evCall1 (cx C) (evCall (cx C) (n+8)) (evCallY (cx C) (n+8)) (n+8) 22 [(A.agg [(A.imm (List.map (cL c8) a0.Sectors) false), (A.imm (List.map c_S_Write a0.Pending) false), (A.v (Value.int .i64 a0.Left)), (A.v (Value.bool a0.Stopped))]), (A.v (Value.int .i64 a1))] [] 0) some (F22 n a0 a1) some := by
  refine .lp (e22 ..) ?_
  unfold F22
  refine .st (v := ((A.ptr 0 0), [Blk.box [(A.imm (List.map (cL c8) a0.Sectors) false), (A.imm (List.map c_S_Write a0.Pending) false), (A.v (Value.int .i64 a0.Left)), (A.v (Value.bool a0.Stopped))]])) (by kernel_rfl) ?_
  refine .st (v := (A.agg [(A.imm (List.map (cL c8) a0.Sectors) false), (A.imm (List.map c_S_Write a0.Pending) false), (A.v (Value.int .i64 a0.Left)), (A.v (Value.bool a0.Stopped))])) (by kernel_rfl) ?_
  refine .bd (g := fun (y : Int) => (A.v (Value.int .i64 y))) (by show C 16 [snap [Blk.box [(A.imm (List.map (cL c8) a0.Sectors) false), (A.imm (List.map c_S_Write a0.Pending) false), (A.v (Value.int .i64 a0.Left)), (A.v (Value.bool a0.Stopped))]] (A.agg [(A.imm (List.map (cL c8) a0.Sectors) false), (A.imm (List.map c_S_Write a0.Pending) false), (A.v (Value.int .i64 a0.Left)), (A.v (Value.bool a0.Stopped))])] = _; simp only [snap, snapW, snapWs, snapWss, snapWss_map, trim, List.map_cons, List.map_nil, fl_cI, fl_c8, fl_cB, fl_cS, fl_cL, fl_S_Write, fl_S_Disk]; exact h16 a0) fun y1 => ?_
  refine .st (v := (A.v (Value.bool (y1 != 0)))) (aBin_neq ..) ?_
  refine .bg (fun t (y : Bool) => ∃ j4 j5 : A, t = [(A.v (Value.bool y)), j4, j5]) ?_ ?_
  · refine .biH (fun hk2 => ?_) (fun hk2 => ?_)
    · exact .lg ⟨_, _, rfl⟩
    · refine .st (v := (A.ptr 0 3)) (by kernel_rfl) ?_
      refine .st (v := (A.v (Value.bool a0.Stopped))) (by kernel_rfl) ?_
      exact .lg ⟨_, _, rfl⟩
  rintro _ y3 ⟨j4, j5, rfl⟩
  iterate 3 refine .uc ?_
  refine .bg (fun t (y : Bool) => ∃ j8 j9 : A, t = [(A.v (Value.bool y)), j8, j9]) ?_ ?_
  · refine .biH (fun hk6 => ?_) (fun hk6 => ?_)
    · exact .lg ⟨_, _, rfl⟩
    · refine .st (v := (A.v (Value.bool (decide (a1 < 0))))) (aBin_lss ..) ?_
      exact .lg ⟨_, _, rfl⟩
  rintro _ y7 ⟨j8, j9, rfl⟩
  iterate 3 refine .uc ?_
  refine .bg (fun t (y : Bool) => ∃ j12 j13 j14 j15 j16 : A, t = [(A.v (Value.bool y)), j12, j13, j14, j15, j16]) ?_ ?_
  · refine .biH (fun hk10 => ?_) (fun hk10 => ?_)
    · exact .lg ⟨_, _, _, _, _, rfl⟩
    · refine .st (v := (A.ptr 0 0)) (by kernel_rfl) ?_
      refine .st (v := (A.imm (List.map (cL c8) a0.Sectors) false)) (by kernel_rfl) ?_
      refine .st (v := (A.v (Value.int .i64 ((a0.Sectors.length : Int))))) (len_imm (e := 35) (h1 := by kernel_rfl) ..) ?_
      refine .st (v := (A.v (Value.bool (decide (((a0.Sectors.length : Int)) ≤ a1))))) (aBin_geq ..) ?_
      exact .lg ⟨_, _, _, _, _, rfl⟩
  rintro _ y11 ⟨j12, j13, j14, j15, j16, rfl⟩
  iterate 6 refine .uc ?_
  refine .biHN (fun hk17 => ?_) (fun hk17 => ?_)
  · exact .lf rfl rfl ⟨_, rfl, by show snapE [Blk.box [(A.imm (List.map (cL c8) a0.Sectors) false), (A.imm (List.map c_S_Write a0.Pending) false), (A.v (Value.int .i64 a0.Left)), (A.v (Value.bool a0.Stopped))]] (A.tup [(A.imm [] true), (A.v (Value.int .i64 40))]) = _; first | (simp only [snap, snapW, snapWs, snapWss, snapWss_map, trim, List.map_cons, List.map_nil, fl_cI, fl_c8, fl_cB, fl_cS, fl_cL, fl_S_Write, fl_S_Disk, snapE]; done) | (simp only [snap, snapW, snapWs, snapWss, snapWss_map, trim, fl_cI, fl_c8, fl_cB, fl_cS, fl_cL, fl_S_Write, fl_S_Disk, snapE]; done) | (simp only [snap, snapW, snapWs, snapWss, snapWss_map, trim, fl_cI, fl_c8, fl_cB, fl_cS, fl_cL, fl_S_Write, fl_S_Disk, snapE]; rfl)⟩
  · refine .st (v := (A.ptr 0 0)) (by kernel_rfl) ?_
    refine .st (v := (A.imm (List.map (cL c8) a0.Sectors) false)) (by kernel_rfl) ?_
    refine .bd (g := fun (y : (List UInt8)) => A.ip ((cL c8) y)) (idx_imm (e := 35) (es := 1) (h1 := by kernel_rfl) (h2 := by kernel_rfl) (h3 := fun _ => rfl) ..) fun y18 => ?_
    refine .st (v := (A.imm (List.map c8 y18) false)) (by kernel_rfl) ?_
    refine .as (T22_22_0 C n h16 a1 ([]) 0 a0.Sectors a0.Pending a0.Left a0.Stopped _ _ _ _ ?_ _ y18 0)
    · intro y33 j34 j35 j36 j37 j38
      refine .un rfl ?_
      refine .cT (by kernel_rfl) ?_
      exact .lf rfl rfl ⟨_, rfl, by show snapE [Blk.box [(A.imm (List.map (cL c8) a0.Sectors) false), (A.imm (List.map c_S_Write a0.Pending) false), (A.v (Value.int .i64 a0.Left)), (A.v (Value.bool a0.Stopped))]] (A.tup [(A.imm (List.map c8 y33) false), (A.v (Value.int .i64 0))]) = _; first | (simp only [snap, snapW, snapWs, snapWss, snapWss_map, trim, List.map_cons, List.map_nil, fl_cI, fl_c8, fl_cB, fl_cS, fl_cL, fl_S_Write, fl_S_Disk, snapE]; done) | (simp only [snap, snapW, snapWs, snapWss, snapWss_map, trim, fl_cI, fl_c8, fl_cB, fl_cS, fl_cL, fl_S_Write, fl_S_Disk, snapE]; done) | (simp only [snap, snapW, snapWs, snapWss, snapWss_map, trim, fl_cI, fl_c8, fl_cB, fl_cS, fl_cL, fl_S_Write, fl_S_Disk, snapE]; rfl)⟩

def G22 (a0 : S_Disk) (a1 : Int) : Option ((List UInt8) × Int) := F22 fuel0 a0 a1

def Orc22 (C : Nat → List A → Option A) : Prop := ∀ (a0 : S_Disk) (a1 : Int), C 22 [(A.agg [(A.imm (List.map (cL c8) a0.Sectors) false), (A.imm (List.map c_S_Write a0.Pending) false), (A.v (Value.int .i64 a0.Left)), (A.v (Value.bool a0.Stopped))]), (A.v (Value.int .i64 a1))] = (G22 a0 a1).map fun y => (A.tup [(A.imm (List.map c8 y.1) false), (A.v (Value.int .i64 y.2))])

def F4 (n : Nat) (a0 : S_Disk) (a1 : Int) (a2 : (List UInt8)) : Option Bool :=
  Option.bind (G10 ) fun y1 => bif (!y1) then (some false) else (Option.bind (G11 a0) fun y3 => Option.bind (bif (!y3) then (some true) else (some (decide (1000 < ((a2.length : Int)))))) fun y5 => bif y5 then (some true) else (Option.bind (G19 a0 a1 a2) fun y10 => Option.bind (G20 a0 a1 a2) fun y11 => Option.bind (G21 a0 a1) fun y12 => Option.bind (G22 a0 a1) fun y13 => Option.bind (G14 y10.1 y11.1) fun y14 => Option.bind (bif y14 then (some (y10.2 == y11.2)) else (some false)) fun y16 => Option.bind (bif y16 then (some (strEq (bstr y12.1) (bstr y13.1))) else (some false)) fun y21 => Option.bind (bif y21 then (some (y12.2 == y13.2)) else (some false)) fun y28 => some y28))

theorem T4 (C : Nat → List A → Option A) (n : Nat) (h10 : Orc10 C) (h11 : Orc11 C) (h14 : Orc14 C) (h19 : Orc19 C) (h20 : Orc20 C) (h21 : Orc21 C) (h22 : Orc22 C) (a0 : S_Disk) (a1 : Int) (a2 : (List UInt8)) : J (fun (o : R) y => ∃ v, o.1 = .ret v ∧ snapE o.2 v = (A.v (Value.bool y))) (evCall1 (cx C) (evCall (cx C) (n+8)) (evCallY (cx C) (n+8)) (n+8) 4 [(A.agg [(A.imm (List.map (cL c8) a0.Sectors) false), (A.imm (List.map c_S_Write a0.Pending) false), (A.v (Value.int .i64 a0.Left)), (A.v (Value.bool a0.Stopped))]), (A.v (Value.int .i64 a1)), (A.imm (List.map c8 a2) false)] [] 0) some (F4 n a0 a1 a2) some := by
  refine .lp (e4 ..) ?_
  unfold F4
  refine .st (v := ((A.ptr 0 0), [Blk.box [(A.imm (List.map (cL c8) a0.Sectors) false), (A.imm (List.map c_S_Write a0.Pending) false), (A.v (Value.int .i64 a0.Left)), (A.v (Value.bool a0.Stopped))]])) (by kernel_rfl) ?_
  refine .bd (g := fun (y : Bool) => (A.v (Value.bool y))) (h10 ()) fun y1 => ?_
  refine .st (v := (A.v (Value.bool (!y1)))) (by kernel_rfl) ?_
  refine .biHN (fun hk2 => ?_) (fun hk2 => ?_)
  · exact .lf rfl rfl ⟨_, rfl, rfl⟩
  · refine .st (v := (A.agg [(A.imm (List.map (cL c8) a0.Sectors) false), (A.imm (List.map c_S_Write a0.Pending) false), (A.v (Value.int .i64 a0.Left)), (A.v (Value.bool a0.Stopped))])) (by kernel_rfl) ?_
    refine .bd (g := fun (y : Bool) => (A.v (Value.bool y))) (by show C 11 [snap [Blk.box [(A.imm (List.map (cL c8) a0.Sectors) false), (A.imm (List.map c_S_Write a0.Pending) false), (A.v (Value.int .i64 a0.Left)), (A.v (Value.bool a0.Stopped))]] (A.agg [(A.imm (List.map (cL c8) a0.Sectors) false), (A.imm (List.map c_S_Write a0.Pending) false), (A.v (Value.int .i64 a0.Left)), (A.v (Value.bool a0.Stopped))])] = _; simp only [snap, snapW, snapWs, snapWss, snapWss_map, trim, List.map_cons, List.map_nil, fl_cI, fl_c8, fl_cB, fl_cS, fl_cL, fl_S_Write, fl_S_Disk]; exact h11 a0) fun y3 => ?_
    refine .st (v := (A.v (Value.bool (!y3)))) (by kernel_rfl) ?_
    refine .bg (fun t (y : Bool) => ∃ j6 j7 j8 : A, t = [(A.v (Value.bool y)), j6, j7, j8]) ?_ ?_
    · refine .biH (fun hk4 => ?_) (fun hk4 => ?_)
      · exact .lg ⟨_, _, _, rfl⟩
      · refine .st (v := (A.v (Value.int .i64 ((a2.length : Int))))) (len_imm (e := 5) (h1 := by kernel_rfl) ..) ?_
        refine .st (v := (A.v (Value.bool (decide (1000 < ((a2.length : Int))))))) (aBin_gtr ..) ?_
        exact .lg ⟨_, _, _, rfl⟩
    rintro _ y5 ⟨j6, j7, j8, rfl⟩
    iterate 4 refine .uc ?_
    refine .biHN (fun hk9 => ?_) (fun hk9 => ?_)
    · exact .lf rfl rfl ⟨_, rfl, rfl⟩
    · refine .st (v := (A.agg [(A.imm (List.map (cL c8) a0.Sectors) false), (A.imm (List.map c_S_Write a0.Pending) false), (A.v (Value.int .i64 a0.Left)), (A.v (Value.bool a0.Stopped))])) (by kernel_rfl) ?_
      refine .bd (g := fun (y : (S_Disk × Int)) => (A.tup [(A.agg [(A.imm (List.map (cL c8) y.1.Sectors) false), (A.imm (List.map c_S_Write y.1.Pending) false), (A.v (Value.int .i64 y.1.Left)), (A.v (Value.bool y.1.Stopped))]), (A.v (Value.int .i64 y.2))])) (by show C 19 [snap [Blk.box [(A.imm (List.map (cL c8) a0.Sectors) false), (A.imm (List.map c_S_Write a0.Pending) false), (A.v (Value.int .i64 a0.Left)), (A.v (Value.bool a0.Stopped))]] (A.agg [(A.imm (List.map (cL c8) a0.Sectors) false), (A.imm (List.map c_S_Write a0.Pending) false), (A.v (Value.int .i64 a0.Left)), (A.v (Value.bool a0.Stopped))]), snap [Blk.box [(A.imm (List.map (cL c8) a0.Sectors) false), (A.imm (List.map c_S_Write a0.Pending) false), (A.v (Value.int .i64 a0.Left)), (A.v (Value.bool a0.Stopped))]] (A.v (Value.int .i64 a1)), snap [Blk.box [(A.imm (List.map (cL c8) a0.Sectors) false), (A.imm (List.map c_S_Write a0.Pending) false), (A.v (Value.int .i64 a0.Left)), (A.v (Value.bool a0.Stopped))]] (A.imm (List.map c8 a2) false)] = _; simp only [snap, snapW, snapWs, snapWss, snapWss_map, trim, List.map_cons, List.map_nil, fl_cI, fl_c8, fl_cB, fl_cS, fl_cL, fl_S_Write, fl_S_Disk]; exact h19 a0 a1 a2) fun y10 => ?_
      refine .st (v := (A.agg [(A.imm (List.map (cL c8) y10.1.Sectors) false), (A.imm (List.map c_S_Write y10.1.Pending) false), (A.v (Value.int .i64 y10.1.Left)), (A.v (Value.bool y10.1.Stopped))])) (by kernel_rfl) ?_
      refine .st (v := (A.v (Value.int .i64 y10.2))) (by kernel_rfl) ?_
      refine .st (v := ((A.ptr 1 0), [Blk.box [(A.imm (List.map (cL c8) a0.Sectors) false), (A.imm (List.map c_S_Write a0.Pending) false), (A.v (Value.int .i64 a0.Left)), (A.v (Value.bool a0.Stopped))], Blk.box [(A.imm [] true), (A.imm [] true), (A.v (Value.int .i64 0)), (A.v (Value.bool false))]])) (by kernel_rfl) ?_
      refine .st (v := [Blk.box [(A.imm (List.map (cL c8) a0.Sectors) false), (A.imm (List.map c_S_Write a0.Pending) false), (A.v (Value.int .i64 a0.Left)), (A.v (Value.bool a0.Stopped))], Blk.box [(A.imm (List.map (cL c8) y10.1.Sectors) false), (A.imm (List.map c_S_Write y10.1.Pending) false), (A.v (Value.int .i64 y10.1.Left)), (A.v (Value.bool y10.1.Stopped))]]) (by kernel_rfl) ?_
      refine .st (v := (A.agg [(A.imm (List.map (cL c8) a0.Sectors) false), (A.imm (List.map c_S_Write a0.Pending) false), (A.v (Value.int .i64 a0.Left)), (A.v (Value.bool a0.Stopped))])) (by kernel_rfl) ?_
      refine .bd (g := fun (y : (S_Disk × Int)) => (A.tup [(A.agg [(A.imm (List.map (cL c8) y.1.Sectors) false), (A.imm (List.map c_S_Write y.1.Pending) false), (A.v (Value.int .i64 y.1.Left)), (A.v (Value.bool y.1.Stopped))]), (A.v (Value.int .i64 y.2))])) (by show C 20 [snap [Blk.box [(A.imm (List.map (cL c8) a0.Sectors) false), (A.imm (List.map c_S_Write a0.Pending) false), (A.v (Value.int .i64 a0.Left)), (A.v (Value.bool a0.Stopped))], Blk.box [(A.imm (List.map (cL c8) y10.1.Sectors) false), (A.imm (List.map c_S_Write y10.1.Pending) false), (A.v (Value.int .i64 y10.1.Left)), (A.v (Value.bool y10.1.Stopped))]] (A.agg [(A.imm (List.map (cL c8) a0.Sectors) false), (A.imm (List.map c_S_Write a0.Pending) false), (A.v (Value.int .i64 a0.Left)), (A.v (Value.bool a0.Stopped))]), snap [Blk.box [(A.imm (List.map (cL c8) a0.Sectors) false), (A.imm (List.map c_S_Write a0.Pending) false), (A.v (Value.int .i64 a0.Left)), (A.v (Value.bool a0.Stopped))], Blk.box [(A.imm (List.map (cL c8) y10.1.Sectors) false), (A.imm (List.map c_S_Write y10.1.Pending) false), (A.v (Value.int .i64 y10.1.Left)), (A.v (Value.bool y10.1.Stopped))]] (A.v (Value.int .i64 a1)), snap [Blk.box [(A.imm (List.map (cL c8) a0.Sectors) false), (A.imm (List.map c_S_Write a0.Pending) false), (A.v (Value.int .i64 a0.Left)), (A.v (Value.bool a0.Stopped))], Blk.box [(A.imm (List.map (cL c8) y10.1.Sectors) false), (A.imm (List.map c_S_Write y10.1.Pending) false), (A.v (Value.int .i64 y10.1.Left)), (A.v (Value.bool y10.1.Stopped))]] (A.imm (List.map c8 a2) false)] = _; simp only [snap, snapW, snapWs, snapWss, snapWss_map, trim, List.map_cons, List.map_nil, fl_cI, fl_c8, fl_cB, fl_cS, fl_cL, fl_S_Write, fl_S_Disk]; exact h20 a0 a1 a2) fun y11 => ?_
      refine .st (v := (A.agg [(A.imm (List.map (cL c8) y11.1.Sectors) false), (A.imm (List.map c_S_Write y11.1.Pending) false), (A.v (Value.int .i64 y11.1.Left)), (A.v (Value.bool y11.1.Stopped))])) (by kernel_rfl) ?_
      refine .st (v := (A.v (Value.int .i64 y11.2))) (by kernel_rfl) ?_
      refine .st (v := ((A.ptr 2 0), [Blk.box [(A.imm (List.map (cL c8) a0.Sectors) false), (A.imm (List.map c_S_Write a0.Pending) false), (A.v (Value.int .i64 a0.Left)), (A.v (Value.bool a0.Stopped))], Blk.box [(A.imm (List.map (cL c8) y10.1.Sectors) false), (A.imm (List.map c_S_Write y10.1.Pending) false), (A.v (Value.int .i64 y10.1.Left)), (A.v (Value.bool y10.1.Stopped))], Blk.box [(A.imm [] true), (A.imm [] true), (A.v (Value.int .i64 0)), (A.v (Value.bool false))]])) (by kernel_rfl) ?_
      refine .st (v := [Blk.box [(A.imm (List.map (cL c8) a0.Sectors) false), (A.imm (List.map c_S_Write a0.Pending) false), (A.v (Value.int .i64 a0.Left)), (A.v (Value.bool a0.Stopped))], Blk.box [(A.imm (List.map (cL c8) y10.1.Sectors) false), (A.imm (List.map c_S_Write y10.1.Pending) false), (A.v (Value.int .i64 y10.1.Left)), (A.v (Value.bool y10.1.Stopped))], Blk.box [(A.imm (List.map (cL c8) y11.1.Sectors) false), (A.imm (List.map c_S_Write y11.1.Pending) false), (A.v (Value.int .i64 y11.1.Left)), (A.v (Value.bool y11.1.Stopped))]]) (by kernel_rfl) ?_
      refine .st (v := (A.agg [(A.imm (List.map (cL c8) a0.Sectors) false), (A.imm (List.map c_S_Write a0.Pending) false), (A.v (Value.int .i64 a0.Left)), (A.v (Value.bool a0.Stopped))])) (by kernel_rfl) ?_
      refine .bd (g := fun (y : ((List UInt8) × Int)) => (A.tup [(A.imm (List.map c8 y.1) false), (A.v (Value.int .i64 y.2))])) (by show C 21 [snap [Blk.box [(A.imm (List.map (cL c8) a0.Sectors) false), (A.imm (List.map c_S_Write a0.Pending) false), (A.v (Value.int .i64 a0.Left)), (A.v (Value.bool a0.Stopped))], Blk.box [(A.imm (List.map (cL c8) y10.1.Sectors) false), (A.imm (List.map c_S_Write y10.1.Pending) false), (A.v (Value.int .i64 y10.1.Left)), (A.v (Value.bool y10.1.Stopped))], Blk.box [(A.imm (List.map (cL c8) y11.1.Sectors) false), (A.imm (List.map c_S_Write y11.1.Pending) false), (A.v (Value.int .i64 y11.1.Left)), (A.v (Value.bool y11.1.Stopped))]] (A.agg [(A.imm (List.map (cL c8) a0.Sectors) false), (A.imm (List.map c_S_Write a0.Pending) false), (A.v (Value.int .i64 a0.Left)), (A.v (Value.bool a0.Stopped))]), snap [Blk.box [(A.imm (List.map (cL c8) a0.Sectors) false), (A.imm (List.map c_S_Write a0.Pending) false), (A.v (Value.int .i64 a0.Left)), (A.v (Value.bool a0.Stopped))], Blk.box [(A.imm (List.map (cL c8) y10.1.Sectors) false), (A.imm (List.map c_S_Write y10.1.Pending) false), (A.v (Value.int .i64 y10.1.Left)), (A.v (Value.bool y10.1.Stopped))], Blk.box [(A.imm (List.map (cL c8) y11.1.Sectors) false), (A.imm (List.map c_S_Write y11.1.Pending) false), (A.v (Value.int .i64 y11.1.Left)), (A.v (Value.bool y11.1.Stopped))]] (A.v (Value.int .i64 a1))] = _; simp only [snap, snapW, snapWs, snapWss, snapWss_map, trim, List.map_cons, List.map_nil, fl_cI, fl_c8, fl_cB, fl_cS, fl_cL, fl_S_Write, fl_S_Disk]; exact h21 a0 a1) fun y12 => ?_
      refine .st (v := (A.imm (List.map c8 y12.1) false)) (by kernel_rfl) ?_
      refine .st (v := (A.v (Value.int .i64 y12.2))) (by kernel_rfl) ?_
      refine .st (v := (A.agg [(A.imm (List.map (cL c8) a0.Sectors) false), (A.imm (List.map c_S_Write a0.Pending) false), (A.v (Value.int .i64 a0.Left)), (A.v (Value.bool a0.Stopped))])) (by kernel_rfl) ?_
      refine .bd (g := fun (y : ((List UInt8) × Int)) => (A.tup [(A.imm (List.map c8 y.1) false), (A.v (Value.int .i64 y.2))])) (by show C 22 [snap [Blk.box [(A.imm (List.map (cL c8) a0.Sectors) false), (A.imm (List.map c_S_Write a0.Pending) false), (A.v (Value.int .i64 a0.Left)), (A.v (Value.bool a0.Stopped))], Blk.box [(A.imm (List.map (cL c8) y10.1.Sectors) false), (A.imm (List.map c_S_Write y10.1.Pending) false), (A.v (Value.int .i64 y10.1.Left)), (A.v (Value.bool y10.1.Stopped))], Blk.box [(A.imm (List.map (cL c8) y11.1.Sectors) false), (A.imm (List.map c_S_Write y11.1.Pending) false), (A.v (Value.int .i64 y11.1.Left)), (A.v (Value.bool y11.1.Stopped))]] (A.agg [(A.imm (List.map (cL c8) a0.Sectors) false), (A.imm (List.map c_S_Write a0.Pending) false), (A.v (Value.int .i64 a0.Left)), (A.v (Value.bool a0.Stopped))]), snap [Blk.box [(A.imm (List.map (cL c8) a0.Sectors) false), (A.imm (List.map c_S_Write a0.Pending) false), (A.v (Value.int .i64 a0.Left)), (A.v (Value.bool a0.Stopped))], Blk.box [(A.imm (List.map (cL c8) y10.1.Sectors) false), (A.imm (List.map c_S_Write y10.1.Pending) false), (A.v (Value.int .i64 y10.1.Left)), (A.v (Value.bool y10.1.Stopped))], Blk.box [(A.imm (List.map (cL c8) y11.1.Sectors) false), (A.imm (List.map c_S_Write y11.1.Pending) false), (A.v (Value.int .i64 y11.1.Left)), (A.v (Value.bool y11.1.Stopped))]] (A.v (Value.int .i64 a1))] = _; simp only [snap, snapW, snapWs, snapWss, snapWss_map, trim, List.map_cons, List.map_nil, fl_cI, fl_c8, fl_cB, fl_cS, fl_cL, fl_S_Write, fl_S_Disk]; exact h22 a0 a1) fun y13 => ?_
      refine .st (v := (A.imm (List.map c8 y13.1) false)) (by kernel_rfl) ?_
      refine .st (v := (A.v (Value.int .i64 y13.2))) (by kernel_rfl) ?_
      refine .st (v := (A.agg [(A.imm (List.map (cL c8) y10.1.Sectors) false), (A.imm (List.map c_S_Write y10.1.Pending) false), (A.v (Value.int .i64 y10.1.Left)), (A.v (Value.bool y10.1.Stopped))])) (by kernel_rfl) ?_
      refine .st (v := (A.agg [(A.imm (List.map (cL c8) y11.1.Sectors) false), (A.imm (List.map c_S_Write y11.1.Pending) false), (A.v (Value.int .i64 y11.1.Left)), (A.v (Value.bool y11.1.Stopped))])) (by kernel_rfl) ?_
      refine .bd (g := fun (y : Bool) => (A.v (Value.bool y))) (by show C 14 [snap [Blk.box [(A.imm (List.map (cL c8) a0.Sectors) false), (A.imm (List.map c_S_Write a0.Pending) false), (A.v (Value.int .i64 a0.Left)), (A.v (Value.bool a0.Stopped))], Blk.box [(A.imm (List.map (cL c8) y10.1.Sectors) false), (A.imm (List.map c_S_Write y10.1.Pending) false), (A.v (Value.int .i64 y10.1.Left)), (A.v (Value.bool y10.1.Stopped))], Blk.box [(A.imm (List.map (cL c8) y11.1.Sectors) false), (A.imm (List.map c_S_Write y11.1.Pending) false), (A.v (Value.int .i64 y11.1.Left)), (A.v (Value.bool y11.1.Stopped))]] (A.agg [(A.imm (List.map (cL c8) y10.1.Sectors) false), (A.imm (List.map c_S_Write y10.1.Pending) false), (A.v (Value.int .i64 y10.1.Left)), (A.v (Value.bool y10.1.Stopped))]), snap [Blk.box [(A.imm (List.map (cL c8) a0.Sectors) false), (A.imm (List.map c_S_Write a0.Pending) false), (A.v (Value.int .i64 a0.Left)), (A.v (Value.bool a0.Stopped))], Blk.box [(A.imm (List.map (cL c8) y10.1.Sectors) false), (A.imm (List.map c_S_Write y10.1.Pending) false), (A.v (Value.int .i64 y10.1.Left)), (A.v (Value.bool y10.1.Stopped))], Blk.box [(A.imm (List.map (cL c8) y11.1.Sectors) false), (A.imm (List.map c_S_Write y11.1.Pending) false), (A.v (Value.int .i64 y11.1.Left)), (A.v (Value.bool y11.1.Stopped))]] (A.agg [(A.imm (List.map (cL c8) y11.1.Sectors) false), (A.imm (List.map c_S_Write y11.1.Pending) false), (A.v (Value.int .i64 y11.1.Left)), (A.v (Value.bool y11.1.Stopped))])] = _; simp only [snap, snapW, snapWs, snapWss, snapWss_map, trim, List.map_cons, List.map_nil, fl_cI, fl_c8, fl_cB, fl_cS, fl_cL, fl_S_Write, fl_S_Disk]; exact h14 y10.1 y11.1) fun y14 => ?_
      refine .bg (fun t (y : Bool) => ∃ j17 j18 j19 : A, t = [(A.v (Value.bool y)), j17, j18, j19]) ?_ ?_
      · refine .biH (fun hk15 => ?_) (fun hk15 => ?_)
        · refine .st (v := (A.v (Value.bool (y10.2 == y11.2)))) (aBin_eql ..) ?_
          exact .lg ⟨_, _, _, rfl⟩
        · exact .lg ⟨_, _, _, rfl⟩
      rintro _ y16 ⟨j17, j18, j19, rfl⟩
      iterate 4 refine .uc ?_
      refine .bg (fun t (y : Bool) => ∃ j22 j23 j24 j25 j26 : A, t = [(A.v (Value.bool y)), j22, j23, j24, j25, j26]) ?_ ?_
      · refine .biH (fun hk20 => ?_) (fun hk20 => ?_)
        · refine .st (v := (A.v (Value.string (bstr y12.1)))) (conv_bs (e := 5) (l := y12.1) (by kernel_rfl) (by kernel_rfl) (by kernel_rfl) (by kernel_rfl) (els_imm ..) rfl) ?_
          refine .st (v := (A.v (Value.string (bstr y13.1)))) (conv_bs (e := 5) (l := y13.1) (by kernel_rfl) (by kernel_rfl) (by kernel_rfl) (by kernel_rfl) (els_imm ..) rfl) ?_
          refine .st (v := (A.v (Value.bool (strEq (bstr y12.1) (bstr y13.1))))) (aBin_eql_s ..) ?_
          exact .lg ⟨_, _, _, _, _, rfl⟩
        · exact .lg ⟨_, _, _, _, _, rfl⟩
      rintro _ y21 ⟨j22, j23, j24, j25, j26, rfl⟩
      iterate 6 refine .uc ?_
      refine .bg (fun t (y : Bool) => ∃ j29 j30 j31 : A, t = [(A.v (Value.bool y)), j29, j30, j31]) ?_ ?_
      · refine .biH (fun hk27 => ?_) (fun hk27 => ?_)
        · refine .st (v := (A.v (Value.bool (y12.2 == y13.2)))) (aBin_eql ..) ?_
          exact .lg ⟨_, _, _, rfl⟩
        · exact .lg ⟨_, _, _, rfl⟩
      rintro _ y28 ⟨j29, j30, j31, rfl⟩
      iterate 4 refine .uc ?_
      exact .lf rfl rfl ⟨_, rfl, rfl⟩

def G4 (a0 : S_Disk) (a1 : Int) (a2 : (List UInt8)) : Option Bool := F4 fuel0 a0 a1 a2

def Orc4 (C : Nat → List A → Option A) : Prop := ∀ (a0 : S_Disk) (a1 : Int) (a2 : (List UInt8)), C 4 [(A.agg [(A.imm (List.map (cL c8) a0.Sectors) false), (A.imm (List.map c_S_Write a0.Pending) false), (A.v (Value.int .i64 a0.Left)), (A.v (Value.bool a0.Stopped))]), (A.v (Value.int .i64 a1)), (A.imm (List.map c8 a2) false)] = (G4 a0 a1 a2).map fun y => (A.v (Value.bool y))

end Go.Proofs.Ythoomfjliekbdaa
