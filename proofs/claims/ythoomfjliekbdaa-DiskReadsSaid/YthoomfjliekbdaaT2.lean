/-
  The program's functions as plain functions: by a tool; each follows the interpreter.
-/
import Derived.Test.YthoomfjliekbdaaT1
import Derived.KernelRfl
namespace Go.Proofs.Ythoomfjliekbdaa
set_option linter.unusedVariables false
set_option linter.unusedSimpArgs false
set_option maxHeartbeats 4000000
set_option maxRecDepth 100000
def F10 (n : Nat)  : Option Bool :=
  Option.bind (G12 0) fun y1 => Option.bind (G12 2) fun y2 => Option.bind (G19 y2.1 1 ([(7 : UInt8)])) fun y3 => Option.bind (G21 y3.1 1) fun y4 => Option.bind (G21 y2.1 2) fun y5 => Option.bind (mkI 1 129 ((0 : UInt8))) fun y6 => Option.bind (G19 y2.1 0 y6) fun y7 => Option.bind (G25 y3.1 1) fun y8 => Option.bind (G27 8) fun y9 => Option.bind (G19 y8.1 0 y9) fun y10 => Option.bind (G23 y10.1) fun y11 => Option.bind (bif (y1.2 != 1) then (some true) else (some (y2.2 != 0))) fun y13 => Option.bind (bif y13 then (some true) else (some (y3.2 != 0))) fun y17 => Option.bind (bif y17 then (some true) else (some (y4.2 != 0))) fun y21 => Option.bind (bif y21 then (some true) else (some (y5.2 != 40))) fun y25 => Option.bind (bif y25 then (some true) else (some (y7.2 != 1))) fun y29 => Option.bind (bif y29 then (some true) else (some (y8.2 != 0))) fun y33 => Option.bind (bif y33 then (some true) else (some (y10.2 != 0))) fun y37 => Option.bind (bif y37 then (some true) else (some (y11.2 != 40))) fun y41 => Option.bind (bif y41 then (some true) else (some (!y11.1.Stopped))) fun y45 => bif y45 then (some false) else (Option.bind (G17 y11.1) fun y50 => Option.bind (G21 y50 1) fun y51 => Option.bind (G21 y50 0) fun y52 => Option.bind (G17 y3.1) fun y53 => Option.bind (G21 y53 1) fun y54 => Option.bind (bif (y51.2 == 0) then (some (y52.2 == 0)) else (some false)) fun y56 => Option.bind (bif y56 then (some (y54.2 == 0)) else (some false)) fun y60 => Option.bind (bif y60 then (some (((y4.1.length : Int)) == 128)) else (some false)) fun y64 => Option.bind (bif y64 then (Option.bind (getI y4.1 0) fun y69 => some (((y69.toNat : Int)) == 7)) else (some false)) fun y70 => Option.bind (bif y70 then (some (((y51.1.length : Int)) == 128)) else (some false)) fun y76 => Option.bind (bif y76 then (Option.bind (getI y51.1 0) fun y81 => some (((y81.toNat : Int)) == 7)) else (some false)) fun y82 => Option.bind (bif y82 then (some (((y52.1.length : Int)) == 128)) else (some false)) fun y88 => Option.bind (bif y88 then (Option.bind (getI y52.1 0) fun y93 => some (((y93.toNat : Int)) == 8)) else (some false)) fun y94 => Option.bind (bif y94 then (Option.bind (getI y52.1 64) fun y100 => some (((y100.toNat : Int)) == 0)) else (some false)) fun y101 => Option.bind (bif y101 then (some (((y54.1.length : Int)) == 128)) else (some false)) fun y107 => Option.bind (bif y107 then (Option.bind (getI y54.1 0) fun y112 => some (((y112.toNat : Int)) == 0)) else (some false)) fun y113 => Option.bind (bif y113 then (Option.bind (G15 ((S_Disk.mk ([]) ([]) 0 false))) fun y119 => some (y119 == 40)) else (some false)) fun y120 => Option.bind (bif y120 then (Option.bind (G17 ((S_Disk.mk ([]) ([]) 0 false))) fun y125 => some (y125.Left == (-1))) else (some false)) fun y126 => some y126)

theorem T10 (C : Nat → List A → Option A) (n : Nat) (h12 : Orc12 C) (h15 : Orc15 C) (h17 : Orc17 C) (h19 : Orc19 C) (h21 : Orc21 C) (h23 : Orc23 C) (h25 : Orc25 C) (h27 : Orc27 C) : J (fun (o : R) y => ∃ v, o.1 = .ret v ∧ snapE o.2 v = (A.v (Value.bool y))) (evCall1 (cx C) (evCall (cx C) (n+8)) (evCallY (cx C) (n+8)) (n+8) 10 [] [] 0) some (F10 n ) some := by
  refine .lp (e10 ..) ?_
  unfold F10
  refine .bd (g := fun (y : (S_Disk × Int)) => (A.tup [(A.agg [(A.imm (List.map (cL c8) y.1.Sectors) false), (A.imm (List.map c_S_Write y.1.Pending) false), (A.v (Value.int .i64 y.1.Left)), (A.v (Value.bool y.1.Stopped))]), (A.v (Value.int .i64 y.2))])) (h12 0) fun y1 => ?_
  refine .st (v := (A.agg [(A.imm (List.map (cL c8) y1.1.Sectors) false), (A.imm (List.map c_S_Write y1.1.Pending) false), (A.v (Value.int .i64 y1.1.Left)), (A.v (Value.bool y1.1.Stopped))])) (by kernel_rfl) ?_
  refine .st (v := (A.v (Value.int .i64 y1.2))) (by kernel_rfl) ?_
  refine .st (v := ((A.ptr 0 0), [Blk.box [(A.imm [] true), (A.imm [] true), (A.v (Value.int .i64 0)), (A.v (Value.bool false))]])) (by kernel_rfl) ?_
  refine .st (v := [Blk.box [(A.imm (List.map (cL c8) y1.1.Sectors) false), (A.imm (List.map c_S_Write y1.1.Pending) false), (A.v (Value.int .i64 y1.1.Left)), (A.v (Value.bool y1.1.Stopped))]]) (by kernel_rfl) ?_
  refine .bd (g := fun (y : (S_Disk × Int)) => (A.tup [(A.agg [(A.imm (List.map (cL c8) y.1.Sectors) false), (A.imm (List.map c_S_Write y.1.Pending) false), (A.v (Value.int .i64 y.1.Left)), (A.v (Value.bool y.1.Stopped))]), (A.v (Value.int .i64 y.2))])) (h12 2) fun y2 => ?_
  refine .st (v := (A.agg [(A.imm (List.map (cL c8) y2.1.Sectors) false), (A.imm (List.map c_S_Write y2.1.Pending) false), (A.v (Value.int .i64 y2.1.Left)), (A.v (Value.bool y2.1.Stopped))])) (by kernel_rfl) ?_
  refine .st (v := (A.v (Value.int .i64 y2.2))) (by kernel_rfl) ?_
  refine .st (v := ((A.ptr 1 0), [Blk.box [(A.imm (List.map (cL c8) y1.1.Sectors) false), (A.imm (List.map c_S_Write y1.1.Pending) false), (A.v (Value.int .i64 y1.1.Left)), (A.v (Value.bool y1.1.Stopped))], Blk.box [(A.imm [] true), (A.imm [] true), (A.v (Value.int .i64 0)), (A.v (Value.bool false))]])) (by kernel_rfl) ?_
  refine .st (v := [Blk.box [(A.imm (List.map (cL c8) y1.1.Sectors) false), (A.imm (List.map c_S_Write y1.1.Pending) false), (A.v (Value.int .i64 y1.1.Left)), (A.v (Value.bool y1.1.Stopped))], Blk.box [(A.imm (List.map (cL c8) y2.1.Sectors) false), (A.imm (List.map c_S_Write y2.1.Pending) false), (A.v (Value.int .i64 y2.1.Left)), (A.v (Value.bool y2.1.Stopped))]]) (by kernel_rfl) ?_
  refine .st (v := (A.agg [(A.imm (List.map (cL c8) y2.1.Sectors) false), (A.imm (List.map c_S_Write y2.1.Pending) false), (A.v (Value.int .i64 y2.1.Left)), (A.v (Value.bool y2.1.Stopped))])) (by kernel_rfl) ?_
  refine .st (v := (A.imm [[(A.v (Value.int .u8 7))]] true)) (by kernel_rfl) ?_
  refine .bd (g := fun (y : (S_Disk × Int)) => (A.tup [(A.agg [(A.imm (List.map (cL c8) y.1.Sectors) false), (A.imm (List.map c_S_Write y.1.Pending) false), (A.v (Value.int .i64 y.1.Left)), (A.v (Value.bool y.1.Stopped))]), (A.v (Value.int .i64 y.2))])) (by show C 19 [snap [Blk.box [(A.imm (List.map (cL c8) y1.1.Sectors) false), (A.imm (List.map c_S_Write y1.1.Pending) false), (A.v (Value.int .i64 y1.1.Left)), (A.v (Value.bool y1.1.Stopped))], Blk.box [(A.imm (List.map (cL c8) y2.1.Sectors) false), (A.imm (List.map c_S_Write y2.1.Pending) false), (A.v (Value.int .i64 y2.1.Left)), (A.v (Value.bool y2.1.Stopped))]] (A.agg [(A.imm (List.map (cL c8) y2.1.Sectors) false), (A.imm (List.map c_S_Write y2.1.Pending) false), (A.v (Value.int .i64 y2.1.Left)), (A.v (Value.bool y2.1.Stopped))]), snap [Blk.box [(A.imm (List.map (cL c8) y1.1.Sectors) false), (A.imm (List.map c_S_Write y1.1.Pending) false), (A.v (Value.int .i64 y1.1.Left)), (A.v (Value.bool y1.1.Stopped))], Blk.box [(A.imm (List.map (cL c8) y2.1.Sectors) false), (A.imm (List.map c_S_Write y2.1.Pending) false), (A.v (Value.int .i64 y2.1.Left)), (A.v (Value.bool y2.1.Stopped))]] (A.v (Value.int .i64 1)), snap [Blk.box [(A.imm (List.map (cL c8) y1.1.Sectors) false), (A.imm (List.map c_S_Write y1.1.Pending) false), (A.v (Value.int .i64 y1.1.Left)), (A.v (Value.bool y1.1.Stopped))], Blk.box [(A.imm (List.map (cL c8) y2.1.Sectors) false), (A.imm (List.map c_S_Write y2.1.Pending) false), (A.v (Value.int .i64 y2.1.Left)), (A.v (Value.bool y2.1.Stopped))]] (A.imm [[(A.v (Value.int .u8 7))]] true)] = _; simp only [snap, snapW, snapWs, snapWss, snapWss_map, trim, List.map_cons, List.map_nil, fl_cI, fl_c8, fl_cB, fl_cS, fl_cL, fl_S_Write, fl_S_Disk, fl_S_kinespherelaw04_Act]; exact h19 y2.1 1 ([(7 : UInt8)])) fun y3 => ?_
  refine .st (v := (A.agg [(A.imm (List.map (cL c8) y3.1.Sectors) false), (A.imm (List.map c_S_Write y3.1.Pending) false), (A.v (Value.int .i64 y3.1.Left)), (A.v (Value.bool y3.1.Stopped))])) (by kernel_rfl) ?_
  refine .st (v := (A.v (Value.int .i64 y3.2))) (by kernel_rfl) ?_
  refine .st (v := ((A.ptr 2 0), [Blk.box [(A.imm (List.map (cL c8) y1.1.Sectors) false), (A.imm (List.map c_S_Write y1.1.Pending) false), (A.v (Value.int .i64 y1.1.Left)), (A.v (Value.bool y1.1.Stopped))], Blk.box [(A.imm (List.map (cL c8) y2.1.Sectors) false), (A.imm (List.map c_S_Write y2.1.Pending) false), (A.v (Value.int .i64 y2.1.Left)), (A.v (Value.bool y2.1.Stopped))], Blk.box [(A.imm [] true), (A.imm [] true), (A.v (Value.int .i64 0)), (A.v (Value.bool false))]])) (by kernel_rfl) ?_
  refine .st (v := [Blk.box [(A.imm (List.map (cL c8) y1.1.Sectors) false), (A.imm (List.map c_S_Write y1.1.Pending) false), (A.v (Value.int .i64 y1.1.Left)), (A.v (Value.bool y1.1.Stopped))], Blk.box [(A.imm (List.map (cL c8) y2.1.Sectors) false), (A.imm (List.map c_S_Write y2.1.Pending) false), (A.v (Value.int .i64 y2.1.Left)), (A.v (Value.bool y2.1.Stopped))], Blk.box [(A.imm (List.map (cL c8) y3.1.Sectors) false), (A.imm (List.map c_S_Write y3.1.Pending) false), (A.v (Value.int .i64 y3.1.Left)), (A.v (Value.bool y3.1.Stopped))]]) (by kernel_rfl) ?_
  refine .st (v := (A.agg [(A.imm (List.map (cL c8) y3.1.Sectors) false), (A.imm (List.map c_S_Write y3.1.Pending) false), (A.v (Value.int .i64 y3.1.Left)), (A.v (Value.bool y3.1.Stopped))])) (by kernel_rfl) ?_
  refine .bd (g := fun (y : ((List UInt8) × Int)) => (A.tup [(A.imm (List.map c8 y.1) false), (A.v (Value.int .i64 y.2))])) (by show C 21 [snap [Blk.box [(A.imm (List.map (cL c8) y1.1.Sectors) false), (A.imm (List.map c_S_Write y1.1.Pending) false), (A.v (Value.int .i64 y1.1.Left)), (A.v (Value.bool y1.1.Stopped))], Blk.box [(A.imm (List.map (cL c8) y2.1.Sectors) false), (A.imm (List.map c_S_Write y2.1.Pending) false), (A.v (Value.int .i64 y2.1.Left)), (A.v (Value.bool y2.1.Stopped))], Blk.box [(A.imm (List.map (cL c8) y3.1.Sectors) false), (A.imm (List.map c_S_Write y3.1.Pending) false), (A.v (Value.int .i64 y3.1.Left)), (A.v (Value.bool y3.1.Stopped))]] (A.agg [(A.imm (List.map (cL c8) y3.1.Sectors) false), (A.imm (List.map c_S_Write y3.1.Pending) false), (A.v (Value.int .i64 y3.1.Left)), (A.v (Value.bool y3.1.Stopped))]), snap [Blk.box [(A.imm (List.map (cL c8) y1.1.Sectors) false), (A.imm (List.map c_S_Write y1.1.Pending) false), (A.v (Value.int .i64 y1.1.Left)), (A.v (Value.bool y1.1.Stopped))], Blk.box [(A.imm (List.map (cL c8) y2.1.Sectors) false), (A.imm (List.map c_S_Write y2.1.Pending) false), (A.v (Value.int .i64 y2.1.Left)), (A.v (Value.bool y2.1.Stopped))], Blk.box [(A.imm (List.map (cL c8) y3.1.Sectors) false), (A.imm (List.map c_S_Write y3.1.Pending) false), (A.v (Value.int .i64 y3.1.Left)), (A.v (Value.bool y3.1.Stopped))]] (A.v (Value.int .i64 1))] = _; simp only [snap, snapW, snapWs, snapWss, snapWss_map, trim, List.map_cons, List.map_nil, fl_cI, fl_c8, fl_cB, fl_cS, fl_cL, fl_S_Write, fl_S_Disk, fl_S_kinespherelaw04_Act]; exact h21 y3.1 1) fun y4 => ?_
  refine .st (v := (A.imm (List.map c8 y4.1) false)) (by kernel_rfl) ?_
  refine .st (v := (A.v (Value.int .i64 y4.2))) (by kernel_rfl) ?_
  refine .st (v := (A.agg [(A.imm (List.map (cL c8) y2.1.Sectors) false), (A.imm (List.map c_S_Write y2.1.Pending) false), (A.v (Value.int .i64 y2.1.Left)), (A.v (Value.bool y2.1.Stopped))])) (by kernel_rfl) ?_
  refine .bd (g := fun (y : ((List UInt8) × Int)) => (A.tup [(A.imm (List.map c8 y.1) false), (A.v (Value.int .i64 y.2))])) (by show C 21 [snap [Blk.box [(A.imm (List.map (cL c8) y1.1.Sectors) false), (A.imm (List.map c_S_Write y1.1.Pending) false), (A.v (Value.int .i64 y1.1.Left)), (A.v (Value.bool y1.1.Stopped))], Blk.box [(A.imm (List.map (cL c8) y2.1.Sectors) false), (A.imm (List.map c_S_Write y2.1.Pending) false), (A.v (Value.int .i64 y2.1.Left)), (A.v (Value.bool y2.1.Stopped))], Blk.box [(A.imm (List.map (cL c8) y3.1.Sectors) false), (A.imm (List.map c_S_Write y3.1.Pending) false), (A.v (Value.int .i64 y3.1.Left)), (A.v (Value.bool y3.1.Stopped))]] (A.agg [(A.imm (List.map (cL c8) y2.1.Sectors) false), (A.imm (List.map c_S_Write y2.1.Pending) false), (A.v (Value.int .i64 y2.1.Left)), (A.v (Value.bool y2.1.Stopped))]), snap [Blk.box [(A.imm (List.map (cL c8) y1.1.Sectors) false), (A.imm (List.map c_S_Write y1.1.Pending) false), (A.v (Value.int .i64 y1.1.Left)), (A.v (Value.bool y1.1.Stopped))], Blk.box [(A.imm (List.map (cL c8) y2.1.Sectors) false), (A.imm (List.map c_S_Write y2.1.Pending) false), (A.v (Value.int .i64 y2.1.Left)), (A.v (Value.bool y2.1.Stopped))], Blk.box [(A.imm (List.map (cL c8) y3.1.Sectors) false), (A.imm (List.map c_S_Write y3.1.Pending) false), (A.v (Value.int .i64 y3.1.Left)), (A.v (Value.bool y3.1.Stopped))]] (A.v (Value.int .i64 2))] = _; simp only [snap, snapW, snapWs, snapWss, snapWss_map, trim, List.map_cons, List.map_nil, fl_cI, fl_c8, fl_cB, fl_cS, fl_cL, fl_S_Write, fl_S_Disk, fl_S_kinespherelaw04_Act]; exact h21 y2.1 2) fun y5 => ?_
  refine .st (v := (A.imm (List.map c8 y5.1) false)) (by kernel_rfl) ?_
  refine .st (v := (A.v (Value.int .i64 y5.2))) (by kernel_rfl) ?_
  refine .st (v := ((A.ptr 3 0), [Blk.box [(A.imm (List.map (cL c8) y1.1.Sectors) false), (A.imm (List.map c_S_Write y1.1.Pending) false), (A.v (Value.int .i64 y1.1.Left)), (A.v (Value.bool y1.1.Stopped))], Blk.box [(A.imm (List.map (cL c8) y2.1.Sectors) false), (A.imm (List.map c_S_Write y2.1.Pending) false), (A.v (Value.int .i64 y2.1.Left)), (A.v (Value.bool y2.1.Stopped))], Blk.box [(A.imm (List.map (cL c8) y3.1.Sectors) false), (A.imm (List.map c_S_Write y3.1.Pending) false), (A.v (Value.int .i64 y3.1.Left)), (A.v (Value.bool y3.1.Stopped))], Blk.box [(A.imm [] true), (A.imm [] true), (A.v (Value.int .i64 0)), (A.v (Value.bool false))]])) (by kernel_rfl) ?_
  refine .st (v := (A.agg [(A.imm (List.map (cL c8) y2.1.Sectors) false), (A.imm (List.map c_S_Write y2.1.Pending) false), (A.v (Value.int .i64 y2.1.Left)), (A.v (Value.bool y2.1.Stopped))])) (by kernel_rfl) ?_
  refine .cT (by kernel_rfl) ?_
  refine .bd (g := fun (y : List UInt8) => ((A.imm (List.map c8 y) false), [Blk.box [(A.imm (List.map (cL c8) y1.1.Sectors) false), (A.imm (List.map c_S_Write y1.1.Pending) false), (A.v (Value.int .i64 y1.1.Left)), (A.v (Value.bool y1.1.Stopped))], Blk.box [(A.imm (List.map (cL c8) y2.1.Sectors) false), (A.imm (List.map c_S_Write y2.1.Pending) false), (A.v (Value.int .i64 y2.1.Left)), (A.v (Value.bool y2.1.Stopped))], Blk.box [(A.imm (List.map (cL c8) y3.1.Sectors) false), (A.imm (List.map c_S_Write y3.1.Pending) false), (A.v (Value.int .i64 y3.1.Left)), (A.v (Value.bool y3.1.Stopped))], Blk.box [(A.imm [] true), (A.imm [] true), (A.v (Value.int .i64 0)), (A.v (Value.bool false))]])) (wrow_makeI (e := 5) (es := 1) (f := c8) (z := (0 : UInt8)) (z' := [(A.v (Value.int .u8 0))]) (by kernel_rfl) (by kernel_rfl) (by kernel_rfl) (by kernel_rfl) rfl (by decide) (fun _ => rfl)) fun y6 => ?_
  refine .bd (g := fun (y : (S_Disk × Int)) => (A.tup [(A.agg [(A.imm (List.map (cL c8) y.1.Sectors) false), (A.imm (List.map c_S_Write y.1.Pending) false), (A.v (Value.int .i64 y.1.Left)), (A.v (Value.bool y.1.Stopped))]), (A.v (Value.int .i64 y.2))])) (by show C 19 [snap [Blk.box [(A.imm (List.map (cL c8) y1.1.Sectors) false), (A.imm (List.map c_S_Write y1.1.Pending) false), (A.v (Value.int .i64 y1.1.Left)), (A.v (Value.bool y1.1.Stopped))], Blk.box [(A.imm (List.map (cL c8) y2.1.Sectors) false), (A.imm (List.map c_S_Write y2.1.Pending) false), (A.v (Value.int .i64 y2.1.Left)), (A.v (Value.bool y2.1.Stopped))], Blk.box [(A.imm (List.map (cL c8) y3.1.Sectors) false), (A.imm (List.map c_S_Write y3.1.Pending) false), (A.v (Value.int .i64 y3.1.Left)), (A.v (Value.bool y3.1.Stopped))], Blk.box [(A.imm [] true), (A.imm [] true), (A.v (Value.int .i64 0)), (A.v (Value.bool false))]] (A.agg [(A.imm (List.map (cL c8) y2.1.Sectors) false), (A.imm (List.map c_S_Write y2.1.Pending) false), (A.v (Value.int .i64 y2.1.Left)), (A.v (Value.bool y2.1.Stopped))]), snap [Blk.box [(A.imm (List.map (cL c8) y1.1.Sectors) false), (A.imm (List.map c_S_Write y1.1.Pending) false), (A.v (Value.int .i64 y1.1.Left)), (A.v (Value.bool y1.1.Stopped))], Blk.box [(A.imm (List.map (cL c8) y2.1.Sectors) false), (A.imm (List.map c_S_Write y2.1.Pending) false), (A.v (Value.int .i64 y2.1.Left)), (A.v (Value.bool y2.1.Stopped))], Blk.box [(A.imm (List.map (cL c8) y3.1.Sectors) false), (A.imm (List.map c_S_Write y3.1.Pending) false), (A.v (Value.int .i64 y3.1.Left)), (A.v (Value.bool y3.1.Stopped))], Blk.box [(A.imm [] true), (A.imm [] true), (A.v (Value.int .i64 0)), (A.v (Value.bool false))]] (A.v (Value.int .i64 0)), snap [Blk.box [(A.imm (List.map (cL c8) y1.1.Sectors) false), (A.imm (List.map c_S_Write y1.1.Pending) false), (A.v (Value.int .i64 y1.1.Left)), (A.v (Value.bool y1.1.Stopped))], Blk.box [(A.imm (List.map (cL c8) y2.1.Sectors) false), (A.imm (List.map c_S_Write y2.1.Pending) false), (A.v (Value.int .i64 y2.1.Left)), (A.v (Value.bool y2.1.Stopped))], Blk.box [(A.imm (List.map (cL c8) y3.1.Sectors) false), (A.imm (List.map c_S_Write y3.1.Pending) false), (A.v (Value.int .i64 y3.1.Left)), (A.v (Value.bool y3.1.Stopped))], Blk.box [(A.imm [] true), (A.imm [] true), (A.v (Value.int .i64 0)), (A.v (Value.bool false))]] (A.imm (List.map c8 y6) false)] = _; simp only [snap, snapW, snapWs, snapWss, snapWss_map, trim, List.map_cons, List.map_nil, fl_cI, fl_c8, fl_cB, fl_cS, fl_cL, fl_S_Write, fl_S_Disk, fl_S_kinespherelaw04_Act]; exact h19 y2.1 0 y6) fun y7 => ?_
  refine .st (v := (A.agg [(A.imm (List.map (cL c8) y7.1.Sectors) false), (A.imm (List.map c_S_Write y7.1.Pending) false), (A.v (Value.int .i64 y7.1.Left)), (A.v (Value.bool y7.1.Stopped))])) (by kernel_rfl) ?_
  refine .st (v := (A.v (Value.int .i64 y7.2))) (by kernel_rfl) ?_
  refine .st (v := [Blk.box [(A.imm (List.map (cL c8) y1.1.Sectors) false), (A.imm (List.map c_S_Write y1.1.Pending) false), (A.v (Value.int .i64 y1.1.Left)), (A.v (Value.bool y1.1.Stopped))], Blk.box [(A.imm (List.map (cL c8) y2.1.Sectors) false), (A.imm (List.map c_S_Write y2.1.Pending) false), (A.v (Value.int .i64 y2.1.Left)), (A.v (Value.bool y2.1.Stopped))], Blk.box [(A.imm (List.map (cL c8) y3.1.Sectors) false), (A.imm (List.map c_S_Write y3.1.Pending) false), (A.v (Value.int .i64 y3.1.Left)), (A.v (Value.bool y3.1.Stopped))], Blk.box [(A.imm (List.map (cL c8) y7.1.Sectors) false), (A.imm (List.map c_S_Write y7.1.Pending) false), (A.v (Value.int .i64 y7.1.Left)), (A.v (Value.bool y7.1.Stopped))]]) (by kernel_rfl) ?_
  refine .st (v := (A.agg [(A.imm (List.map (cL c8) y3.1.Sectors) false), (A.imm (List.map c_S_Write y3.1.Pending) false), (A.v (Value.int .i64 y3.1.Left)), (A.v (Value.bool y3.1.Stopped))])) (by kernel_rfl) ?_
  refine .bd (g := fun (y : (S_Disk × Int)) => (A.tup [(A.agg [(A.imm (List.map (cL c8) y.1.Sectors) false), (A.imm (List.map c_S_Write y.1.Pending) false), (A.v (Value.int .i64 y.1.Left)), (A.v (Value.bool y.1.Stopped))]), (A.v (Value.int .i64 y.2))])) (by show C 25 [snap [Blk.box [(A.imm (List.map (cL c8) y1.1.Sectors) false), (A.imm (List.map c_S_Write y1.1.Pending) false), (A.v (Value.int .i64 y1.1.Left)), (A.v (Value.bool y1.1.Stopped))], Blk.box [(A.imm (List.map (cL c8) y2.1.Sectors) false), (A.imm (List.map c_S_Write y2.1.Pending) false), (A.v (Value.int .i64 y2.1.Left)), (A.v (Value.bool y2.1.Stopped))], Blk.box [(A.imm (List.map (cL c8) y3.1.Sectors) false), (A.imm (List.map c_S_Write y3.1.Pending) false), (A.v (Value.int .i64 y3.1.Left)), (A.v (Value.bool y3.1.Stopped))], Blk.box [(A.imm (List.map (cL c8) y7.1.Sectors) false), (A.imm (List.map c_S_Write y7.1.Pending) false), (A.v (Value.int .i64 y7.1.Left)), (A.v (Value.bool y7.1.Stopped))]] (A.agg [(A.imm (List.map (cL c8) y3.1.Sectors) false), (A.imm (List.map c_S_Write y3.1.Pending) false), (A.v (Value.int .i64 y3.1.Left)), (A.v (Value.bool y3.1.Stopped))]), snap [Blk.box [(A.imm (List.map (cL c8) y1.1.Sectors) false), (A.imm (List.map c_S_Write y1.1.Pending) false), (A.v (Value.int .i64 y1.1.Left)), (A.v (Value.bool y1.1.Stopped))], Blk.box [(A.imm (List.map (cL c8) y2.1.Sectors) false), (A.imm (List.map c_S_Write y2.1.Pending) false), (A.v (Value.int .i64 y2.1.Left)), (A.v (Value.bool y2.1.Stopped))], Blk.box [(A.imm (List.map (cL c8) y3.1.Sectors) false), (A.imm (List.map c_S_Write y3.1.Pending) false), (A.v (Value.int .i64 y3.1.Left)), (A.v (Value.bool y3.1.Stopped))], Blk.box [(A.imm (List.map (cL c8) y7.1.Sectors) false), (A.imm (List.map c_S_Write y7.1.Pending) false), (A.v (Value.int .i64 y7.1.Left)), (A.v (Value.bool y7.1.Stopped))]] (A.v (Value.int .i64 1))] = _; simp only [snap, snapW, snapWs, snapWss, snapWss_map, trim, List.map_cons, List.map_nil, fl_cI, fl_c8, fl_cB, fl_cS, fl_cL, fl_S_Write, fl_S_Disk, fl_S_kinespherelaw04_Act]; exact h25 y3.1 1) fun y8 => ?_
  refine .st (v := (A.agg [(A.imm (List.map (cL c8) y8.1.Sectors) false), (A.imm (List.map c_S_Write y8.1.Pending) false), (A.v (Value.int .i64 y8.1.Left)), (A.v (Value.bool y8.1.Stopped))])) (by kernel_rfl) ?_
  refine .st (v := (A.v (Value.int .i64 y8.2))) (by kernel_rfl) ?_
  refine .st (v := ((A.ptr 4 0), [Blk.box [(A.imm (List.map (cL c8) y1.1.Sectors) false), (A.imm (List.map c_S_Write y1.1.Pending) false), (A.v (Value.int .i64 y1.1.Left)), (A.v (Value.bool y1.1.Stopped))], Blk.box [(A.imm (List.map (cL c8) y2.1.Sectors) false), (A.imm (List.map c_S_Write y2.1.Pending) false), (A.v (Value.int .i64 y2.1.Left)), (A.v (Value.bool y2.1.Stopped))], Blk.box [(A.imm (List.map (cL c8) y3.1.Sectors) false), (A.imm (List.map c_S_Write y3.1.Pending) false), (A.v (Value.int .i64 y3.1.Left)), (A.v (Value.bool y3.1.Stopped))], Blk.box [(A.imm (List.map (cL c8) y7.1.Sectors) false), (A.imm (List.map c_S_Write y7.1.Pending) false), (A.v (Value.int .i64 y7.1.Left)), (A.v (Value.bool y7.1.Stopped))], Blk.box [(A.imm [] true), (A.imm [] true), (A.v (Value.int .i64 0)), (A.v (Value.bool false))]])) (by kernel_rfl) ?_
  refine .st (v := [Blk.box [(A.imm (List.map (cL c8) y1.1.Sectors) false), (A.imm (List.map c_S_Write y1.1.Pending) false), (A.v (Value.int .i64 y1.1.Left)), (A.v (Value.bool y1.1.Stopped))], Blk.box [(A.imm (List.map (cL c8) y2.1.Sectors) false), (A.imm (List.map c_S_Write y2.1.Pending) false), (A.v (Value.int .i64 y2.1.Left)), (A.v (Value.bool y2.1.Stopped))], Blk.box [(A.imm (List.map (cL c8) y3.1.Sectors) false), (A.imm (List.map c_S_Write y3.1.Pending) false), (A.v (Value.int .i64 y3.1.Left)), (A.v (Value.bool y3.1.Stopped))], Blk.box [(A.imm (List.map (cL c8) y7.1.Sectors) false), (A.imm (List.map c_S_Write y7.1.Pending) false), (A.v (Value.int .i64 y7.1.Left)), (A.v (Value.bool y7.1.Stopped))], Blk.box [(A.imm (List.map (cL c8) y8.1.Sectors) false), (A.imm (List.map c_S_Write y8.1.Pending) false), (A.v (Value.int .i64 y8.1.Left)), (A.v (Value.bool y8.1.Stopped))]]) (by kernel_rfl) ?_
  refine .st (v := (A.agg [(A.imm (List.map (cL c8) y8.1.Sectors) false), (A.imm (List.map c_S_Write y8.1.Pending) false), (A.v (Value.int .i64 y8.1.Left)), (A.v (Value.bool y8.1.Stopped))])) (by kernel_rfl) ?_
  refine .bd (g := fun (y : (List UInt8)) => (A.imm (List.map c8 y) false)) (h27 8) fun y9 => ?_
  refine .bd (g := fun (y : (S_Disk × Int)) => (A.tup [(A.agg [(A.imm (List.map (cL c8) y.1.Sectors) false), (A.imm (List.map c_S_Write y.1.Pending) false), (A.v (Value.int .i64 y.1.Left)), (A.v (Value.bool y.1.Stopped))]), (A.v (Value.int .i64 y.2))])) (by show C 19 [snap [Blk.box [(A.imm (List.map (cL c8) y1.1.Sectors) false), (A.imm (List.map c_S_Write y1.1.Pending) false), (A.v (Value.int .i64 y1.1.Left)), (A.v (Value.bool y1.1.Stopped))], Blk.box [(A.imm (List.map (cL c8) y2.1.Sectors) false), (A.imm (List.map c_S_Write y2.1.Pending) false), (A.v (Value.int .i64 y2.1.Left)), (A.v (Value.bool y2.1.Stopped))], Blk.box [(A.imm (List.map (cL c8) y3.1.Sectors) false), (A.imm (List.map c_S_Write y3.1.Pending) false), (A.v (Value.int .i64 y3.1.Left)), (A.v (Value.bool y3.1.Stopped))], Blk.box [(A.imm (List.map (cL c8) y7.1.Sectors) false), (A.imm (List.map c_S_Write y7.1.Pending) false), (A.v (Value.int .i64 y7.1.Left)), (A.v (Value.bool y7.1.Stopped))], Blk.box [(A.imm (List.map (cL c8) y8.1.Sectors) false), (A.imm (List.map c_S_Write y8.1.Pending) false), (A.v (Value.int .i64 y8.1.Left)), (A.v (Value.bool y8.1.Stopped))]] (A.agg [(A.imm (List.map (cL c8) y8.1.Sectors) false), (A.imm (List.map c_S_Write y8.1.Pending) false), (A.v (Value.int .i64 y8.1.Left)), (A.v (Value.bool y8.1.Stopped))]), snap [Blk.box [(A.imm (List.map (cL c8) y1.1.Sectors) false), (A.imm (List.map c_S_Write y1.1.Pending) false), (A.v (Value.int .i64 y1.1.Left)), (A.v (Value.bool y1.1.Stopped))], Blk.box [(A.imm (List.map (cL c8) y2.1.Sectors) false), (A.imm (List.map c_S_Write y2.1.Pending) false), (A.v (Value.int .i64 y2.1.Left)), (A.v (Value.bool y2.1.Stopped))], Blk.box [(A.imm (List.map (cL c8) y3.1.Sectors) false), (A.imm (List.map c_S_Write y3.1.Pending) false), (A.v (Value.int .i64 y3.1.Left)), (A.v (Value.bool y3.1.Stopped))], Blk.box [(A.imm (List.map (cL c8) y7.1.Sectors) false), (A.imm (List.map c_S_Write y7.1.Pending) false), (A.v (Value.int .i64 y7.1.Left)), (A.v (Value.bool y7.1.Stopped))], Blk.box [(A.imm (List.map (cL c8) y8.1.Sectors) false), (A.imm (List.map c_S_Write y8.1.Pending) false), (A.v (Value.int .i64 y8.1.Left)), (A.v (Value.bool y8.1.Stopped))]] (A.v (Value.int .i64 0)), snap [Blk.box [(A.imm (List.map (cL c8) y1.1.Sectors) false), (A.imm (List.map c_S_Write y1.1.Pending) false), (A.v (Value.int .i64 y1.1.Left)), (A.v (Value.bool y1.1.Stopped))], Blk.box [(A.imm (List.map (cL c8) y2.1.Sectors) false), (A.imm (List.map c_S_Write y2.1.Pending) false), (A.v (Value.int .i64 y2.1.Left)), (A.v (Value.bool y2.1.Stopped))], Blk.box [(A.imm (List.map (cL c8) y3.1.Sectors) false), (A.imm (List.map c_S_Write y3.1.Pending) false), (A.v (Value.int .i64 y3.1.Left)), (A.v (Value.bool y3.1.Stopped))], Blk.box [(A.imm (List.map (cL c8) y7.1.Sectors) false), (A.imm (List.map c_S_Write y7.1.Pending) false), (A.v (Value.int .i64 y7.1.Left)), (A.v (Value.bool y7.1.Stopped))], Blk.box [(A.imm (List.map (cL c8) y8.1.Sectors) false), (A.imm (List.map c_S_Write y8.1.Pending) false), (A.v (Value.int .i64 y8.1.Left)), (A.v (Value.bool y8.1.Stopped))]] (A.imm (List.map c8 y9) false)] = _; simp only [snap, snapW, snapWs, snapWss, snapWss_map, trim, List.map_cons, List.map_nil, fl_cI, fl_c8, fl_cB, fl_cS, fl_cL, fl_S_Write, fl_S_Disk, fl_S_kinespherelaw04_Act]; exact h19 y8.1 0 y9) fun y10 => ?_
  refine .st (v := (A.agg [(A.imm (List.map (cL c8) y10.1.Sectors) false), (A.imm (List.map c_S_Write y10.1.Pending) false), (A.v (Value.int .i64 y10.1.Left)), (A.v (Value.bool y10.1.Stopped))])) (by kernel_rfl) ?_
  refine .st (v := (A.v (Value.int .i64 y10.2))) (by kernel_rfl) ?_
  refine .st (v := [Blk.box [(A.imm (List.map (cL c8) y1.1.Sectors) false), (A.imm (List.map c_S_Write y1.1.Pending) false), (A.v (Value.int .i64 y1.1.Left)), (A.v (Value.bool y1.1.Stopped))], Blk.box [(A.imm (List.map (cL c8) y2.1.Sectors) false), (A.imm (List.map c_S_Write y2.1.Pending) false), (A.v (Value.int .i64 y2.1.Left)), (A.v (Value.bool y2.1.Stopped))], Blk.box [(A.imm (List.map (cL c8) y3.1.Sectors) false), (A.imm (List.map c_S_Write y3.1.Pending) false), (A.v (Value.int .i64 y3.1.Left)), (A.v (Value.bool y3.1.Stopped))], Blk.box [(A.imm (List.map (cL c8) y7.1.Sectors) false), (A.imm (List.map c_S_Write y7.1.Pending) false), (A.v (Value.int .i64 y7.1.Left)), (A.v (Value.bool y7.1.Stopped))], Blk.box [(A.imm (List.map (cL c8) y10.1.Sectors) false), (A.imm (List.map c_S_Write y10.1.Pending) false), (A.v (Value.int .i64 y10.1.Left)), (A.v (Value.bool y10.1.Stopped))]]) (by kernel_rfl) ?_
  refine .st (v := (A.agg [(A.imm (List.map (cL c8) y10.1.Sectors) false), (A.imm (List.map c_S_Write y10.1.Pending) false), (A.v (Value.int .i64 y10.1.Left)), (A.v (Value.bool y10.1.Stopped))])) (by kernel_rfl) ?_
  refine .bd (g := fun (y : (S_Disk × Int)) => (A.tup [(A.agg [(A.imm (List.map (cL c8) y.1.Sectors) false), (A.imm (List.map c_S_Write y.1.Pending) false), (A.v (Value.int .i64 y.1.Left)), (A.v (Value.bool y.1.Stopped))]), (A.v (Value.int .i64 y.2))])) (by show C 23 [snap [Blk.box [(A.imm (List.map (cL c8) y1.1.Sectors) false), (A.imm (List.map c_S_Write y1.1.Pending) false), (A.v (Value.int .i64 y1.1.Left)), (A.v (Value.bool y1.1.Stopped))], Blk.box [(A.imm (List.map (cL c8) y2.1.Sectors) false), (A.imm (List.map c_S_Write y2.1.Pending) false), (A.v (Value.int .i64 y2.1.Left)), (A.v (Value.bool y2.1.Stopped))], Blk.box [(A.imm (List.map (cL c8) y3.1.Sectors) false), (A.imm (List.map c_S_Write y3.1.Pending) false), (A.v (Value.int .i64 y3.1.Left)), (A.v (Value.bool y3.1.Stopped))], Blk.box [(A.imm (List.map (cL c8) y7.1.Sectors) false), (A.imm (List.map c_S_Write y7.1.Pending) false), (A.v (Value.int .i64 y7.1.Left)), (A.v (Value.bool y7.1.Stopped))], Blk.box [(A.imm (List.map (cL c8) y10.1.Sectors) false), (A.imm (List.map c_S_Write y10.1.Pending) false), (A.v (Value.int .i64 y10.1.Left)), (A.v (Value.bool y10.1.Stopped))]] (A.agg [(A.imm (List.map (cL c8) y10.1.Sectors) false), (A.imm (List.map c_S_Write y10.1.Pending) false), (A.v (Value.int .i64 y10.1.Left)), (A.v (Value.bool y10.1.Stopped))])] = _; simp only [snap, snapW, snapWs, snapWss, snapWss_map, trim, List.map_cons, List.map_nil, fl_cI, fl_c8, fl_cB, fl_cS, fl_cL, fl_S_Write, fl_S_Disk, fl_S_kinespherelaw04_Act]; exact h23 y10.1) fun y11 => ?_
  refine .st (v := (A.agg [(A.imm (List.map (cL c8) y11.1.Sectors) false), (A.imm (List.map c_S_Write y11.1.Pending) false), (A.v (Value.int .i64 y11.1.Left)), (A.v (Value.bool y11.1.Stopped))])) (by kernel_rfl) ?_
  refine .st (v := (A.v (Value.int .i64 y11.2))) (by kernel_rfl) ?_
  refine .st (v := ((A.ptr 5 0), [Blk.box [(A.imm (List.map (cL c8) y1.1.Sectors) false), (A.imm (List.map c_S_Write y1.1.Pending) false), (A.v (Value.int .i64 y1.1.Left)), (A.v (Value.bool y1.1.Stopped))], Blk.box [(A.imm (List.map (cL c8) y2.1.Sectors) false), (A.imm (List.map c_S_Write y2.1.Pending) false), (A.v (Value.int .i64 y2.1.Left)), (A.v (Value.bool y2.1.Stopped))], Blk.box [(A.imm (List.map (cL c8) y3.1.Sectors) false), (A.imm (List.map c_S_Write y3.1.Pending) false), (A.v (Value.int .i64 y3.1.Left)), (A.v (Value.bool y3.1.Stopped))], Blk.box [(A.imm (List.map (cL c8) y7.1.Sectors) false), (A.imm (List.map c_S_Write y7.1.Pending) false), (A.v (Value.int .i64 y7.1.Left)), (A.v (Value.bool y7.1.Stopped))], Blk.box [(A.imm (List.map (cL c8) y10.1.Sectors) false), (A.imm (List.map c_S_Write y10.1.Pending) false), (A.v (Value.int .i64 y10.1.Left)), (A.v (Value.bool y10.1.Stopped))], Blk.box [(A.imm [] true), (A.imm [] true), (A.v (Value.int .i64 0)), (A.v (Value.bool false))]])) (by kernel_rfl) ?_
  refine .st (v := [Blk.box [(A.imm (List.map (cL c8) y1.1.Sectors) false), (A.imm (List.map c_S_Write y1.1.Pending) false), (A.v (Value.int .i64 y1.1.Left)), (A.v (Value.bool y1.1.Stopped))], Blk.box [(A.imm (List.map (cL c8) y2.1.Sectors) false), (A.imm (List.map c_S_Write y2.1.Pending) false), (A.v (Value.int .i64 y2.1.Left)), (A.v (Value.bool y2.1.Stopped))], Blk.box [(A.imm (List.map (cL c8) y3.1.Sectors) false), (A.imm (List.map c_S_Write y3.1.Pending) false), (A.v (Value.int .i64 y3.1.Left)), (A.v (Value.bool y3.1.Stopped))], Blk.box [(A.imm (List.map (cL c8) y7.1.Sectors) false), (A.imm (List.map c_S_Write y7.1.Pending) false), (A.v (Value.int .i64 y7.1.Left)), (A.v (Value.bool y7.1.Stopped))], Blk.box [(A.imm (List.map (cL c8) y10.1.Sectors) false), (A.imm (List.map c_S_Write y10.1.Pending) false), (A.v (Value.int .i64 y10.1.Left)), (A.v (Value.bool y10.1.Stopped))], Blk.box [(A.imm (List.map (cL c8) y11.1.Sectors) false), (A.imm (List.map c_S_Write y11.1.Pending) false), (A.v (Value.int .i64 y11.1.Left)), (A.v (Value.bool y11.1.Stopped))]]) (by kernel_rfl) ?_
  refine .st (v := (A.v (Value.bool (y1.2 != 1)))) (aBin_neq ..) ?_
  refine .bg (fun t (y : Bool) => ∃ j14 j15 : A, t = [(A.v (Value.bool y)), j14, j15]) ?_ ?_
  · refine .biH (fun hk12 => ?_) (fun hk12 => ?_)
    · exact .lg ⟨_, _, rfl⟩
    · refine .st (v := (A.v (Value.bool (y2.2 != 0)))) (aBin_neq ..) ?_
      exact .lg ⟨_, _, rfl⟩
  rintro _ y13 ⟨j14, j15, rfl⟩
  iterate 3 refine .uc ?_
  refine .bg (fun t (y : Bool) => ∃ j18 j19 : A, t = [(A.v (Value.bool y)), j18, j19]) ?_ ?_
  · refine .biH (fun hk16 => ?_) (fun hk16 => ?_)
    · exact .lg ⟨_, _, rfl⟩
    · refine .st (v := (A.v (Value.bool (y3.2 != 0)))) (aBin_neq ..) ?_
      exact .lg ⟨_, _, rfl⟩
  rintro _ y17 ⟨j18, j19, rfl⟩
  iterate 3 refine .uc ?_
  refine .bg (fun t (y : Bool) => ∃ j22 j23 : A, t = [(A.v (Value.bool y)), j22, j23]) ?_ ?_
  · refine .biH (fun hk20 => ?_) (fun hk20 => ?_)
    · exact .lg ⟨_, _, rfl⟩
    · refine .st (v := (A.v (Value.bool (y4.2 != 0)))) (aBin_neq ..) ?_
      exact .lg ⟨_, _, rfl⟩
  rintro _ y21 ⟨j22, j23, rfl⟩
  iterate 3 refine .uc ?_
  refine .bg (fun t (y : Bool) => ∃ j26 j27 : A, t = [(A.v (Value.bool y)), j26, j27]) ?_ ?_
  · refine .biH (fun hk24 => ?_) (fun hk24 => ?_)
    · exact .lg ⟨_, _, rfl⟩
    · refine .st (v := (A.v (Value.bool (y5.2 != 40)))) (aBin_neq ..) ?_
      exact .lg ⟨_, _, rfl⟩
  rintro _ y25 ⟨j26, j27, rfl⟩
  iterate 3 refine .uc ?_
  refine .bg (fun t (y : Bool) => ∃ j30 j31 : A, t = [(A.v (Value.bool y)), j30, j31]) ?_ ?_
  · refine .biH (fun hk28 => ?_) (fun hk28 => ?_)
    · exact .lg ⟨_, _, rfl⟩
    · refine .st (v := (A.v (Value.bool (y7.2 != 1)))) (aBin_neq ..) ?_
      exact .lg ⟨_, _, rfl⟩
  rintro _ y29 ⟨j30, j31, rfl⟩
  iterate 3 refine .uc ?_
  refine .bg (fun t (y : Bool) => ∃ j34 j35 : A, t = [(A.v (Value.bool y)), j34, j35]) ?_ ?_
  · refine .biH (fun hk32 => ?_) (fun hk32 => ?_)
    · exact .lg ⟨_, _, rfl⟩
    · refine .st (v := (A.v (Value.bool (y8.2 != 0)))) (aBin_neq ..) ?_
      exact .lg ⟨_, _, rfl⟩
  rintro _ y33 ⟨j34, j35, rfl⟩
  iterate 3 refine .uc ?_
  refine .bg (fun t (y : Bool) => ∃ j38 j39 : A, t = [(A.v (Value.bool y)), j38, j39]) ?_ ?_
  · refine .biH (fun hk36 => ?_) (fun hk36 => ?_)
    · exact .lg ⟨_, _, rfl⟩
    · refine .st (v := (A.v (Value.bool (y10.2 != 0)))) (aBin_neq ..) ?_
      exact .lg ⟨_, _, rfl⟩
  rintro _ y37 ⟨j38, j39, rfl⟩
  iterate 3 refine .uc ?_
  refine .bg (fun t (y : Bool) => ∃ j42 j43 : A, t = [(A.v (Value.bool y)), j42, j43]) ?_ ?_
  · refine .biH (fun hk40 => ?_) (fun hk40 => ?_)
    · exact .lg ⟨_, _, rfl⟩
    · refine .st (v := (A.v (Value.bool (y11.2 != 40)))) (aBin_neq ..) ?_
      exact .lg ⟨_, _, rfl⟩
  rintro _ y41 ⟨j42, j43, rfl⟩
  iterate 3 refine .uc ?_
  refine .bg (fun t (y : Bool) => ∃ j46 j47 j48 : A, t = [(A.v (Value.bool y)), j46, j47, j48]) ?_ ?_
  · refine .biH (fun hk44 => ?_) (fun hk44 => ?_)
    · exact .lg ⟨_, _, _, rfl⟩
    · refine .st (v := (A.ptr 5 3)) (by kernel_rfl) ?_
      refine .st (v := (A.v (Value.bool y11.1.Stopped))) (by kernel_rfl) ?_
      refine .st (v := (A.v (Value.bool (!y11.1.Stopped)))) (by kernel_rfl) ?_
      exact .lg ⟨_, _, _, rfl⟩
  rintro _ y45 ⟨j46, j47, j48, rfl⟩
  iterate 4 refine .uc ?_
  refine .biHN (fun hk49 => ?_) (fun hk49 => ?_)
  · exact .lf rfl rfl ⟨_, rfl, rfl⟩
  · refine .st (v := (A.agg [(A.imm (List.map (cL c8) y11.1.Sectors) false), (A.imm (List.map c_S_Write y11.1.Pending) false), (A.v (Value.int .i64 y11.1.Left)), (A.v (Value.bool y11.1.Stopped))])) (by kernel_rfl) ?_
    refine .bd (g := fun (y : S_Disk) => (A.agg [(A.imm (List.map (cL c8) y.Sectors) false), (A.imm (List.map c_S_Write y.Pending) false), (A.v (Value.int .i64 y.Left)), (A.v (Value.bool y.Stopped))])) (by show C 17 [snap [Blk.box [(A.imm (List.map (cL c8) y1.1.Sectors) false), (A.imm (List.map c_S_Write y1.1.Pending) false), (A.v (Value.int .i64 y1.1.Left)), (A.v (Value.bool y1.1.Stopped))], Blk.box [(A.imm (List.map (cL c8) y2.1.Sectors) false), (A.imm (List.map c_S_Write y2.1.Pending) false), (A.v (Value.int .i64 y2.1.Left)), (A.v (Value.bool y2.1.Stopped))], Blk.box [(A.imm (List.map (cL c8) y3.1.Sectors) false), (A.imm (List.map c_S_Write y3.1.Pending) false), (A.v (Value.int .i64 y3.1.Left)), (A.v (Value.bool y3.1.Stopped))], Blk.box [(A.imm (List.map (cL c8) y7.1.Sectors) false), (A.imm (List.map c_S_Write y7.1.Pending) false), (A.v (Value.int .i64 y7.1.Left)), (A.v (Value.bool y7.1.Stopped))], Blk.box [(A.imm (List.map (cL c8) y10.1.Sectors) false), (A.imm (List.map c_S_Write y10.1.Pending) false), (A.v (Value.int .i64 y10.1.Left)), (A.v (Value.bool y10.1.Stopped))], Blk.box [(A.imm (List.map (cL c8) y11.1.Sectors) false), (A.imm (List.map c_S_Write y11.1.Pending) false), (A.v (Value.int .i64 y11.1.Left)), (A.v (Value.bool y11.1.Stopped))]] (A.agg [(A.imm (List.map (cL c8) y11.1.Sectors) false), (A.imm (List.map c_S_Write y11.1.Pending) false), (A.v (Value.int .i64 y11.1.Left)), (A.v (Value.bool y11.1.Stopped))])] = _; simp only [snap, snapW, snapWs, snapWss, snapWss_map, trim, List.map_cons, List.map_nil, fl_cI, fl_c8, fl_cB, fl_cS, fl_cL, fl_S_Write, fl_S_Disk, fl_S_kinespherelaw04_Act]; exact h17 y11.1) fun y50 => ?_
    refine .st (v := [Blk.box [(A.imm (List.map (cL c8) y1.1.Sectors) false), (A.imm (List.map c_S_Write y1.1.Pending) false), (A.v (Value.int .i64 y1.1.Left)), (A.v (Value.bool y1.1.Stopped))], Blk.box [(A.imm (List.map (cL c8) y2.1.Sectors) false), (A.imm (List.map c_S_Write y2.1.Pending) false), (A.v (Value.int .i64 y2.1.Left)), (A.v (Value.bool y2.1.Stopped))], Blk.box [(A.imm (List.map (cL c8) y3.1.Sectors) false), (A.imm (List.map c_S_Write y3.1.Pending) false), (A.v (Value.int .i64 y3.1.Left)), (A.v (Value.bool y3.1.Stopped))], Blk.box [(A.imm (List.map (cL c8) y7.1.Sectors) false), (A.imm (List.map c_S_Write y7.1.Pending) false), (A.v (Value.int .i64 y7.1.Left)), (A.v (Value.bool y7.1.Stopped))], Blk.box [(A.imm (List.map (cL c8) y10.1.Sectors) false), (A.imm (List.map c_S_Write y10.1.Pending) false), (A.v (Value.int .i64 y10.1.Left)), (A.v (Value.bool y10.1.Stopped))], Blk.box [(A.imm (List.map (cL c8) y50.Sectors) false), (A.imm (List.map c_S_Write y50.Pending) false), (A.v (Value.int .i64 y50.Left)), (A.v (Value.bool y50.Stopped))]]) (by kernel_rfl) ?_
    refine .st (v := (A.agg [(A.imm (List.map (cL c8) y50.Sectors) false), (A.imm (List.map c_S_Write y50.Pending) false), (A.v (Value.int .i64 y50.Left)), (A.v (Value.bool y50.Stopped))])) (by kernel_rfl) ?_
    refine .bd (g := fun (y : ((List UInt8) × Int)) => (A.tup [(A.imm (List.map c8 y.1) false), (A.v (Value.int .i64 y.2))])) (by show C 21 [snap [Blk.box [(A.imm (List.map (cL c8) y1.1.Sectors) false), (A.imm (List.map c_S_Write y1.1.Pending) false), (A.v (Value.int .i64 y1.1.Left)), (A.v (Value.bool y1.1.Stopped))], Blk.box [(A.imm (List.map (cL c8) y2.1.Sectors) false), (A.imm (List.map c_S_Write y2.1.Pending) false), (A.v (Value.int .i64 y2.1.Left)), (A.v (Value.bool y2.1.Stopped))], Blk.box [(A.imm (List.map (cL c8) y3.1.Sectors) false), (A.imm (List.map c_S_Write y3.1.Pending) false), (A.v (Value.int .i64 y3.1.Left)), (A.v (Value.bool y3.1.Stopped))], Blk.box [(A.imm (List.map (cL c8) y7.1.Sectors) false), (A.imm (List.map c_S_Write y7.1.Pending) false), (A.v (Value.int .i64 y7.1.Left)), (A.v (Value.bool y7.1.Stopped))], Blk.box [(A.imm (List.map (cL c8) y10.1.Sectors) false), (A.imm (List.map c_S_Write y10.1.Pending) false), (A.v (Value.int .i64 y10.1.Left)), (A.v (Value.bool y10.1.Stopped))], Blk.box [(A.imm (List.map (cL c8) y50.Sectors) false), (A.imm (List.map c_S_Write y50.Pending) false), (A.v (Value.int .i64 y50.Left)), (A.v (Value.bool y50.Stopped))]] (A.agg [(A.imm (List.map (cL c8) y50.Sectors) false), (A.imm (List.map c_S_Write y50.Pending) false), (A.v (Value.int .i64 y50.Left)), (A.v (Value.bool y50.Stopped))]), snap [Blk.box [(A.imm (List.map (cL c8) y1.1.Sectors) false), (A.imm (List.map c_S_Write y1.1.Pending) false), (A.v (Value.int .i64 y1.1.Left)), (A.v (Value.bool y1.1.Stopped))], Blk.box [(A.imm (List.map (cL c8) y2.1.Sectors) false), (A.imm (List.map c_S_Write y2.1.Pending) false), (A.v (Value.int .i64 y2.1.Left)), (A.v (Value.bool y2.1.Stopped))], Blk.box [(A.imm (List.map (cL c8) y3.1.Sectors) false), (A.imm (List.map c_S_Write y3.1.Pending) false), (A.v (Value.int .i64 y3.1.Left)), (A.v (Value.bool y3.1.Stopped))], Blk.box [(A.imm (List.map (cL c8) y7.1.Sectors) false), (A.imm (List.map c_S_Write y7.1.Pending) false), (A.v (Value.int .i64 y7.1.Left)), (A.v (Value.bool y7.1.Stopped))], Blk.box [(A.imm (List.map (cL c8) y10.1.Sectors) false), (A.imm (List.map c_S_Write y10.1.Pending) false), (A.v (Value.int .i64 y10.1.Left)), (A.v (Value.bool y10.1.Stopped))], Blk.box [(A.imm (List.map (cL c8) y50.Sectors) false), (A.imm (List.map c_S_Write y50.Pending) false), (A.v (Value.int .i64 y50.Left)), (A.v (Value.bool y50.Stopped))]] (A.v (Value.int .i64 1))] = _; simp only [snap, snapW, snapWs, snapWss, snapWss_map, trim, List.map_cons, List.map_nil, fl_cI, fl_c8, fl_cB, fl_cS, fl_cL, fl_S_Write, fl_S_Disk, fl_S_kinespherelaw04_Act]; exact h21 y50 1) fun y51 => ?_
    refine .st (v := (A.imm (List.map c8 y51.1) false)) (by kernel_rfl) ?_
    refine .st (v := (A.v (Value.int .i64 y51.2))) (by kernel_rfl) ?_
    refine .st (v := (A.agg [(A.imm (List.map (cL c8) y50.Sectors) false), (A.imm (List.map c_S_Write y50.Pending) false), (A.v (Value.int .i64 y50.Left)), (A.v (Value.bool y50.Stopped))])) (by kernel_rfl) ?_
    refine .bd (g := fun (y : ((List UInt8) × Int)) => (A.tup [(A.imm (List.map c8 y.1) false), (A.v (Value.int .i64 y.2))])) (by show C 21 [snap [Blk.box [(A.imm (List.map (cL c8) y1.1.Sectors) false), (A.imm (List.map c_S_Write y1.1.Pending) false), (A.v (Value.int .i64 y1.1.Left)), (A.v (Value.bool y1.1.Stopped))], Blk.box [(A.imm (List.map (cL c8) y2.1.Sectors) false), (A.imm (List.map c_S_Write y2.1.Pending) false), (A.v (Value.int .i64 y2.1.Left)), (A.v (Value.bool y2.1.Stopped))], Blk.box [(A.imm (List.map (cL c8) y3.1.Sectors) false), (A.imm (List.map c_S_Write y3.1.Pending) false), (A.v (Value.int .i64 y3.1.Left)), (A.v (Value.bool y3.1.Stopped))], Blk.box [(A.imm (List.map (cL c8) y7.1.Sectors) false), (A.imm (List.map c_S_Write y7.1.Pending) false), (A.v (Value.int .i64 y7.1.Left)), (A.v (Value.bool y7.1.Stopped))], Blk.box [(A.imm (List.map (cL c8) y10.1.Sectors) false), (A.imm (List.map c_S_Write y10.1.Pending) false), (A.v (Value.int .i64 y10.1.Left)), (A.v (Value.bool y10.1.Stopped))], Blk.box [(A.imm (List.map (cL c8) y50.Sectors) false), (A.imm (List.map c_S_Write y50.Pending) false), (A.v (Value.int .i64 y50.Left)), (A.v (Value.bool y50.Stopped))]] (A.agg [(A.imm (List.map (cL c8) y50.Sectors) false), (A.imm (List.map c_S_Write y50.Pending) false), (A.v (Value.int .i64 y50.Left)), (A.v (Value.bool y50.Stopped))]), snap [Blk.box [(A.imm (List.map (cL c8) y1.1.Sectors) false), (A.imm (List.map c_S_Write y1.1.Pending) false), (A.v (Value.int .i64 y1.1.Left)), (A.v (Value.bool y1.1.Stopped))], Blk.box [(A.imm (List.map (cL c8) y2.1.Sectors) false), (A.imm (List.map c_S_Write y2.1.Pending) false), (A.v (Value.int .i64 y2.1.Left)), (A.v (Value.bool y2.1.Stopped))], Blk.box [(A.imm (List.map (cL c8) y3.1.Sectors) false), (A.imm (List.map c_S_Write y3.1.Pending) false), (A.v (Value.int .i64 y3.1.Left)), (A.v (Value.bool y3.1.Stopped))], Blk.box [(A.imm (List.map (cL c8) y7.1.Sectors) false), (A.imm (List.map c_S_Write y7.1.Pending) false), (A.v (Value.int .i64 y7.1.Left)), (A.v (Value.bool y7.1.Stopped))], Blk.box [(A.imm (List.map (cL c8) y10.1.Sectors) false), (A.imm (List.map c_S_Write y10.1.Pending) false), (A.v (Value.int .i64 y10.1.Left)), (A.v (Value.bool y10.1.Stopped))], Blk.box [(A.imm (List.map (cL c8) y50.Sectors) false), (A.imm (List.map c_S_Write y50.Pending) false), (A.v (Value.int .i64 y50.Left)), (A.v (Value.bool y50.Stopped))]] (A.v (Value.int .i64 0))] = _; simp only [snap, snapW, snapWs, snapWss, snapWss_map, trim, List.map_cons, List.map_nil, fl_cI, fl_c8, fl_cB, fl_cS, fl_cL, fl_S_Write, fl_S_Disk, fl_S_kinespherelaw04_Act]; exact h21 y50 0) fun y52 => ?_
    refine .st (v := (A.imm (List.map c8 y52.1) false)) (by kernel_rfl) ?_
    refine .st (v := (A.v (Value.int .i64 y52.2))) (by kernel_rfl) ?_
    refine .st (v := (A.agg [(A.imm (List.map (cL c8) y3.1.Sectors) false), (A.imm (List.map c_S_Write y3.1.Pending) false), (A.v (Value.int .i64 y3.1.Left)), (A.v (Value.bool y3.1.Stopped))])) (by kernel_rfl) ?_
    refine .bd (g := fun (y : S_Disk) => (A.agg [(A.imm (List.map (cL c8) y.Sectors) false), (A.imm (List.map c_S_Write y.Pending) false), (A.v (Value.int .i64 y.Left)), (A.v (Value.bool y.Stopped))])) (by show C 17 [snap [Blk.box [(A.imm (List.map (cL c8) y1.1.Sectors) false), (A.imm (List.map c_S_Write y1.1.Pending) false), (A.v (Value.int .i64 y1.1.Left)), (A.v (Value.bool y1.1.Stopped))], Blk.box [(A.imm (List.map (cL c8) y2.1.Sectors) false), (A.imm (List.map c_S_Write y2.1.Pending) false), (A.v (Value.int .i64 y2.1.Left)), (A.v (Value.bool y2.1.Stopped))], Blk.box [(A.imm (List.map (cL c8) y3.1.Sectors) false), (A.imm (List.map c_S_Write y3.1.Pending) false), (A.v (Value.int .i64 y3.1.Left)), (A.v (Value.bool y3.1.Stopped))], Blk.box [(A.imm (List.map (cL c8) y7.1.Sectors) false), (A.imm (List.map c_S_Write y7.1.Pending) false), (A.v (Value.int .i64 y7.1.Left)), (A.v (Value.bool y7.1.Stopped))], Blk.box [(A.imm (List.map (cL c8) y10.1.Sectors) false), (A.imm (List.map c_S_Write y10.1.Pending) false), (A.v (Value.int .i64 y10.1.Left)), (A.v (Value.bool y10.1.Stopped))], Blk.box [(A.imm (List.map (cL c8) y50.Sectors) false), (A.imm (List.map c_S_Write y50.Pending) false), (A.v (Value.int .i64 y50.Left)), (A.v (Value.bool y50.Stopped))]] (A.agg [(A.imm (List.map (cL c8) y3.1.Sectors) false), (A.imm (List.map c_S_Write y3.1.Pending) false), (A.v (Value.int .i64 y3.1.Left)), (A.v (Value.bool y3.1.Stopped))])] = _; simp only [snap, snapW, snapWs, snapWss, snapWss_map, trim, List.map_cons, List.map_nil, fl_cI, fl_c8, fl_cB, fl_cS, fl_cL, fl_S_Write, fl_S_Disk, fl_S_kinespherelaw04_Act]; exact h17 y3.1) fun y53 => ?_
    refine .bd (g := fun (y : ((List UInt8) × Int)) => (A.tup [(A.imm (List.map c8 y.1) false), (A.v (Value.int .i64 y.2))])) (by show C 21 [snap [Blk.box [(A.imm (List.map (cL c8) y1.1.Sectors) false), (A.imm (List.map c_S_Write y1.1.Pending) false), (A.v (Value.int .i64 y1.1.Left)), (A.v (Value.bool y1.1.Stopped))], Blk.box [(A.imm (List.map (cL c8) y2.1.Sectors) false), (A.imm (List.map c_S_Write y2.1.Pending) false), (A.v (Value.int .i64 y2.1.Left)), (A.v (Value.bool y2.1.Stopped))], Blk.box [(A.imm (List.map (cL c8) y3.1.Sectors) false), (A.imm (List.map c_S_Write y3.1.Pending) false), (A.v (Value.int .i64 y3.1.Left)), (A.v (Value.bool y3.1.Stopped))], Blk.box [(A.imm (List.map (cL c8) y7.1.Sectors) false), (A.imm (List.map c_S_Write y7.1.Pending) false), (A.v (Value.int .i64 y7.1.Left)), (A.v (Value.bool y7.1.Stopped))], Blk.box [(A.imm (List.map (cL c8) y10.1.Sectors) false), (A.imm (List.map c_S_Write y10.1.Pending) false), (A.v (Value.int .i64 y10.1.Left)), (A.v (Value.bool y10.1.Stopped))], Blk.box [(A.imm (List.map (cL c8) y50.Sectors) false), (A.imm (List.map c_S_Write y50.Pending) false), (A.v (Value.int .i64 y50.Left)), (A.v (Value.bool y50.Stopped))]] (A.agg [(A.imm (List.map (cL c8) y53.Sectors) false), (A.imm (List.map c_S_Write y53.Pending) false), (A.v (Value.int .i64 y53.Left)), (A.v (Value.bool y53.Stopped))]), snap [Blk.box [(A.imm (List.map (cL c8) y1.1.Sectors) false), (A.imm (List.map c_S_Write y1.1.Pending) false), (A.v (Value.int .i64 y1.1.Left)), (A.v (Value.bool y1.1.Stopped))], Blk.box [(A.imm (List.map (cL c8) y2.1.Sectors) false), (A.imm (List.map c_S_Write y2.1.Pending) false), (A.v (Value.int .i64 y2.1.Left)), (A.v (Value.bool y2.1.Stopped))], Blk.box [(A.imm (List.map (cL c8) y3.1.Sectors) false), (A.imm (List.map c_S_Write y3.1.Pending) false), (A.v (Value.int .i64 y3.1.Left)), (A.v (Value.bool y3.1.Stopped))], Blk.box [(A.imm (List.map (cL c8) y7.1.Sectors) false), (A.imm (List.map c_S_Write y7.1.Pending) false), (A.v (Value.int .i64 y7.1.Left)), (A.v (Value.bool y7.1.Stopped))], Blk.box [(A.imm (List.map (cL c8) y10.1.Sectors) false), (A.imm (List.map c_S_Write y10.1.Pending) false), (A.v (Value.int .i64 y10.1.Left)), (A.v (Value.bool y10.1.Stopped))], Blk.box [(A.imm (List.map (cL c8) y50.Sectors) false), (A.imm (List.map c_S_Write y50.Pending) false), (A.v (Value.int .i64 y50.Left)), (A.v (Value.bool y50.Stopped))]] (A.v (Value.int .i64 1))] = _; simp only [snap, snapW, snapWs, snapWss, snapWss_map, trim, List.map_cons, List.map_nil, fl_cI, fl_c8, fl_cB, fl_cS, fl_cL, fl_S_Write, fl_S_Disk, fl_S_kinespherelaw04_Act]; exact h21 y53 1) fun y54 => ?_
    refine .st (v := (A.imm (List.map c8 y54.1) false)) (by kernel_rfl) ?_
    refine .st (v := (A.v (Value.int .i64 y54.2))) (by kernel_rfl) ?_
    refine .st (v := (A.v (Value.bool (y51.2 == 0)))) (aBin_eql ..) ?_
    refine .bg (fun t (y : Bool) => ∃ j57 j58 : A, t = [(A.v (Value.bool y)), j57, j58]) ?_ ?_
    · refine .biH (fun hk55 => ?_) (fun hk55 => ?_)
      · refine .st (v := (A.v (Value.bool (y52.2 == 0)))) (aBin_eql ..) ?_
        exact .lg ⟨_, _, rfl⟩
      · exact .lg ⟨_, _, rfl⟩
    rintro _ y56 ⟨j57, j58, rfl⟩
    iterate 3 refine .uc ?_
    refine .bg (fun t (y : Bool) => ∃ j61 j62 : A, t = [(A.v (Value.bool y)), j61, j62]) ?_ ?_
    · refine .biH (fun hk59 => ?_) (fun hk59 => ?_)
      · refine .st (v := (A.v (Value.bool (y54.2 == 0)))) (aBin_eql ..) ?_
        exact .lg ⟨_, _, rfl⟩
      · exact .lg ⟨_, _, rfl⟩
    rintro _ y60 ⟨j61, j62, rfl⟩
    iterate 3 refine .uc ?_
    refine .bg (fun t (y : Bool) => ∃ j65 j66 j67 : A, t = [(A.v (Value.bool y)), j65, j66, j67]) ?_ ?_
    · refine .biH (fun hk63 => ?_) (fun hk63 => ?_)
      · refine .st (v := (A.v (Value.int .i64 ((y4.1.length : Int))))) (len_imm (e := 5) (h1 := by kernel_rfl) ..) ?_
        refine .st (v := (A.v (Value.bool (((y4.1.length : Int)) == 128)))) (aBin_eql ..) ?_
        exact .lg ⟨_, _, _, rfl⟩
      · exact .lg ⟨_, _, _, rfl⟩
    rintro _ y64 ⟨j65, j66, j67, rfl⟩
    iterate 4 refine .uc ?_
    refine .bg (fun t (y : Bool) => ∃ j71 j72 j73 j74 : A, t = [(A.v (Value.bool y)), j71, j72, j73, j74]) ?_ ?_
    · refine .biH (fun hk68 => ?_) (fun hk68 => ?_)
      · refine .bd (g := fun (y : UInt8) => A.ip (c8 y)) (idx_imm (e := 5) (es := 1) (h1 := by kernel_rfl) (h2 := by kernel_rfl) (h3 := fun _ => rfl) ..) fun y69 => ?_
        refine .st (v := (A.v (Value.int .u8 ((y69.toNat : Int))))) (by kernel_rfl) ?_
        refine .st (v := (A.v (Value.bool (((y69.toNat : Int)) == 7)))) (aBin_eql ..) ?_
        exact .lg ⟨_, _, _, _, rfl⟩
      · exact .lg ⟨_, _, _, _, rfl⟩
    rintro _ y70 ⟨j71, j72, j73, j74, rfl⟩
    iterate 5 refine .uc ?_
    refine .bg (fun t (y : Bool) => ∃ j77 j78 j79 : A, t = [(A.v (Value.bool y)), j77, j78, j79]) ?_ ?_
    · refine .biH (fun hk75 => ?_) (fun hk75 => ?_)
      · refine .st (v := (A.v (Value.int .i64 ((y51.1.length : Int))))) (len_imm (e := 5) (h1 := by kernel_rfl) ..) ?_
        refine .st (v := (A.v (Value.bool (((y51.1.length : Int)) == 128)))) (aBin_eql ..) ?_
        exact .lg ⟨_, _, _, rfl⟩
      · exact .lg ⟨_, _, _, rfl⟩
    rintro _ y76 ⟨j77, j78, j79, rfl⟩
    iterate 4 refine .uc ?_
    refine .bg (fun t (y : Bool) => ∃ j83 j84 j85 j86 : A, t = [(A.v (Value.bool y)), j83, j84, j85, j86]) ?_ ?_
    · refine .biH (fun hk80 => ?_) (fun hk80 => ?_)
      · refine .bd (g := fun (y : UInt8) => A.ip (c8 y)) (idx_imm (e := 5) (es := 1) (h1 := by kernel_rfl) (h2 := by kernel_rfl) (h3 := fun _ => rfl) ..) fun y81 => ?_
        refine .st (v := (A.v (Value.int .u8 ((y81.toNat : Int))))) (by kernel_rfl) ?_
        refine .st (v := (A.v (Value.bool (((y81.toNat : Int)) == 7)))) (aBin_eql ..) ?_
        exact .lg ⟨_, _, _, _, rfl⟩
      · exact .lg ⟨_, _, _, _, rfl⟩
    rintro _ y82 ⟨j83, j84, j85, j86, rfl⟩
    iterate 5 refine .uc ?_
    refine .bg (fun t (y : Bool) => ∃ j89 j90 j91 : A, t = [(A.v (Value.bool y)), j89, j90, j91]) ?_ ?_
    · refine .biH (fun hk87 => ?_) (fun hk87 => ?_)
      · refine .st (v := (A.v (Value.int .i64 ((y52.1.length : Int))))) (len_imm (e := 5) (h1 := by kernel_rfl) ..) ?_
        refine .st (v := (A.v (Value.bool (((y52.1.length : Int)) == 128)))) (aBin_eql ..) ?_
        exact .lg ⟨_, _, _, rfl⟩
      · exact .lg ⟨_, _, _, rfl⟩
    rintro _ y88 ⟨j89, j90, j91, rfl⟩
    iterate 4 refine .uc ?_
    refine .bg (fun t (y : Bool) => ∃ j95 j96 j97 j98 : A, t = [(A.v (Value.bool y)), j95, j96, j97, j98]) ?_ ?_
    · refine .biH (fun hk92 => ?_) (fun hk92 => ?_)
      · refine .bd (g := fun (y : UInt8) => A.ip (c8 y)) (idx_imm (e := 5) (es := 1) (h1 := by kernel_rfl) (h2 := by kernel_rfl) (h3 := fun _ => rfl) ..) fun y93 => ?_
        refine .st (v := (A.v (Value.int .u8 ((y93.toNat : Int))))) (by kernel_rfl) ?_
        refine .st (v := (A.v (Value.bool (((y93.toNat : Int)) == 8)))) (aBin_eql ..) ?_
        exact .lg ⟨_, _, _, _, rfl⟩
      · exact .lg ⟨_, _, _, _, rfl⟩
    rintro _ y94 ⟨j95, j96, j97, j98, rfl⟩
    iterate 5 refine .uc ?_
    refine .bg (fun t (y : Bool) => ∃ j102 j103 j104 j105 : A, t = [(A.v (Value.bool y)), j102, j103, j104, j105]) ?_ ?_
    · refine .biH (fun hk99 => ?_) (fun hk99 => ?_)
      · refine .bd (g := fun (y : UInt8) => A.ip (c8 y)) (idx_imm (e := 5) (es := 1) (h1 := by kernel_rfl) (h2 := by kernel_rfl) (h3 := fun _ => rfl) ..) fun y100 => ?_
        refine .st (v := (A.v (Value.int .u8 ((y100.toNat : Int))))) (by kernel_rfl) ?_
        refine .st (v := (A.v (Value.bool (((y100.toNat : Int)) == 0)))) (aBin_eql ..) ?_
        exact .lg ⟨_, _, _, _, rfl⟩
      · exact .lg ⟨_, _, _, _, rfl⟩
    rintro _ y101 ⟨j102, j103, j104, j105, rfl⟩
    iterate 5 refine .uc ?_
    refine .bg (fun t (y : Bool) => ∃ j108 j109 j110 : A, t = [(A.v (Value.bool y)), j108, j109, j110]) ?_ ?_
    · refine .biH (fun hk106 => ?_) (fun hk106 => ?_)
      · refine .st (v := (A.v (Value.int .i64 ((y54.1.length : Int))))) (len_imm (e := 5) (h1 := by kernel_rfl) ..) ?_
        refine .st (v := (A.v (Value.bool (((y54.1.length : Int)) == 128)))) (aBin_eql ..) ?_
        exact .lg ⟨_, _, _, rfl⟩
      · exact .lg ⟨_, _, _, rfl⟩
    rintro _ y107 ⟨j108, j109, j110, rfl⟩
    iterate 4 refine .uc ?_
    refine .bg (fun t (y : Bool) => ∃ j114 j115 j116 j117 : A, t = [(A.v (Value.bool y)), j114, j115, j116, j117]) ?_ ?_
    · refine .biH (fun hk111 => ?_) (fun hk111 => ?_)
      · refine .bd (g := fun (y : UInt8) => A.ip (c8 y)) (idx_imm (e := 5) (es := 1) (h1 := by kernel_rfl) (h2 := by kernel_rfl) (h3 := fun _ => rfl) ..) fun y112 => ?_
        refine .st (v := (A.v (Value.int .u8 ((y112.toNat : Int))))) (by kernel_rfl) ?_
        refine .st (v := (A.v (Value.bool (((y112.toNat : Int)) == 0)))) (aBin_eql ..) ?_
        exact .lg ⟨_, _, _, _, rfl⟩
      · exact .lg ⟨_, _, _, _, rfl⟩
    rintro _ y113 ⟨j114, j115, j116, j117, rfl⟩
    iterate 5 refine .uc ?_
    refine .bg (fun t (y : Bool) => ∃ j121 j122 j123 : A, t = [(A.v (Value.bool y)), j121, j122, j123]) ?_ ?_
    · refine .biH (fun hk118 => ?_) (fun hk118 => ?_)
      · refine .st (v := (A.agg [(A.imm [] true), (A.imm [] true), (A.v (Value.int .i64 0)), (A.v (Value.bool false))])) (by kernel_rfl) ?_
        refine .bd (g := fun (y : Int) => (A.v (Value.int .i64 y))) (by show C 15 [snap [Blk.box [(A.imm (List.map (cL c8) y1.1.Sectors) false), (A.imm (List.map c_S_Write y1.1.Pending) false), (A.v (Value.int .i64 y1.1.Left)), (A.v (Value.bool y1.1.Stopped))], Blk.box [(A.imm (List.map (cL c8) y2.1.Sectors) false), (A.imm (List.map c_S_Write y2.1.Pending) false), (A.v (Value.int .i64 y2.1.Left)), (A.v (Value.bool y2.1.Stopped))], Blk.box [(A.imm (List.map (cL c8) y3.1.Sectors) false), (A.imm (List.map c_S_Write y3.1.Pending) false), (A.v (Value.int .i64 y3.1.Left)), (A.v (Value.bool y3.1.Stopped))], Blk.box [(A.imm (List.map (cL c8) y7.1.Sectors) false), (A.imm (List.map c_S_Write y7.1.Pending) false), (A.v (Value.int .i64 y7.1.Left)), (A.v (Value.bool y7.1.Stopped))], Blk.box [(A.imm (List.map (cL c8) y10.1.Sectors) false), (A.imm (List.map c_S_Write y10.1.Pending) false), (A.v (Value.int .i64 y10.1.Left)), (A.v (Value.bool y10.1.Stopped))], Blk.box [(A.imm (List.map (cL c8) y50.Sectors) false), (A.imm (List.map c_S_Write y50.Pending) false), (A.v (Value.int .i64 y50.Left)), (A.v (Value.bool y50.Stopped))]] (A.agg [(A.imm [] true), (A.imm [] true), (A.v (Value.int .i64 0)), (A.v (Value.bool false))])] = _; simp only [snap, snapW, snapWs, snapWss, snapWss_map, trim, List.map_cons, List.map_nil, fl_cI, fl_c8, fl_cB, fl_cS, fl_cL, fl_S_Write, fl_S_Disk, fl_S_kinespherelaw04_Act]; exact h15 ((S_Disk.mk ([]) ([]) 0 false))) fun y119 => ?_
        refine .st (v := (A.v (Value.bool (y119 == 40)))) (aBin_eql ..) ?_
        exact .lg ⟨_, _, _, rfl⟩
      · exact .lg ⟨_, _, _, rfl⟩
    rintro _ y120 ⟨j121, j122, j123, rfl⟩
    iterate 4 refine .uc ?_
    refine .bg (fun t (y : Bool) => ∃ j127 j128 j129 j130 : A, t = [(A.v (Value.bool y)), j127, j128, j129, j130]) ?_ ?_
    · refine .biH (fun hk124 => ?_) (fun hk124 => ?_)
      · refine .st (v := (A.agg [(A.imm [] true), (A.imm [] true), (A.v (Value.int .i64 0)), (A.v (Value.bool false))])) (by kernel_rfl) ?_
        refine .bd (g := fun (y : S_Disk) => (A.agg [(A.imm (List.map (cL c8) y.Sectors) false), (A.imm (List.map c_S_Write y.Pending) false), (A.v (Value.int .i64 y.Left)), (A.v (Value.bool y.Stopped))])) (by show C 17 [snap [Blk.box [(A.imm (List.map (cL c8) y1.1.Sectors) false), (A.imm (List.map c_S_Write y1.1.Pending) false), (A.v (Value.int .i64 y1.1.Left)), (A.v (Value.bool y1.1.Stopped))], Blk.box [(A.imm (List.map (cL c8) y2.1.Sectors) false), (A.imm (List.map c_S_Write y2.1.Pending) false), (A.v (Value.int .i64 y2.1.Left)), (A.v (Value.bool y2.1.Stopped))], Blk.box [(A.imm (List.map (cL c8) y3.1.Sectors) false), (A.imm (List.map c_S_Write y3.1.Pending) false), (A.v (Value.int .i64 y3.1.Left)), (A.v (Value.bool y3.1.Stopped))], Blk.box [(A.imm (List.map (cL c8) y7.1.Sectors) false), (A.imm (List.map c_S_Write y7.1.Pending) false), (A.v (Value.int .i64 y7.1.Left)), (A.v (Value.bool y7.1.Stopped))], Blk.box [(A.imm (List.map (cL c8) y10.1.Sectors) false), (A.imm (List.map c_S_Write y10.1.Pending) false), (A.v (Value.int .i64 y10.1.Left)), (A.v (Value.bool y10.1.Stopped))], Blk.box [(A.imm (List.map (cL c8) y50.Sectors) false), (A.imm (List.map c_S_Write y50.Pending) false), (A.v (Value.int .i64 y50.Left)), (A.v (Value.bool y50.Stopped))]] (A.agg [(A.imm [] true), (A.imm [] true), (A.v (Value.int .i64 0)), (A.v (Value.bool false))])] = _; simp only [snap, snapW, snapWs, snapWss, snapWss_map, trim, List.map_cons, List.map_nil, fl_cI, fl_c8, fl_cB, fl_cS, fl_cL, fl_S_Write, fl_S_Disk, fl_S_kinespherelaw04_Act]; exact h17 ((S_Disk.mk ([]) ([]) 0 false))) fun y125 => ?_
        refine .st (v := (A.v (Value.int .i64 y125.Left))) (by kernel_rfl) ?_
        refine .st (v := (A.v (Value.bool (y125.Left == (-1))))) (aBin_eql ..) ?_
        exact .lg ⟨_, _, _, _, rfl⟩
      · exact .lg ⟨_, _, _, _, rfl⟩
    rintro _ y126 ⟨j127, j128, j129, j130, rfl⟩
    iterate 5 refine .uc ?_
    exact .lf rfl rfl ⟨_, rfl, rfl⟩

def G10  : Option Bool := F10 fuel0 

def Orc10 (C : Nat → List A → Option A) : Prop := ∀ (_ : Unit), C 10 [] = (G10 ).map fun y => (A.v (Value.bool y))

def F11_11_0 (n : Nat) (v1 : Bool) (v4 : (List (List UInt8))) (v5 : (List S_Write)) (v6 : Int) (v7 : Bool) : Nat → Int → Int → Option (Int)
  | 0, _, _ => none
  | m + 1, v2, v3 => Option.bind (bif (decide (v3 < ((v4.length : Int)))) then (some (decide (v2 ≤ 9000))) else (some false)) fun y9 => bif y9 then (Option.bind (getI v4 v3) fun y13 => F11_11_0 n v1 v4 v5 v6 v7 m (wr .i64 ((wr .i64 (v2 + 1)) + ((y13.length : Int)))) (wr .i64 (v3 + 1))) else (some v2)

theorem T11_11_0 (C : Nat → List A → Option A) (n : Nat) (v1 : Bool) (v4 : (List (List UInt8))) (v5 : (List S_Write)) (v6 : Int) (v7 : Bool) {ρ γ : Type} {φ : ρ → γ → Prop} {kL : R → Option ρ} {K : (Int) → Option γ} (kx kg : Nat → St → Option R) (kr : St → Option R) (kp : A → St → Option R) (x0 : ∀ (o0 : Int) (s4 : A), J φ (kx 0 (St.mk [(1, (A.ptr 0 0)), (2, (A.v (Value.bool v1))), (3, (A.v (Value.int .i64 o0))), (4, s4)] [Blk.box [(A.imm (List.map (cL c8) v4) false), (A.imm (List.map c_S_Write v5) false), (A.v (Value.int .i64 v6)), (A.v (Value.bool v7))]])) kL (K o0) some) :
    ∀ (m : Nat) (v2 : Int) (v3 : Int), J φ (loopR (cx C) (evCall (cx C) (n+8)) (evCallY (cx C) (n+8)) (n+8) 11 0 0 1 kx kg kr kp m (St.mk [(1, (A.ptr 0 0)), (2, (A.v (Value.bool v1))), (3, (A.v (Value.int .i64 v2))), (4, (A.v (Value.int .i64 v3)))] [Blk.box [(A.imm (List.map (cL c8) v4) false), (A.imm (List.map c_S_Write v5) false), (A.v (Value.int .i64 v6)), (A.v (Value.bool v7))]])) kL (F11_11_0 n v1 v4 v5 v6 v7 m v2 v3) K := by
  intro m
  induction m with
  | zero => intros; exact .nn
  | succ m ih =>
    intro v2 v3
    refine .lp (e11_0 ..) ?_
    unfold F11_11_0
    refine .st (v := (A.ptr 0 0)) (by kernel_rfl) ?_
    refine .st (v := (A.imm (List.map (cL c8) v4) false)) (by kernel_rfl) ?_
    refine .st (v := (A.v (Value.int .i64 ((v4.length : Int))))) (len_imm (e := 35) (h1 := by kernel_rfl) ..) ?_
    refine .st (v := (A.v (Value.bool (decide (v3 < ((v4.length : Int))))))) (aBin_lss ..) ?_
    refine .bg (fun t (y : Bool) => ∃ j10 j11 : A, t = [(A.v (Value.bool y)), j10, j11]) ?_ ?_
    · refine .biH (fun hk8 => ?_) (fun hk8 => ?_)
      · refine .st (v := (A.v (Value.bool (decide (v2 ≤ 9000))))) (aBin_leq ..) ?_
        exact .lg ⟨_, _, rfl⟩
      · exact .lg ⟨_, _, rfl⟩
    rintro _ y9 ⟨j10, j11, rfl⟩
    iterate 3 refine .uc ?_
    refine .biHN (fun hk12 => ?_) (fun hk12 => ?_)
    · refine .st (v := (A.v (Value.int .i64 (wr .i64 (v2 + 1))))) (aBin_add ..) ?_
      refine .st (v := (A.ptr 0 0)) (by kernel_rfl) ?_
      refine .st (v := (A.imm (List.map (cL c8) v4) false)) (by kernel_rfl) ?_
      refine .bd (g := fun (y : (List UInt8)) => A.ip ((cL c8) y)) (idx_imm (e := 35) (es := 1) (h1 := by kernel_rfl) (h2 := by kernel_rfl) (h3 := fun _ => rfl) ..) fun y13 => ?_
      refine .st (v := (A.imm (List.map c8 y13) false)) (by kernel_rfl) ?_
      refine .st (v := (A.v (Value.int .i64 ((y13.length : Int))))) (len_imm (e := 5) (h1 := by kernel_rfl) ..) ?_
      refine .st (v := (A.v (Value.int .i64 (wr .i64 ((wr .i64 (v2 + 1)) + ((y13.length : Int))))))) (aBin_add ..) ?_
      refine .st (v := (A.v (Value.int .i64 (wr .i64 (v3 + 1))))) (aBin_add ..) ?_
      refine .st (v := [Blk.box [(A.imm (List.map (cL c8) v4) false), (A.imm (List.map c_S_Write v5) false), (A.v (Value.int .i64 v6)), (A.v (Value.bool v7))]]) (by kernel_rfl) ?_
      refine .cT (by kernel_rfl) ?_
      exact ih _ _
    · exact .ex (x0 _ _)

def F11_11_1 (n : Nat) (v17 : Bool) (v20 : (List (List UInt8))) (v21 : (List S_Write)) (v22 : Int) (v23 : Bool) : Nat → Int → Int → Option (Int)
  | 0, _, _ => none
  | m + 1, v18, v19 => Option.bind (bif (decide (v19 < ((v21.length : Int)))) then (some (decide (v18 ≤ 9000))) else (some false)) fun y25 => bif y25 then (Option.bind (getI v21 v19) fun y29 => F11_11_1 n v17 v20 v21 v22 v23 m (wr .i64 ((wr .i64 (v18 + 1)) + ((y29.Data.length : Int)))) (wr .i64 (v19 + 1))) else (some v18)

theorem T11_11_1 (C : Nat → List A → Option A) (n : Nat) (v17 : Bool) (v20 : (List (List UInt8))) (v21 : (List S_Write)) (v22 : Int) (v23 : Bool) {ρ γ : Type} {φ : ρ → γ → Prop} {kL : R → Option ρ} {K : (Int) → Option γ} (kx kg : Nat → St → Option R) (kr : St → Option R) (kp : A → St → Option R) (x0 : ∀ (o0 : Int) (s1 : A) (s2 : A) (s5 : A), J φ (kx 2 (St.mk [(1, s1), (2, s2), (3, (A.v (Value.int .i64 o0))), (5, s5)] [Blk.box [(A.imm (List.map (cL c8) v20) false), (A.imm (List.map c_S_Write v21) false), (A.v (Value.int .i64 v22)), (A.v (Value.bool v23))]])) kL (K o0) some) :
    ∀ (m : Nat) (v18 : Int) (v19 : Int), J φ (loopR (cx C) (evCall (cx C) (n+8)) (evCallY (cx C) (n+8)) (n+8) 11 0 1 1 kx kg kr kp m (St.mk [(1, (A.ptr 0 0)), (2, (A.v (Value.bool v17))), (3, (A.v (Value.int .i64 v18))), (5, (A.v (Value.int .i64 v19)))] [Blk.box [(A.imm (List.map (cL c8) v20) false), (A.imm (List.map c_S_Write v21) false), (A.v (Value.int .i64 v22)), (A.v (Value.bool v23))]])) kL (F11_11_1 n v17 v20 v21 v22 v23 m v18 v19) K := by
  intro m
  induction m with
  | zero => intros; exact .nn
  | succ m ih =>
    intro v18 v19
    refine .lp (e11_1 ..) ?_
    unfold F11_11_1
    refine .st (v := (A.ptr 0 1)) (by kernel_rfl) ?_
    refine .st (v := (A.imm (List.map c_S_Write v21) false)) (by kernel_rfl) ?_
    refine .st (v := (A.v (Value.int .i64 ((v21.length : Int))))) (len_imm (e := 54) (h1 := by kernel_rfl) ..) ?_
    refine .st (v := (A.v (Value.bool (decide (v19 < ((v21.length : Int))))))) (aBin_lss ..) ?_
    refine .bg (fun t (y : Bool) => ∃ j26 j27 : A, t = [(A.v (Value.bool y)), j26, j27]) ?_ ?_
    · refine .biH (fun hk24 => ?_) (fun hk24 => ?_)
      · refine .st (v := (A.v (Value.bool (decide (v18 ≤ 9000))))) (aBin_leq ..) ?_
        exact .lg ⟨_, _, rfl⟩
      · exact .lg ⟨_, _, rfl⟩
    rintro _ y25 ⟨j26, j27, rfl⟩
    iterate 3 refine .uc ?_
    refine .biHN (fun hk28 => ?_) (fun hk28 => ?_)
    · refine .st (v := (A.v (Value.int .i64 (wr .i64 (v18 + 1))))) (aBin_add ..) ?_
      refine .st (v := (A.ptr 0 1)) (by kernel_rfl) ?_
      refine .st (v := (A.imm (List.map c_S_Write v21) false)) (by kernel_rfl) ?_
      refine .bd (g := fun (y : S_Write) => A.ip (c_S_Write y)) (idx_imm (e := 54) (es := 2) (h1 := by kernel_rfl) (h2 := by kernel_rfl) (h3 := fun _ => rfl) ..) fun y29 => ?_
      refine .st (v := (A.ip [(A.imm (List.map c8 y29.Data) false)])) (by kernel_rfl) ?_
      refine .st (v := (A.imm (List.map c8 y29.Data) false)) (by kernel_rfl) ?_
      refine .st (v := (A.v (Value.int .i64 ((y29.Data.length : Int))))) (len_imm (e := 5) (h1 := by kernel_rfl) ..) ?_
      refine .st (v := (A.v (Value.int .i64 (wr .i64 ((wr .i64 (v18 + 1)) + ((y29.Data.length : Int))))))) (aBin_add ..) ?_
      refine .st (v := (A.v (Value.int .i64 (wr .i64 (v19 + 1))))) (aBin_add ..) ?_
      refine .st (v := [Blk.box [(A.imm (List.map (cL c8) v20) false), (A.imm (List.map c_S_Write v21) false), (A.v (Value.int .i64 v22)), (A.v (Value.bool v23))]]) (by kernel_rfl) ?_
      refine .cT (by kernel_rfl) ?_
      exact ih _ _
    · exact .ex (x0 _ _ _ _)

def F11 (n : Nat) (a0 : S_Disk) : Option Bool :=
  Option.bind (F11_11_0 n false a0.Sectors a0.Pending a0.Left a0.Stopped (n+8) 0 0) fun o14 => match o14 with | y15 => Option.bind (F11_11_1 n false a0.Sectors a0.Pending a0.Left a0.Stopped (n+8) y15 0) fun o30 => match o30 with | y31 => some (decide (y31 ≤ 9000))

theorem T11 (C : Nat → List A → Option A) (n : Nat) (a0 : S_Disk) : J (fun (o : R) y => ∃ v, o.1 = .ret v ∧ snapE o.2 v = (A.v (Value.bool y))) (evCall1 (cx C) (evCall (cx C) (n+8)) (evCallY (cx C) (n+8)) (n+8) 11 [(A.agg [(A.imm (List.map (cL c8) a0.Sectors) false), (A.imm (List.map c_S_Write a0.Pending) false), (A.v (Value.int .i64 a0.Left)), (A.v (Value.bool a0.Stopped))])] [] 0) some (F11 n a0) some := by
  refine .lp (e11 ..) ?_
  unfold F11
  refine .st (v := ((A.ptr 0 0), [Blk.box [(A.imm (List.map (cL c8) a0.Sectors) false), (A.imm (List.map c_S_Write a0.Pending) false), (A.v (Value.int .i64 a0.Left)), (A.v (Value.bool a0.Stopped))]])) (by kernel_rfl) ?_
  refine .as (T11_11_0 C n  false a0.Sectors a0.Pending a0.Left a0.Stopped _ _ _ _ ?_ _ 0 0)
  · intro y15 j16
    refine .un rfl ?_
    refine .cT (by kernel_rfl) ?_
    refine .as (T11_11_1 C n  false a0.Sectors a0.Pending a0.Left a0.Stopped _ _ _ _ ?_ _ y15 0)
    · intro y31 j32 j33 j34
      refine .un rfl ?_
      refine .cT (by kernel_rfl) ?_
      refine .st (v := (A.v (Value.bool (decide (y31 ≤ 9000))))) (aBin_leq ..) ?_
      exact .lf rfl rfl ⟨_, rfl, rfl⟩

def G11 (a0 : S_Disk) : Option Bool := F11 fuel0 a0

def Orc11 (C : Nat → List A → Option A) : Prop := ∀ (a0 : S_Disk), C 11 [(A.agg [(A.imm (List.map (cL c8) a0.Sectors) false), (A.imm (List.map c_S_Write a0.Pending) false), (A.v (Value.int .i64 a0.Left)), (A.v (Value.bool a0.Stopped))])] = (G11 a0).map fun y => (A.v (Value.bool y))

def F7_7_0 (n : Nat) (v58 : Bool) (v60 : (List (List UInt8))) (v61 : (List S_Write)) (v62 : Int) (v63 : Bool) (v64 : (List (List UInt8))) (v65 : (List S_Write)) (v66 : Int) (v67 : Bool) (v68 : (List (List UInt8))) (v69 : (List S_Write)) (v70 : Int) (v71 : Bool) (v72 : (List (List UInt8))) (v73 : (List S_Write)) (v74 : Int) (v75 : Bool) : Nat → Int → Option ((Bool) ⊕ (Unit))
  | 0, _ => none
  | m + 1, v59 => bif (decide (v59 < ((v60.length : Int)))) then (Option.bind (G21 ((S_Disk.mk v68 v69 v70 v71)) v59) fun y77 => Option.bind (G21 ((S_Disk.mk v72 v73 v74 v75)) v59) fun y78 => Option.bind (bif (y77.2 != 0) then (some true) else (some (y78.2 != 0))) fun y80 => Option.bind (bif y80 then (some true) else (some (!strEq (bstr y77.1) (bstr y78.1)))) fun y84 => bif y84 then (some ((Sum.inl false))) else (F7_7_0 n v58 v60 v61 v62 v63 v64 v65 v66 v67 v68 v69 v70 v71 v72 v73 v74 v75 m (wr .i64 (v59 + 1)))) else (some ((Sum.inr (()))))

theorem T7_7_0 (C : Nat → List A → Option A) (n : Nat) (h10 : Orc10 C) (h11 : Orc11 C) (h15 : Orc15 C) (h19 : Orc19 C) (h21 : Orc21 C) (h23 : Orc23 C) (v58 : Bool) (v60 : (List (List UInt8))) (v61 : (List S_Write)) (v62 : Int) (v63 : Bool) (v64 : (List (List UInt8))) (v65 : (List S_Write)) (v66 : Int) (v67 : Bool) (v68 : (List (List UInt8))) (v69 : (List S_Write)) (v70 : Int) (v71 : Bool) (v72 : (List (List UInt8))) (v73 : (List S_Write)) (v74 : Int) (v75 : Bool) {ρ γ : Type} {φ : ρ → γ → Prop} {kL : R → Option ρ} {K : ((Bool) ⊕ (Unit)) → Option γ} (kx kg : Nat → St → Option R) (kr : St → Option R) (kp : A → St → Option R) (x0 : ∀ (o0 : Bool) (s5 : A) (s19 : A) (s21 : A) (s23 : A), J φ (kr (St.mk [(5, s5), (10, (A.v (Value.bool o0))), (19, s19), (21, s21), (23, s23)] [Blk.box [(A.imm (List.map (cL c8) v60) false), (A.imm (List.map c_S_Write v61) false), (A.v (Value.int .i64 v62)), (A.v (Value.bool v63))], Blk.box [(A.imm (List.map (cL c8) v64) false), (A.imm (List.map c_S_Write v65) false), (A.v (Value.int .i64 v66)), (A.v (Value.bool v67))], Blk.box [(A.imm (List.map (cL c8) v68) false), (A.imm (List.map c_S_Write v69) false), (A.v (Value.int .i64 v70)), (A.v (Value.bool v71))], Blk.box [(A.imm (List.map (cL c8) v72) false), (A.imm (List.map c_S_Write v73) false), (A.v (Value.int .i64 v74)), (A.v (Value.bool v75))]])) kL (K (Sum.inl o0)) some) (x1 : ∀ (s5 : A) (s10 : A) (s19 : A) (s23 : A), J φ (kx 0 (St.mk [(5, s5), (10, s10), (19, s19), (21, (A.ptr 3 0)), (23, s23)] [Blk.box [(A.imm (List.map (cL c8) v60) false), (A.imm (List.map c_S_Write v61) false), (A.v (Value.int .i64 v62)), (A.v (Value.bool v63))], Blk.box [(A.imm (List.map (cL c8) v64) false), (A.imm (List.map c_S_Write v65) false), (A.v (Value.int .i64 v66)), (A.v (Value.bool v67))], Blk.box [(A.imm (List.map (cL c8) v68) false), (A.imm (List.map c_S_Write v69) false), (A.v (Value.int .i64 v70)), (A.v (Value.bool v71))], Blk.box [(A.imm (List.map (cL c8) v72) false), (A.imm (List.map c_S_Write v73) false), (A.v (Value.int .i64 v74)), (A.v (Value.bool v75))]])) kL (K (Sum.inr (()))) some) :
    ∀ (m : Nat) (v59 : Int), J φ (loopR (cx C) (evCall (cx C) (n+8)) (evCallY (cx C) (n+8)) (n+8) 7 0 0 4 kx kg kr kp m (St.mk [(5, (A.ptr 0 0)), (10, (A.v (Value.bool v58))), (19, (A.ptr 2 0)), (21, (A.ptr 3 0)), (23, (A.v (Value.int .i64 v59)))] [Blk.box [(A.imm (List.map (cL c8) v60) false), (A.imm (List.map c_S_Write v61) false), (A.v (Value.int .i64 v62)), (A.v (Value.bool v63))], Blk.box [(A.imm (List.map (cL c8) v64) false), (A.imm (List.map c_S_Write v65) false), (A.v (Value.int .i64 v66)), (A.v (Value.bool v67))], Blk.box [(A.imm (List.map (cL c8) v68) false), (A.imm (List.map c_S_Write v69) false), (A.v (Value.int .i64 v70)), (A.v (Value.bool v71))], Blk.box [(A.imm (List.map (cL c8) v72) false), (A.imm (List.map c_S_Write v73) false), (A.v (Value.int .i64 v74)), (A.v (Value.bool v75))]])) kL (F7_7_0 n v58 v60 v61 v62 v63 v64 v65 v66 v67 v68 v69 v70 v71 v72 v73 v74 v75 m v59) K := by
  intro m
  induction m with
  | zero => intros; exact .nn
  | succ m ih =>
    intro v59
    refine .lp (e7_0 ..) ?_
    unfold F7_7_0
    refine .st (v := (A.ptr 0 0)) (by kernel_rfl) ?_
    refine .st (v := (A.imm (List.map (cL c8) v60) false)) (by kernel_rfl) ?_
    refine .st (v := (A.v (Value.int .i64 ((v60.length : Int))))) (len_imm (e := 35) (h1 := by kernel_rfl) ..) ?_
    refine .st (v := (A.v (Value.bool (decide (v59 < ((v60.length : Int))))))) (aBin_lss ..) ?_
    refine .biHN (fun hk76 => ?_) (fun hk76 => ?_)
    · refine .st (v := (A.agg [(A.imm (List.map (cL c8) v68) false), (A.imm (List.map c_S_Write v69) false), (A.v (Value.int .i64 v70)), (A.v (Value.bool v71))])) (by kernel_rfl) ?_
      refine .bd (g := fun (y : ((List UInt8) × Int)) => (A.tup [(A.imm (List.map c8 y.1) false), (A.v (Value.int .i64 y.2))])) (by show C 21 [snap [Blk.box [(A.imm (List.map (cL c8) v60) false), (A.imm (List.map c_S_Write v61) false), (A.v (Value.int .i64 v62)), (A.v (Value.bool v63))], Blk.box [(A.imm (List.map (cL c8) v64) false), (A.imm (List.map c_S_Write v65) false), (A.v (Value.int .i64 v66)), (A.v (Value.bool v67))], Blk.box [(A.imm (List.map (cL c8) v68) false), (A.imm (List.map c_S_Write v69) false), (A.v (Value.int .i64 v70)), (A.v (Value.bool v71))], Blk.box [(A.imm (List.map (cL c8) v72) false), (A.imm (List.map c_S_Write v73) false), (A.v (Value.int .i64 v74)), (A.v (Value.bool v75))]] (A.agg [(A.imm (List.map (cL c8) v68) false), (A.imm (List.map c_S_Write v69) false), (A.v (Value.int .i64 v70)), (A.v (Value.bool v71))]), snap [Blk.box [(A.imm (List.map (cL c8) v60) false), (A.imm (List.map c_S_Write v61) false), (A.v (Value.int .i64 v62)), (A.v (Value.bool v63))], Blk.box [(A.imm (List.map (cL c8) v64) false), (A.imm (List.map c_S_Write v65) false), (A.v (Value.int .i64 v66)), (A.v (Value.bool v67))], Blk.box [(A.imm (List.map (cL c8) v68) false), (A.imm (List.map c_S_Write v69) false), (A.v (Value.int .i64 v70)), (A.v (Value.bool v71))], Blk.box [(A.imm (List.map (cL c8) v72) false), (A.imm (List.map c_S_Write v73) false), (A.v (Value.int .i64 v74)), (A.v (Value.bool v75))]] (A.v (Value.int .i64 v59))] = _; simp only [snap, snapW, snapWs, snapWss, snapWss_map, trim, List.map_cons, List.map_nil, fl_cI, fl_c8, fl_cB, fl_cS, fl_cL, fl_S_Write, fl_S_Disk, fl_S_kinespherelaw04_Act]; exact h21 ((S_Disk.mk v68 v69 v70 v71)) v59) fun y77 => ?_
      refine .st (v := (A.imm (List.map c8 y77.1) false)) (by kernel_rfl) ?_
      refine .st (v := (A.v (Value.int .i64 y77.2))) (by kernel_rfl) ?_
      refine .st (v := (A.agg [(A.imm (List.map (cL c8) v72) false), (A.imm (List.map c_S_Write v73) false), (A.v (Value.int .i64 v74)), (A.v (Value.bool v75))])) (by kernel_rfl) ?_
      refine .bd (g := fun (y : ((List UInt8) × Int)) => (A.tup [(A.imm (List.map c8 y.1) false), (A.v (Value.int .i64 y.2))])) (by show C 21 [snap [Blk.box [(A.imm (List.map (cL c8) v60) false), (A.imm (List.map c_S_Write v61) false), (A.v (Value.int .i64 v62)), (A.v (Value.bool v63))], Blk.box [(A.imm (List.map (cL c8) v64) false), (A.imm (List.map c_S_Write v65) false), (A.v (Value.int .i64 v66)), (A.v (Value.bool v67))], Blk.box [(A.imm (List.map (cL c8) v68) false), (A.imm (List.map c_S_Write v69) false), (A.v (Value.int .i64 v70)), (A.v (Value.bool v71))], Blk.box [(A.imm (List.map (cL c8) v72) false), (A.imm (List.map c_S_Write v73) false), (A.v (Value.int .i64 v74)), (A.v (Value.bool v75))]] (A.agg [(A.imm (List.map (cL c8) v72) false), (A.imm (List.map c_S_Write v73) false), (A.v (Value.int .i64 v74)), (A.v (Value.bool v75))]), snap [Blk.box [(A.imm (List.map (cL c8) v60) false), (A.imm (List.map c_S_Write v61) false), (A.v (Value.int .i64 v62)), (A.v (Value.bool v63))], Blk.box [(A.imm (List.map (cL c8) v64) false), (A.imm (List.map c_S_Write v65) false), (A.v (Value.int .i64 v66)), (A.v (Value.bool v67))], Blk.box [(A.imm (List.map (cL c8) v68) false), (A.imm (List.map c_S_Write v69) false), (A.v (Value.int .i64 v70)), (A.v (Value.bool v71))], Blk.box [(A.imm (List.map (cL c8) v72) false), (A.imm (List.map c_S_Write v73) false), (A.v (Value.int .i64 v74)), (A.v (Value.bool v75))]] (A.v (Value.int .i64 v59))] = _; simp only [snap, snapW, snapWs, snapWss, snapWss_map, trim, List.map_cons, List.map_nil, fl_cI, fl_c8, fl_cB, fl_cS, fl_cL, fl_S_Write, fl_S_Disk, fl_S_kinespherelaw04_Act]; exact h21 ((S_Disk.mk v72 v73 v74 v75)) v59) fun y78 => ?_
      refine .st (v := (A.imm (List.map c8 y78.1) false)) (by kernel_rfl) ?_
      refine .st (v := (A.v (Value.int .i64 y78.2))) (by kernel_rfl) ?_
      refine .st (v := (A.v (Value.bool (y77.2 != 0)))) (aBin_neq ..) ?_
      refine .bg (fun t (y : Bool) => ∃ j81 j82 : A, t = [(A.v (Value.bool y)), j81, j82]) ?_ ?_
      · refine .biH (fun hk79 => ?_) (fun hk79 => ?_)
        · exact .lg ⟨_, _, rfl⟩
        · refine .st (v := (A.v (Value.bool (y78.2 != 0)))) (aBin_neq ..) ?_
          exact .lg ⟨_, _, rfl⟩
      rintro _ y80 ⟨j81, j82, rfl⟩
      iterate 3 refine .uc ?_
      refine .bg (fun t (y : Bool) => ∃ j85 j86 j87 j88 j89 : A, t = [(A.v (Value.bool y)), j85, j86, j87, j88, j89]) ?_ ?_
      · refine .biH (fun hk83 => ?_) (fun hk83 => ?_)
        · exact .lg ⟨_, _, _, _, _, rfl⟩
        · refine .st (v := (A.v (Value.string (bstr y77.1)))) (conv_bs (e := 5) (l := y77.1) (by kernel_rfl) (by kernel_rfl) (by kernel_rfl) (by kernel_rfl) (els_imm ..) rfl) ?_
          refine .st (v := (A.v (Value.string (bstr y78.1)))) (conv_bs (e := 5) (l := y78.1) (by kernel_rfl) (by kernel_rfl) (by kernel_rfl) (by kernel_rfl) (els_imm ..) rfl) ?_
          refine .st (v := (A.v (Value.bool (!strEq (bstr y77.1) (bstr y78.1))))) (aBin_neq_s ..) ?_
          exact .lg ⟨_, _, _, _, _, rfl⟩
      rintro _ y84 ⟨j85, j86, j87, j88, j89, rfl⟩
      iterate 6 refine .uc ?_
      refine .biHN (fun hk90 => ?_) (fun hk90 => ?_)
      · exact .ex (x0 _ _ _ _ _)
      · refine .st (v := (A.v (Value.int .i64 (wr .i64 (v59 + 1))))) (aBin_add ..) ?_
        refine .st (v := [Blk.box [(A.imm (List.map (cL c8) v60) false), (A.imm (List.map c_S_Write v61) false), (A.v (Value.int .i64 v62)), (A.v (Value.bool v63))], Blk.box [(A.imm (List.map (cL c8) v64) false), (A.imm (List.map c_S_Write v65) false), (A.v (Value.int .i64 v66)), (A.v (Value.bool v67))], Blk.box [(A.imm (List.map (cL c8) v68) false), (A.imm (List.map c_S_Write v69) false), (A.v (Value.int .i64 v70)), (A.v (Value.bool v71))], Blk.box [(A.imm (List.map (cL c8) v72) false), (A.imm (List.map c_S_Write v73) false), (A.v (Value.int .i64 v74)), (A.v (Value.bool v75))]]) (by kernel_rfl) ?_
        refine .cT (by kernel_rfl) ?_
        exact ih _
    · exact .ex (x1 _ _ _ _)

def F7_7_0a (n : Nat) (v119 : Bool) (v121 : (List (List UInt8))) (v122 : (List S_Write)) (v123 : Int) (v124 : Bool) (v125 : (List (List UInt8))) (v126 : (List S_Write)) (v127 : Int) (v128 : Bool) (v129 : (List (List UInt8))) (v130 : (List S_Write)) (v131 : Int) (v132 : Bool) (v133 : (List (List UInt8))) (v134 : (List S_Write)) (v135 : Int) (v136 : Bool) : Nat → Int → Option ((Bool) ⊕ (Unit))
  | 0, _ => none
  | m + 1, v120 => bif (decide (v120 < ((v121.length : Int)))) then (Option.bind (G21 ((S_Disk.mk v129 v130 v131 v132)) v120) fun y138 => Option.bind (G21 ((S_Disk.mk v133 v134 v135 v136)) v120) fun y139 => Option.bind (bif (y138.2 != 0) then (some true) else (some (y139.2 != 0))) fun y141 => Option.bind (bif y141 then (some true) else (some (!strEq (bstr y138.1) (bstr y139.1)))) fun y145 => bif y145 then (some ((Sum.inl false))) else (F7_7_0a n v119 v121 v122 v123 v124 v125 v126 v127 v128 v129 v130 v131 v132 v133 v134 v135 v136 m (wr .i64 (v120 + 1)))) else (some ((Sum.inr (()))))

theorem T7_7_0a (C : Nat → List A → Option A) (n : Nat) (h10 : Orc10 C) (h11 : Orc11 C) (h15 : Orc15 C) (h19 : Orc19 C) (h21 : Orc21 C) (h23 : Orc23 C) (v119 : Bool) (v121 : (List (List UInt8))) (v122 : (List S_Write)) (v123 : Int) (v124 : Bool) (v125 : (List (List UInt8))) (v126 : (List S_Write)) (v127 : Int) (v128 : Bool) (v129 : (List (List UInt8))) (v130 : (List S_Write)) (v131 : Int) (v132 : Bool) (v133 : (List (List UInt8))) (v134 : (List S_Write)) (v135 : Int) (v136 : Bool) {ρ γ : Type} {φ : ρ → γ → Prop} {kL : R → Option ρ} {K : ((Bool) ⊕ (Unit)) → Option γ} (kx kg : Nat → St → Option R) (kr : St → Option R) (kp : A → St → Option R) (x0 : ∀ (o0 : Bool) (s5 : A) (s19 : A) (s21 : A) (s23 : A), J φ (kr (St.mk [(5, s5), (10, (A.v (Value.bool o0))), (19, s19), (21, s21), (23, s23)] [Blk.box [(A.imm (List.map (cL c8) v121) false), (A.imm (List.map c_S_Write v122) false), (A.v (Value.int .i64 v123)), (A.v (Value.bool v124))], Blk.box [(A.imm (List.map (cL c8) v125) false), (A.imm (List.map c_S_Write v126) false), (A.v (Value.int .i64 v127)), (A.v (Value.bool v128))], Blk.box [(A.imm (List.map (cL c8) v129) false), (A.imm (List.map c_S_Write v130) false), (A.v (Value.int .i64 v131)), (A.v (Value.bool v132))], Blk.box [(A.imm (List.map (cL c8) v133) false), (A.imm (List.map c_S_Write v134) false), (A.v (Value.int .i64 v135)), (A.v (Value.bool v136))]])) kL (K (Sum.inl o0)) some) (x1 : ∀ (s5 : A) (s10 : A) (s19 : A) (s23 : A), J φ (kx 0 (St.mk [(5, s5), (10, s10), (19, s19), (21, (A.ptr 3 0)), (23, s23)] [Blk.box [(A.imm (List.map (cL c8) v121) false), (A.imm (List.map c_S_Write v122) false), (A.v (Value.int .i64 v123)), (A.v (Value.bool v124))], Blk.box [(A.imm (List.map (cL c8) v125) false), (A.imm (List.map c_S_Write v126) false), (A.v (Value.int .i64 v127)), (A.v (Value.bool v128))], Blk.box [(A.imm (List.map (cL c8) v129) false), (A.imm (List.map c_S_Write v130) false), (A.v (Value.int .i64 v131)), (A.v (Value.bool v132))], Blk.box [(A.imm (List.map (cL c8) v133) false), (A.imm (List.map c_S_Write v134) false), (A.v (Value.int .i64 v135)), (A.v (Value.bool v136))]])) kL (K (Sum.inr (()))) some) :
    ∀ (m : Nat) (v120 : Int), J φ (loopR (cx C) (evCall (cx C) (n+8)) (evCallY (cx C) (n+8)) (n+8) 7 0 0 4 kx kg kr kp m (St.mk [(5, (A.ptr 0 0)), (10, (A.v (Value.bool v119))), (19, (A.ptr 2 0)), (21, (A.ptr 3 0)), (23, (A.v (Value.int .i64 v120)))] [Blk.box [(A.imm (List.map (cL c8) v121) false), (A.imm (List.map c_S_Write v122) false), (A.v (Value.int .i64 v123)), (A.v (Value.bool v124))], Blk.box [(A.imm (List.map (cL c8) v125) false), (A.imm (List.map c_S_Write v126) false), (A.v (Value.int .i64 v127)), (A.v (Value.bool v128))], Blk.box [(A.imm (List.map (cL c8) v129) false), (A.imm (List.map c_S_Write v130) false), (A.v (Value.int .i64 v131)), (A.v (Value.bool v132))], Blk.box [(A.imm (List.map (cL c8) v133) false), (A.imm (List.map c_S_Write v134) false), (A.v (Value.int .i64 v135)), (A.v (Value.bool v136))]])) kL (F7_7_0a n v119 v121 v122 v123 v124 v125 v126 v127 v128 v129 v130 v131 v132 v133 v134 v135 v136 m v120) K := by
  intro m
  induction m with
  | zero => intros; exact .nn
  | succ m ih =>
    intro v120
    refine .lp (e7_0 ..) ?_
    unfold F7_7_0a
    refine .st (v := (A.ptr 0 0)) (by kernel_rfl) ?_
    refine .st (v := (A.imm (List.map (cL c8) v121) false)) (by kernel_rfl) ?_
    refine .st (v := (A.v (Value.int .i64 ((v121.length : Int))))) (len_imm (e := 35) (h1 := by kernel_rfl) ..) ?_
    refine .st (v := (A.v (Value.bool (decide (v120 < ((v121.length : Int))))))) (aBin_lss ..) ?_
    refine .biHN (fun hk137 => ?_) (fun hk137 => ?_)
    · refine .st (v := (A.agg [(A.imm (List.map (cL c8) v129) false), (A.imm (List.map c_S_Write v130) false), (A.v (Value.int .i64 v131)), (A.v (Value.bool v132))])) (by kernel_rfl) ?_
      refine .bd (g := fun (y : ((List UInt8) × Int)) => (A.tup [(A.imm (List.map c8 y.1) false), (A.v (Value.int .i64 y.2))])) (by show C 21 [snap [Blk.box [(A.imm (List.map (cL c8) v121) false), (A.imm (List.map c_S_Write v122) false), (A.v (Value.int .i64 v123)), (A.v (Value.bool v124))], Blk.box [(A.imm (List.map (cL c8) v125) false), (A.imm (List.map c_S_Write v126) false), (A.v (Value.int .i64 v127)), (A.v (Value.bool v128))], Blk.box [(A.imm (List.map (cL c8) v129) false), (A.imm (List.map c_S_Write v130) false), (A.v (Value.int .i64 v131)), (A.v (Value.bool v132))], Blk.box [(A.imm (List.map (cL c8) v133) false), (A.imm (List.map c_S_Write v134) false), (A.v (Value.int .i64 v135)), (A.v (Value.bool v136))]] (A.agg [(A.imm (List.map (cL c8) v129) false), (A.imm (List.map c_S_Write v130) false), (A.v (Value.int .i64 v131)), (A.v (Value.bool v132))]), snap [Blk.box [(A.imm (List.map (cL c8) v121) false), (A.imm (List.map c_S_Write v122) false), (A.v (Value.int .i64 v123)), (A.v (Value.bool v124))], Blk.box [(A.imm (List.map (cL c8) v125) false), (A.imm (List.map c_S_Write v126) false), (A.v (Value.int .i64 v127)), (A.v (Value.bool v128))], Blk.box [(A.imm (List.map (cL c8) v129) false), (A.imm (List.map c_S_Write v130) false), (A.v (Value.int .i64 v131)), (A.v (Value.bool v132))], Blk.box [(A.imm (List.map (cL c8) v133) false), (A.imm (List.map c_S_Write v134) false), (A.v (Value.int .i64 v135)), (A.v (Value.bool v136))]] (A.v (Value.int .i64 v120))] = _; simp only [snap, snapW, snapWs, snapWss, snapWss_map, trim, List.map_cons, List.map_nil, fl_cI, fl_c8, fl_cB, fl_cS, fl_cL, fl_S_Write, fl_S_Disk, fl_S_kinespherelaw04_Act]; exact h21 ((S_Disk.mk v129 v130 v131 v132)) v120) fun y138 => ?_
      refine .st (v := (A.imm (List.map c8 y138.1) false)) (by kernel_rfl) ?_
      refine .st (v := (A.v (Value.int .i64 y138.2))) (by kernel_rfl) ?_
      refine .st (v := (A.agg [(A.imm (List.map (cL c8) v133) false), (A.imm (List.map c_S_Write v134) false), (A.v (Value.int .i64 v135)), (A.v (Value.bool v136))])) (by kernel_rfl) ?_
      refine .bd (g := fun (y : ((List UInt8) × Int)) => (A.tup [(A.imm (List.map c8 y.1) false), (A.v (Value.int .i64 y.2))])) (by show C 21 [snap [Blk.box [(A.imm (List.map (cL c8) v121) false), (A.imm (List.map c_S_Write v122) false), (A.v (Value.int .i64 v123)), (A.v (Value.bool v124))], Blk.box [(A.imm (List.map (cL c8) v125) false), (A.imm (List.map c_S_Write v126) false), (A.v (Value.int .i64 v127)), (A.v (Value.bool v128))], Blk.box [(A.imm (List.map (cL c8) v129) false), (A.imm (List.map c_S_Write v130) false), (A.v (Value.int .i64 v131)), (A.v (Value.bool v132))], Blk.box [(A.imm (List.map (cL c8) v133) false), (A.imm (List.map c_S_Write v134) false), (A.v (Value.int .i64 v135)), (A.v (Value.bool v136))]] (A.agg [(A.imm (List.map (cL c8) v133) false), (A.imm (List.map c_S_Write v134) false), (A.v (Value.int .i64 v135)), (A.v (Value.bool v136))]), snap [Blk.box [(A.imm (List.map (cL c8) v121) false), (A.imm (List.map c_S_Write v122) false), (A.v (Value.int .i64 v123)), (A.v (Value.bool v124))], Blk.box [(A.imm (List.map (cL c8) v125) false), (A.imm (List.map c_S_Write v126) false), (A.v (Value.int .i64 v127)), (A.v (Value.bool v128))], Blk.box [(A.imm (List.map (cL c8) v129) false), (A.imm (List.map c_S_Write v130) false), (A.v (Value.int .i64 v131)), (A.v (Value.bool v132))], Blk.box [(A.imm (List.map (cL c8) v133) false), (A.imm (List.map c_S_Write v134) false), (A.v (Value.int .i64 v135)), (A.v (Value.bool v136))]] (A.v (Value.int .i64 v120))] = _; simp only [snap, snapW, snapWs, snapWss, snapWss_map, trim, List.map_cons, List.map_nil, fl_cI, fl_c8, fl_cB, fl_cS, fl_cL, fl_S_Write, fl_S_Disk, fl_S_kinespherelaw04_Act]; exact h21 ((S_Disk.mk v133 v134 v135 v136)) v120) fun y139 => ?_
      refine .st (v := (A.imm (List.map c8 y139.1) false)) (by kernel_rfl) ?_
      refine .st (v := (A.v (Value.int .i64 y139.2))) (by kernel_rfl) ?_
      refine .st (v := (A.v (Value.bool (y138.2 != 0)))) (aBin_neq ..) ?_
      refine .bg (fun t (y : Bool) => ∃ j142 j143 : A, t = [(A.v (Value.bool y)), j142, j143]) ?_ ?_
      · refine .biH (fun hk140 => ?_) (fun hk140 => ?_)
        · exact .lg ⟨_, _, rfl⟩
        · refine .st (v := (A.v (Value.bool (y139.2 != 0)))) (aBin_neq ..) ?_
          exact .lg ⟨_, _, rfl⟩
      rintro _ y141 ⟨j142, j143, rfl⟩
      iterate 3 refine .uc ?_
      refine .bg (fun t (y : Bool) => ∃ j146 j147 j148 j149 j150 : A, t = [(A.v (Value.bool y)), j146, j147, j148, j149, j150]) ?_ ?_
      · refine .biH (fun hk144 => ?_) (fun hk144 => ?_)
        · exact .lg ⟨_, _, _, _, _, rfl⟩
        · refine .st (v := (A.v (Value.string (bstr y138.1)))) (conv_bs (e := 5) (l := y138.1) (by kernel_rfl) (by kernel_rfl) (by kernel_rfl) (by kernel_rfl) (els_imm ..) rfl) ?_
          refine .st (v := (A.v (Value.string (bstr y139.1)))) (conv_bs (e := 5) (l := y139.1) (by kernel_rfl) (by kernel_rfl) (by kernel_rfl) (by kernel_rfl) (els_imm ..) rfl) ?_
          refine .st (v := (A.v (Value.bool (!strEq (bstr y138.1) (bstr y139.1))))) (aBin_neq_s ..) ?_
          exact .lg ⟨_, _, _, _, _, rfl⟩
      rintro _ y145 ⟨j146, j147, j148, j149, j150, rfl⟩
      iterate 6 refine .uc ?_
      refine .biHN (fun hk151 => ?_) (fun hk151 => ?_)
      · exact .ex (x0 _ _ _ _ _)
      · refine .st (v := (A.v (Value.int .i64 (wr .i64 (v120 + 1))))) (aBin_add ..) ?_
        refine .st (v := [Blk.box [(A.imm (List.map (cL c8) v121) false), (A.imm (List.map c_S_Write v122) false), (A.v (Value.int .i64 v123)), (A.v (Value.bool v124))], Blk.box [(A.imm (List.map (cL c8) v125) false), (A.imm (List.map c_S_Write v126) false), (A.v (Value.int .i64 v127)), (A.v (Value.bool v128))], Blk.box [(A.imm (List.map (cL c8) v129) false), (A.imm (List.map c_S_Write v130) false), (A.v (Value.int .i64 v131)), (A.v (Value.bool v132))], Blk.box [(A.imm (List.map (cL c8) v133) false), (A.imm (List.map c_S_Write v134) false), (A.v (Value.int .i64 v135)), (A.v (Value.bool v136))]]) (by kernel_rfl) ?_
        refine .cT (by kernel_rfl) ?_
        exact ih _
    · exact .ex (x1 _ _ _ _)

def F7_7_0b (n : Nat) (v180 : Bool) (v182 : (List (List UInt8))) (v183 : (List S_Write)) (v184 : Int) (v185 : Bool) (v186 : (List (List UInt8))) (v187 : (List S_Write)) (v188 : Int) (v189 : Bool) (v190 : (List (List UInt8))) (v191 : (List S_Write)) (v192 : Int) (v193 : Bool) (v194 : (List (List UInt8))) (v195 : (List S_Write)) (v196 : Int) (v197 : Bool) : Nat → Int → Option ((Bool) ⊕ (Unit))
  | 0, _ => none
  | m + 1, v181 => bif (decide (v181 < ((v182.length : Int)))) then (Option.bind (G21 ((S_Disk.mk v190 v191 v192 v193)) v181) fun y199 => Option.bind (G21 ((S_Disk.mk v194 v195 v196 v197)) v181) fun y200 => Option.bind (bif (y199.2 != 0) then (some true) else (some (y200.2 != 0))) fun y202 => Option.bind (bif y202 then (some true) else (some (!strEq (bstr y199.1) (bstr y200.1)))) fun y206 => bif y206 then (some ((Sum.inl false))) else (F7_7_0b n v180 v182 v183 v184 v185 v186 v187 v188 v189 v190 v191 v192 v193 v194 v195 v196 v197 m (wr .i64 (v181 + 1)))) else (some ((Sum.inr (()))))

theorem T7_7_0b (C : Nat → List A → Option A) (n : Nat) (h10 : Orc10 C) (h11 : Orc11 C) (h15 : Orc15 C) (h19 : Orc19 C) (h21 : Orc21 C) (h23 : Orc23 C) (v180 : Bool) (v182 : (List (List UInt8))) (v183 : (List S_Write)) (v184 : Int) (v185 : Bool) (v186 : (List (List UInt8))) (v187 : (List S_Write)) (v188 : Int) (v189 : Bool) (v190 : (List (List UInt8))) (v191 : (List S_Write)) (v192 : Int) (v193 : Bool) (v194 : (List (List UInt8))) (v195 : (List S_Write)) (v196 : Int) (v197 : Bool) {ρ γ : Type} {φ : ρ → γ → Prop} {kL : R → Option ρ} {K : ((Bool) ⊕ (Unit)) → Option γ} (kx kg : Nat → St → Option R) (kr : St → Option R) (kp : A → St → Option R) (x0 : ∀ (o0 : Bool) (s5 : A) (s19 : A) (s21 : A) (s23 : A), J φ (kr (St.mk [(5, s5), (10, (A.v (Value.bool o0))), (19, s19), (21, s21), (23, s23)] [Blk.box [(A.imm (List.map (cL c8) v182) false), (A.imm (List.map c_S_Write v183) false), (A.v (Value.int .i64 v184)), (A.v (Value.bool v185))], Blk.box [(A.imm (List.map (cL c8) v186) false), (A.imm (List.map c_S_Write v187) false), (A.v (Value.int .i64 v188)), (A.v (Value.bool v189))], Blk.box [(A.imm (List.map (cL c8) v190) false), (A.imm (List.map c_S_Write v191) false), (A.v (Value.int .i64 v192)), (A.v (Value.bool v193))], Blk.box [(A.imm (List.map (cL c8) v194) false), (A.imm (List.map c_S_Write v195) false), (A.v (Value.int .i64 v196)), (A.v (Value.bool v197))]])) kL (K (Sum.inl o0)) some) (x1 : ∀ (s5 : A) (s10 : A) (s19 : A) (s23 : A), J φ (kx 0 (St.mk [(5, s5), (10, s10), (19, s19), (21, (A.ptr 3 0)), (23, s23)] [Blk.box [(A.imm (List.map (cL c8) v182) false), (A.imm (List.map c_S_Write v183) false), (A.v (Value.int .i64 v184)), (A.v (Value.bool v185))], Blk.box [(A.imm (List.map (cL c8) v186) false), (A.imm (List.map c_S_Write v187) false), (A.v (Value.int .i64 v188)), (A.v (Value.bool v189))], Blk.box [(A.imm (List.map (cL c8) v190) false), (A.imm (List.map c_S_Write v191) false), (A.v (Value.int .i64 v192)), (A.v (Value.bool v193))], Blk.box [(A.imm (List.map (cL c8) v194) false), (A.imm (List.map c_S_Write v195) false), (A.v (Value.int .i64 v196)), (A.v (Value.bool v197))]])) kL (K (Sum.inr (()))) some) :
    ∀ (m : Nat) (v181 : Int), J φ (loopR (cx C) (evCall (cx C) (n+8)) (evCallY (cx C) (n+8)) (n+8) 7 0 0 4 kx kg kr kp m (St.mk [(5, (A.ptr 0 0)), (10, (A.v (Value.bool v180))), (19, (A.ptr 2 0)), (21, (A.ptr 3 0)), (23, (A.v (Value.int .i64 v181)))] [Blk.box [(A.imm (List.map (cL c8) v182) false), (A.imm (List.map c_S_Write v183) false), (A.v (Value.int .i64 v184)), (A.v (Value.bool v185))], Blk.box [(A.imm (List.map (cL c8) v186) false), (A.imm (List.map c_S_Write v187) false), (A.v (Value.int .i64 v188)), (A.v (Value.bool v189))], Blk.box [(A.imm (List.map (cL c8) v190) false), (A.imm (List.map c_S_Write v191) false), (A.v (Value.int .i64 v192)), (A.v (Value.bool v193))], Blk.box [(A.imm (List.map (cL c8) v194) false), (A.imm (List.map c_S_Write v195) false), (A.v (Value.int .i64 v196)), (A.v (Value.bool v197))]])) kL (F7_7_0b n v180 v182 v183 v184 v185 v186 v187 v188 v189 v190 v191 v192 v193 v194 v195 v196 v197 m v181) K := by
  intro m
  induction m with
  | zero => intros; exact .nn
  | succ m ih =>
    intro v181
    refine .lp (e7_0 ..) ?_
    unfold F7_7_0b
    refine .st (v := (A.ptr 0 0)) (by kernel_rfl) ?_
    refine .st (v := (A.imm (List.map (cL c8) v182) false)) (by kernel_rfl) ?_
    refine .st (v := (A.v (Value.int .i64 ((v182.length : Int))))) (len_imm (e := 35) (h1 := by kernel_rfl) ..) ?_
    refine .st (v := (A.v (Value.bool (decide (v181 < ((v182.length : Int))))))) (aBin_lss ..) ?_
    refine .biHN (fun hk198 => ?_) (fun hk198 => ?_)
    · refine .st (v := (A.agg [(A.imm (List.map (cL c8) v190) false), (A.imm (List.map c_S_Write v191) false), (A.v (Value.int .i64 v192)), (A.v (Value.bool v193))])) (by kernel_rfl) ?_
      refine .bd (g := fun (y : ((List UInt8) × Int)) => (A.tup [(A.imm (List.map c8 y.1) false), (A.v (Value.int .i64 y.2))])) (by show C 21 [snap [Blk.box [(A.imm (List.map (cL c8) v182) false), (A.imm (List.map c_S_Write v183) false), (A.v (Value.int .i64 v184)), (A.v (Value.bool v185))], Blk.box [(A.imm (List.map (cL c8) v186) false), (A.imm (List.map c_S_Write v187) false), (A.v (Value.int .i64 v188)), (A.v (Value.bool v189))], Blk.box [(A.imm (List.map (cL c8) v190) false), (A.imm (List.map c_S_Write v191) false), (A.v (Value.int .i64 v192)), (A.v (Value.bool v193))], Blk.box [(A.imm (List.map (cL c8) v194) false), (A.imm (List.map c_S_Write v195) false), (A.v (Value.int .i64 v196)), (A.v (Value.bool v197))]] (A.agg [(A.imm (List.map (cL c8) v190) false), (A.imm (List.map c_S_Write v191) false), (A.v (Value.int .i64 v192)), (A.v (Value.bool v193))]), snap [Blk.box [(A.imm (List.map (cL c8) v182) false), (A.imm (List.map c_S_Write v183) false), (A.v (Value.int .i64 v184)), (A.v (Value.bool v185))], Blk.box [(A.imm (List.map (cL c8) v186) false), (A.imm (List.map c_S_Write v187) false), (A.v (Value.int .i64 v188)), (A.v (Value.bool v189))], Blk.box [(A.imm (List.map (cL c8) v190) false), (A.imm (List.map c_S_Write v191) false), (A.v (Value.int .i64 v192)), (A.v (Value.bool v193))], Blk.box [(A.imm (List.map (cL c8) v194) false), (A.imm (List.map c_S_Write v195) false), (A.v (Value.int .i64 v196)), (A.v (Value.bool v197))]] (A.v (Value.int .i64 v181))] = _; simp only [snap, snapW, snapWs, snapWss, snapWss_map, trim, List.map_cons, List.map_nil, fl_cI, fl_c8, fl_cB, fl_cS, fl_cL, fl_S_Write, fl_S_Disk, fl_S_kinespherelaw04_Act]; exact h21 ((S_Disk.mk v190 v191 v192 v193)) v181) fun y199 => ?_
      refine .st (v := (A.imm (List.map c8 y199.1) false)) (by kernel_rfl) ?_
      refine .st (v := (A.v (Value.int .i64 y199.2))) (by kernel_rfl) ?_
      refine .st (v := (A.agg [(A.imm (List.map (cL c8) v194) false), (A.imm (List.map c_S_Write v195) false), (A.v (Value.int .i64 v196)), (A.v (Value.bool v197))])) (by kernel_rfl) ?_
      refine .bd (g := fun (y : ((List UInt8) × Int)) => (A.tup [(A.imm (List.map c8 y.1) false), (A.v (Value.int .i64 y.2))])) (by show C 21 [snap [Blk.box [(A.imm (List.map (cL c8) v182) false), (A.imm (List.map c_S_Write v183) false), (A.v (Value.int .i64 v184)), (A.v (Value.bool v185))], Blk.box [(A.imm (List.map (cL c8) v186) false), (A.imm (List.map c_S_Write v187) false), (A.v (Value.int .i64 v188)), (A.v (Value.bool v189))], Blk.box [(A.imm (List.map (cL c8) v190) false), (A.imm (List.map c_S_Write v191) false), (A.v (Value.int .i64 v192)), (A.v (Value.bool v193))], Blk.box [(A.imm (List.map (cL c8) v194) false), (A.imm (List.map c_S_Write v195) false), (A.v (Value.int .i64 v196)), (A.v (Value.bool v197))]] (A.agg [(A.imm (List.map (cL c8) v194) false), (A.imm (List.map c_S_Write v195) false), (A.v (Value.int .i64 v196)), (A.v (Value.bool v197))]), snap [Blk.box [(A.imm (List.map (cL c8) v182) false), (A.imm (List.map c_S_Write v183) false), (A.v (Value.int .i64 v184)), (A.v (Value.bool v185))], Blk.box [(A.imm (List.map (cL c8) v186) false), (A.imm (List.map c_S_Write v187) false), (A.v (Value.int .i64 v188)), (A.v (Value.bool v189))], Blk.box [(A.imm (List.map (cL c8) v190) false), (A.imm (List.map c_S_Write v191) false), (A.v (Value.int .i64 v192)), (A.v (Value.bool v193))], Blk.box [(A.imm (List.map (cL c8) v194) false), (A.imm (List.map c_S_Write v195) false), (A.v (Value.int .i64 v196)), (A.v (Value.bool v197))]] (A.v (Value.int .i64 v181))] = _; simp only [snap, snapW, snapWs, snapWss, snapWss_map, trim, List.map_cons, List.map_nil, fl_cI, fl_c8, fl_cB, fl_cS, fl_cL, fl_S_Write, fl_S_Disk, fl_S_kinespherelaw04_Act]; exact h21 ((S_Disk.mk v194 v195 v196 v197)) v181) fun y200 => ?_
      refine .st (v := (A.imm (List.map c8 y200.1) false)) (by kernel_rfl) ?_
      refine .st (v := (A.v (Value.int .i64 y200.2))) (by kernel_rfl) ?_
      refine .st (v := (A.v (Value.bool (y199.2 != 0)))) (aBin_neq ..) ?_
      refine .bg (fun t (y : Bool) => ∃ j203 j204 : A, t = [(A.v (Value.bool y)), j203, j204]) ?_ ?_
      · refine .biH (fun hk201 => ?_) (fun hk201 => ?_)
        · exact .lg ⟨_, _, rfl⟩
        · refine .st (v := (A.v (Value.bool (y200.2 != 0)))) (aBin_neq ..) ?_
          exact .lg ⟨_, _, rfl⟩
      rintro _ y202 ⟨j203, j204, rfl⟩
      iterate 3 refine .uc ?_
      refine .bg (fun t (y : Bool) => ∃ j207 j208 j209 j210 j211 : A, t = [(A.v (Value.bool y)), j207, j208, j209, j210, j211]) ?_ ?_
      · refine .biH (fun hk205 => ?_) (fun hk205 => ?_)
        · exact .lg ⟨_, _, _, _, _, rfl⟩
        · refine .st (v := (A.v (Value.string (bstr y199.1)))) (conv_bs (e := 5) (l := y199.1) (by kernel_rfl) (by kernel_rfl) (by kernel_rfl) (by kernel_rfl) (els_imm ..) rfl) ?_
          refine .st (v := (A.v (Value.string (bstr y200.1)))) (conv_bs (e := 5) (l := y200.1) (by kernel_rfl) (by kernel_rfl) (by kernel_rfl) (by kernel_rfl) (els_imm ..) rfl) ?_
          refine .st (v := (A.v (Value.bool (!strEq (bstr y199.1) (bstr y200.1))))) (aBin_neq_s ..) ?_
          exact .lg ⟨_, _, _, _, _, rfl⟩
      rintro _ y206 ⟨j207, j208, j209, j210, j211, rfl⟩
      iterate 6 refine .uc ?_
      refine .biHN (fun hk212 => ?_) (fun hk212 => ?_)
      · exact .ex (x0 _ _ _ _ _)
      · refine .st (v := (A.v (Value.int .i64 (wr .i64 (v181 + 1))))) (aBin_add ..) ?_
        refine .st (v := [Blk.box [(A.imm (List.map (cL c8) v182) false), (A.imm (List.map c_S_Write v183) false), (A.v (Value.int .i64 v184)), (A.v (Value.bool v185))], Blk.box [(A.imm (List.map (cL c8) v186) false), (A.imm (List.map c_S_Write v187) false), (A.v (Value.int .i64 v188)), (A.v (Value.bool v189))], Blk.box [(A.imm (List.map (cL c8) v190) false), (A.imm (List.map c_S_Write v191) false), (A.v (Value.int .i64 v192)), (A.v (Value.bool v193))], Blk.box [(A.imm (List.map (cL c8) v194) false), (A.imm (List.map c_S_Write v195) false), (A.v (Value.int .i64 v196)), (A.v (Value.bool v197))]]) (by kernel_rfl) ?_
        refine .cT (by kernel_rfl) ?_
        exact ih _
    · exact .ex (x1 _ _ _ _)

def F7 (n : Nat) (a0 : S_Disk) (a1 : Int) (a2 : Int) (a3 : (List UInt8)) (a4 : (List UInt8)) : Option Bool :=
  Option.bind (G10 ) fun y1 => bif (!y1) then (some false) else (Option.bind (G11 a0) fun y3 => Option.bind (bif (!y3) then (some true) else (some (decide (128 < ((a3.length : Int)))))) fun y5 => Option.bind (bif y5 then (some true) else (some (decide (128 < ((a4.length : Int)))))) fun y10 => bif y10 then (some true) else (Option.bind (G21 a0 a2) fun y15 => Option.bind (G19 a0 a1 a3) fun y16 => Option.bind (bif (y15.2 != 0) then (some true) else (some (y16.2 != 0))) fun y18 => bif y18 then (some true) else (Option.bind (G21 y16.1 a2) fun y22 => Option.bind (G21 y16.1 a1) fun y23 => Option.bind (bif (y22.2 != 0) then (some true) else (some (y23.2 != 0))) fun y25 => Option.bind (bif y25 then (some true) else (some (((y23.1.length : Int)) != 128))) fun y29 => Option.bind (bif y29 then (some true) else (Option.bind (subI y23.1 0 ((a3.length : Int))) fun y34 => some (!strEq (bstr y34) (bstr a3)))) fun y35 => bif y35 then (Option.bind (some (())) fun y168 => Option.bind (some true) fun y169 => bif y169 then (some false) else (Option.bind (G19 y16.1 a2 a4) fun y172 => bif (y172.2 != 0) then (some (y172.2 == 2)) else (Option.bind (G23 y172.1) fun y174 => bif (y174.2 != 0) then (Option.bind (bif (y174.2 == 40) then (some y174.1.Stopped) else (some false)) fun y177 => some y177) else (Option.bind (F7_7_0b n false a0.Sectors a0.Pending a0.Left a0.Stopped y16.1.Sectors y16.1.Pending y16.1.Left y16.1.Stopped y172.1.Sectors y172.1.Pending y172.1.Left y172.1.Stopped y174.1.Sectors y174.1.Pending y174.1.Left y174.1.Stopped (n+8) 0) fun o213 => match o213 with | (Sum.inl y214) => some y214 | (Sum.inr _) => Option.bind (bif (((y174.1.Pending.length : Int)) == 0) then (Option.bind (G15 y174.1) fun y224 => some (y224 == 0)) else (some false)) fun y225 => some y225)))) else (bif (a1 != a2) then (Option.bind (Option.bind (some (!strEq (bstr y15.1) (bstr y22.1))) fun y46 => some y46) fun y47 => bif y47 then (some false) else (Option.bind (G19 y16.1 a2 a4) fun y50 => bif (y50.2 != 0) then (some (y50.2 == 2)) else (Option.bind (G23 y50.1) fun y52 => bif (y52.2 != 0) then (Option.bind (bif (y52.2 == 40) then (some y52.1.Stopped) else (some false)) fun y55 => some y55) else (Option.bind (F7_7_0 n false a0.Sectors a0.Pending a0.Left a0.Stopped y16.1.Sectors y16.1.Pending y16.1.Left y16.1.Stopped y50.1.Sectors y50.1.Pending y50.1.Left y50.1.Stopped y52.1.Sectors y52.1.Pending y52.1.Left y52.1.Stopped (n+8) 0) fun o91 => match o91 with | (Sum.inl y92) => some y92 | (Sum.inr _) => Option.bind (bif (((y52.1.Pending.length : Int)) == 0) then (Option.bind (G15 y52.1) fun y102 => some (y102 == 0)) else (some false)) fun y103 => some y103)))) else (Option.bind (Option.bind (some false) fun y107 => some y107) fun y108 => bif y108 then (some false) else (Option.bind (G19 y16.1 a2 a4) fun y111 => bif (y111.2 != 0) then (some (y111.2 == 2)) else (Option.bind (G23 y111.1) fun y113 => bif (y113.2 != 0) then (Option.bind (bif (y113.2 == 40) then (some y113.1.Stopped) else (some false)) fun y116 => some y116) else (Option.bind (F7_7_0a n false a0.Sectors a0.Pending a0.Left a0.Stopped y16.1.Sectors y16.1.Pending y16.1.Left y16.1.Stopped y111.1.Sectors y111.1.Pending y111.1.Left y111.1.Stopped y113.1.Sectors y113.1.Pending y113.1.Left y113.1.Stopped (n+8) 0) fun o152 => match o152 with | (Sum.inl y153) => some y153 | (Sum.inr _) => Option.bind (bif (((y113.1.Pending.length : Int)) == 0) then (Option.bind (G15 y113.1) fun y163 => some (y163 == 0)) else (some false)) fun y164 => some y164))))))))

theorem T7 (C : Nat → List A → Option A) (n : Nat) (h10 : Orc10 C) (h11 : Orc11 C) (h15 : Orc15 C) (h19 : Orc19 C) (h21 : Orc21 C) (h23 : Orc23 C) (a0 : S_Disk) (a1 : Int) (a2 : Int) (a3 : (List UInt8)) (a4 : (List UInt8)) : J (fun (o : R) y => ∃ v, o.1 = .ret v ∧ snapE o.2 v = (A.v (Value.bool y))) (evCall1 (cx C) (evCall (cx C) (n+8)) (evCallY (cx C) (n+8)) (n+8) 7 [(A.agg [(A.imm (List.map (cL c8) a0.Sectors) false), (A.imm (List.map c_S_Write a0.Pending) false), (A.v (Value.int .i64 a0.Left)), (A.v (Value.bool a0.Stopped))]), (A.v (Value.int .i64 a1)), (A.v (Value.int .i64 a2)), (A.imm (List.map c8 a3) false), (A.imm (List.map c8 a4) false)] [] 0) some (F7 n a0 a1 a2 a3 a4) some := by
  refine .lp (e7 ..) ?_
  unfold F7
  refine .st (v := ((A.ptr 0 0), [Blk.box [(A.imm (List.map (cL c8) a0.Sectors) false), (A.imm (List.map c_S_Write a0.Pending) false), (A.v (Value.int .i64 a0.Left)), (A.v (Value.bool a0.Stopped))]])) (by kernel_rfl) ?_
  refine .bd (g := fun (y : Bool) => (A.v (Value.bool y))) (h10 ()) fun y1 => ?_
  refine .st (v := (A.v (Value.bool (!y1)))) (by kernel_rfl) ?_
  refine .biHN (fun hk2 => ?_) (fun hk2 => ?_)
  · exact .lf rfl rfl ⟨_, rfl, rfl⟩
  · refine .st (v := (A.agg [(A.imm (List.map (cL c8) a0.Sectors) false), (A.imm (List.map c_S_Write a0.Pending) false), (A.v (Value.int .i64 a0.Left)), (A.v (Value.bool a0.Stopped))])) (by kernel_rfl) ?_
    refine .bd (g := fun (y : Bool) => (A.v (Value.bool y))) (by show C 11 [snap [Blk.box [(A.imm (List.map (cL c8) a0.Sectors) false), (A.imm (List.map c_S_Write a0.Pending) false), (A.v (Value.int .i64 a0.Left)), (A.v (Value.bool a0.Stopped))]] (A.agg [(A.imm (List.map (cL c8) a0.Sectors) false), (A.imm (List.map c_S_Write a0.Pending) false), (A.v (Value.int .i64 a0.Left)), (A.v (Value.bool a0.Stopped))])] = _; simp only [snap, snapW, snapWs, snapWss, snapWss_map, trim, List.map_cons, List.map_nil, fl_cI, fl_c8, fl_cB, fl_cS, fl_cL, fl_S_Write, fl_S_Disk, fl_S_kinespherelaw04_Act]; exact h11 a0) fun y3 => ?_
    refine .st (v := (A.v (Value.bool (!y3)))) (by kernel_rfl) ?_
    refine .bg (fun t (y : Bool) => ∃ j6 j7 j8 : A, t = [(A.v (Value.bool y)), j6, j7, j8]) ?_ ?_
    · refine .biH (fun hk4 => ?_) (fun hk4 => ?_)
      · exact .lg ⟨_, _, _, rfl⟩
      · refine .st (v := (A.v (Value.int .i64 ((a3.length : Int))))) (len_imm (e := 5) (h1 := by kernel_rfl) ..) ?_
        refine .st (v := (A.v (Value.bool (decide (128 < ((a3.length : Int))))))) (aBin_gtr ..) ?_
        exact .lg ⟨_, _, _, rfl⟩
    rintro _ y5 ⟨j6, j7, j8, rfl⟩
    iterate 4 refine .uc ?_
    refine .bg (fun t (y : Bool) => ∃ j11 j12 j13 : A, t = [(A.v (Value.bool y)), j11, j12, j13]) ?_ ?_
    · refine .biH (fun hk9 => ?_) (fun hk9 => ?_)
      · exact .lg ⟨_, _, _, rfl⟩
      · refine .st (v := (A.v (Value.int .i64 ((a4.length : Int))))) (len_imm (e := 5) (h1 := by kernel_rfl) ..) ?_
        refine .st (v := (A.v (Value.bool (decide (128 < ((a4.length : Int))))))) (aBin_gtr ..) ?_
        exact .lg ⟨_, _, _, rfl⟩
    rintro _ y10 ⟨j11, j12, j13, rfl⟩
    iterate 4 refine .uc ?_
    refine .biHN (fun hk14 => ?_) (fun hk14 => ?_)
    · exact .lf rfl rfl ⟨_, rfl, rfl⟩
    · refine .st (v := (A.agg [(A.imm (List.map (cL c8) a0.Sectors) false), (A.imm (List.map c_S_Write a0.Pending) false), (A.v (Value.int .i64 a0.Left)), (A.v (Value.bool a0.Stopped))])) (by kernel_rfl) ?_
      refine .bd (g := fun (y : ((List UInt8) × Int)) => (A.tup [(A.imm (List.map c8 y.1) false), (A.v (Value.int .i64 y.2))])) (by show C 21 [snap [Blk.box [(A.imm (List.map (cL c8) a0.Sectors) false), (A.imm (List.map c_S_Write a0.Pending) false), (A.v (Value.int .i64 a0.Left)), (A.v (Value.bool a0.Stopped))]] (A.agg [(A.imm (List.map (cL c8) a0.Sectors) false), (A.imm (List.map c_S_Write a0.Pending) false), (A.v (Value.int .i64 a0.Left)), (A.v (Value.bool a0.Stopped))]), snap [Blk.box [(A.imm (List.map (cL c8) a0.Sectors) false), (A.imm (List.map c_S_Write a0.Pending) false), (A.v (Value.int .i64 a0.Left)), (A.v (Value.bool a0.Stopped))]] (A.v (Value.int .i64 a2))] = _; simp only [snap, snapW, snapWs, snapWss, snapWss_map, trim, List.map_cons, List.map_nil, fl_cI, fl_c8, fl_cB, fl_cS, fl_cL, fl_S_Write, fl_S_Disk, fl_S_kinespherelaw04_Act]; exact h21 a0 a2) fun y15 => ?_
      refine .st (v := (A.imm (List.map c8 y15.1) false)) (by kernel_rfl) ?_
      refine .st (v := (A.v (Value.int .i64 y15.2))) (by kernel_rfl) ?_
      refine .st (v := (A.agg [(A.imm (List.map (cL c8) a0.Sectors) false), (A.imm (List.map c_S_Write a0.Pending) false), (A.v (Value.int .i64 a0.Left)), (A.v (Value.bool a0.Stopped))])) (by kernel_rfl) ?_
      refine .bd (g := fun (y : (S_Disk × Int)) => (A.tup [(A.agg [(A.imm (List.map (cL c8) y.1.Sectors) false), (A.imm (List.map c_S_Write y.1.Pending) false), (A.v (Value.int .i64 y.1.Left)), (A.v (Value.bool y.1.Stopped))]), (A.v (Value.int .i64 y.2))])) (by show C 19 [snap [Blk.box [(A.imm (List.map (cL c8) a0.Sectors) false), (A.imm (List.map c_S_Write a0.Pending) false), (A.v (Value.int .i64 a0.Left)), (A.v (Value.bool a0.Stopped))]] (A.agg [(A.imm (List.map (cL c8) a0.Sectors) false), (A.imm (List.map c_S_Write a0.Pending) false), (A.v (Value.int .i64 a0.Left)), (A.v (Value.bool a0.Stopped))]), snap [Blk.box [(A.imm (List.map (cL c8) a0.Sectors) false), (A.imm (List.map c_S_Write a0.Pending) false), (A.v (Value.int .i64 a0.Left)), (A.v (Value.bool a0.Stopped))]] (A.v (Value.int .i64 a1)), snap [Blk.box [(A.imm (List.map (cL c8) a0.Sectors) false), (A.imm (List.map c_S_Write a0.Pending) false), (A.v (Value.int .i64 a0.Left)), (A.v (Value.bool a0.Stopped))]] (A.imm (List.map c8 a3) false)] = _; simp only [snap, snapW, snapWs, snapWss, snapWss_map, trim, List.map_cons, List.map_nil, fl_cI, fl_c8, fl_cB, fl_cS, fl_cL, fl_S_Write, fl_S_Disk, fl_S_kinespherelaw04_Act]; exact h19 a0 a1 a3) fun y16 => ?_
      refine .st (v := (A.agg [(A.imm (List.map (cL c8) y16.1.Sectors) false), (A.imm (List.map c_S_Write y16.1.Pending) false), (A.v (Value.int .i64 y16.1.Left)), (A.v (Value.bool y16.1.Stopped))])) (by kernel_rfl) ?_
      refine .st (v := (A.v (Value.int .i64 y16.2))) (by kernel_rfl) ?_
      refine .st (v := ((A.ptr 1 0), [Blk.box [(A.imm (List.map (cL c8) a0.Sectors) false), (A.imm (List.map c_S_Write a0.Pending) false), (A.v (Value.int .i64 a0.Left)), (A.v (Value.bool a0.Stopped))], Blk.box [(A.imm [] true), (A.imm [] true), (A.v (Value.int .i64 0)), (A.v (Value.bool false))]])) (by kernel_rfl) ?_
      refine .st (v := [Blk.box [(A.imm (List.map (cL c8) a0.Sectors) false), (A.imm (List.map c_S_Write a0.Pending) false), (A.v (Value.int .i64 a0.Left)), (A.v (Value.bool a0.Stopped))], Blk.box [(A.imm (List.map (cL c8) y16.1.Sectors) false), (A.imm (List.map c_S_Write y16.1.Pending) false), (A.v (Value.int .i64 y16.1.Left)), (A.v (Value.bool y16.1.Stopped))]]) (by kernel_rfl) ?_
      refine .st (v := (A.v (Value.bool (y15.2 != 0)))) (aBin_neq ..) ?_
      refine .bg (fun t (y : Bool) => ∃ j19 j20 : A, t = [(A.v (Value.bool y)), j19, j20]) ?_ ?_
      · refine .biH (fun hk17 => ?_) (fun hk17 => ?_)
        · exact .lg ⟨_, _, rfl⟩
        · refine .st (v := (A.v (Value.bool (y16.2 != 0)))) (aBin_neq ..) ?_
          exact .lg ⟨_, _, rfl⟩
      rintro _ y18 ⟨j19, j20, rfl⟩
      iterate 3 refine .uc ?_
      refine .biHN (fun hk21 => ?_) (fun hk21 => ?_)
      · exact .lf rfl rfl ⟨_, rfl, rfl⟩
      · refine .st (v := (A.agg [(A.imm (List.map (cL c8) y16.1.Sectors) false), (A.imm (List.map c_S_Write y16.1.Pending) false), (A.v (Value.int .i64 y16.1.Left)), (A.v (Value.bool y16.1.Stopped))])) (by kernel_rfl) ?_
        refine .bd (g := fun (y : ((List UInt8) × Int)) => (A.tup [(A.imm (List.map c8 y.1) false), (A.v (Value.int .i64 y.2))])) (by show C 21 [snap [Blk.box [(A.imm (List.map (cL c8) a0.Sectors) false), (A.imm (List.map c_S_Write a0.Pending) false), (A.v (Value.int .i64 a0.Left)), (A.v (Value.bool a0.Stopped))], Blk.box [(A.imm (List.map (cL c8) y16.1.Sectors) false), (A.imm (List.map c_S_Write y16.1.Pending) false), (A.v (Value.int .i64 y16.1.Left)), (A.v (Value.bool y16.1.Stopped))]] (A.agg [(A.imm (List.map (cL c8) y16.1.Sectors) false), (A.imm (List.map c_S_Write y16.1.Pending) false), (A.v (Value.int .i64 y16.1.Left)), (A.v (Value.bool y16.1.Stopped))]), snap [Blk.box [(A.imm (List.map (cL c8) a0.Sectors) false), (A.imm (List.map c_S_Write a0.Pending) false), (A.v (Value.int .i64 a0.Left)), (A.v (Value.bool a0.Stopped))], Blk.box [(A.imm (List.map (cL c8) y16.1.Sectors) false), (A.imm (List.map c_S_Write y16.1.Pending) false), (A.v (Value.int .i64 y16.1.Left)), (A.v (Value.bool y16.1.Stopped))]] (A.v (Value.int .i64 a2))] = _; simp only [snap, snapW, snapWs, snapWss, snapWss_map, trim, List.map_cons, List.map_nil, fl_cI, fl_c8, fl_cB, fl_cS, fl_cL, fl_S_Write, fl_S_Disk, fl_S_kinespherelaw04_Act]; exact h21 y16.1 a2) fun y22 => ?_
        refine .st (v := (A.imm (List.map c8 y22.1) false)) (by kernel_rfl) ?_
        refine .st (v := (A.v (Value.int .i64 y22.2))) (by kernel_rfl) ?_
        refine .st (v := (A.agg [(A.imm (List.map (cL c8) y16.1.Sectors) false), (A.imm (List.map c_S_Write y16.1.Pending) false), (A.v (Value.int .i64 y16.1.Left)), (A.v (Value.bool y16.1.Stopped))])) (by kernel_rfl) ?_
        refine .bd (g := fun (y : ((List UInt8) × Int)) => (A.tup [(A.imm (List.map c8 y.1) false), (A.v (Value.int .i64 y.2))])) (by show C 21 [snap [Blk.box [(A.imm (List.map (cL c8) a0.Sectors) false), (A.imm (List.map c_S_Write a0.Pending) false), (A.v (Value.int .i64 a0.Left)), (A.v (Value.bool a0.Stopped))], Blk.box [(A.imm (List.map (cL c8) y16.1.Sectors) false), (A.imm (List.map c_S_Write y16.1.Pending) false), (A.v (Value.int .i64 y16.1.Left)), (A.v (Value.bool y16.1.Stopped))]] (A.agg [(A.imm (List.map (cL c8) y16.1.Sectors) false), (A.imm (List.map c_S_Write y16.1.Pending) false), (A.v (Value.int .i64 y16.1.Left)), (A.v (Value.bool y16.1.Stopped))]), snap [Blk.box [(A.imm (List.map (cL c8) a0.Sectors) false), (A.imm (List.map c_S_Write a0.Pending) false), (A.v (Value.int .i64 a0.Left)), (A.v (Value.bool a0.Stopped))], Blk.box [(A.imm (List.map (cL c8) y16.1.Sectors) false), (A.imm (List.map c_S_Write y16.1.Pending) false), (A.v (Value.int .i64 y16.1.Left)), (A.v (Value.bool y16.1.Stopped))]] (A.v (Value.int .i64 a1))] = _; simp only [snap, snapW, snapWs, snapWss, snapWss_map, trim, List.map_cons, List.map_nil, fl_cI, fl_c8, fl_cB, fl_cS, fl_cL, fl_S_Write, fl_S_Disk, fl_S_kinespherelaw04_Act]; exact h21 y16.1 a1) fun y23 => ?_
        refine .st (v := (A.imm (List.map c8 y23.1) false)) (by kernel_rfl) ?_
        refine .st (v := (A.v (Value.int .i64 y23.2))) (by kernel_rfl) ?_
        refine .st (v := (A.v (Value.bool (y22.2 != 0)))) (aBin_neq ..) ?_
        refine .bg (fun t (y : Bool) => ∃ j26 j27 : A, t = [(A.v (Value.bool y)), j26, j27]) ?_ ?_
        · refine .biH (fun hk24 => ?_) (fun hk24 => ?_)
          · exact .lg ⟨_, _, rfl⟩
          · refine .st (v := (A.v (Value.bool (y23.2 != 0)))) (aBin_neq ..) ?_
            exact .lg ⟨_, _, rfl⟩
        rintro _ y25 ⟨j26, j27, rfl⟩
        iterate 3 refine .uc ?_
        refine .bg (fun t (y : Bool) => ∃ j30 j31 j32 : A, t = [(A.v (Value.bool y)), j30, j31, j32]) ?_ ?_
        · refine .biH (fun hk28 => ?_) (fun hk28 => ?_)
          · exact .lg ⟨_, _, _, rfl⟩
          · refine .st (v := (A.v (Value.int .i64 ((y23.1.length : Int))))) (len_imm (e := 5) (h1 := by kernel_rfl) ..) ?_
            refine .st (v := (A.v (Value.bool (((y23.1.length : Int)) != 128)))) (aBin_neq ..) ?_
            exact .lg ⟨_, _, _, rfl⟩
        rintro _ y29 ⟨j30, j31, j32, rfl⟩
        iterate 4 refine .uc ?_
        refine .bg (fun t (y : Bool) => ∃ j36 j37 j38 j39 j40 j41 j42 j43 : A, t = [(A.v (Value.bool y)), j36, j37, j38, j39, j40, j41, j42, j43]) ?_ ?_
        · refine .biH (fun hk33 => ?_) (fun hk33 => ?_)
          · exact .lg ⟨_, _, _, _, _, _, _, _, rfl⟩
          · refine .st (v := (A.v (Value.int .i64 ((a3.length : Int))))) (len_imm (e := 5) (h1 := by kernel_rfl) ..) ?_
            refine .bd (g := fun (y : List UInt8) => (A.imm (List.map c8 y) false)) (cut_imm (e := 5) (es := 1) (f := c8) (l := y23.1) (a := 0) (b := (a3.length : Int)) (by kernel_rfl) (by kernel_rfl) (fun _ => rfl) (.inl ⟨rfl, rfl⟩) (.inr ⟨_, rfl⟩)) fun y34 => ?_
            refine .st (v := (A.v (Value.string (bstr y34)))) (conv_bs (e := 5) (l := y34) (by kernel_rfl) (by kernel_rfl) (by kernel_rfl) (by kernel_rfl) (els_imm ..) rfl) ?_
            refine .st (v := (A.v (Value.string (bstr a3)))) (conv_bs (e := 5) (l := a3) (by kernel_rfl) (by kernel_rfl) (by kernel_rfl) (by kernel_rfl) (els_imm ..) rfl) ?_
            refine .st (v := (A.v (Value.bool (!strEq (bstr y34) (bstr a3))))) (aBin_neq_s ..) ?_
            exact .lg ⟨_, _, _, _, _, _, _, _, rfl⟩
        rintro _ y35 ⟨j36, j37, j38, j39, j40, j41, j42, j43, rfl⟩
        iterate 9 refine .uc ?_
        refine .gsf (fun hc44 => ?_) (fun hc44 => ?_)
        · refine .bb ?_
          refine .st (v := (A.v (Value.bool (a1 != a2)))) (aBin_neq ..) ?_
          refine .gst (fun hc45 => ?_) (fun hc45 => ?_)
          · refine .bb ?_
            refine .st (v := (A.v (Value.string (bstr y15.1)))) (conv_bs (e := 5) (l := y15.1) (by kernel_rfl) (by kernel_rfl) (by kernel_rfl) (by kernel_rfl) (els_imm ..) rfl) ?_
            refine .st (v := (A.v (Value.string (bstr y22.1)))) (conv_bs (e := 5) (l := y22.1) (by kernel_rfl) (by kernel_rfl) (by kernel_rfl) (by kernel_rfl) (els_imm ..) rfl) ?_
            refine .cr ?_
            iterate 4 refine .uc ?_
            refine .cr ?_
            iterate 8 refine .uc ?_
            refine .lp (congrArg (fun z => Option.bind z _) (gIf_knownTT hc45)) ?_
            refine .bb ?_
            refine .st (v := (A.v (Value.bool (!strEq (bstr y15.1) (bstr y22.1))))) (aBin_neq_s ..) ?_
            refine .cr ?_
            refine .uc ?_
            refine .bg (fun t (y : Bool) => ∃ j48 : A, t = [(A.v (Value.bool y)), j48]) ?_ ?_
            · refine .bKF hc44 ?_
              refine .bg (fun t (y : Bool) =>  t = (A.v (Value.bool y))) ?_ ?_
              · refine .bKT hc45 ?_
                exact .lg rfl
              rintro _ y46 rfl
              exact .lg ⟨_, rfl⟩
            rintro _ y47 ⟨j48, rfl⟩
            iterate 2 refine .uc ?_
            refine .biHN (fun hk49 => ?_) (fun hk49 => ?_)
            · exact .lf rfl rfl ⟨_, rfl, rfl⟩
            · refine .st (v := (A.agg [(A.imm (List.map (cL c8) y16.1.Sectors) false), (A.imm (List.map c_S_Write y16.1.Pending) false), (A.v (Value.int .i64 y16.1.Left)), (A.v (Value.bool y16.1.Stopped))])) (by kernel_rfl) ?_
              refine .bd (g := fun (y : (S_Disk × Int)) => (A.tup [(A.agg [(A.imm (List.map (cL c8) y.1.Sectors) false), (A.imm (List.map c_S_Write y.1.Pending) false), (A.v (Value.int .i64 y.1.Left)), (A.v (Value.bool y.1.Stopped))]), (A.v (Value.int .i64 y.2))])) (by show C 19 [snap [Blk.box [(A.imm (List.map (cL c8) a0.Sectors) false), (A.imm (List.map c_S_Write a0.Pending) false), (A.v (Value.int .i64 a0.Left)), (A.v (Value.bool a0.Stopped))], Blk.box [(A.imm (List.map (cL c8) y16.1.Sectors) false), (A.imm (List.map c_S_Write y16.1.Pending) false), (A.v (Value.int .i64 y16.1.Left)), (A.v (Value.bool y16.1.Stopped))]] (A.agg [(A.imm (List.map (cL c8) y16.1.Sectors) false), (A.imm (List.map c_S_Write y16.1.Pending) false), (A.v (Value.int .i64 y16.1.Left)), (A.v (Value.bool y16.1.Stopped))]), snap [Blk.box [(A.imm (List.map (cL c8) a0.Sectors) false), (A.imm (List.map c_S_Write a0.Pending) false), (A.v (Value.int .i64 a0.Left)), (A.v (Value.bool a0.Stopped))], Blk.box [(A.imm (List.map (cL c8) y16.1.Sectors) false), (A.imm (List.map c_S_Write y16.1.Pending) false), (A.v (Value.int .i64 y16.1.Left)), (A.v (Value.bool y16.1.Stopped))]] (A.v (Value.int .i64 a2)), snap [Blk.box [(A.imm (List.map (cL c8) a0.Sectors) false), (A.imm (List.map c_S_Write a0.Pending) false), (A.v (Value.int .i64 a0.Left)), (A.v (Value.bool a0.Stopped))], Blk.box [(A.imm (List.map (cL c8) y16.1.Sectors) false), (A.imm (List.map c_S_Write y16.1.Pending) false), (A.v (Value.int .i64 y16.1.Left)), (A.v (Value.bool y16.1.Stopped))]] (A.imm (List.map c8 a4) false)] = _; simp only [snap, snapW, snapWs, snapWss, snapWss_map, trim, List.map_cons, List.map_nil, fl_cI, fl_c8, fl_cB, fl_cS, fl_cL, fl_S_Write, fl_S_Disk, fl_S_kinespherelaw04_Act]; exact h19 y16.1 a2 a4) fun y50 => ?_
              refine .st (v := (A.agg [(A.imm (List.map (cL c8) y50.1.Sectors) false), (A.imm (List.map c_S_Write y50.1.Pending) false), (A.v (Value.int .i64 y50.1.Left)), (A.v (Value.bool y50.1.Stopped))])) (by kernel_rfl) ?_
              refine .st (v := (A.v (Value.int .i64 y50.2))) (by kernel_rfl) ?_
              refine .st (v := ((A.ptr 2 0), [Blk.box [(A.imm (List.map (cL c8) a0.Sectors) false), (A.imm (List.map c_S_Write a0.Pending) false), (A.v (Value.int .i64 a0.Left)), (A.v (Value.bool a0.Stopped))], Blk.box [(A.imm (List.map (cL c8) y16.1.Sectors) false), (A.imm (List.map c_S_Write y16.1.Pending) false), (A.v (Value.int .i64 y16.1.Left)), (A.v (Value.bool y16.1.Stopped))], Blk.box [(A.imm [] true), (A.imm [] true), (A.v (Value.int .i64 0)), (A.v (Value.bool false))]])) (by kernel_rfl) ?_
              refine .st (v := [Blk.box [(A.imm (List.map (cL c8) a0.Sectors) false), (A.imm (List.map c_S_Write a0.Pending) false), (A.v (Value.int .i64 a0.Left)), (A.v (Value.bool a0.Stopped))], Blk.box [(A.imm (List.map (cL c8) y16.1.Sectors) false), (A.imm (List.map c_S_Write y16.1.Pending) false), (A.v (Value.int .i64 y16.1.Left)), (A.v (Value.bool y16.1.Stopped))], Blk.box [(A.imm (List.map (cL c8) y50.1.Sectors) false), (A.imm (List.map c_S_Write y50.1.Pending) false), (A.v (Value.int .i64 y50.1.Left)), (A.v (Value.bool y50.1.Stopped))]]) (by kernel_rfl) ?_
              refine .st (v := (A.v (Value.bool (y50.2 != 0)))) (aBin_neq ..) ?_
              refine .biHN (fun hk51 => ?_) (fun hk51 => ?_)
              · refine .st (v := (A.v (Value.bool (y50.2 == 2)))) (aBin_eql ..) ?_
                exact .lf rfl rfl ⟨_, rfl, rfl⟩
              · refine .st (v := (A.agg [(A.imm (List.map (cL c8) y50.1.Sectors) false), (A.imm (List.map c_S_Write y50.1.Pending) false), (A.v (Value.int .i64 y50.1.Left)), (A.v (Value.bool y50.1.Stopped))])) (by kernel_rfl) ?_
                refine .bd (g := fun (y : (S_Disk × Int)) => (A.tup [(A.agg [(A.imm (List.map (cL c8) y.1.Sectors) false), (A.imm (List.map c_S_Write y.1.Pending) false), (A.v (Value.int .i64 y.1.Left)), (A.v (Value.bool y.1.Stopped))]), (A.v (Value.int .i64 y.2))])) (by show C 23 [snap [Blk.box [(A.imm (List.map (cL c8) a0.Sectors) false), (A.imm (List.map c_S_Write a0.Pending) false), (A.v (Value.int .i64 a0.Left)), (A.v (Value.bool a0.Stopped))], Blk.box [(A.imm (List.map (cL c8) y16.1.Sectors) false), (A.imm (List.map c_S_Write y16.1.Pending) false), (A.v (Value.int .i64 y16.1.Left)), (A.v (Value.bool y16.1.Stopped))], Blk.box [(A.imm (List.map (cL c8) y50.1.Sectors) false), (A.imm (List.map c_S_Write y50.1.Pending) false), (A.v (Value.int .i64 y50.1.Left)), (A.v (Value.bool y50.1.Stopped))]] (A.agg [(A.imm (List.map (cL c8) y50.1.Sectors) false), (A.imm (List.map c_S_Write y50.1.Pending) false), (A.v (Value.int .i64 y50.1.Left)), (A.v (Value.bool y50.1.Stopped))])] = _; simp only [snap, snapW, snapWs, snapWss, snapWss_map, trim, List.map_cons, List.map_nil, fl_cI, fl_c8, fl_cB, fl_cS, fl_cL, fl_S_Write, fl_S_Disk, fl_S_kinespherelaw04_Act]; exact h23 y50.1) fun y52 => ?_
                refine .st (v := (A.agg [(A.imm (List.map (cL c8) y52.1.Sectors) false), (A.imm (List.map c_S_Write y52.1.Pending) false), (A.v (Value.int .i64 y52.1.Left)), (A.v (Value.bool y52.1.Stopped))])) (by kernel_rfl) ?_
                refine .st (v := (A.v (Value.int .i64 y52.2))) (by kernel_rfl) ?_
                refine .st (v := ((A.ptr 3 0), [Blk.box [(A.imm (List.map (cL c8) a0.Sectors) false), (A.imm (List.map c_S_Write a0.Pending) false), (A.v (Value.int .i64 a0.Left)), (A.v (Value.bool a0.Stopped))], Blk.box [(A.imm (List.map (cL c8) y16.1.Sectors) false), (A.imm (List.map c_S_Write y16.1.Pending) false), (A.v (Value.int .i64 y16.1.Left)), (A.v (Value.bool y16.1.Stopped))], Blk.box [(A.imm (List.map (cL c8) y50.1.Sectors) false), (A.imm (List.map c_S_Write y50.1.Pending) false), (A.v (Value.int .i64 y50.1.Left)), (A.v (Value.bool y50.1.Stopped))], Blk.box [(A.imm [] true), (A.imm [] true), (A.v (Value.int .i64 0)), (A.v (Value.bool false))]])) (by kernel_rfl) ?_
                refine .st (v := [Blk.box [(A.imm (List.map (cL c8) a0.Sectors) false), (A.imm (List.map c_S_Write a0.Pending) false), (A.v (Value.int .i64 a0.Left)), (A.v (Value.bool a0.Stopped))], Blk.box [(A.imm (List.map (cL c8) y16.1.Sectors) false), (A.imm (List.map c_S_Write y16.1.Pending) false), (A.v (Value.int .i64 y16.1.Left)), (A.v (Value.bool y16.1.Stopped))], Blk.box [(A.imm (List.map (cL c8) y50.1.Sectors) false), (A.imm (List.map c_S_Write y50.1.Pending) false), (A.v (Value.int .i64 y50.1.Left)), (A.v (Value.bool y50.1.Stopped))], Blk.box [(A.imm (List.map (cL c8) y52.1.Sectors) false), (A.imm (List.map c_S_Write y52.1.Pending) false), (A.v (Value.int .i64 y52.1.Left)), (A.v (Value.bool y52.1.Stopped))]]) (by kernel_rfl) ?_
                refine .st (v := (A.v (Value.bool (y52.2 != 0)))) (aBin_neq ..) ?_
                refine .biHN (fun hk53 => ?_) (fun hk53 => ?_)
                · refine .st (v := (A.v (Value.bool (y52.2 == 40)))) (aBin_eql ..) ?_
                  refine .bg (fun t (y : Bool) => ∃ j56 j57 : A, t = [(A.v (Value.bool y)), j56, j57]) ?_ ?_
                  · refine .biH (fun hk54 => ?_) (fun hk54 => ?_)
                    · refine .st (v := (A.ptr 3 3)) (by kernel_rfl) ?_
                      refine .st (v := (A.v (Value.bool y52.1.Stopped))) (by kernel_rfl) ?_
                      exact .lg ⟨_, _, rfl⟩
                    · exact .lg ⟨_, _, rfl⟩
                  rintro _ y55 ⟨j56, j57, rfl⟩
                  iterate 3 refine .uc ?_
                  exact .lf rfl rfl ⟨_, rfl, rfl⟩
                · refine .as (T7_7_0 C n h10 h11 h15 h19 h21 h23 false a0.Sectors a0.Pending a0.Left a0.Stopped y16.1.Sectors y16.1.Pending y16.1.Left y16.1.Stopped y50.1.Sectors y50.1.Pending y50.1.Left y50.1.Stopped y52.1.Sectors y52.1.Pending y52.1.Left y52.1.Stopped _ _ _ _ ?_ ?_ _ 0)
                  · intro y92 j93 j94 j95 j96
                    refine .un rfl ?_
                    exact .lf rfl rfl ⟨_, rfl, rfl⟩
                  · intro j97 j98 j99 j100
                    refine .un rfl ?_
                    refine .cT (by kernel_rfl) ?_
                    refine .st (v := (A.ptr 3 1)) (by kernel_rfl) ?_
                    refine .st (v := (A.imm (List.map c_S_Write y52.1.Pending) false)) (by kernel_rfl) ?_
                    refine .st (v := (A.v (Value.int .i64 ((y52.1.Pending.length : Int))))) (len_imm (e := 54) (h1 := by kernel_rfl) ..) ?_
                    refine .st (v := (A.v (Value.bool (((y52.1.Pending.length : Int)) == 0)))) (aBin_eql ..) ?_
                    refine .bg (fun t (y : Bool) => ∃ j104 j105 j106 : A, t = [(A.v (Value.bool y)), j104, j105, j106]) ?_ ?_
                    · refine .biH (fun hk101 => ?_) (fun hk101 => ?_)
                      · refine .st (v := (A.agg [(A.imm (List.map (cL c8) y52.1.Sectors) false), (A.imm (List.map c_S_Write y52.1.Pending) false), (A.v (Value.int .i64 y52.1.Left)), (A.v (Value.bool y52.1.Stopped))])) (by kernel_rfl) ?_
                        refine .bd (g := fun (y : Int) => (A.v (Value.int .i64 y))) (by show C 15 [snap [Blk.box [(A.imm (List.map (cL c8) a0.Sectors) false), (A.imm (List.map c_S_Write a0.Pending) false), (A.v (Value.int .i64 a0.Left)), (A.v (Value.bool a0.Stopped))], Blk.box [(A.imm (List.map (cL c8) y16.1.Sectors) false), (A.imm (List.map c_S_Write y16.1.Pending) false), (A.v (Value.int .i64 y16.1.Left)), (A.v (Value.bool y16.1.Stopped))], Blk.box [(A.imm (List.map (cL c8) y50.1.Sectors) false), (A.imm (List.map c_S_Write y50.1.Pending) false), (A.v (Value.int .i64 y50.1.Left)), (A.v (Value.bool y50.1.Stopped))], Blk.box [(A.imm (List.map (cL c8) y52.1.Sectors) false), (A.imm (List.map c_S_Write y52.1.Pending) false), (A.v (Value.int .i64 y52.1.Left)), (A.v (Value.bool y52.1.Stopped))]] (A.agg [(A.imm (List.map (cL c8) y52.1.Sectors) false), (A.imm (List.map c_S_Write y52.1.Pending) false), (A.v (Value.int .i64 y52.1.Left)), (A.v (Value.bool y52.1.Stopped))])] = _; simp only [snap, snapW, snapWs, snapWss, snapWss_map, trim, List.map_cons, List.map_nil, fl_cI, fl_c8, fl_cB, fl_cS, fl_cL, fl_S_Write, fl_S_Disk, fl_S_kinespherelaw04_Act]; exact h15 y52.1) fun y102 => ?_
                        refine .st (v := (A.v (Value.bool (y102 == 0)))) (aBin_eql ..) ?_
                        exact .lg ⟨_, _, _, rfl⟩
                      · exact .lg ⟨_, _, _, rfl⟩
                    rintro _ y103 ⟨j104, j105, j106, rfl⟩
                    iterate 4 refine .uc ?_
                    exact .lf rfl rfl ⟨_, rfl, rfl⟩
          · refine .bb ?_
            refine .cr ?_
            iterate 4 refine .uc ?_
            refine .cr ?_
            iterate 8 refine .uc ?_
            refine .lp (congrArg (fun z => Option.bind z _) (gIf_knownTF hc45)) ?_
            refine .bb ?_
            refine .cr ?_
            refine .uc ?_
            refine .bg (fun t (y : Bool) => ∃ j109 : A, t = [(A.v (Value.bool y)), j109]) ?_ ?_
            · refine .bKF hc44 ?_
              refine .bg (fun t (y : Bool) =>  t = (A.v (Value.bool y))) ?_ ?_
              · refine .bKF hc45 ?_
                exact .lg rfl
              rintro _ y107 rfl
              exact .lg ⟨_, rfl⟩
            rintro _ y108 ⟨j109, rfl⟩
            iterate 2 refine .uc ?_
            refine .biHN (fun hk110 => ?_) (fun hk110 => ?_)
            · exact .lf rfl rfl ⟨_, rfl, rfl⟩
            · refine .st (v := (A.agg [(A.imm (List.map (cL c8) y16.1.Sectors) false), (A.imm (List.map c_S_Write y16.1.Pending) false), (A.v (Value.int .i64 y16.1.Left)), (A.v (Value.bool y16.1.Stopped))])) (by kernel_rfl) ?_
              refine .bd (g := fun (y : (S_Disk × Int)) => (A.tup [(A.agg [(A.imm (List.map (cL c8) y.1.Sectors) false), (A.imm (List.map c_S_Write y.1.Pending) false), (A.v (Value.int .i64 y.1.Left)), (A.v (Value.bool y.1.Stopped))]), (A.v (Value.int .i64 y.2))])) (by show C 19 [snap [Blk.box [(A.imm (List.map (cL c8) a0.Sectors) false), (A.imm (List.map c_S_Write a0.Pending) false), (A.v (Value.int .i64 a0.Left)), (A.v (Value.bool a0.Stopped))], Blk.box [(A.imm (List.map (cL c8) y16.1.Sectors) false), (A.imm (List.map c_S_Write y16.1.Pending) false), (A.v (Value.int .i64 y16.1.Left)), (A.v (Value.bool y16.1.Stopped))]] (A.agg [(A.imm (List.map (cL c8) y16.1.Sectors) false), (A.imm (List.map c_S_Write y16.1.Pending) false), (A.v (Value.int .i64 y16.1.Left)), (A.v (Value.bool y16.1.Stopped))]), snap [Blk.box [(A.imm (List.map (cL c8) a0.Sectors) false), (A.imm (List.map c_S_Write a0.Pending) false), (A.v (Value.int .i64 a0.Left)), (A.v (Value.bool a0.Stopped))], Blk.box [(A.imm (List.map (cL c8) y16.1.Sectors) false), (A.imm (List.map c_S_Write y16.1.Pending) false), (A.v (Value.int .i64 y16.1.Left)), (A.v (Value.bool y16.1.Stopped))]] (A.v (Value.int .i64 a2)), snap [Blk.box [(A.imm (List.map (cL c8) a0.Sectors) false), (A.imm (List.map c_S_Write a0.Pending) false), (A.v (Value.int .i64 a0.Left)), (A.v (Value.bool a0.Stopped))], Blk.box [(A.imm (List.map (cL c8) y16.1.Sectors) false), (A.imm (List.map c_S_Write y16.1.Pending) false), (A.v (Value.int .i64 y16.1.Left)), (A.v (Value.bool y16.1.Stopped))]] (A.imm (List.map c8 a4) false)] = _; simp only [snap, snapW, snapWs, snapWss, snapWss_map, trim, List.map_cons, List.map_nil, fl_cI, fl_c8, fl_cB, fl_cS, fl_cL, fl_S_Write, fl_S_Disk, fl_S_kinespherelaw04_Act]; exact h19 y16.1 a2 a4) fun y111 => ?_
              refine .st (v := (A.agg [(A.imm (List.map (cL c8) y111.1.Sectors) false), (A.imm (List.map c_S_Write y111.1.Pending) false), (A.v (Value.int .i64 y111.1.Left)), (A.v (Value.bool y111.1.Stopped))])) (by kernel_rfl) ?_
              refine .st (v := (A.v (Value.int .i64 y111.2))) (by kernel_rfl) ?_
              refine .st (v := ((A.ptr 2 0), [Blk.box [(A.imm (List.map (cL c8) a0.Sectors) false), (A.imm (List.map c_S_Write a0.Pending) false), (A.v (Value.int .i64 a0.Left)), (A.v (Value.bool a0.Stopped))], Blk.box [(A.imm (List.map (cL c8) y16.1.Sectors) false), (A.imm (List.map c_S_Write y16.1.Pending) false), (A.v (Value.int .i64 y16.1.Left)), (A.v (Value.bool y16.1.Stopped))], Blk.box [(A.imm [] true), (A.imm [] true), (A.v (Value.int .i64 0)), (A.v (Value.bool false))]])) (by kernel_rfl) ?_
              refine .st (v := [Blk.box [(A.imm (List.map (cL c8) a0.Sectors) false), (A.imm (List.map c_S_Write a0.Pending) false), (A.v (Value.int .i64 a0.Left)), (A.v (Value.bool a0.Stopped))], Blk.box [(A.imm (List.map (cL c8) y16.1.Sectors) false), (A.imm (List.map c_S_Write y16.1.Pending) false), (A.v (Value.int .i64 y16.1.Left)), (A.v (Value.bool y16.1.Stopped))], Blk.box [(A.imm (List.map (cL c8) y111.1.Sectors) false), (A.imm (List.map c_S_Write y111.1.Pending) false), (A.v (Value.int .i64 y111.1.Left)), (A.v (Value.bool y111.1.Stopped))]]) (by kernel_rfl) ?_
              refine .st (v := (A.v (Value.bool (y111.2 != 0)))) (aBin_neq ..) ?_
              refine .biHN (fun hk112 => ?_) (fun hk112 => ?_)
              · refine .st (v := (A.v (Value.bool (y111.2 == 2)))) (aBin_eql ..) ?_
                exact .lf rfl rfl ⟨_, rfl, rfl⟩
              · refine .st (v := (A.agg [(A.imm (List.map (cL c8) y111.1.Sectors) false), (A.imm (List.map c_S_Write y111.1.Pending) false), (A.v (Value.int .i64 y111.1.Left)), (A.v (Value.bool y111.1.Stopped))])) (by kernel_rfl) ?_
                refine .bd (g := fun (y : (S_Disk × Int)) => (A.tup [(A.agg [(A.imm (List.map (cL c8) y.1.Sectors) false), (A.imm (List.map c_S_Write y.1.Pending) false), (A.v (Value.int .i64 y.1.Left)), (A.v (Value.bool y.1.Stopped))]), (A.v (Value.int .i64 y.2))])) (by show C 23 [snap [Blk.box [(A.imm (List.map (cL c8) a0.Sectors) false), (A.imm (List.map c_S_Write a0.Pending) false), (A.v (Value.int .i64 a0.Left)), (A.v (Value.bool a0.Stopped))], Blk.box [(A.imm (List.map (cL c8) y16.1.Sectors) false), (A.imm (List.map c_S_Write y16.1.Pending) false), (A.v (Value.int .i64 y16.1.Left)), (A.v (Value.bool y16.1.Stopped))], Blk.box [(A.imm (List.map (cL c8) y111.1.Sectors) false), (A.imm (List.map c_S_Write y111.1.Pending) false), (A.v (Value.int .i64 y111.1.Left)), (A.v (Value.bool y111.1.Stopped))]] (A.agg [(A.imm (List.map (cL c8) y111.1.Sectors) false), (A.imm (List.map c_S_Write y111.1.Pending) false), (A.v (Value.int .i64 y111.1.Left)), (A.v (Value.bool y111.1.Stopped))])] = _; simp only [snap, snapW, snapWs, snapWss, snapWss_map, trim, List.map_cons, List.map_nil, fl_cI, fl_c8, fl_cB, fl_cS, fl_cL, fl_S_Write, fl_S_Disk, fl_S_kinespherelaw04_Act]; exact h23 y111.1) fun y113 => ?_
                refine .st (v := (A.agg [(A.imm (List.map (cL c8) y113.1.Sectors) false), (A.imm (List.map c_S_Write y113.1.Pending) false), (A.v (Value.int .i64 y113.1.Left)), (A.v (Value.bool y113.1.Stopped))])) (by kernel_rfl) ?_
                refine .st (v := (A.v (Value.int .i64 y113.2))) (by kernel_rfl) ?_
                refine .st (v := ((A.ptr 3 0), [Blk.box [(A.imm (List.map (cL c8) a0.Sectors) false), (A.imm (List.map c_S_Write a0.Pending) false), (A.v (Value.int .i64 a0.Left)), (A.v (Value.bool a0.Stopped))], Blk.box [(A.imm (List.map (cL c8) y16.1.Sectors) false), (A.imm (List.map c_S_Write y16.1.Pending) false), (A.v (Value.int .i64 y16.1.Left)), (A.v (Value.bool y16.1.Stopped))], Blk.box [(A.imm (List.map (cL c8) y111.1.Sectors) false), (A.imm (List.map c_S_Write y111.1.Pending) false), (A.v (Value.int .i64 y111.1.Left)), (A.v (Value.bool y111.1.Stopped))], Blk.box [(A.imm [] true), (A.imm [] true), (A.v (Value.int .i64 0)), (A.v (Value.bool false))]])) (by kernel_rfl) ?_
                refine .st (v := [Blk.box [(A.imm (List.map (cL c8) a0.Sectors) false), (A.imm (List.map c_S_Write a0.Pending) false), (A.v (Value.int .i64 a0.Left)), (A.v (Value.bool a0.Stopped))], Blk.box [(A.imm (List.map (cL c8) y16.1.Sectors) false), (A.imm (List.map c_S_Write y16.1.Pending) false), (A.v (Value.int .i64 y16.1.Left)), (A.v (Value.bool y16.1.Stopped))], Blk.box [(A.imm (List.map (cL c8) y111.1.Sectors) false), (A.imm (List.map c_S_Write y111.1.Pending) false), (A.v (Value.int .i64 y111.1.Left)), (A.v (Value.bool y111.1.Stopped))], Blk.box [(A.imm (List.map (cL c8) y113.1.Sectors) false), (A.imm (List.map c_S_Write y113.1.Pending) false), (A.v (Value.int .i64 y113.1.Left)), (A.v (Value.bool y113.1.Stopped))]]) (by kernel_rfl) ?_
                refine .st (v := (A.v (Value.bool (y113.2 != 0)))) (aBin_neq ..) ?_
                refine .biHN (fun hk114 => ?_) (fun hk114 => ?_)
                · refine .st (v := (A.v (Value.bool (y113.2 == 40)))) (aBin_eql ..) ?_
                  refine .bg (fun t (y : Bool) => ∃ j117 j118 : A, t = [(A.v (Value.bool y)), j117, j118]) ?_ ?_
                  · refine .biH (fun hk115 => ?_) (fun hk115 => ?_)
                    · refine .st (v := (A.ptr 3 3)) (by kernel_rfl) ?_
                      refine .st (v := (A.v (Value.bool y113.1.Stopped))) (by kernel_rfl) ?_
                      exact .lg ⟨_, _, rfl⟩
                    · exact .lg ⟨_, _, rfl⟩
                  rintro _ y116 ⟨j117, j118, rfl⟩
                  iterate 3 refine .uc ?_
                  exact .lf rfl rfl ⟨_, rfl, rfl⟩
                · refine .as (T7_7_0a C n h10 h11 h15 h19 h21 h23 false a0.Sectors a0.Pending a0.Left a0.Stopped y16.1.Sectors y16.1.Pending y16.1.Left y16.1.Stopped y111.1.Sectors y111.1.Pending y111.1.Left y111.1.Stopped y113.1.Sectors y113.1.Pending y113.1.Left y113.1.Stopped _ _ _ _ ?_ ?_ _ 0)
                  · intro y153 j154 j155 j156 j157
                    refine .un rfl ?_
                    exact .lf rfl rfl ⟨_, rfl, rfl⟩
                  · intro j158 j159 j160 j161
                    refine .un rfl ?_
                    refine .cT (by kernel_rfl) ?_
                    refine .st (v := (A.ptr 3 1)) (by kernel_rfl) ?_
                    refine .st (v := (A.imm (List.map c_S_Write y113.1.Pending) false)) (by kernel_rfl) ?_
                    refine .st (v := (A.v (Value.int .i64 ((y113.1.Pending.length : Int))))) (len_imm (e := 54) (h1 := by kernel_rfl) ..) ?_
                    refine .st (v := (A.v (Value.bool (((y113.1.Pending.length : Int)) == 0)))) (aBin_eql ..) ?_
                    refine .bg (fun t (y : Bool) => ∃ j165 j166 j167 : A, t = [(A.v (Value.bool y)), j165, j166, j167]) ?_ ?_
                    · refine .biH (fun hk162 => ?_) (fun hk162 => ?_)
                      · refine .st (v := (A.agg [(A.imm (List.map (cL c8) y113.1.Sectors) false), (A.imm (List.map c_S_Write y113.1.Pending) false), (A.v (Value.int .i64 y113.1.Left)), (A.v (Value.bool y113.1.Stopped))])) (by kernel_rfl) ?_
                        refine .bd (g := fun (y : Int) => (A.v (Value.int .i64 y))) (by show C 15 [snap [Blk.box [(A.imm (List.map (cL c8) a0.Sectors) false), (A.imm (List.map c_S_Write a0.Pending) false), (A.v (Value.int .i64 a0.Left)), (A.v (Value.bool a0.Stopped))], Blk.box [(A.imm (List.map (cL c8) y16.1.Sectors) false), (A.imm (List.map c_S_Write y16.1.Pending) false), (A.v (Value.int .i64 y16.1.Left)), (A.v (Value.bool y16.1.Stopped))], Blk.box [(A.imm (List.map (cL c8) y111.1.Sectors) false), (A.imm (List.map c_S_Write y111.1.Pending) false), (A.v (Value.int .i64 y111.1.Left)), (A.v (Value.bool y111.1.Stopped))], Blk.box [(A.imm (List.map (cL c8) y113.1.Sectors) false), (A.imm (List.map c_S_Write y113.1.Pending) false), (A.v (Value.int .i64 y113.1.Left)), (A.v (Value.bool y113.1.Stopped))]] (A.agg [(A.imm (List.map (cL c8) y113.1.Sectors) false), (A.imm (List.map c_S_Write y113.1.Pending) false), (A.v (Value.int .i64 y113.1.Left)), (A.v (Value.bool y113.1.Stopped))])] = _; simp only [snap, snapW, snapWs, snapWss, snapWss_map, trim, List.map_cons, List.map_nil, fl_cI, fl_c8, fl_cB, fl_cS, fl_cL, fl_S_Write, fl_S_Disk, fl_S_kinespherelaw04_Act]; exact h15 y113.1) fun y163 => ?_
                        refine .st (v := (A.v (Value.bool (y163 == 0)))) (aBin_eql ..) ?_
                        exact .lg ⟨_, _, _, rfl⟩
                      · exact .lg ⟨_, _, _, rfl⟩
                    rintro _ y164 ⟨j165, j166, j167, rfl⟩
                    iterate 4 refine .uc ?_
                    exact .lf rfl rfl ⟨_, rfl, rfl⟩
        · refine .bb ?_
          refine .cr ?_
          iterate 8 refine .uc ?_
          refine .bg (fun t (y : Unit) =>  t = [(A.v undef)]) ?_ ?_
          · refine .gU ?_
            exact .lg rfl
          rintro _ y168 rfl
          refine .uc ?_
          refine .bg (fun t (y : Bool) => ∃ j170 : A, t = [(A.v (Value.bool y)), j170]) ?_ ?_
          · refine .bKT hc44 ?_
            exact .lg ⟨_, rfl⟩
          rintro _ y169 ⟨j170, rfl⟩
          iterate 2 refine .uc ?_
          refine .biHN (fun hk171 => ?_) (fun hk171 => ?_)
          · exact .lf rfl rfl ⟨_, rfl, rfl⟩
          · refine .st (v := (A.agg [(A.imm (List.map (cL c8) y16.1.Sectors) false), (A.imm (List.map c_S_Write y16.1.Pending) false), (A.v (Value.int .i64 y16.1.Left)), (A.v (Value.bool y16.1.Stopped))])) (by kernel_rfl) ?_
            refine .bd (g := fun (y : (S_Disk × Int)) => (A.tup [(A.agg [(A.imm (List.map (cL c8) y.1.Sectors) false), (A.imm (List.map c_S_Write y.1.Pending) false), (A.v (Value.int .i64 y.1.Left)), (A.v (Value.bool y.1.Stopped))]), (A.v (Value.int .i64 y.2))])) (by show C 19 [snap [Blk.box [(A.imm (List.map (cL c8) a0.Sectors) false), (A.imm (List.map c_S_Write a0.Pending) false), (A.v (Value.int .i64 a0.Left)), (A.v (Value.bool a0.Stopped))], Blk.box [(A.imm (List.map (cL c8) y16.1.Sectors) false), (A.imm (List.map c_S_Write y16.1.Pending) false), (A.v (Value.int .i64 y16.1.Left)), (A.v (Value.bool y16.1.Stopped))]] (A.agg [(A.imm (List.map (cL c8) y16.1.Sectors) false), (A.imm (List.map c_S_Write y16.1.Pending) false), (A.v (Value.int .i64 y16.1.Left)), (A.v (Value.bool y16.1.Stopped))]), snap [Blk.box [(A.imm (List.map (cL c8) a0.Sectors) false), (A.imm (List.map c_S_Write a0.Pending) false), (A.v (Value.int .i64 a0.Left)), (A.v (Value.bool a0.Stopped))], Blk.box [(A.imm (List.map (cL c8) y16.1.Sectors) false), (A.imm (List.map c_S_Write y16.1.Pending) false), (A.v (Value.int .i64 y16.1.Left)), (A.v (Value.bool y16.1.Stopped))]] (A.v (Value.int .i64 a2)), snap [Blk.box [(A.imm (List.map (cL c8) a0.Sectors) false), (A.imm (List.map c_S_Write a0.Pending) false), (A.v (Value.int .i64 a0.Left)), (A.v (Value.bool a0.Stopped))], Blk.box [(A.imm (List.map (cL c8) y16.1.Sectors) false), (A.imm (List.map c_S_Write y16.1.Pending) false), (A.v (Value.int .i64 y16.1.Left)), (A.v (Value.bool y16.1.Stopped))]] (A.imm (List.map c8 a4) false)] = _; simp only [snap, snapW, snapWs, snapWss, snapWss_map, trim, List.map_cons, List.map_nil, fl_cI, fl_c8, fl_cB, fl_cS, fl_cL, fl_S_Write, fl_S_Disk, fl_S_kinespherelaw04_Act]; exact h19 y16.1 a2 a4) fun y172 => ?_
            refine .st (v := (A.agg [(A.imm (List.map (cL c8) y172.1.Sectors) false), (A.imm (List.map c_S_Write y172.1.Pending) false), (A.v (Value.int .i64 y172.1.Left)), (A.v (Value.bool y172.1.Stopped))])) (by kernel_rfl) ?_
            refine .st (v := (A.v (Value.int .i64 y172.2))) (by kernel_rfl) ?_
            refine .st (v := ((A.ptr 2 0), [Blk.box [(A.imm (List.map (cL c8) a0.Sectors) false), (A.imm (List.map c_S_Write a0.Pending) false), (A.v (Value.int .i64 a0.Left)), (A.v (Value.bool a0.Stopped))], Blk.box [(A.imm (List.map (cL c8) y16.1.Sectors) false), (A.imm (List.map c_S_Write y16.1.Pending) false), (A.v (Value.int .i64 y16.1.Left)), (A.v (Value.bool y16.1.Stopped))], Blk.box [(A.imm [] true), (A.imm [] true), (A.v (Value.int .i64 0)), (A.v (Value.bool false))]])) (by kernel_rfl) ?_
            refine .st (v := [Blk.box [(A.imm (List.map (cL c8) a0.Sectors) false), (A.imm (List.map c_S_Write a0.Pending) false), (A.v (Value.int .i64 a0.Left)), (A.v (Value.bool a0.Stopped))], Blk.box [(A.imm (List.map (cL c8) y16.1.Sectors) false), (A.imm (List.map c_S_Write y16.1.Pending) false), (A.v (Value.int .i64 y16.1.Left)), (A.v (Value.bool y16.1.Stopped))], Blk.box [(A.imm (List.map (cL c8) y172.1.Sectors) false), (A.imm (List.map c_S_Write y172.1.Pending) false), (A.v (Value.int .i64 y172.1.Left)), (A.v (Value.bool y172.1.Stopped))]]) (by kernel_rfl) ?_
            refine .st (v := (A.v (Value.bool (y172.2 != 0)))) (aBin_neq ..) ?_
            refine .biHN (fun hk173 => ?_) (fun hk173 => ?_)
            · refine .st (v := (A.v (Value.bool (y172.2 == 2)))) (aBin_eql ..) ?_
              exact .lf rfl rfl ⟨_, rfl, rfl⟩
            · refine .st (v := (A.agg [(A.imm (List.map (cL c8) y172.1.Sectors) false), (A.imm (List.map c_S_Write y172.1.Pending) false), (A.v (Value.int .i64 y172.1.Left)), (A.v (Value.bool y172.1.Stopped))])) (by kernel_rfl) ?_
              refine .bd (g := fun (y : (S_Disk × Int)) => (A.tup [(A.agg [(A.imm (List.map (cL c8) y.1.Sectors) false), (A.imm (List.map c_S_Write y.1.Pending) false), (A.v (Value.int .i64 y.1.Left)), (A.v (Value.bool y.1.Stopped))]), (A.v (Value.int .i64 y.2))])) (by show C 23 [snap [Blk.box [(A.imm (List.map (cL c8) a0.Sectors) false), (A.imm (List.map c_S_Write a0.Pending) false), (A.v (Value.int .i64 a0.Left)), (A.v (Value.bool a0.Stopped))], Blk.box [(A.imm (List.map (cL c8) y16.1.Sectors) false), (A.imm (List.map c_S_Write y16.1.Pending) false), (A.v (Value.int .i64 y16.1.Left)), (A.v (Value.bool y16.1.Stopped))], Blk.box [(A.imm (List.map (cL c8) y172.1.Sectors) false), (A.imm (List.map c_S_Write y172.1.Pending) false), (A.v (Value.int .i64 y172.1.Left)), (A.v (Value.bool y172.1.Stopped))]] (A.agg [(A.imm (List.map (cL c8) y172.1.Sectors) false), (A.imm (List.map c_S_Write y172.1.Pending) false), (A.v (Value.int .i64 y172.1.Left)), (A.v (Value.bool y172.1.Stopped))])] = _; simp only [snap, snapW, snapWs, snapWss, snapWss_map, trim, List.map_cons, List.map_nil, fl_cI, fl_c8, fl_cB, fl_cS, fl_cL, fl_S_Write, fl_S_Disk, fl_S_kinespherelaw04_Act]; exact h23 y172.1) fun y174 => ?_
              refine .st (v := (A.agg [(A.imm (List.map (cL c8) y174.1.Sectors) false), (A.imm (List.map c_S_Write y174.1.Pending) false), (A.v (Value.int .i64 y174.1.Left)), (A.v (Value.bool y174.1.Stopped))])) (by kernel_rfl) ?_
              refine .st (v := (A.v (Value.int .i64 y174.2))) (by kernel_rfl) ?_
              refine .st (v := ((A.ptr 3 0), [Blk.box [(A.imm (List.map (cL c8) a0.Sectors) false), (A.imm (List.map c_S_Write a0.Pending) false), (A.v (Value.int .i64 a0.Left)), (A.v (Value.bool a0.Stopped))], Blk.box [(A.imm (List.map (cL c8) y16.1.Sectors) false), (A.imm (List.map c_S_Write y16.1.Pending) false), (A.v (Value.int .i64 y16.1.Left)), (A.v (Value.bool y16.1.Stopped))], Blk.box [(A.imm (List.map (cL c8) y172.1.Sectors) false), (A.imm (List.map c_S_Write y172.1.Pending) false), (A.v (Value.int .i64 y172.1.Left)), (A.v (Value.bool y172.1.Stopped))], Blk.box [(A.imm [] true), (A.imm [] true), (A.v (Value.int .i64 0)), (A.v (Value.bool false))]])) (by kernel_rfl) ?_
              refine .st (v := [Blk.box [(A.imm (List.map (cL c8) a0.Sectors) false), (A.imm (List.map c_S_Write a0.Pending) false), (A.v (Value.int .i64 a0.Left)), (A.v (Value.bool a0.Stopped))], Blk.box [(A.imm (List.map (cL c8) y16.1.Sectors) false), (A.imm (List.map c_S_Write y16.1.Pending) false), (A.v (Value.int .i64 y16.1.Left)), (A.v (Value.bool y16.1.Stopped))], Blk.box [(A.imm (List.map (cL c8) y172.1.Sectors) false), (A.imm (List.map c_S_Write y172.1.Pending) false), (A.v (Value.int .i64 y172.1.Left)), (A.v (Value.bool y172.1.Stopped))], Blk.box [(A.imm (List.map (cL c8) y174.1.Sectors) false), (A.imm (List.map c_S_Write y174.1.Pending) false), (A.v (Value.int .i64 y174.1.Left)), (A.v (Value.bool y174.1.Stopped))]]) (by kernel_rfl) ?_
              refine .st (v := (A.v (Value.bool (y174.2 != 0)))) (aBin_neq ..) ?_
              refine .biHN (fun hk175 => ?_) (fun hk175 => ?_)
              · refine .st (v := (A.v (Value.bool (y174.2 == 40)))) (aBin_eql ..) ?_
                refine .bg (fun t (y : Bool) => ∃ j178 j179 : A, t = [(A.v (Value.bool y)), j178, j179]) ?_ ?_
                · refine .biH (fun hk176 => ?_) (fun hk176 => ?_)
                  · refine .st (v := (A.ptr 3 3)) (by kernel_rfl) ?_
                    refine .st (v := (A.v (Value.bool y174.1.Stopped))) (by kernel_rfl) ?_
                    exact .lg ⟨_, _, rfl⟩
                  · exact .lg ⟨_, _, rfl⟩
                rintro _ y177 ⟨j178, j179, rfl⟩
                iterate 3 refine .uc ?_
                exact .lf rfl rfl ⟨_, rfl, rfl⟩
              · refine .as (T7_7_0b C n h10 h11 h15 h19 h21 h23 false a0.Sectors a0.Pending a0.Left a0.Stopped y16.1.Sectors y16.1.Pending y16.1.Left y16.1.Stopped y172.1.Sectors y172.1.Pending y172.1.Left y172.1.Stopped y174.1.Sectors y174.1.Pending y174.1.Left y174.1.Stopped _ _ _ _ ?_ ?_ _ 0)
                · intro y214 j215 j216 j217 j218
                  refine .un rfl ?_
                  exact .lf rfl rfl ⟨_, rfl, rfl⟩
                · intro j219 j220 j221 j222
                  refine .un rfl ?_
                  refine .cT (by kernel_rfl) ?_
                  refine .st (v := (A.ptr 3 1)) (by kernel_rfl) ?_
                  refine .st (v := (A.imm (List.map c_S_Write y174.1.Pending) false)) (by kernel_rfl) ?_
                  refine .st (v := (A.v (Value.int .i64 ((y174.1.Pending.length : Int))))) (len_imm (e := 54) (h1 := by kernel_rfl) ..) ?_
                  refine .st (v := (A.v (Value.bool (((y174.1.Pending.length : Int)) == 0)))) (aBin_eql ..) ?_
                  refine .bg (fun t (y : Bool) => ∃ j226 j227 j228 : A, t = [(A.v (Value.bool y)), j226, j227, j228]) ?_ ?_
                  · refine .biH (fun hk223 => ?_) (fun hk223 => ?_)
                    · refine .st (v := (A.agg [(A.imm (List.map (cL c8) y174.1.Sectors) false), (A.imm (List.map c_S_Write y174.1.Pending) false), (A.v (Value.int .i64 y174.1.Left)), (A.v (Value.bool y174.1.Stopped))])) (by kernel_rfl) ?_
                      refine .bd (g := fun (y : Int) => (A.v (Value.int .i64 y))) (by show C 15 [snap [Blk.box [(A.imm (List.map (cL c8) a0.Sectors) false), (A.imm (List.map c_S_Write a0.Pending) false), (A.v (Value.int .i64 a0.Left)), (A.v (Value.bool a0.Stopped))], Blk.box [(A.imm (List.map (cL c8) y16.1.Sectors) false), (A.imm (List.map c_S_Write y16.1.Pending) false), (A.v (Value.int .i64 y16.1.Left)), (A.v (Value.bool y16.1.Stopped))], Blk.box [(A.imm (List.map (cL c8) y172.1.Sectors) false), (A.imm (List.map c_S_Write y172.1.Pending) false), (A.v (Value.int .i64 y172.1.Left)), (A.v (Value.bool y172.1.Stopped))], Blk.box [(A.imm (List.map (cL c8) y174.1.Sectors) false), (A.imm (List.map c_S_Write y174.1.Pending) false), (A.v (Value.int .i64 y174.1.Left)), (A.v (Value.bool y174.1.Stopped))]] (A.agg [(A.imm (List.map (cL c8) y174.1.Sectors) false), (A.imm (List.map c_S_Write y174.1.Pending) false), (A.v (Value.int .i64 y174.1.Left)), (A.v (Value.bool y174.1.Stopped))])] = _; simp only [snap, snapW, snapWs, snapWss, snapWss_map, trim, List.map_cons, List.map_nil, fl_cI, fl_c8, fl_cB, fl_cS, fl_cL, fl_S_Write, fl_S_Disk, fl_S_kinespherelaw04_Act]; exact h15 y174.1) fun y224 => ?_
                      refine .st (v := (A.v (Value.bool (y224 == 0)))) (aBin_eql ..) ?_
                      exact .lg ⟨_, _, _, rfl⟩
                    · exact .lg ⟨_, _, _, rfl⟩
                  rintro _ y225 ⟨j226, j227, j228, rfl⟩
                  iterate 4 refine .uc ?_
                  exact .lf rfl rfl ⟨_, rfl, rfl⟩

def G7 (a0 : S_Disk) (a1 : Int) (a2 : Int) (a3 : (List UInt8)) (a4 : (List UInt8)) : Option Bool := F7 fuel0 a0 a1 a2 a3 a4

def Orc7 (C : Nat → List A → Option A) : Prop := ∀ (a0 : S_Disk) (a1 : Int) (a2 : Int) (a3 : (List UInt8)) (a4 : (List UInt8)), C 7 [(A.agg [(A.imm (List.map (cL c8) a0.Sectors) false), (A.imm (List.map c_S_Write a0.Pending) false), (A.v (Value.int .i64 a0.Left)), (A.v (Value.bool a0.Stopped))]), (A.v (Value.int .i64 a1)), (A.v (Value.int .i64 a2)), (A.imm (List.map c8 a3) false), (A.imm (List.map c8 a4) false)] = (G7 a0 a1 a2 a3 a4).map fun y => (A.v (Value.bool y))

def F14_14_0 (n : Nat) (v25 : Bool) (v27 : (List (List UInt8))) (v28 : (List S_Write)) (v29 : Int) (v30 : Bool) (v31 : (List (List UInt8))) (v32 : (List S_Write)) (v33 : Int) (v34 : Bool) : Nat → Int → Option ((Bool) ⊕ (Unit))
  | 0, _ => none
  | m + 1, v26 => bif (decide (v26 < ((v27.length : Int)))) then (Option.bind (getI v27 v26) fun y36 => Option.bind (getI v31 v26) fun y37 => bif (!strEq (bstr y36) (bstr y37)) then (some ((Sum.inl false))) else (F14_14_0 n v25 v27 v28 v29 v30 v31 v32 v33 v34 m (wr .i64 (v26 + 1)))) else (some ((Sum.inr (()))))

theorem T14_14_0 (C : Nat → List A → Option A) (n : Nat) (v25 : Bool) (v27 : (List (List UInt8))) (v28 : (List S_Write)) (v29 : Int) (v30 : Bool) (v31 : (List (List UInt8))) (v32 : (List S_Write)) (v33 : Int) (v34 : Bool) {ρ γ : Type} {φ : ρ → γ → Prop} {kL : R → Option ρ} {K : ((Bool) ⊕ (Unit)) → Option γ} (kx kg : Nat → St → Option R) (kr : St → Option R) (kp : A → St → Option R) (x0 : ∀ (o0 : Bool) (s2 : A) (s3 : A) (s5 : A), J φ (kr (St.mk [(2, s2), (3, s3), (4, (A.v (Value.bool o0))), (5, s5)] [Blk.box [(A.imm (List.map (cL c8) v27) false), (A.imm (List.map c_S_Write v28) false), (A.v (Value.int .i64 v29)), (A.v (Value.bool v30))], Blk.box [(A.imm (List.map (cL c8) v31) false), (A.imm (List.map c_S_Write v32) false), (A.v (Value.int .i64 v33)), (A.v (Value.bool v34))]])) kL (K (Sum.inl o0)) some) (x1 : ∀ (s5 : A), J φ (kx 0 (St.mk [(2, (A.ptr 0 0)), (3, (A.ptr 1 0)), (4, (A.v (Value.bool v25))), (5, s5)] [Blk.box [(A.imm (List.map (cL c8) v27) false), (A.imm (List.map c_S_Write v28) false), (A.v (Value.int .i64 v29)), (A.v (Value.bool v30))], Blk.box [(A.imm (List.map (cL c8) v31) false), (A.imm (List.map c_S_Write v32) false), (A.v (Value.int .i64 v33)), (A.v (Value.bool v34))]])) kL (K (Sum.inr (()))) some) :
    ∀ (m : Nat) (v26 : Int), J φ (loopR (cx C) (evCall (cx C) (n+8)) (evCallY (cx C) (n+8)) (n+8) 14 0 0 2 kx kg kr kp m (St.mk [(2, (A.ptr 0 0)), (3, (A.ptr 1 0)), (4, (A.v (Value.bool v25))), (5, (A.v (Value.int .i64 v26)))] [Blk.box [(A.imm (List.map (cL c8) v27) false), (A.imm (List.map c_S_Write v28) false), (A.v (Value.int .i64 v29)), (A.v (Value.bool v30))], Blk.box [(A.imm (List.map (cL c8) v31) false), (A.imm (List.map c_S_Write v32) false), (A.v (Value.int .i64 v33)), (A.v (Value.bool v34))]])) kL (F14_14_0 n v25 v27 v28 v29 v30 v31 v32 v33 v34 m v26) K := by
  intro m
  induction m with
  | zero => intros; exact .nn
  | succ m ih =>
    intro v26
    refine .lp (e14_0 ..) ?_
    unfold F14_14_0
    refine .st (v := (A.ptr 0 0)) (by kernel_rfl) ?_
    refine .st (v := (A.imm (List.map (cL c8) v27) false)) (by kernel_rfl) ?_
    refine .st (v := (A.v (Value.int .i64 ((v27.length : Int))))) (len_imm (e := 35) (h1 := by kernel_rfl) ..) ?_
    refine .st (v := (A.v (Value.bool (decide (v26 < ((v27.length : Int))))))) (aBin_lss ..) ?_
    refine .biHN (fun hk35 => ?_) (fun hk35 => ?_)
    · refine .st (v := (A.ptr 0 0)) (by kernel_rfl) ?_
      refine .st (v := (A.imm (List.map (cL c8) v27) false)) (by kernel_rfl) ?_
      refine .bd (g := fun (y : (List UInt8)) => A.ip ((cL c8) y)) (idx_imm (e := 35) (es := 1) (h1 := by kernel_rfl) (h2 := by kernel_rfl) (h3 := fun _ => rfl) ..) fun y36 => ?_
      refine .st (v := (A.imm (List.map c8 y36) false)) (by kernel_rfl) ?_
      refine .st (v := (A.v (Value.string (bstr y36)))) (conv_bs (e := 5) (l := y36) (by kernel_rfl) (by kernel_rfl) (by kernel_rfl) (by kernel_rfl) (els_imm ..) rfl) ?_
      refine .st (v := (A.ptr 1 0)) (by kernel_rfl) ?_
      refine .st (v := (A.imm (List.map (cL c8) v31) false)) (by kernel_rfl) ?_
      refine .bd (g := fun (y : (List UInt8)) => A.ip ((cL c8) y)) (idx_imm (e := 35) (es := 1) (h1 := by kernel_rfl) (h2 := by kernel_rfl) (h3 := fun _ => rfl) ..) fun y37 => ?_
      refine .st (v := (A.imm (List.map c8 y37) false)) (by kernel_rfl) ?_
      refine .st (v := (A.v (Value.string (bstr y37)))) (conv_bs (e := 5) (l := y37) (by kernel_rfl) (by kernel_rfl) (by kernel_rfl) (by kernel_rfl) (els_imm ..) rfl) ?_
      refine .st (v := (A.v (Value.bool (!strEq (bstr y36) (bstr y37))))) (aBin_neq_s ..) ?_
      refine .biHN (fun hk38 => ?_) (fun hk38 => ?_)
      · exact .ex (x0 _ _ _ _)
      · refine .st (v := (A.v (Value.int .i64 (wr .i64 (v26 + 1))))) (aBin_add ..) ?_
        refine .st (v := [Blk.box [(A.imm (List.map (cL c8) v27) false), (A.imm (List.map c_S_Write v28) false), (A.v (Value.int .i64 v29)), (A.v (Value.bool v30))], Blk.box [(A.imm (List.map (cL c8) v31) false), (A.imm (List.map c_S_Write v32) false), (A.v (Value.int .i64 v33)), (A.v (Value.bool v34))]]) (by kernel_rfl) ?_
        refine .cT (by kernel_rfl) ?_
        exact ih _
    · exact .ex (x1 _)

def F14_14_1 (n : Nat) (v45 : Bool) (v47 : (List (List UInt8))) (v48 : (List S_Write)) (v49 : Int) (v50 : Bool) (v51 : (List (List UInt8))) (v52 : (List S_Write)) (v53 : Int) (v54 : Bool) : Nat → Int → Option ((Bool) ⊕ (Unit))
  | 0, _ => none
  | m + 1, v46 => bif (decide (v46 < ((v48.length : Int)))) then (Option.bind (getI v48 v46) fun y56 => Option.bind (getI v52 v46) fun y57 => bif (y56.At != y57.At) then (Option.bind (some true) fun y64 => bif y64 then (some ((Sum.inl false))) else (F14_14_1 n v45 v47 v48 v49 v50 v51 v52 v53 v54 m (wr .i64 (v46 + 1)))) else (Option.bind (getI v48 v46) fun y59 => Option.bind (getI v52 v46) fun y60 => Option.bind (some (!strEq (bstr y59.Data) (bstr y60.Data))) fun y61 => bif y61 then (some ((Sum.inl false))) else (F14_14_1 n v45 v47 v48 v49 v50 v51 v52 v53 v54 m (wr .i64 (v46 + 1))))) else (some ((Sum.inr (()))))

theorem T14_14_1 (C : Nat → List A → Option A) (n : Nat) (v45 : Bool) (v47 : (List (List UInt8))) (v48 : (List S_Write)) (v49 : Int) (v50 : Bool) (v51 : (List (List UInt8))) (v52 : (List S_Write)) (v53 : Int) (v54 : Bool) {ρ γ : Type} {φ : ρ → γ → Prop} {kL : R → Option ρ} {K : ((Bool) ⊕ (Unit)) → Option γ} (kx kg : Nat → St → Option R) (kr : St → Option R) (kp : A → St → Option R) (x0 : ∀ (o0 : Bool) (s2 : A) (s3 : A) (s6 : A), J φ (kr (St.mk [(2, s2), (3, s3), (4, (A.v (Value.bool o0))), (6, s6)] [Blk.box [(A.imm (List.map (cL c8) v47) false), (A.imm (List.map c_S_Write v48) false), (A.v (Value.int .i64 v49)), (A.v (Value.bool v50))], Blk.box [(A.imm (List.map (cL c8) v51) false), (A.imm (List.map c_S_Write v52) false), (A.v (Value.int .i64 v53)), (A.v (Value.bool v54))]])) kL (K (Sum.inl o0)) some) (x1 : ∀ (s2 : A) (s3 : A) (s4 : A) (s6 : A), J φ (kx 2 (St.mk [(2, s2), (3, s3), (4, s4), (6, s6)] [Blk.box [(A.imm (List.map (cL c8) v47) false), (A.imm (List.map c_S_Write v48) false), (A.v (Value.int .i64 v49)), (A.v (Value.bool v50))], Blk.box [(A.imm (List.map (cL c8) v51) false), (A.imm (List.map c_S_Write v52) false), (A.v (Value.int .i64 v53)), (A.v (Value.bool v54))]])) kL (K (Sum.inr (()))) some) :
    ∀ (m : Nat) (v46 : Int), J φ (loopR (cx C) (evCall (cx C) (n+8)) (evCallY (cx C) (n+8)) (n+8) 14 0 1 2 kx kg kr kp m (St.mk [(2, (A.ptr 0 0)), (3, (A.ptr 1 0)), (4, (A.v (Value.bool v45))), (6, (A.v (Value.int .i64 v46)))] [Blk.box [(A.imm (List.map (cL c8) v47) false), (A.imm (List.map c_S_Write v48) false), (A.v (Value.int .i64 v49)), (A.v (Value.bool v50))], Blk.box [(A.imm (List.map (cL c8) v51) false), (A.imm (List.map c_S_Write v52) false), (A.v (Value.int .i64 v53)), (A.v (Value.bool v54))]])) kL (F14_14_1 n v45 v47 v48 v49 v50 v51 v52 v53 v54 m v46) K := by
  intro m
  induction m with
  | zero => intros; exact .nn
  | succ m ih =>
    intro v46
    refine .lp (e14_1 ..) ?_
    unfold F14_14_1
    refine .st (v := (A.ptr 0 1)) (by kernel_rfl) ?_
    refine .st (v := (A.imm (List.map c_S_Write v48) false)) (by kernel_rfl) ?_
    refine .st (v := (A.v (Value.int .i64 ((v48.length : Int))))) (len_imm (e := 54) (h1 := by kernel_rfl) ..) ?_
    refine .st (v := (A.v (Value.bool (decide (v46 < ((v48.length : Int))))))) (aBin_lss ..) ?_
    refine .biHN (fun hk55 => ?_) (fun hk55 => ?_)
    · refine .st (v := (A.ptr 0 1)) (by kernel_rfl) ?_
      refine .st (v := (A.imm (List.map c_S_Write v48) false)) (by kernel_rfl) ?_
      refine .bd (g := fun (y : S_Write) => A.ip (c_S_Write y)) (idx_imm (e := 54) (es := 2) (h1 := by kernel_rfl) (h2 := by kernel_rfl) (h3 := fun _ => rfl) ..) fun y56 => ?_
      refine .st (v := (A.ip [(A.v (Value.int .i64 y56.At)), (A.imm (List.map c8 y56.Data) false)])) (by kernel_rfl) ?_
      refine .st (v := (A.v (Value.int .i64 y56.At))) (by kernel_rfl) ?_
      refine .st (v := (A.ptr 1 1)) (by kernel_rfl) ?_
      refine .st (v := (A.imm (List.map c_S_Write v52) false)) (by kernel_rfl) ?_
      refine .bd (g := fun (y : S_Write) => A.ip (c_S_Write y)) (idx_imm (e := 54) (es := 2) (h1 := by kernel_rfl) (h2 := by kernel_rfl) (h3 := fun _ => rfl) ..) fun y57 => ?_
      refine .st (v := (A.ip [(A.v (Value.int .i64 y57.At)), (A.imm (List.map c8 y57.Data) false)])) (by kernel_rfl) ?_
      refine .st (v := (A.v (Value.int .i64 y57.At))) (by kernel_rfl) ?_
      refine .st (v := (A.v (Value.bool (y56.At != y57.At)))) (aBin_neq ..) ?_
      refine .gsf (fun hc58 => ?_) (fun hc58 => ?_)
      · refine .bb ?_
        refine .st (v := (A.ptr 0 1)) (by kernel_rfl) ?_
        refine .st (v := (A.imm (List.map c_S_Write v48) false)) (by kernel_rfl) ?_
        refine .bd (g := fun (y : S_Write) => A.ip (c_S_Write y)) (idx_imm (e := 54) (es := 2) (h1 := by kernel_rfl) (h2 := by kernel_rfl) (h3 := fun _ => rfl) ..) fun y59 => ?_
        refine .st (v := (A.ip [(A.imm (List.map c8 y59.Data) false)])) (by kernel_rfl) ?_
        refine .st (v := (A.imm (List.map c8 y59.Data) false)) (by kernel_rfl) ?_
        refine .st (v := (A.v (Value.string (bstr y59.Data)))) (conv_bs (e := 5) (l := y59.Data) (by kernel_rfl) (by kernel_rfl) (by kernel_rfl) (by kernel_rfl) (els_imm ..) rfl) ?_
        refine .st (v := (A.ptr 1 1)) (by kernel_rfl) ?_
        refine .st (v := (A.imm (List.map c_S_Write v52) false)) (by kernel_rfl) ?_
        refine .bd (g := fun (y : S_Write) => A.ip (c_S_Write y)) (idx_imm (e := 54) (es := 2) (h1 := by kernel_rfl) (h2 := by kernel_rfl) (h3 := fun _ => rfl) ..) fun y60 => ?_
        refine .st (v := (A.ip [(A.imm (List.map c8 y60.Data) false)])) (by kernel_rfl) ?_
        refine .st (v := (A.imm (List.map c8 y60.Data) false)) (by kernel_rfl) ?_
        refine .st (v := (A.v (Value.string (bstr y60.Data)))) (conv_bs (e := 5) (l := y60.Data) (by kernel_rfl) (by kernel_rfl) (by kernel_rfl) (by kernel_rfl) (els_imm ..) rfl) ?_
        refine .cr ?_
        iterate 14 refine .uc ?_
        refine .bg (fun t (y : Bool) => ∃ j62 : A, t = [(A.v (Value.bool y)), j62]) ?_ ?_
        · refine .bKF hc58 ?_
          refine .st (v := (A.v (Value.bool (!strEq (bstr y59.Data) (bstr y60.Data))))) (aBin_neq_s ..) ?_
          exact .lg ⟨_, rfl⟩
        rintro _ y61 ⟨j62, rfl⟩
        iterate 2 refine .uc ?_
        refine .biHN (fun hk63 => ?_) (fun hk63 => ?_)
        · exact .ex (x0 _ _ _ _)
        · refine .st (v := (A.v (Value.int .i64 (wr .i64 (v46 + 1))))) (aBin_add ..) ?_
          refine .st (v := [Blk.box [(A.imm (List.map (cL c8) v47) false), (A.imm (List.map c_S_Write v48) false), (A.v (Value.int .i64 v49)), (A.v (Value.bool v50))], Blk.box [(A.imm (List.map (cL c8) v51) false), (A.imm (List.map c_S_Write v52) false), (A.v (Value.int .i64 v53)), (A.v (Value.bool v54))]]) (by kernel_rfl) ?_
          refine .cT (by kernel_rfl) ?_
          exact ih _
      · refine .bb ?_
        refine .cr ?_
        iterate 14 refine .uc ?_
        refine .bg (fun t (y : Bool) => ∃ j65 : A, t = [(A.v (Value.bool y)), j65]) ?_ ?_
        · refine .bKT hc58 ?_
          exact .lg ⟨_, rfl⟩
        rintro _ y64 ⟨j65, rfl⟩
        iterate 2 refine .uc ?_
        refine .biHN (fun hk66 => ?_) (fun hk66 => ?_)
        · exact .ex (x0 _ _ _ _)
        · refine .st (v := (A.v (Value.int .i64 (wr .i64 (v46 + 1))))) (aBin_add ..) ?_
          refine .st (v := [Blk.box [(A.imm (List.map (cL c8) v47) false), (A.imm (List.map c_S_Write v48) false), (A.v (Value.int .i64 v49)), (A.v (Value.bool v50))], Blk.box [(A.imm (List.map (cL c8) v51) false), (A.imm (List.map c_S_Write v52) false), (A.v (Value.int .i64 v53)), (A.v (Value.bool v54))]]) (by kernel_rfl) ?_
          refine .cT (by kernel_rfl) ?_
          exact ih _
    · exact .ex (x1 _ _ _ _)

def F14 (n : Nat) (a0 : S_Disk) (a1 : S_Disk) : Option Bool :=
  Option.bind (bif (((a0.Sectors.length : Int)) != ((a1.Sectors.length : Int))) then (some true) else (some (((a0.Pending.length : Int)) != ((a1.Pending.length : Int))))) fun y2 => Option.bind (bif y2 then (some true) else (some (a0.Left != a1.Left))) fun y11 => Option.bind (bif y11 then (some true) else (some (a0.Stopped != a1.Stopped))) fun y18 => bif y18 then (some false) else (Option.bind (F14_14_0 n false a0.Sectors a0.Pending a0.Left a0.Stopped a1.Sectors a1.Pending a1.Left a1.Stopped (n+8) 0) fun o39 => match o39 with | (Sum.inl y40) => some y40 | (Sum.inr _) => Option.bind (F14_14_1 n false a0.Sectors a0.Pending a0.Left a0.Stopped a1.Sectors a1.Pending a1.Left a1.Stopped (n+8) 0) fun o67 => match o67 with | (Sum.inl y68) => some y68 | (Sum.inr _) => some true)

theorem T14 (C : Nat → List A → Option A) (n : Nat) (a0 : S_Disk) (a1 : S_Disk) : J (fun (o : R) y => ∃ v, o.1 = .ret v ∧ snapE o.2 v = (A.v (Value.bool y))) (evCall1 (cx C) (evCall (cx C) (n+8)) (evCallY (cx C) (n+8)) (n+8) 14 [(A.agg [(A.imm (List.map (cL c8) a0.Sectors) false), (A.imm (List.map c_S_Write a0.Pending) false), (A.v (Value.int .i64 a0.Left)), (A.v (Value.bool a0.Stopped))]), (A.agg [(A.imm (List.map (cL c8) a1.Sectors) false), (A.imm (List.map c_S_Write a1.Pending) false), (A.v (Value.int .i64 a1.Left)), (A.v (Value.bool a1.Stopped))])] [] 0) some (F14 n a0 a1) some := by
  refine .lp (e14 ..) ?_
  unfold F14
  refine .st (v := ((A.ptr 0 0), [Blk.box [(A.imm (List.map (cL c8) a0.Sectors) false), (A.imm (List.map c_S_Write a0.Pending) false), (A.v (Value.int .i64 a0.Left)), (A.v (Value.bool a0.Stopped))]])) (by kernel_rfl) ?_
  refine .st (v := ((A.ptr 1 0), [Blk.box [(A.imm (List.map (cL c8) a0.Sectors) false), (A.imm (List.map c_S_Write a0.Pending) false), (A.v (Value.int .i64 a0.Left)), (A.v (Value.bool a0.Stopped))], Blk.box [(A.imm (List.map (cL c8) a1.Sectors) false), (A.imm (List.map c_S_Write a1.Pending) false), (A.v (Value.int .i64 a1.Left)), (A.v (Value.bool a1.Stopped))]])) (by kernel_rfl) ?_
  refine .st (v := (A.ptr 0 0)) (by kernel_rfl) ?_
  refine .st (v := (A.imm (List.map (cL c8) a0.Sectors) false)) (by kernel_rfl) ?_
  refine .st (v := (A.v (Value.int .i64 ((a0.Sectors.length : Int))))) (len_imm (e := 35) (h1 := by kernel_rfl) ..) ?_
  refine .st (v := (A.ptr 1 0)) (by kernel_rfl) ?_
  refine .st (v := (A.imm (List.map (cL c8) a1.Sectors) false)) (by kernel_rfl) ?_
  refine .st (v := (A.v (Value.int .i64 ((a1.Sectors.length : Int))))) (len_imm (e := 35) (h1 := by kernel_rfl) ..) ?_
  refine .st (v := (A.v (Value.bool (((a0.Sectors.length : Int)) != ((a1.Sectors.length : Int)))))) (aBin_neq ..) ?_
  refine .bg (fun t (y : Bool) => ∃ j3 j4 j5 j6 j7 j8 j9 : A, t = [(A.v (Value.bool y)), j3, j4, j5, j6, j7, j8, j9]) ?_ ?_
  · refine .biH (fun hk1 => ?_) (fun hk1 => ?_)
    · exact .lg ⟨_, _, _, _, _, _, _, rfl⟩
    · refine .st (v := (A.ptr 0 1)) (by kernel_rfl) ?_
      refine .st (v := (A.imm (List.map c_S_Write a0.Pending) false)) (by kernel_rfl) ?_
      refine .st (v := (A.v (Value.int .i64 ((a0.Pending.length : Int))))) (len_imm (e := 54) (h1 := by kernel_rfl) ..) ?_
      refine .st (v := (A.ptr 1 1)) (by kernel_rfl) ?_
      refine .st (v := (A.imm (List.map c_S_Write a1.Pending) false)) (by kernel_rfl) ?_
      refine .st (v := (A.v (Value.int .i64 ((a1.Pending.length : Int))))) (len_imm (e := 54) (h1 := by kernel_rfl) ..) ?_
      refine .st (v := (A.v (Value.bool (((a0.Pending.length : Int)) != ((a1.Pending.length : Int)))))) (aBin_neq ..) ?_
      exact .lg ⟨_, _, _, _, _, _, _, rfl⟩
  rintro _ y2 ⟨j3, j4, j5, j6, j7, j8, j9, rfl⟩
  iterate 8 refine .uc ?_
  refine .bg (fun t (y : Bool) => ∃ j12 j13 j14 j15 j16 : A, t = [(A.v (Value.bool y)), j12, j13, j14, j15, j16]) ?_ ?_
  · refine .biH (fun hk10 => ?_) (fun hk10 => ?_)
    · exact .lg ⟨_, _, _, _, _, rfl⟩
    · refine .st (v := (A.ptr 0 2)) (by kernel_rfl) ?_
      refine .st (v := (A.v (Value.int .i64 a0.Left))) (by kernel_rfl) ?_
      refine .st (v := (A.ptr 1 2)) (by kernel_rfl) ?_
      refine .st (v := (A.v (Value.int .i64 a1.Left))) (by kernel_rfl) ?_
      refine .st (v := (A.v (Value.bool (a0.Left != a1.Left)))) (aBin_neq ..) ?_
      exact .lg ⟨_, _, _, _, _, rfl⟩
  rintro _ y11 ⟨j12, j13, j14, j15, j16, rfl⟩
  iterate 6 refine .uc ?_
  refine .bg (fun t (y : Bool) => ∃ j19 j20 j21 j22 j23 : A, t = [(A.v (Value.bool y)), j19, j20, j21, j22, j23]) ?_ ?_
  · refine .biH (fun hk17 => ?_) (fun hk17 => ?_)
    · exact .lg ⟨_, _, _, _, _, rfl⟩
    · refine .st (v := (A.ptr 0 3)) (by kernel_rfl) ?_
      refine .st (v := (A.v (Value.bool a0.Stopped))) (by kernel_rfl) ?_
      refine .st (v := (A.ptr 1 3)) (by kernel_rfl) ?_
      refine .st (v := (A.v (Value.bool a1.Stopped))) (by kernel_rfl) ?_
      refine .st (v := (A.v (Value.bool (a0.Stopped != a1.Stopped)))) (by kernel_rfl) ?_
      exact .lg ⟨_, _, _, _, _, rfl⟩
  rintro _ y18 ⟨j19, j20, j21, j22, j23, rfl⟩
  iterate 6 refine .uc ?_
  refine .biHN (fun hk24 => ?_) (fun hk24 => ?_)
  · exact .lf rfl rfl ⟨_, rfl, rfl⟩
  · refine .as (T14_14_0 C n  false a0.Sectors a0.Pending a0.Left a0.Stopped a1.Sectors a1.Pending a1.Left a1.Stopped _ _ _ _ ?_ ?_ _ 0)
    · intro y40 j41 j42 j43
      refine .un rfl ?_
      exact .lf rfl rfl ⟨_, rfl, rfl⟩
    · intro j44
      refine .un rfl ?_
      refine .cT (by kernel_rfl) ?_
      refine .as (T14_14_1 C n  false a0.Sectors a0.Pending a0.Left a0.Stopped a1.Sectors a1.Pending a1.Left a1.Stopped _ _ _ _ ?_ ?_ _ 0)
      · intro y68 j69 j70 j71
        refine .un rfl ?_
        exact .lf rfl rfl ⟨_, rfl, rfl⟩
      · intro j72 j73 j74 j75
        refine .un rfl ?_
        refine .cT (by kernel_rfl) ?_
        exact .lf rfl rfl ⟨_, rfl, rfl⟩

def G14 (a0 : S_Disk) (a1 : S_Disk) : Option Bool := F14 fuel0 a0 a1

def Orc14 (C : Nat → List A → Option A) : Prop := ∀ (a0 : S_Disk) (a1 : S_Disk), C 14 [(A.agg [(A.imm (List.map (cL c8) a0.Sectors) false), (A.imm (List.map c_S_Write a0.Pending) false), (A.v (Value.int .i64 a0.Left)), (A.v (Value.bool a0.Stopped))]), (A.agg [(A.imm (List.map (cL c8) a1.Sectors) false), (A.imm (List.map c_S_Write a1.Pending) false), (A.v (Value.int .i64 a1.Left)), (A.v (Value.bool a1.Stopped))])] = (G14 a0 a1).map fun y => (A.v (Value.bool y))

end Go.Proofs.Ythoomfjliekbdaa
