/-
 The program's functions as plain functions: by a tool; each follows the interpreter.
-/
import Derived.Test.YtdmgdjnadbakfaaT2
import Derived.KernelRfl
namespace Go.Proofs.Ytdmgdjnadbakfaa
open Go.Proofs.Try (prog)
set_option linter.unusedVariables false
set_option linter.unusedSimpArgs false
set_option maxHeartbeats 4000000
set_option maxRecDepth 100000
def F5 (n:Nat) (a0:S_Replica) (a1:Int):Option Bool :=
 (G7 ).bind fun y1=>bif (!y1) then (some false) else ((G8 a0).bind fun y3=>bif (!y3) then (some true) else ((G9 a0).bind fun y5=>bif (y5.2 != 0) then (some (((y5.1.length:Int))==0)) else ((bif (((y5.1.length:Int))==0) then (some true) else (some (((y5.1.length:Int)) != ((a0.Order.length:Int))))).bind fun y8=>bif y8 then (some false) else ((G11 a0.Self y5.1).bind fun y16=>bif decide (((y5.1.length:Int))≠0) then ((subI y5.1 0 (wr .i64 (1+(Int.tmod (wr .i64 (a1)) ((y5.1.length:Int)))))).bind fun y17=>(G11 a0.Self y17).bind fun y18=>(bif (y16.2 != 0) then (some true) else (some (y18.2 != 0))).bind fun y20=>(bif y20 then (some true) else ((G14 y16.1 a0).bind fun y24=>some (!y24))).bind fun y25=>(bif y25 then (some true) else ((G20 y18.1).bind fun y31=>some (y31 != 0))).bind fun y32=>(bif y32 then (some true) else (some (((y18.1.Order.length:Int)) != (wr .i64 (1+(Int.tmod (wr .i64 (a1)) ((y5.1.length:Int)))))))).bind fun y37=>bif y37 then (some false) else ((G22 y18.1.Leases a0.Leases).bind fun y44=>(bif y44 then (some (decide (((y18.1.Calls.length:Int))<=((a0.Calls.length:Int))))) else (some false)).bind fun y46=>bif y46 then ((subI a0.Calls 0 ((y18.1.Calls.length:Int))).bind fun y53=>((G21 y18.1.Calls y53).bind fun y54=>some y54).bind fun y55=>some y55) else ((some false).bind fun y57=>some y57))) else none))))
theorem T5 (C:Nat->List A->Option A) (n:Nat) (h11:Orc11 C) (h14:Orc14 C) (h20:Orc20 C) (h21:Orc21 C) (h22:Orc22 C) (h7:Orc7 C) (h8:Orc8 C) (h9:Orc9 C) (a0:S_Replica) (a1:Int):J (fun (o:R) y=>∃ v,o.1=.ret v/\snapE o.2 v=(bA y)) (evCall1 (cx C) (ec C n 8) (ey C n 8) (n+8) 5 [(A.agg (c_S_Replica a0)),(A.v (.int .u16 a1))] [] 0) some (F5 n a0 a1) some:=by
 refine .lp (e5 ..) ?_
 unfold F5
 refine .s ((A.ptr 0 0),[Blk.box (c_S_Replica a0)]) ?_
 refine .bd (g:=fun (y:Bool)=>(bA y)) (h7 ()) fun y1=>?_
 refine .s (bA (!y1)) ?_
 refine .biHN (fun hk2=>?_) (fun hk2=>?_)
 ·exact .lv rfl
 refine .s (A.agg (c_S_Replica a0)) ?_
 refine .bd (g:=fun (y:Bool)=>(bA y)) (by show C 8 [snap _ (A.agg (c_S_Replica a0))]=_; simp only[sn0,snM]; exact h8 a0) fun y3=>?_
 refine .s (bA (!y3)) ?_
 refine .biHN (fun hk4=>?_) (fun hk4=>?_)
 ·exact .lv rfl
 refine .s (A.agg (c_S_Replica a0)) ?_
 refine .bd (g:=fun (y:((List (List UInt8))×Int))=>(A.tup [(A.imm (List.map (cL c8) y.1) false),(iA y.2)])) (by show C 9 [snap _ (A.agg (c_S_Replica a0))]=_; simp only[sn0,snM]; exact h9 a0) fun y5=>?_
 refine .s (A.imm (List.map (cL c8) y5.1) false) (.s (iA y5.2) ?_)
 refine .st (aBin_neq ..) ?_
 refine .biHN (fun hk6=>?_) (fun hk6=>?_)
 ·refine .st (len_imm (e:=30) (h1:=by kernel_rfl) ..) ?_
  refine .st (aBin_eql ..) ?_
  exact .lv rfl
 refine .st (len_imm (e:=30) (h1:=by kernel_rfl) ..) ?_
 refine .st (aBin_eql ..) ?_
 refine .bg (fun t (y:Bool)=>∃ j9 j10 j11 j12 j13 j14:A,t=[(bA y),j9,j10,j11,j12,j13,j14]) ?_ ?_
 ·refine .biH (fun hk7=>?_) (fun hk7=>?_)
  ·exact .lg ⟨_,_,_,_,_,_,rfl⟩
  refine .st (len_imm (e:=30) (h1:=by kernel_rfl) ..) ?_
  refine .s (A.ptr 0 3) (.s (A.imm (List.map cB a0.Order) false) ?_)
  refine .st (len_imm (e:=4) (h1:=by kernel_rfl) ..) ?_
  refine .st (aBin_neq ..) ?_
  exact .lg ⟨_,_,_,_,_,_,rfl⟩
 rintro _ y8 ⟨j9,j10,j11,j12,j13,j14,rfl⟩
 iterate 7 refine .uc ?_
 refine .biHN (fun hk15=>?_) (fun hk15=>?_)
 ·exact .lv rfl
 refine .s (A.ptr 0 0) (.s (iA a0.Self) ?_)
 refine .bd (g:=fun (y:(S_Replica×Int))=>(A.tup [(A.agg [(iA y.1.Self),(A.imm (List.map c_S_Lease y.1.Leases) false),(A.imm (List.map c_S_Call y.1.Calls) false),(A.imm (List.map cB y.1.Order) false)]),(iA y.2)])) (by show C 11 [snap _ (iA a0.Self),snap _ (A.imm (List.map (cL c8) y5.1) false)]=_; simp only[sn0,snM]; exact h11 a0.Self y5.1) fun y16=>?_
 refine .s (A.agg (c_S_Replica y16.1)) (.s (iA y16.2) (.sq (A.ptr 1 0) (.s [Blk.box (c_S_Replica a0),Blk.box (c_S_Replica y16.1)] ?_)))
 refine .st (v:=(iA (wr .i64 (a1)))) (aConvert_int (hs:=by kernel_rfl) (hd:=by kernel_rfl) ..) ?_
 refine .st (len_imm (e:=30) (h1:=by kernel_rfl) ..) ?_
 refine .gd fun hg=>?_
 refine .st (aBin_rem (hb:=of_decide_eq_true hg) ..) ?_
 refine .st (aBin_add ..) ?_
 refine .s (A.ptr 0 0) (.s (iA a0.Self) ?_)
 refine .bd (g:=fun (y:List (List UInt8))=>(A.imm (List.map (cL c8) y) false)) (cut_imm (e:=30) (es:=1) (f:=(cL c8)) (l:=y5.1) (a:=0) (b:=wr .i64 (1+(Int.tmod (wr .i64 (a1)) ((y5.1.length:Int))))) (by kernel_rfl) (by kernel_rfl) (fun _=>rfl) (.inl ⟨rfl,rfl⟩) (.inr ⟨_,rfl⟩)) fun y17=>?_
 refine .bd (g:=fun (y:(S_Replica×Int))=>(A.tup [(A.agg [(iA y.1.Self),(A.imm (List.map c_S_Lease y.1.Leases) false),(A.imm (List.map c_S_Call y.1.Calls) false),(A.imm (List.map cB y.1.Order) false)]),(iA y.2)])) (by show C 11 [snap _ (iA a0.Self),snap _ (A.imm (List.map (cL c8) y17) false)]=_; simp only[sn0,snM]; exact h11 a0.Self y17) fun y18=>?_
 refine .s (A.agg (c_S_Replica y18.1)) (.s (iA y18.2) ?_)
 refine .cT (by kernel_rfl) ?_
 refine .sq (A.ptr 2 0) (.s [Blk.box (c_S_Replica a0),Blk.box (c_S_Replica y16.1),Blk.box (c_S_Replica y18.1)] ?_)
 refine .st (aBin_neq ..) ?_
 refine .bg (fun t (y:Bool)=>∃ j21 j22:A,t=[(bA y),j21,j22]) ?_ ?_
 ·refine .biH (fun hk19=>?_) (fun hk19=>?_)
  ·exact .lg ⟨_,_,rfl⟩
  refine .st (aBin_neq ..) ?_
  exact .lg ⟨_,_,rfl⟩
 rintro _ y20 ⟨j21,j22,rfl⟩
 iterate 3 refine .uc ?_
 refine .bg (fun t (y:Bool)=>∃ j26 j27 j28 j29:A,t=[(bA y),j26,j27,j28,j29]) ?_ ?_
 ·refine .biH (fun hk23=>?_) (fun hk23=>?_)
  ·exact .lg ⟨_,_,_,_,rfl⟩
  refine .s (A.agg (c_S_Replica y16.1)) (.s (A.agg (c_S_Replica a0)) ?_)
  refine .bd (g:=fun (y:Bool)=>(bA y)) (by show C 14 [snap _ (A.agg (c_S_Replica y16.1)),snap _ (A.agg (c_S_Replica a0))]=_; simp only[sn0,snM]; exact h14 y16.1 a0) fun y24=>?_
  refine .s (bA (!y24)) ?_
  exact .lg ⟨_,_,_,_,rfl⟩
 rintro _ y25 ⟨j26,j27,j28,j29,rfl⟩
 iterate 5 refine .uc ?_
 refine .bg (fun t (y:Bool)=>∃ j33 j34 j35:A,t=[(bA y),j33,j34,j35]) ?_ ?_
 ·refine .biH (fun hk30=>?_) (fun hk30=>?_)
  ·exact .lg ⟨_,_,_,rfl⟩
  refine .s (A.agg (c_S_Replica y18.1)) ?_
  refine .bd (g:=fun (y:Int)=>(iA y)) (by show C 20 [snap _ (A.agg (c_S_Replica y18.1))]=_; simp only[sn0,snM]; exact h20 y18.1) fun y31=>?_
  refine .st (aBin_neq ..) ?_
  exact .lg ⟨_,_,_,rfl⟩
 rintro _ y32 ⟨j33,j34,j35,rfl⟩
 iterate 4 refine .uc ?_
 refine .bg (fun t (y:Bool)=>∃ j38 j39 j40 j41 j42:A,t=[(bA y),j38,j39,j40,j41,j42]) ?_ ?_
 ·refine .biH (fun hk36=>?_) (fun hk36=>?_)
  ·exact .lg ⟨_,_,_,_,_,rfl⟩
  refine .s (A.ptr 2 3) (.s (A.imm (List.map cB y18.1.Order) false) ?_)
  refine .st (len_imm (e:=4) (h1:=by kernel_rfl) ..) ?_
  refine .st (aBin_neq ..) ?_
  exact .lg ⟨_,_,_,_,_,rfl⟩
 rintro _ y37 ⟨j38,j39,j40,j41,j42,rfl⟩
 iterate 6 refine .uc ?_
 refine .biHN (fun hk43=>?_) (fun hk43=>?_)
 ·exact .lv rfl
 refine .s (A.ptr 2 2) (.s (A.imm (List.map c_S_Call y18.1.Calls) false) ?_)
 refine .st (len_imm (e:=62) (h1:=by kernel_rfl) ..) ?_
 refine .s (A.ptr 2 1) (.s (A.imm (List.map c_S_Lease y18.1.Leases) false) (.s (A.ptr 0 1) (.s (A.imm (List.map c_S_Lease a0.Leases) false) ?_)))
 refine .bd (g:=fun (y:Bool)=>(bA y)) (by show C 22 [snap _ (A.imm (List.map c_S_Lease y18.1.Leases) false),snap _ (A.imm (List.map c_S_Lease a0.Leases) false)]=_; simp only[sn0,snM]; exact h22 y18.1.Leases a0.Leases) fun y44=>?_
 refine .bg (fun t (y:Bool)=>∃ j47 j48 j49 j50 j51:A,t=[(bA y),j47,j48,j49,j50,j51]) ?_ ?_
 ·refine .biH (fun hk45=>?_) (fun hk45=>?_)
  ·refine .s (A.ptr 0 2) (.s (A.imm (List.map c_S_Call a0.Calls) false) ?_)
   refine .st (len_imm (e:=62) (h1:=by kernel_rfl) ..) ?_
   refine .st (aBin_leq ..) ?_
   exact .lg ⟨_,_,_,_,_,rfl⟩
  exact .lg ⟨_,_,_,_,_,rfl⟩
 rintro _ y46 ⟨j47,j48,j49,j50,j51,rfl⟩
 iterate 6 refine .uc ?_
 refine .gst (fun hc52=>?_) (fun hc52=>?_)
 ·refine .bb ?_
  refine .s (A.ptr 2 2) (.s (A.imm (List.map c_S_Call y18.1.Calls) false) (.s (A.ptr 0 2) (.s (A.imm (List.map c_S_Call a0.Calls) false) ?_)))
  refine .bd (g:=fun (y:List S_Call)=>(A.imm (List.map c_S_Call y) false)) (cut_imm (e:=62) (es:=2) (f:=c_S_Call) (l:=a0.Calls) (a:=0) (b:=(y18.1.Calls.length:Int)) (by kernel_rfl) (by kernel_rfl) (fun _=>rfl) (.inl ⟨rfl,rfl⟩) (.inr ⟨_,rfl⟩)) fun y53=>?_
  refine .cr ?_
  iterate 6 refine .uc ?_
  refine .bg (fun t (y:Bool)=>∃ j56:A,t=[(bA y),j56]) ?_ ?_
  ·refine .bKT hc52 ?_
   refine .bd (g:=fun (y:Bool)=>(bA y)) (by show C 21 [snap _ (A.imm (List.map c_S_Call y18.1.Calls) false),snap _ (A.imm (List.map c_S_Call y53) false)]=_; simp only[sn0,snM]; exact h21 y18.1.Calls y53) fun y54=>?_
   exact .lg ⟨_,rfl⟩
  rintro _ y55 ⟨j56,rfl⟩
  iterate 2 refine .uc ?_
  exact .lv rfl
 refine .bb ?_
 refine .cr ?_
 iterate 6 refine .uc ?_
 refine .bg (fun t (y:Bool)=>∃ j58:A,t=[(bA y),j58]) ?_ ?_
 ·refine .bKF hc52 ?_
  exact .lg ⟨_,rfl⟩
 rintro _ y57 ⟨j58,rfl⟩
 iterate 2 refine .uc ?_
 exact .lv rfl
def G5 (a0:S_Replica) (a1:Int):Option Bool:=F5 fuel0 a0 a1
end Go.Proofs.Ytdmgdjnadbakfaa
