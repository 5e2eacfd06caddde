/-
 The program's functions as plain functions: by a tool; each follows the interpreter.
-/
import Derived.Test.YtdmgdjnadbakfaaT1
import Derived.KernelRfl
namespace Go.Proofs.Ytdmgdjnadbakfaa
open Go.Proofs.Try (prog)
set_option linter.unusedVariables false
set_option linter.unusedSimpArgs false
set_option maxHeartbeats 4000000
set_option maxRecDepth 100000
def hk27_1 (v6:Int) (v7:(List S_Lease)) (v8:(List S_Call)) (v9:(List Bool)) (v10:Int) (v11:(List S_Lease)) (v12:(List S_Call)) (v13:(List Bool)) (v14:Int) (v15:Int) (v16:(List S_Lease)) (v17:(List S_Call)) (v18:(List S_Call)):Blk:=Blk.box [(iA v6),(A.imm (List.map c_S_Lease v7) true),(A.imm (List.map c_S_Call v8) true),(A.imm (List.map cB v9) true),(iA v10),(A.imm (List.map c_S_Lease v11) true),(A.imm (List.map c_S_Call v12) true),(A.imm (List.map cB v13) true),(iA v14),(iA v15),(A.imm (List.map c_S_Lease v16) true),(A.imm (List.map c_S_Call v17) true),(A.imm (List.map c_S_Call v18) true)]
def F27_27_0 (n:Nat) (v1:Bool) (v2:(List S_Deed)) (v3:Int) (v6:Int) (v7:(List S_Lease)) (v8:(List S_Call)) (v9:(List Bool)) (v10:Int) (v11:(List S_Lease)) (v12:(List S_Call)) (v13:(List Bool)) (v14:Int) (v15:Int) (v16:(List S_Lease)) (v17:(List S_Call)) (v18:(List S_Call)):Nat->Int->S_Pair->Option ((Bool×Int×(List S_Lease)×(List S_Call)×(List Bool)×Int×(List S_Lease)×(List S_Call)×(List Bool)×Int×Int×(List S_Lease)×(List S_Call)×(List S_Call)×Int×(List S_Lease)×(List S_Call)×(List Bool)×Int×(List S_Lease)×(List S_Call)×(List Bool)×Int×Int×(List S_Lease)×(List S_Call)×(List S_Call)×Int×Int×Int×Int×Int×(List S_Lease)×(List S_Call)×(List Bool)×Int×(List S_Lease)×(List S_Call)×(List Bool)×Int×Int×(List S_Lease)×(List S_Call)×(List S_Call))⊕(Int×(List S_Lease)×(List S_Call)×(List Bool)×Int×(List S_Lease)×(List S_Call)×(List Bool)×Int×Int×(List S_Lease)×(List S_Call)×(List S_Call)))
 | 0,_,_=>none
 | m+1,v4,v5=>bif (decide (v4<v3)) then ((getI v2 v4).bind fun y20=>(G17 v5 y20).bind fun y21=>bif (y21.2 != 0) then (some ((Sum.inl ((false,v5.Desks.1.Self,v5.Desks.1.Leases,v5.Desks.1.Calls,v5.Desks.1.Order,v5.Desks.2.Self,v5.Desks.2.Leases,v5.Desks.2.Calls,v5.Desks.2.Order,v5.Synced.1,v5.Synced.2,v5.Told,v5.Spoken.1,v5.Spoken.2,v5.Desks.1.Self,v5.Desks.1.Leases,v5.Desks.1.Calls,v5.Desks.1.Order,v5.Desks.2.Self,v5.Desks.2.Leases,v5.Desks.2.Calls,v5.Desks.2.Order,v5.Synced.1,v5.Synced.2,v5.Told,v5.Spoken.1,v5.Spoken.2,y20.Kind,y20.Who,y20.A,y20.B,y21.1.Desks.1.Self,y21.1.Desks.1.Leases,y21.1.Desks.1.Calls,y21.1.Desks.1.Order,y21.1.Desks.2.Self,y21.1.Desks.2.Leases,y21.1.Desks.2.Calls,y21.1.Desks.2.Order,y21.1.Synced.1,y21.1.Synced.2,y21.1.Told,y21.1.Spoken.1,y21.1.Spoken.2))))) else (F27_27_0 n v1 v2 v3 v6 v7 v8 v9 v10 v11 v12 v13 v14 v15 v16 v17 v18 m (wr .i64 (v4+1)) y21.1)) else (some ((Sum.inr ((v5.Desks.1.Self,v5.Desks.1.Leases,v5.Desks.1.Calls,v5.Desks.1.Order,v5.Desks.2.Self,v5.Desks.2.Leases,v5.Desks.2.Calls,v5.Desks.2.Order,v5.Synced.1,v5.Synced.2,v5.Told,v5.Spoken.1,v5.Spoken.2)))))
theorem T27_27_0 (C:Nat->List A->Option A) (n:Nat) (h17:Orc17 C) (v1:Bool) (v2:(List S_Deed)) (v3:Int) (v6:Int) (v7:(List S_Lease)) (v8:(List S_Call)) (v9:(List Bool)) (v10:Int) (v11:(List S_Lease)) (v12:(List S_Call)) (v13:(List Bool)) (v14:Int) (v15:Int) (v16:(List S_Lease)) (v17:(List S_Call)) (v18:(List S_Call)) {ρ γ:Type} {φ:ρ->γ->Prop} {kL:R->Option ρ} {K:((Bool×Int×(List S_Lease)×(List S_Call)×(List Bool)×Int×(List S_Lease)×(List S_Call)×(List Bool)×Int×Int×(List S_Lease)×(List S_Call)×(List S_Call)×Int×(List S_Lease)×(List S_Call)×(List Bool)×Int×(List S_Lease)×(List S_Call)×(List Bool)×Int×Int×(List S_Lease)×(List S_Call)×(List S_Call)×Int×Int×Int×Int×Int×(List S_Lease)×(List S_Call)×(List Bool)×Int×(List S_Lease)×(List S_Call)×(List Bool)×Int×Int×(List S_Lease)×(List S_Call)×(List S_Call))⊕(Int×(List S_Lease)×(List S_Call)×(List Bool)×Int×(List S_Lease)×(List S_Call)×(List Bool)×Int×Int×(List S_Lease)×(List S_Call)×(List S_Call)))->Option γ} (kx kg:Nat->St->Option R) (kr:St->Option R) (kp:A->St->Option R) (x0:∀ (o0:Bool) (o1:Int) (o2:(List S_Lease)) (o3:(List S_Call)) (o4:(List Bool)) (o5:Int) (o6:(List S_Lease)) (o7:(List S_Call)) (o8:(List Bool)) (o9:Int) (o10:Int) (o11:(List S_Lease)) (o12:(List S_Call)) (o13:(List S_Call)) (o14:Int) (o15:(List S_Lease)) (o16:(List S_Call)) (o17:(List Bool)) (o18:Int) (o19:(List S_Lease)) (o20:(List S_Call)) (o21:(List Bool)) (o22:Int) (o23:Int) (o24:(List S_Lease)) (o25:(List S_Call)) (o26:(List S_Call)) (o27:Int) (o28:Int) (o29:Int) (o30:Int) (o31:Int) (o32:(List S_Lease)) (o33:(List S_Call)) (o34:(List Bool)) (o35:Int) (o36:(List S_Lease)) (o37:(List S_Call)) (o38:(List Bool)) (o39:Int) (o40:Int) (o41:(List S_Lease)) (o42:(List S_Call)) (o43:(List S_Call)) (s2:A) (s10:A) (s11:A) (s12:A),J φ (kr (St.mk [(2,s2),(4,(A.ptr 1 0)),(5,(bA o0)),(10,s10),(11,s11),(12,s12)] [Blk.box [(iA o1),(A.imm (List.map c_S_Lease o2) false),(A.imm (List.map c_S_Call o3) false),(A.imm (List.map cB o4) false),(iA o5),(A.imm (List.map c_S_Lease o6) false),(A.imm (List.map c_S_Call o7) false),(A.imm (List.map cB o8) false),(iA o9),(iA o10),(A.imm (List.map c_S_Lease o11) false),(A.imm (List.map c_S_Call o12) false),(A.imm (List.map c_S_Call o13) false)],Blk.box [(iA o14),(A.imm (List.map c_S_Lease o15) false),(A.imm (List.map c_S_Call o16) false),(A.imm (List.map cB o17) false),(iA o18),(A.imm (List.map c_S_Lease o19) false),(A.imm (List.map c_S_Call o20) false),(A.imm (List.map cB o21) false),(iA o22),(iA o23),(A.imm (List.map c_S_Lease o24) false),(A.imm (List.map c_S_Call o25) false),(A.imm (List.map c_S_Call o26) false)],Blk.box [(iA o27),(iA o28),(iA o29),(iA o30)],Blk.box [(iA o31),(A.imm (List.map c_S_Lease o32) false),(A.imm (List.map c_S_Call o33) false),(A.imm (List.map cB o34) false),(iA o35),(A.imm (List.map c_S_Lease o36) false),(A.imm (List.map c_S_Call o37) false),(A.imm (List.map cB o38) false),(iA o39),(iA o40),(A.imm (List.map c_S_Lease o41) false),(A.imm (List.map c_S_Call o42) false),(A.imm (List.map c_S_Call o43) false)]])) kL (K (Sum.inl ((o0,o1,o2,o3,o4,o5,o6,o7,o8,o9,o10,o11,o12,o13,o14,o15,o16,o17,o18,o19,o20,o21,o22,o23,o24,o25,o26,o27,o28,o29,o30,o31,o32,o33,o34,o35,o36,o37,o38,o39,o40,o41,o42,o43)))) some) (x1:∀ (o0:Int) (o1:(List S_Lease)) (o2:(List S_Call)) (o3:(List Bool)) (o4:Int) (o5:(List S_Lease)) (o6:(List S_Call)) (o7:(List Bool)) (o8:Int) (o9:Int) (o10:(List S_Lease)) (o11:(List S_Call)) (o12:(List S_Call)) (s5:A) (s10:A) (s11:A) (s12:A),J φ (kx 0 (St.mk [(2,(A.ptr 0 0)),(4,(A.ptr 1 0)),(5,s5),(10,s10),(11,s11),(12,s12)] [Blk.box [(iA o0),(A.imm (List.map c_S_Lease o1) false),(A.imm (List.map c_S_Call o2) false),(A.imm (List.map cB o3) false),(iA o4),(A.imm (List.map c_S_Lease o5) false),(A.imm (List.map c_S_Call o6) false),(A.imm (List.map cB o7) false),(iA o8),(iA o9),(A.imm (List.map c_S_Lease o10) false),(A.imm (List.map c_S_Call o11) false),(A.imm (List.map c_S_Call o12) false)],(hk27_1 v6 v7 v8 v9 v10 v11 v12 v13 v14 v15 v16 v17 v18)])) kL (K (Sum.inr ((o0,o1,o2,o3,o4,o5,o6,o7,o8,o9,o10,o11,o12)))) some) :
  ∀ (m:Nat) (v4:Int) (v5:S_Pair),J φ (loopR (cx C) (ec C n 8) (ey C n 8) (n+8) 27 0 0 2 kx kg kr kp m (St.mk [(2,(A.ptr 0 0)),(4,(A.ptr 1 0)),(5,(bA v1)),(10,(A.imm (List.map c_S_Deed v2) false)),(11,(iA v3)),(12,(iA v4))] [Blk.box (c_S_Pair v5),(hk27_1 v6 v7 v8 v9 v10 v11 v12 v13 v14 v15 v16 v17 v18)])) kL (F27_27_0 n v1 v2 v3 v6 v7 v8 v9 v10 v11 v12 v13 v14 v15 v16 v17 v18 m v4 v5) K:=by
 intro m
 induction m with
 | zero=>intros; exact .nn
 | succ m ih =>
  intro v4 v5
  refine .lp (e27_0 ..) ?_
  unfold F27_27_0
  refine .st (aBin_lss ..) ?_
  refine .biHN (fun hk19=>?_) (fun hk19=>?_)
  ·refine .bd (g:=fun (y:S_Deed)=>A.ip (c_S_Deed y)) (idx_imm (e:=49) (es:=4) (h1:=by kernel_rfl) (h2:=by kernel_rfl) (h3:=fun _=>rfl) ..) fun y20=>?_
   refine .s (A.agg (c_S_Deed y20)) (.sq (A.ptr 2 0) (.s [Blk.box (c_S_Pair v5),(hk27_1 v6 v7 v8 v9 v10 v11 v12 v13 v14 v15 v16 v17 v18),Blk.box (c_S_Deed y20)] (.s (A.agg (c_S_Pair v5)) (.s (A.agg (c_S_Deed y20)) ?_))))
   refine .bd (g:=fun (y:(S_Pair×Int))=>(A.tup [(A.agg [(iA y.1.Desks.1.Self),(A.imm (List.map c_S_Lease y.1.Desks.1.Leases) false),(A.imm (List.map c_S_Call y.1.Desks.1.Calls) false),(A.imm (List.map cB y.1.Desks.1.Order) false),(iA y.1.Desks.2.Self),(A.imm (List.map c_S_Lease y.1.Desks.2.Leases) false),(A.imm (List.map c_S_Call y.1.Desks.2.Calls) false),(A.imm (List.map cB y.1.Desks.2.Order) false),(iA y.1.Synced.1),(iA y.1.Synced.2),(A.imm (List.map c_S_Lease y.1.Told) false),(A.imm (List.map c_S_Call y.1.Spoken.1) false),(A.imm (List.map c_S_Call y.1.Spoken.2) false)]),(iA y.2)])) (by show C 17 [snap _ (A.agg (c_S_Pair v5)),snap _ (A.agg (c_S_Deed y20))]=_; simp only[sn0,snM]; exact h17 v5 y20) fun y21=>?_
   refine .s (A.agg (c_S_Pair y21.1)) (.s (iA y21.2) (.sq (A.ptr 3 0) (.s [Blk.box (c_S_Pair v5),(hk27_1 v6 v7 v8 v9 v10 v11 v12 v13 v14 v15 v16 v17 v18),Blk.box (c_S_Deed y20),Blk.box (c_S_Pair y21.1)] ?_)))
   refine .st (aBin_neq ..) ?_
   refine .biHN (fun hk22=>?_) (fun hk22=>?_)
   ·refine .s (A.agg (c_S_Pair v5)) (.s [Blk.box (c_S_Pair v5),Blk.box (c_S_Pair v5),Blk.box (c_S_Deed y20),Blk.box (c_S_Pair y21.1)] ?_)
    exact .ex (x0 _ _ _ _ _ _ _ _ _ _ _ _ _ _ _ _ _ _ _ _ _ _ _ _ _ _ _ _ _ _ _ _ _ _ _ _ _ _ _ _ _ _ _ _ _ _ _ _)
   refine .s (A.agg (c_S_Pair y21.1)) (.s [Blk.box (c_S_Pair y21.1),(hk27_1 v6 v7 v8 v9 v10 v11 v12 v13 v14 v15 v16 v17 v18),Blk.box (c_S_Deed y20),Blk.box (c_S_Pair y21.1)] ?_)
   refine .st (aBin_add ..) ?_
   refine .st (v:=[Blk.box (c_S_Pair y21.1),(hk27_1 v6 v7 v8 v9 v10 v11 v12 v13 v14 v15 v16 v17 v18)]) ((by kernel_rfl:_=(bif ((((underss 2 (List.map c_S_Lease y21.1.Desks.1.Leases))&&((underss 2 (List.map c_S_Call y21.1.Desks.1.Calls))&&((underss 2 (List.map cB y21.1.Desks.1.Order))&&((underss 2 (List.map c_S_Lease y21.1.Desks.2.Leases))&&((underss 2 (List.map c_S_Call y21.1.Desks.2.Calls))&&((underss 2 (List.map cB y21.1.Desks.2.Order))&&((underss 2 (List.map c_S_Lease y21.1.Told))&&((underss 2 (List.map c_S_Call y21.1.Spoken.1))&&((underss 2 (List.map c_S_Call y21.1.Spoken.2))&&true))))))))))&&((((underss 2 (List.map c_S_Lease v7))&&((underss 2 (List.map c_S_Call v8))&&((underss 2 (List.map cB v9))&&((underss 2 (List.map c_S_Lease v11))&&((underss 2 (List.map c_S_Call v12))&&((underss 2 (List.map cB v13))&&((underss 2 (List.map c_S_Lease v16))&&((underss 2 (List.map c_S_Call v17))&&((underss 2 (List.map c_S_Call v18))&&true))))))))))&&true)) then some [Blk.box (c_S_Pair y21.1),(hk27_1 v6 v7 v8 v9 v10 v11 v12 v13 v14 v15 v16 v17 v18)] else none)).trans (by simp only[un0,unS])) ?_
   refine .cT ((by kernel_rfl:_=(bif underss 2 (List.map c_S_Deed v2) then true else false)).trans (by simp only[un0,unS])) ?_
   exact ih _ _
  exact .ex (x1 _ _ _ _ _ _ _ _ _ _ _ _ _ _ _ _ _)
def F27 (n:Nat) (a0:S_Pair) (a1:(List S_Deed)):Option (S_Pair×Bool) :=
 (F27_27_0 n false a1 ((a1.length:Int)) 0 ([]) ([]) ([]) 0 ([]) ([]) ([]) 0 0 ([]) ([]) ([]) (n+8) 0 a0).bind fun o23=>match o23 with | (Sum.inl ((y24,y25,y26,y27,y28,y29,y30,y31,y32,y33,y34,y35,y36,y37,y38,y39,y40,y41,y42,y43,y44,y45,y46,y47,y48,y49,y50,y51,y52,y53,y54,y55,y56,y57,y58,y59,y60,y61,y62,y63,y64,y65,y66,y67)))=>some (((S_Pair.mk (((S_Replica.mk y38 y39 y40 y41),(S_Replica.mk y42 y43 y44 y45))) ((y46,y47)) y48 ((y49,y50))),y24)) | (Sum.inr ((y72,y73,y74,y75,y76,y77,y78,y79,y80,y81,y82,y83,y84)))=>some (((S_Pair.mk (((S_Replica.mk y72 y73 y74 y75),(S_Replica.mk y76 y77 y78 y79))) ((y80,y81)) y82 ((y83,y84))),true))
theorem T27 (C:Nat->List A->Option A) (n:Nat) (h17:Orc17 C) (a0:S_Pair) (a1:(List S_Deed)):J (fun (o:R) y=>∃ v,o.1=.ret v/\snapE o.2 v=(A.tup [(A.agg [(iA y.1.Desks.1.Self),(A.imm (List.map c_S_Lease y.1.Desks.1.Leases) false),(A.imm (List.map c_S_Call y.1.Desks.1.Calls) false),(A.imm (List.map cB y.1.Desks.1.Order) false),(iA y.1.Desks.2.Self),(A.imm (List.map c_S_Lease y.1.Desks.2.Leases) false),(A.imm (List.map c_S_Call y.1.Desks.2.Calls) false),(A.imm (List.map cB y.1.Desks.2.Order) false),(iA y.1.Synced.1),(iA y.1.Synced.2),(A.imm (List.map c_S_Lease y.1.Told) false),(A.imm (List.map c_S_Call y.1.Spoken.1) false),(A.imm (List.map c_S_Call y.1.Spoken.2) false)]),(bA y.2)])) (evCall1 (cx C) (ec C n 8) (ey C n 8) (n+8) 27 [(A.agg (c_S_Pair a0)),(A.imm (List.map c_S_Deed a1) false)] [] 0) some (F27 n a0 a1) some:=by
 refine .lp (e27 ..) ?_
 unfold F27
 refine .s ((A.ptr 0 0),[Blk.box (c_S_Pair a0)]) (.s ((A.ptr 1 0),[Blk.box (c_S_Pair a0),Blk.box [(iA 0),(A.imm [] true),(A.imm [] true),(A.imm [] true),(iA 0),(A.imm [] true),(A.imm [] true),(A.imm [] true),(iA 0),(iA 0),(A.imm [] true),(A.imm [] true),(A.imm [] true)]]) ?_)
 refine .st (len_imm (e:=49) (h1:=by kernel_rfl) ..) ?_
 refine .as (T27_27_0 C n h17 false a1 ((a1.length:Int)) 0 ([]) ([]) ([]) 0 ([]) ([]) ([]) 0 0 ([]) ([]) ([]) _ _ _ _ ?_ ?_ _ 0 a0)
 ·intro y24 y25 y26 y27 y28 y29 y30 y31 y32 y33 y34 y35 y36 y37 y38 y39 y40 y41 y42 y43 y44 y45 y46 y47 y48 y49 y50 y51 y52 y53 y54 y55 y56 y57 y58 y59 y60 y61 y62 y63 y64 y65 y66 y67 j68 j69 j70 j71
  refine .un rfl ?_
  refine .s (A.agg [(iA y38),(A.imm (List.map c_S_Lease y39) false),(A.imm (List.map c_S_Call y40) false),(A.imm (List.map cB y41) false),(iA y42),(A.imm (List.map c_S_Lease y43) false),(A.imm (List.map c_S_Call y44) false),(A.imm (List.map cB y45) false),(iA y46),(iA y47),(A.imm (List.map c_S_Lease y48) false),(A.imm (List.map c_S_Call y49) false),(A.imm (List.map c_S_Call y50) false)]) ?_
  exact .lv (by show snapE _ (A.tup [(A.agg [(iA y38),(A.imm (List.map c_S_Lease y39) false),(A.imm (List.map c_S_Call y40) false),(A.imm (List.map cB y41) false),(iA y42),(A.imm (List.map c_S_Lease y43) false),(A.imm (List.map c_S_Call y44) false),(A.imm (List.map cB y45) false),(iA y46),(iA y47),(A.imm (List.map c_S_Lease y48) false),(A.imm (List.map c_S_Call y49) false),(A.imm (List.map c_S_Call y50) false)]),(bA y24)])=_; first | (simp only[sn0,snM,snapE]; done) | (simp only[sn0,snS,snapE]; first | done | rfl))
 ·intro y72 y73 y74 y75 y76 y77 y78 y79 y80 y81 y82 y83 y84 j85 j86 j87 j88
  refine .un rfl ?_
  refine .cT (by kernel_rfl) ?_
  refine .s (A.agg [(iA y72),(A.imm (List.map c_S_Lease y73) false),(A.imm (List.map c_S_Call y74) false),(A.imm (List.map cB y75) false),(iA y76),(A.imm (List.map c_S_Lease y77) false),(A.imm (List.map c_S_Call y78) false),(A.imm (List.map cB y79) false),(iA y80),(iA y81),(A.imm (List.map c_S_Lease y82) false),(A.imm (List.map c_S_Call y83) false),(A.imm (List.map c_S_Call y84) false)]) (.s [Blk.box [(iA y72),(A.imm (List.map c_S_Lease y73) false),(A.imm (List.map c_S_Call y74) false),(A.imm (List.map cB y75) false),(iA y76),(A.imm (List.map c_S_Lease y77) false),(A.imm (List.map c_S_Call y78) false),(A.imm (List.map cB y79) false),(iA y80),(iA y81),(A.imm (List.map c_S_Lease y82) false),(A.imm (List.map c_S_Call y83) false),(A.imm (List.map c_S_Call y84) false)],Blk.box [(iA y72),(A.imm (List.map c_S_Lease y73) false),(A.imm (List.map c_S_Call y74) false),(A.imm (List.map cB y75) false),(iA y76),(A.imm (List.map c_S_Lease y77) false),(A.imm (List.map c_S_Call y78) false),(A.imm (List.map cB y79) false),(iA y80),(iA y81),(A.imm (List.map c_S_Lease y82) false),(A.imm (List.map c_S_Call y83) false),(A.imm (List.map c_S_Call y84) false)]] (.s (A.agg [(iA y72),(A.imm (List.map c_S_Lease y73) false),(A.imm (List.map c_S_Call y74) false),(A.imm (List.map cB y75) false),(iA y76),(A.imm (List.map c_S_Lease y77) false),(A.imm (List.map c_S_Call y78) false),(A.imm (List.map cB y79) false),(iA y80),(iA y81),(A.imm (List.map c_S_Lease y82) false),(A.imm (List.map c_S_Call y83) false),(A.imm (List.map c_S_Call y84) false)]) ?_))
  exact .lv (by show snapE _ (A.tup [(A.agg [(iA y72),(A.imm (List.map c_S_Lease y73) false),(A.imm (List.map c_S_Call y74) false),(A.imm (List.map cB y75) false),(iA y76),(A.imm (List.map c_S_Lease y77) false),(A.imm (List.map c_S_Call y78) false),(A.imm (List.map cB y79) false),(iA y80),(iA y81),(A.imm (List.map c_S_Lease y82) false),(A.imm (List.map c_S_Call y83) false),(A.imm (List.map c_S_Call y84) false)]),(bA true)])=_; first | (simp only[sn0,snM,snapE]; done) | (simp only[sn0,snS,snapE]; first | done | rfl))
def G27 (a0:S_Pair) (a1:(List S_Deed)):Option (S_Pair×Bool):=F27 fuel0 a0 a1
def Orc27 (C:Nat->List A->Option A):Prop:=∀ (a0:S_Pair) (a1:(List S_Deed)),C 27 [(A.agg (c_S_Pair a0)),(A.imm (List.map c_S_Deed a1) false)]=(G27 a0 a1).map fun y=>(A.tup [(A.agg [(iA y.1.Desks.1.Self),(A.imm (List.map c_S_Lease y.1.Desks.1.Leases) false),(A.imm (List.map c_S_Call y.1.Desks.1.Calls) false),(A.imm (List.map cB y.1.Desks.1.Order) false),(iA y.1.Desks.2.Self),(A.imm (List.map c_S_Lease y.1.Desks.2.Leases) false),(A.imm (List.map c_S_Call y.1.Desks.2.Calls) false),(A.imm (List.map cB y.1.Desks.2.Order) false),(iA y.1.Synced.1),(iA y.1.Synced.2),(A.imm (List.map c_S_Lease y.1.Told) false),(A.imm (List.map c_S_Call y.1.Spoken.1) false),(A.imm (List.map c_S_Call y.1.Spoken.2) false)]),(bA y.2)])
def F19_19_0 (n:Nat) (v2:(List S_Lease)) (v3:(List S_Lease)) (v4:Bool):Nat->Int->Option ((Bool)⊕(Unit))
 | 0,_=>none
 | m+1,v5=>bif (decide (v5<((v2.length:Int)))) then ((getI v2 v5).bind fun y7=>(getI v3 v5).bind fun y8=>bif (!((y7.No==y8.No)&&((y7.Holder==y8.Holder)&&(y7.Until==y8.Until)))) then (some ((Sum.inl false))) else (F19_19_0 n v2 v3 v4 m (wr .i64 (v5+1)))) else (some ((Sum.inr (()))))
theorem T19_19_0 (C:Nat->List A->Option A) (n:Nat) (v2:(List S_Lease)) (v3:(List S_Lease)) (v4:Bool) {ρ γ:Type} {φ:ρ->γ->Prop} {kL:R->Option ρ} {K:((Bool)⊕(Unit))->Option γ} (kx kg:Nat->St->Option R) (kr:St->Option R) (kp:A->St->Option R) (x0:∀ (o0:Bool) (s0:A) (s1:A) (s5:A),J φ (kr (St.mk [(0,s0),(1,s1),(4,(bA o0)),(5,s5)] [])) kL (K (Sum.inl o0)) some) (x1:∀ (s0:A) (s1:A) (s4:A) (s5:A),J φ (kx 0 (St.mk [(0,s0),(1,s1),(4,s4),(5,s5)] [])) kL (K (Sum.inr (()))) some) :
  ∀ (m:Nat) (v5:Int),J φ (loopR (cx C) (ec C n 8) (ey C n 8) (n+8) 19 0 0 0 kx kg kr kp m (St.mk [(0,(A.imm (List.map c_S_Lease v2) false)),(1,(A.imm (List.map c_S_Lease v3) false)),(4,(bA v4)),(5,(iA v5))] [])) kL (F19_19_0 n v2 v3 v4 m v5) K:=by
 intro m
 induction m with
 | zero=>intros; exact .nn
 | succ m ih =>
  intro v5
  refine .lp (e19_0 ..) ?_
  unfold F19_19_0
  refine .st (len_imm (e:=59) (h1:=by kernel_rfl) ..) ?_
  refine .st (aBin_lss ..) ?_
  refine .biHN (fun hk6=>?_) (fun hk6=>?_)
  ·refine .bd (g:=fun (y:S_Lease)=>A.ip (c_S_Lease y)) (idx_imm (e:=59) (es:=3) (h1:=by kernel_rfl) (h2:=by kernel_rfl) (h3:=fun _=>rfl) ..) fun y7=>?_
   refine .s (A.agg (c_S_Lease y7)) ?_
   refine .bd (g:=fun (y:S_Lease)=>A.ip (c_S_Lease y)) (idx_imm (e:=59) (es:=3) (h1:=by kernel_rfl) (h2:=by kernel_rfl) (h3:=fun _=>rfl) ..) fun y8=>?_
   refine .s (A.agg (c_S_Lease y8)) (.s (bA (!((y7.No==y8.No)&&((y7.Holder==y8.Holder)&&(y7.Until==y8.Until))))) ?_)
   refine .biHN (fun hk9=>?_) (fun hk9=>?_)
   ·exact .ex (x0 _ _ _ _)
   refine .st (aBin_add ..) ?_
   refine .s [] ?_
   refine .cT (by kernel_rfl) ?_
   exact ih _
  exact .ex (x1 _ _ _ _)
def F19 (n:Nat) (a0:(List S_Lease)) (a1:(List S_Lease)):Option Bool :=
 bif (((a0.length:Int)) != ((a1.length:Int))) then (some false) else ((F19_19_0 n a0 a1 false (n+8) 0).bind fun o10=>match o10 with | (Sum.inl y11)=>some y11 | (Sum.inr _)=>some true)
theorem T19 (C:Nat->List A->Option A) (n:Nat) (a0:(List S_Lease)) (a1:(List S_Lease)):J (fun (o:R) y=>∃ v,o.1=.ret v/\snapE o.2 v=(bA y)) (evCall1 (cx C) (ec C n 8) (ey C n 8) (n+8) 19 [(A.imm (List.map c_S_Lease a0) false),(A.imm (List.map c_S_Lease a1) false)] [] 0) some (F19 n a0 a1) some:=by
 refine .lp (e19 ..) ?_
 unfold F19
 refine .st (len_imm (e:=59) (h1:=by kernel_rfl) ..) ?_
 refine .st (len_imm (e:=59) (h1:=by kernel_rfl) ..) ?_
 refine .st (aBin_neq ..) ?_
 refine .biHN (fun hk1=>?_) (fun hk1=>?_)
 ·exact .lv rfl
 refine .as (T19_19_0 C n  a0 a1 false _ _ _ _ ?_ ?_ _ 0)
 ·intro y11 j12 j13 j14
  refine .un rfl ?_
  exact .lv rfl
 ·intro j15 j16 j17 j18
  refine .un rfl ?_
  refine .cT (by kernel_rfl) ?_
  exact .lv rfl
def G19 (a0:(List S_Lease)) (a1:(List S_Lease)):Option Bool:=F19 fuel0 a0 a1
def Orc19 (C:Nat->List A->Option A):Prop:=∀ (a0:(List S_Lease)) (a1:(List S_Lease)),C 19 [(A.imm (List.map c_S_Lease a0) false),(A.imm (List.map c_S_Lease a1) false)]=(G19 a0 a1).map fun y=>(bA y)
def F21_21_0 (n:Nat) (v2:(List S_Call)) (v3:(List S_Call)) (v4:Bool):Nat->Int->Option ((Bool)⊕(Unit))
 | 0,_=>none
 | m+1,v5=>bif (decide (v5<((v2.length:Int)))) then ((getI v2 v5).bind fun y7=>(getI v3 v5).bind fun y8=>bif (!((y7.Bar==y8.Bar)&&(y7.Program==y8.Program))) then (some ((Sum.inl false))) else (F21_21_0 n v2 v3 v4 m (wr .i64 (v5+1)))) else (some ((Sum.inr (()))))
theorem T21_21_0 (C:Nat->List A->Option A) (n:Nat) (v2:(List S_Call)) (v3:(List S_Call)) (v4:Bool) {ρ γ:Type} {φ:ρ->γ->Prop} {kL:R->Option ρ} {K:((Bool)⊕(Unit))->Option γ} (kx kg:Nat->St->Option R) (kr:St->Option R) (kp:A->St->Option R) (x0:∀ (o0:Bool) (s0:A) (s1:A) (s5:A),J φ (kr (St.mk [(0,s0),(1,s1),(4,(bA o0)),(5,s5)] [])) kL (K (Sum.inl o0)) some) (x1:∀ (s0:A) (s1:A) (s4:A) (s5:A),J φ (kx 0 (St.mk [(0,s0),(1,s1),(4,s4),(5,s5)] [])) kL (K (Sum.inr (()))) some) :
  ∀ (m:Nat) (v5:Int),J φ (loopR (cx C) (ec C n 8) (ey C n 8) (n+8) 21 0 0 0 kx kg kr kp m (St.mk [(0,(A.imm (List.map c_S_Call v2) false)),(1,(A.imm (List.map c_S_Call v3) false)),(4,(bA v4)),(5,(iA v5))] [])) kL (F21_21_0 n v2 v3 v4 m v5) K:=by
 intro m
 induction m with
 | zero=>intros; exact .nn
 | succ m ih =>
  intro v5
  refine .lp (e21_0 ..) ?_
  unfold F21_21_0
  refine .st (len_imm (e:=62) (h1:=by kernel_rfl) ..) ?_
  refine .st (aBin_lss ..) ?_
  refine .biHN (fun hk6=>?_) (fun hk6=>?_)
  ·refine .bd (g:=fun (y:S_Call)=>A.ip (c_S_Call y)) (idx_imm (e:=62) (es:=2) (h1:=by kernel_rfl) (h2:=by kernel_rfl) (h3:=fun _=>rfl) ..) fun y7=>?_
   refine .s (A.agg [(iA y7.Bar),(iA y7.Program)]) ?_
   refine .bd (g:=fun (y:S_Call)=>A.ip (c_S_Call y)) (idx_imm (e:=62) (es:=2) (h1:=by kernel_rfl) (h2:=by kernel_rfl) (h3:=fun _=>rfl) ..) fun y8=>?_
   refine .s (A.agg [(iA y8.Bar),(iA y8.Program)]) (.s (bA (!((y7.Bar==y8.Bar)&&(y7.Program==y8.Program)))) ?_)
   refine .biHN (fun hk9=>?_) (fun hk9=>?_)
   ·exact .ex (x0 _ _ _ _)
   refine .st (aBin_add ..) ?_
   refine .s [] ?_
   refine .cT (by kernel_rfl) ?_
   exact ih _
  exact .ex (x1 _ _ _ _)
def F21 (n:Nat) (a0:(List S_Call)) (a1:(List S_Call)):Option Bool :=
 bif (((a0.length:Int)) != ((a1.length:Int))) then (some false) else ((F21_21_0 n a0 a1 false (n+8) 0).bind fun o10=>match o10 with | (Sum.inl y11)=>some y11 | (Sum.inr _)=>some true)
theorem T21 (C:Nat->List A->Option A) (n:Nat) (a0:(List S_Call)) (a1:(List S_Call)):J (fun (o:R) y=>∃ v,o.1=.ret v/\snapE o.2 v=(bA y)) (evCall1 (cx C) (ec C n 8) (ey C n 8) (n+8) 21 [(A.imm (List.map c_S_Call a0) false),(A.imm (List.map c_S_Call a1) false)] [] 0) some (F21 n a0 a1) some:=by
 refine .lp (e21 ..) ?_
 unfold F21
 refine .st (len_imm (e:=62) (h1:=by kernel_rfl) ..) ?_
 refine .st (len_imm (e:=62) (h1:=by kernel_rfl) ..) ?_
 refine .st (aBin_neq ..) ?_
 refine .biHN (fun hk1=>?_) (fun hk1=>?_)
 ·exact .lv rfl
 refine .as (T21_21_0 C n  a0 a1 false _ _ _ _ ?_ ?_ _ 0)
 ·intro y11 j12 j13 j14
  refine .un rfl ?_
  exact .lv rfl
 ·intro j15 j16 j17 j18
  refine .un rfl ?_
  refine .cT (by kernel_rfl) ?_
  exact .lv rfl
def G21 (a0:(List S_Call)) (a1:(List S_Call)):Option Bool:=F21 fuel0 a0 a1
def Orc21 (C:Nat->List A->Option A):Prop:=∀ (a0:(List S_Call)) (a1:(List S_Call)),C 21 [(A.imm (List.map c_S_Call a0) false),(A.imm (List.map c_S_Call a1) false)]=(G21 a0 a1).map fun y=>(bA y)
def F14_14_0 (n:Nat) (v29:Bool) (v31:S_Replica) (v32:S_Replica):Nat->Int->Option ((Bool)⊕(Unit))
 | 0,_=>none
 | m+1,v30=>bif (decide (v30<((v31.Order.length:Int)))) then ((getI v31.Order v30).bind fun y34=>(getI v32.Order v30).bind fun y35=>bif (y34 != y35) then (some ((Sum.inl false))) else (F14_14_0 n v29 v31 v32 m (wr .i64 (v30+1)))) else (some ((Sum.inr (()))))
theorem T14_14_0 (C:Nat->List A->Option A) (n:Nat) (h19:Orc19 C) (h21:Orc21 C) (v29:Bool) (v31:S_Replica) (v32:S_Replica) {ρ γ:Type} {φ:ρ->γ->Prop} {kL:R->Option ρ} {K:((Bool)⊕(Unit))->Option γ} (kx kg:Nat->St->Option R) (kr:St->Option R) (kp:A->St->Option R) (x0:∀ (o0:Bool) (s2:A) (s3:A) (s5:A),J φ (kr (St.mk [(2,s2),(3,s3),(4,(bA o0)),(5,s5)] [Blk.box (c_S_Replica v31),Blk.box (c_S_Replica v32)])) kL (K (Sum.inl o0)) some) (x1:∀ (s2:A) (s3:A) (s4:A) (s5:A),J φ (kx 0 (St.mk [(2,s2),(3,s3),(4,s4),(5,s5)] [Blk.box (c_S_Replica v31),Blk.box (c_S_Replica v32)])) kL (K (Sum.inr (()))) some) :
  ∀ (m:Nat) (v30:Int),J φ (loopR (cx C) (ec C n 8) (ey C n 8) (n+8) 14 0 0 2 kx kg kr kp m (St.mk [(2,(A.ptr 0 0)),(3,(A.ptr 1 0)),(4,(bA v29)),(5,(iA v30))] [Blk.box (c_S_Replica v31),Blk.box (c_S_Replica v32)])) kL (F14_14_0 n v29 v31 v32 m v30) K:=by
 intro m
 induction m with
 | zero=>intros; exact .nn
 | succ m ih =>
  intro v30
  refine .lp (e14_0 ..) ?_
  unfold F14_14_0
  refine .s (A.ptr 0 3) (.s (A.imm (List.map cB v31.Order) false) ?_)
  refine .st (len_imm (e:=4) (h1:=by kernel_rfl) ..) ?_
  refine .st (aBin_lss ..) ?_
  refine .biHN (fun hk33=>?_) (fun hk33=>?_)
  ·refine .s (A.ptr 0 3) (.s (A.imm (List.map cB v31.Order) false) ?_)
   refine .bd (g:=fun (y:Bool)=>A.ip (cB y)) (idx_imm (e:=4) (es:=1) (h1:=by kernel_rfl) (h2:=by kernel_rfl) (h3:=fun _=>rfl) ..) fun y34=>?_
   refine .s (bA y34) (.s (A.ptr 1 3) (.s (A.imm (List.map cB v32.Order) false) ?_))
   refine .bd (g:=fun (y:Bool)=>A.ip (cB y)) (idx_imm (e:=4) (es:=1) (h1:=by kernel_rfl) (h2:=by kernel_rfl) (h3:=fun _=>rfl) ..) fun y35=>?_
   refine .s (bA y35) (.s (bA (y34 != y35)) ?_)
   refine .biHN (fun hk36=>?_) (fun hk36=>?_)
   ·exact .ex (x0 _ _ _ _)
   refine .st (aBin_add ..) ?_
   refine .s [Blk.box (c_S_Replica v31),Blk.box (c_S_Replica v32)] ?_
   refine .cT (by kernel_rfl) ?_
   exact ih _
  exact .ex (x1 _ _ _ _)
def F14 (n:Nat) (a0:S_Replica) (a1:S_Replica):Option Bool :=
 (bif (a0.Self != a1.Self) then (some true) else ((G19 a0.Leases a1.Leases).bind fun y2=>some (!y2))).bind fun y3=>(bif y3 then (some true) else ((G21 a0.Calls a1.Calls).bind fun y11=>some (!y11))).bind fun y12=>(bif y12 then (some true) else (some (((a0.Order.length:Int)) != ((a1.Order.length:Int))))).bind fun y20=>bif y20 then (some false) else ((F14_14_0 n false a0 a1 (n+8) 0).bind fun o37=>match o37 with | (Sum.inl y38)=>some y38 | (Sum.inr _)=>some true)
theorem T14 (C:Nat->List A->Option A) (n:Nat) (h19:Orc19 C) (h21:Orc21 C) (a0:S_Replica) (a1:S_Replica):J (fun (o:R) y=>∃ v,o.1=.ret v/\snapE o.2 v=(bA y)) (evCall1 (cx C) (ec C n 8) (ey C n 8) (n+8) 14 [(A.agg (c_S_Replica a0)),(A.agg (c_S_Replica a1))] [] 0) some (F14 n a0 a1) some:=by
 refine .lp (e14 ..) ?_
 unfold F14
 refine .s ((A.ptr 0 0),[Blk.box (c_S_Replica a0)]) (.s ((A.ptr 1 0),[Blk.box (c_S_Replica a0),Blk.box (c_S_Replica a1)]) (.s (A.ptr 0 0) (.s (iA a0.Self) (.s (A.ptr 1 0) (.s (iA a1.Self) ?_)))))
 refine .st (aBin_neq ..) ?_
 refine .bg (fun t (y:Bool)=>∃ j4 j5 j6 j7 j8 j9:A,t=[(bA y),j4,j5,j6,j7,j8,j9]) ?_ ?_
 ·refine .biH (fun hk1=>?_) (fun hk1=>?_)
  ·exact .lg ⟨_,_,_,_,_,_,rfl⟩
  refine .s (A.ptr 0 1) (.s (A.imm (List.map c_S_Lease a0.Leases) false) (.s (A.ptr 1 1) (.s (A.imm (List.map c_S_Lease a1.Leases) false) ?_)))
  refine .bd (g:=fun (y:Bool)=>(bA y)) (by show C 19 [snap _ (A.imm (List.map c_S_Lease a0.Leases) false),snap _ (A.imm (List.map c_S_Lease a1.Leases) false)]=_; simp only[sn0,snM]; exact h19 a0.Leases a1.Leases) fun y2=>?_
  refine .s (bA (!y2)) ?_
  exact .lg ⟨_,_,_,_,_,_,rfl⟩
 rintro _ y3 ⟨j4,j5,j6,j7,j8,j9,rfl⟩
 iterate 7 refine .uc ?_
 refine .bg (fun t (y:Bool)=>∃ j13 j14 j15 j16 j17 j18:A,t=[(bA y),j13,j14,j15,j16,j17,j18]) ?_ ?_
 ·refine .biH (fun hk10=>?_) (fun hk10=>?_)
  ·exact .lg ⟨_,_,_,_,_,_,rfl⟩
  refine .s (A.ptr 0 2) (.s (A.imm (List.map c_S_Call a0.Calls) false) (.s (A.ptr 1 2) (.s (A.imm (List.map c_S_Call a1.Calls) false) ?_)))
  refine .bd (g:=fun (y:Bool)=>(bA y)) (by show C 21 [snap _ (A.imm (List.map c_S_Call a0.Calls) false),snap _ (A.imm (List.map c_S_Call a1.Calls) false)]=_; simp only[sn0,snM]; exact h21 a0.Calls a1.Calls) fun y11=>?_
  refine .s (bA (!y11)) ?_
  exact .lg ⟨_,_,_,_,_,_,rfl⟩
 rintro _ y12 ⟨j13,j14,j15,j16,j17,j18,rfl⟩
 iterate 7 refine .uc ?_
 refine .bg (fun t (y:Bool)=>∃ j21 j22 j23 j24 j25 j26 j27:A,t=[(bA y),j21,j22,j23,j24,j25,j26,j27]) ?_ ?_
 ·refine .biH (fun hk19=>?_) (fun hk19=>?_)
  ·exact .lg ⟨_,_,_,_,_,_,_,rfl⟩
  refine .s (A.ptr 0 3) (.s (A.imm (List.map cB a0.Order) false) ?_)
  refine .st (len_imm (e:=4) (h1:=by kernel_rfl) ..) ?_
  refine .s (A.ptr 1 3) (.s (A.imm (List.map cB a1.Order) false) ?_)
  refine .st (len_imm (e:=4) (h1:=by kernel_rfl) ..) ?_
  refine .st (aBin_neq ..) ?_
  exact .lg ⟨_,_,_,_,_,_,_,rfl⟩
 rintro _ y20 ⟨j21,j22,j23,j24,j25,j26,j27,rfl⟩
 iterate 8 refine .uc ?_
 refine .biHN (fun hk28=>?_) (fun hk28=>?_)
 ·exact .lv rfl
 refine .as (T14_14_0 C n h19 h21 false a0 a1 _ _ _ _ ?_ ?_ _ 0)
 ·intro y38 j39 j40 j41
  refine .un rfl ?_
  exact .lv rfl
 ·intro j42 j43 j44 j45
  refine .un rfl ?_
  refine .cT (by kernel_rfl) ?_
  exact .lv rfl
def G14 (a0:S_Replica) (a1:S_Replica):Option Bool:=F14 fuel0 a0 a1
def Orc14 (C:Nat->List A->Option A):Prop:=∀ (a0:S_Replica) (a1:S_Replica),C 14 [(A.agg (c_S_Replica a0)),(A.agg (c_S_Replica a1))]=(G14 a0 a1).map fun y=>(bA y)
def OrcS91 (C:Nat->List A->Option A) (self:S_Value->Option (Int×Bool)):Prop:=∀ (a0:S_Value),C 91 [(A.agg [(iA a0.Kind),(iA a0.N),(A.v (Value.string a0.S)),(A.imm (List.map c_S_Value a0.L) false)])]=(self a0).map fun y=>(A.tup [(iA y.1),(bA y.2)])
def F91_91_0 (self:S_Value->Option (Int×Bool)) (n:Nat) (v37:Bool) (v38:(List S_Value)) (v39:Int) (v41:S_Value) (v42:Bool) (v43:Bool) (v44:Bool) (v45:Bool):Nat->Int->Int->Option ((Int×Bool×Int×Int×ByteArray×(List S_Value))⊕(Int))
 | 0,_,_=>none
 | m+1,v36,v40=>bif (decide (v40<v39)) then ((getI v38 v40).bind fun y47=>(self y47).bind fun y48=>bif (!y48.2) then (some ((Sum.inl ((0,false,y47.Kind,y47.N,y47.S,y47.L))))) else (F91_91_0 self n v37 v38 v39 v41 v42 v43 v44 v45 m ((if v36<y48.1 then y48.1 else v36)) (wr .i64 (v40+1)))) else (some ((Sum.inr v36)))
theorem T91_91_0 (C:Nat->List A->Option A) (n:Nat) (self:S_Value->Option (Int×Bool)) (hS:OrcS91 C self) (v37:Bool) (v38:(List S_Value)) (v39:Int) (v41:S_Value) (v42:Bool) (v43:Bool) (v44:Bool) (v45:Bool) {ρ γ:Type} {φ:ρ->γ->Prop} {kL:R->Option ρ} {K:((Int×Bool×Int×Int×ByteArray×(List S_Value))⊕(Int))->Option γ} (kx kg:Nat->St->Option R) (kr:St->Option R) (kp:A->St->Option R) (x0:∀ (o0:Int) (o1:Bool) (o2:Int) (o3:Int) (o4:ByteArray) (o5:(List S_Value)) (s55:A) (s56:A) (s57:A),J φ (kr (St.mk [(2,(iA o0)),(3,(bA o1)),(55,s55),(56,s56),(57,s57)] [(hk32_1 v41),Blk.box [(bA v42),(bA v43),(bA v44),(bA v45)],Blk.box [(iA o2),(iA o3),(A.v (Value.string o4)),(A.imm (List.map c_S_Value o5) false)]])) kL (K (Sum.inl ((o0,o1,o2,o3,o4,o5)))) some) (x1:∀ (o0:Int) (s3:A) (s55:A) (s56:A) (s57:A),J φ (kx 0 (St.mk [(2,(iA o0)),(3,s3),(55,s55),(56,s56),(57,s57)] [(hk32_1 v41),Blk.box [(bA v42),(bA v43),(bA v44),(bA v45)]])) kL (K (Sum.inr o0)) some) :
  ∀ (m:Nat) (v36:Int) (v40:Int),J φ (loopR (cx C) (ec C n 8) (ey C n 8) (n+8) 91 0 0 2 kx kg kr kp m (St.mk [(2,(iA v36)),(3,(bA v37)),(55,(A.imm (List.map c_S_Value v38) false)),(56,(iA v39)),(57,(iA v40))] [(hk32_1 v41),Blk.box [(bA v42),(bA v43),(bA v44),(bA v45)]])) kL (F91_91_0 self n v37 v38 v39 v41 v42 v43 v44 v45 m v36 v40) K:=by
 intro m
 induction m with
 | zero=>intros; exact .nn
 | succ m ih =>
  intro v36 v40
  refine .lp (e91_0 ..) ?_
  unfold F91_91_0
  refine .st (aBin_lss ..) ?_
  refine .biHN (fun hk46=>?_) (fun hk46=>?_)
  ·refine .bd (g:=fun (y:S_Value)=>(A.ip [(iA y.Kind),(iA y.N),(A.v (Value.string y.S)),(A.imm (List.map c_S_Value y.L) false)])) ((idx_imm (e:=98) (es:=4) (h1:=by kernel_rfl) (h2:=by kernel_rfl) (h3:=fun _=>rfl) ..).trans (ci_S_Value _)) fun y47=>?_
   refine .s (A.agg [(iA y47.Kind),(iA y47.N),(A.v (Value.string y47.S)),(A.imm (List.map c_S_Value y47.L) false)]) (.sq (A.ptr 2 0) (.s [(hk32_1 v41),Blk.box [(bA v42),(bA v43),(bA v44),(bA v45)],Blk.box [(iA y47.Kind),(iA y47.N),(A.v (Value.string y47.S)),(A.imm (List.map c_S_Value y47.L) false)]] (.s (A.agg [(iA y47.Kind),(iA y47.N),(A.v (Value.string y47.S)),(A.imm (List.map c_S_Value y47.L) false)]) ?_)))
   refine .bd (g:=fun (y:(Int×Bool))=>(A.tup [(iA y.1),(bA y.2)])) (by show C 91 [snap _ (A.agg [(iA y47.Kind),(iA y47.N),(A.v (Value.string y47.S)),(A.imm (List.map c_S_Value y47.L) false)])]=_; simp only[sn0,snM]; exact hS y47) fun y48=>?_
   refine .s (iA y48.1) (.s (bA y48.2) (.s (bA (!y48.2)) ?_))
   refine .biHN (fun hk49=>?_) (fun hk49=>?_)
   ·exact .ex (x0 _ _ _ _ _ _ _ _ _)
   refine .s (iA ((if v36<y48.1 then y48.1 else v36))) ?_
   refine .st (aBin_add ..) ?_
   refine .st (v:=[(hk32_1 v41),Blk.box [(bA v42),(bA v43),(bA v44),(bA v45)]]) ((by kernel_rfl:_=(bif ((((underss 2 (List.map c_S_Value v41.L))&&true))&&true) then some [(hk32_1 v41),Blk.box [(bA v42),(bA v43),(bA v44),(bA v45)]] else none)).trans (by simp only[un0,unS])) ?_
   refine .cT ((by kernel_rfl:_=(bif underss 2 (List.map c_S_Value v38) then true else false)).trans (by simp only[un0,unS])) ?_
   exact ih _ _
  exact .ex (x1 _ _ _ _ _)
def F91 (self:S_Value->Option (Int×Bool)) (n:Nat) (a0:S_Value):Option (Int×Bool) :=
 (bif (strEq a0.S ((ByteArray.mk #[]))) then (some (((a0.L.length:Int))==0)) else (some false)).bind fun y2=>(bif (a0.N==0) then (some (((a0.L.length:Int))==0)) else (some false)).bind fun y8=>(bif (a0.N==0) then (some (strEq a0.S ((ByteArray.mk #[])))) else (some false)).bind fun y14=>(bif (decide (a0.Kind<1)) then (some true) else (some (decide (3<a0.Kind)))).bind fun y19=>(bif y19 then (some true) else (bif decide (a0.Kind=0) then (some true) else bif decide (a0.Kind=1) then (some (!y2)) else bif decide (a0.Kind=2) then (some (!y8)) else bif decide (a0.Kind=3) then (some (!y14)) else none)).bind fun y28=>bif y28 then (some ((0,false))) else (bif (decide (a0.Kind<3)) then (some ((0,true))) else ((F91_91_0 self n false a0.L ((a0.L.length:Int)) a0 false y2 y8 y14 (n+8) 0 0).bind fun o50=>match o50 with | (Sum.inl ((y51,y52,y53,y54,y55,y56)))=>some ((y51,y52)) | (Sum.inr y60)=>some ((wr .i64 (y60+1),true))))
theorem T91 (C:Nat->List A->Option A) (n:Nat) (self:S_Value->Option (Int×Bool)) (hS:OrcS91 C self) (a0:S_Value):J (fun (o:R) y=>∃ v,o.1=.ret v/\snapE o.2 v=(A.tup [(iA y.1),(bA y.2)])) (evCall1 (cx C) (ec C n 8) (ey C n 8) (n+8) 91 [(A.agg [(iA a0.Kind),(iA a0.N),(A.v (Value.string a0.S)),(A.imm (List.map c_S_Value a0.L) false)])] [] 0) some (F91 self n a0) some:=by
 refine .lp (e91 ..) ?_
 unfold F91
 refine .s ((A.ptr 0 0),[Blk.box [(iA a0.Kind),(iA a0.N),(A.v (Value.string a0.S)),(A.imm (List.map c_S_Value a0.L) false)]]) (.s (A.ptr 0 2) (.s (A.v (Value.string a0.S)) ?_))
 refine .st (aBin_eql_s ..) ?_
 refine .bg (fun t (y:Bool)=>∃ j3 j4 j5 j6:A,t=[(bA y),j3,j4,j5,j6]) ?_ ?_
 ·refine .biH (fun hk1=>?_) (fun hk1=>?_)
  ·refine .s (A.ptr 0 3) (.s (A.imm (List.map c_S_Value a0.L) false) ?_)
   refine .st (len_imm (e:=98) (h1:=by kernel_rfl) ..) ?_
   refine .st (aBin_eql ..) ?_
   exact .lg ⟨_,_,_,_,rfl⟩
  exact .lg ⟨_,_,_,_,rfl⟩
 rintro _ y2 ⟨j3,j4,j5,j6,rfl⟩
 iterate 5 refine .uc ?_
 refine .s (A.ptr 0 1) (.s (iA a0.N) ?_)
 refine .st (aBin_eql ..) ?_
 refine .bg (fun t (y:Bool)=>∃ j9 j10 j11 j12:A,t=[(bA y),j9,j10,j11,j12]) ?_ ?_
 ·refine .biH (fun hk7=>?_) (fun hk7=>?_)
  ·refine .s (A.ptr 0 3) (.s (A.imm (List.map c_S_Value a0.L) false) ?_)
   refine .st (len_imm (e:=98) (h1:=by kernel_rfl) ..) ?_
   refine .st (aBin_eql ..) ?_
   exact .lg ⟨_,_,_,_,rfl⟩
  exact .lg ⟨_,_,_,_,rfl⟩
 rintro _ y8 ⟨j9,j10,j11,j12,rfl⟩
 iterate 5 refine .uc ?_
 refine .s (A.ptr 0 1) (.s (iA a0.N) ?_)
 refine .st (aBin_eql ..) ?_
 refine .bg (fun t (y:Bool)=>∃ j15 j16 j17:A,t=[(bA y),j15,j16,j17]) ?_ ?_
 ·refine .biH (fun hk13=>?_) (fun hk13=>?_)
  ·refine .s (A.ptr 0 2) (.s (A.v (Value.string a0.S)) ?_)
   refine .st (aBin_eql_s ..) ?_
   exact .lg ⟨_,_,_,rfl⟩
  exact .lg ⟨_,_,_,rfl⟩
 rintro _ y14 ⟨j15,j16,j17,rfl⟩
 iterate 4 refine .uc ?_
 refine .s (A.agg [(bA false),(bA y2),(bA y8),(bA y14)]) (.sq (A.ptr 1 0) (.s [Blk.box [(iA a0.Kind),(iA a0.N),(A.v (Value.string a0.S)),(A.imm (List.map c_S_Value a0.L) false)],Blk.box [(bA false),(bA y2),(bA y8),(bA y14)]] (.s (A.ptr 0 0) (.s (iA a0.Kind) ?_))))
 refine .st (aBin_lss ..) ?_
 refine .bg (fun t (y:Bool)=>∃ j20 j21 j22:A,t=[(bA y),j20,j21,j22]) ?_ ?_
 ·refine .biH (fun hk18=>?_) (fun hk18=>?_)
  ·exact .lg ⟨_,_,_,rfl⟩
  refine .s (A.ptr 0 0) (.s (iA a0.Kind) ?_)
  refine .st (aBin_gtr ..) ?_
  exact .lg ⟨_,_,_,rfl⟩
 rintro _ y19 ⟨j20,j21,j22,rfl⟩
 iterate 4 refine .uc ?_
 refine .bg (fun t (y:Bool)=>∃ j29 j30 j31 j32 j33:A,t=[(bA y),j29,j30,j31,j32,j33]) ?_ ?_
 ·refine .biH (fun hk23=>?_) (fun hk23=>?_)
  ·exact .lg ⟨_,_,_,_,_,rfl⟩
  refine .s (A.ptr 0 0) (.s (iA a0.Kind) ?_)
  refine .sp (fun hb24=>?_) (fun _=>?_)
  ·refine .st (v:=(A.ptr 1 0)) (by rw[of_decide_eq_true hb24]; kernel_rfl) ?_
   refine .s (bA false) (.s (bA true) ?_)
   exact .lg ⟨_,_,_,_,_,rfl⟩
  refine .sp (fun hb25=>?_) (fun _=>?_)
  ·refine .st (v:=(A.ptr 1 1)) (by rw[of_decide_eq_true hb25]; kernel_rfl) ?_
   refine .s (bA y2) (.s (bA (!y2)) ?_)
   exact .lg ⟨_,_,_,_,_,rfl⟩
  refine .sp (fun hb26=>?_) (fun _=>?_)
  ·refine .st (v:=(A.ptr 1 2)) (by rw[of_decide_eq_true hb26]; kernel_rfl) ?_
   refine .s (bA y8) (.s (bA (!y8)) ?_)
   exact .lg ⟨_,_,_,_,_,rfl⟩
  refine .sp (fun hb27=>?_) (fun _=>?_)
  ·refine .st (v:=(A.ptr 1 3)) (by rw[of_decide_eq_true hb27]; kernel_rfl) ?_
   refine .s (bA y14) (.s (bA (!y14)) ?_)
   exact .lg ⟨_,_,_,_,_,rfl⟩
  exact .nn
 rintro _ y28 ⟨j29,j30,j31,j32,j33,rfl⟩
 iterate 6 refine .uc ?_
 refine .biHN (fun hk34=>?_) (fun hk34=>?_)
 ·exact .lv rfl
 refine .s (A.ptr 0 0) (.s (iA a0.Kind) ?_)
 refine .st (aBin_lss ..) ?_
 refine .biHN (fun hk35=>?_) (fun hk35=>?_)
 ·exact .lv rfl
 refine .s (A.ptr 0 3) (.s (A.imm (List.map c_S_Value a0.L) false) ?_)
 refine .st (len_imm (e:=98) (h1:=by kernel_rfl) ..) ?_
 refine .as (T91_91_0 C n  self hS false a0.L ((a0.L.length:Int)) a0 false y2 y8 y14 _ _ _ _ ?_ ?_ _ 0 0)
 ·intro y51 y52 y53 y54 y55 y56 j57 j58 j59
  refine .un rfl ?_
  exact .lv rfl
 ·intro y60 j61 j62 j63 j64
  refine .un rfl ?_
  refine .cT (by kernel_rfl) ?_
  refine .st (aBin_add ..) ?_
  exact .lv rfl
def R91:Nat->S_Value->Option (Int×Bool)
 | 0=>fun _=>none
 | q+1=>fun a0=>F91 (R91 q) fuel0 a0
def G91 (a0:S_Value):Option (Int×Bool):=R91 fuel0 a0
def Orc91 (C:Nat->List A->Option A):Prop:=∀ (a0:S_Value),C 91 [(A.agg [(iA a0.Kind),(iA a0.N),(A.v (Value.string a0.S)),(A.imm (List.map c_S_Value a0.L) false)])]=(G91 a0).map fun y=>(A.tup [(iA y.1),(bA y.2)])
def F76 (n:Nat) (a0:S_Value):Option Int :=
 (G91 a0).bind fun y1=>bif (!y1.2) then (some 1) else (bif (decide (16<y1.1)) then (some 2) else (some 0))
theorem T76 (C:Nat->List A->Option A) (n:Nat) (h91:Orc91 C) (a0:S_Value):J (fun (o:R) y=>∃ v,o.1=.ret v/\snapE o.2 v=(iA y)) (evCall1 (cx C) (ec C n 8) (ey C n 8) (n+8) 76 [(A.agg [(iA a0.Kind),(iA a0.N),(A.v (Value.string a0.S)),(A.imm (List.map c_S_Value a0.L) false)])] [] 0) some (F76 n a0) some:=by
 refine .lp (e76 ..) ?_
 unfold F76
 refine .s ((A.ptr 0 0),[Blk.box [(iA a0.Kind),(iA a0.N),(A.v (Value.string a0.S)),(A.imm (List.map c_S_Value a0.L) false)]]) (.s (A.agg [(iA a0.Kind),(iA a0.N),(A.v (Value.string a0.S)),(A.imm (List.map c_S_Value a0.L) false)]) ?_)
 refine .bd (g:=fun (y:(Int×Bool))=>(A.tup [(iA y.1),(bA y.2)])) (by show C 91 [snap _ (A.agg [(iA a0.Kind),(iA a0.N),(A.v (Value.string a0.S)),(A.imm (List.map c_S_Value a0.L) false)])]=_; simp only[sn0,snM]; exact h91 a0) fun y1=>?_
 refine .s (iA y1.1) (.s (bA y1.2) (.s (bA (!y1.2)) ?_))
 refine .biHN (fun hk2=>?_) (fun hk2=>?_)
 ·exact .lv rfl
 refine .st (aBin_gtr ..) ?_
 refine .biHN (fun hk3=>?_) (fun hk3=>?_)
 ·exact .lv rfl
 exact .lv rfl
def G76 (a0:S_Value):Option Int:=F76 fuel0 a0
def Orc76 (C:Nat->List A->Option A):Prop:=∀ (a0:S_Value),C 76 [(A.agg [(iA a0.Kind),(iA a0.N),(A.v (Value.string a0.S)),(A.imm (List.map c_S_Value a0.L) false)])]=(G76 a0).map fun y=>(iA y)
def F94 (n:Nat) (a0:Int):Option Int :=
 some (xorI .u64 (shlI .u64 (wr .u64 (a0)) 1) (wr .u64 (shrI .i64 a0 63)))
theorem T94 (C:Nat->List A->Option A) (n:Nat) (a0:Int):J (fun (o:R) y=>∃ v,o.1=.ret v/\snapE o.2 v=(A.v (.int .u64 y))) (evCall1 (cx C) (ec C n 8) (ey C n 8) (n+8) 94 [(iA a0)] [] 0) some (F94 n a0) some:=by
 refine .lp (e94 ..) ?_
 unfold F94
 refine .st (v:=(A.v (.int .u64 (wr .u64 (a0))))) (aConvert_int (hs:=by kernel_rfl) (hd:=by kernel_rfl) ..) ?_
 refine .st (aBin_shl (hb:=by decide) ..) ?_
 refine .st (aBin_shr (hb:=by decide) ..) ?_
 refine .st (v:=(A.v (.int .u64 (wr .u64 (shrI .i64 a0 63))))) (aConvert_int (hs:=by kernel_rfl) (hd:=by kernel_rfl) ..) ?_
 refine .st (aBin_bits_xor ..) ?_
 exact .lv rfl
def G94 (a0:Int):Option Int:=F94 fuel0 a0
def Orc94 (C:Nat->List A->Option A):Prop:=∀ (a0:Int),C 94 [(iA a0)]=(G94 a0).map fun y=>(A.v (.int .u64 y))
def hk96w_1:Blk:=Blk.box [(A.v Value.nilFunc),(A.fn (Fn.func 92) [] []),(A.fn (Fn.func 95) [] []),(A.fn (Fn.func 96) [] [(A.ptr 2 0)])]
def hk96w_2 (v22:S_Value):Blk:=Blk.box [(iA v22.Kind),(iA v22.N),(A.v (Value.string v22.S)),(A.imm (List.map c_S_Value v22.L) false)]
def hk96w_3 (v19:S_Value):Blk:=Blk.box [(iA v19.Kind),(iA v19.N),(A.v (Value.string v19.S)),(A.imm (List.map c_S_Value v19.L) false)]
def hk96w_4 (v20:S_Value):Blk:=Blk.box [(iA v20.Kind),(iA v20.N),(A.v (Value.string v20.S)),(A.imm (List.map c_S_Value v20.L) false)]
def hk96w_5 (y24:S_Value):Blk:=Blk.box [(iA y24.Kind),(iA y24.N),(A.v (Value.string y24.S)),(A.imm (List.map c_S_Value y24.L) false)]
def hk96w_6 (a0:S_Value):Blk:=Blk.box [(iA a0.Kind),(iA a0.N),(A.v (Value.string a0.S)),(A.imm (List.map c_S_Value a0.L) false)]
def hk96w_7 (a1:S_Value):Blk:=Blk.box [(iA a1.Kind),(iA a1.N),(A.v (Value.string a1.S)),(A.imm (List.map c_S_Value a1.L) false)]
def HS96 (C:Nat->List A->Option A) (N:Nat) (self:S_Value->S_Value->(List UInt8)->S_Value->Option (List UInt8)):Prop:=∀ (a0:S_Value) (a1:S_Value) (a2:(List UInt8)) (a3:S_Value) (X:Heap),J (fun (o:R) (y:(List UInt8))=>o=(Out.ret (A.sl 4 0 y.length false),[(hk96w_6 a0),hk96w_1,Blk.box [(A.ptr 1 0)],(hk96w_7 a1),Blk.row false 1 (List.map c8 y)]++X)) (evCall (cx C) N 96 [(A.sl 4 0 a2.length false),(A.agg [(iA a3.Kind),(iA a3.N),(A.v (Value.string a3.S)),(A.imm (List.map c_S_Value a3.L) false)]),(A.ptr 2 0)] ([(hk96w_6 a0),hk96w_1,Blk.box [(A.ptr 1 0)],(hk96w_7 a1),Blk.row false 1 (List.map c8 a2)]++X) 0) some (self a0 a1 a2 a3) some
def F96w_93_0 (self:S_Value->S_Value->(List UInt8)->S_Value->Option (List UInt8)) (n:Nat) (v3:(List UInt8)) (v4:S_Value) (v5:S_Value) (v7:S_Value):Nat->Int->(List UInt8)->Option (Int×(List UInt8))
 | 0,_,_=>none
 | m+1,v2,v6=>bif (decide (128<=v2)) then (bif (decide (0<=(orI .u8 (wr .u8 (v2)) 128))&&decide ((orI .u8 (wr .u8 (v2)) 128)<256)) then ((appI 1 v6 ([(UInt8.ofNat (Int.toNat (orI .u8 (wr .u8 (v2)) 128)))])).bind fun y9=>F96w_93_0 self n v3 v4 v5 v7 m (shrI .u64 v2 7) y9) else none) else (some ((v2,v6)))
theorem T96w_93_0 (C:Nat->List A->Option A) (n:Nat) (h94:Orc94 C) (self:S_Value->S_Value->(List UInt8)->S_Value->Option (List UInt8)) (hS:HS96 C (n+8) self) (v3:(List UInt8)) (v4:S_Value) (v5:S_Value) (v7:S_Value) {ρ γ:Type} {φ:ρ->γ->Prop} {kL:R->Option ρ} {K:(Int×(List UInt8))->Option γ} (kx kg:Nat->St->Option R) (kr:St->Option R) (kp:A->St->Option R) (x0:∀ (o0:Int) (o1:(List UInt8)) (s4:A),J φ (kx 0 (St.mk [(0,(A.sl 4 0 o1.length false)),(1,(A.v (.int .u64 o0))),(4,s4)] [Blk.box [(iA v4.Kind),(iA v4.N),(A.v (Value.string v4.S)),(A.imm (List.map c_S_Value v4.L) false)],hk96w_1,Blk.box [(A.ptr 1 0)],Blk.box [(iA v5.Kind),(iA v5.N),(A.v (Value.string v5.S)),(A.imm (List.map c_S_Value v5.L) false)],Blk.row false 1 (List.map c8 o1),Blk.box [(iA v7.Kind),(iA v7.N),(A.v (Value.string v7.S)),(A.imm (List.map c_S_Value v7.L) false)]])) kL (K (o0,o1)) some) :
  ∀ (m:Nat) (v2:Int) (v6:(List UInt8)),J φ (loopR (cx C) (ec C n 7) (ey C n 7) (n+7) 93 0 0 6 kx kg kr kp m (St.mk [(0,(A.sl 4 0 v6.length false)),(1,(A.v (.int .u64 v2))),(4,(A.imm (List.map c8 v3) true))] [Blk.box [(iA v4.Kind),(iA v4.N),(A.v (Value.string v4.S)),(A.imm (List.map c_S_Value v4.L) false)],hk96w_1,Blk.box [(A.ptr 1 0)],Blk.box [(iA v5.Kind),(iA v5.N),(A.v (Value.string v5.S)),(A.imm (List.map c_S_Value v5.L) false)],Blk.row false 1 (List.map c8 v6),Blk.box [(iA v7.Kind),(iA v7.N),(A.v (Value.string v7.S)),(A.imm (List.map c_S_Value v7.L) false)]])) kL (F96w_93_0 self n v3 v4 v5 v7 m v2 v6) K:=by
 intro m
 induction m with
 | zero=>intros; exact .nn
 | succ m ih =>
  intro v2 v6
  refine .lp (e93_0 ..) ?_
  unfold F96w_93_0
  refine .st (aBin_geq ..) ?_
  refine .biHN (fun hk8=>?_) (fun hk8=>?_)
  ·refine .st (v:=(uA (wr .u8 (v2)))) (aConvert_int (hs:=by kernel_rfl) (hd:=by kernel_rfl) ..) ?_
   refine .st (aBin_bits_or ..) ?_
   refine .gd fun hg=>?_
   refine .st (v:=(A.imm [[(uA (((UInt8.ofNat (Int.toNat (orI .u8 (wr .u8 (v2)) 128))).toNat:Int)))]] true)) (by rw[u8_back hg]; kernel_rfl) ?_
   refine .bd (g:=fun (y:List UInt8)=>((A.sl 4 0 y.length false),[Blk.box [(iA v4.Kind),(iA v4.N),(A.v (Value.string v4.S)),(A.imm (List.map c_S_Value v4.L) false)],hk96w_1,Blk.box [(A.ptr 1 0)],Blk.box [(iA v5.Kind),(iA v5.N),(A.v (Value.string v5.S)),(A.imm (List.map c_S_Value v5.L) false)],Blk.row false 1 (List.map c8 y),Blk.box [(iA v7.Kind),(iA v7.N),(A.v (Value.string v7.S)),(A.imm (List.map c_S_Value v7.L) false)]])) (app_row (e:=5) (es:=1) (by_:=1) (z:=[(uA 0)]) (by kernel_rfl) (by kernel_rfl) (by kernel_rfl) (by kernel_rfl) rfl (by decide) (by decide) (by kernel_rfl) (f:=c8) (fun _=>rfl) ce_c8 (l:=v6) (l2:=[(UInt8.ofNat (Int.toNat (orI .u8 (wr .u8 (v2)) 128)))]) (b:=4) rfl (by decide) (els_imm (f:=c8) ([(UInt8.ofNat (Int.toNat (orI .u8 (wr .u8 (v2)) 128)))]:List UInt8) _ _)) fun y9=>?_
   refine .st (aBin_shr (hb:=by decide) ..) ?_
   refine .s [Blk.box [(iA v4.Kind),(iA v4.N),(A.v (Value.string v4.S)),(A.imm (List.map c_S_Value v4.L) false)],hk96w_1,Blk.box [(A.ptr 1 0)],Blk.box [(iA v5.Kind),(iA v5.N),(A.v (Value.string v5.S)),(A.imm (List.map c_S_Value v5.L) false)],Blk.row false 1 (List.map c8 y9),Blk.box [(iA v7.Kind),(iA v7.N),(A.v (Value.string v7.S)),(A.imm (List.map c_S_Value v7.L) false)]] ?_
   refine .cT (by kernel_rfl) ?_
   exact ih _ _
  exact .ex (x0 _ _ _)
def F96w_93_0a (self:S_Value->S_Value->(List UInt8)->S_Value->Option (List UInt8)) (n:Nat) (v30:(List UInt8)) (v31:S_Value) (v32:S_Value) (v34:S_Value) (v35:S_Value) (v36:S_Value):Nat->Int->(List UInt8)->Option (Int×(List UInt8))
 | 0,_,_=>none
 | m+1,v29,v33=>bif (decide (128<=v29)) then (bif (decide (0<=(orI .u8 (wr .u8 (v29)) 128))&&decide ((orI .u8 (wr .u8 (v29)) 128)<256)) then ((appI 1 v33 ([(UInt8.ofNat (Int.toNat (orI .u8 (wr .u8 (v29)) 128)))])).bind fun y38=>F96w_93_0a self n v30 v31 v32 v34 v35 v36 m (shrI .u64 v29 7) y38) else none) else (some ((v29,v33)))
theorem T96w_93_0a (C:Nat->List A->Option A) (n:Nat) (h94:Orc94 C) (self:S_Value->S_Value->(List UInt8)->S_Value->Option (List UInt8)) (hS:HS96 C (n+8) self) (v30:(List UInt8)) (v31:S_Value) (v32:S_Value) (v34:S_Value) (v35:S_Value) (v36:S_Value) {ρ γ:Type} {φ:ρ->γ->Prop} {kL:R->Option ρ} {K:(Int×(List UInt8))->Option γ} (kx kg:Nat->St->Option R) (kr:St->Option R) (kp:A->St->Option R) (x0:∀ (o0:Int) (o1:(List UInt8)) (s4:A),J φ (kx 0 (St.mk [(0,(A.sl 4 0 o1.length false)),(1,(A.v (.int .u64 o0))),(4,s4)] [Blk.box [(iA v31.Kind),(iA v31.N),(A.v (Value.string v31.S)),(A.imm (List.map c_S_Value v31.L) false)],hk96w_1,Blk.box [(A.ptr 1 0)],Blk.box [(iA v32.Kind),(iA v32.N),(A.v (Value.string v32.S)),(A.imm (List.map c_S_Value v32.L) false)],Blk.row false 1 (List.map c8 o1),Blk.box [(iA v34.Kind),(iA v34.N),(A.v (Value.string v34.S)),(A.imm (List.map c_S_Value v34.L) false)],Blk.box [(iA v35.Kind),(iA v35.N),(A.v (Value.string v35.S)),(A.imm (List.map c_S_Value v35.L) false)],Blk.box [(iA v36.Kind),(iA v36.N),(A.v (Value.string v36.S)),(A.imm (List.map c_S_Value v36.L) false)]])) kL (K (o0,o1)) some) :
  ∀ (m:Nat) (v29:Int) (v33:(List UInt8)),J φ (loopR (cx C) (evCall (cx C) (n+6)) (evCallY (cx C) (n+6)) (n+6) 93 0 0 8 kx kg kr kp m (St.mk [(0,(A.sl 4 0 v33.length false)),(1,(A.v (.int .u64 v29))),(4,(A.imm (List.map c8 v30) true))] [Blk.box [(iA v31.Kind),(iA v31.N),(A.v (Value.string v31.S)),(A.imm (List.map c_S_Value v31.L) false)],hk96w_1,Blk.box [(A.ptr 1 0)],Blk.box [(iA v32.Kind),(iA v32.N),(A.v (Value.string v32.S)),(A.imm (List.map c_S_Value v32.L) false)],Blk.row false 1 (List.map c8 v33),Blk.box [(iA v34.Kind),(iA v34.N),(A.v (Value.string v34.S)),(A.imm (List.map c_S_Value v34.L) false)],Blk.box [(iA v35.Kind),(iA v35.N),(A.v (Value.string v35.S)),(A.imm (List.map c_S_Value v35.L) false)],Blk.box [(iA v36.Kind),(iA v36.N),(A.v (Value.string v36.S)),(A.imm (List.map c_S_Value v36.L) false)]])) kL (F96w_93_0a self n v30 v31 v32 v34 v35 v36 m v29 v33) K:=by
 intro m
 induction m with
 | zero=>intros; exact .nn
 | succ m ih =>
  intro v29 v33
  refine .lp (e93_0 ..) ?_
  unfold F96w_93_0a
  refine .st (aBin_geq ..) ?_
  refine .biHN (fun hk37=>?_) (fun hk37=>?_)
  ·refine .st (v:=(uA (wr .u8 (v29)))) (aConvert_int (hs:=by kernel_rfl) (hd:=by kernel_rfl) ..) ?_
   refine .st (aBin_bits_or ..) ?_
   refine .gd fun hg=>?_
   refine .st (v:=(A.imm [[(uA (((UInt8.ofNat (Int.toNat (orI .u8 (wr .u8 (v29)) 128))).toNat:Int)))]] true)) (by rw[u8_back hg]; kernel_rfl) ?_
   refine .bd (g:=fun (y:List UInt8)=>((A.sl 4 0 y.length false),[Blk.box [(iA v31.Kind),(iA v31.N),(A.v (Value.string v31.S)),(A.imm (List.map c_S_Value v31.L) false)],hk96w_1,Blk.box [(A.ptr 1 0)],Blk.box [(iA v32.Kind),(iA v32.N),(A.v (Value.string v32.S)),(A.imm (List.map c_S_Value v32.L) false)],Blk.row false 1 (List.map c8 y),Blk.box [(iA v34.Kind),(iA v34.N),(A.v (Value.string v34.S)),(A.imm (List.map c_S_Value v34.L) false)],Blk.box [(iA v35.Kind),(iA v35.N),(A.v (Value.string v35.S)),(A.imm (List.map c_S_Value v35.L) false)],Blk.box [(iA v36.Kind),(iA v36.N),(A.v (Value.string v36.S)),(A.imm (List.map c_S_Value v36.L) false)]])) (app_row (e:=5) (es:=1) (by_:=1) (z:=[(uA 0)]) (by kernel_rfl) (by kernel_rfl) (by kernel_rfl) (by kernel_rfl) rfl (by decide) (by decide) (by kernel_rfl) (f:=c8) (fun _=>rfl) ce_c8 (l:=v33) (l2:=[(UInt8.ofNat (Int.toNat (orI .u8 (wr .u8 (v29)) 128)))]) (b:=4) rfl (by decide) (els_imm (f:=c8) ([(UInt8.ofNat (Int.toNat (orI .u8 (wr .u8 (v29)) 128)))]:List UInt8) _ _)) fun y38=>?_
   refine .st (aBin_shr (hb:=by decide) ..) ?_
   refine .s [Blk.box [(iA v31.Kind),(iA v31.N),(A.v (Value.string v31.S)),(A.imm (List.map c_S_Value v31.L) false)],hk96w_1,Blk.box [(A.ptr 1 0)],Blk.box [(iA v32.Kind),(iA v32.N),(A.v (Value.string v32.S)),(A.imm (List.map c_S_Value v32.L) false)],Blk.row false 1 (List.map c8 y38),Blk.box [(iA v34.Kind),(iA v34.N),(A.v (Value.string v34.S)),(A.imm (List.map c_S_Value v34.L) false)],Blk.box [(iA v35.Kind),(iA v35.N),(A.v (Value.string v35.S)),(A.imm (List.map c_S_Value v35.L) false)],Blk.box [(iA v36.Kind),(iA v36.N),(A.v (Value.string v36.S)),(A.imm (List.map c_S_Value v36.L) false)]] ?_
   refine .cT (by kernel_rfl) ?_
   exact ih _ _
  exact .ex (x0 _ _ _)
def F96w_93_0b (self:S_Value->S_Value->(List UInt8)->S_Value->Option (List UInt8)) (n:Nat) (v47:(List UInt8)) (v48:S_Value) (v49:S_Value) (v51:S_Value) (v52:S_Value):Nat->Int->(List UInt8)->Option (Int×(List UInt8))
 | 0,_,_=>none
 | m+1,v46,v50=>bif (decide (128<=v46)) then (bif (decide (0<=(orI .u8 (wr .u8 (v46)) 128))&&decide ((orI .u8 (wr .u8 (v46)) 128)<256)) then ((appI 1 v50 ([(UInt8.ofNat (Int.toNat (orI .u8 (wr .u8 (v46)) 128)))])).bind fun y54=>F96w_93_0b self n v47 v48 v49 v51 v52 m (shrI .u64 v46 7) y54) else none) else (some ((v46,v50)))
theorem T96w_93_0b (C:Nat->List A->Option A) (n:Nat) (h94:Orc94 C) (self:S_Value->S_Value->(List UInt8)->S_Value->Option (List UInt8)) (hS:HS96 C (n+8) self) (v47:(List UInt8)) (v48:S_Value) (v49:S_Value) (v51:S_Value) (v52:S_Value) {ρ γ:Type} {φ:ρ->γ->Prop} {kL:R->Option ρ} {K:(Int×(List UInt8))->Option γ} (kx kg:Nat->St->Option R) (kr:St->Option R) (kp:A->St->Option R) (x0:∀ (o0:Int) (o1:(List UInt8)) (s4:A),J φ (kx 0 (St.mk [(0,(A.sl 4 0 o1.length false)),(1,(A.v (.int .u64 o0))),(4,s4)] [Blk.box [(iA v48.Kind),(iA v48.N),(A.v (Value.string v48.S)),(A.imm (List.map c_S_Value v48.L) false)],hk96w_1,Blk.box [(A.ptr 1 0)],Blk.box [(iA v49.Kind),(iA v49.N),(A.v (Value.string v49.S)),(A.imm (List.map c_S_Value v49.L) false)],Blk.row false 1 (List.map c8 o1),Blk.box [(iA v51.Kind),(iA v51.N),(A.v (Value.string v51.S)),(A.imm (List.map c_S_Value v51.L) false)],Blk.box [(iA v52.Kind),(iA v52.N),(A.v (Value.string v52.S)),(A.imm (List.map c_S_Value v52.L) false)],Blk.dead])) kL (K (o0,o1)) some) :
  ∀ (m:Nat) (v46:Int) (v50:(List UInt8)),J φ (loopR (cx C) (evCall (cx C) (n+6)) (evCallY (cx C) (n+6)) (n+6) 93 0 0 8 kx kg kr kp m (St.mk [(0,(A.sl 4 0 v50.length false)),(1,(A.v (.int .u64 v46))),(4,(A.imm (List.map c8 v47) true))] [Blk.box [(iA v48.Kind),(iA v48.N),(A.v (Value.string v48.S)),(A.imm (List.map c_S_Value v48.L) false)],hk96w_1,Blk.box [(A.ptr 1 0)],Blk.box [(iA v49.Kind),(iA v49.N),(A.v (Value.string v49.S)),(A.imm (List.map c_S_Value v49.L) false)],Blk.row false 1 (List.map c8 v50),Blk.box [(iA v51.Kind),(iA v51.N),(A.v (Value.string v51.S)),(A.imm (List.map c_S_Value v51.L) false)],Blk.box [(iA v52.Kind),(iA v52.N),(A.v (Value.string v52.S)),(A.imm (List.map c_S_Value v52.L) false)],Blk.dead])) kL (F96w_93_0b self n v47 v48 v49 v51 v52 m v46 v50) K:=by
 intro m
 induction m with
 | zero=>intros; exact .nn
 | succ m ih =>
  intro v46 v50
  refine .lp (e93_0 ..) ?_
  unfold F96w_93_0b
  refine .st (aBin_geq ..) ?_
  refine .biHN (fun hk53=>?_) (fun hk53=>?_)
  ·refine .st (v:=(uA (wr .u8 (v46)))) (aConvert_int (hs:=by kernel_rfl) (hd:=by kernel_rfl) ..) ?_
   refine .st (aBin_bits_or ..) ?_
   refine .gd fun hg=>?_
   refine .st (v:=(A.imm [[(uA (((UInt8.ofNat (Int.toNat (orI .u8 (wr .u8 (v46)) 128))).toNat:Int)))]] true)) (by rw[u8_back hg]; kernel_rfl) ?_
   refine .bd (g:=fun (y:List UInt8)=>((A.sl 4 0 y.length false),[Blk.box [(iA v48.Kind),(iA v48.N),(A.v (Value.string v48.S)),(A.imm (List.map c_S_Value v48.L) false)],hk96w_1,Blk.box [(A.ptr 1 0)],Blk.box [(iA v49.Kind),(iA v49.N),(A.v (Value.string v49.S)),(A.imm (List.map c_S_Value v49.L) false)],Blk.row false 1 (List.map c8 y),Blk.box [(iA v51.Kind),(iA v51.N),(A.v (Value.string v51.S)),(A.imm (List.map c_S_Value v51.L) false)],Blk.box [(iA v52.Kind),(iA v52.N),(A.v (Value.string v52.S)),(A.imm (List.map c_S_Value v52.L) false)],Blk.dead])) (app_row (e:=5) (es:=1) (by_:=1) (z:=[(uA 0)]) (by kernel_rfl) (by kernel_rfl) (by kernel_rfl) (by kernel_rfl) rfl (by decide) (by decide) (by kernel_rfl) (f:=c8) (fun _=>rfl) ce_c8 (l:=v50) (l2:=[(UInt8.ofNat (Int.toNat (orI .u8 (wr .u8 (v46)) 128)))]) (b:=4) rfl (by decide) (els_imm (f:=c8) ([(UInt8.ofNat (Int.toNat (orI .u8 (wr .u8 (v46)) 128)))]:List UInt8) _ _)) fun y54=>?_
   refine .st (aBin_shr (hb:=by decide) ..) ?_
   refine .s [Blk.box [(iA v48.Kind),(iA v48.N),(A.v (Value.string v48.S)),(A.imm (List.map c_S_Value v48.L) false)],hk96w_1,Blk.box [(A.ptr 1 0)],Blk.box [(iA v49.Kind),(iA v49.N),(A.v (Value.string v49.S)),(A.imm (List.map c_S_Value v49.L) false)],Blk.row false 1 (List.map c8 y54),Blk.box [(iA v51.Kind),(iA v51.N),(A.v (Value.string v51.S)),(A.imm (List.map c_S_Value v51.L) false)],Blk.box [(iA v52.Kind),(iA v52.N),(A.v (Value.string v52.S)),(A.imm (List.map c_S_Value v52.L) false)],Blk.dead] ?_
   refine .cT (by kernel_rfl) ?_
   exact ih _ _
  exact .ex (x0 _ _ _)
def F96w_96_0 (self:S_Value->S_Value->(List UInt8)->S_Value->Option (List UInt8)) (n:Nat) (v15:(List UInt8)) (v16:(List S_Value)) (v17:Int) (v19:S_Value) (v20:S_Value) (v22:S_Value):Nat->Int->(List UInt8)->Option ((List UInt8))
 | 0,_,_=>none
 | m+1,v18,v21=>bif (decide (v18<v17)) then ((getI v16 v18).bind fun y24=>bif decide (y24.Kind=0) then (none) else bif decide (y24.Kind=1) then ((appI 1 v21 ([(1:UInt8)])).bind fun y27=>(G94 y24.N).bind fun y28=>(F96w_93_0a self n ([]) v19 v20 v22 y24 y24 (n+6) y28 y27).bind fun o39=>match o39 with | (y40,y41)=>bif (decide (0<=(wr .u8 (y40)))&&decide ((wr .u8 (y40))<256)) then ((appI 1 y41 ([(UInt8.ofNat (Int.toNat (wr .u8 (y40))))])).bind fun y43=>F96w_96_0 self n v15 v16 v17 v19 v20 v22 m (wr .i64 (v18+1)) y43) else none) else bif decide (y24.Kind=2) then ((appI 1 v21 ([(2:UInt8)])).bind fun y45=>(F96w_93_0b self n ([]) v19 v20 v22 y24 (n+6) (wr .u64 ((y24.S.size:Int))) y45).bind fun o55=>match o55 with | (y56,y57)=>bif (decide (0<=(wr .u8 (y56)))&&decide ((wr .u8 (y56))<256)) then ((appI 1 y57 ([(UInt8.ofNat (Int.toNat (wr .u8 (y56))))])).bind fun y59=>(appI 1 y59 (bstrL y24.S)).bind fun y60=>F96w_96_0 self n v15 v16 v17 v19 v20 v22 m (wr .i64 (v18+1)) y60) else none) else bif decide (y24.Kind=3) then ((self v19 v20 v21 y24).bind fun y62=>F96w_96_0 self n v15 v16 v17 v19 v20 v22 m (wr .i64 (v18+1)) y62) else none) else (some v21)
theorem T96w_96_0 (C:Nat->List A->Option A) (n:Nat) (h94:Orc94 C) (self:S_Value->S_Value->(List UInt8)->S_Value->Option (List UInt8)) (hS:HS96 C (n+8) self) (v15:(List UInt8)) (v16:(List S_Value)) (v17:Int) (v19:S_Value) (v20:S_Value) (v22:S_Value) {ρ γ:Type} {φ:ρ->γ->Prop} {kL:R->Option ρ} {K:((List UInt8))->Option γ} (kx kg:Nat->St->Option R) (kr:St->Option R) (kp:A->St->Option R) (x0:∀ (o0:(List UInt8)) (s2:A) (s5:A) (s17:A) (s18:A) (s19:A),J φ (kx 0 (St.mk [(0,(A.sl 4 0 o0.length false)),(2,s2),(5,s5),(17,s17),(18,s18),(19,s19)] [(hk96w_3 v19),hk96w_1,Blk.box [(A.ptr 1 0)],(hk96w_4 v20),Blk.row false 1 (List.map c8 o0),(hk96w_2 v22)])) kL (K o0) some) :
  ∀ (m:Nat) (v18:Int) (v21:(List UInt8)),J φ (loopR (cx C) (ec C n 8) (ey C n 8) (n+8) 96 0 0 6 kx kg kr kp m (St.mk [(0,(A.sl 4 0 v21.length false)),(2,(A.ptr 2 0)),(5,(A.imm (List.map c8 v15) true)),(17,(A.imm (List.map c_S_Value v16) false)),(18,(iA v17)),(19,(iA v18))] [(hk96w_3 v19),hk96w_1,Blk.box [(A.ptr 1 0)],(hk96w_4 v20),Blk.row false 1 (List.map c8 v21),(hk96w_2 v22)])) kL (F96w_96_0 self n v15 v16 v17 v19 v20 v22 m v18 v21) K:=by
 intro m
 induction m with
 | zero=>intros; exact .nn
 | succ m ih =>
  intro v18 v21
  refine .lp (e96_0 ..) ?_
  unfold F96w_96_0
  refine .st (aBin_lss ..) ?_
  refine .biHN (fun hk23=>?_) (fun hk23=>?_)
  ·refine .bd (g:=fun (y:S_Value)=>(A.ip [(iA y.Kind),(iA y.N),(A.v (Value.string y.S)),(A.imm (List.map c_S_Value y.L) false)])) ((idx_imm (e:=98) (es:=4) (h1:=by kernel_rfl) (h2:=by kernel_rfl) (h3:=fun _=>rfl) ..).trans (ci_S_Value _)) fun y24=>?_
   refine .s (A.agg [(iA y24.Kind),(iA y24.N),(A.v (Value.string y24.S)),(A.imm (List.map c_S_Value y24.L) false)]) (.sq (A.ptr 6 0) (.s [(hk96w_3 v19),hk96w_1,Blk.box [(A.ptr 1 0)],(hk96w_4 v20),Blk.row false 1 (List.map c8 v21),(hk96w_2 v22),(hk96w_5 y24)] (.s (A.ptr 1 0) (.s (A.ptr 6 0) (.s (iA y24.Kind) (.s (A.ptr 1 0) ?_))))))
   refine .sp (fun hb25=>?_) (fun _=>?_)
   ·refine .st (v:=(A.ptr 1 0)) (by rw[of_decide_eq_true hb25]; kernel_rfl) ?_
    refine .s (A.ptr 1 0) (.s (A.v Value.nilFunc) (.s (A.agg [(iA y24.Kind),(iA y24.N),(A.v (Value.string y24.S)),(A.imm (List.map c_S_Value y24.L) false)]) ?_))
    exact .nn
   refine .sp (fun hb26=>?_) (fun _=>?_)
   ·refine .st (v:=(A.ptr 1 1)) (by rw[of_decide_eq_true hb26]; kernel_rfl) ?_
    refine .s (A.ptr 1 1) (.s (A.fn (Fn.func 92) [] []) (.s (A.agg [(iA y24.Kind),(iA y24.N),(A.v (Value.string y24.S)),(A.imm (List.map c_S_Value y24.L) false)]) ?_))
    refine .dC (by kernel_rfl) (by kernel_rfl) ?_
    refine .cl ((evCall_in lt_92).trans (e92 C (ec C n 7) (ey C n 7) (n+7) _ _ _ _)) ?_
    refine .s ((A.ptr 7 0),[(hk96w_3 v19),hk96w_1,Blk.box [(A.ptr 1 0)],(hk96w_4 v20),Blk.row false 1 (List.map c8 v21),(hk96w_2 v22),(hk96w_5 y24),(hk96w_5 y24)]) (.s (A.imm [[(uA 1)]] true) ?_)
    refine .bd (g:=fun (y:List UInt8)=>((A.sl 4 0 y.length false),[(hk96w_3 v19),hk96w_1,Blk.box [(A.ptr 1 0)],(hk96w_4 v20),Blk.row false 1 (List.map c8 y),(hk96w_2 v22),(hk96w_5 y24),(hk96w_5 y24)])) (app_row (e:=5) (es:=1) (by_:=1) (z:=[(uA 0)]) (by kernel_rfl) (by kernel_rfl) (by kernel_rfl) (by kernel_rfl) rfl (by decide) (by decide) (by kernel_rfl) (f:=c8) (fun _=>rfl) ce_c8 (l:=v21) (l2:=[(1:UInt8)]) (b:=4) rfl (by decide) (els_imm (f:=c8) ([(1:UInt8)]:List UInt8) _ _)) fun y27=>?_
    refine .cT (by kernel_rfl) ?_
    refine .s (A.ptr 7 1) ?_
    refine .cT (by kernel_rfl) ?_
    refine .s (iA y24.N) ?_
    refine .bd (g:=fun (y:Int)=>(A.v (.int .u64 y))) (h94 y24.N) fun y28=>?_
    refine .cl ((evCall_in lt_93).trans (e93 C (evCall (cx C) (n+6)) (evCallY (cx C) (n+6)) (n+6) _ _ _ _)) ?_
    refine .as (T96w_93_0a C n h94 self hS ([]) v19 v20 v22 y24 y24 _ _ _ _ ?_ _ y28 y27)
    ·intro y40 y41 j42
     refine .un rfl ?_
     refine .cT (by kernel_rfl) ?_
     refine .st (v:=(uA (wr .u8 (y40)))) (aConvert_int (hs:=by kernel_rfl) (hd:=by kernel_rfl) ..) ?_
     refine .gd fun hg=>?_
     refine .st (v:=(A.imm [[(uA (((UInt8.ofNat (Int.toNat (wr .u8 (y40)))).toNat:Int)))]] true)) (by rw[u8_back hg]; kernel_rfl) ?_
     refine .bd (g:=fun (y:List UInt8)=>((A.sl 4 0 y.length false),[(hk96w_3 v19),hk96w_1,Blk.box [(A.ptr 1 0)],(hk96w_4 v20),Blk.row false 1 (List.map c8 y),(hk96w_2 v22),(hk96w_5 y24),(hk96w_5 y24)])) (app_row (e:=5) (es:=1) (by_:=1) (z:=[(uA 0)]) (by kernel_rfl) (by kernel_rfl) (by kernel_rfl) (by kernel_rfl) rfl (by decide) (by decide) (by kernel_rfl) (f:=c8) (fun _=>rfl) ce_c8 (l:=y41) (l2:=[(UInt8.ofNat (Int.toNat (wr .u8 (y40))))]) (b:=4) rfl (by decide) (els_imm (f:=c8) ([(UInt8.ofNat (Int.toNat (wr .u8 (y40))))]:List UInt8) _ _)) fun y43=>?_
     refine .cr ?_
     refine .ok ?_
     refine .cr ?_
     refine .ok ?_
     refine .st (aBin_add ..) ?_
     refine .st (v:=[(hk96w_3 v19),hk96w_1,Blk.box [(A.ptr 1 0)],(hk96w_4 v20),Blk.row false 1 (List.map c8 y43),(hk96w_2 v22)]) ((by kernel_rfl:_=(bif ((((underss 6 (List.map c_S_Value v19.L))&&true))&&((((underss 6 (List.map c_S_Value v20.L))&&true))&&((underss 6 (List.map c8 y43))&&((((underss 6 (List.map c_S_Value v22.L))&&true))&&true)))) then some [(hk96w_3 v19),hk96w_1,Blk.box [(A.ptr 1 0)],(hk96w_4 v20),Blk.row false 1 (List.map c8 y43),(hk96w_2 v22)] else none)).trans (by simp only[un0,unS])) ?_
     refine .cT ((by kernel_rfl:_=(bif underss 6 (List.map c8 v15) then (bif underss 6 (List.map c_S_Value v16) then true else false) else false)).trans (by simp only[un0,unS])) ?_
     exact ih _ _
   refine .sp (fun hb44=>?_) (fun _=>?_)
   ·refine .st (v:=(A.ptr 1 2)) (by rw[of_decide_eq_true hb44]; kernel_rfl) ?_
    refine .s (A.ptr 1 2) (.s (A.fn (Fn.func 95) [] []) (.s (A.agg [(iA y24.Kind),(iA y24.N),(A.v (Value.string y24.S)),(A.imm (List.map c_S_Value y24.L) false)]) ?_))
    refine .dC (by kernel_rfl) (by kernel_rfl) ?_
    refine .cl ((evCall_in lt_95).trans (e95 C (ec C n 7) (ey C n 7) (n+7) _ _ _ _)) ?_
    refine .s ((A.ptr 7 0),[(hk96w_3 v19),hk96w_1,Blk.box [(A.ptr 1 0)],(hk96w_4 v20),Blk.row false 1 (List.map c8 v21),(hk96w_2 v22),(hk96w_5 y24),(hk96w_5 y24)]) (.s ((A.ip [(iA y24.Kind),(iA y24.N),(A.v (Value.string y24.S)),(A.imm (List.map c_S_Value y24.L) false)]),[(hk96w_3 v19),hk96w_1,Blk.box [(A.ptr 1 0)],(hk96w_4 v20),Blk.row false 1 (List.map c8 v21),(hk96w_2 v22),(hk96w_5 y24),Blk.dead]) ?_)
    refine .cT (by kernel_rfl) ?_
    refine .s (A.imm [[(uA 2)]] true) (.s (A.ip [(A.v (Value.string y24.S)),(A.imm (List.map c_S_Value y24.L) false)]) (.s (A.v (Value.string y24.S)) (.s (iA ((y24.S.size:Int))) ?_)))
    refine .st (v:=(A.v (.int .u64 (wr .u64 ((y24.S.size:Int)))))) (aConvert_int (hs:=by kernel_rfl) (hd:=by kernel_rfl) ..) ?_
    refine .s (A.ip [(A.v (Value.string y24.S)),(A.imm (List.map c_S_Value y24.L) false)]) (.s (A.v (Value.string y24.S)) ?_)
    refine .cT (by kernel_rfl) ?_
    refine .bd (g:=fun (y:List UInt8)=>((A.sl 4 0 y.length false),[(hk96w_3 v19),hk96w_1,Blk.box [(A.ptr 1 0)],(hk96w_4 v20),Blk.row false 1 (List.map c8 y),(hk96w_2 v22),(hk96w_5 y24),Blk.dead])) (app_row (e:=5) (es:=1) (by_:=1) (z:=[(uA 0)]) (by kernel_rfl) (by kernel_rfl) (by kernel_rfl) (by kernel_rfl) rfl (by decide) (by decide) (by kernel_rfl) (f:=c8) (fun _=>rfl) ce_c8 (l:=v21) (l2:=[(2:UInt8)]) (b:=4) rfl (by decide) (els_imm (f:=c8) ([(2:UInt8)]:List UInt8) _ _)) fun y45=>?_
    refine .cT (by kernel_rfl) ?_
    refine .cl ((evCall_in lt_93).trans (e93 C (evCall (cx C) (n+6)) (evCallY (cx C) (n+6)) (n+6) _ _ _ _)) ?_
    refine .as (T96w_93_0b C n h94 self hS ([]) v19 v20 v22 y24 _ _ _ _ ?_ _ (wr .u64 ((y24.S.size:Int))) y45)
    ·intro y56 y57 j58
     refine .un rfl ?_
     refine .cT (by kernel_rfl) ?_
     refine .st (v:=(uA (wr .u8 (y56)))) (aConvert_int (hs:=by kernel_rfl) (hd:=by kernel_rfl) ..) ?_
     refine .gd fun hg=>?_
     refine .st (v:=(A.imm [[(uA (((UInt8.ofNat (Int.toNat (wr .u8 (y56)))).toNat:Int)))]] true)) (by rw[u8_back hg]; kernel_rfl) ?_
     refine .bd (g:=fun (y:List UInt8)=>((A.sl 4 0 y.length false),[(hk96w_3 v19),hk96w_1,Blk.box [(A.ptr 1 0)],(hk96w_4 v20),Blk.row false 1 (List.map c8 y),(hk96w_2 v22),(hk96w_5 y24),Blk.dead])) (app_row (e:=5) (es:=1) (by_:=1) (z:=[(uA 0)]) (by kernel_rfl) (by kernel_rfl) (by kernel_rfl) (by kernel_rfl) rfl (by decide) (by decide) (by kernel_rfl) (f:=c8) (fun _=>rfl) ce_c8 (l:=y57) (l2:=[(UInt8.ofNat (Int.toNat (wr .u8 (y56))))]) (b:=4) rfl (by decide) (els_imm (f:=c8) ([(UInt8.ofNat (Int.toNat (wr .u8 (y56))))]:List UInt8) _ _)) fun y59=>?_
     refine .cr ?_
     refine .ok ?_
     refine .bd (g:=fun (y:List UInt8)=>((A.sl 4 0 y.length false),[(hk96w_3 v19),hk96w_1,Blk.box [(A.ptr 1 0)],(hk96w_4 v20),Blk.row false 1 (List.map c8 y),(hk96w_2 v22),(hk96w_5 y24),Blk.dead])) (app_row (e:=5) (es:=1) (by_:=1) (z:=[(uA 0)]) (by kernel_rfl) (by kernel_rfl) (by kernel_rfl) (by kernel_rfl) rfl (by decide) (by decide) (by kernel_rfl) (f:=c8) (fun _=>rfl) ce_c8 (l:=y59) (l2:=bstrL y24.S) (b:=4) rfl (by decide) (els_str ..)) fun y60=>?_
     refine .cr ?_
     refine .ok ?_
     refine .st (aBin_add ..) ?_
     refine .st (v:=[(hk96w_3 v19),hk96w_1,Blk.box [(A.ptr 1 0)],(hk96w_4 v20),Blk.row false 1 (List.map c8 y60),(hk96w_2 v22)]) ((by kernel_rfl:_=(bif ((((underss 6 (List.map c_S_Value v19.L))&&true))&&((((underss 6 (List.map c_S_Value v20.L))&&true))&&((underss 6 (List.map c8 y60))&&((((underss 6 (List.map c_S_Value v22.L))&&true))&&true)))) then some [(hk96w_3 v19),hk96w_1,Blk.box [(A.ptr 1 0)],(hk96w_4 v20),Blk.row false 1 (List.map c8 y60),(hk96w_2 v22)] else none)).trans (by simp only[un0,unS])) ?_
     refine .cT ((by kernel_rfl:_=(bif underss 6 (List.map c8 v15) then (bif underss 6 (List.map c_S_Value v16) then true else false) else false)).trans (by simp only[un0,unS])) ?_
     exact ih _ _
   refine .sp (fun hb61=>?_) (fun _=>?_)
   ·refine .st (v:=(A.ptr 1 3)) (by rw[of_decide_eq_true hb61]; kernel_rfl) ?_
    refine .s (A.ptr 1 3) (.s (A.fn (Fn.func 96) [] [(A.ptr 2 0)]) (.s (A.agg [(iA y24.Kind),(iA y24.N),(A.v (Value.string y24.S)),(A.imm (List.map c_S_Value y24.L) false)]) ?_))
    refine .dC (by kernel_rfl) (by kernel_rfl) ?_
    refine .bg (fun (t:R) (y:(List UInt8))=>t=(Out.ret (A.sl 4 0 y.length false),[(hk96w_3 v19),hk96w_1,Blk.box [(A.ptr 1 0)],(hk96w_4 v20),Blk.row false 1 (List.map c8 y),(hk96w_2 v22),(hk96w_5 y24)])) (hS v19 v20 v21 y24 [(hk96w_2 v22),(hk96w_5 y24)]) ?_
    rintro _ y62 rfl
    refine .ok ?_
    refine .st (aBin_add ..) ?_
    refine .st (v:=[(hk96w_3 v19),hk96w_1,Blk.box [(A.ptr 1 0)],(hk96w_4 v20),Blk.row false 1 (List.map c8 y62),(hk96w_2 v22)]) ((by kernel_rfl:_=(bif ((((underss 6 (List.map c_S_Value v19.L))&&true))&&((((underss 6 (List.map c_S_Value v20.L))&&true))&&((underss 6 (List.map c8 y62))&&((((underss 6 (List.map c_S_Value v22.L))&&true))&&true)))) then some [(hk96w_3 v19),hk96w_1,Blk.box [(A.ptr 1 0)],(hk96w_4 v20),Blk.row false 1 (List.map c8 y62),(hk96w_2 v22)] else none)).trans (by simp only[un0,unS])) ?_
    refine .cT ((by kernel_rfl:_=(bif underss 6 (List.map c8 v15) then (bif underss 6 (List.map c_S_Value v16) then true else false) else false)).trans (by simp only[un0,unS])) ?_
    exact ih _ _
   exact .nn
  exact .ex (x0 _ _ _ _ _ _)
def F96w (self:S_Value->S_Value->(List UInt8)->S_Value->Option (List UInt8)) (n:Nat) (a0:S_Value) (a1:S_Value) (a2:(List UInt8)) (a3:S_Value):Option (List UInt8) :=
 (appI 1 a2 ([(3:UInt8)])).bind fun y1=>(F96w_93_0 self n ([]) a0 a1 a3 (n+7) (wr .u64 ((a3.L.length:Int))) y1).bind fun o10=>match o10 with | (y11,y12)=>bif (decide (0<=(wr .u8 (y11)))&&decide ((wr .u8 (y11))<256)) then ((appI 1 y12 ([(UInt8.ofNat (Int.toNat (wr .u8 (y11))))])).bind fun y14=>(F96w_96_0 self n ([]) a3.L ((a3.L.length:Int)) a0 a1 a3 (n+8) 0 y14).bind fun o63=>match o63 with | y64=>some y64) else none
theorem T96w (C:Nat->List A->Option A) (n:Nat) (h94:Orc94 C) (self:S_Value->S_Value->(List UInt8)->S_Value->Option (List UInt8)) (hS:HS96 C (n+8) self) (a0:S_Value) (a1:S_Value) (a2:(List UInt8)) (a3:S_Value):J (fun (o:R) (y:(List UInt8))=>∃ Z,o=(Out.ret (A.sl 4 0 y.length false),[(hk96w_6 a0),hk96w_1,Blk.box [(A.ptr 1 0)],(hk96w_7 a1),Blk.row false 1 (List.map c8 y)]++Z)) (evCall1 (cx C) (ec C n 8) (ey C n 8) (n+8) 96 [(A.sl 4 0 a2.length false),(A.agg [(iA a3.Kind),(iA a3.N),(A.v (Value.string a3.S)),(A.imm (List.map c_S_Value a3.L) false)]),(A.ptr 2 0)] [(hk96w_6 a0),hk96w_1,Blk.box [(A.ptr 1 0)],(hk96w_7 a1),Blk.row false 1 (List.map c8 a2)] 0) some (F96w self n a0 a1 a2 a3) some:=by
 refine .lp (e96 ..) ?_
 unfold F96w
 refine .s ((A.ptr 5 0),[(hk96w_6 a0),hk96w_1,Blk.box [(A.ptr 1 0)],(hk96w_7 a1),Blk.row false 1 (List.map c8 a2),Blk.box [(iA a3.Kind),(iA a3.N),(A.v (Value.string a3.S)),(A.imm (List.map c_S_Value a3.L) false)]]) (.s (A.imm [[(uA 3)]] true) ?_)
 refine .bd (g:=fun (y:List UInt8)=>((A.sl 4 0 y.length false),[(hk96w_6 a0),hk96w_1,Blk.box [(A.ptr 1 0)],(hk96w_7 a1),Blk.row false 1 (List.map c8 y),Blk.box [(iA a3.Kind),(iA a3.N),(A.v (Value.string a3.S)),(A.imm (List.map c_S_Value a3.L) false)]])) (app_row (e:=5) (es:=1) (by_:=1) (z:=[(uA 0)]) (by kernel_rfl) (by kernel_rfl) (by kernel_rfl) (by kernel_rfl) rfl (by decide) (by decide) (by kernel_rfl) (f:=c8) (fun _=>rfl) ce_c8 (l:=a2) (l2:=[(3:UInt8)]) (b:=4) rfl (by decide) (els_imm (f:=c8) ([(3:UInt8)]:List UInt8) _ _)) fun y1=>?_
 refine .cT (by kernel_rfl) ?_
 refine .s (A.ptr 5 3) ?_
 refine .cT (by kernel_rfl) ?_
 refine .s (A.imm (List.map c_S_Value a3.L) false) ?_
 refine .cT (by kernel_rfl) ?_
 refine .st (len_imm (e:=98) (h1:=by kernel_rfl) ..) ?_
 refine .cT (by kernel_rfl) ?_
 refine .st (v:=(A.v (.int .u64 (wr .u64 ((a3.L.length:Int)))))) (aConvert_int (hs:=by kernel_rfl) (hd:=by kernel_rfl) ..) ?_
 refine .cl ((evCall_in lt_93).trans (e93 C (ec C n 7) (ey C n 7) (n+7) _ _ _ _)) ?_
 refine .as (T96w_93_0 C n h94 self hS ([]) a0 a1 a3 _ _ _ _ ?_ _ (wr .u64 ((a3.L.length:Int))) y1)
 ·intro y11 y12 j13
  refine .un rfl ?_
  refine .cT (by kernel_rfl) ?_
  refine .st (v:=(uA (wr .u8 (y11)))) (aConvert_int (hs:=by kernel_rfl) (hd:=by kernel_rfl) ..) ?_
  refine .gd fun hg=>?_
  refine .st (v:=(A.imm [[(uA (((UInt8.ofNat (Int.toNat (wr .u8 (y11)))).toNat:Int)))]] true)) (by rw[u8_back hg]; kernel_rfl) ?_
  refine .bd (g:=fun (y:List UInt8)=>((A.sl 4 0 y.length false),[(hk96w_6 a0),hk96w_1,Blk.box [(A.ptr 1 0)],(hk96w_7 a1),Blk.row false 1 (List.map c8 y),Blk.box [(iA a3.Kind),(iA a3.N),(A.v (Value.string a3.S)),(A.imm (List.map c_S_Value a3.L) false)]])) (app_row (e:=5) (es:=1) (by_:=1) (z:=[(uA 0)]) (by kernel_rfl) (by kernel_rfl) (by kernel_rfl) (by kernel_rfl) rfl (by decide) (by decide) (by kernel_rfl) (f:=c8) (fun _=>rfl) ce_c8 (l:=y12) (l2:=[(UInt8.ofNat (Int.toNat (wr .u8 (y11))))]) (b:=4) rfl (by decide) (els_imm (f:=c8) ([(UInt8.ofNat (Int.toNat (wr .u8 (y11))))]:List UInt8) _ _)) fun y14=>?_
  refine .cr ?_
  refine .ok ?_
  refine .s (A.ptr 5 3) (.s (A.imm (List.map c_S_Value a3.L) false) ?_)
  refine .st (len_imm (e:=98) (h1:=by kernel_rfl) ..) ?_
  refine .as (T96w_96_0 C n h94 self hS ([]) a3.L ((a3.L.length:Int)) a0 a1 a3 _ _ _ _ ?_ _ 0 y14)
  ·intro y64 j65 j66 j67 j68 j69
   refine .un rfl ?_
   refine .cT (by kernel_rfl) ?_
   exact .lf rfl rfl ⟨[Blk.box [(iA a3.Kind),(iA a3.N),(A.v (Value.string a3.S)),(A.imm (List.map c_S_Value a3.L) false)]],rfl⟩
def W96:Nat->S_Value->S_Value->(List UInt8)->S_Value->Option (List UInt8)
 | 0=>fun _ _ _ _=>none
 | N+1=>fun a0 a1 a2 a3=>bif Nat.ble 8 N then F96w (W96 N) (N - 8) a0 a1 a2 a3 else none
theorem HW96 (C:Nat->List A->Option A) (h94:Orc94 C):∀ N,HS96 C N (W96 N)
 | 0=>fun _ _ _ _ X r h=>by cases h
 | N+1=>fun a0 a1 a2 a3 X=>by
  show J _ _ _ (bif Nat.ble 8 N then F96w (W96 N) (N - 8) a0 a1 a2 a3 else none) _
  cases h:Nat.ble 8 N with
  | false=>exact fun r h=>by cases h
  | true =>
   obtain ⟨n,rfl⟩:∃ n,N=n+8:=⟨N - 8,by have:=Nat.le_of_ble_eq_true h; omega⟩
   rw[Nat.add_sub_cancel]
   exact cut_J (m:=5) (by kernel_rfl) (by kernel_rfl) (by decide) rfl ((by kernel_rfl:_=((((underss 5 (List.map c_S_Value a3.L))&&true))&&true)).trans (by simp only[un0,unS])) ((by kernel_rfl:_=((((underss 5 (List.map c_S_Value a0.L))&&true))&&((((underss 5 (List.map c_S_Value a1.L))&&true))&&((underss 5 (List.map c8 a2))&&true)))).trans (by simp only[un0,unS])) (fun _=>rfl) (fun y=>(by kernel_rfl)) (fun y=>((by kernel_rfl:_=((((underss 5 (List.map c_S_Value a0.L))&&true))&&((((underss 5 (List.map c_S_Value a1.L))&&true))&&((underss 5 (List.map c8 y))&&true)))).trans (by simp only[un0,unS]))) (T96w C n h94 (W96 (n+8)) (HW96 C h94 (n+8)) a0 a1 a2 a3)
def hk56_1:Blk:=Blk.box [(A.v Value.nilFunc),(A.fn (Fn.func 92) [] []),(A.fn (Fn.func 95) [] []),(A.fn (Fn.func 96) [] [(A.ptr 2 0)])]
def hk56_2 (a0:S_Value):Blk:=Blk.box [(iA a0.Kind),(iA a0.N),(A.v (Value.string a0.S)),(A.imm (List.map c_S_Value a0.L) false)]
def hk56_5 (y55:S_Value):Blk:=Blk.box [(iA y55.Kind),(iA y55.N),(A.v (Value.string y55.S)),(A.imm (List.map c_S_Value y55.L) false)]
def F56_93_0 (n:Nat) (v8:(List UInt8)) (v9:S_Value) (v10:S_Value):Nat->Int->(List UInt8)->Option (Int×(List UInt8))
 | 0,_,_=>none
 | m+1,v7,v11=>bif (decide (128<=v7)) then (bif (decide (0<=(orI .u8 (wr .u8 (v7)) 128))&&decide ((orI .u8 (wr .u8 (v7)) 128)<256)) then ((appI 1 v11 ([(UInt8.ofNat (Int.toNat (orI .u8 (wr .u8 (v7)) 128)))])).bind fun y13=>F56_93_0 n v8 v9 v10 m (shrI .u64 v7 7) y13) else none) else (some ((v7,v11)))
theorem T56_93_0 (C:Nat->List A->Option A) (n:Nat) (h76:Orc76 C) (h94:Orc94 C) (v8:(List UInt8)) (v9:S_Value) (v10:S_Value) {ρ γ:Type} {φ:ρ->γ->Prop} {kL:R->Option ρ} {K:(Int×(List UInt8))->Option γ} (kx kg:Nat->St->Option R) (kr:St->Option R) (kp:A->St->Option R) (x0:∀ (o0:Int) (o1:(List UInt8)) (s4:A),J φ (kx 0 (St.mk [(0,(A.sl 4 0 o1.length false)),(1,(A.v (.int .u64 o0))),(4,s4)] [Blk.box [(iA v9.Kind),(iA v9.N),(A.v (Value.string v9.S)),(A.imm (List.map c_S_Value v9.L) false)],hk56_1,Blk.box [(A.ptr 1 0)],Blk.box [(iA v10.Kind),(iA v10.N),(A.v (Value.string v10.S)),(A.imm (List.map c_S_Value v10.L) false)],Blk.row false 1 (List.map c8 o1)])) kL (K (o0,o1)) some) :
  ∀ (m:Nat) (v7:Int) (v11:(List UInt8)),J φ (loopR (cx C) (evCall (cx C) (n+6)) (evCallY (cx C) (n+6)) (n+6) 93 0 0 5 kx kg kr kp m (St.mk [(0,(A.sl 4 0 v11.length false)),(1,(A.v (.int .u64 v7))),(4,(A.imm (List.map c8 v8) true))] [Blk.box [(iA v9.Kind),(iA v9.N),(A.v (Value.string v9.S)),(A.imm (List.map c_S_Value v9.L) false)],hk56_1,Blk.box [(A.ptr 1 0)],Blk.box [(iA v10.Kind),(iA v10.N),(A.v (Value.string v10.S)),(A.imm (List.map c_S_Value v10.L) false)],Blk.row false 1 (List.map c8 v11)])) kL (F56_93_0 n v8 v9 v10 m v7 v11) K:=by
 intro m
 induction m with
 | zero=>intros; exact .nn
 | succ m ih =>
  intro v7 v11
  refine .lp (e93_0 ..) ?_
  unfold F56_93_0
  refine .st (aBin_geq ..) ?_
  refine .biHN (fun hk12=>?_) (fun hk12=>?_)
  ·refine .st (v:=(uA (wr .u8 (v7)))) (aConvert_int (hs:=by kernel_rfl) (hd:=by kernel_rfl) ..) ?_
   refine .st (aBin_bits_or ..) ?_
   refine .gd fun hg=>?_
   refine .st (v:=(A.imm [[(uA (((UInt8.ofNat (Int.toNat (orI .u8 (wr .u8 (v7)) 128))).toNat:Int)))]] true)) (by rw[u8_back hg]; kernel_rfl) ?_
   refine .bd (g:=fun (y:List UInt8)=>((A.sl 4 0 y.length false),[Blk.box [(iA v9.Kind),(iA v9.N),(A.v (Value.string v9.S)),(A.imm (List.map c_S_Value v9.L) false)],hk56_1,Blk.box [(A.ptr 1 0)],Blk.box [(iA v10.Kind),(iA v10.N),(A.v (Value.string v10.S)),(A.imm (List.map c_S_Value v10.L) false)],Blk.row false 1 (List.map c8 y)])) (app_row (e:=5) (es:=1) (by_:=1) (z:=[(uA 0)]) (by kernel_rfl) (by kernel_rfl) (by kernel_rfl) (by kernel_rfl) rfl (by decide) (by decide) (by kernel_rfl) (f:=c8) (fun _=>rfl) ce_c8 (l:=v11) (l2:=[(UInt8.ofNat (Int.toNat (orI .u8 (wr .u8 (v7)) 128)))]) (b:=4) rfl (by decide) (els_imm (f:=c8) ([(UInt8.ofNat (Int.toNat (orI .u8 (wr .u8 (v7)) 128)))]:List UInt8) _ _)) fun y13=>?_
   refine .st (aBin_shr (hb:=by decide) ..) ?_
   refine .s [Blk.box [(iA v9.Kind),(iA v9.N),(A.v (Value.string v9.S)),(A.imm (List.map c_S_Value v9.L) false)],hk56_1,Blk.box [(A.ptr 1 0)],Blk.box [(iA v10.Kind),(iA v10.N),(A.v (Value.string v10.S)),(A.imm (List.map c_S_Value v10.L) false)],Blk.row false 1 (List.map c8 y13)] ?_
   refine .cT (by kernel_rfl) ?_
   exact ih _ _
  exact .ex (x0 _ _ _)
def F56_93_0a (n:Nat) (v22:(List UInt8)) (v23:S_Value):Nat->Int->(List UInt8)->Option (Int×(List UInt8))
 | 0,_,_=>none
 | m+1,v21,v24=>bif (decide (128<=v21)) then (bif (decide (0<=(orI .u8 (wr .u8 (v21)) 128))&&decide ((orI .u8 (wr .u8 (v21)) 128)<256)) then ((appI 1 v24 ([(UInt8.ofNat (Int.toNat (orI .u8 (wr .u8 (v21)) 128)))])).bind fun y26=>F56_93_0a n v22 v23 m (shrI .u64 v21 7) y26) else none) else (some ((v21,v24)))
theorem T56_93_0a (C:Nat->List A->Option A) (n:Nat) (h76:Orc76 C) (h94:Orc94 C) (v22:(List UInt8)) (v23:S_Value) {ρ γ:Type} {φ:ρ->γ->Prop} {kL:R->Option ρ} {K:(Int×(List UInt8))->Option γ} (kx kg:Nat->St->Option R) (kr:St->Option R) (kp:A->St->Option R) (x0:∀ (o0:Int) (o1:(List UInt8)) (s4:A),J φ (kx 0 (St.mk [(0,(A.sl 4 0 o1.length false)),(1,(A.v (.int .u64 o0))),(4,s4)] [Blk.box [(iA v23.Kind),(iA v23.N),(A.v (Value.string v23.S)),(A.imm (List.map c_S_Value v23.L) false)],hk56_1,Blk.box [(A.ptr 1 0)],Blk.dead,Blk.row false 1 (List.map c8 o1)])) kL (K (o0,o1)) some) :
  ∀ (m:Nat) (v21:Int) (v24:(List UInt8)),J φ (loopR (cx C) (evCall (cx C) (n+6)) (evCallY (cx C) (n+6)) (n+6) 93 0 0 5 kx kg kr kp m (St.mk [(0,(A.sl 4 0 v24.length false)),(1,(A.v (.int .u64 v21))),(4,(A.imm (List.map c8 v22) true))] [Blk.box [(iA v23.Kind),(iA v23.N),(A.v (Value.string v23.S)),(A.imm (List.map c_S_Value v23.L) false)],hk56_1,Blk.box [(A.ptr 1 0)],Blk.dead,Blk.row false 1 (List.map c8 v24)])) kL (F56_93_0a n v22 v23 m v21 v24) K:=by
 intro m
 induction m with
 | zero=>intros; exact .nn
 | succ m ih =>
  intro v21 v24
  refine .lp (e93_0 ..) ?_
  unfold F56_93_0a
  refine .st (aBin_geq ..) ?_
  refine .biHN (fun hk25=>?_) (fun hk25=>?_)
  ·refine .st (v:=(uA (wr .u8 (v21)))) (aConvert_int (hs:=by kernel_rfl) (hd:=by kernel_rfl) ..) ?_
   refine .st (aBin_bits_or ..) ?_
   refine .gd fun hg=>?_
   refine .st (v:=(A.imm [[(uA (((UInt8.ofNat (Int.toNat (orI .u8 (wr .u8 (v21)) 128))).toNat:Int)))]] true)) (by rw[u8_back hg]; kernel_rfl) ?_
   refine .bd (g:=fun (y:List UInt8)=>((A.sl 4 0 y.length false),[Blk.box [(iA v23.Kind),(iA v23.N),(A.v (Value.string v23.S)),(A.imm (List.map c_S_Value v23.L) false)],hk56_1,Blk.box [(A.ptr 1 0)],Blk.dead,Blk.row false 1 (List.map c8 y)])) (app_row (e:=5) (es:=1) (by_:=1) (z:=[(uA 0)]) (by kernel_rfl) (by kernel_rfl) (by kernel_rfl) (by kernel_rfl) rfl (by decide) (by decide) (by kernel_rfl) (f:=c8) (fun _=>rfl) ce_c8 (l:=v24) (l2:=[(UInt8.ofNat (Int.toNat (orI .u8 (wr .u8 (v21)) 128)))]) (b:=4) rfl (by decide) (els_imm (f:=c8) ([(UInt8.ofNat (Int.toNat (orI .u8 (wr .u8 (v21)) 128)))]:List UInt8) _ _)) fun y26=>?_
   refine .st (aBin_shr (hb:=by decide) ..) ?_
   refine .s [Blk.box [(iA v23.Kind),(iA v23.N),(A.v (Value.string v23.S)),(A.imm (List.map c_S_Value v23.L) false)],hk56_1,Blk.box [(A.ptr 1 0)],Blk.dead,Blk.row false 1 (List.map c8 y26)] ?_
   refine .cT (by kernel_rfl) ?_
   exact ih _ _
  exact .ex (x0 _ _ _)
def F56_93_0c (n:Nat) (v61:(List UInt8)) (v62:S_Value) (v63:S_Value) (v65:S_Value) (v66:S_Value):Nat->Int->(List UInt8)->Option (Int×(List UInt8))
 | 0,_,_=>none
 | m+1,v60,v64=>bif (decide (128<=v60)) then (bif (decide (0<=(orI .u8 (wr .u8 (v60)) 128))&&decide ((orI .u8 (wr .u8 (v60)) 128)<256)) then ((appI 1 v64 ([(UInt8.ofNat (Int.toNat (orI .u8 (wr .u8 (v60)) 128)))])).bind fun y68=>F56_93_0c n v61 v62 v63 v65 v66 m (shrI .u64 v60 7) y68) else none) else (some ((v60,v64)))
theorem T56_93_0c (C:Nat->List A->Option A) (n:Nat) (h76:Orc76 C) (h94:Orc94 C) (v61:(List UInt8)) (v62:S_Value) (v63:S_Value) (v65:S_Value) (v66:S_Value) {ρ γ:Type} {φ:ρ->γ->Prop} {kL:R->Option ρ} {K:(Int×(List UInt8))->Option γ} (kx kg:Nat->St->Option R) (kr:St->Option R) (kp:A->St->Option R) (x0:∀ (o0:Int) (o1:(List UInt8)) (s4:A),J φ (kx 0 (St.mk [(0,(A.sl 4 0 o1.length false)),(1,(A.v (.int .u64 o0))),(4,s4)] [Blk.box [(iA v62.Kind),(iA v62.N),(A.v (Value.string v62.S)),(A.imm (List.map c_S_Value v62.L) false)],hk56_1,Blk.box [(A.ptr 1 0)],Blk.box [(iA v63.Kind),(iA v63.N),(A.v (Value.string v63.S)),(A.imm (List.map c_S_Value v63.L) false)],Blk.row false 1 (List.map c8 o1),Blk.box [(iA v65.Kind),(iA v65.N),(A.v (Value.string v65.S)),(A.imm (List.map c_S_Value v65.L) false)],Blk.box [(iA v66.Kind),(iA v66.N),(A.v (Value.string v66.S)),(A.imm (List.map c_S_Value v66.L) false)]])) kL (K (o0,o1)) some) :
  ∀ (m:Nat) (v60:Int) (v64:(List UInt8)),J φ (loopR (cx C) (evCall (cx C) (n+5)) (evCallY (cx C) (n+5)) (n+5) 93 0 0 7 kx kg kr kp m (St.mk [(0,(A.sl 4 0 v64.length false)),(1,(A.v (.int .u64 v60))),(4,(A.imm (List.map c8 v61) true))] [Blk.box [(iA v62.Kind),(iA v62.N),(A.v (Value.string v62.S)),(A.imm (List.map c_S_Value v62.L) false)],hk56_1,Blk.box [(A.ptr 1 0)],Blk.box [(iA v63.Kind),(iA v63.N),(A.v (Value.string v63.S)),(A.imm (List.map c_S_Value v63.L) false)],Blk.row false 1 (List.map c8 v64),Blk.box [(iA v65.Kind),(iA v65.N),(A.v (Value.string v65.S)),(A.imm (List.map c_S_Value v65.L) false)],Blk.box [(iA v66.Kind),(iA v66.N),(A.v (Value.string v66.S)),(A.imm (List.map c_S_Value v66.L) false)]])) kL (F56_93_0c n v61 v62 v63 v65 v66 m v60 v64) K:=by
 intro m
 induction m with
 | zero=>intros; exact .nn
 | succ m ih =>
  intro v60 v64
  refine .lp (e93_0 ..) ?_
  unfold F56_93_0c
  refine .st (aBin_geq ..) ?_
  refine .biHN (fun hk67=>?_) (fun hk67=>?_)
  ·refine .st (v:=(uA (wr .u8 (v60)))) (aConvert_int (hs:=by kernel_rfl) (hd:=by kernel_rfl) ..) ?_
   refine .st (aBin_bits_or ..) ?_
   refine .gd fun hg=>?_
   refine .st (v:=(A.imm [[(uA (((UInt8.ofNat (Int.toNat (orI .u8 (wr .u8 (v60)) 128))).toNat:Int)))]] true)) (by rw[u8_back hg]; kernel_rfl) ?_
   refine .bd (g:=fun (y:List UInt8)=>((A.sl 4 0 y.length false),[Blk.box [(iA v62.Kind),(iA v62.N),(A.v (Value.string v62.S)),(A.imm (List.map c_S_Value v62.L) false)],hk56_1,Blk.box [(A.ptr 1 0)],Blk.box [(iA v63.Kind),(iA v63.N),(A.v (Value.string v63.S)),(A.imm (List.map c_S_Value v63.L) false)],Blk.row false 1 (List.map c8 y),Blk.box [(iA v65.Kind),(iA v65.N),(A.v (Value.string v65.S)),(A.imm (List.map c_S_Value v65.L) false)],Blk.box [(iA v66.Kind),(iA v66.N),(A.v (Value.string v66.S)),(A.imm (List.map c_S_Value v66.L) false)]])) (app_row (e:=5) (es:=1) (by_:=1) (z:=[(uA 0)]) (by kernel_rfl) (by kernel_rfl) (by kernel_rfl) (by kernel_rfl) rfl (by decide) (by decide) (by kernel_rfl) (f:=c8) (fun _=>rfl) ce_c8 (l:=v64) (l2:=[(UInt8.ofNat (Int.toNat (orI .u8 (wr .u8 (v60)) 128)))]) (b:=4) rfl (by decide) (els_imm (f:=c8) ([(UInt8.ofNat (Int.toNat (orI .u8 (wr .u8 (v60)) 128)))]:List UInt8) _ _)) fun y68=>?_
   refine .st (aBin_shr (hb:=by decide) ..) ?_
   refine .s [Blk.box [(iA v62.Kind),(iA v62.N),(A.v (Value.string v62.S)),(A.imm (List.map c_S_Value v62.L) false)],hk56_1,Blk.box [(A.ptr 1 0)],Blk.box [(iA v63.Kind),(iA v63.N),(A.v (Value.string v63.S)),(A.imm (List.map c_S_Value v63.L) false)],Blk.row false 1 (List.map c8 y68),Blk.box [(iA v65.Kind),(iA v65.N),(A.v (Value.string v65.S)),(A.imm (List.map c_S_Value v65.L) false)],Blk.box [(iA v66.Kind),(iA v66.N),(A.v (Value.string v66.S)),(A.imm (List.map c_S_Value v66.L) false)]] ?_
   refine .cT (by kernel_rfl) ?_
   exact ih _ _
  exact .ex (x0 _ _ _)
def F56_93_0d (n:Nat) (v77:(List UInt8)) (v78:S_Value) (v79:S_Value) (v81:S_Value):Nat->Int->(List UInt8)->Option (Int×(List UInt8))
 | 0,_,_=>none
 | m+1,v76,v80=>bif (decide (128<=v76)) then (bif (decide (0<=(orI .u8 (wr .u8 (v76)) 128))&&decide ((orI .u8 (wr .u8 (v76)) 128)<256)) then ((appI 1 v80 ([(UInt8.ofNat (Int.toNat (orI .u8 (wr .u8 (v76)) 128)))])).bind fun y83=>F56_93_0d n v77 v78 v79 v81 m (shrI .u64 v76 7) y83) else none) else (some ((v76,v80)))
theorem T56_93_0d (C:Nat->List A->Option A) (n:Nat) (h76:Orc76 C) (h94:Orc94 C) (v77:(List UInt8)) (v78:S_Value) (v79:S_Value) (v81:S_Value) {ρ γ:Type} {φ:ρ->γ->Prop} {kL:R->Option ρ} {K:(Int×(List UInt8))->Option γ} (kx kg:Nat->St->Option R) (kr:St->Option R) (kp:A->St->Option R) (x0:∀ (o0:Int) (o1:(List UInt8)) (s4:A),J φ (kx 0 (St.mk [(0,(A.sl 4 0 o1.length false)),(1,(A.v (.int .u64 o0))),(4,s4)] [Blk.box [(iA v78.Kind),(iA v78.N),(A.v (Value.string v78.S)),(A.imm (List.map c_S_Value v78.L) false)],hk56_1,Blk.box [(A.ptr 1 0)],Blk.box [(iA v79.Kind),(iA v79.N),(A.v (Value.string v79.S)),(A.imm (List.map c_S_Value v79.L) false)],Blk.row false 1 (List.map c8 o1),Blk.box [(iA v81.Kind),(iA v81.N),(A.v (Value.string v81.S)),(A.imm (List.map c_S_Value v81.L) false)],Blk.dead])) kL (K (o0,o1)) some) :
  ∀ (m:Nat) (v76:Int) (v80:(List UInt8)),J φ (loopR (cx C) (evCall (cx C) (n+5)) (evCallY (cx C) (n+5)) (n+5) 93 0 0 7 kx kg kr kp m (St.mk [(0,(A.sl 4 0 v80.length false)),(1,(A.v (.int .u64 v76))),(4,(A.imm (List.map c8 v77) true))] [Blk.box [(iA v78.Kind),(iA v78.N),(A.v (Value.string v78.S)),(A.imm (List.map c_S_Value v78.L) false)],hk56_1,Blk.box [(A.ptr 1 0)],Blk.box [(iA v79.Kind),(iA v79.N),(A.v (Value.string v79.S)),(A.imm (List.map c_S_Value v79.L) false)],Blk.row false 1 (List.map c8 v80),Blk.box [(iA v81.Kind),(iA v81.N),(A.v (Value.string v81.S)),(A.imm (List.map c_S_Value v81.L) false)],Blk.dead])) kL (F56_93_0d n v77 v78 v79 v81 m v76 v80) K:=by
 intro m
 induction m with
 | zero=>intros; exact .nn
 | succ m ih =>
  intro v76 v80
  refine .lp (e93_0 ..) ?_
  unfold F56_93_0d
  refine .st (aBin_geq ..) ?_
  refine .biHN (fun hk82=>?_) (fun hk82=>?_)
  ·refine .st (v:=(uA (wr .u8 (v76)))) (aConvert_int (hs:=by kernel_rfl) (hd:=by kernel_rfl) ..) ?_
   refine .st (aBin_bits_or ..) ?_
   refine .gd fun hg=>?_
   refine .st (v:=(A.imm [[(uA (((UInt8.ofNat (Int.toNat (orI .u8 (wr .u8 (v76)) 128))).toNat:Int)))]] true)) (by rw[u8_back hg]; kernel_rfl) ?_
   refine .bd (g:=fun (y:List UInt8)=>((A.sl 4 0 y.length false),[Blk.box [(iA v78.Kind),(iA v78.N),(A.v (Value.string v78.S)),(A.imm (List.map c_S_Value v78.L) false)],hk56_1,Blk.box [(A.ptr 1 0)],Blk.box [(iA v79.Kind),(iA v79.N),(A.v (Value.string v79.S)),(A.imm (List.map c_S_Value v79.L) false)],Blk.row false 1 (List.map c8 y),Blk.box [(iA v81.Kind),(iA v81.N),(A.v (Value.string v81.S)),(A.imm (List.map c_S_Value v81.L) false)],Blk.dead])) (app_row (e:=5) (es:=1) (by_:=1) (z:=[(uA 0)]) (by kernel_rfl) (by kernel_rfl) (by kernel_rfl) (by kernel_rfl) rfl (by decide) (by decide) (by kernel_rfl) (f:=c8) (fun _=>rfl) ce_c8 (l:=v80) (l2:=[(UInt8.ofNat (Int.toNat (orI .u8 (wr .u8 (v76)) 128)))]) (b:=4) rfl (by decide) (els_imm (f:=c8) ([(UInt8.ofNat (Int.toNat (orI .u8 (wr .u8 (v76)) 128)))]:List UInt8) _ _)) fun y83=>?_
   refine .st (aBin_shr (hb:=by decide) ..) ?_
   refine .s [Blk.box [(iA v78.Kind),(iA v78.N),(A.v (Value.string v78.S)),(A.imm (List.map c_S_Value v78.L) false)],hk56_1,Blk.box [(A.ptr 1 0)],Blk.box [(iA v79.Kind),(iA v79.N),(A.v (Value.string v79.S)),(A.imm (List.map c_S_Value v79.L) false)],Blk.row false 1 (List.map c8 y83),Blk.box [(iA v81.Kind),(iA v81.N),(A.v (Value.string v81.S)),(A.imm (List.map c_S_Value v81.L) false)],Blk.dead] ?_
   refine .cT (by kernel_rfl) ?_
   exact ih _ _
  exact .ex (x0 _ _ _)
def F56_96_0 (n:Nat) (v47:(List UInt8)) (v48:(List S_Value)) (v49:Int) (v51:S_Value) (v52:S_Value):Nat->Int->(List UInt8)->Option ((List UInt8))
 | 0,_,_=>none
 | m+1,v50,v53=>bif (decide (v50<v49)) then ((getI v48 v50).bind fun y55=>bif decide (y55.Kind=0) then (none) else bif decide (y55.Kind=1) then ((appI 1 v53 ([(1:UInt8)])).bind fun y58=>(G94 y55.N).bind fun y59=>(F56_93_0c n ([]) v51 v52 y55 y55 (n+5) y59 y58).bind fun o69=>match o69 with | (y70,y71)=>bif (decide (0<=(wr .u8 (y70)))&&decide ((wr .u8 (y70))<256)) then ((appI 1 y71 ([(UInt8.ofNat (Int.toNat (wr .u8 (y70))))])).bind fun y73=>F56_96_0 n v47 v48 v49 v51 v52 m (wr .i64 (v50+1)) y73) else none) else bif decide (y55.Kind=2) then ((appI 1 v53 ([(2:UInt8)])).bind fun y75=>(F56_93_0d n ([]) v51 v52 y55 (n+5) (wr .u64 ((y55.S.size:Int))) y75).bind fun o84=>match o84 with | (y85,y86)=>bif (decide (0<=(wr .u8 (y85)))&&decide ((wr .u8 (y85))<256)) then ((appI 1 y86 ([(UInt8.ofNat (Int.toNat (wr .u8 (y85))))])).bind fun y88=>(appI 1 y88 (bstrL y55.S)).bind fun y89=>F56_96_0 n v47 v48 v49 v51 v52 m (wr .i64 (v50+1)) y89) else none) else bif decide (y55.Kind=3) then ((W96 (n+7) v51 v52 v53 y55).bind fun y91=>F56_96_0 n v47 v48 v49 v51 v52 m (wr .i64 (v50+1)) y91) else none) else (some v53)
theorem T56_96_0 (C:Nat->List A->Option A) (n:Nat) (h76:Orc76 C) (h94:Orc94 C) (v47:(List UInt8)) (v48:(List S_Value)) (v49:Int) (v51:S_Value) (v52:S_Value) {ρ γ:Type} {φ:ρ->γ->Prop} {kL:R->Option ρ} {K:((List UInt8))->Option γ} (kx kg:Nat->St->Option R) (kr:St->Option R) (kp:A->St->Option R) (x0:∀ (o0:(List UInt8)) (s2:A) (s5:A) (s17:A) (s18:A) (s19:A),J φ (kx 0 (St.mk [(0,(A.sl 4 0 o0.length false)),(2,s2),(5,s5),(17,s17),(18,s18),(19,s19)] [(hk32_1 v51),hk56_1,Blk.box [(A.ptr 1 0)],(hk32_1 v52),Blk.row false 1 (List.map c8 o0)])) kL (K o0) some) :
  ∀ (m:Nat) (v50:Int) (v53:(List UInt8)),J φ (loopR (cx C) (ec C n 7) (ey C n 7) (n+7) 96 0 0 5 kx kg kr kp m (St.mk [(0,(A.sl 4 0 v53.length false)),(2,(A.ptr 2 0)),(5,(A.imm (List.map c8 v47) true)),(17,(A.imm (List.map c_S_Value v48) false)),(18,(iA v49)),(19,(iA v50))] [(hk32_1 v51),hk56_1,Blk.box [(A.ptr 1 0)],(hk32_1 v52),Blk.row false 1 (List.map c8 v53)])) kL (F56_96_0 n v47 v48 v49 v51 v52 m v50 v53) K:=by
 intro m
 induction m with
 | zero=>intros; exact .nn
 | succ m ih =>
  intro v50 v53
  refine .lp (e96_0 ..) ?_
  unfold F56_96_0
  refine .st (aBin_lss ..) ?_
  refine .biHN (fun hk54=>?_) (fun hk54=>?_)
  ·refine .bd (g:=fun (y:S_Value)=>(A.ip [(iA y.Kind),(iA y.N),(A.v (Value.string y.S)),(A.imm (List.map c_S_Value y.L) false)])) ((idx_imm (e:=98) (es:=4) (h1:=by kernel_rfl) (h2:=by kernel_rfl) (h3:=fun _=>rfl) ..).trans (ci_S_Value _)) fun y55=>?_
   refine .s (A.agg [(iA y55.Kind),(iA y55.N),(A.v (Value.string y55.S)),(A.imm (List.map c_S_Value y55.L) false)]) (.sq (A.ptr 5 0) (.s [(hk32_1 v51),hk56_1,Blk.box [(A.ptr 1 0)],(hk32_1 v52),Blk.row false 1 (List.map c8 v53),(hk56_5 y55)] (.s (A.ptr 1 0) (.s (A.ptr 5 0) (.s (iA y55.Kind) (.s (A.ptr 1 0) ?_))))))
   refine .sp (fun hb56=>?_) (fun _=>?_)
   ·refine .st (v:=(A.ptr 1 0)) (by rw[of_decide_eq_true hb56]; kernel_rfl) ?_
    refine .s (A.ptr 1 0) (.s (A.v Value.nilFunc) (.s (A.agg [(iA y55.Kind),(iA y55.N),(A.v (Value.string y55.S)),(A.imm (List.map c_S_Value y55.L) false)]) ?_))
    exact .nn
   refine .sp (fun hb57=>?_) (fun _=>?_)
   ·refine .st (v:=(A.ptr 1 1)) (by rw[of_decide_eq_true hb57]; kernel_rfl) ?_
    refine .s (A.ptr 1 1) (.s (A.fn (Fn.func 92) [] []) (.s (A.agg [(iA y55.Kind),(iA y55.N),(A.v (Value.string y55.S)),(A.imm (List.map c_S_Value y55.L) false)]) ?_))
    refine .dC (by kernel_rfl) (by kernel_rfl) ?_
    refine .cl ((evCall_in lt_92).trans (e92 C (evCall (cx C) (n+6)) (evCallY (cx C) (n+6)) (n+6) _ _ _ _)) ?_
    refine .s ((A.ptr 6 0),[(hk32_1 v51),hk56_1,Blk.box [(A.ptr 1 0)],(hk32_1 v52),Blk.row false 1 (List.map c8 v53),(hk56_5 y55),(hk56_5 y55)]) (.s (A.imm [[(uA 1)]] true) ?_)
    refine .bd (g:=fun (y:List UInt8)=>((A.sl 4 0 y.length false),[(hk32_1 v51),hk56_1,Blk.box [(A.ptr 1 0)],(hk32_1 v52),Blk.row false 1 (List.map c8 y),(hk56_5 y55),(hk56_5 y55)])) (app_row (e:=5) (es:=1) (by_:=1) (z:=[(uA 0)]) (by kernel_rfl) (by kernel_rfl) (by kernel_rfl) (by kernel_rfl) rfl (by decide) (by decide) (by kernel_rfl) (f:=c8) (fun _=>rfl) ce_c8 (l:=v53) (l2:=[(1:UInt8)]) (b:=4) rfl (by decide) (els_imm (f:=c8) ([(1:UInt8)]:List UInt8) _ _)) fun y58=>?_
    refine .cT (by kernel_rfl) ?_
    refine .s (A.ptr 6 1) ?_
    refine .cT (by kernel_rfl) ?_
    refine .s (iA y55.N) ?_
    refine .bd (g:=fun (y:Int)=>(A.v (.int .u64 y))) (h94 y55.N) fun y59=>?_
    refine .cl ((evCall_in lt_93).trans (e93 C (evCall (cx C) (n+5)) (evCallY (cx C) (n+5)) (n+5) _ _ _ _)) ?_
    refine .as (T56_93_0c C n h76 h94 ([]) v51 v52 y55 y55 _ _ _ _ ?_ _ y59 y58)
    ·intro y70 y71 j72
     refine .un rfl ?_
     refine .cT (by kernel_rfl) ?_
     refine .st (v:=(uA (wr .u8 (y70)))) (aConvert_int (hs:=by kernel_rfl) (hd:=by kernel_rfl) ..) ?_
     refine .gd fun hg=>?_
     refine .st (v:=(A.imm [[(uA (((UInt8.ofNat (Int.toNat (wr .u8 (y70)))).toNat:Int)))]] true)) (by rw[u8_back hg]; kernel_rfl) ?_
     refine .bd (g:=fun (y:List UInt8)=>((A.sl 4 0 y.length false),[(hk32_1 v51),hk56_1,Blk.box [(A.ptr 1 0)],(hk32_1 v52),Blk.row false 1 (List.map c8 y),(hk56_5 y55),(hk56_5 y55)])) (app_row (e:=5) (es:=1) (by_:=1) (z:=[(uA 0)]) (by kernel_rfl) (by kernel_rfl) (by kernel_rfl) (by kernel_rfl) rfl (by decide) (by decide) (by kernel_rfl) (f:=c8) (fun _=>rfl) ce_c8 (l:=y71) (l2:=[(UInt8.ofNat (Int.toNat (wr .u8 (y70))))]) (b:=4) rfl (by decide) (els_imm (f:=c8) ([(UInt8.ofNat (Int.toNat (wr .u8 (y70))))]:List UInt8) _ _)) fun y73=>?_
     refine .cr ?_
     refine .ok ?_
     refine .cr ?_
     refine .ok ?_
     refine .st (aBin_add ..) ?_
     refine .st (v:=[(hk32_1 v51),hk56_1,Blk.box [(A.ptr 1 0)],(hk32_1 v52),Blk.row false 1 (List.map c8 y73)]) ((by kernel_rfl:_=(bif ((((underss 5 (List.map c_S_Value v51.L))&&true))&&((((underss 5 (List.map c_S_Value v52.L))&&true))&&((underss 5 (List.map c8 y73))&&true))) then some [(hk32_1 v51),hk56_1,Blk.box [(A.ptr 1 0)],(hk32_1 v52),Blk.row false 1 (List.map c8 y73)] else none)).trans (by simp only[un0,unS])) ?_
     refine .cT ((by kernel_rfl:_=(bif underss 5 (List.map c8 v47) then (bif underss 5 (List.map c_S_Value v48) then true else false) else false)).trans (by simp only[un0,unS])) ?_
     exact ih _ _
   refine .sp (fun hb74=>?_) (fun _=>?_)
   ·refine .st (v:=(A.ptr 1 2)) (by rw[of_decide_eq_true hb74]; kernel_rfl) ?_
    refine .s (A.ptr 1 2) (.s (A.fn (Fn.func 95) [] []) (.s (A.agg [(iA y55.Kind),(iA y55.N),(A.v (Value.string y55.S)),(A.imm (List.map c_S_Value y55.L) false)]) ?_))
    refine .dC (by kernel_rfl) (by kernel_rfl) ?_
    refine .cl ((evCall_in lt_95).trans (e95 C (evCall (cx C) (n+6)) (evCallY (cx C) (n+6)) (n+6) _ _ _ _)) ?_
    refine .s ((A.ptr 6 0),[(hk32_1 v51),hk56_1,Blk.box [(A.ptr 1 0)],(hk32_1 v52),Blk.row false 1 (List.map c8 v53),(hk56_5 y55),(hk56_5 y55)]) (.s ((A.ip [(iA y55.Kind),(iA y55.N),(A.v (Value.string y55.S)),(A.imm (List.map c_S_Value y55.L) false)]),[(hk32_1 v51),hk56_1,Blk.box [(A.ptr 1 0)],(hk32_1 v52),Blk.row false 1 (List.map c8 v53),(hk56_5 y55),Blk.dead]) ?_)
    refine .cT (by kernel_rfl) ?_
    refine .s (A.imm [[(uA 2)]] true) (.s (A.ip [(A.v (Value.string y55.S)),(A.imm (List.map c_S_Value y55.L) false)]) (.s (A.v (Value.string y55.S)) (.s (iA ((y55.S.size:Int))) ?_)))
    refine .st (v:=(A.v (.int .u64 (wr .u64 ((y55.S.size:Int)))))) (aConvert_int (hs:=by kernel_rfl) (hd:=by kernel_rfl) ..) ?_
    refine .s (A.ip [(A.v (Value.string y55.S)),(A.imm (List.map c_S_Value y55.L) false)]) (.s (A.v (Value.string y55.S)) ?_)
    refine .cT (by kernel_rfl) ?_
    refine .bd (g:=fun (y:List UInt8)=>((A.sl 4 0 y.length false),[(hk32_1 v51),hk56_1,Blk.box [(A.ptr 1 0)],(hk32_1 v52),Blk.row false 1 (List.map c8 y),(hk56_5 y55),Blk.dead])) (app_row (e:=5) (es:=1) (by_:=1) (z:=[(uA 0)]) (by kernel_rfl) (by kernel_rfl) (by kernel_rfl) (by kernel_rfl) rfl (by decide) (by decide) (by kernel_rfl) (f:=c8) (fun _=>rfl) ce_c8 (l:=v53) (l2:=[(2:UInt8)]) (b:=4) rfl (by decide) (els_imm (f:=c8) ([(2:UInt8)]:List UInt8) _ _)) fun y75=>?_
    refine .cT (by kernel_rfl) ?_
    refine .cl ((evCall_in lt_93).trans (e93 C (evCall (cx C) (n+5)) (evCallY (cx C) (n+5)) (n+5) _ _ _ _)) ?_
    refine .as (T56_93_0d C n h76 h94 ([]) v51 v52 y55 _ _ _ _ ?_ _ (wr .u64 ((y55.S.size:Int))) y75)
    ·intro y85 y86 j87
     refine .un rfl ?_
     refine .cT (by kernel_rfl) ?_
     refine .st (v:=(uA (wr .u8 (y85)))) (aConvert_int (hs:=by kernel_rfl) (hd:=by kernel_rfl) ..) ?_
     refine .gd fun hg=>?_
     refine .st (v:=(A.imm [[(uA (((UInt8.ofNat (Int.toNat (wr .u8 (y85)))).toNat:Int)))]] true)) (by rw[u8_back hg]; kernel_rfl) ?_
     refine .bd (g:=fun (y:List UInt8)=>((A.sl 4 0 y.length false),[(hk32_1 v51),hk56_1,Blk.box [(A.ptr 1 0)],(hk32_1 v52),Blk.row false 1 (List.map c8 y),(hk56_5 y55),Blk.dead])) (app_row (e:=5) (es:=1) (by_:=1) (z:=[(uA 0)]) (by kernel_rfl) (by kernel_rfl) (by kernel_rfl) (by kernel_rfl) rfl (by decide) (by decide) (by kernel_rfl) (f:=c8) (fun _=>rfl) ce_c8 (l:=y86) (l2:=[(UInt8.ofNat (Int.toNat (wr .u8 (y85))))]) (b:=4) rfl (by decide) (els_imm (f:=c8) ([(UInt8.ofNat (Int.toNat (wr .u8 (y85))))]:List UInt8) _ _)) fun y88=>?_
     refine .cr ?_
     refine .ok ?_
     refine .bd (g:=fun (y:List UInt8)=>((A.sl 4 0 y.length false),[(hk32_1 v51),hk56_1,Blk.box [(A.ptr 1 0)],(hk32_1 v52),Blk.row false 1 (List.map c8 y),(hk56_5 y55),Blk.dead])) (app_row (e:=5) (es:=1) (by_:=1) (z:=[(uA 0)]) (by kernel_rfl) (by kernel_rfl) (by kernel_rfl) (by kernel_rfl) rfl (by decide) (by decide) (by kernel_rfl) (f:=c8) (fun _=>rfl) ce_c8 (l:=y88) (l2:=bstrL y55.S) (b:=4) rfl (by decide) (els_str ..)) fun y89=>?_
     refine .cr ?_
     refine .ok ?_
     refine .st (aBin_add ..) ?_
     refine .st (v:=[(hk32_1 v51),hk56_1,Blk.box [(A.ptr 1 0)],(hk32_1 v52),Blk.row false 1 (List.map c8 y89)]) ((by kernel_rfl:_=(bif ((((underss 5 (List.map c_S_Value v51.L))&&true))&&((((underss 5 (List.map c_S_Value v52.L))&&true))&&((underss 5 (List.map c8 y89))&&true))) then some [(hk32_1 v51),hk56_1,Blk.box [(A.ptr 1 0)],(hk32_1 v52),Blk.row false 1 (List.map c8 y89)] else none)).trans (by simp only[un0,unS])) ?_
     refine .cT ((by kernel_rfl:_=(bif underss 5 (List.map c8 v47) then (bif underss 5 (List.map c_S_Value v48) then true else false) else false)).trans (by simp only[un0,unS])) ?_
     exact ih _ _
   refine .sp (fun hb90=>?_) (fun _=>?_)
   ·refine .st (v:=(A.ptr 1 3)) (by rw[of_decide_eq_true hb90]; kernel_rfl) ?_
    refine .s (A.ptr 1 3) (.s (A.fn (Fn.func 96) [] [(A.ptr 2 0)]) (.s (A.agg [(iA y55.Kind),(iA y55.N),(A.v (Value.string y55.S)),(A.imm (List.map c_S_Value y55.L) false)]) ?_))
    refine .dC (by kernel_rfl) (by kernel_rfl) ?_
    refine .bg (fun (t:R) (y:(List UInt8))=>t=(Out.ret (A.sl 4 0 y.length false),[(hk32_1 v51),hk56_1,Blk.box [(A.ptr 1 0)],(hk32_1 v52),Blk.row false 1 (List.map c8 y),(hk56_5 y55)])) (HW96 C h94 (n+7) v51 v52 v53 y55 [(hk56_5 y55)]) ?_
    rintro _ y91 rfl
    refine .ok ?_
    refine .st (aBin_add ..) ?_
    refine .st (v:=[(hk32_1 v51),hk56_1,Blk.box [(A.ptr 1 0)],(hk32_1 v52),Blk.row false 1 (List.map c8 y91)]) ((by kernel_rfl:_=(bif ((((underss 5 (List.map c_S_Value v51.L))&&true))&&((((underss 5 (List.map c_S_Value v52.L))&&true))&&((underss 5 (List.map c8 y91))&&true))) then some [(hk32_1 v51),hk56_1,Blk.box [(A.ptr 1 0)],(hk32_1 v52),Blk.row false 1 (List.map c8 y91)] else none)).trans (by simp only[un0,unS])) ?_
    refine .cT ((by kernel_rfl:_=(bif underss 5 (List.map c8 v47) then (bif underss 5 (List.map c_S_Value v48) then true else false) else false)).trans (by simp only[un0,unS])) ?_
    exact ih _ _
   exact .nn
  exact .ex (x0 _ _ _ _ _ _)
def F56 (n:Nat) (a0:S_Value):Option ((List UInt8)×Int) :=
 (G76 a0).bind fun y1=>bif (y1 != 0) then (some (([],y1))) else (bif decide (a0.Kind=0) then (none) else bif decide (a0.Kind=1) then ((appI 1 ([]) ([(1:UInt8)])).bind fun y5=>(G94 a0.N).bind fun y6=>(F56_93_0 n ([]) a0 a0 (n+6) y6 y5).bind fun o14=>match o14 with | (y15,y16)=>bif (decide (0<=(wr .u8 (y15)))&&decide ((wr .u8 (y15))<256)) then ((appI 1 y16 ([(UInt8.ofNat (Int.toNat (wr .u8 (y15))))])).bind fun y18=>some ((y18,0))) else none) else bif decide (a0.Kind=2) then ((appI 1 ([]) ([(2:UInt8)])).bind fun y20=>(F56_93_0a n ([]) a0 (n+6) (wr .u64 ((a0.S.size:Int))) y20).bind fun o27=>match o27 with | (y28,y29)=>bif (decide (0<=(wr .u8 (y28)))&&decide ((wr .u8 (y28))<256)) then ((appI 1 y29 ([(UInt8.ofNat (Int.toNat (wr .u8 (y28))))])).bind fun y31=>(appI 1 y31 (bstrL a0.S)).bind fun y32=>some ((y32,0))) else none) else bif decide (a0.Kind=3) then ((appI 1 ([]) ([(3:UInt8)])).bind fun y34=>(F56_93_0 n ([]) a0 a0 (n+6) (wr .u64 ((a0.L.length:Int))) y34).bind fun o42=>match o42 with | (y43,y44)=>bif (decide (0<=(wr .u8 (y43)))&&decide ((wr .u8 (y43))<256)) then ((appI 1 y44 ([(UInt8.ofNat (Int.toNat (wr .u8 (y43))))])).bind fun y46=>(F56_96_0 n ([]) a0.L ((a0.L.length:Int)) a0 a0 (n+7) 0 y46).bind fun o92=>match o92 with | y93=>some ((y93,0))) else none) else none)
theorem T56 (C:Nat->List A->Option A) (n:Nat) (h76:Orc76 C) (h94:Orc94 C) (a0:S_Value):J (fun (o:R) y=>∃ v,o.1=.ret v/\snapE o.2 v=(A.tup [(A.imm (List.map c8 y.1) false),(iA y.2)])) (evCall1 (cx C) (ec C n 8) (ey C n 8) (n+8) 56 [(A.agg [(iA a0.Kind),(iA a0.N),(A.v (Value.string a0.S)),(A.imm (List.map c_S_Value a0.L) false)])] [] 0) some (F56 n a0) some:=by
 refine .lp (e56 ..) ?_
 unfold F56
 refine .s ((A.ptr 0 0),[(hk56_2 a0)]) (.s (A.agg [(iA a0.Kind),(iA a0.N),(A.v (Value.string a0.S)),(A.imm (List.map c_S_Value a0.L) false)]) ?_)
 refine .bd (g:=fun (y:Int)=>(iA y)) (by show C 76 [snap _ (A.agg [(iA a0.Kind),(iA a0.N),(A.v (Value.string a0.S)),(A.imm (List.map c_S_Value a0.L) false)])]=_; simp only[sn0,snM]; exact h76 a0) fun y1=>?_
 refine .st (aBin_neq ..) ?_
 refine .biHN (fun hk2=>?_) (fun hk2=>?_)
 ·exact .lv (by show snapE _ (A.tup [(A.imm [] true),(iA y1)])=_; first | (simp only[sn0,snM,snapE]; done) | (simp only[sn0,snS,snapE]; first | done | rfl))
 refine .s (A.ptr 0 0) (.s (iA a0.Kind) (.s (A.agg [(iA a0.Kind),(iA a0.N),(A.v (Value.string a0.S)),(A.imm (List.map c_S_Value a0.L) false)]) ?_))
 refine .cT (by kernel_rfl) ?_
 refine .cl ((evCall_in lt_77).trans (e77 C (ec C n 7) (ey C n 7) (n+7) _ _)) ?_
 refine .s (A.agg [(A.v Value.nilFunc),(A.v Value.nilFunc),(A.v Value.nilFunc),(A.v Value.nilFunc)]) (.sq (A.ptr 1 0) (.sq (A.ptr 2 0) (.sh (.s (A.ptr 1 0) (.s (A.ptr 1 0) (.s (A.ptr 1 1) (.s (A.ptr 1 1) (.sh (.s (A.ptr 1 0) (.s (A.ptr 1 0) (.s (A.ptr 1 2) (.s (A.ptr 1 2) ?_))))))))))))
 refine .sh (.s (A.ptr 1 0) (.s (A.ptr 1 0) (.s (A.ptr 1 3) (.s (A.ptr 1 3) (.s [(hk56_2 a0),hk56_1,Blk.box [(A.ptr 1 0)]] (.s (A.ptr 1 0) ?_))))))
 refine .cr ?_
 refine .ok ?_
 refine .s (A.ptr 1 0) ?_
 refine .sp (fun hb3=>?_) (fun _=>?_)
 ·refine .st (v:=(A.ptr 1 0)) (by rw[of_decide_eq_true hb3]; kernel_rfl) ?_
  refine .s (A.ptr 1 0) (.s (A.v Value.nilFunc) ?_)
  exact .nn
 refine .sp (fun hb4=>?_) (fun _=>?_)
 ·refine .st (v:=(A.ptr 1 1)) (by rw[of_decide_eq_true hb4]; kernel_rfl) ?_
  refine .s (A.ptr 1 1) (.s (A.fn (Fn.func 92) [] []) ?_)
  refine .dC (by kernel_rfl) (by kernel_rfl) ?_
  refine .cl ((evCall_in lt_92).trans (e92 C (ec C n 7) (ey C n 7) (n+7) _ _ _ _)) ?_
  refine .s ((A.ptr 3 0),[(hk56_2 a0),hk56_1,Blk.box [(A.ptr 1 0)],(hk56_2 a0)]) (.s (A.imm [[(uA 1)]] true) ?_)
  refine .bd (g:=fun (y:List UInt8)=>((A.sl 4 0 y.length false),[(hk56_2 a0),hk56_1,Blk.box [(A.ptr 1 0)],(hk56_2 a0),Blk.row false 1 (List.map c8 y)])) (app_imm (e:=5) (es:=1) (by_:=1) (z:=[(uA 0)]) (by kernel_rfl) (by kernel_rfl) (by kernel_rfl) (by kernel_rfl) rfl (by decide) (by decide) (by kernel_rfl) (f:=c8) (fun _=>rfl) ce_c8 (l:=[]) (l2:=[(1:UInt8)]) (els_imm (f:=c8) ([(1:UInt8)]:List UInt8) _ _)) fun y5=>?_
  refine .cT (by kernel_rfl) ?_
  refine .s (A.ptr 3 1) ?_
  refine .cT (by kernel_rfl) ?_
  refine .s (iA a0.N) ?_
  refine .bd (g:=fun (y:Int)=>(A.v (.int .u64 y))) (h94 a0.N) fun y6=>?_
  refine .cl ((evCall_in lt_93).trans (e93 C (evCall (cx C) (n+6)) (evCallY (cx C) (n+6)) (n+6) _ _ _ _)) ?_
  refine .as (T56_93_0 C n h76 h94 ([]) a0 a0 _ _ _ _ ?_ _ y6 y5)
  ·intro y15 y16 j17
   refine .un rfl ?_
   refine .cT (by kernel_rfl) ?_
   refine .st (v:=(uA (wr .u8 (y15)))) (aConvert_int (hs:=by kernel_rfl) (hd:=by kernel_rfl) ..) ?_
   refine .gd fun hg=>?_
   refine .st (v:=(A.imm [[(uA (((UInt8.ofNat (Int.toNat (wr .u8 (y15)))).toNat:Int)))]] true)) (by rw[u8_back hg]; kernel_rfl) ?_
   refine .bd (g:=fun (y:List UInt8)=>((A.sl 4 0 y.length false),[(hk56_2 a0),hk56_1,Blk.box [(A.ptr 1 0)],(hk56_2 a0),Blk.row false 1 (List.map c8 y)])) (app_row (e:=5) (es:=1) (by_:=1) (z:=[(uA 0)]) (by kernel_rfl) (by kernel_rfl) (by kernel_rfl) (by kernel_rfl) rfl (by decide) (by decide) (by kernel_rfl) (f:=c8) (fun _=>rfl) ce_c8 (l:=y16) (l2:=[(UInt8.ofNat (Int.toNat (wr .u8 (y15))))]) (b:=4) rfl (by decide) (els_imm (f:=c8) ([(UInt8.ofNat (Int.toNat (wr .u8 (y15))))]:List UInt8) _ _)) fun y18=>?_
   refine .cr ?_
   refine .ok ?_
   refine .cr ?_
   refine .ok ?_
   exact .lv (by show snapE [(hk56_2 a0),hk56_1,Blk.box [(A.ptr 1 0)],(hk56_2 a0),Blk.row false 1 (List.map c8 y18)] (A.tup [(A.sl 4 0 y18.length false),(iA 0)])=_; first | (simp only[sn0,snM,snapE,snapGE_row (H:=[(hk56_2 a0),hk56_1,Blk.box [(A.ptr 1 0)],(hk56_2 a0),Blk.row false 1 (List.map c8 y18)]) (b:=4) (es:=1) (wr:=false) (l:=y18) fl_c8 rfl]; done) | (simp only[sn0,snS,snapE,snapGE_row (H:=[(hk56_2 a0),hk56_1,Blk.box [(A.ptr 1 0)],(hk56_2 a0),Blk.row false 1 (List.map c8 y18)]) (b:=4) (es:=1) (wr:=false) (l:=y18) fl_c8 rfl]; first | done | rfl))
 refine .sp (fun hb19=>?_) (fun _=>?_)
 ·refine .st (v:=(A.ptr 1 2)) (by rw[of_decide_eq_true hb19]; kernel_rfl) ?_
  refine .s (A.ptr 1 2) (.s (A.fn (Fn.func 95) [] []) ?_)
  refine .dC (by kernel_rfl) (by kernel_rfl) ?_
  refine .cl ((evCall_in lt_95).trans (e95 C (ec C n 7) (ey C n 7) (n+7) _ _ _ _)) ?_
  refine .s ((A.ptr 3 0),[(hk56_2 a0),hk56_1,Blk.box [(A.ptr 1 0)],(hk56_2 a0)]) (.s ((A.ip [(iA a0.Kind),(iA a0.N),(A.v (Value.string a0.S)),(A.imm (List.map c_S_Value a0.L) false)]),[(hk56_2 a0),hk56_1,Blk.box [(A.ptr 1 0)],Blk.dead]) ?_)
  refine .cT (by kernel_rfl) ?_
  refine .s (A.imm [[(uA 2)]] true) (.s (A.ip [(A.v (Value.string a0.S)),(A.imm (List.map c_S_Value a0.L) false)]) (.s (A.v (Value.string a0.S)) (.s (iA ((a0.S.size:Int))) ?_)))
  refine .st (v:=(A.v (.int .u64 (wr .u64 ((a0.S.size:Int)))))) (aConvert_int (hs:=by kernel_rfl) (hd:=by kernel_rfl) ..) ?_
  refine .s (A.ip [(A.v (Value.string a0.S)),(A.imm (List.map c_S_Value a0.L) false)]) (.s (A.v (Value.string a0.S)) ?_)
  refine .cT (by kernel_rfl) ?_
  refine .bd (g:=fun (y:List UInt8)=>((A.sl 4 0 y.length false),[(hk56_2 a0),hk56_1,Blk.box [(A.ptr 1 0)],Blk.dead,Blk.row false 1 (List.map c8 y)])) (app_imm (e:=5) (es:=1) (by_:=1) (z:=[(uA 0)]) (by kernel_rfl) (by kernel_rfl) (by kernel_rfl) (by kernel_rfl) rfl (by decide) (by decide) (by kernel_rfl) (f:=c8) (fun _=>rfl) ce_c8 (l:=[]) (l2:=[(2:UInt8)]) (els_imm (f:=c8) ([(2:UInt8)]:List UInt8) _ _)) fun y20=>?_
  refine .cT (by kernel_rfl) ?_
  refine .cl ((evCall_in lt_93).trans (e93 C (evCall (cx C) (n+6)) (evCallY (cx C) (n+6)) (n+6) _ _ _ _)) ?_
  refine .as (T56_93_0a C n h76 h94 ([]) a0 _ _ _ _ ?_ _ (wr .u64 ((a0.S.size:Int))) y20)
  ·intro y28 y29 j30
   refine .un rfl ?_
   refine .cT (by kernel_rfl) ?_
   refine .st (v:=(uA (wr .u8 (y28)))) (aConvert_int (hs:=by kernel_rfl) (hd:=by kernel_rfl) ..) ?_
   refine .gd fun hg=>?_
   refine .st (v:=(A.imm [[(uA (((UInt8.ofNat (Int.toNat (wr .u8 (y28)))).toNat:Int)))]] true)) (by rw[u8_back hg]; kernel_rfl) ?_
   refine .bd (g:=fun (y:List UInt8)=>((A.sl 4 0 y.length false),[(hk56_2 a0),hk56_1,Blk.box [(A.ptr 1 0)],Blk.dead,Blk.row false 1 (List.map c8 y)])) (app_row (e:=5) (es:=1) (by_:=1) (z:=[(uA 0)]) (by kernel_rfl) (by kernel_rfl) (by kernel_rfl) (by kernel_rfl) rfl (by decide) (by decide) (by kernel_rfl) (f:=c8) (fun _=>rfl) ce_c8 (l:=y29) (l2:=[(UInt8.ofNat (Int.toNat (wr .u8 (y28))))]) (b:=4) rfl (by decide) (els_imm (f:=c8) ([(UInt8.ofNat (Int.toNat (wr .u8 (y28))))]:List UInt8) _ _)) fun y31=>?_
   refine .cr ?_
   refine .ok ?_
   refine .bd (g:=fun (y:List UInt8)=>((A.sl 4 0 y.length false),[(hk56_2 a0),hk56_1,Blk.box [(A.ptr 1 0)],Blk.dead,Blk.row false 1 (List.map c8 y)])) (app_row (e:=5) (es:=1) (by_:=1) (z:=[(uA 0)]) (by kernel_rfl) (by kernel_rfl) (by kernel_rfl) (by kernel_rfl) rfl (by decide) (by decide) (by kernel_rfl) (f:=c8) (fun _=>rfl) ce_c8 (l:=y31) (l2:=bstrL a0.S) (b:=4) rfl (by decide) (els_str ..)) fun y32=>?_
   refine .cr ?_
   refine .ok ?_
   exact .lv (by show snapE [(hk56_2 a0),hk56_1,Blk.box [(A.ptr 1 0)],Blk.dead,Blk.row false 1 (List.map c8 y32)] (A.tup [(A.sl 4 0 y32.length false),(iA 0)])=_; first | (simp only[sn0,snM,snapE,snapGE_row (H:=[(hk56_2 a0),hk56_1,Blk.box [(A.ptr 1 0)],Blk.dead,Blk.row false 1 (List.map c8 y32)]) (b:=4) (es:=1) (wr:=false) (l:=y32) fl_c8 rfl]; done) | (simp only[sn0,snS,snapE,snapGE_row (H:=[(hk56_2 a0),hk56_1,Blk.box [(A.ptr 1 0)],Blk.dead,Blk.row false 1 (List.map c8 y32)]) (b:=4) (es:=1) (wr:=false) (l:=y32) fl_c8 rfl]; first | done | rfl))
 refine .sp (fun hb33=>?_) (fun _=>?_)
 ·refine .st (v:=(A.ptr 1 3)) (by rw[of_decide_eq_true hb33]; kernel_rfl) ?_
  refine .s (A.ptr 1 3) (.s (A.fn (Fn.func 96) [] [(A.ptr 2 0)]) ?_)
  refine .dC (by kernel_rfl) (by kernel_rfl) ?_
  refine .cl ((evCall_in lt_96).trans (e96 C (ec C n 7) (ey C n 7) (n+7) _ _ _ _ _)) ?_
  refine .s ((A.ptr 3 0),[(hk56_2 a0),hk56_1,Blk.box [(A.ptr 1 0)],(hk56_2 a0)]) (.s (A.imm [[(uA 3)]] true) ?_)
  refine .bd (g:=fun (y:List UInt8)=>((A.sl 4 0 y.length false),[(hk56_2 a0),hk56_1,Blk.box [(A.ptr 1 0)],(hk56_2 a0),Blk.row false 1 (List.map c8 y)])) (app_imm (e:=5) (es:=1) (by_:=1) (z:=[(uA 0)]) (by kernel_rfl) (by kernel_rfl) (by kernel_rfl) (by kernel_rfl) rfl (by decide) (by decide) (by kernel_rfl) (f:=c8) (fun _=>rfl) ce_c8 (l:=[]) (l2:=[(3:UInt8)]) (els_imm (f:=c8) ([(3:UInt8)]:List UInt8) _ _)) fun y34=>?_
  refine .cT (by kernel_rfl) ?_
  refine .s (A.ptr 3 3) ?_
  refine .cT (by kernel_rfl) ?_
  refine .s (A.imm (List.map c_S_Value a0.L) false) ?_
  refine .cT (by kernel_rfl) ?_
  refine .st (len_imm (e:=98) (h1:=by kernel_rfl) ..) ?_
  refine .cT (by kernel_rfl) ?_
  refine .st (v:=(A.v (.int .u64 (wr .u64 ((a0.L.length:Int)))))) (aConvert_int (hs:=by kernel_rfl) (hd:=by kernel_rfl) ..) ?_
  refine .cl ((evCall_in lt_93).trans (e93 C (evCall (cx C) (n+6)) (evCallY (cx C) (n+6)) (n+6) _ _ _ _)) ?_
  refine .as (T56_93_0 C n h76 h94 ([]) a0 a0 _ _ _ _ ?_ _ (wr .u64 ((a0.L.length:Int))) y34)
  ·intro y43 y44 j45
   refine .un rfl ?_
   refine .cT (by kernel_rfl) ?_
   refine .st (v:=(uA (wr .u8 (y43)))) (aConvert_int (hs:=by kernel_rfl) (hd:=by kernel_rfl) ..) ?_
   refine .gd fun hg=>?_
   refine .st (v:=(A.imm [[(uA (((UInt8.ofNat (Int.toNat (wr .u8 (y43)))).toNat:Int)))]] true)) (by rw[u8_back hg]; kernel_rfl) ?_
   refine .bd (g:=fun (y:List UInt8)=>((A.sl 4 0 y.length false),[(hk56_2 a0),hk56_1,Blk.box [(A.ptr 1 0)],(hk56_2 a0),Blk.row false 1 (List.map c8 y)])) (app_row (e:=5) (es:=1) (by_:=1) (z:=[(uA 0)]) (by kernel_rfl) (by kernel_rfl) (by kernel_rfl) (by kernel_rfl) rfl (by decide) (by decide) (by kernel_rfl) (f:=c8) (fun _=>rfl) ce_c8 (l:=y44) (l2:=[(UInt8.ofNat (Int.toNat (wr .u8 (y43))))]) (b:=4) rfl (by decide) (els_imm (f:=c8) ([(UInt8.ofNat (Int.toNat (wr .u8 (y43))))]:List UInt8) _ _)) fun y46=>?_
   refine .cr ?_
   refine .ok ?_
   refine .s (A.ptr 3 3) (.s (A.imm (List.map c_S_Value a0.L) false) ?_)
   refine .st (len_imm (e:=98) (h1:=by kernel_rfl) ..) ?_
   refine .as (T56_96_0 C n h76 h94 ([]) a0.L ((a0.L.length:Int)) a0 a0 _ _ _ _ ?_ _ 0 y46)
   ·intro y93 j94 j95 j96 j97 j98
    refine .un rfl ?_
    refine .cT (by kernel_rfl) ?_
    refine .cr ?_
    refine .ok ?_
    exact .lv (by show snapE [(hk56_2 a0),hk56_1,Blk.box [(A.ptr 1 0)],(hk56_2 a0),Blk.row false 1 (List.map c8 y93)] (A.tup [(A.sl 4 0 y93.length false),(iA 0)])=_; first | (simp only[sn0,snM,snapE,snapGE_row (H:=[(hk56_2 a0),hk56_1,Blk.box [(A.ptr 1 0)],(hk56_2 a0),Blk.row false 1 (List.map c8 y93)]) (b:=4) (es:=1) (wr:=false) (l:=y93) fl_c8 rfl]; done) | (simp only[sn0,snS,snapE,snapGE_row (H:=[(hk56_2 a0),hk56_1,Blk.box [(A.ptr 1 0)],(hk56_2 a0),Blk.row false 1 (List.map c8 y93)]) (b:=4) (es:=1) (wr:=false) (l:=y93) fl_c8 rfl]; first | done | rfl))
 exact .nn
def G56 (a0:S_Value):Option ((List UInt8)×Int):=F56 fuel0 a0
def Orc56 (C:Nat->List A->Option A):Prop:=∀ (a0:S_Value),C 56 [(A.agg [(iA a0.Kind),(iA a0.N),(A.v (Value.string a0.S)),(A.imm (List.map c_S_Value a0.L) false)])]=(G56 a0).map fun y=>(A.tup [(A.imm (List.map c8 y.1) false),(iA y.2)])
def F29_29_0 (n:Nat) (v1:(List UInt8)) (v2:(List Int)) (v3:Int) (v5:Int) (v6:Int) (v7:ByteArray):Nat->Int->(List S_Value)->Option ((List S_Value))
 | 0,_,_=>none
 | m+1,v4,v8=>bif (decide (v4<v3)) then ((getI v2 v4).bind fun y10=>(appI 56 v8 ([(S_Value.mk 1 y10 ByteArray.empty ([]))])).bind fun y11=>F29_29_0 n v1 v2 v3 v5 v6 v7 m (wr .i64 (v4+1)) y11) else (some v8)
theorem T29_29_0 (C:Nat->List A->Option A) (n:Nat) (h56:Orc56 C) (v1:(List UInt8)) (v2:(List Int)) (v3:Int) (v5:Int) (v6:Int) (v7:ByteArray) {ρ γ:Type} {φ:ρ->γ->Prop} {kL:R->Option ρ} {K:((List S_Value))->Option γ} (kx kg:Nat->St->Option R) (kr:St->Option R) (kp:A->St->Option R) (x0:∀ (o0:(List S_Value)) (s2:A) (s9:A) (s10:A) (s11:A),J φ (kx 0 (St.mk [(2,s2),(3,(A.ptr 0 0)),(9,s9),(10,s10),(11,s11)] [Blk.box [(iA v5),(iA v6),(A.v (Value.string v7)),(A.sl 1 0 o0.length false)],Blk.row false 4 (List.map c_S_Value o0)])) kL (K o0) some) :
  ∀ (m:Nat) (v4:Int) (v8:(List S_Value)),J φ (loopR (cx C) (ec C n 8) (ey C n 8) (n+8) 29 0 0 2 kx kg kr kp m (St.mk [(2,(A.imm (List.map c8 v1) true)),(3,(A.ptr 0 0)),(9,(A.imm (List.map (cI .i64) v2) false)),(10,(iA v3)),(11,(iA v4))] [Blk.box [(iA v5),(iA v6),(A.v (Value.string v7)),(A.sl 1 0 v8.length false)],Blk.row false 4 (List.map c_S_Value v8)])) kL (F29_29_0 n v1 v2 v3 v5 v6 v7 m v4 v8) K:=by
 intro m
 induction m with
 | zero=>intros; exact .nn
 | succ m ih =>
  intro v4 v8
  refine .lp (e29_0 ..) ?_
  unfold F29_29_0
  refine .st (aBin_lss ..) ?_
  refine .biHN (fun hk9=>?_) (fun hk9=>?_)
  ·refine .bd (g:=fun (y:Int)=>A.ip ((cI .i64) y)) (idx_imm (e:=3) (es:=1) (h1:=by kernel_rfl) (h2:=by kernel_rfl) (h3:=fun _=>rfl) ..) fun y10=>?_
   refine .s (iA y10) (.s (A.ptr 0 3) (.s (A.sl 1 0 v8.length false) (.s (A.agg [(iA 1),(iA y10),(A.v (Value.string ByteArray.empty)),(A.imm [] true)]) (.s (A.imm [[(iA 1),(iA y10),(A.v (Value.string ByteArray.empty)),(A.imm [] false)]] true) ?_))))
   refine .bd (g:=fun (y:List S_Value)=>((A.sl 1 0 y.length false),[Blk.box [(iA v5),(iA v6),(A.v (Value.string v7)),(A.sl 1 0 v8.length false)],Blk.row false 4 (List.map c_S_Value y)])) (app_row (e:=98) (es:=4) (by_:=56) (z:=[(iA 0),(iA 0),(A.v (Value.string ByteArray.empty)),(A.imm [] true)]) (by kernel_rfl) (by kernel_rfl) (by kernel_rfl) (by kernel_rfl) rfl (by decide) (by decide) (by kernel_rfl) (f:=c_S_Value) (fun _=>rfl) ce_S_Value (l:=v8) (l2:=[(S_Value.mk 1 y10 ByteArray.empty ([]))]) (b:=1) rfl (by decide) (els_lit (f:=c_S_Value) (l:=([(S_Value.mk 1 y10 ByteArray.empty ([]))]:List S_Value)) (by simp only[List.map_cons,List.map_nil,cq_S_Value]))) fun y11=>?_
   refine .s (A.ptr 0 3) (.sh ?_)
   refine .st (aBin_add ..) ?_
   refine .s [Blk.box [(iA v5),(iA v6),(A.v (Value.string v7)),(A.sl 1 0 y11.length false)],Blk.row false 4 (List.map c_S_Value y11)] ?_
   refine .cT (by kernel_rfl) ?_
   exact ih _ _
  exact .ex (x0 _ _ _ _ _)
def F29 (n:Nat) (a0:(List Int)):Option (List UInt8) :=
 (F29_29_0 n ([]) a0 ((a0.length:Int)) 3 0 ByteArray.empty (n+8) 0 (([]:List S_Value))).bind fun o12=>match o12 with | y13=>(G56 ((S_Value.mk 3 0 ByteArray.empty y13))).bind fun y18=>some y18.1
theorem T29 (C:Nat->List A->Option A) (n:Nat) (h56:Orc56 C) (a0:(List Int)):J (fun (o:R) y=>∃ v,o.1=.ret v/\snapE o.2 v=(A.imm (List.map c8 y) false)) (evCall1 (cx C) (ec C n 8) (ey C n 8) (n+8) 29 [(A.imm (List.map (cI .i64) a0) false)] [] 0) some (F29 n a0) some:=by
 refine .lp (e29 ..) ?_
 unfold F29
 refine .s (A.agg [(iA 3),(iA 0),(A.v (Value.string ByteArray.empty)),(A.imm [] true)]) (.sq (A.ptr 0 0) (.s [Blk.box [(iA 3),(iA 0),(A.v (Value.string ByteArray.empty)),(A.imm [] true)]] ?_))
 refine .st (len_imm (e:=3) (h1:=by kernel_rfl) ..) ?_
 refine .as (T29_29_0 C n h56 ([]) a0 ((a0.length:Int)) 3 0 ByteArray.empty _ _ _ _ ?_ _ 0 (([]:List S_Value)))
 ·intro y13 j14 j15 j16 j17
  refine .un rfl ?_
  refine .cT (by kernel_rfl) ?_
  refine .s (A.agg [(iA 3),(iA 0),(A.v (Value.string ByteArray.empty)),(A.sl 1 0 y13.length false)]) ?_
  refine .bd (g:=fun (y:((List UInt8)×Int))=>(A.tup [(A.imm (List.map c8 y.1) false),(iA y.2)])) (by show C 56 [snap [Blk.box [(iA 3),(iA 0),(A.v (Value.string ByteArray.empty)),(A.sl 1 0 y13.length false)],Blk.row false 4 (List.map c_S_Value y13)] (A.agg [(iA 3),(iA 0),(A.v (Value.string ByteArray.empty)),(A.sl 1 0 y13.length false)])]=_; simp only[sn0,snM,snapG_row (H:=[Blk.box [(iA 3),(iA 0),(A.v (Value.string ByteArray.empty)),(A.sl 1 0 y13.length false)],Blk.row false 4 (List.map c_S_Value y13)]) (b:=1) (es:=4) (l:=y13) fl_S_Value rfl]; exact h56 ((S_Value.mk 3 0 ByteArray.empty y13))) fun y18=>?_
  refine .s (A.imm (List.map c8 y18.1) false) (.s (iA y18.2) ?_)
  exact .lv (by show snapE _ (A.imm (List.map c8 y18.1) false)=_; first | (simp only[sn0,snM,snapE]; done) | (simp only[sn0,snS,snapE]; first | done | rfl))
def G29 (a0:(List Int)):Option (List UInt8):=F29 fuel0 a0
def Orc29 (C:Nat->List A->Option A):Prop:=∀ (a0:(List Int)),C 29 [(A.imm (List.map (cI .i64) a0) false)]=(G29 a0).map fun y=>(A.imm (List.map c8 y) false)
def F9_55_0 (n:Nat) (v5:(List Bool)) (v6:Int) (v8:S_Replica) (v9:S_Replica):Nat->(List S_Lease)->(List S_Call)->Int->(List (List UInt8))->Option (((List (List UInt8))×Bool×Int×Int×Int×Int×Int)⊕((List (List UInt8))))
 | 0,_,_,_,_=>none
 | m+1,v3,v4,v7,v10=>bif (decide (v7<v6)) then ((getI v5 v7).bind fun y12=>(bif y12 then (some (decide (0<((v3.length:Int))))) else (some false)).bind fun y14=>bif y14 then ((getI v3 0).bind fun y19=>(subI v3 1 ((v3.length:Int))).bind fun y20=>bif y12 then ((G29 ([1,y19.No,y19.Holder,y19.Until])).bind fun y22=>(appI 24 v10 ([y22])).bind fun y23=>F9_55_0 n v5 v6 v8 v9 m y20 v4 (wr .i64 (v7+1)) y23) else ((G29 ([2,0,0])).bind fun y24=>(appI 24 v10 ([y24])).bind fun y25=>F9_55_0 n v5 v6 v8 v9 m y20 v4 (wr .i64 (v7+1)) y25)) else ((bif (!y12) then (some (decide (0<((v4.length:Int))))) else (some false)).bind fun y27=>bif y27 then ((getI v4 0).bind fun y32=>(subI v4 1 ((v4.length:Int))).bind fun y33=>bif y12 then ((G29 ([1,0,0,0])).bind fun y35=>(appI 24 v10 ([y35])).bind fun y36=>F9_55_0 n v5 v6 v8 v9 m v3 y33 (wr .i64 (v7+1)) y36) else ((G29 ([2,y32.Bar,y32.Program])).bind fun y37=>(appI 24 v10 ([y37])).bind fun y38=>F9_55_0 n v5 v6 v8 v9 m v3 y33 (wr .i64 (v7+1)) y38)) else (some ((Sum.inl ((v10,y12,0,0,0,0,0))))))) else (some ((Sum.inr v10)))
theorem T9_55_0 (C:Nat->List A->Option A) (n:Nat) (h20:Orc20 C) (h29:Orc29 C) (v5:(List Bool)) (v6:Int) (v8:S_Replica) (v9:S_Replica) {ρ γ:Type} {φ:ρ->γ->Prop} {kL:R->Option ρ} {K:(((List (List UInt8))×Bool×Int×Int×Int×Int×Int)⊕((List (List UInt8))))->Option γ} (kx kg:Nat->St->Option R) (kr:St->Option R) (kp:A->St->Option R) (x0:∀ (o0:(List (List UInt8))) (o1:Bool) (o2:Int) (o3:Int) (o4:Int) (o5:Int) (o6:Int) (s0:A) (s3:A) (s4:A) (s13:A) (s14:A) (s15:A),J φ (kr (St.mk [(0,s0),(3,s3),(4,s4),(13,s13),(14,s14),(15,s15)] [Blk.box (c_S_Replica v8),Blk.box [(A.sl 3 0 o0.length false)],Blk.box (c_S_Replica v9),Blk.row false 1 (List.map (cL c8) o0),Blk.rng RSt.ready,Blk.box [(bA o1),(iA o2),(iA o3),(iA o4),(iA o5),(iA o6)]])) kL (K (Sum.inl ((o0,o1,o2,o3,o4,o5,o6)))) some) (x1:∀ (o0:(List (List UInt8))) (s0:A) (s3:A) (s4:A) (s13:A) (s14:A) (s15:A),J φ (kx 0 (St.mk [(0,s0),(3,s3),(4,s4),(13,s13),(14,s14),(15,s15)] [Blk.box (c_S_Replica v8),Blk.box [(A.sl 3 0 o0.length false)],Blk.box (c_S_Replica v9),Blk.row false 1 (List.map (cL c8) o0),Blk.rng RSt.ready])) kL (K (Sum.inr o0)) some) :
  ∀ (m:Nat) (v3:(List S_Lease)) (v4:(List S_Call)) (v7:Int) (v10:(List (List UInt8))),J φ (loopR (cx C) (evCallY (cx C) (n+7) (yext 124 (evCall (cx C) (n+8)) 4 (roundR (cx C) (ec C n 8) (ey C n 8) (n+8) 9 0 0 4 [(2,(A.ptr 1 0))]))) (evCallY (cx C) (n+7)) (n+7) 55 0 0 5 kx kg kr kp m (St.mk [(0,(A.yld 4)),(3,(A.imm (List.map c_S_Lease v3) false)),(4,(A.imm (List.map c_S_Call v4) false)),(13,(A.imm (List.map cB v5) false)),(14,(iA v6)),(15,(iA v7))] [Blk.box (c_S_Replica v8),Blk.box [(A.sl 3 0 v10.length false)],Blk.box (c_S_Replica v9),Blk.row false 1 (List.map (cL c8) v10),Blk.rng RSt.ready])) kL (F9_55_0 n v5 v6 v8 v9 m v3 v4 v7 v10) K:=by
 intro m
 induction m with
 | zero=>intros; exact .nn
 | succ m ih =>
  intro v3 v4 v7 v10
  refine .lp (e55_0 ..) ?_
  unfold F9_55_0
  refine .st (aBin_lss ..) ?_
  refine .biHN (fun hk11=>?_) (fun hk11=>?_)
  ·refine .bd (g:=fun (y:Bool)=>A.ip (cB y)) (idx_imm (e:=4) (es:=1) (h1:=by kernel_rfl) (h2:=by kernel_rfl) (h3:=fun _=>rfl) ..) fun y12=>?_
   refine .s (bA y12) (.s (A.agg [(bA y12),(iA 0),(iA 0),(iA 0),(iA 0),(iA 0)]) (.sq (A.ptr 5 0) (.s [Blk.box (c_S_Replica v8),Blk.box [(A.sl 3 0 v10.length false)],Blk.box (c_S_Replica v9),Blk.row false 1 (List.map (cL c8) v10),Blk.rng RSt.ready,Blk.box [(bA y12),(iA 0),(iA 0),(iA 0),(iA 0),(iA 0)]] ?_)))
   refine .bg (fun t (y:Bool)=>∃ j15 j16 j17:A,t=[(bA y),j15,j16,j17]) ?_ ?_
   ·refine .biH (fun hk13=>?_) (fun hk13=>?_)
    ·refine .st (len_imm (e:=59) (h1:=by kernel_rfl) ..) ?_
     refine .st (aBin_gtr ..) ?_
     exact .lg ⟨_,_,_,rfl⟩
    exact .lg ⟨_,_,_,rfl⟩
   rintro _ y14 ⟨j15,j16,j17,rfl⟩
   iterate 4 refine .uc ?_
   refine .biHN (fun hk18=>?_) (fun hk18=>?_)
   ·refine .bd (g:=fun (y:S_Lease)=>A.ip (c_S_Lease y)) (idx_imm (e:=59) (es:=3) (h1:=by kernel_rfl) (h2:=by kernel_rfl) (h3:=fun _=>rfl) ..) fun y19=>?_
    refine .s (A.agg (c_S_Lease y19)) ?_
    refine .bd (g:=fun (y:List S_Lease)=>(A.imm (List.map c_S_Lease y) false)) (cut_imm (e:=59) (es:=3) (f:=c_S_Lease) (l:=v3) (a:=1) (b:=(v3.length:Int)) (by kernel_rfl) (by kernel_rfl) (fun _=>rfl) (.inr ⟨_,rfl⟩) (.inl ⟨rfl,rfl⟩)) fun y20=>?_
    refine .s (A.ptr 5 1) ?_
    refine .cT (by kernel_rfl) ?_
    refine .s [Blk.box (c_S_Replica v8),Blk.box [(A.sl 3 0 v10.length false)],Blk.box (c_S_Replica v9),Blk.row false 1 (List.map (cL c8) v10),Blk.rng RSt.ready,Blk.box ([(bA y12)]++c_S_Lease y19++[(iA 0),(iA 0)])] (.s (A.agg ([(bA y12)]++c_S_Lease y19++[(iA 0),(iA 0)])) ?_)
    refine .dY rfl ?_
    refine .cl (yq.trans (yext_at.trans (e9_r0 C (ec C n 8) (ey C n 8) (n+8) _ _ _ _ _ _ _))) ?_
    refine .cT (by kernel_rfl) ?_
    refine .lp (rdy_at rfl) ?_
    refine .sq (A.ptr 6 0) (.s [Blk.box (c_S_Replica v8),Blk.box [(A.sl 3 0 v10.length false)],Blk.box (c_S_Replica v9),Blk.row false 1 (List.map (cL c8) v10),Blk.rng RSt.ready,Blk.box ([(bA y12)]++c_S_Lease y19++[(iA 0),(iA 0)]),Blk.box ([(bA y12)]++c_S_Lease y19++[(iA 0),(iA 0)])] ?_)
    refine .lp (rdy_at rfl) ?_
    refine .s (A.ptr 6 0) (.s (bA y12) ?_)
    refine .biHN (fun hk21=>?_) (fun hk21=>?_)
    ·refine .s (A.sl 3 0 v10.length false) (.s (A.ptr 6 1) (.s (A.ptr 6 1) (.s (iA y19.No) (.s (A.ptr 6 1) (.s (A.ptr 6 2) (.s (iA y19.Holder) (.s (A.ptr 6 1) (.s (A.ptr 6 3) (.s (iA y19.Until) (.s (A.imm [[(iA 1)],[(iA y19.No)],[(iA y19.Holder)],[(iA y19.Until)]] true) ?_))))))))))
     refine .bd (g:=fun (y:(List UInt8))=>(A.imm (List.map c8 y) false)) (by show C 29 [snap _ (A.imm [[(iA 1)],[(iA y19.No)],[(iA y19.Holder)],[(iA y19.Until)]] true)]=_; simp only[sn0,snM,snapG_row (H:=[Blk.box (c_S_Replica v8),Blk.box [(A.sl 3 0 v10.length false)],Blk.box (c_S_Replica v9),Blk.row false 1 (List.map (cL c8) v10),Blk.rng RSt.busy,Blk.box ([(bA y12)]++c_S_Lease y19++[(iA 0),(iA 0)]),Blk.box ([(bA y12)]++c_S_Lease y19++[(iA 0),(iA 0)])]) (b:=3) (es:=1) (l:=v10) (fl_cL fl_c8) rfl]; exact h29 ([1,y19.No,y19.Holder,y19.Until])) fun y22=>?_
     refine .s (A.imm [[(A.imm (List.map c8 y22) false)]] true) ?_
     refine .bd (g:=fun (y:List (List UInt8))=>((A.sl 3 0 y.length false),[Blk.box (c_S_Replica v8),Blk.box [(A.sl 3 0 v10.length false)],Blk.box (c_S_Replica v9),Blk.row false 1 (List.map (cL c8) y),Blk.rng RSt.busy,Blk.box ([(bA y12)]++c_S_Lease y19++[(iA 0),(iA 0)]),Blk.box ([(bA y12)]++c_S_Lease y19++[(iA 0),(iA 0)])])) (app_row (e:=30) (es:=1) (by_:=24) (z:=[(A.imm [] true)]) (by kernel_rfl) (by kernel_rfl) (by kernel_rfl) (by kernel_rfl) rfl (by decide) (by decide) (by kernel_rfl) (f:=(cL c8)) (fun _=>rfl) ce_cL (l:=v10) (l2:=[y22]) (b:=3) rfl (by decide) (els_imm (f:=(cL c8)) ([y22]:List (List UInt8)) _ _)) fun y23=>?_
     refine .s [Blk.box (c_S_Replica v8),Blk.box [(A.sl 3 0 y23.length false)],Blk.box (c_S_Replica v9),Blk.row false 1 (List.map (cL c8) y23),Blk.rng RSt.busy,Blk.box ([(bA y12)]++c_S_Lease y19++[(iA 0),(iA 0)]),Blk.box ([(bA y12)]++c_S_Lease y19++[(iA 0),(iA 0)])] ?_
     refine .lp (bsy_at rfl) ?_
     refine .cr ?_
     refine .ok ?_
     refine .s (bA false) ?_
     refine .bFN ?_
     refine .st (aBin_add ..) ?_
     refine .st (v:=[Blk.box (c_S_Replica v8),Blk.box [(A.sl 3 0 y23.length false)],Blk.box (c_S_Replica v9),Blk.row false 1 (List.map (cL c8) y23),Blk.rng RSt.ready]) ((by kernel_rfl:_=(bif ((((underss 5 (List.map c_S_Lease v8.Leases))&&((underss 5 (List.map c_S_Call v8.Calls))&&((underss 5 (List.map cB v8.Order))&&true))))&&((((underss 5 (List.map c_S_Lease v9.Leases))&&((underss 5 (List.map c_S_Call v9.Calls))&&((underss 5 (List.map cB v9.Order))&&true))))&&((underss 5 (List.map (cL c8) y23))&&true))) then some [Blk.box (c_S_Replica v8),Blk.box [(A.sl 3 0 y23.length false)],Blk.box (c_S_Replica v9),Blk.row false 1 (List.map (cL c8) y23),Blk.rng RSt.ready] else none)).trans (by simp only[un0,unS])) ?_
     refine .cT ((by kernel_rfl:_=(bif underss 5 (List.map c_S_Lease y20) then (bif underss 5 (List.map c_S_Call v4) then (bif underss 5 (List.map cB v5) then true else false) else false) else false)).trans (by simp only[un0,unS])) ?_
     exact ih _ _ _ _
    refine .s (A.sl 3 0 v10.length false) (.s (A.ptr 6 4) (.s (A.ptr 6 4) (.s (iA 0) (.s (A.ptr 6 4) (.s (A.ptr 6 5) (.s (iA 0) (.s (A.imm [[(iA 2)],[(iA 0)],[(iA 0)]] true) ?_)))))))
    refine .bd (g:=fun (y:(List UInt8))=>(A.imm (List.map c8 y) false)) (by show C 29 [snap _ (A.imm [[(iA 2)],[(iA 0)],[(iA 0)]] true)]=_; simp only[sn0,snM,snapG_row (H:=[Blk.box (c_S_Replica v8),Blk.box [(A.sl 3 0 v10.length false)],Blk.box (c_S_Replica v9),Blk.row false 1 (List.map (cL c8) v10),Blk.rng RSt.busy,Blk.box ([(bA y12)]++c_S_Lease y19++[(iA 0),(iA 0)]),Blk.box ([(bA y12)]++c_S_Lease y19++[(iA 0),(iA 0)])]) (b:=3) (es:=1) (l:=v10) (fl_cL fl_c8) rfl]; exact h29 ([2,0,0])) fun y24=>?_
    refine .s (A.imm [[(A.imm (List.map c8 y24) false)]] true) ?_
    refine .bd (g:=fun (y:List (List UInt8))=>((A.sl 3 0 y.length false),[Blk.box (c_S_Replica v8),Blk.box [(A.sl 3 0 v10.length false)],Blk.box (c_S_Replica v9),Blk.row false 1 (List.map (cL c8) y),Blk.rng RSt.busy,Blk.box ([(bA y12)]++c_S_Lease y19++[(iA 0),(iA 0)]),Blk.box ([(bA y12)]++c_S_Lease y19++[(iA 0),(iA 0)])])) (app_row (e:=30) (es:=1) (by_:=24) (z:=[(A.imm [] true)]) (by kernel_rfl) (by kernel_rfl) (by kernel_rfl) (by kernel_rfl) rfl (by decide) (by decide) (by kernel_rfl) (f:=(cL c8)) (fun _=>rfl) ce_cL (l:=v10) (l2:=[y24]) (b:=3) rfl (by decide) (els_imm (f:=(cL c8)) ([y24]:List (List UInt8)) _ _)) fun y25=>?_
    refine .s [Blk.box (c_S_Replica v8),Blk.box [(A.sl 3 0 y25.length false)],Blk.box (c_S_Replica v9),Blk.row false 1 (List.map (cL c8) y25),Blk.rng RSt.busy,Blk.box ([(bA y12)]++c_S_Lease y19++[(iA 0),(iA 0)]),Blk.box ([(bA y12)]++c_S_Lease y19++[(iA 0),(iA 0)])] ?_
    refine .lp (bsy_at rfl) ?_
    refine .cr ?_
    refine .ok ?_
    refine .s (bA false) ?_
    refine .bFN ?_
    refine .st (aBin_add ..) ?_
    refine .st (v:=[Blk.box (c_S_Replica v8),Blk.box [(A.sl 3 0 y25.length false)],Blk.box (c_S_Replica v9),Blk.row false 1 (List.map (cL c8) y25),Blk.rng RSt.ready]) ((by kernel_rfl:_=(bif ((((underss 5 (List.map c_S_Lease v8.Leases))&&((underss 5 (List.map c_S_Call v8.Calls))&&((underss 5 (List.map cB v8.Order))&&true))))&&((((underss 5 (List.map c_S_Lease v9.Leases))&&((underss 5 (List.map c_S_Call v9.Calls))&&((underss 5 (List.map cB v9.Order))&&true))))&&((underss 5 (List.map (cL c8) y25))&&true))) then some [Blk.box (c_S_Replica v8),Blk.box [(A.sl 3 0 y25.length false)],Blk.box (c_S_Replica v9),Blk.row false 1 (List.map (cL c8) y25),Blk.rng RSt.ready] else none)).trans (by simp only[un0,unS])) ?_
    refine .cT ((by kernel_rfl:_=(bif underss 5 (List.map c_S_Lease y20) then (bif underss 5 (List.map c_S_Call v4) then (bif underss 5 (List.map cB v5) then true else false) else false) else false)).trans (by simp only[un0,unS])) ?_
    exact ih _ _ _ _
   refine .s (bA (!y12)) ?_
   refine .bg (fun t (y:Bool)=>∃ j28 j29 j30:A,t=[(bA y),j28,j29,j30]) ?_ ?_
   ·refine .biH (fun hk26=>?_) (fun hk26=>?_)
    ·refine .st (len_imm (e:=62) (h1:=by kernel_rfl) ..) ?_
     refine .st (aBin_gtr ..) ?_
     exact .lg ⟨_,_,_,rfl⟩
    exact .lg ⟨_,_,_,rfl⟩
   rintro _ y27 ⟨j28,j29,j30,rfl⟩
   iterate 4 refine .uc ?_
   refine .biHN (fun hk31=>?_) (fun hk31=>?_)
   ·refine .bd (g:=fun (y:S_Call)=>A.ip (c_S_Call y)) (idx_imm (e:=62) (es:=2) (h1:=by kernel_rfl) (h2:=by kernel_rfl) (h3:=fun _=>rfl) ..) fun y32=>?_
    refine .s (A.agg [(iA y32.Bar),(iA y32.Program)]) ?_
    refine .bd (g:=fun (y:List S_Call)=>(A.imm (List.map c_S_Call y) false)) (cut_imm (e:=62) (es:=2) (f:=c_S_Call) (l:=v4) (a:=1) (b:=(v4.length:Int)) (by kernel_rfl) (by kernel_rfl) (fun _=>rfl) (.inr ⟨_,rfl⟩) (.inl ⟨rfl,rfl⟩)) fun y33=>?_
    refine .s (A.ptr 5 4) ?_
    refine .cT (by kernel_rfl) ?_
    refine .s [Blk.box (c_S_Replica v8),Blk.box [(A.sl 3 0 v10.length false)],Blk.box (c_S_Replica v9),Blk.row false 1 (List.map (cL c8) v10),Blk.rng RSt.ready,(hk20_2 y12 y32)] (.s (A.agg [(bA y12),(iA 0),(iA 0),(iA 0),(iA y32.Bar),(iA y32.Program)]) ?_)
    refine .dY rfl ?_
    refine .cl (yq.trans (yext_at.trans (e9_r0 C (ec C n 8) (ey C n 8) (n+8) _ _ _ _ _ _ _))) ?_
    refine .cT (by kernel_rfl) ?_
    refine .lp (rdy_at rfl) ?_
    refine .sq (A.ptr 6 0) (.s [Blk.box (c_S_Replica v8),Blk.box [(A.sl 3 0 v10.length false)],Blk.box (c_S_Replica v9),Blk.row false 1 (List.map (cL c8) v10),Blk.rng RSt.ready,(hk20_2 y12 y32),(hk20_2 y12 y32)] ?_)
    refine .lp (rdy_at rfl) ?_
    refine .s (A.ptr 6 0) (.s (bA y12) ?_)
    refine .biHN (fun hk34=>?_) (fun hk34=>?_)
    ·refine .s (A.sl 3 0 v10.length false) (.s (A.ptr 6 1) (.s (A.ptr 6 1) (.s (iA 0) (.s (A.ptr 6 1) (.s (A.ptr 6 2) (.s (iA 0) (.s (A.ptr 6 1) (.s (A.ptr 6 3) (.s (iA 0) (.s (A.imm [[(iA 1)],[(iA 0)],[(iA 0)],[(iA 0)]] true) ?_))))))))))
     refine .bd (g:=fun (y:(List UInt8))=>(A.imm (List.map c8 y) false)) (by show C 29 [snap _ (A.imm [[(iA 1)],[(iA 0)],[(iA 0)],[(iA 0)]] true)]=_; simp only[sn0,snM,snapG_row (H:=[Blk.box (c_S_Replica v8),Blk.box [(A.sl 3 0 v10.length false)],Blk.box (c_S_Replica v9),Blk.row false 1 (List.map (cL c8) v10),Blk.rng RSt.busy,(hk20_2 y12 y32),(hk20_2 y12 y32)]) (b:=3) (es:=1) (l:=v10) (fl_cL fl_c8) rfl]; exact h29 ([1,0,0,0])) fun y35=>?_
     refine .s (A.imm [[(A.imm (List.map c8 y35) false)]] true) ?_
     refine .bd (g:=fun (y:List (List UInt8))=>((A.sl 3 0 y.length false),[Blk.box (c_S_Replica v8),Blk.box [(A.sl 3 0 v10.length false)],Blk.box (c_S_Replica v9),Blk.row false 1 (List.map (cL c8) y),Blk.rng RSt.busy,(hk20_2 y12 y32),(hk20_2 y12 y32)])) (app_row (e:=30) (es:=1) (by_:=24) (z:=[(A.imm [] true)]) (by kernel_rfl) (by kernel_rfl) (by kernel_rfl) (by kernel_rfl) rfl (by decide) (by decide) (by kernel_rfl) (f:=(cL c8)) (fun _=>rfl) ce_cL (l:=v10) (l2:=[y35]) (b:=3) rfl (by decide) (els_imm (f:=(cL c8)) ([y35]:List (List UInt8)) _ _)) fun y36=>?_
     refine .s [Blk.box (c_S_Replica v8),Blk.box [(A.sl 3 0 y36.length false)],Blk.box (c_S_Replica v9),Blk.row false 1 (List.map (cL c8) y36),Blk.rng RSt.busy,(hk20_2 y12 y32),(hk20_2 y12 y32)] ?_
     refine .lp (bsy_at rfl) ?_
     refine .cr ?_
     refine .ok ?_
     refine .s (bA false) ?_
     refine .bFN ?_
     refine .st (aBin_add ..) ?_
     refine .st (v:=[Blk.box (c_S_Replica v8),Blk.box [(A.sl 3 0 y36.length false)],Blk.box (c_S_Replica v9),Blk.row false 1 (List.map (cL c8) y36),Blk.rng RSt.ready]) ((by kernel_rfl:_=(bif ((((underss 5 (List.map c_S_Lease v8.Leases))&&((underss 5 (List.map c_S_Call v8.Calls))&&((underss 5 (List.map cB v8.Order))&&true))))&&((((underss 5 (List.map c_S_Lease v9.Leases))&&((underss 5 (List.map c_S_Call v9.Calls))&&((underss 5 (List.map cB v9.Order))&&true))))&&((underss 5 (List.map (cL c8) y36))&&true))) then some [Blk.box (c_S_Replica v8),Blk.box [(A.sl 3 0 y36.length false)],Blk.box (c_S_Replica v9),Blk.row false 1 (List.map (cL c8) y36),Blk.rng RSt.ready] else none)).trans (by simp only[un0,unS])) ?_
     refine .cT ((by kernel_rfl:_=(bif underss 5 (List.map c_S_Lease v3) then (bif underss 5 (List.map c_S_Call y33) then (bif underss 5 (List.map cB v5) then true else false) else false) else false)).trans (by simp only[un0,unS])) ?_
     exact ih _ _ _ _
    refine .s (A.sl 3 0 v10.length false) (.s (A.ptr 6 4) (.s (A.ptr 6 4) (.s (iA y32.Bar) (.s (A.ptr 6 4) (.s (A.ptr 6 5) (.s (iA y32.Program) (.s (A.imm [[(iA 2)],[(iA y32.Bar)],[(iA y32.Program)]] true) ?_)))))))
    refine .bd (g:=fun (y:(List UInt8))=>(A.imm (List.map c8 y) false)) (by show C 29 [snap _ (A.imm [[(iA 2)],[(iA y32.Bar)],[(iA y32.Program)]] true)]=_; simp only[sn0,snM,snapG_row (H:=[Blk.box (c_S_Replica v8),Blk.box [(A.sl 3 0 v10.length false)],Blk.box (c_S_Replica v9),Blk.row false 1 (List.map (cL c8) v10),Blk.rng RSt.busy,(hk20_2 y12 y32),(hk20_2 y12 y32)]) (b:=3) (es:=1) (l:=v10) (fl_cL fl_c8) rfl]; exact h29 ([2,y32.Bar,y32.Program])) fun y37=>?_
    refine .s (A.imm [[(A.imm (List.map c8 y37) false)]] true) ?_
    refine .bd (g:=fun (y:List (List UInt8))=>((A.sl 3 0 y.length false),[Blk.box (c_S_Replica v8),Blk.box [(A.sl 3 0 v10.length false)],Blk.box (c_S_Replica v9),Blk.row false 1 (List.map (cL c8) y),Blk.rng RSt.busy,(hk20_2 y12 y32),(hk20_2 y12 y32)])) (app_row (e:=30) (es:=1) (by_:=24) (z:=[(A.imm [] true)]) (by kernel_rfl) (by kernel_rfl) (by kernel_rfl) (by kernel_rfl) rfl (by decide) (by decide) (by kernel_rfl) (f:=(cL c8)) (fun _=>rfl) ce_cL (l:=v10) (l2:=[y37]) (b:=3) rfl (by decide) (els_imm (f:=(cL c8)) ([y37]:List (List UInt8)) _ _)) fun y38=>?_
    refine .s [Blk.box (c_S_Replica v8),Blk.box [(A.sl 3 0 y38.length false)],Blk.box (c_S_Replica v9),Blk.row false 1 (List.map (cL c8) y38),Blk.rng RSt.busy,(hk20_2 y12 y32),(hk20_2 y12 y32)] ?_
    refine .lp (bsy_at rfl) ?_
    refine .cr ?_
    refine .ok ?_
    refine .s (bA false) ?_
    refine .bFN ?_
    refine .st (aBin_add ..) ?_
    refine .st (v:=[Blk.box (c_S_Replica v8),Blk.box [(A.sl 3 0 y38.length false)],Blk.box (c_S_Replica v9),Blk.row false 1 (List.map (cL c8) y38),Blk.rng RSt.ready]) ((by kernel_rfl:_=(bif ((((underss 5 (List.map c_S_Lease v8.Leases))&&((underss 5 (List.map c_S_Call v8.Calls))&&((underss 5 (List.map cB v8.Order))&&true))))&&((((underss 5 (List.map c_S_Lease v9.Leases))&&((underss 5 (List.map c_S_Call v9.Calls))&&((underss 5 (List.map cB v9.Order))&&true))))&&((underss 5 (List.map (cL c8) y38))&&true))) then some [Blk.box (c_S_Replica v8),Blk.box [(A.sl 3 0 y38.length false)],Blk.box (c_S_Replica v9),Blk.row false 1 (List.map (cL c8) y38),Blk.rng RSt.ready] else none)).trans (by simp only[un0,unS])) ?_
    refine .cT ((by kernel_rfl:_=(bif underss 5 (List.map c_S_Lease v3) then (bif underss 5 (List.map c_S_Call y33) then (bif underss 5 (List.map cB v5) then true else false) else false) else false)).trans (by simp only[un0,unS])) ?_
    exact ih _ _ _ _
   exact .ex (x0 _ _ _ _ _ _ _ _ _ _ _ _ _)
  exact .ex (x1 _ _ _ _ _ _ _)
def F9 (n:Nat) (a0:S_Replica):Option ((List (List UInt8))×Int) :=
 (G20 a0).bind fun y1=>bif (y1 != 0) then (some (([],y1))) else ((F9_55_0 n a0.Order ((a0.Order.length:Int)) a0 a0 (n+7) a0.Leases a0.Calls 0 (([]:List (List UInt8)))).bind fun o39=>match o39 with | (Sum.inl ((y40,y41,y42,y43,y44,y45,y46)))=>some ((y40,0)) | (Sum.inr y53)=>some ((y53,0)))
theorem T9 (C:Nat->List A->Option A) (n:Nat) (h20:Orc20 C) (h29:Orc29 C) (a0:S_Replica):J (fun (o:R) y=>∃ v,o.1=.ret v/\snapE o.2 v=(A.tup [(A.imm (List.map (cL c8) y.1) false),(iA y.2)])) (evCall1 (cx C) (ec C n 8) (ey C n 8) (n+8) 9 [(A.agg (c_S_Replica a0))] [] 0) some (F9 n a0) some:=by
 refine .lp (e9 ..) ?_
 unfold F9
 refine .s ((A.ptr 0 0),[Blk.box (c_S_Replica a0)]) (.s ((A.ptr 1 0),[Blk.box (c_S_Replica a0),Blk.box [(A.imm [] true)]]) (.s (A.agg (c_S_Replica a0)) ?_))
 refine .bd (g:=fun (y:Int)=>(iA y)) (by show C 20 [snap _ (A.agg (c_S_Replica a0))]=_; simp only[sn0,snM]; exact h20 a0) fun y1=>?_
 refine .st (aBin_neq ..) ?_
 refine .biHN (fun hk2=>?_) (fun hk2=>?_)
 ·refine .s [Blk.box (c_S_Replica a0),Blk.box [(A.imm [] true)]] (.s (A.imm [] true) ?_)
  exact .lv (by show snapE _ (A.tup [(A.imm [] true),(iA y1)])=_; first | (simp only[sn0,snM,snapE]; done) | (simp only[sn0,snS,snapE]; first | done | rfl))
 refine .s (A.agg (c_S_Replica a0)) ?_
 refine .cl ((evCall_in lt_28).trans (e28 C (ec C n 7) (ey C n 7) (n+7) _ _ _)) ?_
 refine .s ((A.ptr 2 0),[Blk.box (c_S_Replica a0),Blk.box [(A.imm [] true)],Blk.box (c_S_Replica a0)]) ?_
 refine .cr ?_
 refine .ok ?_
 refine .s (55,[(A.ptr 2 0)]) ?_
 refine .cT (by kernel_rfl) ?_
 refine .cl ((evCallY_in lt_55).trans (e55 C (evCallY (cx C) (n+7) (yext 124 (evCall (cx C) (n+8)) 4 (roundR (cx C) (ec C n 8) (ey C n 8) (n+8) 9 0 0 4 [(2,(A.ptr 1 0))]))) (evCallY (cx C) (n+7)) (n+7) _ _ _ _)) ?_
 refine .s (A.ptr 2 1) (.s (A.imm (List.map c_S_Lease a0.Leases) false) (.s (A.ptr 2 2) (.s (A.imm (List.map c_S_Call a0.Calls) false) (.s (A.ptr 2 3) (.s (A.imm (List.map cB a0.Order) false) ?_)))))
 refine .st (len_imm (e:=4) (h1:=by kernel_rfl) ..) ?_
 refine .as (T9_55_0 C n h20 h29 a0.Order ((a0.Order.length:Int)) a0 a0 _ _ _ _ ?_ ?_ _ a0.Leases a0.Calls 0 (([]:List (List UInt8))))
 ·intro y40 y41 y42 y43 y44 y45 y46 j47 j48 j49 j50 j51 j52
  refine .un rfl ?_
  refine .cr ?_
  refine .ok ?_
  refine .lp (rs_n rfl) ?_
  refine .s (A.sl 3 0 y40.length false) (.s [Blk.box (c_S_Replica a0),Blk.box [(A.sl 3 0 y40.length false)],Blk.box (c_S_Replica a0),Blk.row false 1 (List.map (cL c8) y40),Blk.dead,Blk.box [(bA y41),(iA y42),(iA y43),(iA y44),(iA y45),(iA y46)]] (.s (A.sl 3 0 y40.length false) ?_))
  exact .lv (by show snapE [Blk.box (c_S_Replica a0),Blk.box [(A.sl 3 0 y40.length false)],Blk.box (c_S_Replica a0),Blk.row false 1 (List.map (cL c8) y40),Blk.dead,Blk.box [(bA y41),(iA y42),(iA y43),(iA y44),(iA y45),(iA y46)]] (A.tup [(A.sl 3 0 y40.length false),(iA 0)])=_; first | (simp only[sn0,snM,snapE,snapGE_row (H:=[Blk.box (c_S_Replica a0),Blk.box [(A.sl 3 0 y40.length false)],Blk.box (c_S_Replica a0),Blk.row false 1 (List.map (cL c8) y40),Blk.dead,Blk.box [(bA y41),(iA y42),(iA y43),(iA y44),(iA y45),(iA y46)]]) (b:=3) (es:=1) (wr:=false) (l:=y40) (fl_cL fl_c8) rfl]; done) | (simp only[sn0,snS,snapE,snapGE_row (H:=[Blk.box (c_S_Replica a0),Blk.box [(A.sl 3 0 y40.length false)],Blk.box (c_S_Replica a0),Blk.row false 1 (List.map (cL c8) y40),Blk.dead,Blk.box [(bA y41),(iA y42),(iA y43),(iA y44),(iA y45),(iA y46)]]) (b:=3) (es:=1) (wr:=false) (l:=y40) (fl_cL fl_c8) rfl]; first | done | rfl))
 ·intro y53 j54 j55 j56 j57 j58 j59
  refine .un rfl ?_
  refine .cT (by kernel_rfl) ?_
  refine .cr ?_
  refine .ok ?_
  refine .lp (rs_n rfl) ?_
  refine .s (A.sl 3 0 y53.length false) (.s [Blk.box (c_S_Replica a0),Blk.box [(A.sl 3 0 y53.length false)],Blk.box (c_S_Replica a0),Blk.row false 1 (List.map (cL c8) y53),Blk.dead] (.s (A.sl 3 0 y53.length false) ?_))
  exact .lv (by show snapE [Blk.box (c_S_Replica a0),Blk.box [(A.sl 3 0 y53.length false)],Blk.box (c_S_Replica a0),Blk.row false 1 (List.map (cL c8) y53),Blk.dead] (A.tup [(A.sl 3 0 y53.length false),(iA 0)])=_; first | (simp only[sn0,snM,snapE,snapGE_row (H:=[Blk.box (c_S_Replica a0),Blk.box [(A.sl 3 0 y53.length false)],Blk.box (c_S_Replica a0),Blk.row false 1 (List.map (cL c8) y53),Blk.dead]) (b:=3) (es:=1) (wr:=false) (l:=y53) (fl_cL fl_c8) rfl]; done) | (simp only[sn0,snS,snapE,snapGE_row (H:=[Blk.box (c_S_Replica a0),Blk.box [(A.sl 3 0 y53.length false)],Blk.box (c_S_Replica a0),Blk.row false 1 (List.map (cL c8) y53),Blk.dead]) (b:=3) (es:=1) (wr:=false) (l:=y53) (fl_cL fl_c8) rfl]; first | done | rfl))
def G9 (a0:S_Replica):Option ((List (List UInt8))×Int):=F9 fuel0 a0
def Orc9 (C:Nat->List A->Option A):Prop:=∀ (a0:S_Replica),C 9 [(A.agg (c_S_Replica a0))]=(G9 a0).map fun y=>(A.tup [(A.imm (List.map (cL c8) y.1) false),(iA y.2)])
def F7 (n:Nat)  : Option Bool :=
 (G25 0 0 10).bind fun y1=>(G25 2 0 5).bind fun y2=>(G25 0 0 0).bind fun y3=>(G25 0 1 5).bind fun y4=>(G26 y4.1 0 9).bind fun y5=>(G24 y1.1 10 1).bind fun y6=>(G11 0 ([])).bind fun y7=>(G15 0 10).bind fun y8=>(G17 y8.1 ((S_Deed.mk 0 0 0 0))).bind fun y9=>(bif (y1.2 != 0) then (some true) else (some (y2.2 != 1))).bind fun y11=>(bif y11 then (some true) else (some (y3.2 != 1))).bind fun y15=>(bif y15 then (some true) else (some (y4.2 != 0))).bind fun y19=>(bif y19 then (some true) else (some (y5.2 != 530))).bind fun y23=>(bif y23 then (some true) else (some (y6.2 != 530))).bind fun y27=>(bif y27 then (some true) else (some (y7.2 != 530))).bind fun y31=>(bif y31 then (some true) else (some (y8.2 != 0))).bind fun y35=>(bif y35 then (some true) else (some (y9.2 != 530))).bind fun y39=>(bif y39 then (some true) else ((G20 y1.1).bind fun y43=>some (y43 != 0))).bind fun y44=>(bif y44 then (some true) else ((G20 ((S_Replica.mk 0 ([]) ([]) ([])))).bind fun y49=>some (y49 != 530))).bind fun y50=>bif y50 then (some false) else ((G27 y8.1 ([(S_Deed.mk 3 0 3 2),(S_Deed.mk 3 0 5 1),(S_Deed.mk 1 0 1 20),(S_Deed.mk 4 0 0 0),(S_Deed.mk 5 0 1 0),(S_Deed.mk 6 0 1 0)])).bind fun y55=>(G17 y55.1 ((S_Deed.mk 3 1 12 1))).bind fun y56=>(G27 y55.1 ([(S_Deed.mk 2 1 0 0),(S_Deed.mk 3 1 12 4)])).bind fun y57=>(G17 y57.1 ((S_Deed.mk 6 1 0 0))).bind fun y58=>(G27 y57.1 ([(S_Deed.mk 7 1 2 0)])).bind fun y59=>(bif (!y55.2) then (some true) else (some (y56.2 != 530))).bind fun y61=>(bif y61 then (some true) else (some (!y57.2))).bind fun y65=>(bif y65 then (some true) else (some (y58.2 != 530))).bind fun y69=>(bif y69 then (some true) else (some (!y59.2))).bind fun y73=>bif y73 then (some false) else ((G19 y55.1.Told ([(S_Lease.mk 1 1 20)])).bind fun y77=>(bif (!y77) then (some true) else ((G21 y55.1.Spoken.1 ([(S_Call.mk 5 1)])).bind fun y79=>some (!y79))).bind fun y80=>bif y80 then ((some true).bind fun y123=>bif y123 then (some false) else ((G9 y57.1.Desks.2).bind fun y127=>(G11 1 y127.1).bind fun y128=>(bif (y127.2==0) then (some (y128.2==0)) else (some false)).bind fun y130=>(bif y130 then (some (((y127.1.length:Int))==3)) else (some false)).bind fun y134=>(bif y134 then ((G14 y128.1 y57.1.Desks.2).bind fun y139=>some y139) else (some false)).bind fun y140=>(bif y140 then ((G14 y59.1.Desks.2 ((S_Replica.mk 1 ([(S_Lease.mk 0 0 10),(S_Lease.mk 1 1 20)]) ([]) ([true,true])))).bind fun y147=>some y147) else (some false)).bind fun y148=>some y148)) else (((G14 y57.1.Desks.2 ((S_Replica.mk 1 ([(S_Lease.mk 0 0 10),(S_Lease.mk 1 1 20)]) ([(S_Call.mk 12 4)]) ([true,true,false])))).bind fun y89=>some (!y89)).bind fun y90=>bif y90 then (some false) else ((G9 y57.1.Desks.2).bind fun y94=>(G11 1 y94.1).bind fun y95=>(bif (y94.2==0) then (some (y95.2==0)) else (some false)).bind fun y97=>(bif y97 then (some (((y94.1.length:Int))==3)) else (some false)).bind fun y101=>(bif y101 then ((G14 y95.1 y57.1.Desks.2).bind fun y106=>some y106) else (some false)).bind fun y107=>(bif y107 then ((G14 y59.1.Desks.2 ((S_Replica.mk 1 ([(S_Lease.mk 0 0 10),(S_Lease.mk 1 1 20)]) ([]) ([true,true])))).bind fun y114=>some y114) else (some false)).bind fun y115=>some y115))))
theorem T7 (C:Nat->List A->Option A) (n:Nat) (h11:Orc11 C) (h14:Orc14 C) (h15:Orc15 C) (h17:Orc17 C) (h19:Orc19 C) (h20:Orc20 C) (h21:Orc21 C) (h24:Orc24 C) (h25:Orc25 C) (h26:Orc26 C) (h27:Orc27 C) (h9:Orc9 C):J (fun (o:R) y=>∃ v,o.1=.ret v/\snapE o.2 v=(bA y)) (evCall1 (cx C) (ec C n 8) (ey C n 8) (n+8) 7 [] [] 0) some (F7 n ) some:=by
 refine .lp (e7 ..) ?_
 unfold F7
 refine .bd (g:=fun (y:(S_Replica×Int))=>(A.tup [(A.agg [(iA y.1.Self),(A.imm (List.map c_S_Lease y.1.Leases) false),(A.imm (List.map c_S_Call y.1.Calls) false),(A.imm (List.map cB y.1.Order) false)]),(iA y.2)])) (h25 0 0 10) fun y1=>?_
 refine .s (A.agg (c_S_Replica y1.1)) (.s (iA y1.2) (.sq (A.ptr 0 0) (.s [Blk.box (c_S_Replica y1.1)] ?_)))
 refine .bd (g:=fun (y:(S_Replica×Int))=>(A.tup [(A.agg [(iA y.1.Self),(A.imm (List.map c_S_Lease y.1.Leases) false),(A.imm (List.map c_S_Call y.1.Calls) false),(A.imm (List.map cB y.1.Order) false)]),(iA y.2)])) (h25 2 0 5) fun y2=>?_
 refine .s (A.agg (c_S_Replica y2.1)) (.s (iA y2.2) (.sq (A.ptr 1 0) (.s [Blk.box (c_S_Replica y1.1),Blk.box (c_S_Replica y2.1)] ?_)))
 refine .bd (g:=fun (y:(S_Replica×Int))=>(A.tup [(A.agg [(iA y.1.Self),(A.imm (List.map c_S_Lease y.1.Leases) false),(A.imm (List.map c_S_Call y.1.Calls) false),(A.imm (List.map cB y.1.Order) false)]),(iA y.2)])) (h25 0 0 0) fun y3=>?_
 refine .s (A.agg (c_S_Replica y3.1)) (.s (iA y3.2) (.sq (A.ptr 2 0) (.s [Blk.box (c_S_Replica y1.1),Blk.box (c_S_Replica y2.1),Blk.box (c_S_Replica y3.1)] ?_)))
 refine .bd (g:=fun (y:(S_Replica×Int))=>(A.tup [(A.agg [(iA y.1.Self),(A.imm (List.map c_S_Lease y.1.Leases) false),(A.imm (List.map c_S_Call y.1.Calls) false),(A.imm (List.map cB y.1.Order) false)]),(iA y.2)])) (h25 0 1 5) fun y4=>?_
 refine .s (A.agg (c_S_Replica y4.1)) (.s (iA y4.2) (.sq (A.ptr 3 0) (.s [Blk.box (c_S_Replica y1.1),Blk.box (c_S_Replica y2.1),Blk.box (c_S_Replica y3.1),Blk.box (c_S_Replica y4.1)] (.s (A.agg (c_S_Replica y4.1)) ?_))))
 refine .bd (g:=fun (y:(S_Replica×Int))=>(A.tup [(A.agg [(iA y.1.Self),(A.imm (List.map c_S_Lease y.1.Leases) false),(A.imm (List.map c_S_Call y.1.Calls) false),(A.imm (List.map cB y.1.Order) false)]),(iA y.2)])) (by show C 26 [snap _ (A.agg (c_S_Replica y4.1)),snap _ (iA 0),snap _ (iA 9)]=_; simp only[sn0,snM]; exact h26 y4.1 0 9) fun y5=>?_
 refine .s (A.agg (c_S_Replica y5.1)) (.s (iA y5.2) (.sq (A.ptr 4 0) (.s [Blk.box (c_S_Replica y1.1),Blk.box (c_S_Replica y2.1),Blk.box (c_S_Replica y3.1),Blk.box (c_S_Replica y4.1),Blk.box (c_S_Replica y5.1)] (.s (A.agg (c_S_Replica y1.1)) ?_))))
 refine .bd (g:=fun (y:(S_Replica×Int))=>(A.tup [(A.agg [(iA y.1.Self),(A.imm (List.map c_S_Lease y.1.Leases) false),(A.imm (List.map c_S_Call y.1.Calls) false),(A.imm (List.map cB y.1.Order) false)]),(iA y.2)])) (by show C 24 [snap _ (A.agg (c_S_Replica y1.1)),snap _ (iA 10),snap _ (iA 1)]=_; simp only[sn0,snM]; exact h24 y1.1 10 1) fun y6=>?_
 refine .s (A.agg (c_S_Replica y6.1)) (.s (iA y6.2) (.sq (A.ptr 5 0) (.s [Blk.box (c_S_Replica y1.1),Blk.box (c_S_Replica y2.1),Blk.box (c_S_Replica y3.1),Blk.box (c_S_Replica y4.1),Blk.box (c_S_Replica y5.1),Blk.box (c_S_Replica y6.1)] ?_)))
 refine .bd (g:=fun (y:(S_Replica×Int))=>(A.tup [(A.agg [(iA y.1.Self),(A.imm (List.map c_S_Lease y.1.Leases) false),(A.imm (List.map c_S_Call y.1.Calls) false),(A.imm (List.map cB y.1.Order) false)]),(iA y.2)])) (by show C 11 [snap _ (iA 0),snap _ (A.imm [] true)]=_; simp only[sn0,snM]; exact h11 0 ([])) fun y7=>?_
 refine .s (A.agg (c_S_Replica y7.1)) (.s (iA y7.2) (.sq (A.ptr 6 0) (.s [Blk.box (c_S_Replica y1.1),Blk.box (c_S_Replica y2.1),Blk.box (c_S_Replica y3.1),Blk.box (c_S_Replica y4.1),Blk.box (c_S_Replica y5.1),Blk.box (c_S_Replica y6.1),Blk.box (c_S_Replica y7.1)] ?_)))
 refine .bd (g:=fun (y:(S_Pair×Int))=>(A.tup [(A.agg [(iA y.1.Desks.1.Self),(A.imm (List.map c_S_Lease y.1.Desks.1.Leases) false),(A.imm (List.map c_S_Call y.1.Desks.1.Calls) false),(A.imm (List.map cB y.1.Desks.1.Order) false),(iA y.1.Desks.2.Self),(A.imm (List.map c_S_Lease y.1.Desks.2.Leases) false),(A.imm (List.map c_S_Call y.1.Desks.2.Calls) false),(A.imm (List.map cB y.1.Desks.2.Order) false),(iA y.1.Synced.1),(iA y.1.Synced.2),(A.imm (List.map c_S_Lease y.1.Told) false),(A.imm (List.map c_S_Call y.1.Spoken.1) false),(A.imm (List.map c_S_Call y.1.Spoken.2) false)]),(iA y.2)])) (h15 0 10) fun y8=>?_
 refine .s (A.agg (c_S_Pair y8.1)) (.s (iA y8.2) (.sq (A.ptr 7 0) (.s [Blk.box (c_S_Replica y1.1),Blk.box (c_S_Replica y2.1),Blk.box (c_S_Replica y3.1),Blk.box (c_S_Replica y4.1),Blk.box (c_S_Replica y5.1),Blk.box (c_S_Replica y6.1),Blk.box (c_S_Replica y7.1),Blk.box (c_S_Pair y8.1)] (.s (A.agg (c_S_Pair y8.1)) (.s (A.agg [(iA 0),(iA 0),(iA 0),(iA 0)]) ?_)))))
 refine .bd (g:=fun (y:(S_Pair×Int))=>(A.tup [(A.agg [(iA y.1.Desks.1.Self),(A.imm (List.map c_S_Lease y.1.Desks.1.Leases) false),(A.imm (List.map c_S_Call y.1.Desks.1.Calls) false),(A.imm (List.map cB y.1.Desks.1.Order) false),(iA y.1.Desks.2.Self),(A.imm (List.map c_S_Lease y.1.Desks.2.Leases) false),(A.imm (List.map c_S_Call y.1.Desks.2.Calls) false),(A.imm (List.map cB y.1.Desks.2.Order) false),(iA y.1.Synced.1),(iA y.1.Synced.2),(A.imm (List.map c_S_Lease y.1.Told) false),(A.imm (List.map c_S_Call y.1.Spoken.1) false),(A.imm (List.map c_S_Call y.1.Spoken.2) false)]),(iA y.2)])) (by show C 17 [snap _ (A.agg (c_S_Pair y8.1)),snap _ (A.agg [(iA 0),(iA 0),(iA 0),(iA 0)])]=_; simp only[sn0,snM]; exact h17 y8.1 ((S_Deed.mk 0 0 0 0))) fun y9=>?_
 refine .s (A.agg (c_S_Pair y9.1)) (.s (iA y9.2) (.sq (A.ptr 8 0) (.s [Blk.box (c_S_Replica y1.1),Blk.box (c_S_Replica y2.1),Blk.box (c_S_Replica y3.1),Blk.box (c_S_Replica y4.1),Blk.box (c_S_Replica y5.1),Blk.box (c_S_Replica y6.1),Blk.box (c_S_Replica y7.1),Blk.box (c_S_Pair y8.1),Blk.box (c_S_Pair y9.1)] ?_)))
 refine .st (aBin_neq ..) ?_
 refine .bg (fun t (y:Bool)=>∃ j12 j13:A,t=[(bA y),j12,j13]) ?_ ?_
 ·refine .biH (fun hk10=>?_) (fun hk10=>?_)
  ·exact .lg ⟨_,_,rfl⟩
  refine .st (aBin_neq ..) ?_
  exact .lg ⟨_,_,rfl⟩
 rintro _ y11 ⟨j12,j13,rfl⟩
 iterate 3 refine .uc ?_
 refine .bg (fun t (y:Bool)=>∃ j16 j17:A,t=[(bA y),j16,j17]) ?_ ?_
 ·refine .biH (fun hk14=>?_) (fun hk14=>?_)
  ·exact .lg ⟨_,_,rfl⟩
  refine .st (aBin_neq ..) ?_
  exact .lg ⟨_,_,rfl⟩
 rintro _ y15 ⟨j16,j17,rfl⟩
 iterate 3 refine .uc ?_
 refine .bg (fun t (y:Bool)=>∃ j20 j21:A,t=[(bA y),j20,j21]) ?_ ?_
 ·refine .biH (fun hk18=>?_) (fun hk18=>?_)
  ·exact .lg ⟨_,_,rfl⟩
  refine .st (aBin_neq ..) ?_
  exact .lg ⟨_,_,rfl⟩
 rintro _ y19 ⟨j20,j21,rfl⟩
 iterate 3 refine .uc ?_
 refine .bg (fun t (y:Bool)=>∃ j24 j25:A,t=[(bA y),j24,j25]) ?_ ?_
 ·refine .biH (fun hk22=>?_) (fun hk22=>?_)
  ·exact .lg ⟨_,_,rfl⟩
  refine .st (aBin_neq ..) ?_
  exact .lg ⟨_,_,rfl⟩
 rintro _ y23 ⟨j24,j25,rfl⟩
 iterate 3 refine .uc ?_
 refine .bg (fun t (y:Bool)=>∃ j28 j29:A,t=[(bA y),j28,j29]) ?_ ?_
 ·refine .biH (fun hk26=>?_) (fun hk26=>?_)
  ·exact .lg ⟨_,_,rfl⟩
  refine .st (aBin_neq ..) ?_
  exact .lg ⟨_,_,rfl⟩
 rintro _ y27 ⟨j28,j29,rfl⟩
 iterate 3 refine .uc ?_
 refine .bg (fun t (y:Bool)=>∃ j32 j33:A,t=[(bA y),j32,j33]) ?_ ?_
 ·refine .biH (fun hk30=>?_) (fun hk30=>?_)
  ·exact .lg ⟨_,_,rfl⟩
  refine .st (aBin_neq ..) ?_
  exact .lg ⟨_,_,rfl⟩
 rintro _ y31 ⟨j32,j33,rfl⟩
 iterate 3 refine .uc ?_
 refine .bg (fun t (y:Bool)=>∃ j36 j37:A,t=[(bA y),j36,j37]) ?_ ?_
 ·refine .biH (fun hk34=>?_) (fun hk34=>?_)
  ·exact .lg ⟨_,_,rfl⟩
  refine .st (aBin_neq ..) ?_
  exact .lg ⟨_,_,rfl⟩
 rintro _ y35 ⟨j36,j37,rfl⟩
 iterate 3 refine .uc ?_
 refine .bg (fun t (y:Bool)=>∃ j40 j41:A,t=[(bA y),j40,j41]) ?_ ?_
 ·refine .biH (fun hk38=>?_) (fun hk38=>?_)
  ·exact .lg ⟨_,_,rfl⟩
  refine .st (aBin_neq ..) ?_
  exact .lg ⟨_,_,rfl⟩
 rintro _ y39 ⟨j40,j41,rfl⟩
 iterate 3 refine .uc ?_
 refine .bg (fun t (y:Bool)=>∃ j45 j46 j47:A,t=[(bA y),j45,j46,j47]) ?_ ?_
 ·refine .biH (fun hk42=>?_) (fun hk42=>?_)
  ·exact .lg ⟨_,_,_,rfl⟩
  refine .s (A.agg (c_S_Replica y1.1)) ?_
  refine .bd (g:=fun (y:Int)=>(iA y)) (by show C 20 [snap _ (A.agg (c_S_Replica y1.1))]=_; simp only[sn0,snM]; exact h20 y1.1) fun y43=>?_
  refine .st (aBin_neq ..) ?_
  exact .lg ⟨_,_,_,rfl⟩
 rintro _ y44 ⟨j45,j46,j47,rfl⟩
 iterate 4 refine .uc ?_
 refine .bg (fun t (y:Bool)=>∃ j51 j52 j53:A,t=[(bA y),j51,j52,j53]) ?_ ?_
 ·refine .biH (fun hk48=>?_) (fun hk48=>?_)
  ·exact .lg ⟨_,_,_,rfl⟩
  refine .s (A.agg [(iA 0),(A.imm [] true),(A.imm [] true),(A.imm [] true)]) ?_
  refine .bd (g:=fun (y:Int)=>(iA y)) (by show C 20 [snap _ (A.agg [(iA 0),(A.imm [] true),(A.imm [] true),(A.imm [] true)])]=_; simp only[sn0,snM]; exact h20 ((S_Replica.mk 0 ([]) ([]) ([])))) fun y49=>?_
  refine .st (aBin_neq ..) ?_
  exact .lg ⟨_,_,_,rfl⟩
 rintro _ y50 ⟨j51,j52,j53,rfl⟩
 iterate 4 refine .uc ?_
 refine .biHN (fun hk54=>?_) (fun hk54=>?_)
 ·exact .lv rfl
 refine .s (A.agg (c_S_Pair y8.1)) (.s (A.agg [(iA 3),(iA 0),(iA 3),(iA 2)]) (.s (A.agg [(iA 3),(iA 0),(iA 5),(iA 1)]) (.s (A.agg [(iA 1),(iA 0),(iA 1),(iA 20)]) (.s (A.agg [(iA 4),(iA 0),(iA 0),(iA 0)]) (.s (A.agg [(iA 5),(iA 0),(iA 1),(iA 0)]) (.s (A.agg [(iA 6),(iA 0),(iA 1),(iA 0)]) (.s (A.imm [[(iA 3),(iA 0),(iA 3),(iA 2)],[(iA 3),(iA 0),(iA 5),(iA 1)],[(iA 1),(iA 0),(iA 1),(iA 20)],[(iA 4),(iA 0),(iA 0),(iA 0)],[(iA 5),(iA 0),(iA 1),(iA 0)],[(iA 6),(iA 0),(iA 1),(iA 0)]] true) ?_)))))))
 refine .bd (g:=fun (y:(S_Pair×Bool))=>(A.tup [(A.agg [(iA y.1.Desks.1.Self),(A.imm (List.map c_S_Lease y.1.Desks.1.Leases) false),(A.imm (List.map c_S_Call y.1.Desks.1.Calls) false),(A.imm (List.map cB y.1.Desks.1.Order) false),(iA y.1.Desks.2.Self),(A.imm (List.map c_S_Lease y.1.Desks.2.Leases) false),(A.imm (List.map c_S_Call y.1.Desks.2.Calls) false),(A.imm (List.map cB y.1.Desks.2.Order) false),(iA y.1.Synced.1),(iA y.1.Synced.2),(A.imm (List.map c_S_Lease y.1.Told) false),(A.imm (List.map c_S_Call y.1.Spoken.1) false),(A.imm (List.map c_S_Call y.1.Spoken.2) false)]),(bA y.2)])) (by show C 27 [snap _ (A.agg (c_S_Pair y8.1)),snap _ (A.imm [[(iA 3),(iA 0),(iA 3),(iA 2)],[(iA 3),(iA 0),(iA 5),(iA 1)],[(iA 1),(iA 0),(iA 1),(iA 20)],[(iA 4),(iA 0),(iA 0),(iA 0)],[(iA 5),(iA 0),(iA 1),(iA 0)],[(iA 6),(iA 0),(iA 1),(iA 0)]] true)]=_; simp only[sn0,snM]; exact h27 y8.1 ([(S_Deed.mk 3 0 3 2),(S_Deed.mk 3 0 5 1),(S_Deed.mk 1 0 1 20),(S_Deed.mk 4 0 0 0),(S_Deed.mk 5 0 1 0),(S_Deed.mk 6 0 1 0)])) fun y55=>?_
 refine .s (A.agg (c_S_Pair y55.1)) (.s (bA y55.2) (.sq (A.ptr 9 0) (.s [Blk.box (c_S_Replica y1.1),Blk.box (c_S_Replica y2.1),Blk.box (c_S_Replica y3.1),Blk.box (c_S_Replica y4.1),Blk.box (c_S_Replica y5.1),Blk.box (c_S_Replica y6.1),Blk.box (c_S_Replica y7.1),Blk.box (c_S_Pair y8.1),Blk.box (c_S_Pair y9.1),Blk.box (c_S_Pair y55.1)] (.s (A.agg (c_S_Pair y55.1)) (.s (A.agg [(iA 3),(iA 1),(iA 12),(iA 1)]) ?_)))))
 refine .bd (g:=fun (y:(S_Pair×Int))=>(A.tup [(A.agg [(iA y.1.Desks.1.Self),(A.imm (List.map c_S_Lease y.1.Desks.1.Leases) false),(A.imm (List.map c_S_Call y.1.Desks.1.Calls) false),(A.imm (List.map cB y.1.Desks.1.Order) false),(iA y.1.Desks.2.Self),(A.imm (List.map c_S_Lease y.1.Desks.2.Leases) false),(A.imm (List.map c_S_Call y.1.Desks.2.Calls) false),(A.imm (List.map cB y.1.Desks.2.Order) false),(iA y.1.Synced.1),(iA y.1.Synced.2),(A.imm (List.map c_S_Lease y.1.Told) false),(A.imm (List.map c_S_Call y.1.Spoken.1) false),(A.imm (List.map c_S_Call y.1.Spoken.2) false)]),(iA y.2)])) (by show C 17 [snap _ (A.agg (c_S_Pair y55.1)),snap _ (A.agg [(iA 3),(iA 1),(iA 12),(iA 1)])]=_; simp only[sn0,snM]; exact h17 y55.1 ((S_Deed.mk 3 1 12 1))) fun y56=>?_
 refine .s (A.agg (c_S_Pair y56.1)) (.s (iA y56.2) (.sq (A.ptr 10 0) (.s [Blk.box (c_S_Replica y1.1),Blk.box (c_S_Replica y2.1),Blk.box (c_S_Replica y3.1),Blk.box (c_S_Replica y4.1),Blk.box (c_S_Replica y5.1),Blk.box (c_S_Replica y6.1),Blk.box (c_S_Replica y7.1),Blk.box (c_S_Pair y8.1),Blk.box (c_S_Pair y9.1),Blk.box (c_S_Pair y55.1),Blk.box (c_S_Pair y56.1)] (.s (A.agg (c_S_Pair y55.1)) (.s (A.agg [(iA 2),(iA 1),(iA 0),(iA 0)]) (.s (A.agg [(iA 3),(iA 1),(iA 12),(iA 4)]) (.s (A.imm [[(iA 2),(iA 1),(iA 0),(iA 0)],[(iA 3),(iA 1),(iA 12),(iA 4)]] true) ?_)))))))
 refine .bd (g:=fun (y:(S_Pair×Bool))=>(A.tup [(A.agg [(iA y.1.Desks.1.Self),(A.imm (List.map c_S_Lease y.1.Desks.1.Leases) false),(A.imm (List.map c_S_Call y.1.Desks.1.Calls) false),(A.imm (List.map cB y.1.Desks.1.Order) false),(iA y.1.Desks.2.Self),(A.imm (List.map c_S_Lease y.1.Desks.2.Leases) false),(A.imm (List.map c_S_Call y.1.Desks.2.Calls) false),(A.imm (List.map cB y.1.Desks.2.Order) false),(iA y.1.Synced.1),(iA y.1.Synced.2),(A.imm (List.map c_S_Lease y.1.Told) false),(A.imm (List.map c_S_Call y.1.Spoken.1) false),(A.imm (List.map c_S_Call y.1.Spoken.2) false)]),(bA y.2)])) (by show C 27 [snap _ (A.agg (c_S_Pair y55.1)),snap _ (A.imm [[(iA 2),(iA 1),(iA 0),(iA 0)],[(iA 3),(iA 1),(iA 12),(iA 4)]] true)]=_; simp only[sn0,snM]; exact h27 y55.1 ([(S_Deed.mk 2 1 0 0),(S_Deed.mk 3 1 12 4)])) fun y57=>?_
 refine .s (A.agg (c_S_Pair y57.1)) (.s (bA y57.2) (.sq (A.ptr 11 0) (.s [Blk.box (c_S_Replica y1.1),Blk.box (c_S_Replica y2.1),Blk.box (c_S_Replica y3.1),Blk.box (c_S_Replica y4.1),Blk.box (c_S_Replica y5.1),Blk.box (c_S_Replica y6.1),Blk.box (c_S_Replica y7.1),Blk.box (c_S_Pair y8.1),Blk.box (c_S_Pair y9.1),Blk.box (c_S_Pair y55.1),Blk.box (c_S_Pair y56.1),Blk.box (c_S_Pair y57.1)] (.s (A.agg (c_S_Pair y57.1)) (.s (A.agg [(iA 6),(iA 1),(iA 0),(iA 0)]) ?_)))))
 refine .bd (g:=fun (y:(S_Pair×Int))=>(A.tup [(A.agg [(iA y.1.Desks.1.Self),(A.imm (List.map c_S_Lease y.1.Desks.1.Leases) false),(A.imm (List.map c_S_Call y.1.Desks.1.Calls) false),(A.imm (List.map cB y.1.Desks.1.Order) false),(iA y.1.Desks.2.Self),(A.imm (List.map c_S_Lease y.1.Desks.2.Leases) false),(A.imm (List.map c_S_Call y.1.Desks.2.Calls) false),(A.imm (List.map cB y.1.Desks.2.Order) false),(iA y.1.Synced.1),(iA y.1.Synced.2),(A.imm (List.map c_S_Lease y.1.Told) false),(A.imm (List.map c_S_Call y.1.Spoken.1) false),(A.imm (List.map c_S_Call y.1.Spoken.2) false)]),(iA y.2)])) (by show C 17 [snap _ (A.agg (c_S_Pair y57.1)),snap _ (A.agg [(iA 6),(iA 1),(iA 0),(iA 0)])]=_; simp only[sn0,snM]; exact h17 y57.1 ((S_Deed.mk 6 1 0 0))) fun y58=>?_
 refine .s (A.agg (c_S_Pair y58.1)) (.s (iA y58.2) (.sq (A.ptr 12 0) (.s [Blk.box (c_S_Replica y1.1),Blk.box (c_S_Replica y2.1),Blk.box (c_S_Replica y3.1),Blk.box (c_S_Replica y4.1),Blk.box (c_S_Replica y5.1),Blk.box (c_S_Replica y6.1),Blk.box (c_S_Replica y7.1),Blk.box (c_S_Pair y8.1),Blk.box (c_S_Pair y9.1),Blk.box (c_S_Pair y55.1),Blk.box (c_S_Pair y56.1),Blk.box (c_S_Pair y57.1),Blk.box (c_S_Pair y58.1)] (.s (A.agg (c_S_Pair y57.1)) (.s (A.agg [(iA 7),(iA 1),(iA 2),(iA 0)]) (.s (A.imm [[(iA 7),(iA 1),(iA 2),(iA 0)]] true) ?_))))))
 refine .bd (g:=fun (y:(S_Pair×Bool))=>(A.tup [(A.agg [(iA y.1.Desks.1.Self),(A.imm (List.map c_S_Lease y.1.Desks.1.Leases) false),(A.imm (List.map c_S_Call y.1.Desks.1.Calls) false),(A.imm (List.map cB y.1.Desks.1.Order) false),(iA y.1.Desks.2.Self),(A.imm (List.map c_S_Lease y.1.Desks.2.Leases) false),(A.imm (List.map c_S_Call y.1.Desks.2.Calls) false),(A.imm (List.map cB y.1.Desks.2.Order) false),(iA y.1.Synced.1),(iA y.1.Synced.2),(A.imm (List.map c_S_Lease y.1.Told) false),(A.imm (List.map c_S_Call y.1.Spoken.1) false),(A.imm (List.map c_S_Call y.1.Spoken.2) false)]),(bA y.2)])) (by show C 27 [snap _ (A.agg (c_S_Pair y57.1)),snap _ (A.imm [[(iA 7),(iA 1),(iA 2),(iA 0)]] true)]=_; simp only[sn0,snM]; exact h27 y57.1 ([(S_Deed.mk 7 1 2 0)])) fun y59=>?_
 refine .s (A.agg (c_S_Pair y59.1)) (.s (bA y59.2) (.sq (A.ptr 13 0) (.s [Blk.box (c_S_Replica y1.1),Blk.box (c_S_Replica y2.1),Blk.box (c_S_Replica y3.1),Blk.box (c_S_Replica y4.1),Blk.box (c_S_Replica y5.1),Blk.box (c_S_Replica y6.1),Blk.box (c_S_Replica y7.1),Blk.box (c_S_Pair y8.1),Blk.box (c_S_Pair y9.1),Blk.box (c_S_Pair y55.1),Blk.box (c_S_Pair y56.1),Blk.box (c_S_Pair y57.1),Blk.box (c_S_Pair y58.1),Blk.box (c_S_Pair y59.1)] (.s (bA (!y55.2)) ?_))))
 refine .bg (fun t (y:Bool)=>∃ j62 j63:A,t=[(bA y),j62,j63]) ?_ ?_
 ·refine .biH (fun hk60=>?_) (fun hk60=>?_)
  ·exact .lg ⟨_,_,rfl⟩
  refine .st (aBin_neq ..) ?_
  exact .lg ⟨_,_,rfl⟩
 rintro _ y61 ⟨j62,j63,rfl⟩
 iterate 3 refine .uc ?_
 refine .bg (fun t (y:Bool)=>∃ j66 j67:A,t=[(bA y),j66,j67]) ?_ ?_
 ·refine .biH (fun hk64=>?_) (fun hk64=>?_)
  ·exact .lg ⟨_,_,rfl⟩
  refine .s (bA (!y57.2)) ?_
  exact .lg ⟨_,_,rfl⟩
 rintro _ y65 ⟨j66,j67,rfl⟩
 iterate 3 refine .uc ?_
 refine .bg (fun t (y:Bool)=>∃ j70 j71:A,t=[(bA y),j70,j71]) ?_ ?_
 ·refine .biH (fun hk68=>?_) (fun hk68=>?_)
  ·exact .lg ⟨_,_,rfl⟩
  refine .st (aBin_neq ..) ?_
  exact .lg ⟨_,_,rfl⟩
 rintro _ y69 ⟨j70,j71,rfl⟩
 iterate 3 refine .uc ?_
 refine .bg (fun t (y:Bool)=>∃ j74 j75:A,t=[(bA y),j74,j75]) ?_ ?_
 ·refine .biH (fun hk72=>?_) (fun hk72=>?_)
  ·exact .lg ⟨_,_,rfl⟩
  refine .s (bA (!y59.2)) ?_
  exact .lg ⟨_,_,rfl⟩
 rintro _ y73 ⟨j74,j75,rfl⟩
 iterate 3 refine .uc ?_
 refine .biHN (fun hk76=>?_) (fun hk76=>?_)
 ·exact .lv rfl
 refine .s (A.agg [(iA 0),(iA 0),(iA 10)]) (.s (A.agg [(iA 1),(iA 1),(iA 20)]) (.s (A.imm [[(iA 0),(iA 0),(iA 10)],[(iA 1),(iA 1),(iA 20)]] true) (.s (A.ptr 9 10) (.s (A.imm (List.map c_S_Lease y55.1.Told) false) (.s (A.imm [[(iA 1),(iA 1),(iA 20)]] true) ?_)))))
 refine .bd (g:=fun (y:Bool)=>(bA y)) (by show C 19 [snap _ (A.imm (List.map c_S_Lease y55.1.Told) false),snap _ (A.imm [[(iA 1),(iA 1),(iA 20)]] true)]=_; simp only[sn0,snM]; exact h19 y55.1.Told ([(S_Lease.mk 1 1 20)])) fun y77=>?_
 refine .s (bA (!y77)) ?_
 refine .bg (fun t (y:Bool)=>∃ j81 j82 j83 j84 j85 j86 j87:A,t=[(bA y),j81,j82,j83,j84,j85,j86,j87]) ?_ ?_
 ·refine .biH (fun hk78=>?_) (fun hk78=>?_)
  ·exact .lg ⟨_,_,_,_,_,_,_,rfl⟩
  refine .s (A.ptr 9 11) (.s (A.ptr 9 11) (.s (A.imm (List.map c_S_Call y55.1.Spoken.1) false) (.s (A.agg [(iA 5),(iA 1)]) (.s (A.imm [[(iA 5),(iA 1)]] true) ?_))))
  refine .bd (g:=fun (y:Bool)=>(bA y)) (by show C 21 [snap _ (A.imm (List.map c_S_Call y55.1.Spoken.1) false),snap _ (A.imm [[(iA 5),(iA 1)]] true)]=_; simp only[sn0,snM]; exact h21 y55.1.Spoken.1 ([(S_Call.mk 5 1)])) fun y79=>?_
  refine .s (bA (!y79)) ?_
  exact .lg ⟨_,_,_,_,_,_,_,rfl⟩
 rintro _ y80 ⟨j81,j82,j83,j84,j85,j86,j87,rfl⟩
 iterate 8 refine .uc ?_
 refine .gsf (fun hc88=>?_) (fun hc88=>?_)
 ·refine .bb ?_
  refine .s (A.ptr 11 0) (.s (A.ptr 11 4) (.s (A.agg (c_S_Replica y57.1.Desks.2)) (.s (A.agg [(iA 12),(iA 4)]) (.s (A.imm [[(iA 12),(iA 4)]] true) (.s (A.imm [[(bA true)],[(bA true)],[(bA false)]] true) (.s (A.agg [(iA 1),(A.imm [[(iA 0),(iA 0),(iA 10)],[(iA 1),(iA 1),(iA 20)]] true),(A.imm [[(iA 12),(iA 4)]] true),(A.imm [[(bA true)],[(bA true)],[(bA false)]] true)]) ?_))))))
  refine .cr ?_
  iterate 8 refine .uc ?_
  refine .bg (fun t (y:Bool)=>∃ j91 j92:A,t=[(bA y),j91,j92]) ?_ ?_
  ·refine .bKF hc88 ?_
   refine .bd (g:=fun (y:Bool)=>(bA y)) (by show C 14 [snap _ (A.agg (c_S_Replica y57.1.Desks.2)),snap _ (A.agg [(iA 1),(A.imm [[(iA 0),(iA 0),(iA 10)],[(iA 1),(iA 1),(iA 20)]] true),(A.imm [[(iA 12),(iA 4)]] true),(A.imm [[(bA true)],[(bA true)],[(bA false)]] true)])]=_; simp only[sn0,snM]; exact h14 y57.1.Desks.2 ((S_Replica.mk 1 ([(S_Lease.mk 0 0 10),(S_Lease.mk 1 1 20)]) ([(S_Call.mk 12 4)]) ([true,true,false])))) fun y89=>?_
   refine .s (bA (!y89)) ?_
   exact .lg ⟨_,_,rfl⟩
  rintro _ y90 ⟨j91,j92,rfl⟩
  iterate 3 refine .uc ?_
  refine .biHN (fun hk93=>?_) (fun hk93=>?_)
  ·exact .lv rfl
  refine .s (A.ptr 11 0) (.s (A.ptr 11 4) (.s (A.agg (c_S_Replica y57.1.Desks.2)) ?_))
  refine .bd (g:=fun (y:((List (List UInt8))×Int))=>(A.tup [(A.imm (List.map (cL c8) y.1) false),(iA y.2)])) (by show C 9 [snap _ (A.agg (c_S_Replica y57.1.Desks.2))]=_; simp only[sn0,snM]; exact h9 y57.1.Desks.2) fun y94=>?_
  refine .s (A.imm (List.map (cL c8) y94.1) false) (.s (iA y94.2) ?_)
  refine .bd (g:=fun (y:(S_Replica×Int))=>(A.tup [(A.agg [(iA y.1.Self),(A.imm (List.map c_S_Lease y.1.Leases) false),(A.imm (List.map c_S_Call y.1.Calls) false),(A.imm (List.map cB y.1.Order) false)]),(iA y.2)])) (by show C 11 [snap _ (iA 1),snap _ (A.imm (List.map (cL c8) y94.1) false)]=_; simp only[sn0,snM]; exact h11 1 y94.1) fun y95=>?_
  refine .s (A.agg (c_S_Replica y95.1)) (.s (iA y95.2) (.sq (A.ptr 14 0) (.s [Blk.box (c_S_Replica y1.1),Blk.box (c_S_Replica y2.1),Blk.box (c_S_Replica y3.1),Blk.box (c_S_Replica y4.1),Blk.box (c_S_Replica y5.1),Blk.box (c_S_Replica y6.1),Blk.box (c_S_Replica y7.1),Blk.box (c_S_Pair y8.1),Blk.box (c_S_Pair y9.1),Blk.box (c_S_Pair y55.1),Blk.box (c_S_Pair y56.1),Blk.box (c_S_Pair y57.1),Blk.box (c_S_Pair y58.1),Blk.box (c_S_Pair y59.1),Blk.box (c_S_Replica y95.1)] ?_)))
  refine .st (aBin_eql ..) ?_
  refine .bg (fun t (y:Bool)=>∃ j98 j99:A,t=[(bA y),j98,j99]) ?_ ?_
  ·refine .biH (fun hk96=>?_) (fun hk96=>?_)
   ·refine .st (aBin_eql ..) ?_
    exact .lg ⟨_,_,rfl⟩
   exact .lg ⟨_,_,rfl⟩
  rintro _ y97 ⟨j98,j99,rfl⟩
  iterate 3 refine .uc ?_
  refine .bg (fun t (y:Bool)=>∃ j102 j103 j104:A,t=[(bA y),j102,j103,j104]) ?_ ?_
  ·refine .biH (fun hk100=>?_) (fun hk100=>?_)
   ·refine .st (len_imm (e:=30) (h1:=by kernel_rfl) ..) ?_
    refine .st (aBin_eql ..) ?_
    exact .lg ⟨_,_,_,rfl⟩
   exact .lg ⟨_,_,_,rfl⟩
  rintro _ y101 ⟨j102,j103,j104,rfl⟩
  iterate 4 refine .uc ?_
  refine .bg (fun t (y:Bool)=>∃ j108 j109 j110 j111 j112:A,t=[(bA y),j108,j109,j110,j111,j112]) ?_ ?_
  ·refine .biH (fun hk105=>?_) (fun hk105=>?_)
   ·refine .s (A.agg (c_S_Replica y95.1)) (.s (A.ptr 11 0) (.s (A.ptr 11 4) (.s (A.agg (c_S_Replica y57.1.Desks.2)) ?_)))
    refine .bd (g:=fun (y:Bool)=>(bA y)) (by show C 14 [snap _ (A.agg (c_S_Replica y95.1)),snap _ (A.agg (c_S_Replica y57.1.Desks.2))]=_; simp only[sn0,snM]; exact h14 y95.1 y57.1.Desks.2) fun y106=>?_
    exact .lg ⟨_,_,_,_,_,rfl⟩
   exact .lg ⟨_,_,_,_,_,rfl⟩
  rintro _ y107 ⟨j108,j109,j110,j111,j112,rfl⟩
  iterate 6 refine .uc ?_
  refine .bg (fun t (y:Bool)=>∃ j116 j117 j118 j119 j120 j121 j122:A,t=[(bA y),j116,j117,j118,j119,j120,j121,j122]) ?_ ?_
  ·refine .biH (fun hk113=>?_) (fun hk113=>?_)
   ·refine .s (A.ptr 13 0) (.s (A.ptr 13 4) (.s (A.agg (c_S_Replica y59.1.Desks.2)) (.s (A.imm [[(bA true)],[(bA true)]] true) (.s (A.agg [(iA 1),(A.imm [[(iA 0),(iA 0),(iA 10)],[(iA 1),(iA 1),(iA 20)]] true),(A.imm [] true),(A.imm [[(bA true)],[(bA true)]] true)]) ?_))))
    refine .bd (g:=fun (y:Bool)=>(bA y)) (by show C 14 [snap _ (A.agg (c_S_Replica y59.1.Desks.2)),snap _ (A.agg [(iA 1),(A.imm [[(iA 0),(iA 0),(iA 10)],[(iA 1),(iA 1),(iA 20)]] true),(A.imm [] true),(A.imm [[(bA true)],[(bA true)]] true)])]=_; simp only[sn0,snM]; exact h14 y59.1.Desks.2 ((S_Replica.mk 1 ([(S_Lease.mk 0 0 10),(S_Lease.mk 1 1 20)]) ([]) ([true,true])))) fun y114=>?_
    exact .lg ⟨_,_,_,_,_,_,_,rfl⟩
   exact .lg ⟨_,_,_,_,_,_,_,rfl⟩
  rintro _ y115 ⟨j116,j117,j118,j119,j120,j121,j122,rfl⟩
  iterate 8 refine .uc ?_
  exact .lv rfl
 refine .bb ?_
 refine .cr ?_
 iterate 8 refine .uc ?_
 refine .bg (fun t (y:Bool)=>∃ j124 j125:A,t=[(bA y),j124,j125]) ?_ ?_
 ·refine .bKT hc88 ?_
  exact .lg ⟨_,_,rfl⟩
 rintro _ y123 ⟨j124,j125,rfl⟩
 iterate 3 refine .uc ?_
 refine .biHN (fun hk126=>?_) (fun hk126=>?_)
 ·exact .lv rfl
 refine .s (A.ptr 11 0) (.s (A.ptr 11 4) (.s (A.agg (c_S_Replica y57.1.Desks.2)) ?_))
 refine .bd (g:=fun (y:((List (List UInt8))×Int))=>(A.tup [(A.imm (List.map (cL c8) y.1) false),(iA y.2)])) (by show C 9 [snap _ (A.agg (c_S_Replica y57.1.Desks.2))]=_; simp only[sn0,snM]; exact h9 y57.1.Desks.2) fun y127=>?_
 refine .s (A.imm (List.map (cL c8) y127.1) false) (.s (iA y127.2) ?_)
 refine .bd (g:=fun (y:(S_Replica×Int))=>(A.tup [(A.agg [(iA y.1.Self),(A.imm (List.map c_S_Lease y.1.Leases) false),(A.imm (List.map c_S_Call y.1.Calls) false),(A.imm (List.map cB y.1.Order) false)]),(iA y.2)])) (by show C 11 [snap _ (iA 1),snap _ (A.imm (List.map (cL c8) y127.1) false)]=_; simp only[sn0,snM]; exact h11 1 y127.1) fun y128=>?_
 refine .s (A.agg (c_S_Replica y128.1)) (.s (iA y128.2) (.sq (A.ptr 14 0) (.s [Blk.box (c_S_Replica y1.1),Blk.box (c_S_Replica y2.1),Blk.box (c_S_Replica y3.1),Blk.box (c_S_Replica y4.1),Blk.box (c_S_Replica y5.1),Blk.box (c_S_Replica y6.1),Blk.box (c_S_Replica y7.1),Blk.box (c_S_Pair y8.1),Blk.box (c_S_Pair y9.1),Blk.box (c_S_Pair y55.1),Blk.box (c_S_Pair y56.1),Blk.box (c_S_Pair y57.1),Blk.box (c_S_Pair y58.1),Blk.box (c_S_Pair y59.1),Blk.box (c_S_Replica y128.1)] ?_)))
 refine .st (aBin_eql ..) ?_
 refine .bg (fun t (y:Bool)=>∃ j131 j132:A,t=[(bA y),j131,j132]) ?_ ?_
 ·refine .biH (fun hk129=>?_) (fun hk129=>?_)
  ·refine .st (aBin_eql ..) ?_
   exact .lg ⟨_,_,rfl⟩
  exact .lg ⟨_,_,rfl⟩
 rintro _ y130 ⟨j131,j132,rfl⟩
 iterate 3 refine .uc ?_
 refine .bg (fun t (y:Bool)=>∃ j135 j136 j137:A,t=[(bA y),j135,j136,j137]) ?_ ?_
 ·refine .biH (fun hk133=>?_) (fun hk133=>?_)
  ·refine .st (len_imm (e:=30) (h1:=by kernel_rfl) ..) ?_
   refine .st (aBin_eql ..) ?_
   exact .lg ⟨_,_,_,rfl⟩
  exact .lg ⟨_,_,_,rfl⟩
 rintro _ y134 ⟨j135,j136,j137,rfl⟩
 iterate 4 refine .uc ?_
 refine .bg (fun t (y:Bool)=>∃ j141 j142 j143 j144 j145:A,t=[(bA y),j141,j142,j143,j144,j145]) ?_ ?_
 ·refine .biH (fun hk138=>?_) (fun hk138=>?_)
  ·refine .s (A.agg (c_S_Replica y128.1)) (.s (A.ptr 11 0) (.s (A.ptr 11 4) (.s (A.agg (c_S_Replica y57.1.Desks.2)) ?_)))
   refine .bd (g:=fun (y:Bool)=>(bA y)) (by show C 14 [snap _ (A.agg (c_S_Replica y128.1)),snap _ (A.agg (c_S_Replica y57.1.Desks.2))]=_; simp only[sn0,snM]; exact h14 y128.1 y57.1.Desks.2) fun y139=>?_
   exact .lg ⟨_,_,_,_,_,rfl⟩
  exact .lg ⟨_,_,_,_,_,rfl⟩
 rintro _ y140 ⟨j141,j142,j143,j144,j145,rfl⟩
 iterate 6 refine .uc ?_
 refine .bg (fun t (y:Bool)=>∃ j149 j150 j151 j152 j153 j154 j155:A,t=[(bA y),j149,j150,j151,j152,j153,j154,j155]) ?_ ?_
 ·refine .biH (fun hk146=>?_) (fun hk146=>?_)
  ·refine .s (A.ptr 13 0) (.s (A.ptr 13 4) (.s (A.agg (c_S_Replica y59.1.Desks.2)) (.s (A.imm [[(bA true)],[(bA true)]] true) (.s (A.agg [(iA 1),(A.imm [[(iA 0),(iA 0),(iA 10)],[(iA 1),(iA 1),(iA 20)]] true),(A.imm [] true),(A.imm [[(bA true)],[(bA true)]] true)]) ?_))))
   refine .bd (g:=fun (y:Bool)=>(bA y)) (by show C 14 [snap _ (A.agg (c_S_Replica y59.1.Desks.2)),snap _ (A.agg [(iA 1),(A.imm [[(iA 0),(iA 0),(iA 10)],[(iA 1),(iA 1),(iA 20)]] true),(A.imm [] true),(A.imm [[(bA true)],[(bA true)]] true)])]=_; simp only[sn0,snM]; exact h14 y59.1.Desks.2 ((S_Replica.mk 1 ([(S_Lease.mk 0 0 10),(S_Lease.mk 1 1 20)]) ([]) ([true,true])))) fun y147=>?_
   exact .lg ⟨_,_,_,_,_,_,_,rfl⟩
  exact .lg ⟨_,_,_,_,_,_,_,rfl⟩
 rintro _ y148 ⟨j149,j150,j151,j152,j153,j154,j155,rfl⟩
 iterate 8 refine .uc ?_
 exact .lv rfl
def G7  : Option Bool:=F7 fuel0
def Orc7 (C:Nat->List A->Option A):Prop:=∀ (_:Unit),C 7 []=(G7 ).map fun y=>(bA y)
def F8 (n:Nat) (a0:S_Replica):Option Bool :=
 (bif (decide (((a0.Leases.length:Int))<=300)) then (some (decide (((a0.Calls.length:Int))<=60))) else (some false)).bind fun y2=>(bif y2 then (some (decide (((a0.Order.length:Int))<=360))) else (some false)).bind fun y8=>some y8
theorem T8 (C:Nat->List A->Option A) (n:Nat) (a0:S_Replica):J (fun (o:R) y=>∃ v,o.1=.ret v/\snapE o.2 v=(bA y)) (evCall1 (cx C) (ec C n 8) (ey C n 8) (n+8) 8 [(A.agg (c_S_Replica a0))] [] 0) some (F8 n a0) some:=by
 refine .lp (e8 ..) ?_
 unfold F8
 refine .s ((A.ptr 0 0),[Blk.box (c_S_Replica a0)]) (.s (A.ptr 0 1) (.s (A.imm (List.map c_S_Lease a0.Leases) false) ?_))
 refine .st (len_imm (e:=59) (h1:=by kernel_rfl) ..) ?_
 refine .st (aBin_leq ..) ?_
 refine .bg (fun t (y:Bool)=>∃ j3 j4 j5 j6:A,t=[(bA y),j3,j4,j5,j6]) ?_ ?_
 ·refine .biH (fun hk1=>?_) (fun hk1=>?_)
  ·refine .s (A.ptr 0 2) (.s (A.imm (List.map c_S_Call a0.Calls) false) ?_)
   refine .st (len_imm (e:=62) (h1:=by kernel_rfl) ..) ?_
   refine .st (aBin_leq ..) ?_
   exact .lg ⟨_,_,_,_,rfl⟩
  exact .lg ⟨_,_,_,_,rfl⟩
 rintro _ y2 ⟨j3,j4,j5,j6,rfl⟩
 iterate 5 refine .uc ?_
 refine .bg (fun t (y:Bool)=>∃ j9 j10 j11 j12:A,t=[(bA y),j9,j10,j11,j12]) ?_ ?_
 ·refine .biH (fun hk7=>?_) (fun hk7=>?_)
  ·refine .s (A.ptr 0 3) (.s (A.imm (List.map cB a0.Order) false) ?_)
   refine .st (len_imm (e:=4) (h1:=by kernel_rfl) ..) ?_
   refine .st (aBin_leq ..) ?_
   exact .lg ⟨_,_,_,_,rfl⟩
  exact .lg ⟨_,_,_,_,rfl⟩
 rintro _ y8 ⟨j9,j10,j11,j12,rfl⟩
 iterate 5 refine .uc ?_
 exact .lv rfl
def G8 (a0:S_Replica):Option Bool:=F8 fuel0 a0
def Orc8 (C:Nat->List A->Option A):Prop:=∀ (a0:S_Replica),C 8 [(A.agg (c_S_Replica a0))]=(G8 a0).map fun y=>(bA y)
def F22 (n:Nat) (a0:(List S_Lease)) (a1:(List S_Lease)):Option Bool :=
 (bif (decide (((a0.length:Int))<=((a1.length:Int)))) then ((subI a1 0 ((a0.length:Int))).bind fun y2=>(G19 a0 y2).bind fun y3=>some y3) else (some false)).bind fun y4=>some y4
theorem T22 (C:Nat->List A->Option A) (n:Nat) (h19:Orc19 C) (a0:(List S_Lease)) (a1:(List S_Lease)):J (fun (o:R) y=>∃ v,o.1=.ret v/\snapE o.2 v=(bA y)) (evCall1 (cx C) (ec C n 8) (ey C n 8) (n+8) 22 [(A.imm (List.map c_S_Lease a0) false),(A.imm (List.map c_S_Lease a1) false)] [] 0) some (F22 n a0 a1) some:=by
 refine .lp (e22 ..) ?_
 unfold F22
 refine .st (len_imm (e:=59) (h1:=by kernel_rfl) ..) ?_
 refine .st (len_imm (e:=59) (h1:=by kernel_rfl) ..) ?_
 refine .st (aBin_leq ..) ?_
 refine .bg (fun t (y:Bool)=>∃ j5 j6 j7 j8 j9 j10:A,t=[(bA y),j5,j6,j7,j8,j9,j10]) ?_ ?_
 ·refine .biH (fun hk1=>?_) (fun hk1=>?_)
  ·refine .st (len_imm (e:=59) (h1:=by kernel_rfl) ..) ?_
   refine .bd (g:=fun (y:List S_Lease)=>(A.imm (List.map c_S_Lease y) false)) (cut_imm (e:=59) (es:=3) (f:=c_S_Lease) (l:=a1) (a:=0) (b:=(a0.length:Int)) (by kernel_rfl) (by kernel_rfl) (fun _=>rfl) (.inl ⟨rfl,rfl⟩) (.inr ⟨_,rfl⟩)) fun y2=>?_
   refine .bd (g:=fun (y:Bool)=>(bA y)) (by show C 19 [snap _ (A.imm (List.map c_S_Lease a0) false),snap _ (A.imm (List.map c_S_Lease y2) false)]=_; simp only[sn0,snM]; exact h19 a0 y2) fun y3=>?_
   exact .lg ⟨_,_,_,_,_,_,rfl⟩
  exact .lg ⟨_,_,_,_,_,_,rfl⟩
 rintro _ y4 ⟨j5,j6,j7,j8,j9,j10,rfl⟩
 iterate 7 refine .uc ?_
 exact .lv rfl
def G22 (a0:(List S_Lease)) (a1:(List S_Lease)):Option Bool:=F22 fuel0 a0 a1
def Orc22 (C:Nat->List A->Option A):Prop:=∀ (a0:(List S_Lease)) (a1:(List S_Lease)),C 22 [(A.imm (List.map c_S_Lease a0) false),(A.imm (List.map c_S_Lease a1) false)]=(G22 a0 a1).map fun y=>(bA y)
end Go.Proofs.Ytdmgdjnadbakfaa
