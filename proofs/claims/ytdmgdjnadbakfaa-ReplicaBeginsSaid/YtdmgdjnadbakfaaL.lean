/-
 The laws' arguments, read: by a tool.
-/
import Derived.Test.YtdmgdjnadbakfaaAs
import Derived.Test.YtdmgdjnadbakfaaEvLaw
namespace Go.Proofs.Ytdmgdjnadbakfaa
open Go.RowKit Go.ChangeShapes Go.WideShapes Go.ChangeAt Go.Deep
set_option linter.unusedVariables false
set_option linter.unusedSimpArgs false
set_option maxHeartbeats 4000000
set_option maxRecDepth 100000
theorem args_2 {args:Array Value} (h:args.size=2):∃ a0 a1,args=#[a0,a1]:=by
 match args,h with | ⟨[a0,a1]⟩,_=>exact⟨a0,a1,rfl⟩
mutual
def ok_S_Value:S_Value->Prop
 | .mk Kind N S L=>(In64 Kind/\In64 N/\(S.size<=maxL)/\L.length<=maxL)/\oks_S_Value L
def oks_S_Value:List S_Value->Prop
 | []=>True
 | x :: r=>ok_S_Value x/\oks_S_Value r
end
theorem oksq_S_Value:∀ (l:List S_Value),oks_S_Value l↔∀ z∈l,ok_S_Value z
 | []=>by rw[oks_S_Value]; simp
 | x :: r=>by rw[oks_S_Value,oksq_S_Value r]; simp
theorem okq_S_Value (x:S_Value):ok_S_Value x↔In64 x.Kind/\In64 x.N/\(x.S.size<=maxL)/\(x.L.length<=maxL/\∀ z∈x.L,ok_S_Value z):=by
 cases x
 rw[ok_S_Value,oksq_S_Value]
 simp only[and_assoc]
def ok_S_Lease (x:S_Lease):Prop:=In64 x.No/\In64 x.Holder/\In64 x.Until
def ok_S_Call (x:S_Call):Prop:=In64 x.Bar/\In64 x.Program
def ok_S_Replica (x:S_Replica):Prop:=In64 x.Self/\(x.Leases.length<=maxL/\∀ z∈x.Leases,ok_S_Lease z)/\(x.Calls.length<=maxL/\∀ z∈x.Calls,ok_S_Call z)/\(x.Order.length<=maxL)
theorem rd_59:RdT Try.prog 59 c_S_Lease ok_S_Lease:=RdT.of (readsA_struct (fs:=#[Field.mk "No" 3 0 false "" "" 0,Field.mk "Holder" 3 1 false "" "" 8,Field.mk "Until" 3 2 false "" "" 16]) (Ts:=[_,_,_]) (by kernel_rfl) (by kernel_rfl) ⟨(rd_int (by kernel_rfl)),(rd_int (by kernel_rfl)),(rd_int (by kernel_rfl)),trivial⟩) fun l h=>by
 obtain ⟨_,_,rfl,⟨x0,rfl,h0⟩,_,_,rfl,⟨x1,rfl,h1⟩,_,_,rfl,⟨x2,rfl,h2⟩,rfl⟩:=h
 exact⟨⟨x0,x1,x2⟩,by simp[c_S_Lease,cI,cB,cS,cL,c_S_Value,c_S_Lease,c_S_Call,c_S_Replica,c_S_replica_entry,c_S_codec_reader,c_A2_struct_S_Replica,c_A2_int_i64,c_A2_list_struct_S_Call,c_S_Pair,c_S_Deed,c_A4_bool],h0,h1,h2⟩
theorem rd_62:RdT Try.prog 62 c_S_Call ok_S_Call:=RdT.of (readsA_struct (fs:=#[Field.mk "Bar" 3 0 false "" "" 0,Field.mk "Program" 3 1 false "" "" 8]) (Ts:=[_,_]) (by kernel_rfl) (by kernel_rfl) ⟨(rd_int (by kernel_rfl)),(rd_int (by kernel_rfl)),trivial⟩) fun l h=>by
 obtain ⟨_,_,rfl,⟨x0,rfl,h0⟩,_,_,rfl,⟨x1,rfl,h1⟩,rfl⟩:=h
 exact⟨⟨x0,x1⟩,by simp[c_S_Call,cI,cB,cS,cL,c_S_Value,c_S_Lease,c_S_Call,c_S_Replica,c_S_replica_entry,c_S_codec_reader,c_A2_struct_S_Replica,c_A2_int_i64,c_A2_list_struct_S_Call,c_S_Pair,c_S_Deed,c_A4_bool],h0,h1⟩
theorem rd_26:RdT Try.prog 26 c_S_Replica ok_S_Replica:=RdT.of (readsA_struct (fs:=#[Field.mk "Self" 3 0 false "" "" 0,Field.mk "Leases" 22 1 false "" "" 8,Field.mk "Calls" 23 2 false "" "" 32,Field.mk "Order" 24 3 false "" "" 56]) (Ts:=[_,_,_,_]) (by kernel_rfl) (by kernel_rfl) ⟨(rd_int (by kernel_rfl)),(rd_slice (e:=59) (es:=3) (c:=c_S_Lease) (by kernel_rfl) (by kernel_rfl) (by decide) (fun _=>rfl) rd_59),(rd_slice (e:=62) (es:=2) (c:=c_S_Call) (by kernel_rfl) (by kernel_rfl) (by decide) (fun _=>rfl) rd_62),(rd_slice0 (e:=4) (es:=1) (c:=cB) (by kernel_rfl) (by kernel_rfl) (by decide) (fun _=>rfl) (rd_bool (by kernel_rfl))),trivial⟩) fun l h=>by
 obtain ⟨_,_,rfl,⟨x0,rfl,h0⟩,_,_,rfl,⟨x1,rfl,h1⟩,_,_,rfl,⟨x2,rfl,h2⟩,_,_,rfl,⟨x3,rfl,h3⟩,rfl⟩:=h
 exact⟨⟨x0,x1,x2,x3⟩,by simp[c_S_Replica,cI,cB,cS,cL,c_S_Value,c_S_Lease,c_S_Call,c_S_Replica,c_S_replica_entry,c_S_codec_reader,c_A2_struct_S_Replica,c_A2_int_i64,c_A2_list_struct_S_Call,c_S_Pair,c_S_Deed,c_A4_bool],h0,h1,h2,h3⟩
def Pure5:Prop:=∀ (a0:S_Replica) (a1:Int),ok_S_Replica a0->InU16 a1->G5 a0 a1=some true
theorem walk5 (hp:Pure5) (W:World) (base:Nat) (args:Array Value) {H:Type} {enc:TypeId×Value->H} (hg:Given enc Try.prog W base Try.f5.params args) (hl:∀ (G:Nat) (vs:List Value),(cx C0).glob G=some vs->∀ (j:Nat) (v:Value),vs[j]? = some v->W.cell? ⟨G,j,none⟩=some v) :
  Calls Try.prog 5 args W fun e W'=>e=.returned (.bool true)/\Below W.heap.size W W':=by
 obtain ⟨v0,v1,rfl⟩:=args_2 hg.1
 obtain ⟨a0,b0,w0⟩:=gv_struct hg 0 rfl rfl (fs:=#[Field.mk "Self" 3 0 false "" "" 0,Field.mk "Leases" 22 1 false "" "" 8,Field.mk "Calls" 23 2 false "" "" 32,Field.mk "Order" 24 3 false "" "" 56]) (by kernel_rfl) rd_26
 obtain ⟨a1,b1,w1⟩:=gv_u16 hg 1 rfl rfl (by kernel_rfl)
 refine law_ev (glob:=(cx C0).glob) (ok5 _ _ ((orcOf_eq _ ix5 (a0,a1)).trans (by simp only[hp a0 a1 b0 b1]; rfl))) hl ?_
 exact VRs_cons w0 (VRs_cons w1 (by rw[VRs]))
end Go.Proofs.Ytdmgdjnadbakfaa
