/-
 The frame of a law's proof: from a walk ('the call returns true and leaves what was there as it was') to the given row. And how arguments that came in are read as plain data.
-/
import Derived.Test.YtdmgdjnadbakfaaGrow
import Derived.ProofKit
import Derived.OpenShut
import Derived.ChangeOld
import Derived.Carry
namespace Go.Proofs.Ytdmgdjnadbakfaa
open Go.RowKit Go.ChangeShapes Go.WideShapes Go.ChangeAt Go.Deep
theorem nX {H:Type} {enc:TypeId×Value->H} {P:Program} (hl:laidOutB P=true) {W W':World} (hb:Below W.heap.size W W') :
  ∀ (ts:List TypeId) (vs:List Value) (ds:List (DataW H)) (ps:List MemPlace),ts.all (fun t=>P.readableRec t&&decide (t<P.types.size))=true ->
   DataW.TrodAll enc P W 0 (fun _=>true) true ts vs ds ps->DataW.TrodAll enc P W' 0 (fun b=>decide (b<W.heap.size)) true ts vs ds ps
 | [],[],[],ps,_,h=>h
 | t :: ts,v :: vs,d :: ds,ps,hr,h=>by
  obtain ⟨p,q,h1,h2,rfl⟩:=h
  simp only[List.all_cons,Bool.and_eq_true,decide_eq_true_eq] at hr
  have lt:∀ x∈p,x.block<W.heap.size:=by obtain ⟨m,hm⟩:=h1; exact DataW.trod_lt m _ _ _ hm
  exact⟨p,q,Below.trod hl hr.1.1 hr.1.2 h1 hb lt,nX hl hb ts vs ds q hr.2 h2,rfl⟩
 | [],_ :: _,_,_,_,h=>h.elim
 | [],[],_ :: _,_,_,h=>h.elim
 | _ :: _,[],_,_,_,h=>h.elim
 | _ :: _,_ :: _,[],_,_,h=>h.elim
theorem nm {H:Type} {enc:TypeId×Value->H} {P:Program} {W:World} {base:Nat} {sp:Nat->Bool} {held:Bool} :
  ∀ (ts:List TypeId) (vs:List Value) (ds:List (DataW H)) (ps:List MemPlace),DataW.TrodAll enc P W base sp held ts vs ds ps->vs.length=ts.length/\ds.length=ts.length
 | [],[],[],_,_=>⟨rfl,rfl⟩
 | t :: ts,v :: vs,d :: ds,ps,h=>by
  obtain ⟨p,q,_,h2,_⟩:=h
  have:=nm ts vs ds q h2
  simp[this.1,this.2]
 | [],_ :: _,_,_,h=>h.elim
 | [],[],_ :: _,_,h=>h.elim
 | _ :: _,[],_,_,h=>h.elim
 | _ :: _,_ :: _,[],_,h=>h.elim
theorem qw {H:Type} {enc:TypeId×Value->H} {P:Program} {W:World} {base:Nat} {sp:Nat->Bool} {held:Bool} :
  ∀ (ts:List TypeId) (vs:List Value) (ds:List (DataW H)) (ps:List MemPlace),DataW.TrodAll enc P W base sp held ts vs ds ps ->
   ∀ (j:Nat) (t:TypeId) (v:Value),ts[j]? = some t->vs[j]? = some v->∃ d p,DataW.Trod enc P W base sp held t v d p
 | t :: ts,v :: vs,d :: ds,ps,h,j,t',v',hj,hv=>by
  obtain ⟨p,q,h1,h2,_⟩:=h
  cases j with
  | zero=>cases hj; cases hv; exact⟨d,p,h1⟩
  | succ j=>exact qw ts vs ds q h2 j t' v' hj hv
 | [],[],[],_,_,_,_,_,hj,_=>by simp at hj
 | [],_ :: _,_,_,h,_,_,_,_,_=>h.elim
 | [],[],_ :: _,_,h,_,_,_,_,_=>h.elim
 | _ :: _,[],_,_,h,_,_,_,_,_=>h.elim
 | _ :: _,_ :: _,[],_,h,_,_,_,_,_=>h.elim
def tu {H:Type} (enc:TypeId×Value->H) (P:Program) (W:World) (base:Nat) (ts:Array TypeId) (args:Array Value):Prop :=
 args.size=ts.size/\∀ (j:Nat) t v,ts[j]? = some t->args[j]? = some v->Value.okWide P W .any base t v/\∃ d p,DataW.Trod enc P W 0 (fun _=>true) true t v d p
theorem vx {H:Type} {enc:TypeId×Value->H} {P:Program} {f:Nat} {fn:Func} {s:ChangeSpec} {tb:TypeId} (hv:s.vars=[]) (hres:fn.resultTypes=#[tb]) (htb:P.underlying tb=some .bool)
  (hl:laidOutB P=true) (hread:fn.params.toList.all (fun t=>P.readableRec t&&decide (t<P.types.size))=true)
  (hs:∀ ds:List (DataW H),ds.length=fn.params.size->s.fn H ds={ results:=[.lit (.bool true)],args:=ds })
  (W:World) (base:Nat) (args:Array Value) (ds gs:List (DataW H)) (before:List MemPlace)
  (hval:∀ (j:Nat) t v,fn.params[j]? = some t->args[j]? = some v->Value.okWide P W .any base t v)
  (hW:DataW.Whole enc P fn.params.toList s.vars false W args.toList ds gs before)
  (walk:tu enc P W base fn.params args->Calls P f args W fun e W'=>e=.returned (.bool true)/\Below W.heap.size W W') :
  Calls P f args W fun e W'=>∃ v,e=.returned v/\s.post enc P fn false true false false W args v W':=by
 have hW':=hW
 obtain ⟨p,q,hA,hV,rfl,hfz,hnd⟩:=hW
 rw[hv] at hV
 obtain ⟨rfl,rfl⟩:=trodVars_none hV
 have hlen:=nm _ _ _ _ hA
 refine(walk ⟨by simpa using hlen.1,fun j t v hj hv=>⟨hval j t v hj hv,?_⟩⟩).mono fun e W' ⟨he,bel⟩=>?_
 ·exact qw _ _ _ _ hA j t v (by simpa using hj) (by simpa using hv)
 ·subst he
  have e1:s.fn H (ds++[])={ results:=[.lit (.bool true)],args:=ds }:=by rw[List.append_nil]; exact hs ds (by simpa using hlen.2)
  refine⟨_,rfl,ds,[],_,[],p,[],hW',?_,?_,?_,bel.frame _,fun h=>by cases h⟩
  ·rw[e1,hres]
   exact trodAll_mk1 (shut_bool htb _)
  ·rw[e1]
   exact nX hl bel _ _ _ _ hread hA
  ·rw[e1,hv]; exact rfl
theorem A3 {H:Type} {enc:TypeId×Value->H} {P:Program} {W:World} {base:Nat} {ts:Array TypeId} {args:Array Value} (h:tu enc P W base ts args) (j:Nat) {t:TypeId} {v:Value} (hj:ts[j]? = some t) (hv:args[j]? = some v) (ht:P.underlying t=some (.int .i64)) :
  ∃ n:Int,v=.int .i64 n/\-9223372036854775808<=n/\n<=9223372036854775807:=by
 obtain ⟨ok,d,p,htr⟩:=h.2 j t v hj hv
 obtain ⟨n,rfl,rfl,rfl,hw⟩:=open_int ht ok htr
 exact⟨n,rfl,(bounds_i64 hw).1,(bounds_i64 hw).2⟩
end Go.Proofs.Ytdmgdjnadbakfaa
